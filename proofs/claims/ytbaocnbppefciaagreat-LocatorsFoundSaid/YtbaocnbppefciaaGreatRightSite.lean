/- The walk over the stream's RightSite: a site without error. Condition: the stream has handed out at most 10^9 numbers. -/
import Derived.Test.YtbaocnbppefciaaGreatStreamSky
import Derived.Test.YtbaocnbppefciaaGreatSkyR
namespace Go.Proofs.YtbaocnbppefciaaGreat
open Go.RowKit
set_option linter.unusedVariables false

def RSitePost (b k : Nat) (w : World) (e : Ending) (w' : World) : Prop :=
  ∃ n v : Int, e = .returned (.agg #[.int .i64 n, .int .i64 v]) ∧ siteE n v = 0 ∧ Str w' b (k + 54) ∧ w.grownBy w' (some b)

set_option maxRecDepth 100000 in
set_option maxHeartbeats 2000000 in
theorem rightSite_in (b k : Nat) (w : World) (hs : Str w b k) (hk : k ≤ 1000000000) :
    Calls Tryz.prog 32 #[.pointer (some ⟨b, 0, none⟩)] w (RSitePost b k w) := by
  have hbs := hs.lt
  go_enter Tryz.func32, Tryz.ntmps32
  go_wp2_with fail
  go_loopw [4] (fun i wr => ∃ j : Nat, j ≤ 6 ∧ i = .int .i64 j ∧ Str wr b (k + 9 * j) ∧ Blk wr w.heap.size 27 #[.int .i64 0, .int .i64 0] ∧ w.grownBy wr (some b)) (fun i _ => 6 - (intOf i).toNat)
  case atStart => exact ⟨0, by omega, rfl, hs.alloc _, Blk.new _ _ _, World.grownBy_alloc w _ _⟩
  case round =>
    obtain ⟨j, hj, rfl, hsr, hB, hG⟩ := hrel
    by_cases hlt : j < 6
    · have hlt2 : (j : Int) < 6 := by omega
      go_wp2_with fail
      refine (siteOf_in b _ _ hsr (by omega)).mono ?_
      rintro _ w1 ⟨a, z, ha0, ha1, hz0, hz1, rfl, hs1, hg⟩
      have hgw : w.heap.size ≤ wr.heap.size := hG.size
      replace hB := hB.grown hg (by simp; omega)
      replace hG := gr_trans hG hg
      have hX := Blk.new w1 27 #[.int .i64 a, .int .i64 z]
      have hzr := hG.size
      clear hg
      go_wp2_with fail
      have hB1 := hB.alloc (.cells #[.int .i64 a, .int .i64 z] 27)
      have hs2 := hs1.alloc (.cells #[.int .i64 a, .int .i64 z] 27)
      have hG1 := gr_alloc hG (.cells #[.int .i64 a, .int .i64 z] 27)
      have hBX := hB.lt
      clear hB hs1 hG hsr
      generalize w1.alloc (.cells #[.int .i64 a, .int .i64 z] 27) = W at *
      refine (siteFault_any a z _).mono ?_
      rintro _ w2 ⟨rfl, hg⟩
      replace hB1 := hB1.grown hg (by simp)
      replace hs2 := hs2.grown hg (by simp)
      replace hG1 := gr_trans hG1 (gr_weak hg (some b))
      have hX2 := hX.grown hg (by simp)
      obtain ⟨x0, x1⟩ := hX2.cells2
      obtain ⟨d0, d1⟩ := hB1.cells2
      have hf := hB1.free
      have hz2 := hG1.size
      by_cases hE : siteE a z = 0
      · have HE := Lib.hid hE
        have ht : (siteE a z == 0) = true := by simpa using hE
        clear hE hg
        go_wp2_with fail
        obtain ⟨e0, e1⟩ := (hB1.put01 (.int .i64 a) (.int .i64 z)).cells2
        refine bodyPost_ret (v := .agg #[.int .i64 a, .int .i64 z]) (by simp [results, Tryz.results32, go_sem, e0, e1]) rfl ?_
        have hW : w2.grownBy ((w2.setCell ⟨w.heap.size, 0, none⟩ (.int .i64 a)).setCell ⟨w.heap.size, 1, none⟩ (.int .i64 z)) (some w.heap.size) := by repeat (first | exact gr_refl _ _ | refine gr_put ?_ (.inl rfl) _)
        exact ⟨a, z, rfl, HE.out, (hs2.grown hW (fun g e => by injection e with e; omega)).mono (by omega), gr_grown hG1 hW (fun g e => by injection e with e; exact .inr (by omega))⟩
      · have ht : (siteE a z == 0) = false := by simpa using hE
        clear hE hg
        go_wp2_with fail
        go_roundw
        case rel => exact ⟨j + 1, by omega, by go_num, hs2.mono (by omega), hB1, hG1⟩
        case measure => simp [intOf]; omega
    · obtain rfl : j = 6 := by omega
      obtain ⟨d0, d1⟩ := hB.cells2
      have hf := hB.free
      have hBl := hB.lt
      go_wp2_with fail
      obtain ⟨e0, e1⟩ := (hB.put01 (.int .i64 0) (.int .i64 0)).cells2
      refine bodyPost_ret (v := .agg #[.int .i64 0, .int .i64 0]) (by simp [results, Tryz.results32, go_sem, e0, e1]) rfl ?_
      have hW : wr.grownBy ((wr.setCell ⟨w.heap.size, 0, none⟩ (.int .i64 0)).setCell ⟨w.heap.size, 1, none⟩ (.int .i64 0)) (some w.heap.size) := by repeat (first | exact gr_refl _ _ | refine gr_put ?_ (.inl rfl) _)
      exact ⟨0, 0, rfl, by decide, hsr.grown hW (fun g e => by injection e with e; omega), gr_grown hG hW (fun g e => by injection e with e; exact .inr (by omega))⟩
end Go.Proofs.YtbaocnbppefciaaGreat
