/- The walk over the stream's RightTimes: times without error, and a contest of at most 30 000 000 milliseconds. Condition: the stream has handed out at most 10^9 numbers. -/
import Derived.Test.YtnapbnkbchaanaaGreatDoorTimes
import Derived.Test.YtnapbnkbchaanaaGreatDoorRateA
namespace Go.Proofs.YtnapbnkbchaanaaGreatDoor
open Go.RowKit
set_option linter.unusedVariables false

theorem IntsFrom.other' {base b : Nat} {w w' : World} {v : Value} {l : List Int} (h : IntsFrom base w v l) (hg : w.grownBy w' (some b)) (hb : v.ownBlock = none ∨ v.ownBlock ≠ some b) : IntsFrom base w' v l := World.ownsRow.kept h hg hb
theorem Blk.ne_ints {base g : Nat} {w : World} {v : Value} {l : List Int} {a0 a1 : Value} (h : Blk w g 71 #[a0, a1]) (hl : IntsFrom base w v l) : v.ownBlock = none ∨ v.ownBlock ≠ some g := by
  rcases hl.2 with ⟨rfl, _⟩ | ⟨g', cap, cur, rfl, _, hh, _⟩
  · exact .inl rfl
  · refine .inr fun e => ?_
    simp only [Value.ownBlock, Option.some.injEq] at e
    subst e
    unfold Blk at h
    rw [hh] at h
    injection h with h
    injection h with _ h4
    exact absurd h4 (by decide)

def RightTimesPost (b k : Nat) (w : World) (e : Ending) (w' : World) : Prop :=
  ∃ (v : Value) (l : List Int) (a z : Int), e = .returned (.tuple #[v, .agg #[.int .i64 a, .int .i64 z]]) ∧ IntsFrom w.heap.size w' v l ∧ l.length ≤ 20 ∧ timesE l a z = 0 ∧ z ≤ 30000000 ∧ Str w' b (k + 240) ∧ w.grownBy w' (some b)

set_option maxRecDepth 100000 in
set_option maxHeartbeats 2000000 in
theorem rightTimes_in (b k : Nat) (w : World) (hs : Str w b k) (hk : k ≤ 1000000000) :
    Calls Tryz.prog 43 #[.pointer (some ⟨b, 0, none⟩)] w (RightTimesPost b k w) := by
  have hbs := hs.lt
  go_enter Tryz.func43, Tryz.ntmps43
  go_wp2_with fail
  go_loopw [6] (fun i wr => ∃ j : Nat, j ≤ 6 ∧ i = .int .i64 j ∧ Str wr b (k + 40 * j) ∧ Blk wr w.heap.size 71 #[.int .i64 0, .int .i64 0] ∧ w.grownBy wr (some b)) (fun i _ => 6 - (intOf i).toNat)
  case atStart => exact ⟨0, by omega, rfl, hs.alloc _, Blk.new _ _ _, World.grownBy_alloc w _ _⟩
  case round =>
    obtain ⟨j, hj, rfl, hsr, hB, hG⟩ := hrel
    by_cases hlt : j < 6
    · have hlt2 : (j : Int) < 6 := by omega
      go_wp2_with fail
      refine (timesOf_in b _ _ hsr (by omega)).mono ?_
      rintro _ w1 ⟨v, l, a, z, rfl, hv, hlen, ha0, ha1, hz0, hz1, hs1, hg⟩
      have hgw : w.heap.size ≤ wr.heap.size := hG.size
      replace hB := hB.grown hg (by simp; omega)
      replace hG := gr_trans hG hg
      have hX := Blk.new w1 71 #[.int .i64 a, .int .i64 z]
      have hzr := hG.size
      clear hg
      go_wp2_with fail
      have hv1 : IntsFrom w.heap.size (w1.alloc (.cells #[.int .i64 a, .int .i64 z] 71)) v l := ownsRow_low (ownsRow_grown hv (World.grownBy_alloc w1 _ none)) hgw
      have hB1 := hB.alloc (.cells #[.int .i64 a, .int .i64 z] 71)
      have hs2 := hs1.alloc (.cells #[.int .i64 a, .int .i64 z] 71)
      have hG1 := gr_alloc hG (.cells #[.int .i64 a, .int .i64 z] 71)
      have hBX := hB.lt
      have HV := Lib.hid hv1
      clear hv hv1 hB hs1 hG hsr
      generalize w1.alloc (.cells #[.int .i64 a, .int .i64 z] 71) = W at *
      refine (timesFault_any w.heap.size v l a z _ HV.out).mono ?_
      rintro _ w2 ⟨rfl, hg⟩
      replace hB1 := hB1.grown hg (by simp)
      replace hs2 := hs2.grown hg (by simp)
      replace hG1 := gr_trans hG1 (gr_weak hg (some b))
      have hX2 := hX.grown hg (by simp)
      have HV2 := Lib.hid (HV.out.grown hg)
      obtain ⟨x0, x1⟩ := hX2.cells2
      obtain ⟨d0, d1⟩ := hB1.cells2
      have hf := hB1.free
      by_cases hE : timesE l a z = 0
      · have HE := Lib.hid hE
        have ht : (timesE l a z == 0) = true := by simpa using hE
        clear hE hg
        go_wp2_with fail
        go_region
        go_wp2_with fail
        obtain ⟨e0, e1⟩ := (hB1.put01 (.int .i64 a) (.int .i64 z)).cells2
        refine bodyPost_ret (v := .tuple #[v, .agg #[.int .i64 a, .int .i64 z]]) (by simp [results, Tryz.results43, go_sem, e0, e1]) rfl ?_
        have hz30 : z ≤ 30000000 := by have := (timesE_ok HE.out).to_; omega
        have hP : ∀ W' : World, w2.grownBy W' (some w.heap.size) → RightTimesPost b k w (.returned (.tuple #[v, .agg #[.int .i64 a, .int .i64 z]])) W' := fun W' hW =>
          ⟨v, l, a, z, rfl, HV2.out.other' hW (hB1.ne_ints HV2.out), hlen, HE.out, hz30, (hs2.grown hW (fun g e => by injection e with e; omega)).mono (by omega), gr_grown hG1 hW (fun g e => by injection e with e; exact .inr (by omega))⟩
        exact hP _ (by repeat (first | exact gr_refl _ _ | refine gr_drew ?_ | refine gr_put ?_ (.inl rfl) _))
      · have ht : (timesE l a z == 0) = false := by simpa using hE
        clear hE hg
        go_wp2_with fail
        go_roundw
        case rel => exact ⟨j + 1, by omega, by go_num, hs2.mono (by omega), hB1, hG1⟩
        case measure => simp [intOf]; omega
    · obtain rfl : j = 6 := by omega
      obtain ⟨d0, d1⟩ := hB.cells2
      have hf := hB.free
      have hBl := hB.lt
      go_wp2_with fail
      obtain ⟨e0, e1⟩ := (hB.put01 (.int .i64 0) (.int .i64 3600000)).cells2
      refine bodyPost_ret (v := .tuple #[.slice none 0 0, .agg #[.int .i64 0, .int .i64 3600000]]) (by simp [results, Tryz.results43, go_sem, e0, e1]) rfl ?_
      have hW : wr.grownBy ((wr.setCell ⟨w.heap.size, 0, none⟩ (.int .i64 0)).setCell ⟨w.heap.size, 1, none⟩ (.int .i64 3600000)) (some w.heap.size) := by repeat (first | exact gr_refl _ _ | refine gr_put ?_ (.inl rfl) _)
      exact ⟨_, [], 0, 3600000, rfl, IntsFrom.nil _ _, by decide, by decide, by decide, hsr.grown hW (fun g e => by injection e with e; omega), gr_grown hG hW (fun g e => by injection e with e; exact .inr (by omega))⟩
end Go.Proofs.YtnapbnkbchaanaaGreatDoor
