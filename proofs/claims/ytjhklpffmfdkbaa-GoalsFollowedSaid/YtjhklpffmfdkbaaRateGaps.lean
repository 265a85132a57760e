/- The walks over pileref1.gaps and GapOf. Condition: times without error; gaps begun at most a second behind. -/
import Derived.Test.YtjhklpffmfdkbaaRateGap
import Derived.Test.YtjhklpffmfdkbaaPairs
namespace Go.Proofs.Ytjhklpffmfdkbaa
open Go.RowKit
set_option linter.unusedVariables false

theorem gapsL_drop (begun : Int) (l r : List Int) (f : Int) (k : Nat) (h : k < l.length) : gapsL begun f (l.drop k ++ r) = (f, l[k]) :: gapsL begun (l[k] + begun) (l.drop (k + 1) ++ r) := by
  rw [List.drop_eq_getElem_cons h]; rfl

set_option maxRecDepth 100000 in
set_option maxHeartbeats 4000000 in
theorem gaps_any (base : Nat) (v : Value) (l : List Int) (a to begun : Int) (w : World) (hl : IntsFrom base w v l) (ha0 : 0 ≤ a) (ha1 : a ≤ 345686400000) (hto0 : 0 ≤ to) (hto1 : to ≤ 345686400000) (hm : ∀ x ∈ l, 0 ≤ x ∧ x ≤ 345686400000) (hn : l.length ≤ 2000) (hb0 : 0 ≤ begun) (hb1 : begun ≤ 1000) :
    Calls Try.prog 67 #[v, .agg #[.int .i64 a, .int .i64 to], .int .i64 begun] w fun r w' => ∃ u, r = .returned u ∧ WinsFrom (w.heap.size + 1) w' u (gapsL begun a (l ++ [to])) ∧ w.grownBy w' none := by
  obtain ⟨i0, hi, hz0, hz1, hz2⟩ := info_parts winInfo
  have hx0 := Blk.new w 27 #[.int .i64 a, .int .i64 to]
  have HL := Lib.hid (hl.grown (World.grownBy_alloc w (.cells #[.int .i64 a, .int .i64 to] 27) none))
  have HM := Lib.hid hm
  obtain ⟨A, c, rfl, hlen, hA⟩ := hl.shape
  have HA := Lib.hid hA
  have hG := World.grownBy_alloc w (.cells #[.int .i64 a, .int .i64 to] 27) none
  have HR0 : Hid (gapsL begun a (l ++ [to]) = [] ++ gapsL begun a (l.drop 0 ++ [to])) := rfl
  have hsz : (w.alloc (.cells #[.int .i64 a, .int .i64 to] 27)).heap.size = w.heap.size + 1 := by simp
  clear hl hm hA
  go_enter Try.func67, Try.ntmps67
  go_wp2_with fail
  generalize w.alloc (.cells #[.int .i64 a, .int .i64 to] 27) = W at *
  go_loopw [7, 8, 15] (fun f o i wr => ∃ (k : Nat) (f' : Int) (out : List (Int × Int)), k ≤ l.length ∧ i = .int .i64 k ∧ f = .int .i64 f' ∧ 0 ≤ f' ∧ f' ≤ 345686401000 ∧ out.length = k ∧ Hid (gapsL begun a (l ++ [to]) = out ++ gapsL begun f' (l.drop k ++ [to])) ∧ WinsFrom (w.heap.size + 1) wr o out ∧ W.grownBy wr none) (fun _ _ i _ => l.length - (intOf i).toNat)
  case atStart => exact ⟨0, a, [], by omega, rfl, rfl, by omega, by omega, rfl, HR0, WinsFrom.nil _ _, gr_refl _ _⟩
  case round =>
    obtain ⟨k, f, out, hk, rfl, rfl, hf0, hf1, hol, HR, hown, hgr⟩ := hrel
    obtain ⟨A2, c2, rfl, hlen2, _⟩ := hown.shape
    subst hol
    have hmx : out.length + 1 ≤ 2001 := by omega
    by_cases hlt : out.length < l.length
    · obtain ⟨g, rfl, _, _⟩ := HA.out (by omega)
      have hkl : (out.length : Int) < (l.length : Int) := by omega
      have cx := (HL.out.grown hgr).at_ out.length hlt
      have hs := gapsL_drop begun l [to] f out.length hlt
      have hxm := HM.out l[out.length] (List.getElem_mem hlt)
      obtain ⟨x, hx⟩ : ∃ x, x = l[out.length] := ⟨_, rfl⟩
      rw [← hx] at cx hs hxm
      have HN : Hid (gapsL begun a (l ++ [to]) = (out ++ [(f, x)]) ++ gapsL begun (x + begun) (l.drop (out.length + 1) ++ [to])) := by show _ = _; rw [HR.out, hs]; simp
      have hwl : (wcells out).length = out.length * 2 := wcells_len out
      have hown1 : wr.ownsRow (w.heap.size + 1) 27 2 (.slice A2 out.length c2) out.length (wcells out) := hown
      have hsz2 := hgr.size
      clear hx hs HR hown
      go_wp2_with (at_builtin; refine wpList_append_own _ rfl _ _ 63 rfl (w.heap.size + 1) 27 i0 _ 2 16 Try.underlying63 hi hz0 hz1 hz2 rfl (by decide) _ _ _ rfl (hown1.alloc _) ⟨wr.heap.size, 0, none⟩ 1 1 [.int .i64 f, .int .i64 x] rfl rfl (two_cells wr f x _) (two_oneCell f x) (by unfold maxLen; omega) (by omega) (by simp; omega) ?_; intro v' w2 hown2 hgrow2 _)
      have hg3 : W.grownBy w2 none := gr_grown (gr_alloc hgr _) hgrow2 (fun k hk => .inr (by have := (hown1.lt k hk).1; omega))
      have hown3 : WinsFrom (w.heap.size + 1) w2 v' (out ++ [(f, x)]) := by
        unfold WinsFrom; rw [wcells_snoc, List.length_append]; exact hown2
      go_wp2_with fail
      go_roundw
      case rel => exact ⟨out.length + 1, x + begun, out ++ [(f, x)], by omega, by go_num, rfl, by omega, by omega, by simp, HN, hown3, hg3⟩
      case measure => simp [intOf]; omega
    · have hkl : ¬ (out.length : Int) < (l.length : Int) := by omega
      have hd : l.drop out.length = [] := List.drop_eq_nil_of_le (by omega)
      have HN : Hid (gapsL begun a (l ++ [to]) = out ++ [(f, to)]) := by show _ = _; rw [HR.out, hd]; rfl
      have cto : wr.cell? ⟨w.heap.size, 1, none⟩ = some (.int .i64 to) := (hx0.grown hgr (by simp)).cell 1
      have hwl : (wcells out).length = out.length * 2 := wcells_len out
      have hown1 : wr.ownsRow (w.heap.size + 1) 27 2 (.slice A2 out.length c2) out.length (wcells out) := hown
      have hsz2 := hgr.size
      clear HR hown hd
      go_wp2_with (at_builtin; refine wpList_append_own _ rfl _ _ 63 rfl (w.heap.size + 1) 27 i0 _ 2 16 Try.underlying63 hi hz0 hz1 hz2 rfl (by decide) _ _ _ rfl (hown1.alloc _) ⟨wr.heap.size, 0, none⟩ 1 1 [.int .i64 f, .int .i64 to] rfl rfl (two_cells wr f to _) (two_oneCell f to) (by unfold maxLen; omega) (by omega) (by simp; omega) ?_; intro v' w2 hown2 hgrow2 _)
      have hg3 : W.grownBy w2 none := gr_grown (gr_alloc hgr _) hgrow2 (fun k hk => .inr (by have := (hown1.lt k hk).1; omega))
      have hown3 : WinsFrom (w.heap.size + 1) w2 v' (out ++ [(f, to)]) := by
        unfold WinsFrom; rw [wcells_snoc, List.length_append]; exact hown2
      go_wp2_with fail
      go_ret
      rw [HN.out]
      exact ⟨_, rfl, hown3, gr_trans hG hg3⟩

theorem gapsL_mem (begun lo hi : Int) : ∀ (l : List Int) (f : Int), lo ≤ f → f ≤ hi → (∀ x ∈ l, lo ≤ x ∧ x + begun ≤ hi) → 0 ≤ begun → ∀ p ∈ gapsL begun f l, lo ≤ p.1 ∧ p.1 ≤ hi ∧ lo ≤ p.2 ∧ p.2 ≤ hi
  | [], _, _, _, _, _, p, hp => by simp [gapsL] at hp
  | x :: r, f, h1, h2, h3, h4, p, hp => by
    have hx := h3 x (by simp)
    simp only [gapsL, List.mem_cons] at hp
    rcases hp with rfl | hp
    · exact ⟨h1, h2, hx.1, by show x ≤ hi; omega⟩
    · exact gapsL_mem begun lo hi r (x + begun) (by omega) (by omega) (fun y hy => h3 y (by simp [hy])) h4 p hp
theorem gapsL_len (begun : Int) : ∀ (l : List Int) (f : Int), (gapsL begun f l).length = l.length
  | [], _ => rfl
  | x :: r, f => by simp [gapsL, gapsL_len begun r]
end Go.Proofs.Ytjhklpffmfdkbaa
