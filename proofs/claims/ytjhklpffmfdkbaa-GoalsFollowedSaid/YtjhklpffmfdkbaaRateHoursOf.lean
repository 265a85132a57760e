/- The walk over pileref1.HoursOf. Condition: times without error, at most 1000 hours. -/
import Derived.Test.YtjhklpffmfdkbaaRateGapOf
namespace Go.Proofs.Ytjhklpffmfdkbaa
open Go.RowKit
set_option linter.unusedVariables false

theorem hourL_len (l : List Int) (to : Int) : ∀ (n : Nat) (f : Int), (hourL l to n f).length = n
  | 0, _ => rfl
  | n + 1, f => by simp [hourL, hourL_len l to n]
theorem hours_eq (a to : Int) (h : a < to) : ∃ n : Nat, (hoursI a to).toNat = n ∧ hoursI a to = n ∧ a + 3600000 * (n : Int) - 3600000 < to ∧ to ≤ a + 3600000 * (n : Int) := by
  refine ⟨(hoursI a to).toNat, rfl, ?_⟩
  unfold hoursI
  omega

set_option maxRecDepth 100000 in
set_option maxHeartbeats 4000000 in
theorem hoursOf_ok (base : Nat) (v : Value) (l : List Int) (a to : Int) (w : World) (hl : IntsFrom base w v l) (hE : timesE l a to = 0) (hh : hoursI a to ≤ 1000) :
    Calls Try.prog 20 #[v, .agg #[.int .i64 a, .int .i64 to]] w fun r w' => ∃ u, r = .returned u ∧ IntsFrom (w.heap.size + 1) w' u (hourAll l a to) ∧ w.grownBy w' none := by
  have O := timesE_ok hE
  have hto := O.to_
  have ha0 := O.a0
  have hato := O.ato
  have hll := O.len
  obtain ⟨N, hN1, hN2, hN3, hN4⟩ := hours_eq a to hato
  obtain ⟨i0, hi, hz0, hz1, hz2⟩ := info_parts intInfo
  have hx0 := Blk.new w 27 #[.int .i64 a, .int .i64 to]
  have hG := World.grownBy_alloc w (.cells #[.int .i64 a, .int .i64 to] 27) none
  have HL := Lib.hid (hl.grown hG)
  have hsz : (w.alloc (.cells #[.int .i64 a, .int .i64 to] 27)).heap.size = w.heap.size + 1 := by simp
  have HR0 : Hid (hourAll l a to = [] ++ hourL l to N a) := by show _ = _; unfold hourAll; rw [hN1]; rfl
  have hN5 : N ≤ 1000 := by omega
  clear hl O hN1 hN2 hh
  go_enter Try.func20, Try.ntmps20
  go_wp2_with fail
  generalize w.alloc (.cells #[.int .i64 a, .int .i64 to] 27) = W at *
  go_loopw [5, 6] (fun o f wr => ∃ (n : Nat) (f' : Int) (out : List Int), f = .int .i64 f' ∧ a ≤ f' ∧ f' + 3600000 * (n : Int) - 3600000 < to ∧ to ≤ f' + 3600000 * (n : Int) ∧ out.length + n ≤ 1000 ∧ Hid (hourAll l a to = out ++ hourL l to n f') ∧ IntsFrom (w.heap.size + 1) wr o out ∧ W.grownBy wr none) (fun _ f _ => (to - intOf f).toNat)
  case atStart => exact ⟨N, a, [], rfl, by omega, by omega, by omega, by simp; omega, HR0, IntsFrom.nil _ _, gr_refl _ _⟩
  case round =>
    obtain ⟨n, f, out, rfl, hf0, hf1, hf2, hol, HR, hown, hgr⟩ := hrel
    obtain ⟨A2, c2, rfl, hlen2, _⟩ := hown.shape
    have hx1 := hx0.grown hgr (by simp)
    have c1 : wr.cell? ⟨w.heap.size, 1, none⟩ = some (.int .i64 to) := hx1.cell 1
    by_cases hlt : f < to
    · obtain ⟨m, rfl⟩ : ∃ m, n = m + 1 := ⟨n - 1, by omega⟩
      have HN : Hid (hourAll l a to = (out ++ [manyI l f (min (f + 3600000) to)]) ++ hourL l to m (f + 3600000)) := by show _ = _; rw [HR.out]; simp [hourL]
      have hmb := manyI_bd l f (min (f + 3600000) to)
      have hown1 : wr.ownsRow (w.heap.size + 1) 3 1 (.slice A2 out.length c2) out.length (out.map (Value.int .i64)) := hown
      clear HR hown
      go_wp2_with fail
      refine (manyIn_any base _ _ _ _ _ (HL.out.grown hgr) (by omega)).mono ?_
      rintro _ w1 ⟨rfl, hg1⟩
      have hgr1 := gr_trans hgr hg1
      have hown2 := hown1.kept hg1 (by cases (Value.slice A2 out.length c2).ownBlock <;> simp)
      have hsz2 := hgr1.size
      generalize manyI l f (min (f + 3600000) to) = x at *
      clear hown1
      go_wp2_with (at_builtin; refine wpList_append_own _ rfl _ _ 22 rfl (w.heap.size + 1) 3 i0 _ 1 8 Try.underlying22 hi hz0 hz1 hz2 rfl (by decide) _ _ _ rfl (hown2.alloc _) ⟨w1.heap.size, 0, none⟩ 1 1 [.int .i64 x] rfl rfl (one_cell w1 x _) (one_oneCell x) (by unfold maxLen; omega) (by omega) (by simp; omega) ?_; intro v' w2 hown3 hgrow2 _)
      have hg3 : W.grownBy w2 none := gr_grown (gr_alloc hgr1 _) hgrow2 (fun k hk => .inr (by have := (hown2.lt k hk).1; omega))
      have hown4 : IntsFrom (w.heap.size + 1) w2 v' (out ++ [x]) := by
        unfold IntsFrom; rw [List.map_append, List.length_append]; exact hown3
      go_wp2_with fail
      go_roundw
      case rel => exact ⟨m, f + 3600000, out ++ [x], rfl, by omega, by omega, by omega, by simp; omega, HN, hown4, hg3⟩
      case measure => simp [intOf]; omega
    · obtain rfl : n = 0 := by omega
      have HF : Hid (hourAll l a to = out) := by show _ = _; rw [HR.out]; simp [hourL]
      clear HR
      go_wp2_with fail
      go_ret
      rw [HF.out]
      exact ⟨_, rfl, hown, gr_trans hG hgr⟩
end Go.Proofs.Ytjhklpffmfdkbaa
