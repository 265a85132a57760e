/- The walk over the reference CheapestFault. Condition: a right contest. -/
import Derived.Test.YtlbhphfmckhimaaCheapW
namespace Go.Proofs.Ytlbhphfmckhimaa
open Go.RowKit
set_option linter.unusedVariables false

theorem tmod1000 (x : Int) : IntKind.i64.wrap (x.tmod 1000) = x.tmod 1000 := by
  have hb : -1000 < x.tmod 1000 ∧ x.tmod 1000 < 1000 := by
    rcases Int.le_total 0 x with h | h
    · rw [Int.tmod_eq_emod_of_nonneg h]; omega
    · have := Int.tmod_eq_emod (a := x) (b := 1000)
      have h1 := Int.neg_tmod (a := -x) (b := 1000)
      rw [Int.neg_neg] at h1
      rw [h1, Int.tmod_eq_emod_of_nonneg (by omega)]
      omega
  rw [IntKind.wrap_i64]; omega
def cheapE (a z nd ls : Int) : Int := if 400000 < z - a then 2 else if remM a then 3 else if remM z then 3 else if remM nd then 3 else if remM ls then 3 else 0
theorem remM_no {x : Int} (h : remM x = false) (h0 : 0 ≤ x) : x % 1000 = 0 := by
  unfold remM at h
  rw [Int.tmod_eq_emod_of_nonneg h0] at h
  simpa using h
theorem cheapE_ok {a z nd ls : Int} (h : cheapE a z nd ls = 0) : ¬ 400000 < z - a ∧ remM a = false ∧ remM z = false ∧ remM nd = false ∧ remM ls = false := by
  unfold cheapE at h
  split at h
  · omega
  · rename_i h1
    cases ha : remM a <;> cases hz : remM z <;> cases hn : remM nd <;> cases hl : remM ls <;> simp_all
theorem cheapE_bd (a z nd ls : Int) : 0 ≤ cheapE a z nd ls ∧ cheapE a z nd ls ≤ 3 := by
  unfold cheapE
  repeat' split
  all_goals omega
set_option maxRecDepth 100000 in
set_option maxHeartbeats 4000000 in
theorem cheapestFault_any (a z nd ls : Int) (w : World) (h0 : 0 ≤ a) (h1 : a < z) (h2 : z ≤ 345686400000) :
    Calls Try.prog 20 #[.agg #[.int .i64 a, .int .i64 z], .agg #[.int .i64 nd, .int .i64 ls]] w fun r w' => r = .returned (.int .i64 (cheapE a z nd ls)) ∧ w.grownBy w' none := by
  have hG := gr_alloc (World.grownBy_alloc w (.cells #[.int .i64 a, .int .i64 z] 27) none) (.cells #[.int .i64 nd, .int .i64 ls] 32)
  have hx := (Blk.new w 27 #[.int .i64 a, .int .i64 z]).alloc (.cells #[.int .i64 nd, .int .i64 ls] 32)
  have hy := Blk.new (w.alloc (.cells #[.int .i64 a, .int .i64 z] 27)) 32 #[.int .i64 nd, .int .i64 ls]
  rw [World.size_alloc] at hy
  have e1 : IntKind.i64.wrap (z - a) = z - a := by rw [IntKind.wrap_i64]; omega
  have m1 := tmod1000 a
  have m2 := tmod1000 z
  have m3 := tmod1000 nd
  have m4 := tmod1000 ls
  by_cases hb : 400000 < z - a
  · have HE : Hid (cheapE a z nd ls = 2) := by show _ = _; unfold cheapE; rw [if_pos hb]
    go_enter Try.func20, Try.ntmps20
    go_upto_region 1 with fail
    generalize (w.alloc (.cells #[.int .i64 a, .int .i64 z] 27)).alloc (.cells #[.int .i64 nd, .int .i64 ls] 32) = W at *
    obtain ⟨x0, x1⟩ := hx.cells2
    obtain ⟨y0, y1⟩ := hy.cells2
    go_wp2_with fail
    go_ret
    exact ⟨ret_of HE.out.symm, hG⟩
  · have hz : ∀ x : Int, remM x = false → x.tmod 1000 = 0 := fun x h => by
      unfold remM at h
      simpa using h
    have hn : ∀ x : Int, remM x = true → ¬ x.tmod 1000 = 0 := fun x h => by
      unfold remM at h
      simpa using h
    have hway : (remM a = true ∧ cheapE a z nd ls = 3) ∨ (remM a = false ∧ remM z = true ∧ cheapE a z nd ls = 3) ∨ (remM a = false ∧ remM z = false ∧ remM nd = true ∧ cheapE a z nd ls = 3) ∨ (remM a = false ∧ remM z = false ∧ remM nd = false ∧ remM ls = true ∧ cheapE a z nd ls = 3) ∨ (remM a = false ∧ remM z = false ∧ remM nd = false ∧ remM ls = false ∧ cheapE a z nd ls = 0) := by
      unfold cheapE
      rw [if_neg hb]
      cases remM a <;> cases remM z <;> cases remM nd <;> cases remM ls <;> simp
    clear m1 m2 m3 m4 h0 h1 h2
    rcases hway with ⟨h1, hE⟩ | ⟨h1, h2, hE⟩ | ⟨h1, h2, h3, hE⟩ | ⟨h1, h2, h3, h4, hE⟩ | ⟨h1, h2, h3, h4, hE⟩
    case' inl =>
      have w1 := hn _ h1
    case' inr.inl =>
      have w1 := hz _ h1
      have w2 := hn _ h2
    case' inr.inr.inl =>
      have w1 := hz _ h1
      have w2 := hz _ h2
      have w3 := hn _ h3
    case' inr.inr.inr.inl =>
      have w1 := hz _ h1
      have w2 := hz _ h2
      have w3 := hz _ h3
      have w4 := hn _ h4
    case' inr.inr.inr.inr =>
      have w1 := hz _ h1
      have w2 := hz _ h2
      have w3 := hz _ h3
      have w4 := hz _ h4
    all_goals
      rw [hE]
      clear hE hz hn h1
      (try clear h2)
      (try clear h3)
      (try clear h4)
      go_enter Try.func20, Try.ntmps20
      go_upto_region 1 with fail
      generalize (w.alloc (.cells #[.int .i64 a, .int .i64 z] 27)).alloc (.cells #[.int .i64 nd, .int .i64 ls] 32) = W at *
      obtain ⟨x0, x1⟩ := hx.cells2
      obtain ⟨y0, y1⟩ := hy.cells2
      go_wp2_with fail
      go_ret
      exact ⟨rfl, hG⟩
end Go.Proofs.Ytlbhphfmckhimaa
