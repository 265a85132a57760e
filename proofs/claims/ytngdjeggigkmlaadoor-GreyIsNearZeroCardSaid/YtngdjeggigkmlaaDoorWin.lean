/- The walks over IsWindow, askedFault, AskedFault, and slices.Equal at windows. No condition (Equal: at equal lists). -/
import Derived.Test.YtngdjeggigkmlaaDoorWinPlain
import Derived.Test.YtngdjeggigkmlaaDoorFaults
namespace Go.Proofs.YtngdjeggigkmlaaDoor
open Go.RowKit
set_option linter.unusedVariables false

theorem askE_1 {a zt every : Int} (h : a < 0 ∨ zt < a ∨ 345686400000 < zt ∨ every < 1000 ∨ 86400000 < every) : askE a zt every = 1 := by unfold askE; rw [if_pos h]
theorem askE_2 {a zt every : Int} (h : ¬ (a < 0 ∨ zt < a ∨ 345686400000 < zt ∨ every < 1000 ∨ 86400000 < every)) (h2 : 20000 < (zt - a + every - 1) / every) : askE a zt every = 2 := by unfold askE; rw [if_neg h, if_pos h2]
theorem askE_0 {a zt every : Int} (h : ¬ (a < 0 ∨ zt < a ∨ 345686400000 < zt ∨ every < 1000 ∨ 86400000 < every)) (h2 : ¬ 20000 < (zt - a + every - 1) / every) : askE a zt every = 0 := by unfold askE; rw [if_neg h, if_neg h2]

def isWinB (a zt : Int) : Bool := decide (0 ≤ a ∧ a ≤ zt ∧ zt ≤ 345686400000)

set_option maxHeartbeats 400000 in
theorem isWindow_any (a zt : Int) (w : World) :
    Calls Tryd.prog 59 #[.agg #[.int .i64 a, .int .i64 zt]] w fun r w' => r = .returned (.bool (isWinB a zt)) ∧ w.grownBy w' none := by
  rcases hb : outB a 0 zt
  · have h1 : 0 ≤ a ∧ a ≤ zt := by unfold outB at hb; simp at hb; omega
    have HE : Hid (isWinB a zt = decide (zt ≤ 345686400000)) := by show _ = _; unfold isWinB; simp [h1]
    go_enter Tryd.func59, Tryd.ntmps59
    go_wp2_with fail
    refine (outside_any _ _ _ _).mono ?_
    rintro r w' ⟨rfl, rfl⟩
    go_wp2_with fail
    go_ret
    exact ⟨ret_b HE.out.symm, gr_alloc (gr_refl _ _) _⟩
  · have h1 : ¬ (0 ≤ a ∧ a ≤ zt) := by unfold outB at hb; simp at hb; omega
    have HE : Hid (isWinB a zt = false) := by show _ = _; unfold isWinB; simp; omega
    go_enter Tryd.func59, Tryd.ntmps59
    go_wp2_with fail
    refine (outside_any _ _ _ _).mono ?_
    rintro r w' ⟨rfl, rfl⟩
    go_wp2_with fail
    go_ret
    exact ⟨ret_b HE.out.symm, gr_alloc (gr_refl _ _) _⟩

set_option maxHeartbeats 1000000 in
theorem askedFault_any (a zt every : Int) (w : World) :
    Calls Tryd.prog 40 #[.agg #[.int .i64 a, .int .i64 zt], .int .i64 every] w fun r w' => r = .returned (.int .i64 (askE a zt every)) ∧ w.grownBy w' none := by
  by_cases h1 : 0 ≤ a ∧ a ≤ zt ∧ zt ≤ 345686400000
  · have hw : isWinB a zt = true := by unfold isWinB; simp [h1]
    obtain ⟨g1, g2, g3⟩ := h1
    by_cases h2 : 1000 ≤ every ∧ every ≤ 86400000
    · have ho : outB every 1000 86400000 = false := outB_no h2.1 h2.2
      obtain ⟨g4, g5⟩ := h2
      have hd0 : 0 ≤ (zt - a + every - 1) / every := Int.ediv_nonneg (by omega) (by omega)
      by_cases h3 : 20000 < (zt - a + every - 1) / every
      · have HE := Lib.hid (askE_2 (a := a) (zt := zt) (every := every) (by omega) h3)
        go_enter Tryd.func40, Tryd.ntmps40
        go_wp2_with fail
        refine (isWindow_any _ _ _).mono ?_
        rintro r w1 ⟨rfl, hg1⟩
        have c0 : w1.cell? ⟨w.heap.size, 0, none⟩ = some (.int .i64 a) := new_kept hg1 (by simp) 0
        have c1 : w1.cell? ⟨w.heap.size, 1, none⟩ = some (.int .i64 zt) := new_kept hg1 (by simp) 1
        have hg2 := gr_trans (World.grownBy_alloc w _ none) hg1
        go_wp2_with (go_at_call 27; refine (outside_any _ _ _ _).mono ?_; rintro r w' ⟨rfl, rfl⟩)
        go_ret
        exact ⟨ret_of HE.out.symm, hg2⟩
      · have HE := Lib.hid (askE_0 (a := a) (zt := zt) (every := every) (by omega) h3)
        go_enter Tryd.func40, Tryd.ntmps40
        go_wp2_with fail
        refine (isWindow_any _ _ _).mono ?_
        rintro r w1 ⟨rfl, hg1⟩
        have c0 : w1.cell? ⟨w.heap.size, 0, none⟩ = some (.int .i64 a) := new_kept hg1 (by simp) 0
        have c1 : w1.cell? ⟨w.heap.size, 1, none⟩ = some (.int .i64 zt) := new_kept hg1 (by simp) 1
        have hg2 := gr_trans (World.grownBy_alloc w _ none) hg1
        go_wp2_with (go_at_call 27; refine (outside_any _ _ _ _).mono ?_; rintro r w' ⟨rfl, rfl⟩)
        go_ret
        exact ⟨ret_of HE.out.symm, hg2⟩
    · have ho : outB every 1000 86400000 = true := outB_yes (by omega)
      have HE := Lib.hid (askE_1 (a := a) (zt := zt) (every := every) (by omega))
      go_enter Tryd.func40, Tryd.ntmps40
      go_wp2_with fail
      refine (isWindow_any _ _ _).mono ?_
      rintro r w1 ⟨rfl, hg1⟩
      have hg2 := gr_trans (World.grownBy_alloc w _ none) hg1
      go_wp2_with (go_at_call 27; refine (outside_any _ _ _ _).mono ?_; rintro r w' ⟨rfl, rfl⟩)
      go_ret
      exact ⟨ret_of HE.out.symm, hg2⟩
  · have hw : isWinB a zt = false := by unfold isWinB; simp; omega
    have HE := Lib.hid (askE_1 (a := a) (zt := zt) (every := every) (by omega))
    go_enter Tryd.func40, Tryd.ntmps40
    go_wp2_with fail
    refine (isWindow_any _ _ _).mono ?_
    rintro r w1 ⟨rfl, hg1⟩
    have hg2 := gr_trans (World.grownBy_alloc w _ none) hg1
    go_wp2_with fail
    go_ret
    exact ⟨ret_of HE.out.symm, hg2⟩

/-- A slice value that holds windows. -/
theorem Wins.grown {w w' : World} {v : Value} {l : List (Int × Int)} (h : Wins w v l) (hg : w.grownBy w' none) : Wins w' v l := ownsRow_grown h hg
end Go.Proofs.YtngdjeggigkmlaaDoor
