/- The walks over IsWindow, askedFault, AskedFault, and slices.Equal at windows. No condition (Equal: at equal lists). -/
import Derived.Test.YtngdjeggigkmlaaWinPlain
import Derived.Test.YtngdjeggigkmlaaFaults
namespace Go.Proofs.Ytngdjeggigkmlaa
open Go.RowKit
set_option linter.unusedVariables false

theorem askE_1 {a to every : Int} (h : a < 0 ∨ to < a ∨ 345686400000 < to ∨ every < 1000 ∨ 86400000 < every) : askE a to every = 1 := by unfold askE; rw [if_pos h]
theorem askE_2 {a to every : Int} (h : ¬ (a < 0 ∨ to < a ∨ 345686400000 < to ∨ every < 1000 ∨ 86400000 < every)) (h2 : 20000 < (to - a + every - 1) / every) : askE a to every = 2 := by unfold askE; rw [if_neg h, if_pos h2]
theorem askE_0 {a to every : Int} (h : ¬ (a < 0 ∨ to < a ∨ 345686400000 < to ∨ every < 1000 ∨ 86400000 < every)) (h2 : ¬ 20000 < (to - a + every - 1) / every) : askE a to every = 0 := by unfold askE; rw [if_neg h, if_neg h2]

def isWinB (a to : Int) : Bool := decide (0 ≤ a ∧ a ≤ to ∧ to ≤ 345686400000)

set_option maxHeartbeats 400000 in
theorem isWindow_any (a to : Int) (w : World) :
    Calls Try.prog 80 #[.agg #[.int .i64 a, .int .i64 to]] w fun r w' => r = .returned (.bool (isWinB a to)) ∧ w.grownBy w' none := by
  rcases hb : outB a 0 to
  · have h1 : 0 ≤ a ∧ a ≤ to := by unfold outB at hb; simp at hb; omega
    have HE : Hid (isWinB a to = decide (to ≤ 345686400000)) := by show _ = _; unfold isWinB; simp [h1]
    go_enter Try.func80, Try.ntmps80
    go_wp2_with fail
    refine (outside_any _ _ _ _).mono ?_
    rintro r w' ⟨rfl, rfl⟩
    go_wp2_with fail
    go_ret
    exact ⟨ret_b HE.out.symm, gr_alloc (gr_refl _ _) _⟩
  · have h1 : ¬ (0 ≤ a ∧ a ≤ to) := by unfold outB at hb; simp at hb; omega
    have HE : Hid (isWinB a to = false) := by show _ = _; unfold isWinB; simp; omega
    go_enter Try.func80, Try.ntmps80
    go_wp2_with fail
    refine (outside_any _ _ _ _).mono ?_
    rintro r w' ⟨rfl, rfl⟩
    go_wp2_with fail
    go_ret
    exact ⟨ret_b HE.out.symm, gr_alloc (gr_refl _ _) _⟩

set_option maxHeartbeats 1000000 in
theorem askedFault_any (a to every : Int) (w : World) :
    Calls Try.prog 57 #[.agg #[.int .i64 a, .int .i64 to], .int .i64 every] w fun r w' => r = .returned (.int .i64 (askE a to every)) ∧ w.grownBy w' none := by
  by_cases h1 : 0 ≤ a ∧ a ≤ to ∧ to ≤ 345686400000
  · have hw : isWinB a to = true := by unfold isWinB; simp [h1]
    obtain ⟨g1, g2, g3⟩ := h1
    by_cases h2 : 1000 ≤ every ∧ every ≤ 86400000
    · have ho : outB every 1000 86400000 = false := outB_no h2.1 h2.2
      obtain ⟨g4, g5⟩ := h2
      have hd0 : 0 ≤ (to - a + every - 1) / every := Int.ediv_nonneg (by omega) (by omega)
      by_cases h3 : 20000 < (to - a + every - 1) / every
      · have HE := Lib.hid (askE_2 (a := a) (to := to) (every := every) (by omega) h3)
        go_enter Try.func57, Try.ntmps57
        go_wp2_with fail
        refine (isWindow_any _ _ _).mono ?_
        rintro r w1 ⟨rfl, hg1⟩
        have c0 : w1.cell? ⟨w.heap.size, 0, none⟩ = some (.int .i64 a) := new_kept hg1 (by simp) 0
        have c1 : w1.cell? ⟨w.heap.size, 1, none⟩ = some (.int .i64 to) := new_kept hg1 (by simp) 1
        have hg2 := gr_trans (World.grownBy_alloc w _ none) hg1
        go_wp2_with (go_at_call 53; refine (outside_any _ _ _ _).mono ?_; rintro r w' ⟨rfl, rfl⟩)
        go_ret
        exact ⟨ret_of HE.out.symm, hg2⟩
      · have HE := Lib.hid (askE_0 (a := a) (to := to) (every := every) (by omega) h3)
        go_enter Try.func57, Try.ntmps57
        go_wp2_with fail
        refine (isWindow_any _ _ _).mono ?_
        rintro r w1 ⟨rfl, hg1⟩
        have c0 : w1.cell? ⟨w.heap.size, 0, none⟩ = some (.int .i64 a) := new_kept hg1 (by simp) 0
        have c1 : w1.cell? ⟨w.heap.size, 1, none⟩ = some (.int .i64 to) := new_kept hg1 (by simp) 1
        have hg2 := gr_trans (World.grownBy_alloc w _ none) hg1
        go_wp2_with (go_at_call 53; refine (outside_any _ _ _ _).mono ?_; rintro r w' ⟨rfl, rfl⟩)
        go_ret
        exact ⟨ret_of HE.out.symm, hg2⟩
    · have ho : outB every 1000 86400000 = true := outB_yes (by omega)
      have HE := Lib.hid (askE_1 (a := a) (to := to) (every := every) (by omega))
      go_enter Try.func57, Try.ntmps57
      go_wp2_with fail
      refine (isWindow_any _ _ _).mono ?_
      rintro r w1 ⟨rfl, hg1⟩
      have hg2 := gr_trans (World.grownBy_alloc w _ none) hg1
      go_wp2_with (go_at_call 53; refine (outside_any _ _ _ _).mono ?_; rintro r w' ⟨rfl, rfl⟩)
      go_ret
      exact ⟨ret_of HE.out.symm, hg2⟩
  · have hw : isWinB a to = false := by unfold isWinB; simp; omega
    have HE := Lib.hid (askE_1 (a := a) (to := to) (every := every) (by omega))
    go_enter Try.func57, Try.ntmps57
    go_wp2_with fail
    refine (isWindow_any _ _ _).mono ?_
    rintro r w1 ⟨rfl, hg1⟩
    have hg2 := gr_trans (World.grownBy_alloc w _ none) hg1
    go_wp2_with fail
    go_ret
    exact ⟨ret_of HE.out.symm, hg2⟩

set_option maxHeartbeats 1000000 in
theorem askedFaultR_any (a to every : Int) (w : World) :
    Calls Try.prog 24 #[.agg #[.int .i64 a, .int .i64 to], .int .i64 every] w fun r w' => r = .returned (.int .i64 (askE a to every)) ∧ w.grownBy w' none := by
  by_cases k1 : a < 0
  · have HE := Lib.hid (askE_1 (a := a) (to := to) (every := every) (by omega))
    go_enter Try.func24, Try.ntmps24
    go_wp2_with fail
    go_ret
    exact ⟨ret_of HE.out.symm, gr_alloc (gr_refl _ _) _⟩
  by_cases k2 : to < a
  · have HE := Lib.hid (askE_1 (a := a) (to := to) (every := every) (by omega))
    go_enter Try.func24, Try.ntmps24
    go_wp2_with fail
    go_ret
    exact ⟨ret_of HE.out.symm, gr_alloc (gr_refl _ _) _⟩
  by_cases k3 : 345686400000 < to
  · have HE := Lib.hid (askE_1 (a := a) (to := to) (every := every) (by omega))
    go_enter Try.func24, Try.ntmps24
    go_wp2_with fail
    go_ret
    exact ⟨ret_of HE.out.symm, gr_alloc (gr_refl _ _) _⟩
  by_cases h2 : 1000 ≤ every ∧ every ≤ 86400000
  · have ho : outB every 1000 86400000 = false := outB_no h2.1 h2.2
    obtain ⟨g4, g5⟩ := h2
    have hd0 : 0 ≤ (to - a + every - 1) / every := Int.ediv_nonneg (by omega) (by omega)
    by_cases h3 : 20000 < (to - a + every - 1) / every
    · have HE := Lib.hid (askE_2 (a := a) (to := to) (every := every) (by omega) h3)
      go_enter Try.func24, Try.ntmps24
      go_wp2_with (go_at_call 55; refine (in_any _ _ _ _).mono ?_; rintro r w' ⟨rfl, rfl⟩)
      go_ret
      exact ⟨ret_of HE.out.symm, gr_alloc (gr_refl _ _) _⟩
    · have HE := Lib.hid (askE_0 (a := a) (to := to) (every := every) (by omega) h3)
      go_enter Try.func24, Try.ntmps24
      go_wp2_with (go_at_call 55; refine (in_any _ _ _ _).mono ?_; rintro r w' ⟨rfl, rfl⟩)
      go_ret
      exact ⟨ret_of HE.out.symm, gr_alloc (gr_refl _ _) _⟩
  · have ho : outB every 1000 86400000 = true := outB_yes (by omega)
    have HE := Lib.hid (askE_1 (a := a) (to := to) (every := every) (by omega))
    go_enter Try.func24, Try.ntmps24
    go_wp2_with (go_at_call 55; refine (in_any _ _ _ _).mono ?_; rintro r w' ⟨rfl, rfl⟩)
    go_ret
    exact ⟨ret_of HE.out.symm, gr_alloc (gr_refl _ _) _⟩

/-- A slice value that holds windows. -/
def Wins (w : World) (v : Value) (l : List (Int × Int)) : Prop := w.ownsRow 0 48 2 v l.length (wcells l)
theorem ownsRow_low {w : World} {base base' : Nat} {e : TypeId} {size : Nat} {v : Value} {n : Nat} {xs : List Value} (h : w.ownsRow base e size v n xs) (hb : base' ≤ base) : w.ownsRow base' e size v n xs := by
  obtain ⟨h1, h2⟩ := h
  refine ⟨h1, ?_⟩
  rcases h2 with h2 | ⟨g, cap, cur, hv, hg, r⟩
  · exact .inl h2
  · exact .inr ⟨g, cap, cur, hv, by omega, r⟩
theorem ownsRow_grown {w w' : World} {base : Nat} {e : TypeId} {size : Nat} {v : Value} {n : Nat} {xs : List Value} (h : w.ownsRow base e size v n xs) (hg : w.grownBy w' none) : w'.ownsRow base e size v n xs :=
  h.kept hg (by cases v.ownBlock <;> simp)
theorem ownsRow_shape {w : World} {base : Nat} {e : TypeId} {size : Nat} {v : Value} {n : Nat} {xs : List Value} (h : w.ownsRow base e size v n xs) :
    ∃ A c, v = .slice A n c ∧ n ≤ 9223372036854775807 ∧ (0 < n → ∃ g, A = some ⟨g, 0, none⟩ ∧ base ≤ g ∧ g < w.heap.size) := by
  rcases h.2 with ⟨rfl, rfl⟩ | ⟨g, cap, cur, rfl, hb, hh, hnc, hm, _⟩
  · exact ⟨none, 0, rfl, by omega, fun h => absurd h (by omega)⟩
  · unfold maxLen at hm
    exact ⟨_, _, rfl, by omega, fun _ => ⟨g, rfl, hb, (Array.getElem?_eq_some_iff.1 hh).1⟩⟩
theorem Wins.grown {w w' : World} {v : Value} {l : List (Int × Int)} (h : Wins w v l) (hg : w.grownBy w' none) : Wins w' v l := ownsRow_grown h hg

set_option maxHeartbeats 1000000 in
theorem equalWins_same (u v : Value) (l : List (Int × Int)) (w : World) (hu : Wins w u l) (hv : Wins w v l) :
    Calls Try.prog 29 #[u, v] w fun r w' => r = .returned (.bool true) ∧ w.grownBy w' none := by
  obtain ⟨A, ca, rfl, ha, hA⟩ := ownsRow_shape hu
  obtain ⟨B, cb, rfl, hb, hB⟩ := ownsRow_shape hv
  have HU := Lib.hid hu
  have HV := Lib.hid hv
  clear hu hv
  go_enter Try.func29, Try.ntmps29
  go_wp2_with fail
  go_loopw [13] (fun i wr => ∃ k : Nat, k ≤ l.length ∧ i = .int .i64 k ∧ w.grownBy wr none) (fun i _ => l.length - (intOf i).toNat)
  case atStart => exact ⟨0, by omega, rfl, gr_refl _ _⟩
  case round =>
    obtain ⟨k, hk, rfl, hgr⟩ := hrel
    by_cases hlt : k < l.length
    · obtain ⟨ga, rfl, _, _⟩ := hA (by omega)
      obtain ⟨gb, rfl, _, _⟩ := hB (by omega)
      have hc := wcells_at l k hlt
      have a0 := (ownsRow_grown HU.out hgr).cellAt (k * 2) (by omega)
      have a1 := (ownsRow_grown HU.out hgr).cellAt (k * 2 + 1) (by omega)
      have b0 := (ownsRow_grown HV.out hgr).cellAt (k * 2) (by omega)
      have b1 := (ownsRow_grown HV.out hgr).cellAt (k * 2 + 1) (by omega)
      rw [hc.1] at a0 b0
      rw [hc.2] at a1 b1
      generalize l[k].1 = x at *
      generalize l[k].2 = y at *
      clear hc hA hB
      have hkl : (k : Int) < (l.length : Int) := by omega
      go_wp2_with fail
      go_quiet (fail)
      go_wp2_with fail
      go_roundw
      case rel => exact ⟨k + 1, by omega, by go_num, by repeat (first | exact hgr | refine gr_drewN ?_ _ | refine gr_drew ?_)⟩
      case measure => simp [intOf]; omega
    · have hkl : ¬ ((k : Int) < l.length) := by omega
      go_wp2_with fail
      go_ret
      exact ⟨rfl, hgr⟩
end Go.Proofs.Ytngdjeggigkmlaa
