/- place.cosine and pileref1.CosineOf both compute the plain cosine. Condition: the angle is far from the ends of int. -/
import Derived.Test.YtjhklpffmfdkbaaGreatDoorCosPlain
namespace Go.Proofs.YtjhklpffmfdkbaaGreatDoor
set_option linter.unusedVariables false
open Go.RowKit

set_option maxHeartbeats 400000 in
theorem cosine_base (x : Int) (w : World) (h0 : 0 ≤ x) (h1 : x ≤ 324000) :
    Calls Tryz.prog 60 #[.int .i64 x] w fun e w' => e = .returned (.int .i64 (cosB x)) ∧ w = w' := by
  obtain ⟨a, b, c⟩ := sq_bd x h0 h1
  have a' : 0 ≤ 4 * x * x := by omega
  have b' : 4 * x * x ≤ 419904000000 := by omega
  have e1 : (x % 1296000 + 1296000) % 1296000 = x := by omega
  clear c
  go_enter Tryz.func60, Tryz.ntmps60
  go_wp2_with fail
  go_ret
  exact ⟨rfl, rfl⟩


set_option maxHeartbeats 1000000 in
theorem cosine_any (x : Int) (w : World) (h0 : -1000000000000000 ≤ x) (h1 : x ≤ 1000000000000000) :
    Calls Tryz.prog 60 #[.int .i64 x] w fun e w' => e = .returned (.int .i64 (cosI x)) ∧ w = w' := by
  have ht := tmod_lo x 1296000 (by omega)
  obtain ⟨t1, t2⟩ := ht
  have hc := tmod_circle x
  have hfin : cosI x = cosC (x % 1296000) := rfl
  obtain ⟨y, hy⟩ : ∃ y, y = x % 1296000 := ⟨_, rfl⟩
  have y0 : 0 ≤ y := by omega
  have y1 : y < 1296000 := by omega
  rw [← hy] at hc hfin
  have hc2 : 0 ≤ x → (x % 1296000 + 1296000) % 1296000 = y := fun _ => by omega
  have HF := Lib.hid hfin
  clear hfin hy
  by_cases hx : 0 ≤ x
  all_goals first | (have hc3 := hc2 hx; clear hc hc2) | clear hc2
  all_goals
    by_cases g1 : 648000 < y
    · obtain ⟨z, hz⟩ : ∃ z, 1296000 - y = z := ⟨_, rfl⟩
      have z0 : 0 ≤ z := by omega
      have z1 : z < 648000 := by omega
      by_cases g2 : 324000 < z
      · have HE := Lib.hid (show cosC y = -cosB (648000 - z) by unfold cosC; rw [if_pos g1, hz, if_pos g2])
        have hbd := cosB_bd (648000 - z) (by omega) (by omega)
        obtain ⟨d1, d2⟩ := hbd
        go_enter Tryz.func60, Tryz.ntmps60
        go_wp2_with (go_at_call 60; refine (cosine_base _ _ (by omega) (by omega)).mono ?_; rintro e w' ⟨rfl, rfl⟩)
        go_ret
        exact ⟨ret_of (by rw [HF.out, HE.out]), rfl⟩
      · have HE := Lib.hid (show cosC y = cosB z by unfold cosC; rw [if_pos g1, hz, if_neg g2])
        obtain ⟨a, b, c⟩ := sq_bd z z0 (by omega)
        have a' : 0 ≤ 4 * z * z := by omega
        have b' : 4 * z * z ≤ 419904000000 := by omega
        clear c
        go_enter Tryz.func60, Tryz.ntmps60
        go_wp2_with fail
        go_ret
        exact ⟨ret_of (by rw [HF.out, HE.out]; rfl), rfl⟩
    · by_cases g2 : 324000 < y
      · have HE := Lib.hid (show cosC y = -cosB (648000 - y) by unfold cosC; rw [if_neg g1, if_pos g2])
        have hbd := cosB_bd (648000 - y) (by omega) (by omega)
        obtain ⟨d1, d2⟩ := hbd
        go_enter Tryz.func60, Tryz.ntmps60
        go_wp2_with (go_at_call 60; refine (cosine_base _ _ (by omega) (by omega)).mono ?_; rintro e w' ⟨rfl, rfl⟩)
        go_ret
        exact ⟨ret_of (by rw [HF.out, HE.out]), rfl⟩
      · have HE := Lib.hid (show cosC y = cosB y by unfold cosC; rw [if_neg g1, if_neg g2])
        obtain ⟨a, b, c⟩ := sq_bd y y0 (by omega)
        have a' : 0 ≤ 4 * y * y := by omega
        have b' : 4 * y * y ≤ 419904000000 := by omega
        clear c
        go_enter Tryz.func60, Tryz.ntmps60
        go_wp2_with fail
        go_ret
        exact ⟨ret_of (by rw [HF.out, HE.out]; rfl), rfl⟩

end Go.Proofs.YtjhklpffmfdkbaaGreatDoor
