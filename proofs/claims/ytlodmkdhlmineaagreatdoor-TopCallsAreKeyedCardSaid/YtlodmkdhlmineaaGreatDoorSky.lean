/- Tilt, Sun, Grey, Cosine with their errors; GreyAt; placed. Condition: a site's numbers lie within 2^41. -/
import Derived.Test.YtlodmkdhlmineaaGreatDoorSky0
namespace Go.Proofs.YtlodmkdhlmineaaGreatDoor
open Go.RowKit
set_option linter.unusedVariables false

set_option maxHeartbeats 400000 in
theorem cosineE_any (x : Int) (w : World) :
    Calls Tryz.prog 76 #[.int .i64 x] w fun r w' =>
      r = .returned (.tuple #[.int .i64 (okI (spanE x (-1296000000) 1296000000) (cosI x)), .int .i64 (spanE x (-1296000000) 1296000000)]) ∧ w = w' := by
  rcases spanE_cases x (-1296000000) 1296000000 with ⟨he, h1, h2⟩ | ⟨he, h1⟩
  · have HE := Lib.hid he
    have hb : outB x (-1296000000) 1296000000 = false := outB_no h1 h2
    clear he
    go_enter Tryz.func76, Tryz.ntmps76
    go_wp2_with (first | (go_at_call 71; refine (outside_any _ _ _ _).mono ?_; rintro r w' ⟨rfl, rfl⟩) | (go_at_call 139; refine (cosine_any _ _ (by omega) (by omega)).mono ?_; rintro r w' ⟨rfl, rfl⟩))
    go_ret2
    exact ⟨ret_2i (by unfold okI; rw [HE.out]; rfl) HE.out.symm, rfl⟩
  · have HE := Lib.hid he
    have hb : outB x (-1296000000) 1296000000 = true := outB_yes h1
    clear he
    go_enter Tryz.func76, Tryz.ntmps76
    go_wp2_with (first | (go_at_call 71; refine (outside_any _ _ _ _).mono ?_; rintro r w' ⟨rfl, rfl⟩))
    go_ret2
    exact ⟨ret_2i (by unfold okI; rw [HE.out]; rfl) HE.out.symm, rfl⟩

/-- The error of a site and a moment. -/
def sunE (n e a : Int) : Int := if siteE n e = 0 then momE a else siteE n e

theorem sunE_ok {n e a : Int} (h : siteE n e = 0) : sunE n e a = momE a := by unfold sunE; rw [if_pos h]
theorem sunE_bad {n e a : Int} (h : siteE n e = 1) : sunE n e a = 1 := by unfold sunE; rw [if_neg (by omega), h]

/-- Is it grey? -/
def greyB (n e a within : Int) : Bool := !outB (sunI n e a) (-within) within
def greyE (n e a within : Int) : Int := if sunE n e a = 0 then spanE within 0 200000 else sunE n e a

theorem greyE_ok {n e a v : Int} (h : sunE n e a = 0) : greyE n e a v = spanE v 0 200000 := by unfold greyE; rw [if_pos h]
theorem greyE_bad {n e a v : Int} (h : sunE n e a = 1) : greyE n e a v = 1 := by unfold greyE; rw [if_neg (by omega), h]

theorem cos60 : cosI 216000 = 500000 := by decide +kernel

end Go.Proofs.YtlodmkdhlmineaaGreatDoor
