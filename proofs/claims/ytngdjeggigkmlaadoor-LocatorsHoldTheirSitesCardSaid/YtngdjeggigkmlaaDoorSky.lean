/- Tilt, Sun, Grey, Cosine with their errors; GreyAt; placed. Condition: a site's numbers lie within 2^41. -/
import Derived.Test.YtngdjeggigkmlaaDoorSky0
namespace Go.Proofs.YtngdjeggigkmlaaDoor
open Go.RowKit
set_option linter.unusedVariables false

set_option maxHeartbeats 400000 in
theorem cosineE_any (x : Int) (w : World) :
    Calls Tryd.prog 31 #[.int .i64 x] w fun r w' =>
      r = .returned (.tuple #[.int .i64 (okI (spanE x (-1296000000) 1296000000) (cosI x)), .int .i64 (spanE x (-1296000000) 1296000000)]) ∧ w = w' := by
  rcases spanE_cases x (-1296000000) 1296000000 with ⟨he, h1, h2⟩ | ⟨he, h1⟩
  · have HE := Lib.hid he
    have hb : outB x (-1296000000) 1296000000 = false := outB_no h1 h2
    clear he
    go_enter Tryd.func31, Tryd.ntmps31
    go_wp2_with (first | (go_at_call 27; refine (outside_any _ _ _ _).mono ?_; rintro r w' ⟨rfl, rfl⟩) | (go_at_call 51; refine (cosine_any _ _ (by omega) (by omega)).mono ?_; rintro r w' ⟨rfl, rfl⟩))
    go_ret2
    exact ⟨ret_2i (by unfold okI; rw [HE.out]; rfl) HE.out.symm, rfl⟩
  · have HE := Lib.hid he
    have hb : outB x (-1296000000) 1296000000 = true := outB_yes h1
    clear he
    go_enter Tryd.func31, Tryd.ntmps31
    go_wp2_with (first | (go_at_call 27; refine (outside_any _ _ _ _).mono ?_; rintro r w' ⟨rfl, rfl⟩))
    go_ret2
    exact ⟨ret_2i (by unfold okI; rw [HE.out]; rfl) HE.out.symm, rfl⟩

/-- The error of a site and a moment. -/
def sunE (n e a : Int) : Int := if siteE n e = 0 then momE a else siteE n e

theorem sunE_ok {n e a : Int} (h : siteE n e = 0) : sunE n e a = momE a := by unfold sunE; rw [if_pos h]
theorem sunE_bad {n e a : Int} (h : siteE n e = 1) : sunE n e a = 1 := by unfold sunE; rw [if_neg (by omega), h]

/-- Is it grey? -/
def greyB (n e a within : Int) : Bool := !outB (sunI n e a) (-within) within
def greyE (n e a within : Int) : Int := if sunE n e a = 0 then spanE within 0 200000 else sunE n e a

set_option maxHeartbeats 400000 in
theorem grey_any (n e x within : Int) (w : World) (h0 : 0 ≤ x) (h1 : x ≤ 400000000000) (n0 : -10000000 ≤ n) (n1 : n ≤ 10000000) (e0 : -10000000 ≤ e) (e1 : e ≤ 10000000) (v0 : 0 ≤ within) (v1 : within ≤ 10000000) :
    Calls Tryd.prog 43 #[.agg #[.int .i64 n, .int .i64 e], .int .i64 x, .int .i64 within] w fun r w' => r = .returned (.bool (greyB n e x within)) ∧ w.grownBy w' none := by
  go_enter Tryd.func43, Tryd.ntmps43
  go_wp2_with fail
  refine (sun_any _ _ _ _ h0 h1 n0 n1 e0 e1).mono ?_
  rintro r w2 ⟨rfl, hg3⟩
  go_wp2_with fail
  refine (outside_any _ _ _ _).mono ?_
  rintro r w' ⟨rfl, rfl⟩
  go_wp2_with fail
  go_ret
  exact ⟨rfl, gr_trans (World.grownBy_alloc w _ none) hg3⟩

theorem greyE_ok {n e a v : Int} (h : sunE n e a = 0) : greyE n e a v = spanE v 0 200000 := by unfold greyE; rw [if_pos h]
theorem greyE_bad {n e a v : Int} (h : sunE n e a = 1) : greyE n e a v = 1 := by unfold greyE; rw [if_neg (by omega), h]

set_option maxHeartbeats 400000 in
theorem greyE_any (n e x v : Int) (w : World) :
    Calls Tryd.prog 22 #[.agg #[.int .i64 n, .int .i64 e], .int .i64 x, .int .i64 v] w fun r w' =>
      r = .returned (.tuple #[.bool (okB (greyE n e x v) (greyB n e x v)), .int .i64 (greyE n e x v)]) ∧ w.grownBy w' none := by
  rcases siteE_cases n e with ⟨hs, s1, s2, s3, s4⟩ | hs
  · rcases momE_cases x with ⟨he, hb, h1, h2⟩ | ⟨he, hb⟩
    · rcases spanE_cases v 0 200000 with ⟨hv, v1, v2⟩ | ⟨hv, v1⟩
      · have HE := Lib.hid ((greyE_ok (v := v) ((sunE_ok (a := x) hs).trans he)).trans hv)
        have hbv : outB v 0 200000 = false := outB_no v1 v2
        clear he hv
        go_enter Tryd.func22, Tryd.ntmps22
        go_wp2_with fail
        refine (checkSite_any _ _ _).mono ?_
        rintro r w1 ⟨rfl, hg1⟩
        have c0 : w1.cell? ⟨w.heap.size, 0, none⟩ = some (.int .i64 n) := new_kept hg1 (by simp) 0
        have c1 : w1.cell? ⟨w.heap.size, 1, none⟩ = some (.int .i64 e) := new_kept hg1 (by simp) 1
        have hg2 := gr_trans (World.grownBy_alloc w _ none) hg1
        go_wp2_with (first | (go_at_call 45; refine (isMoment_any _ _).mono ?_; rintro r w' ⟨rfl, rfl⟩) | (go_at_call 27; refine (outside_any _ _ _ _).mono ?_; rintro r w' ⟨rfl, rfl⟩))
        refine (grey_any _ _ _ _ _ h1 (by omega) (by omega) (by omega) (by omega) (by omega) v1 (by omega)).mono ?_
        rintro r w2 ⟨rfl, hg3⟩
        go_wp2_with fail
        go_ret2
        exact ⟨ret_bi (by unfold okB; rw [HE.out]; rfl) HE.out.symm, gr_trans hg2 hg3⟩
      · have HE := Lib.hid ((greyE_ok (v := v) ((sunE_ok (a := x) hs).trans he)).trans hv)
        have hbv : outB v 0 200000 = true := outB_yes v1
        clear he hv
        go_enter Tryd.func22, Tryd.ntmps22
        go_wp2_with fail
        refine (checkSite_any _ _ _).mono ?_
        rintro r w1 ⟨rfl, hg1⟩
        have hg2 := gr_trans (World.grownBy_alloc w _ none) hg1
        go_wp2_with (first | (go_at_call 45; refine (isMoment_any _ _).mono ?_; rintro r w' ⟨rfl, rfl⟩) | (go_at_call 27; refine (outside_any _ _ _ _).mono ?_; rintro r w' ⟨rfl, rfl⟩))
        go_ret2
        exact ⟨ret_bi (by unfold okB; rw [HE.out]; rfl) HE.out.symm, hg2⟩
    · have HE := Lib.hid (greyE_bad (v := v) ((sunE_ok (a := x) hs).trans he))
      clear he
      go_enter Tryd.func22, Tryd.ntmps22
      go_wp2_with fail
      refine (checkSite_any _ _ _).mono ?_
      rintro r w1 ⟨rfl, hg1⟩
      have hg2 := gr_trans (World.grownBy_alloc w _ none) hg1
      go_wp2_with (first | (go_at_call 45; refine (isMoment_any _ _).mono ?_; rintro r w' ⟨rfl, rfl⟩))
      go_ret2
      exact ⟨ret_bi (by unfold okB; rw [HE.out]; rfl) HE.out.symm, hg2⟩
  · have HE := Lib.hid (greyE_bad (v := v) (sunE_bad (a := x) hs))
    go_enter Tryd.func22, Tryd.ntmps22
    go_wp2_with fail
    refine (checkSite_any _ _ _).mono ?_
    rintro r w1 ⟨rfl, hg1⟩
    have hg2 := gr_trans (World.grownBy_alloc w _ none) hg1
    go_wp2_with fail
    go_ret2
    exact ⟨ret_bi (by unfold okB; rw [HE.out]; rfl) HE.out.symm, hg2⟩

theorem cos60 : cosI 216000 = 500000 := by decide +kernel

end Go.Proofs.YtngdjeggigkmlaaDoor
