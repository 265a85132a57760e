/- Tilt, Sun, Grey, Cosine with their errors; GreyAt; placed. Condition: a site's numbers lie within 2^41. -/
import Derived.Test.YtngdjeggigkmlaaSun
import Derived.Test.YtngdjeggigkmlaaFaults
namespace Go.Proofs.Ytngdjeggigkmlaa
open Go.RowKit
set_option linter.unusedVariables false

/-- A result with an error: the value, or 0. -/
def okI (e v : Int) : Int := if e = 0 then v else 0
def okB (e : Int) (v : Bool) : Bool := if e = 0 then v else false

theorem ret_2i {k l : IntKind} {a b c d : Int} (h : a = b) (h' : c = d) : Ending.returned (.tuple #[.int k a, .int l c]) = .returned (.tuple #[.int k b, .int l d]) := by rw [h, h']
theorem ret_bi {l : IntKind} {a b : Bool} {c d : Int} (h : a = b) (h' : c = d) : Ending.returned (.tuple #[.bool a, .int l c]) = .returned (.tuple #[.bool b, .int l d]) := by rw [h, h']

theorem momE_cases (a : Int) : (momE a = 0 ∧ outB a 0 345686399999 = false ∧ 0 ≤ a ∧ a ≤ 345686399999) ∨ (momE a = 1 ∧ outB a 0 345686399999 = true) := by
  unfold momE
  rcases spanE_cases a 0 345686399999 with ⟨h, h1, h2⟩ | ⟨h, h1⟩
  · exact .inl ⟨h, outB_no h1 h2, h1, h2⟩
  · exact .inr ⟨h, outB_yes h1⟩

set_option maxHeartbeats 400000 in
theorem cosineE_any (x : Int) (w : World) :
    Calls Try.prog 33 #[.int .i64 x] w fun r w' =>
      r = .returned (.tuple #[.int .i64 (okI (spanE x (-1296000000) 1296000000) (cosI x)), .int .i64 (spanE x (-1296000000) 1296000000)]) ∧ w = w' := by
  rcases spanE_cases x (-1296000000) 1296000000 with ⟨he, h1, h2⟩ | ⟨he, h1⟩
  · have HE := Lib.hid he
    have hb : outB x (-1296000000) 1296000000 = false := outB_no h1 h2
    clear he
    go_enter Try.func33, Try.ntmps33
    go_wp2_with (first | (go_at_call 53; refine (outside_any _ _ _ _).mono ?_; rintro r w' ⟨rfl, rfl⟩) | (go_at_call 65; refine (cosine_any _ _ (by omega) (by omega)).mono ?_; rintro r w' ⟨rfl, rfl⟩))
    go_ret2
    exact ⟨ret_2i (by unfold okI; rw [HE.out]; rfl) HE.out.symm, rfl⟩
  · have HE := Lib.hid he
    have hb : outB x (-1296000000) 1296000000 = true := outB_yes h1
    clear he
    go_enter Try.func33, Try.ntmps33
    go_wp2_with (first | (go_at_call 53; refine (outside_any _ _ _ _).mono ?_; rintro r w' ⟨rfl, rfl⟩))
    go_ret2
    exact ⟨ret_2i (by unfold okI; rw [HE.out]; rfl) HE.out.symm, rfl⟩

set_option maxHeartbeats 400000 in
theorem tiltE_any (x : Int) (w : World) :
    Calls Try.prog 10 #[.int .i64 x] w fun r w' => r = .returned (.tuple #[.int .i64 (okI (momE x) (tiltI x)), .int .i64 (momE x)]) ∧ w = w' := by
  rcases momE_cases x with ⟨he, hb, h1, h2⟩ | ⟨he, hb⟩
  all_goals
    have HE := Lib.hid he
    clear he
    go_enter Try.func10, Try.ntmps10
    go_wp2_with (first | (go_at_call 49; refine (isMoment_any _ _).mono ?_; rintro r w' ⟨rfl, rfl⟩) | (go_at_call 50; refine (tilt_any _ _ (by omega) (by omega)).mono ?_; rintro r w' ⟨rfl, rfl⟩))
    go_ret2
    exact ⟨ret_2i (by unfold okI; rw [HE.out]; rfl) HE.out.symm, rfl⟩

/-- The error of a site and a moment. -/
def sunE (n e a : Int) : Int := if siteE n e = 0 then momE a else siteE n e

theorem sunE_ok {n e a : Int} (h : siteE n e = 0) : sunE n e a = momE a := by unfold sunE; rw [if_pos h]
theorem sunE_bad {n e a : Int} (h : siteE n e = 1) : sunE n e a = 1 := by unfold sunE; rw [if_neg (by omega), h]

set_option maxHeartbeats 400000 in
theorem sunE_any (n e x : Int) (w : World) :
    Calls Try.prog 11 #[.agg #[.int .i64 n, .int .i64 e], .int .i64 x] w fun r w' =>
      r = .returned (.tuple #[.int .i64 (okI (sunE n e x) (sunI n e x)), .int .i64 (sunE n e x)]) ∧ w.grownBy w' none := by
  rcases siteE_cases n e with ⟨hs, s1, s2, s3, s4⟩ | hs
  · rcases momE_cases x with ⟨he, hb, h1, h2⟩ | ⟨he, hb⟩
    · have HE := Lib.hid ((sunE_ok (a := x) hs).trans he)
      clear he
      go_enter Try.func11, Try.ntmps11
      go_wp2_with fail
      refine (checkSite_any _ _ _).mono ?_
      rintro r w1 ⟨rfl, hg1⟩
      have c0 : w1.cell? ⟨w.heap.size, 0, none⟩ = some (.int .i64 n) := new_kept hg1 (by simp) 0
      have c1 : w1.cell? ⟨w.heap.size, 1, none⟩ = some (.int .i64 e) := new_kept hg1 (by simp) 1
      have hg2 := gr_trans (World.grownBy_alloc w _ none) hg1
      go_wp2_with (go_at_call 49; refine (isMoment_any _ _).mono ?_; rintro r w' ⟨rfl, rfl⟩)
      refine (sun_any _ _ _ _ h1 (by omega) (by omega) (by omega) (by omega) (by omega)).mono ?_
      rintro r w2 ⟨rfl, hg3⟩
      go_wp2_with fail
      go_ret2
      exact ⟨ret_2i (by unfold okI; rw [HE.out]; rfl) HE.out.symm, gr_trans hg2 hg3⟩
    · have HE := Lib.hid ((sunE_ok (a := x) hs).trans he)
      clear he
      go_enter Try.func11, Try.ntmps11
      go_wp2_with fail
      refine (checkSite_any _ _ _).mono ?_
      rintro r w1 ⟨rfl, hg1⟩
      have hg2 := gr_trans (World.grownBy_alloc w _ none) hg1
      go_wp2_with (go_at_call 49; refine (isMoment_any _ _).mono ?_; rintro r w' ⟨rfl, rfl⟩)
      go_ret2
      exact ⟨ret_2i (by unfold okI; rw [HE.out]; rfl) HE.out.symm, hg2⟩
  · have HE := Lib.hid (sunE_bad (a := x) hs)
    go_enter Try.func11, Try.ntmps11
    go_wp2_with fail
    refine (checkSite_any _ _ _).mono ?_
    rintro r w1 ⟨rfl, hg1⟩
    have hg2 := gr_trans (World.grownBy_alloc w _ none) hg1
    go_wp2_with fail
    go_ret2
    exact ⟨ret_2i (by unfold okI; rw [HE.out]; rfl) HE.out.symm, hg2⟩

/-- Is it grey? -/
def greyB (n e a within : Int) : Bool := !outB (sunI n e a) (-within) within
def greyE (n e a within : Int) : Int := if sunE n e a = 0 then spanE within 0 200000 else sunE n e a

set_option maxHeartbeats 400000 in
theorem grey_any (n e x within : Int) (w : World) (h0 : 0 ≤ x) (h1 : x ≤ 400000000000) (n0 : -10000000 ≤ n) (n1 : n ≤ 10000000) (e0 : -10000000 ≤ e) (e1 : e ≤ 10000000) (v0 : 0 ≤ within) (v1 : within ≤ 10000000) :
    Calls Try.prog 54 #[.agg #[.int .i64 n, .int .i64 e], .int .i64 x, .int .i64 within] w fun r w' => r = .returned (.bool (greyB n e x within)) ∧ w.grownBy w' none := by
  go_enter Try.func54, Try.ntmps54
  go_wp2_with fail
  refine (sun_any _ _ _ _ h0 h1 n0 n1 e0 e1).mono ?_
  rintro r w2 ⟨rfl, hg3⟩
  go_wp2_with fail
  refine (outside_any _ _ _ _).mono ?_
  rintro r w' ⟨rfl, rfl⟩
  go_wp2_with fail
  go_ret
  exact ⟨rfl, gr_trans (World.grownBy_alloc w _ none) hg3⟩

set_option maxHeartbeats 400000 in
theorem greyAt_any (n e x within : Int) (w : World) (h0 : 0 ≤ x) (h1 : x ≤ 400000000000) (n0 : -10000000 ≤ n) (n1 : n ≤ 10000000) (e0 : -10000000 ≤ e) (e1 : e ≤ 10000000) (v0 : 0 ≤ within) (v1 : within ≤ 10000000) :
    Calls Try.prog 19 #[.agg #[.int .i64 n, .int .i64 e], .int .i64 x, .int .i64 within] w fun r w' => r = .returned (.bool (greyB n e x within)) ∧ w.grownBy w' none := by
  go_enter Try.func19, Try.ntmps19
  go_wp2_with fail
  refine (sunOf_any _ _ _ _ h0 h1 n0 n1 e0 e1).mono ?_
  rintro r w2 ⟨rfl, hg3⟩
  go_wp2_with fail
  refine (in_any _ _ _ _).mono ?_
  rintro r w' ⟨rfl, rfl⟩
  go_wp2_with fail
  go_ret
  exact ⟨rfl, gr_trans (World.grownBy_alloc w _ none) hg3⟩

theorem greyE_ok {n e a v : Int} (h : sunE n e a = 0) : greyE n e a v = spanE v 0 200000 := by unfold greyE; rw [if_pos h]
theorem greyE_bad {n e a v : Int} (h : sunE n e a = 1) : greyE n e a v = 1 := by unfold greyE; rw [if_neg (by omega), h]

set_option maxHeartbeats 400000 in
theorem greyE_any (n e x v : Int) (w : World) :
    Calls Try.prog 12 #[.agg #[.int .i64 n, .int .i64 e], .int .i64 x, .int .i64 v] w fun r w' =>
      r = .returned (.tuple #[.bool (okB (greyE n e x v) (greyB n e x v)), .int .i64 (greyE n e x v)]) ∧ w.grownBy w' none := by
  rcases siteE_cases n e with ⟨hs, s1, s2, s3, s4⟩ | hs
  · rcases momE_cases x with ⟨he, hb, h1, h2⟩ | ⟨he, hb⟩
    · rcases spanE_cases v 0 200000 with ⟨hv, v1, v2⟩ | ⟨hv, v1⟩
      · have HE := Lib.hid ((greyE_ok (v := v) ((sunE_ok (a := x) hs).trans he)).trans hv)
        have hbv : outB v 0 200000 = false := outB_no v1 v2
        clear he hv
        go_enter Try.func12, Try.ntmps12
        go_wp2_with fail
        refine (checkSite_any _ _ _).mono ?_
        rintro r w1 ⟨rfl, hg1⟩
        have c0 : w1.cell? ⟨w.heap.size, 0, none⟩ = some (.int .i64 n) := new_kept hg1 (by simp) 0
        have c1 : w1.cell? ⟨w.heap.size, 1, none⟩ = some (.int .i64 e) := new_kept hg1 (by simp) 1
        have hg2 := gr_trans (World.grownBy_alloc w _ none) hg1
        go_wp2_with (first | (go_at_call 49; refine (isMoment_any _ _).mono ?_; rintro r w' ⟨rfl, rfl⟩) | (go_at_call 53; refine (outside_any _ _ _ _).mono ?_; rintro r w' ⟨rfl, rfl⟩))
        refine (grey_any _ _ _ _ _ h1 (by omega) (by omega) (by omega) (by omega) (by omega) v1 (by omega)).mono ?_
        rintro r w2 ⟨rfl, hg3⟩
        go_wp2_with fail
        go_ret2
        exact ⟨ret_bi (by unfold okB; rw [HE.out]; rfl) HE.out.symm, gr_trans hg2 hg3⟩
      · have HE := Lib.hid ((greyE_ok (v := v) ((sunE_ok (a := x) hs).trans he)).trans hv)
        have hbv : outB v 0 200000 = true := outB_yes v1
        clear he hv
        go_enter Try.func12, Try.ntmps12
        go_wp2_with fail
        refine (checkSite_any _ _ _).mono ?_
        rintro r w1 ⟨rfl, hg1⟩
        have hg2 := gr_trans (World.grownBy_alloc w _ none) hg1
        go_wp2_with (first | (go_at_call 49; refine (isMoment_any _ _).mono ?_; rintro r w' ⟨rfl, rfl⟩) | (go_at_call 53; refine (outside_any _ _ _ _).mono ?_; rintro r w' ⟨rfl, rfl⟩))
        go_ret2
        exact ⟨ret_bi (by unfold okB; rw [HE.out]; rfl) HE.out.symm, hg2⟩
    · have HE := Lib.hid (greyE_bad (v := v) ((sunE_ok (a := x) hs).trans he))
      clear he
      go_enter Try.func12, Try.ntmps12
      go_wp2_with fail
      refine (checkSite_any _ _ _).mono ?_
      rintro r w1 ⟨rfl, hg1⟩
      have hg2 := gr_trans (World.grownBy_alloc w _ none) hg1
      go_wp2_with (first | (go_at_call 49; refine (isMoment_any _ _).mono ?_; rintro r w' ⟨rfl, rfl⟩))
      go_ret2
      exact ⟨ret_bi (by unfold okB; rw [HE.out]; rfl) HE.out.symm, hg2⟩
  · have HE := Lib.hid (greyE_bad (v := v) (sunE_bad (a := x) hs))
    go_enter Try.func12, Try.ntmps12
    go_wp2_with fail
    refine (checkSite_any _ _ _).mono ?_
    rintro r w1 ⟨rfl, hg1⟩
    have hg2 := gr_trans (World.grownBy_alloc w _ none) hg1
    go_wp2_with fail
    go_ret2
    exact ⟨ret_bi (by unfold okB; rw [HE.out]; rfl) HE.out.symm, hg2⟩

theorem cos60 : cosI 216000 = 500000 := by decide +kernel

set_option maxHeartbeats 400000 in
theorem placed_any (w : World) : Calls Try.prog 20 #[] w fun r w' => r = .returned (.bool true) ∧ w = w' := by
  have h1 : spanE 216000 (-1296000000) 1296000000 = 0 := spanE_no (by omega) (by omega)
  have h2 : okI 0 (cosI 216000) = 500000 := cos60
  go_enter Try.func20, Try.ntmps20
  go_wp2_with fail
  refine (cosineE_any _ _).mono ?_
  rintro r w' ⟨rfl, rfl⟩
  go_wp2_with fail
  go_ret
  exact ⟨rfl, rfl⟩
end Go.Proofs.Ytngdjeggigkmlaa
