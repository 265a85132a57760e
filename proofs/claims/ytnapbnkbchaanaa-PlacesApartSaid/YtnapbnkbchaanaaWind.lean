/- The walks over place.Distance and place.Wind. Condition: sites without error. -/
import Derived.Test.YtnapbnkbchaanaaDist
namespace Go.Proofs.Ytnapbnkbchaanaa
open Go.RowKit
set_option linter.unusedVariables false

set_option maxHeartbeats 400000 in
theorem distance_ok (n e n2 e2 : Int) (w : World) (h1 : siteE n e = 0) (h2 : siteE n2 e2 = 0) :
    Calls Try.prog 16 #[.agg #[.int .i64 n, .int .i64 e], .agg #[.int .i64 n2, .int .i64 e2]] w fun r w' => r = .returned (.tuple #[.int .i64 (distI n e n2 e2), .int .i64 0]) ∧ w.grownBy w' none := by
  obtain ⟨a0, a1, b0, b1⟩ := siteE_rng h1
  obtain ⟨c0, c1, d0, d1⟩ := siteE_rng h2
  have HBE : Hid (bothE n e n2 e2 = 0) := by show _ = _; unfold bothE; rw [if_pos h1, h2]
  have HD := Lib.hid (fun W => distance_any n e n2 e2 W a0 a1 b0 (by omega) c0 c1 d0 (by omega))
  obtain ⟨W, hW, hx, hy, hG⟩ := two_sites w n e n2 e2
  have HW := Lib.hid hW
  clear hW h1 h2
  go_enter Try.func16, Try.ntmps16
  go_wp2_with fail
  rw [← HW.out]
  refine (checkBoth_any _ _ _ _ _).mono ?_
  rintro _ w1 ⟨rfl, hg⟩
  rw [HBE.out]
  replace hx := hx.grown hg (by simp)
  replace hy := hy.grown hg (by simp)
  replace hG := gr_trans hG hg
  clear hg
  obtain ⟨x0, x1⟩ := hx.cells2
  obtain ⟨y0, y1⟩ := hy.cells2
  go_wp2_with fail
  refine (HD.out _).mono ?_
  rintro _ w2 ⟨rfl, hg⟩
  go_wp2_with fail
  go_ret2
  exact ⟨rfl, gr_trans hG hg⟩

def windV (dn de : Int) : Int := if dn = 0 ∧ de = 0 then 0 else windI dn de
def windErr (dn de : Int) : Int := if dn = 0 ∧ de = 0 then 8 else 0

set_option maxRecDepth 100000 in
set_option maxHeartbeats 4000000 in
theorem wind_ok (n e n2 e2 : Int) (w : World) (h1 : siteE n e = 0) (h2 : siteE n2 e2 = 0) :
    Calls Try.prog 17 #[.agg #[.int .i64 n, .int .i64 e], .agg #[.int .i64 n2, .int .i64 e2]] w fun r w' =>
      r = .returned (.tuple #[.int .i64 (windV (northI n n2) (eastI n e n2 e2)), .int .i64 (windErr (northI n n2) (eastI n e n2 e2))]) ∧ w.grownBy w' none := by
  obtain ⟨a0, a1, b0, b1⟩ := siteE_rng h1
  obtain ⟨c0, c1, d0, d1⟩ := siteE_rng h2
  have HBE : Hid (bothE n e n2 e2 = 0) := by show _ = _; unfold bothE; rw [if_pos h1, h2]
  have HM := Lib.hid (fun W => inMetres_any n e n2 e2 W a0 a1 b0 (by omega) c0 c1 d0 (by omega))
  have q1 := northI_bd a0 a1 c0 c1
  have q2 := eastI_bd n e n2 e2
  generalize northI n n2 = dn at *
  generalize eastI n e n2 e2 = de at *
  obtain ⟨W, hW, hx, hy, hG⟩ := two_sites w n e n2 e2
  have HW := Lib.hid hW
  clear hW h1 h2
  obtain ⟨q10, q11⟩ := q1
  obtain ⟨q20, q21⟩ := q2
  obtain ⟨X, hX⟩ : ∃ X, max dn (-dn) = X := ⟨_, rfl⟩
  obtain ⟨Y, hY⟩ : ∃ Y, max de (-de) = Y := ⟨_, rfl⟩
  have X0 : 0 ≤ X := by omega
  have X1 : X ≤ 20000000 := by omega
  have Y0 : 0 ≤ Y := by omega
  have Y1 : Y ≤ 20000000 := by omega
  have HXX := Lib.hid hX
  have HYY := Lib.hid hY
  by_cases z1 : X = 0 ∧ Y = 0
  · have HV1 : Hid (windV dn de = 0) := by show _ = _; unfold windV; rw [if_pos (by omega)]
    have HV2 : Hid (windErr dn de = 8) := by show _ = _; unfold windErr; rw [if_pos (by omega)]
    obtain ⟨rfl, rfl⟩ := z1
    clear q10 q11 q20 q21
    go_enter Try.func17, Try.ntmps17
    go_wp2_with fail
    rw [← HW.out]
    refine (checkBoth_any _ _ _ _ _).mono ?_
    rintro _ w1 ⟨rfl, hg⟩
    rw [HBE.out]
    replace hx := hx.grown hg (by simp)
    replace hy := hy.grown hg (by simp)
    replace hG := gr_trans hG hg
    clear hg
    obtain ⟨x0, x1⟩ := hx.cells2
    obtain ⟨y0, y1⟩ := hy.cells2
    go_wp2_with fail
    refine (HM.out _).mono ?_
    rintro _ w2 ⟨rfl, hg⟩
    go_wp2_with fail
    go_ret2
    exact ⟨by rw [HV1.out, HV2.out]; rfl, gr_trans hG hg⟩
  · have HV2 : Hid (windErr dn de = 0) := by show _ = _; unfold windErr; rw [if_neg (by omega)]
    have HV1 : Hid (windV dn de = if 12 * Y ≤ 5 * X then (if 0 < dn then 0 else 4) else if 12 * X ≤ 5 * Y then (if 0 < de then 2 else 6) else if 0 < de then (if 0 < dn then 1 else 3) else if 0 < dn then 7 else 5) := by
      show _ = _
      unfold windV
      rw [if_neg (by omega)]
      unfold windI absI
      rw [hX, hY]
    by_cases hh : X = 0
    · obtain rfl : dn = 0 := by omega
      subst hh
      have hz2 : (Y == 0) = false := by rw [beq_eq_false_iff_ne]; omega
      have hz3 : ¬ Y = 0 := by omega
      have t1 : ¬ (12 * Y ≤ 0) := by omega
      rcases Int.lt_or_le 0 de with s2 | s2
      all_goals
        go_enter Try.func17, Try.ntmps17
        go_wp2_with fail
        rw [← HW.out]
        refine (checkBoth_any _ _ _ _ _).mono ?_
        rintro _ w1 ⟨rfl, hg⟩
        rw [HBE.out]
        replace hx := hx.grown hg (by simp)
        replace hy := hy.grown hg (by simp)
        replace hG := gr_trans hG hg
        clear hg
        obtain ⟨x0, x1⟩ := hx.cells2
        obtain ⟨y0, y1⟩ := hy.cells2
        go_wp2_with fail
        refine (HM.out _).mono ?_
        rintro _ w2 ⟨rfl, hg⟩
        go_wp2_with fail
        go_ret2
        exact ⟨ret_2i (by rw [HV1.out]; (repeat' split) <;> omega) HV2.out.symm, gr_trans hG hg⟩
    · have hz1 : (X == 0) = false := by rw [beq_eq_false_iff_ne]; omega
      have hdn : ¬ dn = 0 := by omega
      have h3 : (12 * Y ≤ 5 * X ∧ ¬ 12 * X ≤ 5 * Y) ∨ (¬ 12 * Y ≤ 5 * X ∧ 12 * X ≤ 5 * Y) ∨ (¬ 12 * Y ≤ 5 * X ∧ ¬ 12 * X ≤ 5 * Y) := by omega
      rcases Int.lt_or_le 0 dn with s1 | s1
      all_goals rcases Int.lt_or_le 0 de with s2 | s2
      all_goals rcases h3 with ⟨t1, t2⟩ | ⟨t1, t2⟩ | ⟨t1, t2⟩
      all_goals
        go_enter Try.func17, Try.ntmps17
        go_wp2_with fail
        rw [← HW.out]
        refine (checkBoth_any _ _ _ _ _).mono ?_
        rintro _ w1 ⟨rfl, hg⟩
        rw [HBE.out]
        replace hx := hx.grown hg (by simp)
        replace hy := hy.grown hg (by simp)
        replace hG := gr_trans hG hg
        clear hg
        obtain ⟨x0, x1⟩ := hx.cells2
        obtain ⟨y0, y1⟩ := hy.cells2
        go_wp2_with fail
        refine (HM.out _).mono ?_
        rintro _ w2 ⟨rfl, hg⟩
        go_wp2_with fail
        all_goals
          go_ret2
          exact ⟨ret_2i (by rw [HV1.out]; (repeat' split) <;> omega) HV2.out.symm, gr_trans hG hg⟩
end Go.Proofs.Ytnapbnkbchaanaa
