/- The walks over tilt and height of the sun, in package place and in the reference. Condition: moments and angles in their ranges. -/
import Derived.Test.YtngdjeggigkmlaaCos
import Derived.Test.YtngdjeggigkmlaaSunPlain
namespace Go.Proofs.Ytngdjeggigkmlaa
open Go.RowKit
set_option linter.unusedVariables false

set_option maxHeartbeats 400000 in
theorem sine_any (x : Int) (w : World) (h0 : -100000000000000 ≤ x) (h1 : x ≤ 100000000000000) :
    Calls Try.prog 79 #[.int .i64 x] w fun e w' => e = .returned (.int .i64 (sineI x)) ∧ w = w' := by
  go_enter Try.func79, Try.ntmps79
  go_wp2_with fail
  refine (cosine_any _ _ (by omega) (by omega)).mono ?_
  rintro e w' ⟨rfl, rfl⟩
  go_wp2_with fail
  go_ret
  exact ⟨rfl, rfl⟩

set_option maxHeartbeats 400000 in
theorem sineOf_any (x : Int) (w : World) (h0 : -100000000000000 ≤ x) (h1 : x ≤ 100000000000000) :
    Calls Try.prog 56 #[.int .i64 x] w fun e w' => e = .returned (.int .i64 (sineI x)) ∧ w = w' := by
  go_enter Try.func56, Try.ntmps56
  go_wp2_with fail
  refine (cosineOf_any _ _ (by omega) (by omega)).mono ?_
  rintro e w' ⟨rfl, rfl⟩
  go_wp2_with fail
  go_ret
  exact ⟨rfl, rfl⟩

theorem year_bd (a : Int) : -700000 ≤ ((a / 86400000 % 365 - 171) * 1296000).tdiv 365 ∧ ((a / 86400000 % 365 - 171) * 1296000).tdiv 365 ≤ 700000 := by
  have := tdiv_bd ((a / 86400000 % 365 - 171) * 1296000) 365 700000 (by omega) (by omega) (by omega)
  exact ⟨by omega, this.2⟩

set_option maxHeartbeats 400000 in
theorem tilt_any (x : Int) (w : World) (h0 : 0 ≤ x) (h1 : x ≤ 400000000000) :
    Calls Try.prog 50 #[.int .i64 x] w fun e w' => e = .returned (.int .i64 (tiltI x)) ∧ w = w' := by
  have hc := cosI_bd (((x / 86400000 % 365 - 171) * 1296000).tdiv 365)
  have hy := year_bd x
  obtain ⟨c0, c1⟩ := hc
  obtain ⟨y0, y1⟩ := hy
  go_enter Try.func50, Try.ntmps50
  go_wp2_with fail
  refine (cosine_any _ _ (by omega) (by omega)).mono ?_
  rintro e w' ⟨rfl, rfl⟩
  go_wp2_with fail
  go_ret
  exact ⟨rfl, rfl⟩

set_option maxHeartbeats 400000 in
theorem tiltOf_any (x : Int) (w : World) (h0 : 0 ≤ x) (h1 : x ≤ 400000000000) :
    Calls Try.prog 17 #[.int .i64 x] w fun e w' => e = .returned (.int .i64 (tiltI x)) ∧ w = w' := by
  have hc := cosI_bd (((x / 86400000 % 365 - 171) * 1296000).tdiv 365)
  have hy := year_bd x
  obtain ⟨c0, c1⟩ := hc
  obtain ⟨y0, y1⟩ := hy
  go_enter Try.func17, Try.ntmps17
  go_wp2_with fail
  refine (cosineOf_any _ _ (by omega) (by omega)).mono ?_
  rintro e w' ⟨rfl, rfl⟩
  go_wp2_with fail
  go_ret
  exact ⟨rfl, rfl⟩

/-- The sun's height out of its parts, under names: so that the walk meets numbers, not terms. -/
structure SunParts (n e at_ t cn sn ct st h ch p1 q1 p2 q2 p3 q3 : Int) : Prop where
  t_ : t = tiltI at_
  t0_ : -84384 ≤ t ∧ t ≤ 84384
  cn_ : cosI n = cn
  cn0_ : -1000000 ≤ cn ∧ cn ≤ 1000000
  sn_ : sineI n = sn
  sn0_ : -1000000 ≤ sn ∧ sn ≤ 1000000
  ct_ : cosI t = ct
  ct0_ : -1000000 ≤ ct ∧ ct ≤ 1000000
  st_ : sineI t = st
  st0_ : -1000000 ≤ st ∧ st ≤ 1000000
  h_ : hourI at_ + e = h
  ch_ : cosI h = ch
  ch0_ : -1000000 ≤ ch ∧ ch ≤ 1000000
  p1_ : sn * st = p1
  p10_ : -1000000000000 ≤ p1 ∧ p1 ≤ 1000000000000
  q1_ : p1.tdiv 1000000 = q1
  q10_ : -1000000 ≤ q1 ∧ q1 ≤ 1000000
  p2_ : cn * ct = p2
  p20_ : -1000000000000 ≤ p2 ∧ p2 ≤ 1000000000000
  q2_ : p2.tdiv 1000000 = q2
  q20_ : -1000000 ≤ q2 ∧ q2 ≤ 1000000
  p3_ : q2 * ch = p3
  p30_ : -1000000000000 ≤ p3 ∧ p3 ≤ 1000000000000
  q3_ : p3.tdiv 1000000 = q3
  q30_ : -1000000 ≤ q3 ∧ q3 ≤ 1000000
  fin_ : sunI n e at_ = q1 + q3
theorem sunParts (n e at_ : Int) : ∃ t cn sn ct st h ch p1 q1 p2 q2 p3 q3, SunParts n e at_ t cn sn ct st h ch p1 q1 p2 q2 p3 q3 := by
  have h1 := prod_bd _ _ (sineI_bd n) (sineI_bd (tiltI at_))
  have h2 := prod_bd _ _ (cosI_bd n) (cosI_bd (tiltI at_))
  have h3 := prod_bd _ _ ⟨h2.2.2.1, h2.2.2.2⟩ (cosI_bd (hourI at_ + e))
  exact ⟨_, _, _, _, _, _, _, _, _, _, _, _, _, ⟨rfl, tiltI_bd _, rfl, cosI_bd _, rfl, sineI_bd _, rfl, cosI_bd _, rfl, sineI_bd _, rfl, rfl, cosI_bd _, rfl, ⟨h1.1, h1.2.1⟩, rfl, h1.2.2,
    rfl, ⟨h2.1, h2.2.1⟩, rfl, h2.2.2, rfl, ⟨h3.1, h3.2.1⟩, rfl, h3.2.2, rfl⟩⟩

theorem i64_in (n : Int) (h : -9223372036854775808 ≤ n ∧ n ≤ 9223372036854775807) : IntKind.i64.wrap n = n := IntWalk.i64_in n h

set_option maxHeartbeats 1000000 in
theorem sun_any (n e x : Int) (w : World) (h0 : 0 ≤ x) (h1 : x ≤ 400000000000) (n0 : -10000000 ≤ n) (n1 : n ≤ 10000000) (e0 : -10000000 ≤ e) (e1 : e ≤ 10000000) :
    Calls Try.prog 52 #[.agg #[.int .i64 n, .int .i64 e], .int .i64 x] w fun r w' => r = .returned (.int .i64 (sunI n e x)) ∧ w.grownBy w' none := by
  obtain ⟨t, cn, sn, ct, st, h, ch, p1, q1, p2, q2, p3, q3, S⟩ := sunParts n e x
  have hh := hourI_bd x
  have hhd : hourI x = ((x % 86400000 - 43200000) * 1296000).tdiv 86400000 := rfl
  rw [hhd] at hh
  obtain ⟨hh0, hh1⟩ := hh
  have HD := Lib.hid hhd
  clear hhd
  go_enter Try.func52, Try.ntmps52
  go_wp2_with fail
  refine (tilt_any _ _ h0 h1).mono ?_
  rintro _ w' ⟨rfl, rfl⟩
  rw [← S.t_]
  have ht := S.t0_
  obtain ⟨t0, t1⟩ := ht
  go_wp2_with fail
  have k1 := S.cn_
  have k2 := S.sn_
  have k3 := S.ct_
  have k4 := S.st_
  have k5 := S.ch_
  have k6 := S.h_
  rw [HD.out] at k6
  have m1 : IntKind.i64.wrap (sn * st) = p1 := by rw [S.p1_]; have := S.p10_; exact i64_in _ ⟨by omega, by omega⟩
  have m2 : IntKind.i64.wrap (p1.tdiv 1000000) = q1 := by rw [S.q1_]; have := S.q10_; exact i64_in _ ⟨by omega, by omega⟩
  have m3 : IntKind.i64.wrap (cn * ct) = p2 := by rw [S.p2_]; have := S.p20_; exact i64_in _ ⟨by omega, by omega⟩
  have m4 : IntKind.i64.wrap (p2.tdiv 1000000) = q2 := by rw [S.q2_]; have := S.q20_; exact i64_in _ ⟨by omega, by omega⟩
  have m5 : IntKind.i64.wrap (q2 * ch) = p3 := by rw [S.p3_]; have := S.p30_; exact i64_in _ ⟨by omega, by omega⟩
  have m6 : IntKind.i64.wrap (p3.tdiv 1000000) = q3 := by rw [S.q3_]; have := S.q30_; exact i64_in _ ⟨by omega, by omega⟩
  have m7 : IntKind.i64.wrap (q1 + q3) = q1 + q3 := by have := S.q10_; have := S.q30_; exact i64_in _ ⟨by omega, by omega⟩
  rw [k6]
  have hb0 : -11000000 ≤ h := by omega
  have hb1 : h ≤ 11000000 := by omega
  clear k6
  go_quiet ((first | (go_at_call 79; first | exact quiet_same (sine_any _ _ (by omega) (by omega)) | exact quiet_n (sine_any _ _ (by omega) (by omega)) | exact quiet_add (sine_any _ _ (by omega) (by omega))) | (go_at_call 65; first | exact quiet_same (cosine_any _ _ (by omega) (by omega)) | exact quiet_n (cosine_any _ _ (by omega) (by omega)) | exact quiet_add (cosine_any _ _ (by omega) (by omega)))))
  go_wp2_with fail
  go_ret
  exact ⟨ret_of S.fin_.symm, by repeat (first | exact gr_refl _ _ | refine gr_drewN ?_ _ | refine gr_alloc ?_ _)⟩

set_option maxHeartbeats 1000000 in
theorem sunOf_any (n e x : Int) (w : World) (h0 : 0 ≤ x) (h1 : x ≤ 400000000000) (n0 : -10000000 ≤ n) (n1 : n ≤ 10000000) (e0 : -10000000 ≤ e) (e1 : e ≤ 10000000) :
    Calls Try.prog 18 #[.agg #[.int .i64 n, .int .i64 e], .int .i64 x] w fun r w' => r = .returned (.int .i64 (sunI n e x)) ∧ w.grownBy w' none := by
  obtain ⟨t, cn, sn, ct, st, h, ch, p1, q1, p2, q2, p3, q3, S⟩ := sunParts n e x
  have hh := hourI_bd x
  have hhd : hourI x = ((x % 86400000 - 43200000) * 1296000).tdiv 86400000 := rfl
  rw [hhd] at hh
  obtain ⟨hh0, hh1⟩ := hh
  have HD := Lib.hid hhd
  clear hhd
  go_enter Try.func18, Try.ntmps18
  go_wp2_with fail
  refine (tiltOf_any _ _ h0 h1).mono ?_
  rintro _ w' ⟨rfl, rfl⟩
  rw [← S.t_]
  have ht := S.t0_
  obtain ⟨t0, t1⟩ := ht
  go_wp2_with fail
  have k1 := S.cn_
  have k2 := S.sn_
  have k3 := S.ct_
  have k4 := S.st_
  have k5 := S.ch_
  have k6 := S.h_
  rw [HD.out] at k6
  have m1 : IntKind.i64.wrap (sn * st) = p1 := by rw [S.p1_]; have := S.p10_; exact i64_in _ ⟨by omega, by omega⟩
  have m2 : IntKind.i64.wrap (p1.tdiv 1000000) = q1 := by rw [S.q1_]; have := S.q10_; exact i64_in _ ⟨by omega, by omega⟩
  have m3 : IntKind.i64.wrap (cn * ct) = p2 := by rw [S.p2_]; have := S.p20_; exact i64_in _ ⟨by omega, by omega⟩
  have m4 : IntKind.i64.wrap (p2.tdiv 1000000) = q2 := by rw [S.q2_]; have := S.q20_; exact i64_in _ ⟨by omega, by omega⟩
  have m5 : IntKind.i64.wrap (q2 * ch) = p3 := by rw [S.p3_]; have := S.p30_; exact i64_in _ ⟨by omega, by omega⟩
  have m6 : IntKind.i64.wrap (p3.tdiv 1000000) = q3 := by rw [S.q3_]; have := S.q30_; exact i64_in _ ⟨by omega, by omega⟩
  have m7 : IntKind.i64.wrap (q1 + q3) = q1 + q3 := by have := S.q10_; have := S.q30_; exact i64_in _ ⟨by omega, by omega⟩
  rw [k6]
  have hb0 : -11000000 ≤ h := by omega
  have hb1 : h ≤ 11000000 := by omega
  clear k6
  go_quiet ((first | (go_at_call 56; first | exact quiet_same (sineOf_any _ _ (by omega) (by omega)) | exact quiet_n (sineOf_any _ _ (by omega) (by omega)) | exact quiet_add (sineOf_any _ _ (by omega) (by omega))) | (go_at_call 34; first | exact quiet_same (cosineOf_any _ _ (by omega) (by omega)) | exact quiet_n (cosineOf_any _ _ (by omega) (by omega)) | exact quiet_add (cosineOf_any _ _ (by omega) (by omega)))))
  go_wp2_with fail
  go_ret
  exact ⟨ret_of S.fin_.symm, by repeat (first | exact gr_refl _ _ | refine gr_drewN ?_ _ | refine gr_alloc ?_ _)⟩
end Go.Proofs.Ytngdjeggigkmlaa
