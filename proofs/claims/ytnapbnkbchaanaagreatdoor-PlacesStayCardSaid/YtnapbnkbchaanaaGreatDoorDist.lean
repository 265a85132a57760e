/- The walks over package place's ways: around, between, inMetres, root, distance. Condition: sites without error. -/
import Derived.Test.YtnapbnkbchaanaaGreatDoorDistPlain
import Derived.Test.YtnapbnkbchaanaaGreatDoorStream
import Derived.Test.YtnapbnkbchaanaaGreatDoorSky0
namespace Go.Proofs.YtnapbnkbchaanaaGreatDoor
open Go.RowKit
set_option linter.unusedVariables false

set_option maxHeartbeats 400000 in
theorem around_any (x : Int) (w : World) (h0 : -100000000 ≤ x) (h1 : x ≤ 100000000) :
    Calls Tryz.prog 99 #[.int .i64 x] w fun e w' => e = .returned (.int .i64 (aroundI x)) ∧ w = w' := by
  have ht := tmod_lo (x + 648000) 1296000 (by omega)
  obtain ⟨t1, t2⟩ := ht
  have hc := tmod_circle (x + 648000)
  by_cases hx : 0 ≤ x + 648000
  · have HE : Hid ((x + 648000) % 1296000 - 648000 = aroundI x) := rfl
    clear hc t1 t2
    go_enter Tryz.func99, Tryz.ntmps99
    go_wp2_with fail
    go_ret
    exact ⟨ret_of HE.out, rfl⟩
  · have HE : Hid ((x + 648000).tmod 1296000 % 1296000 - 648000 = aroundI x) := by show _ = _; unfold aroundI; omega
    clear hc
    go_enter Tryz.func99, Tryz.ntmps99
    go_wp2_with fail
    go_ret
    exact ⟨ret_of HE.out, rfl⟩

/-- Two sites that have just been laid. -/
theorem two_sites (w : World) (n e n2 e2 : Int) : ∃ W, W = (w.alloc (.cells #[.int .i64 n, .int .i64 e] 62)).alloc (.cells #[.int .i64 n2, .int .i64 e2] 62) ∧
    Blk W w.heap.size 62 #[.int .i64 n, .int .i64 e] ∧ Blk W (w.heap.size + 1) 62 #[.int .i64 n2, .int .i64 e2] ∧ w.grownBy W none := by
  have h := Blk.new (w.alloc (.cells #[.int .i64 n, .int .i64 e] 62)) 62 #[.int .i64 n2, .int .i64 e2]
  rw [World.size_alloc] at h
  exact ⟨_, rfl, (Blk.new w _ _).alloc _, h, gr_alloc (World.grownBy_alloc w _ none) _⟩

set_option maxHeartbeats 400000 in
theorem between_any (n e n2 e2 : Int) (w : World) (a0 : -324000 ≤ n) (a1 : n ≤ 324000) (b0 : -648000 ≤ e) (b1 : e ≤ 648000) (c0 : -324000 ≤ n2) (c1 : n2 ≤ 324000) (d0 : -648000 ≤ e2) (d1 : e2 ≤ 648000) :
    Calls Tryz.prog 98 #[.agg #[.int .i64 n, .int .i64 e], .agg #[.int .i64 n2, .int .i64 e2]] w fun r w' => r = .returned (.tuple #[.int .i64 (n2 - n), .int .i64 (aroundI (e2 - e))]) ∧ w.grownBy w' none := by
  have m1 : IntKind.i64.wrap (n2 - n) = n2 - n := i64_in _ ⟨by omega, by omega⟩
  have m2 : IntKind.i64.wrap (e2 - e) = e2 - e := i64_in _ ⟨by omega, by omega⟩
  have HA : Hid (∀ W : World, Calls Tryz.prog 99 #[.int .i64 (e2 - e)] W fun r w' => r = .returned (.int .i64 (aroundI (e2 - e))) ∧ W = w') := fun W => around_any _ _ (by omega) (by omega)
  go_enter Tryz.func98, Tryz.ntmps98
  go_wp2_with fail
  go_quiet ((go_at_call 99; first | exact quiet_same (HA.out _) | exact quiet_n (HA.out _) | exact quiet_add (HA.out _)))
  go_wp2_with fail
  go_ret2
  exact ⟨rfl, by repeat (first | exact gr_refl _ _ | refine gr_drewN ?_ _ | refine gr_drew ?_ | refine gr_alloc ?_ _)⟩

set_option maxHeartbeats 1000000 in
theorem inMetres_any (n e n2 e2 : Int) (w : World) (a0 : -324000 ≤ n) (a1 : n ≤ 324000) (b0 : -648000 ≤ e) (b1 : e ≤ 648000) (c0 : -324000 ≤ n2) (c1 : n2 ≤ 324000) (d0 : -648000 ≤ e2) (d1 : e2 ≤ 648000) :
    Calls Tryz.prog 156 #[.agg #[.int .i64 n, .int .i64 e], .agg #[.int .i64 n2, .int .i64 e2]] w fun r w' => r = .returned (.tuple #[.int .i64 (northI n n2), .int .i64 (eastI n e n2 e2)]) ∧ w.grownBy w' none := by
  have hd := aroundI_bd' (e2 - e)
  have hc := cosI_bd ((n + n2).tdiv 2)
  have hp := eastP_bd _ _ hd.1 hd.2 hc.1 hc.2
  have hm1 := northI_bd a0 a1 c0 c1
  have hm2 := eastI_bd n e n2 e2
  obtain ⟨d, hdd⟩ : ∃ d, d = aroundI (e2 - e) := ⟨_, rfl⟩
  obtain ⟨s, hss⟩ : ∃ s, s = (n + n2).tdiv 2 := ⟨_, rfl⟩
  obtain ⟨c, hcc⟩ : ∃ c, c = cosI s := ⟨_, rfl⟩
  obtain ⟨p, hpp⟩ : ∃ p, p = d * c := ⟨_, rfl⟩
  obtain ⟨q, hqq⟩ : ∃ q, q = p.tdiv 1000000 := ⟨_, rfl⟩
  obtain ⟨t, htt⟩ : ∃ t, t = (q * 10000000).tdiv 324000 := ⟨_, rfl⟩
  obtain ⟨v, hvv⟩ : ∃ v, v = ((n2 - n) * 10000000).tdiv 324000 := ⟨_, rfl⟩
  have HF1 : Hid (northI n n2 = v) := by show _ = _; rw [hvv]; rfl
  have HF2 : Hid (eastI n e n2 e2 = t) := by show _ = _; rw [htt, hqq, hpp, hcc, hss, hdd]; rfl
  rw [HF1.out] at hm1
  rw [HF2.out] at hm2
  rw [← hss, ← hcc, ← hdd, ← hpp, ← hqq] at hp
  have hs0 : -324000 ≤ s ∧ s ≤ 324000 := by rw [hss]; exact tdiv_bd _ _ _ (by omega) (by omega) (by omega)
  obtain ⟨s0, s1⟩ := hs0
  obtain ⟨p0, p1, q0, q1⟩ := hp
  rw [← hdd] at hd
  obtain ⟨g0, g1⟩ := hd
  obtain ⟨v0, v1⟩ := hm1
  obtain ⟨t0, t1⟩ := hm2
  have m1 : IntKind.i64.wrap (d * c) = p := by rw [← hpp]; exact i64_in _ ⟨by omega, by omega⟩
  have m2 : IntKind.i64.wrap (p.tdiv 1000000) = q := by rw [← hqq]; exact i64_in _ ⟨by omega, by omega⟩
  have m3 : IntKind.i64.wrap (q * 10000000) = q * 10000000 := i64_in _ ⟨by omega, by omega⟩
  have m4 : IntKind.i64.wrap ((q * 10000000).tdiv 324000) = t := by rw [← htt]; exact i64_in _ ⟨by omega, by omega⟩
  have m5 : IntKind.i64.wrap ((n2 - n) * 10000000) = (n2 - n) * 10000000 := i64_in _ ⟨by omega, by omega⟩
  have m6 : IntKind.i64.wrap (((n2 - n) * 10000000).tdiv 324000) = v := by rw [← hvv]; exact i64_in _ ⟨by omega, by omega⟩
  have m7 : IntKind.i64.wrap (n + n2) = n + n2 := i64_in _ ⟨by omega, by omega⟩
  have m8 : IntKind.i64.wrap ((n + n2).tdiv 2) = s := by rw [← hss]; exact i64_in _ ⟨by omega, by omega⟩
  have HC : Hid (∀ W : World, Calls Tryz.prog 145 #[.int .i64 s] W fun r w' => r = .returned (.int .i64 c) ∧ W = w') := fun W => by
    have := cosine_any s W (by omega) (by omega)
    rw [← hcc] at this
    exact this
  have HB : Hid (∀ W : World, Calls Tryz.prog 98 #[.agg #[.int .i64 n, .int .i64 e], .agg #[.int .i64 n2, .int .i64 e2]] W fun r w' => r = .returned (.tuple #[.int .i64 (n2 - n), .int .i64 d]) ∧ W.grownBy w' none) := fun W => by
    have := between_any n e n2 e2 W a0 a1 b0 b1 c0 c1 d0 d1
    rw [← hdd] at this
    exact this
  clear hdd hss hcc hpp hqq htt hvv hc
  obtain ⟨W, hW, hx, hy, hG⟩ := two_sites w n e n2 e2
  have HW := Lib.hid hW
  clear hW
  go_enter Tryz.func156, Tryz.ntmps156
  go_wp2_with fail
  rw [← HW.out]
  refine (HB.out _).mono ?_
  rintro _ w1 ⟨rfl, hg⟩
  replace hx := hx.grown hg (by simp)
  replace hy := hy.grown hg (by simp)
  replace hG := gr_trans hG hg
  obtain ⟨x0, x1⟩ := hx.cells2
  obtain ⟨y0, y1⟩ := hy.cells2
  go_wp2_with fail
  refine (HC.out _).mono ?_
  rintro _ _ ⟨rfl, rfl⟩
  go_wp2_with fail
  go_ret2
  exact ⟨by rw [HF1.out, HF2.out]; rfl, by repeat (first | exact hG | refine gr_drewN ?_ _ | refine gr_drew ?_ | refine gr_alloc ?_ _)⟩

set_option maxHeartbeats 1000000 in
theorem root_any (n : Int) (w : World) (h0 : 0 ≤ n) (h1 : n ≤ 4000000000000000000) :
    Calls Tryz.prog 157 #[.int .i64 n] w fun r w' => r = .returned (.int .i64 (rootI n)) ∧ w = w' := by
  go_enter Tryz.func157, Tryz.ntmps157
  go_wp2_with fail
  go_loop [3, 4] (fun l h => ∃ (lo hi : Int) (k : Nat), l = .int .i64 lo ∧ h = .int .i64 hi ∧ BisRel n lo hi k) (fun l h => (intOf h - intOf l).toNat)
  case atStart => exact ⟨0, 2147483648, 31, rfl, rfl, BisRel.start n⟩
  case round =>
    obtain ⟨lo, hi, k, rfl, rfl, R⟩ := hrel
    have l0 := R.l0
    have lh := R.lh
    have hh := R.h1
    by_cases hlt : lo + 1 < hi
    · obtain ⟨j, rfl⟩ := R.some hlt
      have RL := Lib.hid (R.low hlt)
      have RH := Lib.hid (R.high hlt)
      obtain ⟨m, hm⟩ : ∃ m, m = (lo + hi) / 2 := ⟨_, rfl⟩
      have hm0 : 0 ≤ m := by omega
      have hm1 : m ≤ 2147483647 := by omega
      have hml : lo < m := by omega
      have hmh : m < hi := by omega
      have hsq : 0 ≤ m * m ∧ m * m ≤ 4611686018427387904 := ⟨Int.mul_nonneg hm0 hm0, by have := Int.mul_le_mul (a := m) (b := m) (c := 2147483648) (d := 2147483648) (by omega) (by omega) hm0 (by omega); omega⟩
      obtain ⟨q0, q1⟩ := hsq
      have e1 : IntKind.i64.wrap (m * m) = m * m := i64_in _ ⟨by omega, by omega⟩
      have RL2 : Hid (m * m ≤ n → BisRel n m hi j) := by show _ → _; rw [hm]; exact RL.out
      have RH2 : Hid (¬ m * m ≤ n → BisRel n lo m j) := by show _ → _; rw [hm]; exact RH.out
      have e2 : (lo + hi) / 2 = m := hm.symm
      clear hm RL RH R
      by_cases hle : m * m ≤ n
      · have R2 := RL2.out hle
        have HR := Lib.hid R2
        clear RL2 RH2 R2
        go_wp2_with fail
        go_round
        case rel => exact ⟨_, _, _, rfl, rfl, by rw [e2]; exact HR.out⟩
        case measure => simp [intOf]; omega
      · have R2 := RH2.out hle
        have HR := Lib.hid R2
        clear RL2 RH2 R2
        go_wp2_with fail
        go_round
        case rel => exact ⟨_, _, _, rfl, rfl, by rw [e2]; exact HR.out⟩
        case measure => simp [intOf]; omega
    · have HE : Hid (rootI n = lo) := by show _ = _; rw [R.eq, bis_done n k lo hi hlt]
      clear R
      go_wp2_with fail
      go_ret
      exact ⟨ret_of HE.out.symm, rfl⟩

set_option maxHeartbeats 400000 in
theorem distance_any (n e n2 e2 : Int) (w : World) (a0 : -324000 ≤ n) (a1 : n ≤ 324000) (b0 : -648000 ≤ e) (b1 : e ≤ 648000) (c0 : -324000 ≤ n2) (c1 : n2 ≤ 324000) (d0 : -648000 ≤ e2) (d1 : e2 ≤ 648000) :
    Calls Tryz.prog 94 #[.agg #[.int .i64 n, .int .i64 e], .agg #[.int .i64 n2, .int .i64 e2]] w fun r w' => r = .returned (.int .i64 (distI n e n2 e2)) ∧ w.grownBy w' none := by
  have HM := Lib.hid (fun W => inMetres_any n e n2 e2 W a0 a1 b0 b1 c0 c1 d0 d1)
  have hx := northI_bd a0 a1 c0 c1
  have hy := eastI_bd n e n2 e2
  have HE : Hid (distI n e n2 e2 = rootI (northI n n2 * northI n n2 + eastI n e n2 e2 * eastI n e n2 e2)) := rfl
  generalize northI n n2 = x at *
  generalize eastI n e n2 e2 = y at *
  have hxx := sq_big x hx.1 hx.2
  have hyy := sq_big y hy.1 hy.2
  obtain ⟨W, hW, -, -, hG⟩ := two_sites w n e n2 e2
  have HW := Lib.hid hW
  have m1 : IntKind.i64.wrap (x * x) = x * x := i64_in _ ⟨by omega, by omega⟩
  have m2 : IntKind.i64.wrap (y * y) = y * y := i64_in _ ⟨by omega, by omega⟩
  clear hW
  go_enter Tryz.func94, Tryz.ntmps94
  go_wp2_with fail
  rw [← HW.out]
  refine (HM.out _).mono ?_
  rintro _ w1 ⟨rfl, hg⟩
  obtain ⟨hx0, hx1⟩ := hxx
  obtain ⟨hy0, hy1⟩ := hyy
  go_wp2_with fail
  refine (root_any _ _ (by omega) (by omega)).mono ?_
  rintro _ _ ⟨rfl, rfl⟩
  go_wp2_with fail
  go_ret
  exact ⟨ret_of HE.out.symm, gr_trans hG hg⟩
end Go.Proofs.YtnapbnkbchaanaaGreatDoor
