/- The error ways of place.Distance, Wind and Way; NoneFault; slices.Equal at two slices of sites that are equal. No condition but the errors. -/
import Derived.Test.YtnapbnkbchaanaaWind
import Derived.Test.YtnapbnkbchaanaaWay
import Derived.Test.YtnapbnkbchaanaaPairs
namespace Go.Proofs.Ytnapbnkbchaanaa
open Go.RowKit
set_option linter.unusedVariables false

theorem noneFault_any (b : Bool) (w : World) :
    Calls Try.prog 21 #[.bool b] w fun r w' => r = .returned (.int .i64 (if b then 8 else 0)) ∧ w = w' := by
  cases b
  all_goals
    go_enter Try.func21, Try.ntmps21
    go_wp2_with fail
    go_ret
    exact ⟨rfl, rfl⟩

theorem distance_bad (n e n2 e2 : Int) (w : World) (h : bothE n e n2 e2 = 1) :
    Calls Try.prog 16 #[.agg #[.int .i64 n, .int .i64 e], .agg #[.int .i64 n2, .int .i64 e2]] w fun r w' => r = .returned (.tuple #[.int .i64 0, .int .i64 1]) ∧ w.grownBy w' none := by
  have HBE := Lib.hid h
  obtain ⟨W, hW, hx, hy, hG⟩ := two_sites w n e n2 e2
  have HW := Lib.hid hW
  clear hW h
  go_enter Try.func16, Try.ntmps16
  go_wp2_with fail
  rw [← HW.out]
  refine (checkBoth_any _ _ _ _ _).mono ?_
  rintro _ w1 ⟨rfl, hg⟩
  rw [HBE.out]
  go_wp2_with fail
  go_ret2
  exact ⟨rfl, gr_trans hG hg⟩

theorem wind_bad (n e n2 e2 : Int) (w : World) (h : bothE n e n2 e2 = 1) :
    Calls Try.prog 17 #[.agg #[.int .i64 n, .int .i64 e], .agg #[.int .i64 n2, .int .i64 e2]] w fun r w' => r = .returned (.tuple #[.int .i64 0, .int .i64 1]) ∧ w.grownBy w' none := by
  have HBE := Lib.hid h
  obtain ⟨W, hW, hx, hy, hG⟩ := two_sites w n e n2 e2
  have HW := Lib.hid hW
  clear hW h
  go_enter Try.func17, Try.ntmps17
  go_wp2_with fail
  rw [← HW.out]
  refine (checkBoth_any _ _ _ _ _).mono ?_
  rintro _ w1 ⟨rfl, hg⟩
  rw [HBE.out]
  go_wp2_with fail
  go_ret2
  exact ⟨rfl, gr_trans hG hg⟩

theorem way_bad (n e n2 e2 p : Int) (w : World) (h : bothE n e n2 e2 = 1) :
    Calls Try.prog 18 #[.agg #[.int .i64 n, .int .i64 e], .agg #[.int .i64 n2, .int .i64 e2], .int .i64 p] w fun r w' => r = .returned (.tuple #[.slice none 0 0, .int .i64 1]) ∧ w.grownBy w' none := by
  have HBE := Lib.hid h
  obtain ⟨W, hW, hx, hy, hG⟩ := two_sites w n e n2 e2
  have HW := Lib.hid hW
  clear hW h
  go_enter Try.func18, Try.ntmps18
  go_wp2_with fail
  rw [← HW.out]
  refine (checkBoth_any _ _ _ _ _).mono ?_
  rintro _ w1 ⟨rfl, hg⟩
  rw [HBE.out]
  go_wp2_with fail
  go_ret2
  exact ⟨rfl, gr_trans hG hg⟩

theorem way_span (n e n2 e2 p : Int) (w : World) (h : bothE n e n2 e2 = 0) (hp : outB p 1 1000 = true) :
    Calls Try.prog 18 #[.agg #[.int .i64 n, .int .i64 e], .agg #[.int .i64 n2, .int .i64 e2], .int .i64 p] w fun r w' => r = .returned (.tuple #[.slice none 0 0, .int .i64 1]) ∧ w.grownBy w' none := by
  have HBE := Lib.hid h
  obtain ⟨W, hW, hx, hy, hG⟩ := two_sites w n e n2 e2
  have HW := Lib.hid hW
  have HO := Lib.hid (fun W' => outside_any p 1 1000 W')
  rw [hp] at HO
  clear hW h
  go_enter Try.func18, Try.ntmps18
  go_wp2_with fail
  rw [← HW.out]
  refine (checkBoth_any _ _ _ _ _).mono ?_
  rintro _ w1 ⟨rfl, hg⟩
  rw [HBE.out]
  go_wp2_with fail
  refine (HO.out _).mono ?_
  rintro _ _ ⟨rfl, rfl⟩
  go_wp2_with fail
  go_ret2
  exact ⟨rfl, gr_trans hG hg⟩

set_option maxHeartbeats 1000000 in
theorem equalSites_same (b1 b2 : Nat) (u v : Value) (l : List (Int × Int)) (w : World) (hu : Sites b1 w u l) (hv : Sites b2 w v l) :
    Calls Try.prog 23 #[u, v] w fun r w' => r = .returned (.bool true) ∧ w.grownBy w' none := by
  obtain ⟨A, ca, rfl, ha, hA⟩ := ownsRow_shape hu
  obtain ⟨B, cb, rfl, hb, hB⟩ := ownsRow_shape hv
  have HU := Lib.hid hu
  have HV := Lib.hid hv
  clear hu hv
  go_enter Try.func23, Try.ntmps23
  go_wp2_with fail
  go_loopw [13] (fun i wr => ∃ k : Nat, k ≤ l.length ∧ i = .int .i64 k ∧ w.grownBy wr none) (fun i _ => l.length - (intOf i).toNat)
  case atStart => exact ⟨0, by omega, rfl, gr_refl _ _⟩
  case round =>
    obtain ⟨k, hk, rfl, hgr⟩ := hrel
    by_cases hlt : k < l.length
    · obtain ⟨ga, rfl, _, _⟩ := hA (by omega)
      obtain ⟨gb, rfl, _, _⟩ := hB (by omega)
      have hc := wcells_at l k hlt
      have a0 := (ownsRow_grown HU.out hgr).cellAt (k * 2) (by omega)
      have a1 := (ownsRow_grown HU.out hgr).cellAt (k * 2 + 1) (by omega)
      have b0 := (ownsRow_grown HV.out hgr).cellAt (k * 2) (by omega)
      have b1 := (ownsRow_grown HV.out hgr).cellAt (k * 2 + 1) (by omega)
      rw [hc.1] at a0 b0
      rw [hc.2] at a1 b1
      generalize l[k].1 = x at *
      generalize l[k].2 = y at *
      clear hc hA hB
      have hkl : (k : Int) < (l.length : Int) := by omega
      go_wp2_with fail
      go_quiet (fail)
      go_wp2_with fail
      go_roundw
      case rel => exact ⟨k + 1, by omega, by go_num, by repeat (first | exact hgr | refine gr_drewN ?_ _ | refine gr_drew ?_)⟩
      case measure => simp [intOf]; omega
    · have hkl : ¬ ((k : Int) < l.length) := by omega
      go_wp2_with fail
      go_ret
      exact ⟨rfl, hgr⟩
end Go.Proofs.Ytnapbnkbchaanaa
