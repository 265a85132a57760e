/- slices.Equal at two slices of windows that are equal. No condition. -/
import Derived.Test.YtlbhphfmckhimaaPairs
namespace Go.Proofs.Ytlbhphfmckhimaa
open Go.RowKit
set_option linter.unusedVariables false
set_option maxHeartbeats 1000000 in
theorem equalWins_same (u v : Value) (l : List (Int × Int)) (w : World) (hu : Wins w u l) (hv : Wins w v l) :
    Calls Try.prog 15 #[u, v] w fun r w' => r = .returned (.bool true) ∧ w.grownBy w' none := by
  obtain ⟨A, ca, rfl, ha, hA⟩ := ownsRow_shape hu
  obtain ⟨B, cb, rfl, hb, hB⟩ := ownsRow_shape hv
  have HU := Lib.hid hu
  have HV := Lib.hid hv
  clear hu hv
  go_enter Try.func15, Try.ntmps15
  go_wp2_with fail
  go_loopw [13] (fun i wr => ∃ k : Nat, k ≤ l.length ∧ i = .int .i64 k ∧ w.grownBy wr none) (fun i _ => l.length - (intOf i).toNat)
  case atStart => exact ⟨0, by omega, rfl, gr_refl _ _⟩
  case round =>
    obtain ⟨k, hk, rfl, hgr⟩ := hrel
    by_cases hlt : k < l.length
    · obtain ⟨ga, rfl, _, _⟩ := hA (by omega)
      obtain ⟨gb, rfl, _, _⟩ := hB (by omega)
      have hc := wcells_at l k hlt
      have a0 := (ownsRow_grown HU.out hgr).cellAt (k * 2) (by omega)
      have a1 := (ownsRow_grown HU.out hgr).cellAt (k * 2 + 1) (by omega)
      have b0 := (ownsRow_grown HV.out hgr).cellAt (k * 2) (by omega)
      have b1 := (ownsRow_grown HV.out hgr).cellAt (k * 2 + 1) (by omega)
      rw [hc.1] at a0 b0
      rw [hc.2] at a1 b1
      generalize l[k].1 = x at *
      generalize l[k].2 = y at *
      clear hc hA hB
      have hkl : (k : Int) < (l.length : Int) := by omega
      go_wp2_with fail
      go_quiet (fail)
      go_wp2_with fail
      go_roundw
      case rel => exact ⟨k + 1, by omega, by go_num, by repeat (first | exact hgr | refine gr_drewN ?_ _ | refine gr_drew ?_)⟩
      case measure => simp [intOf]; omega
    · have hkl : ¬ ((k : Int) < l.length) := by omega
      go_wp2_with fail
      go_ret
      exact ⟨rfl, hgr⟩
end Go.Proofs.Ytlbhphfmckhimaa
