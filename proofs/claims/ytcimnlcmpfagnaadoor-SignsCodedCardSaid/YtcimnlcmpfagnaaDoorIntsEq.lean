/- slices.Equal at two slices of ints that are equal. No condition. -/
import Derived.Test.YtcimnlcmpfagnaaDoorInts
namespace Go.Proofs.YtcimnlcmpfagnaaDoor
open Go.RowKit
set_option linter.unusedVariables false

set_option maxHeartbeats 1000000 in
theorem equalInts_same (u v : Value) (l : List Int) (w : World) (hu : Ints w u l) (hv : Ints w v l) :
    Calls Tryd.prog 21 #[u, v] w fun r w' => r = .returned (.bool true) ∧ w.grownBy w' none := by
  obtain ⟨A, ca, rfl, ha, hA⟩ := IntsFrom.shape hu
  obtain ⟨B, cb, rfl, hb, hB⟩ := IntsFrom.shape hv
  have HU := Lib.hid hu
  have HV := Lib.hid hv
  clear hu hv
  go_enter Tryd.func21, Tryd.ntmps21
  go_wp2_with fail
  go_loopw [13] (fun i wr => ∃ k : Nat, k ≤ l.length ∧ i = .int .i64 k ∧ w.grownBy wr none) (fun i _ => l.length - (intOf i).toNat)
  case atStart => exact ⟨0, by omega, rfl, gr_refl _ _⟩
  case round =>
    obtain ⟨k, hk, rfl, hgr⟩ := hrel
    by_cases hlt : k < l.length
    · obtain ⟨ga, rfl, _, _⟩ := hA (by omega)
      obtain ⟨gb, rfl, _, _⟩ := hB (by omega)
      have a0 := (IntsFrom.grown HU.out hgr).at_ k hlt
      have b0 := (IntsFrom.grown HV.out hgr).at_ k hlt
      generalize l[k] = x at *
      have hkl : (k : Int) < (l.length : Int) := by omega
      clear hA hB
      go_wp2_with fail
      go_quiet (fail)
      go_wp2_with fail
      go_roundw
      case rel => exact ⟨k + 1, by omega, by go_num, by repeat (first | exact hgr | refine gr_drewN ?_ _ | refine gr_drew ?_)⟩
      case measure => simp [intOf]; omega
    · have hkl : ¬ ((k : Int) < l.length) := by omega
      go_wp2_with fail
      go_ret
      exact ⟨rfl, hgr⟩
end Go.Proofs.YtcimnlcmpfagnaaDoor
