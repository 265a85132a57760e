/- slices.Equal at two slices of signs with codes that are equal. No condition. -/
import Derived.Test.YtcimnlcmpfagnaaDoorKeyA
namespace Go.Proofs.YtcimnlcmpfagnaaDoor
open Go.RowKit
set_option linter.unusedVariables false
set_option maxHeartbeats 2000000 in
theorem equalSgn_same (b1 b2 : Nat) (u v : Value) (l : List (UInt8 × List UInt8)) (w : World) (hu : SgnFrom b1 w u l) (hv : SgnFrom b2 w v l) :
    Calls Tryd.prog 29 #[u, v] w fun r w' => r = .returned (.bool true) ∧ w.grownBy w' none := by
  obtain ⟨A, ca, rfl, ha, hA⟩ := hu.shape
  obtain ⟨B, cb, rfl, hb, hB⟩ := hv.shape
  have HU := Lib.hid hu
  have HV := Lib.hid hv
  have HA := Lib.hid hA
  have HB := Lib.hid hB
  clear hu hv hA hB
  go_enter Tryd.func29, Tryd.ntmps29
  go_wp2_with fail
  go_loopw [13] (fun i wr => ∃ k : Nat, k ≤ l.length ∧ i = .int .i64 k ∧ w.grownBy wr none) (fun i _ => l.length - (intOf i).toNat)
  case atStart => exact ⟨0, by omega, rfl, gr_refl _ _⟩
  case round =>
    obtain ⟨k, hk, rfl, hgr⟩ := hrel
    by_cases hlt : k < l.length
    · obtain ⟨ga, rfl, _, _⟩ := HA.out (by omega)
      obtain ⟨gb, rfl, _, _⟩ := HB.out (by omega)
      obtain ⟨a0, a1⟩ := (HU.out.grown hgr).at1 k hlt
      obtain ⟨b0, b1⟩ := (HV.out.grown hgr).at1 k hlt
      obtain ⟨x, hx⟩ : ∃ x : ByteArray, ⟨#[l[k].1]⟩ = x := ⟨_, rfl⟩
      obtain ⟨y, hy⟩ : ∃ y : ByteArray, ⟨l[k].2.toArray⟩ = y := ⟨_, rfl⟩
      rw [hx] at a0 b0
      rw [hy] at a1 b1
      clear hx hy
      have hkl : (k : Int) < (l.length : Int) := by omega
      go_wp2_with fail
      go_quiet (fail)
      go_wp2_with fail
      go_roundw
      case rel => exact ⟨k + 1, by omega, by go_num, by repeat (first | exact hgr | refine gr_drewN ?_ _ | refine gr_drew ?_)⟩
      case measure => simp [intOf]; omega
    · have hkl : ¬ ((k : Int) < l.length) := by omega
      go_wp2_with fail
      go_ret
      exact ⟨rfl, hgr⟩
end Go.Proofs.YtcimnlcmpfagnaaDoor
