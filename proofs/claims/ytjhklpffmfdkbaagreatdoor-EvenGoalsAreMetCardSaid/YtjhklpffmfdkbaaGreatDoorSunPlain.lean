/- Plain law of the sun: what tilt and height come to, and their bounds: no program in sight. No condition. -/
import Derived.Test.YtjhklpffmfdkbaaGreatDoorCosPlain
namespace Go.Proofs.YtjhklpffmfdkbaaGreatDoor
set_option linter.unusedVariables false

def sineI (a : Int) : Int := cosI (a - 324000)
def tiltI (at_ : Int) : Int := (84384 * cosI (((at_ / 86400000 % 365 - 171) * 1296000).tdiv 365)).tdiv 1000000
def hourI (at_ : Int) : Int := ((at_ % 86400000 - 43200000) * 1296000).tdiv 86400000
def sunI (n e at_ : Int) : Int :=
  (sineI n * sineI (tiltI at_)).tdiv 1000000 + ((cosI n * cosI (tiltI at_)).tdiv 1000000 * cosI (hourI at_ + e)).tdiv 1000000

theorem tdiv_bd (a b c : Int) (hb : 0 < b) (h1 : -(c * b) ≤ a) (h2 : a ≤ c * b) : -c ≤ a.tdiv b ∧ a.tdiv b ≤ c := by
  have hm := tmod_lo a b (by omega)
  have he := Int.mul_tdiv_add_tmod a b
  refine ⟨?_, ?_⟩
  · by_cases h : a.tdiv b < -c
    · exfalso
      have hh : b * a.tdiv b ≤ b * (-c - 1) := Int.mul_le_mul_of_nonneg_left (by omega) (by omega)
      rw [Int.mul_sub, Int.mul_neg, Int.mul_comm b c] at hh
      omega
    · omega
  · by_cases h : c < a.tdiv b
    · exfalso
      have hh : b * (c + 1) ≤ b * a.tdiv b := Int.mul_le_mul_of_nonneg_left (by omega) (by omega)
      rw [Int.mul_add, Int.mul_comm b c] at hh
      omega
    · omega
theorem mul_bd (a b c d : Int) (h1 : -c ≤ a) (h2 : a ≤ c) (h3 : -d ≤ b) (h4 : b ≤ d) : -(c * d) ≤ a * b ∧ a * b ≤ c * d := by
  have key : a.natAbs * b.natAbs ≤ c.natAbs * d.natAbs := Nat.mul_le_mul (by omega) (by omega)
  rw [← Int.natAbs_mul, ← Int.natAbs_mul] at key
  have hcd : 0 ≤ c * d := Int.mul_nonneg (by omega) (by omega)
  omega
theorem sineI_bd (a : Int) : -1000000 ≤ sineI a ∧ sineI a ≤ 1000000 := cosI_bd _
theorem tiltI_bd (a : Int) : -84384 ≤ tiltI a ∧ tiltI a ≤ 84384 := by
  have := cosI_bd (((a / 86400000 % 365 - 171) * 1296000).tdiv 365)
  exact tdiv_bd _ _ _ (by omega) (by omega) (by omega)
theorem hourI_bd (a : Int) : -648000 ≤ hourI a ∧ hourI a ≤ 648000 :=
  tdiv_bd _ _ _ (by omega) (by omega) (by omega)
theorem prod_bd (a b : Int) (h1 : -1000000 ≤ a ∧ a ≤ 1000000) (h2 : -1000000 ≤ b ∧ b ≤ 1000000) :
    -1000000000000 ≤ a * b ∧ a * b ≤ 1000000000000 ∧ -1000000 ≤ (a * b).tdiv 1000000 ∧ (a * b).tdiv 1000000 ≤ 1000000 := by
  have := mul_bd a b 1000000 1000000 (by omega) (by omega) (by omega) (by omega)
  have h3 := tdiv_bd (a * b) 1000000 1000000 (by omega) (by omega) (by omega)
  omega
theorem sunI_bd (n e a : Int) : -2000000 ≤ sunI n e a ∧ sunI n e a ≤ 2000000 := by
  unfold sunI
  have h1 := prod_bd _ _ (sineI_bd n) (sineI_bd (tiltI a))
  have h2 := prod_bd _ _ (cosI_bd n) (cosI_bd (tiltI a))
  have h3 := prod_bd _ _ ⟨h2.2.2.1, h2.2.2.2⟩ (cosI_bd (hourI a + e))
  omega
end Go.Proofs.YtjhklpffmfdkbaaGreatDoor
