/- Plain law of the cosine in whole numbers: no program in sight. No condition. -/
import Derived.Test.YtjhklpffmfdkbaaGreatDoorBase
namespace Go.Proofs.YtjhklpffmfdkbaaGreatDoor
set_option linter.unusedVariables false

def cosB (x : Int) : Int := (419904000000 - 4 * x * x) * 1000000 / (419904000000 + x * x)
/-- The cosine of an angle that is from 0 to a whole circle less 1. -/
def cosC (y : Int) : Int :=
  if 648000 < y then (if 324000 < 1296000 - y then -cosB (648000 - (1296000 - y)) else cosB (1296000 - y))
  else (if 324000 < y then -cosB (648000 - y) else cosB y)
def cosI (a : Int) : Int := cosC (a % 1296000)

theorem sq_bd (x : Int) (h0 : 0 ≤ x) (h1 : x ≤ 324000) : 0 ≤ x * x ∧ x * x ≤ 104976000000 ∧ 4 * x * x = 4 * (x * x) := by
  refine ⟨Int.mul_nonneg h0 h0, ?_, by rw [Int.mul_assoc]⟩
  have := Int.mul_le_mul h1 h1 h0 (by omega)
  omega
theorem cosB_bd (x : Int) (h0 : 0 ≤ x) (h1 : x ≤ 324000) : 0 ≤ cosB x ∧ cosB x ≤ 1000000 := by
  obtain ⟨a, b, c⟩ := sq_bd x h0 h1
  unfold cosB
  rw [c]
  refine ⟨Int.ediv_nonneg (by omega) (by omega), ?_⟩
  refine Int.le_of_lt_add_one (Int.ediv_lt_of_lt_mul (by omega) ?_)
  omega
theorem cosC_bd (y : Int) (h0 : 0 ≤ y) (h1 : y < 1296000) : -1000000 ≤ cosC y ∧ cosC y ≤ 1000000 := by
  unfold cosC
  split <;> split
  · have := cosB_bd (648000 - (1296000 - y)) (by omega) (by omega); omega
  · have := cosB_bd (1296000 - y) (by omega) (by omega); omega
  · have := cosB_bd (648000 - y) (by omega) (by omega); omega
  · have := cosB_bd y (by omega) (by omega); omega
theorem cosI_bd (a : Int) : -1000000 ≤ cosI a ∧ cosI a ≤ 1000000 :=
  cosC_bd _ (by omega) (by omega)
theorem tmod_circle (a : Int) : (a.tmod 1296000 + 1296000) % 1296000 = a % 1296000 := by
  have := Int.tmod_add_mul_tdiv a 1296000
  have h1 := tmod_lo a 1296000 (by omega)
  omega
theorem tmod_pos {a : Int} (h : 0 ≤ a) : a.tmod 1296000 = a % 1296000 := by rw [Int.tmod_eq_emod_of_nonneg h]
theorem tmod_neg' {a : Int} (h : a.tmod 1296000 < 0) : a.tmod 1296000 + 1296000 = a % 1296000 := by
  have := tmod_circle a
  have h1 := tmod_lo a 1296000 (by omega)
  omega
theorem tmod_nonneg' {a : Int} (h : 0 ≤ a.tmod 1296000) : a.tmod 1296000 = a % 1296000 := by
  have := tmod_circle a
  have h1 := tmod_lo a 1296000 (by omega)
  omega
end Go.Proofs.YtjhklpffmfdkbaaGreatDoor
