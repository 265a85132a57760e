/- The error of a site, in package place and in the reference. No condition. -/
import Derived.Test.YtjhklpffmfdkbaaGreatDoorFaults
namespace Go.Proofs.YtjhklpffmfdkbaaGreatDoor
open Go.RowKit
set_option linter.unusedVariables false

def siteE (n e : Int) : Int := if outB n (-324000) 324000 || outB e (-648000) 647999 then 1 else 0
theorem siteE_cases (n e : Int) : (siteE n e = 0 ∧ -324000 ≤ n ∧ n ≤ 324000 ∧ -648000 ≤ e ∧ e ≤ 647999) ∨ siteE n e = 1 := by
  unfold siteE
  by_cases h1 : -324000 ≤ n ∧ n ≤ 324000
  · rw [outB_no h1.1 h1.2]
    by_cases h2 : -648000 ≤ e ∧ e ≤ 647999
    · rw [outB_no h2.1 h2.2]; exact .inl ⟨rfl, h1.1, h1.2, h2.1, h2.2⟩
    · rw [outB_yes (by omega)]; exact .inr rfl
  · rw [outB_yes (by omega)]; exact .inr rfl

def bothE (n e n2 d2 : Int) : Int := if siteE n e = 0 then siteE n2 d2 else siteE n e
theorem siteE_01 (n e : Int) : siteE n e = 0 ∨ siteE n e = 1 := by rcases siteE_cases n e with h | h; exact .inl h.1; exact .inr h
theorem siteE_rng {n e : Int} (h : siteE n e = 0) : -324000 ≤ n ∧ n ≤ 324000 ∧ -648000 ≤ e ∧ e ≤ 647999 := by
  rcases siteE_cases n e with ⟨_, h1⟩ | h1
  · exact h1
  · omega

theorem bothE_01 (n e n2 d2 : Int) : (bothE n e n2 d2 = 0 ∧ siteE n e = 0 ∧ siteE n2 d2 = 0) ∨ bothE n e n2 d2 = 1 := by
  unfold bothE
  rcases siteE_01 n e with h | h <;> rcases siteE_01 n2 d2 with h2 | h2 <;> simp [h, h2]

end Go.Proofs.YtjhklpffmfdkbaaGreatDoor
