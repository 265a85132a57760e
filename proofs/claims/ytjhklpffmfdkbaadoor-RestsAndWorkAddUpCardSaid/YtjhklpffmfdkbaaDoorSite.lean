/- The error of a site, in package place and in the reference. No condition. -/
import Derived.Test.YtjhklpffmfdkbaaDoorFaults
namespace Go.Proofs.YtjhklpffmfdkbaaDoor
open Go.RowKit
set_option linter.unusedVariables false

def siteE (n e : Int) : Int := if outB n (-324000) 324000 || outB e (-648000) 647999 then 1 else 0
theorem siteE_cases (n e : Int) : (siteE n e = 0 ∧ -324000 ≤ n ∧ n ≤ 324000 ∧ -648000 ≤ e ∧ e ≤ 647999) ∨ siteE n e = 1 := by
  unfold siteE
  by_cases h1 : -324000 ≤ n ∧ n ≤ 324000
  · rw [outB_no h1.1 h1.2]
    by_cases h2 : -648000 ≤ e ∧ e ≤ 647999
    · rw [outB_no h2.1 h2.2]; exact .inl ⟨rfl, h1.1, h1.2, h2.1, h2.2⟩
    · rw [outB_yes (by omega)]; exact .inr rfl
  · rw [outB_yes (by omega)]; exact .inr rfl

end Go.Proofs.YtjhklpffmfdkbaaDoor
