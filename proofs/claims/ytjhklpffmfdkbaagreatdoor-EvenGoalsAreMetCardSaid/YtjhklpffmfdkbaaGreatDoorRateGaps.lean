/- The walks over pileref1.gaps and GapOf. Condition: times without error; gaps begun at most a second behind. -/
import Derived.Test.YtjhklpffmfdkbaaGreatDoorRateGap
import Derived.Test.YtjhklpffmfdkbaaGreatDoorPairs
namespace Go.Proofs.YtjhklpffmfdkbaaGreatDoor
open Go.RowKit
set_option linter.unusedVariables false

theorem gapsL_drop (begun : Int) (l r : List Int) (f : Int) (k : Nat) (h : k < l.length) : gapsL begun f (l.drop k ++ r) = (f, l[k]) :: gapsL begun (l[k] + begun) (l.drop (k + 1) ++ r) := by
  rw [List.drop_eq_getElem_cons h]; rfl

theorem gapsL_mem (begun lo hi : Int) : ∀ (l : List Int) (f : Int), lo ≤ f → f ≤ hi → (∀ x ∈ l, lo ≤ x ∧ x + begun ≤ hi) → 0 ≤ begun → ∀ p ∈ gapsL begun f l, lo ≤ p.1 ∧ p.1 ≤ hi ∧ lo ≤ p.2 ∧ p.2 ≤ hi
  | [], _, _, _, _, _, p, hp => by simp [gapsL] at hp
  | x :: r, f, h1, h2, h3, h4, p, hp => by
    have hx := h3 x (by simp)
    simp only [gapsL, List.mem_cons] at hp
    rcases hp with rfl | hp
    · exact ⟨h1, h2, hx.1, by show x ≤ hi; omega⟩
    · exact gapsL_mem begun lo hi r (x + begun) (by omega) (by omega) (fun y hy => h3 y (by simp [hy])) h4 p hp
theorem gapsL_len (begun : Int) : ∀ (l : List Int) (f : Int), (gapsL begun f l).length = l.length
  | [], _ => rfl
  | x :: r, f => by simp [gapsL, gapsL_len begun r]
end Go.Proofs.YtjhklpffmfdkbaaGreatDoor
