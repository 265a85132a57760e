/- The walks over rate.In, rate.Rate and their twins in the reference. Condition: the window's end is no number beyond 2^60; else times without error where the name says ok. -/
import Derived.Test.YtjhklpffmfdkbaaGreatDoorRateLow
import Derived.Deep.RegionHeld3
namespace Go.Proofs.YtjhklpffmfdkbaaGreatDoor
open Go.RowKit
set_option linter.unusedVariables false

theorem gr_of_drew {w w' : World} {row : Option Nat} (h : w.drew.grownBy w' row) : w.grownBy w' row := ⟨h.os, h.tape, h.output, h.size, h.block⟩
theorem TimesOk.E0 {l : List Int} {a zt : Int} (h : timesE l a zt = 0) : (timesE l a zt != 0) = false := by rw [h]; rfl

/-- The error of a moment and a length. -/
def mlE (at_ long : Int) : Int := if momE at_ = 0 then longE long else momE at_
theorem mlE_01 (at_ long : Int) : (mlE at_ long = 0 ∧ momE at_ = 0 ∧ longE long = 0) ∨ mlE at_ long = 1 := by
  unfold mlE
  rcases momE_cases at_ with h | h <;> rcases longE_cases long with h2 | h2 <;> simp [h.1, h2.1]
def lastE (l : List Int) (a zt at_ long : Int) : Int := if timesE l a zt = 0 then mlE at_ long else timesE l a zt

end Go.Proofs.YtjhklpffmfdkbaaGreatDoor
