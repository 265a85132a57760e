/- The law HeardIsLeast: no unit that is drawn has less deviation than the one that is heard. Condition: an argument that lies in its block, and asciiSpace as Go has it. -/
import Derived.Test.YtcimnlcmpfagnaaGreatDoorHearW
import Derived.Test.YtcimnlcmpfagnaaGreatDoorWith
import Derived.Test.YtcimnlcmpfagnaaGreatDoorRightKeyed
import Derived.Test.YtcimnlcmpfagnaaGreatDoorReady
import Derived.Test.YtcimnlcmpfagnaaGreatDoorStart
namespace Go.Proofs.YtcimnlcmpfagnaaGreatDoor
open Go.RowKit
set_option linter.unusedVariables false
set_option linter.unusedSimpArgs false

theorem unitE_ok {l : List Int} {u : Int} (h : marksE l = 0) (u0 : 1 ≤ u) (u1 : u ≤ 2000) : unitE l u = 0 := by unfold unitE; rw [if_pos h]; exact spanE_no u0 u1
theorem hear_ok {l : List Int} (hE : marksE l = 0) (hn : l.length ≤ 200) : hearB l = true := by
  unfold hearB hearS
  rw [hE]
  have := readL_len l (hearU l)
  simp
  omega
end Go.Proofs.YtcimnlcmpfagnaaGreatDoor
