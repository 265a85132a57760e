/- The facts of the program's text that the card of TopEntitiesMultiply asks for, together. No condition. -/
import Derived.Test.YtbamhgaghngjiaaGreatDoorSxbl
namespace Go.Proofs.YtbamhgaghngjiaaGreatDoor.topEntitiesMultiply
open Go Go.RowKit
set_option maxRecDepth 100000 in
theorem jr0 : joinedFacts Tryz.pinned.checked.prog 3 Tryz.f3 Rows.topEntitiesMultiplySpec Rows.topEntitiesMultiplyRow = true := by
 unfold joinedFacts
 simp only [Bool.and_eq_true]
 refine ⟨⟨⟨⟨⟨⟨⟨⟨⟨⟨⟨⟨⟨⟨⟨⟨⟨⟨⟨⟨⟨⟨⟨⟨⟨⟨⟨⟨⟨⟨⟨jmg, jnp⟩, jmd⟩, jl4⟩, jnw⟩, jme⟩, jny⟩, jnh⟩, jm4⟩, jnt⟩, jhx⟩, jjb⟩, ji7⟩, jh1⟩, ji2⟩, jil⟩, jjm⟩, jip⟩, ji4⟩, jh6⟩, jig⟩, jjn⟩, jic⟩, ?_⟩, ?_⟩, ?_⟩, ?_⟩, ?_⟩, ?_⟩, ?_⟩, jhw⟩, jjo⟩
 all_goals kernel_rfl
end Go.Proofs.YtbamhgaghngjiaaGreatDoor.topEntitiesMultiply
