/- The facts of the program's text that the card of TopTidyScoresTheSame asks for, together. No condition. -/
import Derived.Test.YtbamhgaghngjiaaGreatDoorSxbb
namespace Go.Proofs.YtbamhgaghngjiaaGreatDoor.topTidyScoresTheSame
open Go Go.RowKit
set_option maxRecDepth 100000 in
theorem jr0 : joinedFacts Tryz.pinned.checked.prog 6 Tryz.f6 Rows.topTidyScoresTheSameSpec Rows.topTidyScoresTheSameRow = true := by
 unfold joinedFacts
 simp only [Bool.and_eq_true]
 refine ⟨⟨⟨⟨⟨⟨⟨⟨⟨⟨⟨⟨⟨⟨⟨⟨⟨⟨⟨⟨⟨⟨⟨⟨⟨⟨⟨⟨⟨⟨⟨jmg, jnp⟩, jmd⟩, jl4⟩, jnw⟩, jme⟩, jny⟩, jnh⟩, jm4⟩, jnt⟩, jhx⟩, jjb⟩, ji7⟩, jh1⟩, ji2⟩, jil⟩, jjm⟩, jip⟩, ji4⟩, jh6⟩, jig⟩, jjn⟩, jic⟩, ?_⟩, ?_⟩, ?_⟩, ?_⟩, ?_⟩, ?_⟩, ?_⟩, jhw⟩, jjo⟩
 all_goals kernel_rfl
end Go.Proofs.YtbamhgaghngjiaaGreatDoor.topTidyScoresTheSame
