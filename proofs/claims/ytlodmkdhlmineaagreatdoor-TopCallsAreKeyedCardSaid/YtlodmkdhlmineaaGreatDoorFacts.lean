/- h06facts: the four packages do something. Condition: asciiSpace is Go's own table, MaxLen holds a number. -/
import Derived.Test.YtlodmkdhlmineaaGreatDoorReady
namespace Go.Proofs.YtlodmkdhlmineaaGreatDoor
open Go.RowKit
set_option linter.unusedVariables false

set_option maxRecDepth 100000 in
set_option maxHeartbeats 2000000 in
theorem facts_any (b : Nat) (w : World) (hgl : Gl b w) : Calls Tryz.prog 28 #[] w fun r w' => r = .returned (.bool true) ∧ w.grownBy w' none := by
  have HGL := Lib.hid hgl
  clear hgl
  go_enter Tryz.func28, Tryz.ntmps28
  go_wp2_with fail
  refine (apart_ready _).mono ?_
  rintro _ w1 ⟨rfl, hg1⟩
  go_wp2_with fail
  have hB := Blk.new w1 82 #[.string ⟨#[111, 104, 50, 97, 98, 99]⟩, .string ⟨#[111, 104, 50]⟩, .string ⟨#[97, 98, 99]⟩, .int .i64 2, .string ⟨#[52]⟩]
  have hG := gr_alloc hg1 (.cells #[.string ⟨#[111, 104, 50, 97, 98, 99]⟩, .string ⟨#[111, 104, 50]⟩, .string ⟨#[97, 98, 99]⟩, .int .i64 2, .string ⟨#[52]⟩] 82)
  clear hg1
  generalize w1.alloc (.cells #[.string ⟨#[111, 104, 50, 97, 98, 99]⟩, .string ⟨#[111, 104, 50]⟩, .string ⟨#[97, 98, 99]⟩, .int .i64 2, .string ⟨#[52]⟩] 82) = W at *
  refine (cosine_ready _).mono ?_
  rintro _ _ ⟨rfl, rfl⟩
  go_wp2_with fail
  refine (units_ready b _ (HGL.out.quiet hG)).mono ?_
  rintro _ w2 ⟨rfl, hg⟩
  replace hB := hB.grown hg (by simp)
  replace hG := gr_trans hG hg
  clear hg
  go_wp2_with fail
  refine (best_ready _).mono ?_
  rintro _ w3 ⟨rfl, hg⟩
  replace hB := hB.grown hg (by simp)
  replace hG := gr_trans hG hg
  have c1 : w3.cell? ⟨w1.heap.size, 1, none⟩ = some (.string ⟨#[111, 104, 50]⟩) := hB.cell 1
  clear hg
  go_wp2_with fail
  go_ret
  exact ⟨rfl, hG⟩
end Go.Proofs.YtlodmkdhlmineaaGreatDoor
