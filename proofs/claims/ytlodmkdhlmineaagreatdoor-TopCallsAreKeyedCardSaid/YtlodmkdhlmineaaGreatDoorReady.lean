/- ready: the four packages do something. Condition: asciiSpace is Go's own table, MaxLen holds a number. -/
import Derived.Test.YtlodmkdhlmineaaGreatDoorCall
import Derived.Test.YtlodmkdhlmineaaGreatDoorKeyB
import Derived.Test.YtlodmkdhlmineaaGreatDoorRateB
import Derived.Test.YtlodmkdhlmineaaGreatDoorRateC
import Derived.Test.YtlodmkdhlmineaaGreatDoorSky
namespace Go.Proofs.YtlodmkdhlmineaaGreatDoor
open Go.RowKit
set_option linter.unusedVariables false

theorem apart_ready (w : World) : Calls Tryz.prog 69 #[.string ⟨#[111, 104, 50, 97, 98, 99, 47, 52]⟩] w fun e w' =>
    e = .returned (.tuple #[.agg #[.string ⟨#[111, 104, 50, 97, 98, 99]⟩, .string ⟨#[111, 104, 50]⟩, .string ⟨#[97, 98, 99]⟩, .int .i64 2, .string ⟨#[52]⟩], .int .i64 0]) ∧ w.grownBy w' none := by
  refine (apart_any _ w (by decide) ?_).mono ?_
  · intro j b h
    have hm := List.mem_of_getElem? h
    have hall : ∀ b ∈ (⟨#[111, 104, 50, 97, 98, 99, 47, 52]⟩ : ByteArray).data.toList, b.toNat < 128 := by decide +kernel
    exact hall b hm
  · rintro e w' ⟨hg, h⟩
    refine ⟨?_, hg⟩
    rcases h with ⟨h, _⟩ | ⟨t, k, kd, ad, h, rfl⟩
    · rw [partsOf_ready] at h; cases h
    · rw [partsOf_ready] at h
      simp only [Option.some.injEq, Prod.mk.injEq] at h
      obtain ⟨rfl, rfl, rfl, rfl⟩ := h
      rfl
theorem units_ready (b : Nat) (w : World) (hgl : Gl b w) : Calls Tryz.prog 77 #[.string ⟨#[112, 97, 114, 105, 115]⟩] w fun e w' =>
    e = .returned (.tuple #[.int .i64 43, .int .i64 0]) ∧ w.grownBy w' none := by
  have h := units_any b parisS w hgl (by decide)
  rw [paris_ok, paris_units] at h
  exact h
theorem cosine_ready (w : World) : Calls Tryz.prog 76 #[.int .i64 216000] w fun e w' =>
    e = .returned (.tuple #[.int .i64 500000, .int .i64 0]) ∧ w = w' := by
  have h1 : spanE 216000 (-1296000000) 1296000000 = 0 := spanE_no (by omega) (by omega)
  have h := cosineE_any 216000 w
  rw [h1, cos60] at h
  exact h
theorem best_ready (w : World) : Calls Tryz.prog 78 #[.slice (some ⟨w.heap.size, 0, none⟩) 3 3, .agg #[.int .i64 0, .int .i64 3600000], .int .i64 900000] (w.alloc (.cells #[.int .i64 0, .int .i64 600000, .int .i64 1200000] 3)) fun e w' =>
    e = .returned (.tuple #[.int .i64 0, .int .i64 2, .int .i64 0]) ∧ w.grownBy w' none := by
  have hb := Blk.new w 3 (([0, 600000, 1200000] : List Int).map (Value.int .i64)).toArray
  have hl : IntsFrom 0 _ _ [0, 600000, 1200000] := blk_ints hb (Nat.zero_le _) (by decide)
  have e1 : timesE [0, 600000, 1200000] 0 3600000 = 0 := by decide
  have e2 : longE 900000 = 0 := by decide
  have e3 : bestI [0, 600000, 1200000] 0 900000 = (0, 2) := by decide
  have H := (best_ok 0 _ _ 0 3600000 900000 _ hl e1 e2)
  rw [e3] at H
  exact H.mono fun e w' ⟨he, hg⟩ => ⟨he, gr_trans (World.grownBy_alloc w _ none) hg⟩

set_option maxRecDepth 100000 in
set_option maxHeartbeats 2000000 in
theorem ready_any (b : Nat) (w : World) (hgl : Gl b w) : Calls Tryz.prog 33 #[] w fun r w' => r = .returned (.bool true) ∧ w.grownBy w' none := by
  have HGL := Lib.hid hgl
  clear hgl
  go_enter Tryz.func33, Tryz.ntmps33
  go_wp2_with fail
  refine (apart_ready _).mono ?_
  rintro _ w1 ⟨rfl, hg1⟩
  go_wp2_with fail
  have hB := Blk.new w1 82 #[.string ⟨#[111, 104, 50, 97, 98, 99]⟩, .string ⟨#[111, 104, 50]⟩, .string ⟨#[97, 98, 99]⟩, .int .i64 2, .string ⟨#[52]⟩]
  have hG := gr_alloc hg1 (.cells #[.string ⟨#[111, 104, 50, 97, 98, 99]⟩, .string ⟨#[111, 104, 50]⟩, .string ⟨#[97, 98, 99]⟩, .int .i64 2, .string ⟨#[52]⟩] 82)
  clear hg1
  generalize w1.alloc (.cells #[.string ⟨#[111, 104, 50, 97, 98, 99]⟩, .string ⟨#[111, 104, 50]⟩, .string ⟨#[97, 98, 99]⟩, .int .i64 2, .string ⟨#[52]⟩] 82) = W at *
  refine (cosine_ready _).mono ?_
  rintro _ _ ⟨rfl, rfl⟩
  go_wp2_with fail
  refine (units_ready b _ (HGL.out.quiet hG)).mono ?_
  rintro _ w2 ⟨rfl, hg⟩
  replace hB := hB.grown hg (by simp)
  replace hG := gr_trans hG hg
  clear hg
  go_wp2_with fail
  refine (best_ready _).mono ?_
  rintro _ w3 ⟨rfl, hg⟩
  replace hB := hB.grown hg (by simp)
  replace hG := gr_trans hG hg
  have c1 : w3.cell? ⟨w1.heap.size, 1, none⟩ = some (.string ⟨#[111, 104, 50]⟩) := hB.cell 1
  clear hg
  go_wp2_with fail
  go_ret
  exact ⟨rfl, hG⟩
end Go.Proofs.YtlodmkdhlmineaaGreatDoor
