/- What the walks ask of package-level variables: MaxLen holds a number, asciiSpace is Go's own table. No condition. -/
import Derived.Test.YtjhklpffmfdkbaaGreatDoorBase
import Derived.Test.YtjhklpffmfdkbaaGreatDoorShelf
import Derived.Lib.SmallJoins
namespace Go.Proofs.YtjhklpffmfdkbaaGreatDoor
open Go.RowKit
set_option linter.unusedVariables false

/-- The variables, in blocks ahead of block b. -/
structure Gl (b : Nat) (w : World) : Prop where
  mx : ∃ m : Int, w.cell? ⟨0, 0, none⟩ = some (.int .i64 m)
  sp : Lib.TabIs Tryz.prog w "strings.asciiSpace" .u8 Lib.asciiSpaceTab
  lm : 0 < b
  ls : 1 < b
  lb : b ≤ w.heap.size
theorem tab_grown {w w' : World} {row : Option Nat} {g : Nat} {n : String} {k : IntKind} {zs : List Int} (hn : Tryz.prog.globalNamed n = some g) (h : Lib.TabIs Tryz.prog w n k zs) (hg : w.grownBy w' row) (hb : g < w.heap.size) (hr : some g ≠ row) : Lib.TabIs Tryz.prog w' n k zs := by
  unfold Lib.TabIs World.var? at h ⊢
  rw [hn] at h ⊢
  simp only [Option.bind_some] at h ⊢
  rw [hg.block g hb hr]
  exact h
theorem Gl.grown {b : Nat} {w w' : World} {row : Option Nat} (h : Gl b w) (hg : w.grownBy w' row) (hr : ∀ g, row = some g → b ≤ g) : Gl b w' := by
  obtain ⟨⟨m, hm⟩, hs, h1, h2, h3⟩ := h
  refine ⟨⟨m, ?_⟩, tab_grown (by kernel_rfl) hs hg (Nat.lt_of_lt_of_le h2 h3) (fun e => by have h9 : b ≤ 1 := hr _ e.symm; omega), h1, h2, Nat.le_trans h3 hg.size⟩
  exact (World.cell?_of_block (hg.block _ (Nat.lt_of_lt_of_le h1 h3) (fun e => by have h9 : b ≤ 0 := hr _ e.symm; omega))).trans hm
theorem Gl.quiet {b : Nat} {w w' : World} (h : Gl b w) (hg : w.grownBy w' none) : Gl b w' := h.grown hg (by simp)
end Go.Proofs.YtjhklpffmfdkbaaGreatDoor
