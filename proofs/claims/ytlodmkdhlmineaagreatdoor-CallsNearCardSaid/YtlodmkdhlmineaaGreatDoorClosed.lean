/- The walk over key.closed: marks and gaps without the gaps that are shorter. Condition: right marks. -/
import Derived.Test.YtlodmkdhlmineaaGreatDoorCleanPlain
import Derived.Test.YtlodmkdhlmineaaGreatDoorMarks
import Derived.Deep.AppendLies
import Derived.Deep.RegionHeld3
import Derived.StillTailTactics
namespace Go.Proofs.YtlodmkdhlmineaaGreatDoor
open Go.RowKit
set_option linter.unusedVariables false
set_option linter.unusedSimpArgs false

/-- Numbers in a slice whose length is told. -/
def LFrom (base : Nat) (w : World) (v : Value) (n : Nat) (L : List Int) : Prop := w.ownsRow base 3 1 v n (L.map (Value.int .i64))
theorem LFrom.len {base n : Nat} {w : World} {v : Value} {L : List Int} (h : LFrom base w v n L) : L.length = n := by
  have := h.1; simpa using this
theorem LFrom.ints {base n : Nat} {w : World} {v : Value} {L : List Int} (h : LFrom base w v n L) : IntsFrom base w v L := by
  have e := h.len
  unfold IntsFrom
  rw [e]; exact h
theorem LFrom.at_ {base n : Nat} {w : World} {g c : Nat} {L : List Int} (h : LFrom base w (.slice (some ⟨g, 0, none⟩) n c) n L) (k : Nat) (hk : k < n) : w.cell? ⟨g, k, none⟩ = some (.int .i64 (L.getD k 0)) := by
  have e := h.len
  subst e
  have := IntsFrom.at_ (l := L) h k hk
  rw [this, List.getD_eq_getElem?_getD, List.getElem?_eq_getElem hk]; rfl
theorem blk_row {w : World} {g base : Nat} {x : Int} (h : Blk w g 3 #[.int .i64 x]) (hb : base ≤ g) : LFrom base w (.slice (some ⟨g, 0, none⟩) 1 1) 1 [x] :=
  ⟨rfl, .inr ⟨g, 1, _, rfl, hb, h, by omega, by unfold maxLen; omega, rfl, rfl⟩⟩
theorem two_ints (w : World) (x y : Int) (t : TypeId) : ∀ j u, ([Value.int .i64 x, .int .i64 y])[j]? = some u → (w.alloc (.cells #[.int .i64 x, .int .i64 y] t)).cell? ((⟨w.heap.size, 0, none⟩ : Addr).add j) = some u := by
  intro j u hu
  have hb := (Blk.new w t #[.int .i64 x, .int .i64 y]).cell j
  have hadd : (⟨w.heap.size, 0, none⟩ : Addr).add j = ⟨w.heap.size, j, none⟩ := by unfold Addr.add; split <;> simp_all
  rw [hadd, hb]
  simpa using hu
theorem two_intsOne (x y : Int) : ∀ u ∈ [Value.int .i64 x, .int .i64 y], u.oneCell' = true := by
  intro u hu; simp at hu; rcases hu with rfl | rfl <;> rfl

end Go.Proofs.YtlodmkdhlmineaaGreatDoor
