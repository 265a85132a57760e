/- The walk over key.Hear: the text with the unit that fits best, or the error. Condition: asciiSpace is Go's own table. -/
import Derived.Test.YtlodmkdhlmineaaGreatDoorRead
import Derived.Test.YtlodmkdhlmineaaGreatDoorMarks
namespace Go.Proofs.YtlodmkdhlmineaaGreatDoor
open Go.RowKit
set_option linter.unusedVariables false
set_option linter.unusedSimpArgs false

theorem blk_cells3 {w : World} {g : Nat} {t : TypeId} {a b c : Value} (h : Blk w g t #[a, b, c]) : w.cell? ⟨g, 0, none⟩ = some a ∧ w.cell? ⟨g, 1, none⟩ = some b ∧ w.cell? ⟨g, 2, none⟩ = some c := ⟨h.cell 0, h.cell 1, h.cell 2⟩
theorem blk_put3 {w : World} {g : Nat} {t : TypeId} {a b c : Value} (h : Blk w g t #[a, b, c]) (x y z : Value) : Blk (((w.setCell ⟨g, 0, none⟩ x).setCell ⟨g, 1, none⟩ y).setCell ⟨g, 2, none⟩ z) g t #[x, y, z] := ((h.put 0 x).put 1 y).put 2 z
theorem blk_ends3 {w : World} {g : Nat} {t : TypeId} {a b c : Value} (h : Blk w g t #[a, b, c]) (x y z : Value) : (w.setCell ⟨g, 0, none⟩ x).cell? ⟨g, 0, none⟩ = some x ∧ ((w.setCell ⟨g, 0, none⟩ x).setCell ⟨g, 1, none⟩ y).cell? ⟨g, 1, none⟩ = some y ∧ (((w.setCell ⟨g, 0, none⟩ x).setCell ⟨g, 1, none⟩ y).setCell ⟨g, 2, none⟩ z).cell? ⟨g, 2, none⟩ = some z := ⟨(h.put 0 x).cell 0, ((h.put 0 x).put 1 y).cell 1, (((h.put 0 x).put 1 y).put 2 z).cell 2⟩
theorem gr_puts3 {a w : World} {g : Nat} (h : a.grownBy w none) (hg : a.heap.size ≤ g) (x y z : Value) : a.grownBy (((w.setCell ⟨g, 0, none⟩ x).setCell ⟨g, 1, none⟩ y).setCell ⟨g, 2, none⟩ z) none := gr_put (gr_put (gr_put h (.inr hg) x) (.inr hg) y) (.inr hg) z

def hearU (l : List Int) : Int := (hearTo l 2000).1
def hearS (l : List Int) : List UInt8 := readL l (hearU l)
/-- Is something heard? -/
def hearB (l : List Int) : Bool := decide (marksE l = 0) && decide ((hearS l).length ≤ 500)
def HearPost (l : List Int) (w : World) (e : Ending) (w' : World) : Prop :=
  w.grownBy w' none ∧ ((hearB l = true ∧ e = .returned (.tuple #[.agg #[.string ⟨(hearS l).toArray⟩, .int .i64 (hearU l), .int .i64 (hearTo l 2000).2], .bool true, .int .i64 0])) ∨
    (hearB l = false ∧ e = .returned (.tuple #[.agg #[.string ⟨#[]⟩, .int .i64 0, .int .i64 0], .bool false, .int .i64 (marksE l)])))
theorem hearTo_bd {l : List Int} (hl : ∀ x ∈ l, 0 ≤ x ∧ x ≤ 1000000) (hn : l.length ≤ 20000) (k : Nat) (hk : k ≤ 2000) : 0 ≤ (hearTo l k).1 ∧ (hearTo l k).1 ≤ (k : Int) ∧ 0 ≤ (hearTo l k).2 ∧ (hearTo l k).2 ≤ 20000000000 := by
  rcases Nat.eq_zero_or_pos k with h0 | h0
  · subst h0; simp [hearTo]
  · obtain ⟨h1, h2, h3, _⟩ := hearTo_ok l k h0
    have := offTo_bd hl (u := (hearTo l k).1) (by omega) (by omega) l.length
    unfold offL at h3
    omega

end Go.Proofs.YtlodmkdhlmineaaGreatDoor
