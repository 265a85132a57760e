/- The signs with their codes, as bytes; a slice of signs with codes, as a list of pairs. No condition. -/
import Derived.Test.YtjhklpffmfdkbaaGreatDoorInts
import Derived.Lib.Fields
namespace Go.Proofs.YtjhklpffmfdkbaaGreatDoor
open Go.RowKit
set_option linter.unusedVariables false

/-- The forty signs, each with its code. -/
def codeT : List (UInt8 × List UInt8) := [
  (97, [46, 45]), (98, [45, 46, 46, 46]), (99, [45, 46, 45, 46]), (100, [45, 46, 46]), (101, [46]), (102, [46, 46, 45, 46]), (103, [45, 45, 46]), (104, [46, 46, 46, 46]),
  (105, [46, 46]), (106, [46, 45, 45, 45]), (107, [45, 46, 45]), (108, [46, 45, 46, 46]), (109, [45, 45]), (110, [45, 46]), (111, [45, 45, 45]), (112, [46, 45, 45, 46]),
  (113, [45, 45, 46, 45]), (114, [46, 45, 46]), (115, [46, 46, 46]), (116, [45]), (117, [46, 46, 45]), (118, [46, 46, 46, 45]), (119, [46, 45, 45]), (120, [45, 46, 46, 45]),
  (121, [45, 46, 45, 45]), (122, [45, 45, 46, 46]), (48, [45, 45, 45, 45, 45]), (49, [46, 45, 45, 45, 45]), (50, [46, 46, 45, 45, 45]), (51, [46, 46, 46, 45, 45]), (52, [46, 46, 46, 46, 45]), (53, [46, 46, 46, 46, 46]),
  (54, [45, 46, 46, 46, 46]), (55, [45, 45, 46, 46, 46]), (56, [45, 45, 45, 46, 46]), (57, [45, 45, 45, 45, 46]), (47, [45, 46, 46, 45, 46]), (63, [46, 46, 45, 45, 46, 46]), (61, [45, 46, 46, 46, 45]), (43, [46, 45, 46, 45, 46])]
theorem codeT_len : codeT.length = 40 := by decide +kernel
/-- The code of a byte; empty: it is no sign. -/
def codeOf (c : UInt8) : List UInt8 := ((codeT.find? fun p => p.1 == c).map (·.2)).getD []

def wdL (l : List (UInt8 × List UInt8)) : List (List UInt8) := l.flatMap fun p => [[p.1], p.2]
def wdCells (l : List (UInt8 × List UInt8)) : List Value := l.flatMap fun p => [.string ⟨#[p.1]⟩, .string ⟨p.2.toArray⟩]
theorem wdCells_len (l : List (UInt8 × List UInt8)) : (wdCells l).length = l.length * 2 := by
  induction l with
  | nil => rfl
  | cons p r ih => simp only [wdCells, List.flatMap_cons, List.length_append, List.length_cons, List.length_nil] at ih ⊢; omega
theorem wdCells_snoc (l : List (UInt8 × List UInt8)) (x : UInt8) (y : List UInt8) : wdCells (l ++ [(x, y)]) = wdCells l ++ [.string ⟨#[x]⟩, .string ⟨y.toArray⟩] := by
  simp [wdCells]
theorem wdCells_at (l : List (UInt8 × List UInt8)) (k : Nat) (h : k < l.length) : (wdCells l)[k * 2]? = some (.string ⟨#[l[k].1]⟩) ∧ (wdCells l)[k * 2 + 1]? = some (.string ⟨l[k].2.toArray⟩) := by
  induction l generalizing k with
  | nil => simp at h
  | cons p r ih =>
    have e : wdCells (p :: r) = .string ⟨#[p.1]⟩ :: .string ⟨p.2.toArray⟩ :: wdCells r := rfl
    rw [e]
    cases k with
    | zero => simp
    | succ k =>
      have := ih k (by simpa using h)
      rw [show (k + 1) * 2 = k * 2 + 1 + 1 from by omega]
      simpa using this
theorem wdCells_of (l : List (UInt8 × List UInt8)) : (wdL l).map (fun x => Value.string ⟨x.toArray⟩) = wdCells l := by
  induction l with
  | nil => rfl
  | cons p r ih => simp only [wdL, wdCells, List.flatMap_cons, List.map_append] at ih ⊢; rw [ih]; rfl

/-- Is this the text of the table? -/
def tabOK (s : ByteArray) : Bool := decide (s.size < 100000) && s.data.toList.all (fun b => decide (b.toNat < 128)) && (Lib.fields s.data.toList == wdL codeT)
theorem tabOK_is {s : ByteArray} (h : tabOK s = true) : s.size < 4294967281 ∧ (∀ (j : Nat) b, s.data.toList[j]? = some b → b.toNat < 128) ∧ Lib.fields s.data.toList = wdL codeT := by
  unfold tabOK at h
  rw [Bool.and_eq_true, Bool.and_eq_true, decide_eq_true_eq, List.all_eq_true, beq_iff_eq] at h
  obtain ⟨⟨h1, h2⟩, h3⟩ := h
  exact ⟨by omega, fun j b hb => by simpa using h2 b (List.mem_of_getElem? hb), h3⟩

/-- The signs with codes of a slice, that lies in a block from base on. -/
def SgnFrom (base : Nat) (w : World) (v : Value) (l : List (UInt8 × List UInt8)) : Prop := w.ownsRow base 155 2 v l.length (wdCells l)
theorem SgnFrom.low {base base' : Nat} {w : World} {v : Value} {l : List (UInt8 × List UInt8)} (h : SgnFrom base w v l) (hb : base' ≤ base) : SgnFrom base' w v l := ownsRow_low h hb
theorem SgnFrom.grown {base : Nat} {w w' : World} {v : Value} {l : List (UInt8 × List UInt8)} (h : SgnFrom base w v l) (hg : w.grownBy w' none) : SgnFrom base w' v l := ownsRow_grown h hg
theorem SgnFrom.other {base b : Nat} {w w' : World} {v : Value} {l : List (UInt8 × List UInt8)} (h : SgnFrom base w v l) (hg : w.grownBy w' (some b)) (hb : b < base) : SgnFrom base w' v l := ownsRow_other h hg hb
theorem SgnFrom.nil (base : Nat) (w : World) : SgnFrom base w (.slice none 0 0) [] := World.ownsRow_nil _ _ _ _
theorem SgnFrom.shape {base : Nat} {w : World} {v : Value} {l : List (UInt8 × List UInt8)} (h : SgnFrom base w v l) :
    ∃ A c, v = .slice A l.length c ∧ l.length ≤ 9223372036854775807 ∧ (0 < l.length → ∃ g, A = some ⟨g, 0, none⟩ ∧ base ≤ g ∧ g < w.heap.size) := ownsRow_shape h
theorem SgnFrom.at1 {base : Nat} {w : World} {g c : Nat} {l : List (UInt8 × List UInt8)} (h : SgnFrom base w (.slice (some ⟨g, 0, none⟩) l.length c) l) (k : Nat) (hk : k < l.length) : w.cell? ⟨g, k * 2, none⟩ = some (.string ⟨#[l[k].1]⟩) ∧ w.cell? ⟨g, k * 2 + 1, none⟩ = some (.string ⟨l[k].2.toArray⟩) := by
  have hc := wdCells_at l k hk
  rw [World.ownsRow.cellAt h (k * 2) (by omega), World.ownsRow.cellAt h (k * 2 + 1) (by omega)]
  exact hc

theorem sgnInfo : (Tryz.prog.info? 155).map (fun i => (i.zero, i.size, i.bytes)) = some (some (.agg #[.string ⟨#[]⟩, .string ⟨#[]⟩]), 2, 32) := by kernel_rfl
theorem cells_new (w : World) (cs : List Value) (t : TypeId) : ∀ j u, cs[j]? = some u → (w.alloc (.cells cs.toArray t)).cell? ((⟨w.heap.size, 0, none⟩ : Addr).add j) = some u := by
  intro j u hu
  have hb := (Blk.new w t cs.toArray).cell j
  have hadd : (⟨w.heap.size, 0, none⟩ : Addr).add j = ⟨w.heap.size, j, none⟩ := by unfold Addr.add; split <;> simp_all
  rw [hadd, hb]
  simpa using hu
theorem two_one (x y : ByteArray) : ∀ u ∈ [Value.string x, .string y], u.oneCell' = true := by
  intro u hu; simp at hu; rcases hu with rfl | rfl <;> rfl
end Go.Proofs.YtjhklpffmfdkbaaGreatDoor
