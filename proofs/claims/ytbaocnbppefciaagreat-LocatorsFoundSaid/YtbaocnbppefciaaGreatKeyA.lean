/- The signs with their codes, as bytes; a slice of signs with codes, as a list of pairs. No condition. What the walks ask of package-level variables: MaxLen holds a number, asciiSpace is Go's own table. No condition. The walk over key.Codes: the forty signs with their codes, in new memory. Condition: asciiSpace is Go's own table. A map from bytes to strings that the program has made, as a list of pairs of which the last one counts. No condition. The walk over key.byBytes: a map from the forty signs to their codes, in new memory. Condition: asciiSpace is Go's own table. -/
import Derived.Test.YtbaocnbppefciaaGreatInts
import Derived.Lib.Fields
import Derived.Test.YtbaocnbppefciaaGreatBase
import Derived.Test.YtbaocnbppefciaaGreatShelf
import Derived.Lib.SmallJoins
import Derived.Deep.AppendLies
import Derived.Deep.RegionHeld3
import Derived.Maps.OwnOps
import Derived.Maps.Views
import Derived.Maps.StringElems
namespace Go.Proofs.YtbaocnbppefciaaGreat
open Go.RowKit
set_option linter.unusedVariables false

/-- The forty signs, each with its code. -/
def codeT : List (UInt8 × List UInt8) := [
  (97, [46, 45]), (98, [45, 46, 46, 46]), (99, [45, 46, 45, 46]), (100, [45, 46, 46]), (101, [46]), (102, [46, 46, 45, 46]), (103, [45, 45, 46]), (104, [46, 46, 46, 46]),
  (105, [46, 46]), (106, [46, 45, 45, 45]), (107, [45, 46, 45]), (108, [46, 45, 46, 46]), (109, [45, 45]), (110, [45, 46]), (111, [45, 45, 45]), (112, [46, 45, 45, 46]),
  (113, [45, 45, 46, 45]), (114, [46, 45, 46]), (115, [46, 46, 46]), (116, [45]), (117, [46, 46, 45]), (118, [46, 46, 46, 45]), (119, [46, 45, 45]), (120, [45, 46, 46, 45]),
  (121, [45, 46, 45, 45]), (122, [45, 45, 46, 46]), (48, [45, 45, 45, 45, 45]), (49, [46, 45, 45, 45, 45]), (50, [46, 46, 45, 45, 45]), (51, [46, 46, 46, 45, 45]), (52, [46, 46, 46, 46, 45]), (53, [46, 46, 46, 46, 46]),
  (54, [45, 46, 46, 46, 46]), (55, [45, 45, 46, 46, 46]), (56, [45, 45, 45, 46, 46]), (57, [45, 45, 45, 45, 46]), (47, [45, 46, 46, 45, 46]), (63, [46, 46, 45, 45, 46, 46]), (61, [45, 46, 46, 46, 45]), (43, [46, 45, 46, 45, 46])]
theorem codeT_len : codeT.length = 40 := by decide +kernel
/-- The code of a byte; empty: it is no sign. -/
def codeOf (c : UInt8) : List UInt8 := ((codeT.find? fun p => p.1 == c).map (·.2)).getD []

def wdL (l : List (UInt8 × List UInt8)) : List (List UInt8) := l.flatMap fun p => [[p.1], p.2]
def wdCells (l : List (UInt8 × List UInt8)) : List Value := l.flatMap fun p => [.string ⟨#[p.1]⟩, .string ⟨p.2.toArray⟩]
theorem wdCells_len (l : List (UInt8 × List UInt8)) : (wdCells l).length = l.length * 2 := by
  induction l with
  | nil => rfl
  | cons p r ih => simp only [wdCells, List.flatMap_cons, List.length_append, List.length_cons, List.length_nil] at ih ⊢; omega
theorem wdCells_snoc (l : List (UInt8 × List UInt8)) (x : UInt8) (y : List UInt8) : wdCells (l ++ [(x, y)]) = wdCells l ++ [.string ⟨#[x]⟩, .string ⟨y.toArray⟩] := by
  simp [wdCells]
theorem wdCells_at (l : List (UInt8 × List UInt8)) (k : Nat) (h : k < l.length) : (wdCells l)[k * 2]? = some (.string ⟨#[l[k].1]⟩) ∧ (wdCells l)[k * 2 + 1]? = some (.string ⟨l[k].2.toArray⟩) := by
  induction l generalizing k with
  | nil => simp at h
  | cons p r ih =>
    have e : wdCells (p :: r) = .string ⟨#[p.1]⟩ :: .string ⟨p.2.toArray⟩ :: wdCells r := rfl
    rw [e]
    cases k with
    | zero => simp
    | succ k =>
      have := ih k (by simpa using h)
      rw [show (k + 1) * 2 = k * 2 + 1 + 1 from by omega]
      simpa using this
theorem wdCells_of (l : List (UInt8 × List UInt8)) : (wdL l).map (fun x => Value.string ⟨x.toArray⟩) = wdCells l := by
  induction l with
  | nil => rfl
  | cons p r ih => simp only [wdL, wdCells, List.flatMap_cons, List.map_append] at ih ⊢; rw [ih]; rfl

/-- Is this the text of the table? -/
def tabOK (s : ByteArray) : Bool := decide (s.size < 100000) && s.data.toList.all (fun b => decide (b.toNat < 128)) && (Lib.fields s.data.toList == wdL codeT)
theorem tabOK_is {s : ByteArray} (h : tabOK s = true) : s.size < 4294967281 ∧ (∀ (j : Nat) b, s.data.toList[j]? = some b → b.toNat < 128) ∧ Lib.fields s.data.toList = wdL codeT := by
  unfold tabOK at h
  rw [Bool.and_eq_true, Bool.and_eq_true, decide_eq_true_eq, List.all_eq_true, beq_iff_eq] at h
  obtain ⟨⟨h1, h2⟩, h3⟩ := h
  exact ⟨by omega, fun j b hb => by simpa using h2 b (List.mem_of_getElem? hb), h3⟩

theorem cells_new (w : World) (cs : List Value) (t : TypeId) : ∀ j u, cs[j]? = some u → (w.alloc (.cells cs.toArray t)).cell? ((⟨w.heap.size, 0, none⟩ : Addr).add j) = some u := by
  intro j u hu
  have hb := (Blk.new w t cs.toArray).cell j
  have hadd : (⟨w.heap.size, 0, none⟩ : Addr).add j = ⟨w.heap.size, j, none⟩ := by unfold Addr.add; split <;> simp_all
  rw [hadd, hb]
  simpa using hu
theorem two_one (x y : ByteArray) : ∀ u ∈ [Value.string x, .string y], u.oneCell' = true := by
  intro u hu; simp at hu; rcases hu with rfl | rfl <;> rfl
end Go.Proofs.YtbaocnbppefciaaGreat

namespace Go.Proofs.YtbaocnbppefciaaGreat
open Go.RowKit
set_option linter.unusedVariables false

theorem tab_grown {w w' : World} {row : Option Nat} {g : Nat} {n : String} {k : IntKind} {zs : List Int} (hn : Tryz.prog.globalNamed n = some g) (h : Lib.TabIs Tryz.prog w n k zs) (hg : w.grownBy w' row) (hb : g < w.heap.size) (hr : some g ≠ row) : Lib.TabIs Tryz.prog w' n k zs := by
  unfold Lib.TabIs World.var? at h ⊢
  rw [hn] at h ⊢
  simp only [Option.bind_some] at h ⊢
  rw [hg.block g hb hr]
  exact h
end Go.Proofs.YtbaocnbppefciaaGreat

namespace Go.Proofs.YtbaocnbppefciaaGreat
open Go.RowKit
set_option linter.unusedVariables false

end Go.Proofs.YtbaocnbppefciaaGreat

namespace Go.Proofs.YtbaocnbppefciaaGreat
open Go.RowKit
set_option linter.unusedVariables false

/-- What a list of pairs says of a byte: the last one counts. -/
def look (l : List (UInt8 × List UInt8)) (c : UInt8) : List UInt8 := l.foldl (fun acc p => if p.1 = c then p.2 else acc) []
theorem look_snoc (l : List (UInt8 × List UInt8)) (x : UInt8) (y : List UInt8) (c : UInt8) : look (l ++ [(x, y)]) c = if x = c then y else look l c := by simp [look]
theorem look_codes (c : UInt8) : look codeT c = codeOf c := by
  have h : ∀ n : Fin 256, look codeT (UInt8.ofNat n.val) = codeOf (UInt8.ofNat n.val) := by decide +kernel
  have := h ⟨c.toNat, c.toNat_lt⟩
  simpa using this

def MapB (w : World) (bm n : Nat) (l : List (UInt8 × List UInt8)) : Prop :=
  ∃ D : DataW Unit, w.ownsMap Tryz.prog 5 (plainElem Tryz.prog 9) bm n D ∧ Maps.IsMap D ∧ ∀ c : UInt8, D.atKey (.int .u8 c.toNat) (.lit (.string [])) = .lit (.string (look l c))
theorem MapB.lt {w : World} {bm n : Nat} {l : List (UInt8 × List UInt8)} (h : MapB w bm n l) : bm < w.heap.size := by obtain ⟨D, h1, _⟩ := h; exact h1.lt
theorem MapB.made (w : World) : MapB (w.alloc (.map #[] 0)) w.heap.size 0 [] := ⟨_, World.ownsMap_made w _ _ _, Maps.isMap_empty, fun c => rfl⟩
theorem MapB.kept {w w' : World} {bm n : Nat} {l : List (UInt8 × List UInt8)} (h : MapB w bm n l) {row : Option Nat} (hg : w.grownBy w' row) (hr : some bm ≠ row) : MapB w' bm n l := by
  obtain ⟨D, h1, h2, h3⟩ := h
  exact ⟨D, h1.kept hg hr, h2, h3⟩
theorem MapB.quiet {w w' : World} {bm n : Nat} {l : List (UInt8 × List UInt8)} (h : MapB w bm n l) (hg : w.grownBy w' none) : MapB w' bm n l := h.kept hg (by simp)
theorem u8_wf (c : UInt8) : (Lit.int .u8 (c.toNat : Int)).wf = true := by
  have := c.toNat_lt
  simp [Lit.wf, IntKind.min, IntKind.max, IntKind.signed, IntKind.bits]
  omega
theorem u8_key (c : UInt8) : keyOf Tryz.prog 5 (.int .u8 (c.toNat : Int)) = some (.int .u8 (c.toNat : Int)) := Maps.keyOf_int_mk Tryz.underlying5 (u8_wf c)
end Go.Proofs.YtbaocnbppefciaaGreat

namespace Go.Proofs.YtbaocnbppefciaaGreat
open Go.RowKit
set_option linter.unusedVariables false

theorem codeT_short : ∀ p ∈ codeT, p.2.length ≤ 6 := by decide +kernel
/-- What byBytes hands back: a map of the codes, in new memory. -/
def MapPost (w : World) (e : Ending) (w' : World) : Prop := ∃ bm, e = .returned (.map (some bm)) ∧ w.heap.size ≤ bm ∧ MapB w' bm 40 codeT ∧ w.grownBy w' none

end Go.Proofs.YtbaocnbppefciaaGreat
