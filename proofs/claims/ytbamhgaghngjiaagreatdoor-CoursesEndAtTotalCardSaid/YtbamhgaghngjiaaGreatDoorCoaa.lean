/- Parts of a proof: Base, Faults, Ints, Shelf, RateA. Conditions: as each statement says. -/
import Derived.Test.YtbamhgaghngjiaaGreatDoorCotk
import Derived.Test.YtbamhgaghngjiaaGreatDoorRows
import Derived.WalkSpells
import Derived.WalkLawsBesides
import Derived.Deep.QuietTactic
import Derived.BigQuiet
import Derived.Lib.Hide
import Derived.Shelf.Strings.Trim
import Derived.Shelf.Small.Utf8
import Derived.Shelf.Small.Bits
import Derived.Shelf.Small.Strs
import Derived.Shelf.Small.Wraps
import Derived.Shelf.Utf8.RuneCount
import Derived.Shelf.Strconv.Itoa0
import Derived.Shelf.Strconv.Itoa1
import Derived.Shelf.LaysM
import Derived.Shelf.Strconv.Itoa2
import Derived.Shelf.Strconv.Itoa3
import Derived.Shelf.Strings.Search1
import Derived.Shelf.Strings.Search2
import Derived.Shelf.Strings.Search3
import Derived.Shelf.Strings.Cut
import Derived.Shelf.Strings.Count
import Derived.Shelf.Strings.Shaped
import Derived.Shelf.Sort.Plain
import Derived.Shelf.Strings.Split
import Derived.Shelf.Strings.Fields
import Derived.Shelf.Strings.SplitShaped
import Derived.Shelf.Unicode.Latin
import Derived.Shelf.Unicode.Decode
import Derived.Shelf.Strings.Runes
import Derived.Shelf.Strings.RuneCount
import Derived.Shelf.Strings.IndexAny
import Derived.Shelf.Strings.AsciiSet
import Derived.Shelf.Strings.IndexAnyAll
import Derived.Shelf.Strings.Explode
import Derived.Shelf.Unicode.DecodeSlow
import Derived.Shelf.Unicode.DecodeAny
import Derived.Shelf.Unicode.Is16White
import Derived.Shelf.Unicode.IsSpaceAny
import Derived.Shelf.Unicode.DecodeLast
import Derived.Shelf.Unicode.Is16WhiteD
import Derived.Shelf.Unicode.IsSpaceAnyD
import Derived.Shelf.Strings.FieldsAny
import Derived.Shelf.Strings.FieldsFuncAny
import Derived.Shelf.Unicode.Is16Any
import Derived.Shelf.Unicode.Is32Any
import Derived.Shelf.Unicode.ExclAny
import Derived.Shelf.Strings.FieldsFuncGrows
import Derived.Shelf.Slices.Turned
import Derived.Ground.Names2Prog
import Derived.Shelf.Slices.CompactI
import Derived.Shelf.Slices.CompactS
import Derived.Shelf.Slices.SearchI
import Derived.Shelf.Slices.Cells
import Derived.Shelf.Slices.In.SortNone
import Derived.Shelf.Slices.Empties
import Derived.Ground.SlsfProg
import Derived.Shelf.SlSortCmp.Insertion
import Derived.Test.YtbamhgaghngjiaaGreatDoorProg
import Derived.Deep.RegionHeld3
namespace Go.Proofs.YtbamhgaghngjiaaGreatDoor
theorem ssA.{u} {A : Type u} {l : List A} {i : Nat} {a : A} : l.toArray.setIfInBounds i a = (l.set i a).toArray := List.setIfInBounds_toArray ..
theorem ssZ.{u} {A : Type u} {x y : A} {l : List A} : (x :: l).set 0 y = y :: l := rfl
theorem ssS.{u} {A : Type u} {x y : A} {l : List A} {n : Nat} : (x :: l).set (n + 1) y = x :: l.set n y := rfl
theorem geA.{u} {A : Type u} {l : List A} {i : Nat} : l.toArray[i]? = l[i]? := List.getElem?_toArray ..
theorem geZ.{u} {A : Type u} {x : A} {l : List A} : (x :: l)[0]? = some x := List.getElem?_cons_zero ..
theorem geS.{u} {A : Type u} {x : A} {l : List A} {n : Nat} : (x :: l)[n + 1]? = l[n]? := List.getElem?_cons_succ ..
set_option linter.unusedVariables false
open Go.RowKit

def Blk (w : World) (g : Nat) (t : TypeId) (cs : Array Value) : Prop := w.heap[g]? = some (.cells cs t (0, 0))
section
variable {w w' : World} {g : Nat} {t : TypeId} {cs : Array Value}
theorem Blk.lt (h : Blk w g t cs) : g < w.heap.size := (Array.getElem?_eq_some_iff.1 h).1
theorem Blk.cell (h : Blk w g t cs) (i : Nat) : w.cell? ⟨g, i, none⟩ = cs[i]? := cell_of_row w g i cs t (0, 0) h
theorem Blk.free (h : Blk w g t cs) (i : Nat) : w.frozen? ⟨g, i, none⟩ = false := by
 unfold Blk at h; simp [World.frozen?, h]
theorem Blk.new (w : World) (t : TypeId) (cs : Array Value) : Blk (w.alloc (.cells cs t)) w.heap.size t cs := heap_alloc_new w _
theorem Blk.alloc (h : Blk w g t cs) (o : Obj) : Blk (w.alloc o) g t cs := (Below.heap_alloc w o g h.lt).trans h
theorem Blk.drew (h : Blk w g t cs) : Blk w.drew g t cs := h
theorem Blk.drewN (h : Blk w g t cs) (n : Nat) : Blk (w.drewN n) g t cs := h
theorem Blk.put (h : Blk w g t cs) (i : Nat) (u : Value) : Blk (w.setCell ⟨g, i, none⟩ u) g t (cs.setIfInBounds i u) := by
 unfold Blk at h ⊢; simp [World.setCell, Array.getElem?_modify, h]
theorem Blk.far (h : Blk w g t cs) {p : Addr} (hp : g ≠ p.block) (u : Value) : Blk (w.setCell p u) g t cs := (Below.heap_setCell w p u g hp).trans h
theorem Blk.grown (h : Blk w g t cs) {row : Option Nat} (hb : w.grownBy w' row) (hg : some g ≠ row) : Blk w' g t cs := (hb.block g h.lt hg).trans h
end

/-! ### What a call leaves: 'w.grownBy w' none': nothing that was there has turned; 'w.grownBy w' (some b)': block b alone may have turned. -/
theorem jf (w : World) (row : Option Nat) : w.grownBy w row := World.grownBy.refl w row
theorem ja {a b c : World} {row : Option Nat} (h : a.grownBy b row) (k : b.grownBy c row) : a.grownBy c row :=
 ⟨k.os.trans h.os, k.tape.trans h.tape, k.output.trans h.output, Nat.le_trans h.size k.size, fun i hi hne => (k.block i (Nat.lt_of_lt_of_le hi h.size) hne).trans (h.block i hi hne)⟩
theorem jb8 {a b : World} (h : a.grownBy b none) (row : Option Nat) : a.grownBy b row := ⟨h.os, h.tape, h.output, h.size, fun i hi _ => h.block i hi (by simp)⟩
theorem jn {a w : World} {row : Option Nat} (h : a.grownBy w row) : a.grownBy w.drew row := ⟨h.os, h.tape, h.output, h.size, h.block⟩
theorem q9 {a w : World} {row : Option Nat} (h : a.grownBy w row) (n : Nat) : a.grownBy (w.drewN n) row := ⟨h.os, h.tape, h.output, h.size, h.block⟩
theorem jd {a w : World} {row : Option Nat} (h : a.grownBy w row) (o : Obj) : a.grownBy (w.alloc o) row :=
 ⟨h.os, h.tape, h.output, Nat.le_trans h.size (by simp), fun i hi hne => (Below.heap_alloc w o i (Nat.lt_of_lt_of_le hi h.size)).trans (h.block i hi hne)⟩
theorem jg {a w : World} {row : Option Nat} (h : a.grownBy w row) {p : Addr} (hp : row = some p.block ∨ a.heap.size ≤ p.block) (u : Value) : a.grownBy (w.setCell p u) row :=
 ⟨h.os, h.tape, h.output, by simpa [World.setCell] using h.size, fun i hi hne => (Below.heap_setCell w p u i (by
  rintro rfl
  rcases hp with hp | hp
  ·exact hne hp.symm
  ·omega)).trans (h.block i hi hne)⟩
theorem jk {a w w' : World} {row row' : Option Nat} (h : a.grownBy w row) (k : w.grownBy w' row') (hr : ∀ g, row' = some g → row = some g ∨ a.heap.size ≤ g) : a.grownBy w' row :=
 ⟨k.os.trans h.os, k.tape.trans h.tape, k.output.trans h.output, Nat.le_trans h.size k.size, fun i hi hne => (k.block i (Nat.lt_of_lt_of_le hi h.size) (fun e => by
  rcases hr i e.symm with h1 | h1
  ·exact hne h1.symm
  ·omega)).trans (h.block i hi hne)⟩
theorem jgx {a w : World} (h : a.grownBy w none) : Below a.heap.size a w := ⟨h.os, h.tape, h.output, h.size, fun i hi => h.block i hi (by simp)⟩
theorem jep {a w : World} (h : Below a.heap.size a w) : a.grownBy w none := ⟨h.os, h.tape, h.output, h.size, fun i hi _ => h.block i hi⟩
/-! ### Calls inside a region that draws its order: a contract that leaves the world alone. -/
theorem ji {k : IntKind} {a b : Int} (h : a = b) : Ending.returned (.int k a) = .returned (.int k b) := by rw [h]
theorem ys {a b : Bool} (h : a = b) : Ending.returned (.bool a) = .returned (.bool b) := by rw [h]
/-! ### pilemake.Below -/
theorem jdi (x n : Int) (h : 1 ≤ n) : -n < x.tmod n ∧ x.tmod n < n := by
 have h1 := Int.tmod_lt_of_pos x (show 0 < n by omega)
 have h2 := Int.lt_tmod_of_pos x (show 0 < n by omega)
 exact ⟨h2, h1⟩
set_option maxHeartbeats 400000 in
theorem jgi (x n : Int) (w : World) (h1 : 1 ≤ n) (h2 : n ≤ 4611686018427387904) :
 Calls Tryz.prog 127 #[.int .i64 x, .int .i64 n] w fun e w' => (∃ v : Int, 0 ≤ v ∧ v < n ∧ e = .returned (.int .i64 v)) ∧ w = w' := by
 have ht := jdi x n h1
 obtain ⟨t1, t2⟩ := ht
 go_enter Tryz.func127, Tryz.ntmps127
 go_wp2
 all_goals (go_ret; exact ⟨⟨_, by omega, by omega, rfl⟩, rfl⟩)
/-! ### The stream: a block of two cells: the numbers that it hands out, and how many it has handed out (at most k). -/
def Str (w : World) (b k : Nat) : Prop :=
 ∃ (A : Option Addr) (n c : Nat) (at_ : Int), Blk w b 25 #[.slice A n c, .int .i64 at_] ∧ 0 ≤ at_ ∧ at_ ≤ k ∧ n ≤ 9223372036854775807 ∧
   (0 < n → ∃ ad, A = some ad ∧ ad.block < b ∧ ∀ j, j < n → ∃ z : Int, w.cell? (ad.add j) = some (.int .i64 z))
theorem Str.mono {w : World} {b k k' : Nat} (h : Str w b k) (hk : k ≤ k') : Str w b k' := by
 obtain ⟨A, n, c, a, h1, h2, h3, h4, h5⟩ := h
 exact ⟨A, n, c, a, h1, h2, by omega, h4, h5⟩
theorem Str.lt {w : World} {b k : Nat} (h : Str w b k) : b < w.heap.size := by
 obtain ⟨A, n, c, a, h1, h2, h3, h4, h5⟩ := h
 exact h1.lt
theorem xd (a : Addr) (n : Nat) : (a.add n).block = a.block := by unfold Addr.add; split <;> rfl
theorem Str.grown {w w' : World} {b k : Nat} (h : Str w b k) {row : Option Nat} (hg : w.grownBy w' row) (hr : ∀ g, row = some g → b < g) : Str w' b k := by
 obtain ⟨A, n, c, a, h1, h2, h3, h4, h5⟩ := h
 have hlt := h1.lt
 refine ⟨A, n, c, a, h1.grown hg (fun e => by have := hr b e.symm; omega), h2, h3, h4, fun hn => ?_⟩
 obtain ⟨ad, e, hb, hc⟩ := h5 hn
 refine ⟨ad, e, hb, fun j hj => ?_⟩
 obtain ⟨z, hz⟩ := hc j hj
 exact ⟨z, (World.cell?_of_block (hg.block _ (by rw [xd]; omega) (fun e' => by have := hr _ e'.symm; rw [xd] at this; omega))).trans hz⟩
theorem Str.alloc {w : World} {b k : Nat} (h : Str w b k) (o : Obj) : Str (w.alloc o) b k := h.grown (World.grownBy_alloc w o none) (by simp)
theorem Str.drew {w : World} {b k : Nat} (h : Str w b k) : Str w.drew b k := h
theorem Str.drewN {w : World} {b k : Nat} (h : Str w b k) (n : Nat) : Str (w.drewN n) b k := h
def jqb (b k : Nat) (n : Int) (w : World) (e : Ending) (w' : World) : Prop :=
 ∃ v : Int, 0 ≤ v ∧ v < n ∧ e = .returned (.int .i64 v) ∧ Str w' b (k + 1) ∧ w.grownBy w' (some b)
set_option maxHeartbeats 400000 in
theorem y8 (b k : Nat) (n : Int) (w : World) (hs : Str w b k) (hk : k ≤ 1000000000000) (h1 : 1 ≤ n) (h2 : n ≤ 4611686018427387904) :
 Calls Tryz.prog 72 #[.pointer (some ⟨b, 0, none⟩), .int .i64 n] w (jqb b k n w) := by
 obtain ⟨A, len, c, a, hb, ha0, ha1, hn, hcell⟩ := hs
 have c0 := hb.cell 0
 have c1 := hb.cell 1
 have f1 := hb.free 1
 simp only [geA, geZ, geS] at c0 c1
 rcases Nat.eq_zero_or_pos len with h0 | h0
 ·subst h0
  have H5 := Lib.hid hcell
  clear hcell
  go_enter Tryz.func72, Tryz.ntmps72
  go_wp2_with fail
  refine (jgi _ _ _ h1 h2).mono ?_
  rintro e w' ⟨⟨v, hv0, hv1, rfl⟩, rfl⟩
  go_wp2_with fail
  go_ret
  have hb' := hb.put 1 (.int .i64 (a + 1))
  exact ⟨v, hv0, hv1, rfl, ⟨A, 0, c, a + 1, hb', by omega, by omega, hn, fun h => absurd h (by omega)⟩, jg (jf _ _) (.inl rfl) _⟩
 obtain ⟨ad, rfl, hab, hx⟩ := hcell h0
 have H5 := Lib.hid hcell
 clear hcell
 have m0 : 0 ≤ a % (len : Int) := Int.emod_nonneg _ (by omega)
 have m1 : a % (len : Int) < len := Int.emod_lt_of_pos _ (by omega)
 have m2 : 0 ≤ a / (len : Int) := Int.ediv_nonneg ha0 (by omega)
 have m3 : a / (len : Int) ≤ a := Int.ediv_le_self _ ha0
 have hlen : ((len : Int) == 0) = false := by rw [beq_eq_false_iff_ne]; omega
 obtain ⟨i, hi⟩ := Int.eq_ofNat_of_zero_le m0
 obtain ⟨z, hz⟩ := hx i (by omega)
 have hz' : (w.setCell ⟨b, 1, none⟩ (.int .i64 (a + 1))).cell? (ad.add i) = some (.int .i64 z) :=
  (World.cell?_setCell_other w _ _ _ (fun e => by have := xd ad i; rw [← e] at this; simp at this; omega)).trans hz
 have HX := Lib.hid hx
 have HI := Lib.hid hi
 clear hx hz
 go_enter Tryz.func72, Tryz.ntmps72
 go_wp2_with fail
 go_quiet (fail)
 go_wp2_with fail
 go_quiet (fail)
 go_wp2_with fail
 refine (jgi _ _ _ (by omega) (by omega)).mono ?_
 rintro e w' ⟨⟨v, hv0, hv1, rfl⟩, rfl⟩
 go_wp2_with fail
 refine (jgi _ _ _ h1 h2).mono ?_
 rintro e w' ⟨⟨v2, hv20, hv21, rfl⟩, rfl⟩
 go_wp2_with fail
 go_ret
 have hb' := (hb.put 1 (.int .i64 (a + 1)))
 exact ⟨v2, hv20, hv21, rfl, ⟨some ad, len, c, a + 1, hb', by omega, by omega, hn, fun _ => ⟨ad, rfl, hab, fun j hj => by
  obtain ⟨z', hz2⟩ := HX.out j hj
  exact ⟨z', (World.cell?_setCell_other w _ _ _ (fun e => by have := xd ad j; rw [← e] at this; simp at this; omega)).trans hz2⟩⟩⟩,
  by repeat (first | exact jg (jf _ _) (.inl rfl) _ | refine q9 ?_ _ | refine jn ?_)⟩
end Go.Proofs.YtbamhgaghngjiaaGreatDoor
namespace Go.Proofs.YtbamhgaghngjiaaGreatDoor
open Go.RowKit
set_option linter.unusedVariables false

def qu (n l h : Int) : Bool := decide (n < l) || decide (h < n)
theorem zx {n l h : Int} (h1 : l ≤ n) (h2 : n ≤ h) : qu n l h = false := by unfold qu; simp; omega
theorem xq {n l h : Int} (h1 : n < l ∨ h < n) : qu n l h = true := by unfold qu; simp; omega
def jdh (n l h : Int) : Int := if qu n l h then 1 else 0
def momE (at_ : Int) : Int := jdh at_ 0 345686399999
theorem jlm {n l h : Int} (h1 : l ≤ n) (h2 : n ≤ h) : jdh n l h = 0 := by unfold jdh; rw [zx h1 h2]; rfl
theorem jpn {n l h : Int} (h1 : n < l ∨ h < n) : jdh n l h = 1 := by unfold jdh; rw [xq h1]; rfl
theorem jfa (n l h : Int) : (jdh n l h = 0 ∧ l ≤ n ∧ n ≤ h) ∨ (jdh n l h = 1 ∧ (n < l ∨ h < n)) := by
 by_cases hh : l ≤ n ∧ n ≤ h
 ·exact .inl ⟨jlm hh.1 hh.2, hh⟩
 have h' : n < l ∨ h < n := by omega
 exact .inr ⟨jpn h', h'⟩
set_option maxHeartbeats 400000 in
theorem qd (n l h : Int) (w : World) :
 Calls Tryz.prog 59 #[.int .i64 n, .int .i64 l, .int .i64 h] w fun e w' => e = .returned (.bool (qu n l h)) ∧ w = w' := by
 by_cases h1 : n < l
 ·have HE := Lib.hid (show qu n l h = true from xq (.inl h1))
  go_enter Tryz.func59, Tryz.ntmps59
  go_wp2_with fail
  go_ret
  exact ⟨ys HE.out.symm, rfl⟩
 by_cases h2 : h < n
 ·have HE := Lib.hid (show qu n l h = true from xq (.inr h2))
  go_enter Tryz.func59, Tryz.ntmps59
  go_wp2_with fail
  go_ret
  exact ⟨ys HE.out.symm, rfl⟩
 have HE := Lib.hid (show qu n l h = false from zx (by omega) (by omega))
 go_enter Tryz.func59, Tryz.ntmps59
 go_wp2_with fail
 go_ret
 exact ⟨ys HE.out.symm, rfl⟩
set_option maxHeartbeats 400000 in
theorem xx (n l h : Int) (w : World) :
 Calls Tryz.prog 38 #[.int .i64 n, .int .i64 l, .int .i64 h] w fun e w' => e = .returned (.bool (!qu n l h)) ∧ w = w' := by
 by_cases h1 : n < l
 ·have HE := Lib.hid (show qu n l h = true from xq (.inl h1))
  go_enter Tryz.func38, Tryz.ntmps38
  go_wp2_with fail
  go_ret
  exact ⟨ys (by rw [HE.out]; first | rfl | (simp; omega)), rfl⟩
 by_cases h2 : h < n
 ·have HE := Lib.hid (show qu n l h = true from xq (.inr h2))
  go_enter Tryz.func38, Tryz.ntmps38
  go_wp2_with fail
  go_ret
  exact ⟨ys (by rw [HE.out]; first | rfl | (simp; omega)), rfl⟩
 have HE := Lib.hid (show qu n l h = false from zx (by omega) (by omega))
 go_enter Tryz.func38, Tryz.ntmps38
 go_wp2_with fail
 go_ret
 exact ⟨ys (by rw [HE.out]; first | rfl | (simp; omega)), rfl⟩
set_option maxHeartbeats 400000 in
theorem jid (n : Int) (w : World) :
 Calls Tryz.prog 54 #[.int .i64 n] w fun e w' => e = .returned (.bool (!qu n 0 345686399999)) ∧ w = w' := by
 go_enter Tryz.func54, Tryz.ntmps54
 go_wp2_with fail
 refine (qd _ _ _ _).mono ?_
 rintro e w' ⟨rfl, rfl⟩
 go_wp2_with fail
 go_ret
 exact ⟨rfl, rfl⟩
set_option maxHeartbeats 400000 in
theorem jhk (n l h : Int) (w : World) :
 Calls Tryz.prog 129 #[.int .i64 n, .int .i64 l, .int .i64 h] w fun e w' => e = .returned (.int .i64 (jdh n l h)) ∧ w = w' := by
 rcases hb : qu n l h
 all_goals
  have HE := Lib.hid hb
  go_enter Tryz.func129, Tryz.ntmps129
  go_wp2_with fail
  refine (xx _ _ _ _).mono ?_
  rintro e w' ⟨rfl, rfl⟩
  go_wp2_with fail
  go_ret
  exact ⟨ji (by unfold jdh; rw [HE.out]; rfl), rfl⟩
set_option maxHeartbeats 400000 in
theorem jez (n : Int) (w : World) :
 Calls Tryz.prog 77 #[.int .i64 n] w fun e w' => e = .returned (.int .i64 (momE n)) ∧ w = w' := by
 go_enter Tryz.func77, Tryz.ntmps77
 go_wp2_with fail
 refine (jhk _ _ _ _).mono ?_
 rintro e w' ⟨rfl, rfl⟩
 go_wp2_with fail
 go_ret
 exact ⟨rfl, rfl⟩
theorem joe {xs : List Int} {i : Nat} (h : i < xs.length) : ((xs.map (Value.int .i64)).toArray)[i]? = some (.int .i64 xs[i]) := by simp [h]
def orL : List Int → Int
 | [] => 0
 | a :: r => if a = 0 then orL r else a
set_option maxHeartbeats 400000 in
theorem jvw (xs : List Int) (g m c : Nat) (w : World) (hg : Blk w g 39 (xs.map (Value.int .i64)).toArray) (hm : m = xs.length) (h1 : m ≤ 1000) :
 Calls Tryz.prog 34 #[.slice (some ⟨g, 0, none⟩) m c] w fun r w' => r = .returned (.int .i64 (orL xs)) ∧ w = w' := by
 have HM := Lib.hid hm
 clear hm
 go_enter Tryz.func34, Tryz.ntmps34
 go_wp2_with fail
 go_loop [8] (fun i => ∃ k : Nat, k ≤ m ∧ i = .int .i64 k ∧ Hid (orL xs = orL (xs.drop k))) (fun i => m - (intOf i).toNat)
 case atStart => exact ⟨0, by omega, rfl, rfl⟩
 case round =>
  obtain ⟨k, hk, rfl, HR⟩ := hrel
  by_cases hlt : k < m
  ·have hi : k < xs.length := by have := HM.out; omega
   have hc := hg.cell k
   rw [joe hi] at hc
   obtain ⟨z, hz⟩ : ∃ z, z = xs[k] := ⟨_, rfl⟩
   rw [← hz] at hc
   have HZ : Hid (orL (xs.drop k) = if z = 0 then orL (xs.drop (k + 1)) else z) := by
    show orL (xs.drop k) = _
    rw [List.drop_eq_getElem_cons hi, ← hz]
    rfl
   clear hz
   by_cases h0 : z = 0
   ·have hne : (z != 0) = false := by simp [h0]
    have HZ2 : Hid (orL xs = orL (xs.drop (k + 1))) := by
     show orL xs = _
     rw [HR.out, HZ.out, if_pos h0]
    have H0 := Lib.hid h0
    clear h0
    go_wp2_with fail
    go_round
    case rel => exact ⟨k + 1, by omega, by go_num, HZ2⟩
    case measure => simp [intOf]; omega
   have hne : (z != 0) = true := by simpa using h0
   have HZ2 : Hid (orL xs = z) := by
    show orL xs = _
    rw [HR.out, HZ.out, if_neg h0]
   clear h0
   go_wp2_with fail
   go_ret
   exact ⟨ji HZ2.out.symm, rfl⟩
  have HZ2 : Hid (orL xs = 0) := by
   show orL xs = _
   rw [HR.out, List.drop_of_length_le (by have := HM.out; omega)]
   rfl
  go_wp2_with fail
  go_ret
  exact ⟨ji HZ2.out.symm, rfl⟩
theorem jt4 (a b d : Int) (w : World) :
 Calls Tryz.prog 34 #[.slice (some ⟨w.heap.size, 0, none⟩) 3 3] (w.alloc (.cells #[.int .i64 a, .int .i64 b, .int .i64 d] 39)) fun r w' =>
  r = .returned (.int .i64 (orL [a, b, d])) ∧ w.grownBy w' none :=
 (jvw [a, b, d] _ 3 3 _ (Blk.new w _ _) rfl (by decide)).mono fun e w' ⟨he, hw⟩ => ⟨he, by rw [← hw]; exact World.grownBy_alloc w _ none⟩
theorem orL1 (a : Int) : orL [a] = a := by
 by_cases h : a = 0 <;> simp [orL, h]
theorem jk8 (a : Int) (r : List Int) : orL (a :: r) = if a = 0 then orL r else a := rfl
def okI (e v : Int) : Int := if e = 0 then v else 0
theorem jlf {k l : IntKind} {a b c d : Int} (h : a = b) (h' : c = d) : Ending.returned (.tuple #[.int k a, .int l c]) = .returned (.tuple #[.int k b, .int l d]) := by rw [h, h']
theorem jq {w : World} {base base' : Nat} {e : TypeId} {size : Nat} {v : Value} {n : Nat} {xs : List Value} (h : w.ownsRow base e size v n xs) (hb : base' ≤ base) : w.ownsRow base' e size v n xs := by
 obtain ⟨h1, h2⟩ := h
 refine ⟨h1, ?_⟩
 rcases h2 with h2 | ⟨g, cap, cur, hv, hg, r⟩
 ·exact .inl h2
 exact .inr ⟨g, cap, cur, hv, by omega, r⟩
theorem j7 {w w' : World} {base : Nat} {e : TypeId} {size : Nat} {v : Value} {n : Nat} {xs : List Value} (h : w.ownsRow base e size v n xs) (hg : w.grownBy w' none) : w'.ownsRow base e size v n xs :=
 h.kept hg (by cases v.ownBlock <;> simp)
theorem jy {w w' : World} {base b : Nat} {e : TypeId} {size : Nat} {v : Value} {n : Nat} {xs : List Value} (h : w.ownsRow base e size v n xs) (hg : w.grownBy w' (some b)) (hb : b < base) : w'.ownsRow base e size v n xs :=
 h.kept hg (by
  cases hv : v.ownBlock with
  | none => exact .inl rfl
  | some g => exact .inr (fun e => by injection e with e; have := (h.lt g hv).1; omega))
theorem j1 {w : World} {base : Nat} {e : TypeId} {size : Nat} {v : Value} {n : Nat} {xs : List Value} (h : w.ownsRow base e size v n xs) :
 ∃ A c, v = .slice A n c ∧ n ≤ 9223372036854775807 ∧ (0 < n → ∃ g, A = some ⟨g, 0, none⟩ ∧ base ≤ g ∧ g < w.heap.size) := by
 rcases h.2 with ⟨rfl, rfl⟩ | ⟨g, cap, cur, rfl, hb, hh, hnc, hm, _⟩
 ·exact ⟨none, 0, rfl, by omega, fun h => absurd h (by omega)⟩
 unfold maxLen at hm
 exact ⟨_, _, rfl, by omega, fun _ => ⟨g, rfl, hb, (Array.getElem?_eq_some_iff.1 hh).1⟩⟩
def IntsFrom (base : Nat) (w : World) (v : Value) (l : List Int) : Prop := w.ownsRow base 3 1 v l.length (l.map (Value.int .i64))
abbrev Ints (w : World) (v : Value) (l : List Int) : Prop := IntsFrom 0 w v l
theorem IntsFrom.low {base : Nat} {w : World} {v : Value} {l : List Int} (h : IntsFrom base w v l) : Ints w v l := jq h (Nat.zero_le _)
theorem IntsFrom.grown {base : Nat} {w w' : World} {v : Value} {l : List Int} (h : IntsFrom base w v l) (hg : w.grownBy w' none) : IntsFrom base w' v l := j7 h hg
theorem IntsFrom.other {base b : Nat} {w w' : World} {v : Value} {l : List Int} (h : IntsFrom base w v l) (hg : w.grownBy w' (some b)) (hb : b < base) : IntsFrom base w' v l := jy h hg hb
theorem IntsFrom.nil (base : Nat) (w : World) : IntsFrom base w (.slice none 0 0) [] := World.ownsRow_nil _ _ _ _
theorem IntsFrom.shape {base : Nat} {w : World} {v : Value} {l : List Int} (h : IntsFrom base w v l) :
 ∃ A c, v = .slice A l.length c ∧ l.length ≤ 9223372036854775807 ∧ (0 < l.length → ∃ g, A = some ⟨g, 0, none⟩ ∧ base ≤ g ∧ g < w.heap.size) := j1 h
theorem IntsFrom.at_ {base : Nat} {w : World} {g c : Nat} {l : List Int} (h : IntsFrom base w (.slice (some ⟨g, 0, none⟩) l.length c) l) (k : Nat) (hk : k < l.length) : w.cell? ⟨g, k, none⟩ = some (.int .i64 l[k]) := by
 rw [World.ownsRow.cellAt h k (by omega)]
 simp [hk]
theorem jdd : (Tryz.prog.info? 3).map (fun i => (i.zero, i.size, i.bytes)) = some (some (.int .i64 0), 1, 8) := by kernel_rfl
theorem qw (w : World) (x : Int) (t : TypeId) : ∀ j u, ([Value.int .i64 x])[j]? = some u → (w.alloc (.cells #[.int .i64 x] t)).cell? ((⟨w.heap.size, 0, none⟩ : Addr).add j) = some u := by
 intro j u hu
 have hb := (Blk.new w t #[.int .i64 x]).cell j
 have hadd : (⟨w.heap.size, 0, none⟩ : Addr).add j = ⟨w.heap.size, j, none⟩ := by unfold Addr.add; split <;> simp_all
 rw [hadd, hb]
 simpa using hu
theorem j6 (x : Int) : ∀ u ∈ [Value.int .i64 x], u.oneCell' = true := by
 intro u hu
 simp at hu
 subst hu
 rfl
end Go.Proofs.YtbamhgaghngjiaaGreatDoor
namespace Go.Proofs
open Go.Shelf
def Tryz.lays160_ren : Go.Shelf.Ren := ⟨fun | 160 => 82 | 232 => 136 | 231 => 135 | 227 => 137 | 234 => 139 | 233 => 138 | 236 => 141 | 235 => 140 | 228 => 185 | 271 => 188 | 151 => 187 | 197 => 186 | 120 => 212 | 152 => 211 | 260 => 210 | 137 => 83 | 119 => 223 | 224 => 224 | 225 => 225 | 217 => 142 | 266 => 189 | n => n, fun | 9 => 9 | 4 => 4 | 3 => 3 | 5 => 5 | 117 => 200 | 116 => 199 | 0 => 0 | 124 => 203 | 21 => 21 | 105 => 238 | 46 => 110 | 119 => 263 | 139 => 266 | 138 => 265 | n => n, fun | 3 => 1 | 4 => 2 | n => n⟩
theorem Tryz.lays160 : Go.Proofs.Lays.n160 Tryz.prog Tryz.lays160_ren := {
 mixed := by kernel_rfl
 f119 := Tryz.func223.trans (congrArg some (by kernel_rfl))
 f120 := Tryz.func212.trans (congrArg some (by kernel_rfl))
 f137 := Tryz.func83.trans (congrArg some (by kernel_rfl))
 f151 := Tryz.func187.trans (congrArg some (by kernel_rfl))
 f152 := Tryz.func211.trans (congrArg some (by kernel_rfl))
 f160 := Tryz.func82.trans (congrArg some (by kernel_rfl))
 f197 := Tryz.func186.trans (congrArg some (by kernel_rfl))
 f217 := Tryz.func142.trans (congrArg some (by kernel_rfl))
 f224 := Tryz.func224.trans (congrArg some (by kernel_rfl))
 f225 := Tryz.func225.trans (congrArg some (by kernel_rfl))
 f227 := Tryz.func137.trans (congrArg some (by kernel_rfl))
 f228 := Tryz.func185.trans (congrArg some (by kernel_rfl))
 f231 := Tryz.func135.trans (congrArg some (by kernel_rfl))
 f232 := Tryz.func136.trans (congrArg some (by kernel_rfl))
 f233 := Tryz.func138.trans (congrArg some (by kernel_rfl))
 f234 := Tryz.func139.trans (congrArg some (by kernel_rfl))
 f235 := Tryz.func140.trans (congrArg some (by kernel_rfl))
 f236 := Tryz.func141.trans (congrArg some (by kernel_rfl))
 f260 := Tryz.func210.trans (congrArg some (by kernel_rfl))
 f266 := Tryz.func189.trans (congrArg some (by kernel_rfl))
 f271 := Tryz.func188.trans (congrArg some (by kernel_rfl))
 t0 := Tryz.underlying0
 a0 := Tryz.isAgg0
 z0 := Tryz.sizeOf0
 v0 := Tryz.zeroValue0
 t3 := Tryz.underlying3
 a3 := Tryz.isAgg3
 z3 := Tryz.sizeOf3
 v3 := Tryz.zeroValue3
 t4 := Tryz.underlying4
 a4 := Tryz.isAgg4
 z4 := Tryz.sizeOf4
 v4 := Tryz.zeroValue4
 t5 := Tryz.underlying5
 a5 := Tryz.isAgg5
 z5 := Tryz.sizeOf5
 v5 := Tryz.zeroValue5
 t9 := Tryz.underlying9
 a9 := Tryz.isAgg9
 z9 := Tryz.sizeOf9
 v9 := Tryz.zeroValue9
 t21 := Tryz.underlying21
 a21 := Tryz.isAgg21
 z21 := Tryz.sizeOf21
 v21 := Tryz.zeroValue21
 t46 := Tryz.underlying110
 a46 := Tryz.isAgg110
 z46 := Tryz.sizeOf110
 v46 := Tryz.zeroValue110
 t105 := Tryz.underlying238
 a105 := Tryz.isAgg238
 z105 := Tryz.sizeOf238
 v105 := Tryz.zeroValue238
 t116 := Tryz.underlying199
 a116 := Tryz.isAgg199
 z116 := Tryz.sizeOf199
 t117 := Tryz.underlying200
 a117 := Tryz.isAgg200
 z117 := Tryz.sizeOf200
 v117 := Tryz.zeroValue200
 t119 := Tryz.underlying263
 a119 := Tryz.isAgg263
 z119 := Tryz.sizeOf263
 t124 := Tryz.underlying203
 a124 := Tryz.isAgg203
 z124 := Tryz.sizeOf203
 v124 := Tryz.zeroValue203
 t138 := Tryz.underlying265
 a138 := Tryz.isAgg265
 z138 := Tryz.sizeOf265
 v138 := Tryz.zeroValue265
 t139 := Tryz.underlying266
 a139 := Tryz.isAgg266
 z139 := Tryz.sizeOf266
 v139 := Tryz.zeroValue266
 g3 := by kernel_rfl
 g4 := by kernel_rfl }
def Tryz.lays106_ren : Go.Shelf.Ren := ⟨fun | 106 => 132 | 213 => 183 | 265 => 209 | n => n, fun | 9 => 9 | 3 => 3 | n => n, fun | n => n⟩
theorem Tryz.lays106 : Go.Proofs.Lays.n106 Tryz.prog Tryz.lays106_ren := {
 mixed := by kernel_rfl
 f106 := Tryz.func132.trans (congrArg some (by kernel_rfl))
 f213 := Tryz.func183.trans (congrArg some (by kernel_rfl))
 f265 := Tryz.func209.trans (congrArg some (by kernel_rfl))
 t3 := Tryz.underlying3
 a3 := Tryz.isAgg3
 z3 := Tryz.sizeOf3
 v3 := Tryz.zeroValue3
 t9 := Tryz.underlying9
 a9 := Tryz.isAgg9
 z9 := Tryz.sizeOf9
 v9 := Tryz.zeroValue9 }
open Go.RowKit in
theorem Tryz.strings_Compare (a b : ByteArray) (w : World) :
 Calls Tryz.prog 132 #[.string a, .string b] w fun e w' => e = .returned (.int .i64 (Lib.compareBytes a.data.toList b.data.toList)) ∧ w' = w := Any.strings_Compare Tryz.lays106 a b w
def Tryz.lays137_ren : Go.Shelf.Ren := ⟨fun | 137 => 83 | 217 => 142 | 266 => 189 | n => n, fun | 9 => 9 | 5 => 5 | 3 => 3 | n => n, fun | n => n⟩
theorem Tryz.lays137 : Go.Proofs.Lays.n137 Tryz.prog Tryz.lays137_ren := {
 mixed := by kernel_rfl
 f137 := Tryz.func83.trans (congrArg some (by kernel_rfl))
 f217 := Tryz.func142.trans (congrArg some (by kernel_rfl))
 f266 := Tryz.func189.trans (congrArg some (by kernel_rfl))
 t3 := Tryz.underlying3
 a3 := Tryz.isAgg3
 z3 := Tryz.sizeOf3
 v3 := Tryz.zeroValue3
 t5 := Tryz.underlying5
 a5 := Tryz.isAgg5
 z5 := Tryz.sizeOf5
 v5 := Tryz.zeroValue5
 t9 := Tryz.underlying9
 a9 := Tryz.isAgg9
 z9 := Tryz.sizeOf9
 v9 := Tryz.zeroValue9 }
open Go.RowKit in
theorem Tryz.strings_IndexByte (s : ByteArray) (c : Int) (w : World) :
 Calls Tryz.prog 83 #[.string s, .int .u8 c] w fun e w' => e = .returned (.int .i64 (Lib.indexByte s.data.toList c.toNat.toUInt8)) ∧ w' = w := Any.strings_IndexByte Tryz.lays137 s c w
def Tryz.laysM171_ren : Go.Shelf.Ren := ⟨fun | 171 => 174 | 243 => 205 | 246 => 221 | 283 => 232 | 284 => 233 | 285 => 234 | 286 => 235 | 129 => 112 | 317 => 241 | 318 => 242 | 319 => 243 | 320 => 244 | 337 => 247 | 338 => 248 | n => n, fun | 3 => 3 | 9 => 9 | 2 => 2 | 4 => 4 | 171 => 270 | 0 => 0 | 53 => 180 | 37 => 272 | 5 => 5 | 173 => 273 | 212 => 282 | 51 => 178 | 20 => 20 | 213 => 283 | 46 => 110 | 232 => 297 | 233 => 298 | n => n, fun | 17 => 5 | 18 => 6 | 19 => 7 | n => n⟩
theorem Tryz.laysM171 : Go.Proofs.LaysM.n171 Tryz.prog Tryz.laysM171_ren := {
 mixed := by kernel_rfl
 f129 := Tryz.func112.trans (congrArg some (by kernel_rfl))
 f171 := Tryz.func174.trans (congrArg some (by kernel_rfl))
 f243 := Tryz.func205.trans (congrArg some (by kernel_rfl))
 f246 := Tryz.func221.trans (congrArg some (by kernel_rfl))
 f283 := Tryz.func232.trans (congrArg some (by kernel_rfl))
 f284 := Tryz.func233.trans (congrArg some (by kernel_rfl))
 f285 := Tryz.func234.trans (congrArg some (by kernel_rfl))
 f286 := Tryz.func235.trans (congrArg some (by kernel_rfl))
 f317 := Tryz.func241.trans (congrArg some (by kernel_rfl))
 f318 := Tryz.func242.trans (congrArg some (by kernel_rfl))
 f319 := Tryz.func243.trans (congrArg some (by kernel_rfl))
 f320 := Tryz.func244.trans (congrArg some (by kernel_rfl))
 f337 := Tryz.func247.trans (congrArg some (by kernel_rfl))
 f338 := Tryz.func248.trans (congrArg some (by kernel_rfl))
 t0 := Tryz.underlying0
 a0 := Tryz.isAgg0
 z0 := Tryz.sizeOf0
 v0 := Tryz.zeroValue0
 t2 := Tryz.underlying2
 a2 := Tryz.isAgg2
 z2 := Tryz.sizeOf2
 v2 := Tryz.zeroValue2
 t3 := Tryz.underlying3
 a3 := Tryz.isAgg3
 z3 := Tryz.sizeOf3
 v3 := Tryz.zeroValue3
 t4 := Tryz.underlying4
 a4 := Tryz.isAgg4
 z4 := Tryz.sizeOf4
 v4 := Tryz.zeroValue4
 t5 := Tryz.underlying5
 a5 := Tryz.isAgg5
 z5 := Tryz.sizeOf5
 v5 := Tryz.zeroValue5
 t9 := Tryz.underlying9
 a9 := Tryz.isAgg9
 z9 := Tryz.sizeOf9
 v9 := Tryz.zeroValue9
 t20 := Tryz.underlying20
 a20 := Tryz.isAgg20
 z20 := Tryz.sizeOf20
 v20 := Tryz.zeroValue20
 t37 := Tryz.underlying272
 a37 := Tryz.isAgg272
 z37 := Tryz.sizeOf272
 v37 := Tryz.zeroValue272
 t46 := Tryz.underlying110
 a46 := Tryz.isAgg110
 z46 := Tryz.sizeOf110
 v46 := Tryz.zeroValue110
 t51 := Tryz.underlying178
 a51 := Tryz.isAgg178
 z51 := Tryz.sizeOf178
 v51 := Tryz.zeroValue178
 t53 := Tryz.underlying180
 a53 := Tryz.isAgg180
 z53 := Tryz.sizeOf180
 v53 := Tryz.zeroValue180
 t171 := Tryz.underlying270
 a171 := Tryz.isAgg270
 z171 := Tryz.sizeOf270
 v171 := Tryz.zeroValue270
 t173 := Tryz.underlying273
 a173 := Tryz.isAgg273
 z173 := Tryz.sizeOf273
 v173 := Tryz.zeroValue273
 t212 := Tryz.underlying282
 a212 := Tryz.isAgg282
 z212 := Tryz.sizeOf282
 v212 := Tryz.zeroValue282
 t213 := Tryz.underlying283
 a213 := Tryz.isAgg283
 z213 := Tryz.sizeOf283
 t232 := Tryz.underlying297
 a232 := Tryz.isAgg297
 z232 := Tryz.sizeOf297
 v232 := Tryz.zeroValue297
 t233 := Tryz.underlying298
 a233 := Tryz.isAgg298
 z233 := Tryz.sizeOf298
 v233 := Tryz.zeroValue298
 g17 := by kernel_rfl
 g18 := by kernel_rfl
 g19 := by kernel_rfl
 i0 := by kernel_rfl
 i2 := by kernel_rfl
 i3 := by kernel_rfl
 i4 := by kernel_rfl
 i5 := by kernel_rfl
 i9 := by kernel_rfl
 i20 := by kernel_rfl
 i37 := by kernel_rfl
 i46 := by kernel_rfl
 i51 := by kernel_rfl
 i53 := by kernel_rfl
 i171 := by kernel_rfl
 i173 := by kernel_rfl
 i212 := by kernel_rfl
 i232 := by kernel_rfl
 i233 := by kernel_rfl
 m17 := by kernel_rfl
 m18 := by kernel_rfl
 m19 := by kernel_rfl }
open Go.RowKit Go.Sort Go.Lib in
theorem Tryz.strconv_Itoa (n : Int) (h0 : -9223372036854775808 ≤ n) (h1 : n ≤ 9223372036854775807) (w : World) (htab : Lib.TabIs Tryz.prog w "internal/strconv.uint64pow10" .u64 Lib.pow10Tab) :
 Calls Tryz.prog 174 #[.int .i64 n] w fun e w' => e = .returned (.string ⟨(Lib.itoa n).toArray⟩) ∧ ∃ k os, w' = grow (w.drewN k) os := Any.strconv_Itoa Tryz.laysM171 n h0 h1 w htab
def Tryz.lays219_ren : Go.Shelf.Ren := ⟨fun | 219 => 213 | 217 => 142 | 225 => 225 | 224 => 224 | 267 => 226 | 266 => 189 | 314 => 236 | n => n, fun | 9 => 9 | 3 => 3 | 4 => 4 | 5 => 5 | 46 => 110 | 146 => 275 | 51 => 178 | n => n, fun | 1 => 0 | n => n⟩
theorem Tryz.lays219 : Go.Proofs.Lays.n219 Tryz.prog Tryz.lays219_ren := {
 mixed := by kernel_rfl
 f217 := Tryz.func142.trans (congrArg some (by kernel_rfl))
 f219 := Tryz.func213.trans (congrArg some (by kernel_rfl))
 f224 := Tryz.func224.trans (congrArg some (by kernel_rfl))
 f225 := Tryz.func225.trans (congrArg some (by kernel_rfl))
 f266 := Tryz.func189.trans (congrArg some (by kernel_rfl))
 f267 := Tryz.func226.trans (congrArg some (by kernel_rfl))
 f314 := Tryz.func236.trans (congrArg some (by kernel_rfl))
 t3 := Tryz.underlying3
 a3 := Tryz.isAgg3
 z3 := Tryz.sizeOf3
 v3 := Tryz.zeroValue3
 t4 := Tryz.underlying4
 a4 := Tryz.isAgg4
 z4 := Tryz.sizeOf4
 v4 := Tryz.zeroValue4
 t5 := Tryz.underlying5
 a5 := Tryz.isAgg5
 z5 := Tryz.sizeOf5
 v5 := Tryz.zeroValue5
 t9 := Tryz.underlying9
 a9 := Tryz.isAgg9
 z9 := Tryz.sizeOf9
 v9 := Tryz.zeroValue9
 t46 := Tryz.underlying110
 a46 := Tryz.isAgg110
 z46 := Tryz.sizeOf110
 v46 := Tryz.zeroValue110
 t51 := Tryz.underlying178
 a51 := Tryz.isAgg178
 z51 := Tryz.sizeOf178
 v51 := Tryz.zeroValue178
 t146 := Tryz.underlying275
 a146 := Tryz.isAgg275
 z146 := Tryz.sizeOf275
 v146 := Tryz.zeroValue275
 g1 := by kernel_rfl }
open Go.RowKit Go.Lib in
theorem Tryz.stringslite_Index_one (s : ByteArray) (c : UInt8) (w : World) :
 Calls Tryz.prog 213 #[.string s, .string ⟨#[c]⟩] w fun e w' => e = .returned (.int .i64 (Lib.indexByte s.data.toList c)) ∧ w' = w := Any.stringslite_Index_one Tryz.lays219 s c w
def Tryz.lays144_ren : Go.Shelf.Ren := ⟨fun | 144 => 181 | 143 => 207 | 219 => 213 | 217 => 142 | 225 => 225 | 224 => 224 | 267 => 226 | 266 => 189 | 314 => 236 | n => n, fun | 9 => 9 | 4 => 4 | 3 => 3 | 5 => 5 | 46 => 110 | 146 => 275 | 51 => 178 | n => n, fun | 1 => 0 | n => n⟩
theorem Tryz.lays144 : Go.Proofs.Lays.n144 Tryz.prog Tryz.lays144_ren := {
 mixed := by kernel_rfl
 f143 := Tryz.func207.trans (congrArg some (by kernel_rfl))
 f144 := Tryz.func181.trans (congrArg some (by kernel_rfl))
 f217 := Tryz.func142.trans (congrArg some (by kernel_rfl))
 f219 := Tryz.func213.trans (congrArg some (by kernel_rfl))
 f224 := Tryz.func224.trans (congrArg some (by kernel_rfl))
 f225 := Tryz.func225.trans (congrArg some (by kernel_rfl))
 f266 := Tryz.func189.trans (congrArg some (by kernel_rfl))
 f267 := Tryz.func226.trans (congrArg some (by kernel_rfl))
 f314 := Tryz.func236.trans (congrArg some (by kernel_rfl))
 t3 := Tryz.underlying3
 a3 := Tryz.isAgg3
 z3 := Tryz.sizeOf3
 v3 := Tryz.zeroValue3
 t4 := Tryz.underlying4
 a4 := Tryz.isAgg4
 z4 := Tryz.sizeOf4
 v4 := Tryz.zeroValue4
 t5 := Tryz.underlying5
 a5 := Tryz.isAgg5
 z5 := Tryz.sizeOf5
 v5 := Tryz.zeroValue5
 t9 := Tryz.underlying9
 a9 := Tryz.isAgg9
 z9 := Tryz.sizeOf9
 v9 := Tryz.zeroValue9
 t46 := Tryz.underlying110
 a46 := Tryz.isAgg110
 z46 := Tryz.sizeOf110
 v46 := Tryz.zeroValue110
 t51 := Tryz.underlying178
 a51 := Tryz.isAgg178
 z51 := Tryz.sizeOf178
 v51 := Tryz.zeroValue178
 t146 := Tryz.underlying275
 a146 := Tryz.isAgg275
 z146 := Tryz.sizeOf275
 v146 := Tryz.zeroValue275
 g1 := by kernel_rfl }
open Go.RowKit Go.Lib in
theorem Tryz.strings_Contains_one (s : ByteArray) (c : UInt8) (w : World) :
 Calls Tryz.prog 181 #[.string s, .string ⟨#[c]⟩] w fun e w' => e = .returned (.bool (decide (0 ≤ Lib.indexByte s.data.toList c))) ∧ w' = w := Any.strings_Contains_one Tryz.lays144 s c w
def Tryz.lays146_ren : Go.Shelf.Ren := ⟨fun | 146 => 194 | 221 => 215 | 268 => 227 | 138 => 228 | 143 => 207 | 195 => 237 | 197 => 186 | 218 => 238 | 219 => 213 | 260 => 210 | 217 => 142 | 225 => 225 | 224 => 224 | 267 => 226 | 266 => 189 | 314 => 236 | n => n, fun | 9 => 9 | 31 => 48 | 3 => 3 | 4 => 4 | 0 => 0 | 105 => 238 | 21 => 21 | 5 => 5 | 46 => 110 | 119 => 263 | 139 => 266 | 138 => 265 | 146 => 275 | 51 => 178 | n => n, fun | 1 => 0 | 3 => 1 | 4 => 2 | n => n⟩
theorem Tryz.lays146 : Go.Proofs.Lays.n146 Tryz.prog Tryz.lays146_ren := {
 mixed := by kernel_rfl
 f138 := Tryz.func228.trans (congrArg some (by kernel_rfl))
 f143 := Tryz.func207.trans (congrArg some (by kernel_rfl))
 f146 := Tryz.func194.trans (congrArg some (by kernel_rfl))
 f195 := Tryz.func237.trans (congrArg some (by kernel_rfl))
 f197 := Tryz.func186.trans (congrArg some (by kernel_rfl))
 f217 := Tryz.func142.trans (congrArg some (by kernel_rfl))
 f218 := Tryz.func238.trans (congrArg some (by kernel_rfl))
 f219 := Tryz.func213.trans (congrArg some (by kernel_rfl))
 f221 := Tryz.func215.trans (congrArg some (by kernel_rfl))
 f224 := Tryz.func224.trans (congrArg some (by kernel_rfl))
 f225 := Tryz.func225.trans (congrArg some (by kernel_rfl))
 f260 := Tryz.func210.trans (congrArg some (by kernel_rfl))
 f266 := Tryz.func189.trans (congrArg some (by kernel_rfl))
 f267 := Tryz.func226.trans (congrArg some (by kernel_rfl))
 f268 := Tryz.func227.trans (congrArg some (by kernel_rfl))
 f314 := Tryz.func236.trans (congrArg some (by kernel_rfl))
 t0 := Tryz.underlying0
 a0 := Tryz.isAgg0
 z0 := Tryz.sizeOf0
 v0 := Tryz.zeroValue0
 t3 := Tryz.underlying3
 a3 := Tryz.isAgg3
 z3 := Tryz.sizeOf3
 v3 := Tryz.zeroValue3
 t4 := Tryz.underlying4
 a4 := Tryz.isAgg4
 z4 := Tryz.sizeOf4
 v4 := Tryz.zeroValue4
 t5 := Tryz.underlying5
 a5 := Tryz.isAgg5
 z5 := Tryz.sizeOf5
 v5 := Tryz.zeroValue5
 t9 := Tryz.underlying9
 a9 := Tryz.isAgg9
 z9 := Tryz.sizeOf9
 v9 := Tryz.zeroValue9
 t21 := Tryz.underlying21
 a21 := Tryz.isAgg21
 z21 := Tryz.sizeOf21
 v21 := Tryz.zeroValue21
 t31 := Tryz.underlying48
 a31 := Tryz.isAgg48
 z31 := Tryz.sizeOf48
 v31 := Tryz.zeroValue48
 t46 := Tryz.underlying110
 a46 := Tryz.isAgg110
 z46 := Tryz.sizeOf110
 v46 := Tryz.zeroValue110
 t51 := Tryz.underlying178
 a51 := Tryz.isAgg178
 z51 := Tryz.sizeOf178
 v51 := Tryz.zeroValue178
 t105 := Tryz.underlying238
 a105 := Tryz.isAgg238
 z105 := Tryz.sizeOf238
 v105 := Tryz.zeroValue238
 t119 := Tryz.underlying263
 a119 := Tryz.isAgg263
 z119 := Tryz.sizeOf263
 t138 := Tryz.underlying265
 a138 := Tryz.isAgg265
 z138 := Tryz.sizeOf265
 v138 := Tryz.zeroValue265
 t139 := Tryz.underlying266
 a139 := Tryz.isAgg266
 z139 := Tryz.sizeOf266
 v139 := Tryz.zeroValue266
 t146 := Tryz.underlying275
 a146 := Tryz.isAgg275
 z146 := Tryz.sizeOf275
 v146 := Tryz.zeroValue275
 g1 := by kernel_rfl
 g3 := by kernel_rfl
 g4 := by kernel_rfl }
open Go.RowKit Go.Lib in
theorem Tryz.strings_Split (s sep : ByteArray) (m : Int) (w : World) (hs : s.size < 4294967281) (hm : w.cell? ⟨0, 0, none⟩ = some (.int .i64 m)) (h1 : 1 ≤ sep.size) :
 Calls Tryz.prog 194 #[.string s, .string sep] w fun e w' =>
  e = .returned (.slice (some ⟨w.heap.size, 0, none⟩) (Lib.countB s sep + 1) (Lib.countB s sep + 1)) ∧ w' = w.alloc (.cells ((Lib.splitB sep 0 (Lib.countB s sep) s).map Value.string).toArray 9) := Any.strings_Split Tryz.lays146 (by kernel_rfl) s sep m w hs hm h1
def Tryz.lays157_ren : Go.Shelf.Ren := ⟨fun | 157 => 216 | 229 => 229 | 199 => 230 | 261 => 239 | 311 => 245 | 312 => 246 | n => n, fun | 9 => 9 | 31 => 48 | 3 => 3 | 5 => 5 | 4 => 4 | 119 => 263 | 0 => 0 | 40 => 267 | 152 => 277 | 21 => 21 | 154 => 279 | 51 => 178 | 141 => 281 | 196 => 287 | 193 => 284 | 198 => 290 | 49 => 288 | 194 => 285 | 201 => 293 | 226 => 295 | 46 => 110 | 227 => 296 | n => n, fun | 0 => 3 | 6 => 4 | n => n⟩
theorem Tryz.lays157 : Go.Proofs.Lays.n157 Tryz.prog Tryz.lays157_ren := {
 mixed := by kernel_rfl
 f157 := Tryz.func216.trans (congrArg some (by kernel_rfl))
 f199 := Tryz.func230.trans (congrArg some (by kernel_rfl))
 f229 := Tryz.func229.trans (congrArg some (by kernel_rfl))
 f261 := Tryz.func239.trans (congrArg some (by kernel_rfl))
 f311 := Tryz.func245.trans (congrArg some (by kernel_rfl))
 f312 := Tryz.func246.trans (congrArg some (by kernel_rfl))
 t0 := Tryz.underlying0
 a0 := Tryz.isAgg0
 z0 := Tryz.sizeOf0
 v0 := Tryz.zeroValue0
 t3 := Tryz.underlying3
 a3 := Tryz.isAgg3
 z3 := Tryz.sizeOf3
 v3 := Tryz.zeroValue3
 t4 := Tryz.underlying4
 a4 := Tryz.isAgg4
 z4 := Tryz.sizeOf4
 v4 := Tryz.zeroValue4
 t5 := Tryz.underlying5
 a5 := Tryz.isAgg5
 z5 := Tryz.sizeOf5
 v5 := Tryz.zeroValue5
 t9 := Tryz.underlying9
 a9 := Tryz.isAgg9
 z9 := Tryz.sizeOf9
 v9 := Tryz.zeroValue9
 t21 := Tryz.underlying21
 a21 := Tryz.isAgg21
 z21 := Tryz.sizeOf21
 v21 := Tryz.zeroValue21
 t31 := Tryz.underlying48
 a31 := Tryz.isAgg48
 z31 := Tryz.sizeOf48
 v31 := Tryz.zeroValue48
 t40 := Tryz.underlying267
 a40 := Tryz.isAgg267
 z40 := Tryz.sizeOf267
 v40 := Tryz.zeroValue267
 t46 := Tryz.underlying110
 a46 := Tryz.isAgg110
 z46 := Tryz.sizeOf110
 v46 := Tryz.zeroValue110
 t49 := Tryz.underlying288
 a49 := Tryz.isAgg288
 z49 := Tryz.sizeOf288
 v49 := Tryz.zeroValue288
 t51 := Tryz.underlying178
 a51 := Tryz.isAgg178
 z51 := Tryz.sizeOf178
 v51 := Tryz.zeroValue178
 t119 := Tryz.underlying263
 a119 := Tryz.isAgg263
 z119 := Tryz.sizeOf263
 t141 := Tryz.underlying281
 a141 := Tryz.isAgg281
 z141 := Tryz.sizeOf281
 v141 := Tryz.zeroValue281
 t152 := Tryz.underlying277
 a152 := Tryz.isAgg277
 z152 := Tryz.sizeOf277
 v152 := Tryz.zeroValue277
 t154 := Tryz.underlying279
 a154 := Tryz.isAgg279
 z154 := Tryz.sizeOf279
 v154 := Tryz.zeroValue279
 t193 := Tryz.underlying284
 a193 := Tryz.isAgg284
 z193 := Tryz.sizeOf284
 v193 := Tryz.zeroValue284
 t194 := Tryz.underlying285
 a194 := Tryz.isAgg285
 z194 := Tryz.sizeOf285
 v194 := Tryz.zeroValue285
 t196 := Tryz.underlying287
 a196 := Tryz.isAgg287
 z196 := Tryz.sizeOf287
 v196 := Tryz.zeroValue287
 t198 := Tryz.underlying290
 a198 := Tryz.isAgg290
 z198 := Tryz.sizeOf290
 v198 := Tryz.zeroValue290
 t201 := Tryz.underlying293
 a201 := Tryz.isAgg293
 z201 := Tryz.sizeOf293
 v201 := Tryz.zeroValue293
 t226 := Tryz.underlying295
 a226 := Tryz.isAgg295
 z226 := Tryz.sizeOf295
 v226 := Tryz.zeroValue295
 t227 := Tryz.underlying296
 a227 := Tryz.isAgg296
 z227 := Tryz.sizeOf296
 v227 := Tryz.zeroValue296
 g0 := by kernel_rfl
 g6 := by kernel_rfl }
open Go.RowKit Go.Lib in
theorem Tryz.strings_Fields (s : ByteArray) (w : World) (hs : s.size < 4294967281) (hascii : ∀ (j : Nat) b, s.data.toList[j]? = some b → b.toNat < 128) (htab : Lib.TabIs Tryz.prog w "strings.asciiSpace" .u8 Lib.asciiSpaceTab) :
 Calls Tryz.prog 216 #[.string s] w fun e w' =>
  e = .returned (.slice (some ⟨w.heap.size, 0, none⟩) (Lib.fields s.data.toList).length (Lib.fields s.data.toList).length) ∧ w' = w.alloc (.cells ((Lib.fields s.data.toList).map fun l => Value.string ⟨l.toArray⟩).toArray 9) := Any.strings_Fields Tryz.lays157 (by kernel_rfl) (by kernel_rfl) s w hs hascii htab
def Tryz.lays152_ren : Go.Shelf.Ren := ⟨fun | 152 => 211 | 137 => 83 | 119 => 223 | 224 => 224 | 225 => 225 | 217 => 142 | 266 => 189 | n => n, fun | 9 => 9 | 21 => 21 | 3 => 3 | 4 => 4 | 5 => 5 | 0 => 0 | 46 => 110 | n => n, fun | n => n⟩
theorem Tryz.lays152 : Go.Proofs.Lays.n152 Tryz.prog Tryz.lays152_ren := {
 mixed := by kernel_rfl
 f119 := Tryz.func223.trans (congrArg some (by kernel_rfl))
 f137 := Tryz.func83.trans (congrArg some (by kernel_rfl))
 f152 := Tryz.func211.trans (congrArg some (by kernel_rfl))
 f217 := Tryz.func142.trans (congrArg some (by kernel_rfl))
 f224 := Tryz.func224.trans (congrArg some (by kernel_rfl))
 f225 := Tryz.func225.trans (congrArg some (by kernel_rfl))
 f266 := Tryz.func189.trans (congrArg some (by kernel_rfl))
 t0 := Tryz.underlying0
 a0 := Tryz.isAgg0
 z0 := Tryz.sizeOf0
 v0 := Tryz.zeroValue0
 t3 := Tryz.underlying3
 a3 := Tryz.isAgg3
 z3 := Tryz.sizeOf3
 v3 := Tryz.zeroValue3
 t4 := Tryz.underlying4
 a4 := Tryz.isAgg4
 z4 := Tryz.sizeOf4
 v4 := Tryz.zeroValue4
 t5 := Tryz.underlying5
 a5 := Tryz.isAgg5
 z5 := Tryz.sizeOf5
 v5 := Tryz.zeroValue5
 t9 := Tryz.underlying9
 a9 := Tryz.isAgg9
 z9 := Tryz.sizeOf9
 v9 := Tryz.zeroValue9
 t21 := Tryz.underlying21
 a21 := Tryz.isAgg21
 z21 := Tryz.sizeOf21
 v21 := Tryz.zeroValue21
 t46 := Tryz.underlying110
 a46 := Tryz.isAgg110
 z46 := Tryz.sizeOf110
 v46 := Tryz.zeroValue110 }
open Go.RowKit Go.Lib in
theorem Tryz.strings_IndexRune_ascii (s : ByteArray) (r : Int) (w : World) (h0 : 0 ≤ r) (h1 : r < 128) :
 Calls Tryz.prog 211 #[.string s, .int .i32 r] w fun e w' => e = .returned (.int .i64 (Lib.indexByte s.data.toList r.toNat.toUInt8)) ∧ w' = w := Any.strings_IndexRune_ascii Tryz.lays152 s r w h0 h1
def Tryz.lays226_ren : Go.Shelf.Ren := ⟨fun | 226 => 222 | n => n, fun | 3 => 3 | 4 => 4 | n => n, fun | n => n⟩
theorem Tryz.lays226 : Go.Proofs.Lays.n226 Tryz.prog Tryz.lays226_ren := {
 mixed := by kernel_rfl
 f226 := Tryz.func222.trans (congrArg some (by kernel_rfl))
 t3 := Tryz.underlying3
 a3 := Tryz.isAgg3
 z3 := Tryz.sizeOf3
 v3 := Tryz.zeroValue3
 t4 := Tryz.underlying4
 a4 := Tryz.isAgg4
 z4 := Tryz.sizeOf4
 v4 := Tryz.zeroValue4 }
open Go.RowKit Go.Lib in
theorem Tryz.strings_shouldUseASCIISet (n : Int) (w : World) :
 Calls Tryz.prog 222 #[.int .i64 n] w fun e w' => e = .returned (.bool (decide (8 < n))) ∧ w' = w := Any.strings_shouldUseASCIISet Tryz.lays226 n w
def Tryz.lays227_ren : Go.Shelf.Ren := ⟨fun | 227 => 137 | n => n, fun | 9 => 9 | 116 => 199 | 4 => 4 | 0 => 0 | 3 => 3 | 5 => 5 | n => n, fun | n => n⟩
theorem Tryz.lays227 : Go.Proofs.Lays.n227 Tryz.prog Tryz.lays227_ren := {
 mixed := by kernel_rfl
 f227 := Tryz.func137.trans (congrArg some (by kernel_rfl))
 t0 := Tryz.underlying0
 a0 := Tryz.isAgg0
 z0 := Tryz.sizeOf0
 v0 := Tryz.zeroValue0
 t3 := Tryz.underlying3
 a3 := Tryz.isAgg3
 z3 := Tryz.sizeOf3
 v3 := Tryz.zeroValue3
 t4 := Tryz.underlying4
 a4 := Tryz.isAgg4
 z4 := Tryz.sizeOf4
 v4 := Tryz.zeroValue4
 t5 := Tryz.underlying5
 a5 := Tryz.isAgg5
 z5 := Tryz.sizeOf5
 v5 := Tryz.zeroValue5
 t9 := Tryz.underlying9
 a9 := Tryz.isAgg9
 z9 := Tryz.sizeOf9
 v9 := Tryz.zeroValue9
 t116 := Tryz.underlying199
 a116 := Tryz.isAgg199
 z116 := Tryz.sizeOf199 }
open Go.RowKit Go.Lib in
theorem Tryz.strings_makeASCIISet (hv116 : ∀ w, (zeroValue 199).run Tryz.prog w = .ok (.agg (Array.replicate 256 (.bool false))) w) (chars : ByteArray) (w : World) (hs : chars.size < 4294967281) (hascii : ∀ (j : Nat) b, chars.data.toList[j]? = some b → b.toNat < 128) :
 Calls Tryz.prog 137 #[.string chars] w fun e w' => e = .returned (.tuple #[.agg (Lib.setCells chars.data.toList), .bool true]) ∧ w' = w.alloc (.cells (Lib.setCells chars.data.toList) 199) := Any.strings_makeASCIISet Tryz.lays227 hv116 (by kernel_rfl) chars w hs hascii
def Tryz.lays228_ren : Go.Shelf.Ren := ⟨fun | 228 => 185 | n => n, fun | 124 => 203 | 5 => 5 | 4 => 4 | 0 => 0 | 116 => 199 | n => n, fun | n => n⟩
theorem Tryz.lays228 : Go.Proofs.Lays.n228 Tryz.prog Tryz.lays228_ren := {
 mixed := by kernel_rfl
 f228 := Tryz.func185.trans (congrArg some (by kernel_rfl))
 t0 := Tryz.underlying0
 a0 := Tryz.isAgg0
 z0 := Tryz.sizeOf0
 v0 := Tryz.zeroValue0
 t4 := Tryz.underlying4
 a4 := Tryz.isAgg4
 z4 := Tryz.sizeOf4
 v4 := Tryz.zeroValue4
 t5 := Tryz.underlying5
 a5 := Tryz.isAgg5
 z5 := Tryz.sizeOf5
 v5 := Tryz.zeroValue5
 t116 := Tryz.underlying199
 a116 := Tryz.isAgg199
 z116 := Tryz.sizeOf199
 t124 := Tryz.underlying203
 a124 := Tryz.isAgg203
 z124 := Tryz.sizeOf203
 v124 := Tryz.zeroValue203 }
open Go.RowKit Go.Lib in
theorem Tryz.asciiSet_contains (b : Nat) (x : UInt8) (v : Bool) (w : World) (hc : w.cell? ⟨b, x.toNat, none⟩ = some (.bool v)) :
 Calls Tryz.prog 185 #[.pointer (some ⟨b, 0, none⟩), .int .u8 x.toNat] w fun e w' => e = .returned (.bool v) ∧ w' = w := Any.asciiSet_contains Tryz.lays228 b x v w hc
def Tryz.lays150_ren : Go.Shelf.Ren := ⟨fun | 150 => 182 | 153 => 208 | 152 => 211 | 226 => 222 | 227 => 137 | 228 => 185 | 137 => 83 | 119 => 223 | 224 => 224 | 225 => 225 | 217 => 142 | 266 => 189 | n => n, fun | 9 => 9 | 4 => 4 | 3 => 3 | 5 => 5 | 21 => 21 | 117 => 200 | 116 => 199 | 0 => 0 | 46 => 110 | 124 => 203 | n => n, fun | n => n⟩
theorem Tryz.lays150 : Go.Proofs.Lays.n150 Tryz.prog Tryz.lays150_ren := {
 mixed := by kernel_rfl
 f119 := Tryz.func223.trans (congrArg some (by kernel_rfl))
 f137 := Tryz.func83.trans (congrArg some (by kernel_rfl))
 f150 := Tryz.func182.trans (congrArg some (by kernel_rfl))
 f152 := Tryz.func211.trans (congrArg some (by kernel_rfl))
 f153 := Tryz.func208.trans (congrArg some (by kernel_rfl))
 f217 := Tryz.func142.trans (congrArg some (by kernel_rfl))
 f224 := Tryz.func224.trans (congrArg some (by kernel_rfl))
 f225 := Tryz.func225.trans (congrArg some (by kernel_rfl))
 f226 := Tryz.func222.trans (congrArg some (by kernel_rfl))
 f227 := Tryz.func137.trans (congrArg some (by kernel_rfl))
 f228 := Tryz.func185.trans (congrArg some (by kernel_rfl))
 f266 := Tryz.func189.trans (congrArg some (by kernel_rfl))
 t0 := Tryz.underlying0
 a0 := Tryz.isAgg0
 z0 := Tryz.sizeOf0
 v0 := Tryz.zeroValue0
 t3 := Tryz.underlying3
 a3 := Tryz.isAgg3
 z3 := Tryz.sizeOf3
 v3 := Tryz.zeroValue3
 t4 := Tryz.underlying4
 a4 := Tryz.isAgg4
 z4 := Tryz.sizeOf4
 v4 := Tryz.zeroValue4
 t5 := Tryz.underlying5
 a5 := Tryz.isAgg5
 z5 := Tryz.sizeOf5
 v5 := Tryz.zeroValue5
 t9 := Tryz.underlying9
 a9 := Tryz.isAgg9
 z9 := Tryz.sizeOf9
 v9 := Tryz.zeroValue9
 t21 := Tryz.underlying21
 a21 := Tryz.isAgg21
 z21 := Tryz.sizeOf21
 v21 := Tryz.zeroValue21
 t46 := Tryz.underlying110
 a46 := Tryz.isAgg110
 z46 := Tryz.sizeOf110
 v46 := Tryz.zeroValue110
 t116 := Tryz.underlying199
 a116 := Tryz.isAgg199
 z116 := Tryz.sizeOf199
 t117 := Tryz.underlying200
 a117 := Tryz.isAgg200
 z117 := Tryz.sizeOf200
 v117 := Tryz.zeroValue200
 t124 := Tryz.underlying203
 a124 := Tryz.isAgg203
 z124 := Tryz.sizeOf203
 v124 := Tryz.zeroValue203 }
open Go.RowKit Go.Lib in
theorem Tryz.strings_ContainsAny_laid (s chars : ByteArray) (w : World) (hs : s.size < 4294967281) (hcs : chars.size < 4294967281) (has : ∀ (j : Nat) b, s.data.toList[j]? = some b → b.toNat < 128) (hac : ∀ (j : Nat) b, chars.data.toList[j]? = some b → b.toNat < 128) :
 Calls Tryz.prog 182 #[.string s, .string chars] w fun e w' => e = .returned (.bool (Lib.containsAny s.data.toList chars.data.toList)) ∧ Below w.heap.size w w' := Any.strings_ContainsAny_laid Tryz.lays150 (by kernel_rfl) s chars w hs hcs has hac
def Tryz.laysNm225_ren : Go.Shelf.Ren := ⟨fun | 25 => 196 | 31 => 160 | 32 => 217 | 37 => 184 | n => n, fun | 22 => 22 | 3 => 3 | 4 => 4 | 40 => 110 | 0 => 0 | n => n, fun | n => n⟩
theorem Tryz.laysNm225 : Go.Proofs.Lays2.n25 Tryz.prog Tryz.laysNm225_ren := {
 mixed := by kernel_rfl
 f25 := Tryz.func196.trans (congrArg some (by kernel_rfl))
 f31 := Tryz.func160.trans (congrArg some (by kernel_rfl))
 f32 := Tryz.func217.trans (congrArg some (by kernel_rfl))
 f37 := Tryz.func184.trans (congrArg some (by kernel_rfl))
 t0 := Tryz.underlying0
 a0 := Tryz.isAgg0
 z0 := Tryz.sizeOf0
 v0 := Tryz.zeroValue0
 t3 := Tryz.underlying3
 a3 := Tryz.isAgg3
 z3 := Tryz.sizeOf3
 v3 := Tryz.zeroValue3
 t4 := Tryz.underlying4
 a4 := Tryz.isAgg4
 z4 := Tryz.sizeOf4
 v4 := Tryz.zeroValue4
 t22 := Tryz.underlying22
 a22 := Tryz.isAgg22
 z22 := Tryz.sizeOf22
 v22 := Tryz.zeroValue22
 t40 := Tryz.underlying110
 a40 := Tryz.isAgg110
 z40 := Tryz.sizeOf110
 v40 := Tryz.zeroValue110 }
open Go.RowKit Go.Lib in
theorem Tryz.slices_BinarySearch_int (b off n c : Nat) (zs : List Int) (x : Int) (w : World) (hz : n ≤ zs.length) (hbig : n < 4611686018427387904) (hc : ∀ j, j < zs.length → w.cell? ⟨b, off + j, none⟩ = some (.int .i64 (zs.getD j 0))) (hs : (zs.take n).Pairwise (· ≤ ·)) :
 Calls Tryz.prog 196 #[.slice (some ⟨b, off, none⟩) n c, .int .i64 x] w fun e w' => e = .returned (.tuple #[.int .i64 ((zs.take n).countP (· < x) : Nat), .bool ((zs.take n).contains x)]) ∧ ∃ q, w' = w.drewN q := Any.slices_BinarySearch_int Tryz.laysNm225 b off n c zs x w hz hbig hc hs
open Go.RowKit Go.Lib in
theorem Tryz.slices_BinarySearch_int_empty (a : Option Addr) (c : Nat) (x : Int) (w : World) :
 Calls Tryz.prog 196 #[.slice a 0 c, .int .i64 x] w fun e w' => e = .returned (.tuple #[.int .i64 0, .bool false]) ∧ w' = w := Any.slices_BinarySearch_int_empty Tryz.laysNm225 a c x w
end Go.Proofs
namespace Go.Proofs.YtbamhgaghngjiaaGreatDoor
set_option linter.unusedVariables false

def jb3 (a zt x : Int) : Bool := decide (a ≤ x ∧ x < zt)
def xu (a zt : Int) : Bool := decide (0 ≤ a ∧ a < zt ∧ zt ≤ 345686400000)
def jaj (a zt : Int) : Int := if xu a zt then 0 else 1
def zp (a zt : Int) : Option Int → List Int → Int
 | _, [] => 0
 | p, x :: r => if jb3 a zt x = false then 1 else if p.any (fun y => decide (x < y)) then 7 else zp a zt (some x) r
def jak (l : List Int) (a zt : Int) : Int := if xu a zt = false then 1 else if 2000 < l.length then 2 else zp a zt none l
theorem jlk (a zt : Int) : ∀ (p : Option Int) (l : List Int), zp a zt p l = 0 → l.Pairwise (· ≤ ·) ∧ (∀ x ∈ l, a ≤ x ∧ x < zt) ∧ ∀ y, p = some y → ∀ x ∈ l, y ≤ x
 | p, [], _ => ⟨List.Pairwise.nil, by simp, by simp⟩
 | p, x :: r, h => by
   unfold zp at h
   split at h
   ·omega
   split at h
   ·omega
   rename_i h1 h2
   have ih := jlk a zt (some x) r h
   have hx : a ≤ x ∧ x < zt := by simpa [jb3] using h1
   refine ⟨List.pairwise_cons.2 ⟨fun y hy => ih.2.2 x rfl y hy, ih.1⟩, ?_, ?_⟩
   ·intro y hy
    rcases List.mem_cons.1 hy with rfl | hy
    ·exact hx
    exact ih.2.1 y hy
   intro y hy z hz
   subst hy
   have hyx : y ≤ x := by simpa using h2
   rcases List.mem_cons.1 hz with rfl | hz
   ·exact hyx
   exact Int.le_trans hyx (ih.2.2 x rfl z hz)
structure TimesOk (l : List Int) (a zt : Int) : Prop where
 a0 : 0 ≤ a
 ato : a < zt
 to_ : zt ≤ 345686400000
 len : l.length ≤ 2000
 sorted : l.Pairwise (· ≤ ·)
 mem : ∀ x ∈ l, a ≤ x ∧ x < zt
theorem jpx {l : List Int} {a zt : Int} (h : jak l a zt = 0) : TimesOk l a zt := by
 unfold jak at h
 split at h
 ·omega
 split at h
 ·omega
 rename_i h1 h2
 have h3 : 0 ≤ a ∧ a < zt ∧ zt ≤ 345686400000 := by simpa [xu] using h1
 have := jlk a zt none l h
 exact ⟨h3.1, h3.2.1, h3.2.2, by omega, this.1, this.2.1⟩
def jbs (l : List Int) (x : Int) : Int := (l.countP (fun y => decide (y < x)) : Nat)
def jbv (l : List Int) (a zt : Int) : Int := (l.countP (fun x => jb3 a zt x) : Nat)
def inI (l : List Int) (a zt : Int) : Int := max 0 (jbs l zt - jbs l a)
theorem jgo (l : List Int) (x : Int) : 0 ≤ jbs l x ∧ jbs l x ≤ l.length := by
 unfold jbs
 have := List.countP_le_length (p := fun y => decide (y < x)) (l := l)
 omega
theorem jk7 (l : List Int) (a zt : Int) : 0 ≤ jbv l a zt ∧ jbv l a zt ≤ l.length := by
 unfold jbv
 have := List.countP_le_length (p := fun x => jb3 a zt x) (l := l)
 omega
theorem jq1 (l : List Int) (a zt : Int) (h : a ≤ zt) : jbs l zt - jbs l a = jbv l a zt := by
 unfold jbs jbv
 induction l with
 | nil => rfl
 | cons x r ih =>
   simp only [List.countP_cons, jb3, decide_eq_true_eq] at ih ⊢
   by_cases h1 : x < zt <;> by_cases h2 : x < a <;> by_cases h3 : a ≤ x <;> simp [h1, h2, h3] at ih ⊢ <;> omega
theorem jq2 (l : List Int) (a zt : Int) (h : zt ≤ a) : jbs l zt ≤ jbs l a := by
 unfold jbs
 have := List.countP_mono_left (l := l) (p := fun y => decide (y < zt)) (q := fun y => decide (y < a)) (fun x _ hx => by simp at hx ⊢; omega)
 omega
theorem jq3 (l : List Int) (a zt : Int) (h : zt < a) : jbv l a zt = 0 ∧ jbs l zt ≤ jbs l a := by
 refine ⟨?_, jq2 l a zt (by omega)⟩
 unfold jbv
 have : l.countP (fun x => jb3 a zt x) = 0 := List.countP_eq_zero.2 (fun x _ => by unfold jb3; simp; omega)
 omega
theorem jrk (l : List Int) (a zt : Int) : inI l a zt = jbv l a zt := by
 unfold inI
 have hb := jk7 l a zt
 by_cases h : a ≤ zt
 ·rw [jq1 l a zt h]; omega
 have := jq3 l a zt (by omega); omega
def yt (l : List Int) (long : Int) (st : Int × Int) (x : Int) : Int × Int := if st.2 < jbv l x (x + long) then (x, jbv l x (x + long)) else st
def jh0 (l : List Int) (a long : Int) : Int × Int := l.foldl (yt l long) (a, jbv l a (a + long))
end Go.Proofs.YtbamhgaghngjiaaGreatDoor

namespace Go.Proofs.YtbamhgaghngjiaaGreatDoor
open Go.RowKit
set_option linter.unusedVariables false

theorem jpw {a zt : Int} (h : 0 ≤ a ∧ a < zt ∧ zt ≤ 345686400000) : xu a zt = true := by unfold xu; simpa using h
theorem jd7 {a zt : Int} (h : ¬ (0 ≤ a ∧ a < zt ∧ zt ≤ 345686400000)) : xu a zt = false := by unfold xu; simpa using h
set_option maxHeartbeats 400000 in
theorem ze (a zt : Int) (w : World) (hto : -1152921504606846976 ≤ zt) (hto2 : zt ≤ 1152921504606846976) :
 Calls Tryz.prog 150 #[.agg #[.int .i64 a, .int .i64 zt]] w fun r w' => r = .returned (.bool (xu a zt)) ∧ w.grownBy w' none := by
 by_cases h1 : 0 ≤ a ∧ a ≤ zt - 1
 ·have hb : qu a 0 (zt - 1) = false := zx h1.1 h1.2
  have HE : Hid (xu a zt = decide (zt ≤ 345686400000)) := by
   show _ = _
   unfold xu
   by_cases h : zt ≤ 345686400000 <;> simp [h] <;> omega
  go_enter Tryz.func150, Tryz.ntmps150
  go_wp2_with fail
  refine (qd _ _ _ _).mono ?_
  rintro r w' ⟨rfl, rfl⟩
  go_wp2_with fail
  go_ret
  exact ⟨ys HE.out.symm, jd (jf _ _) _⟩
 have hb : qu a 0 (zt - 1) = true := xq (by omega)
 have HE := Lib.hid (jd7 (a := a) (zt := zt) (by omega))
 go_enter Tryz.func150, Tryz.ntmps150
 go_wp2_with fail
 refine (qd _ _ _ _).mono ?_
 rintro r w' ⟨rfl, rfl⟩
 go_wp2_with fail
 go_ret
 exact ⟨ys HE.out.symm, jd (jf _ _) _⟩
set_option maxHeartbeats 400000 in
theorem jaw (a zt : Int) (w : World) :
 Calls Tryz.prog 37 #[.agg #[.int .i64 a, .int .i64 zt]] w fun r w' => r = .returned (.int .i64 (jaj a zt)) ∧ w.grownBy w' none := by
 by_cases k1 : a < 0
 ·have HE : Hid (jaj a zt = 1) := by show _ = _; unfold jaj; rw [jd7 (by omega)]; rfl
  go_enter Tryz.func37, Tryz.ntmps37
  go_wp2_with fail
  go_ret
  exact ⟨ji HE.out.symm, jd (jf _ _) _⟩
 by_cases k2 : zt ≤ a
 ·have HE : Hid (jaj a zt = 1) := by show _ = _; unfold jaj; rw [jd7 (by omega)]; rfl
  go_enter Tryz.func37, Tryz.ntmps37
  go_wp2_with fail
  go_ret
  exact ⟨ji HE.out.symm, jd (jf _ _) _⟩
 by_cases k3 : 345686400000 < zt
 ·have HE : Hid (jaj a zt = 1) := by show _ = _; unfold jaj; rw [jd7 (by omega)]; rfl
  go_enter Tryz.func37, Tryz.ntmps37
  go_wp2_with fail
  go_ret
  exact ⟨ji HE.out.symm, jd (jf _ _) _⟩
 have HE : Hid (jaj a zt = 0) := by show _ = _; unfold jaj; rw [jpw (by omega)]; rfl
 go_enter Tryz.func37, Tryz.ntmps37
 go_wp2_with fail
 go_ret
 exact ⟨ji HE.out.symm, jd (jf _ _) _⟩
theorem jtv {a zt x : Int} (h : a ≤ x) : jb3 a zt x = decide (x < zt) := by unfold jb3; simp [h]
theorem jtu {a zt x : Int} (h : ¬ a ≤ x) : jb3 a zt x = false := by unfold jb3; simp [h]
set_option maxHeartbeats 400000 in
theorem jdc (a zt x : Int) (w : World) :
 Calls Tryz.prog 49 #[.agg #[.int .i64 a, .int .i64 zt], .int .i64 x] w fun r w' => r = .returned (.bool (jb3 a zt x)) ∧ w.grownBy w' none := by
 by_cases k1 : a ≤ x
 ·have HE := Lib.hid (jtv (zt := zt) k1)
  go_enter Tryz.func49, Tryz.ntmps49
  go_wp2_with fail
  go_ret
  exact ⟨ys HE.out.symm, jd (jf _ _) _⟩
 have HE := Lib.hid (jtu (zt := zt) k1)
 go_enter Tryz.func49, Tryz.ntmps49
 go_wp2_with fail
 go_ret
 exact ⟨ys HE.out.symm, jd (jf _ _) _⟩
def ja1 (b : Bool) : Int := if b then 1 else 0
set_option maxHeartbeats 400000 in
theorem ji5 (b : Bool) (w : World) :
 Calls Tryz.prog 134 #[.bool b] w fun r w' => r = .returned (.int .i64 (ja1 b)) ∧ w = w' := by
 cases b
 all_goals
  go_enter Tryz.func134, Tryz.ntmps134
  go_wp2_with fail
  go_ret
  exact ⟨rfl, rfl⟩
def jfi (l : List Int) (k : Nat) : Option Int := if k = 0 then none else l[k - 1]?
theorem jmo (l : List Int) (k : Nat) (h : k < l.length) : jfi l (k + 1) = some l[k] := by unfold jfi; simp [h]
theorem jo6 (l : List Int) (k : Nat) (h0 : 0 < k) (h : k < l.length) : jfi l k = some (l[k - 1]'(by omega)) := by
 unfold jfi; rw [if_neg (by omega)]; exact List.getElem?_eq_getElem (by omega)
theorem jph {a zt x : Int} {p : Option Int} {r : List Int} (h : jb3 a zt x = false) : zp a zt p (x :: r) = 1 := by simp [zp, h]
theorem jko {a zt x y : Int} {r : List Int} (h : jb3 a zt x = true) (hxy : x < y) : zp a zt (some y) (x :: r) = 7 := by simp [zp, h, hxy]
theorem jf9 {a zt x : Int} {p : Option Int} {r : List Int} (h : jb3 a zt x = true) (hp : ∀ y, p = some y → ¬ x < y) : zp a zt p (x :: r) = zp a zt (some x) r := by
 cases p with
 | none => simp [zp, h]
 | some y => have := hp y rfl; simp [zp, h]; omega
set_option maxHeartbeats 2000000 in
theorem jfg (base : Nat) (v : Value) (l : List Int) (a zt : Int) (w : World) (hl : IntsFrom base w v l) (hto : -1152921504606846976 ≤ zt) (hto2 : zt ≤ 1152921504606846976) :
 Calls Tryz.prog 89 #[v, .agg #[.int .i64 a, .int .i64 zt]] w fun r w' => r = .returned (.int .i64 (jak l a zt)) ∧ w.grownBy w' none := by
 obtain ⟨A, c, rfl, hlen, hA⟩ := hl.shape
 rcases hb : xu a zt
 ·have HE : Hid (jak l a zt = 1) := by show _ = _; unfold jak; rw [if_pos hb]
  go_enter Tryz.func89, Tryz.ntmps89
  go_wp2_with fail
  refine (ze _ _ _ hto hto2).mono ?_
  rintro r w1 ⟨rfl, hg1⟩
  go_wp2_with fail
  go_ret
  exact ⟨ji HE.out.symm, ja (World.grownBy_alloc w _ none) hg1⟩
 by_cases hbig : 2000 < l.length
 ·have HE : Hid (jak l a zt = 2) := by show _ = _; unfold jak; rw [if_neg (by simp [hb]), if_pos hbig]
  have hbig' : (2000 : Int) < (l.length : Int) := by omega
  go_enter Tryz.func89, Tryz.ntmps89
  go_wp2_with fail
  refine (ze _ _ _ hto hto2).mono ?_
  rintro r w1 ⟨rfl, hg1⟩
  go_wp2_with fail
  go_ret
  exact ⟨ji HE.out.symm, ja (World.grownBy_alloc w _ none) hg1⟩
 have HE : Hid (jak l a zt = zp a zt none l) := by show _ = _; unfold jak; rw [if_neg (by simp [hb]), if_neg hbig]
 have hbig' : ¬ (2000 : Int) < (l.length : Int) := by omega
 have HL := Lib.hid hl
 clear hl
 go_enter Tryz.func89, Tryz.ntmps89
 go_wp2_with fail
 refine (ze _ _ _ hto hto2).mono ?_
 rintro r w1 ⟨rfl, hg1⟩
 have hw1 := (Blk.new w 29 #[.int .i64 a, .int .i64 zt]).grown hg1 (by simp)
 have hG1 := ja (World.grownBy_alloc w (.cells #[.int .i64 a, .int .i64 zt] 29) none) hg1
 clear hg1
 go_wp2_with fail
 go_loopw [15] (fun i wr => ∃ k : Nat, k ≤ l.length ∧ i = .int .i64 k ∧ Hid (zp a zt none l = zp a zt (jfi l k) (l.drop k)) ∧ w.grownBy wr none ∧ Blk wr w.heap.size 29 #[.int .i64 a, .int .i64 zt]) (fun i _ => l.length - (intOf i).toNat)
 case atStart => exact ⟨0, by omega, rfl, rfl, hG1, hw1⟩
 case round =>
  obtain ⟨k, hk, rfl, HR, hG, hW⟩ := hrel
  by_cases hlt : k < l.length
  ·obtain ⟨g, rfl, hg0, hg1⟩ := hA (by omega)
   have hkl : (k : Int) < (l.length : Int) := by omega
   have cx := (HL.out.grown hG).at_ k hlt
   have b0 : wr.cell? ⟨w.heap.size, 0, none⟩ = some (.int .i64 a) := hW.cell 0
   have b1 : wr.cell? ⟨w.heap.size, 1, none⟩ = some (.int .i64 zt) := hW.cell 1
   have hd := List.drop_eq_getElem_cons hlt
   have hpn := jmo l k hlt
   have hpk := fun h0 => jo6 l k h0 hlt
   have HN : Hid (zp a zt none l = zp a zt (jfi l k) (l[k] :: l.drop (k + 1))) := by show _ = _; rw [HR.out, hd]
   have HP := Lib.hid hpn
   have HQ := Lib.hid hpk
   clear hd hpn hpk
   have cp : 0 < k → wr.cell? ⟨g, k - 1, none⟩ = some (.int .i64 (l[k - 1]'(by omega))) := fun h0 => (HL.out.grown hG).at_ (k - 1) (by omega)
   obtain ⟨x, hx⟩ : ∃ x, x = l[k] := ⟨_, rfl⟩
   rw [← hx] at cx HN HP
   clear hx HR
   rcases hh : jb3 a zt x
   ·have HF := Lib.hid (HN.out.trans (jph hh))
    go_wp2_with fail
    refine (jdc _ _ _ _).mono ?_
    rintro _ w2 ⟨rfl, hg2⟩
    go_wp2_with fail
    go_ret
    exact ⟨ji (HE.out.trans HF.out).symm, ja hG hg2⟩
   by_cases h0 : 0 < k
   ·have c1 := cp h0
    have hq := HQ.out h0
    obtain ⟨y, hy⟩ : ∃ y, y = l[k - 1]'(by omega) := ⟨_, rfl⟩
    rw [← hy] at c1 hq
    have HY := Lib.hid hq
    clear hy cp hq HQ
    obtain ⟨m, rfl⟩ : ∃ m, k = m + 1 := ⟨k - 1, by omega⟩
    have c2 : wr.cell? ⟨g, m, none⟩ = some (.int .i64 y) := c1
    clear c1
    have hkp : (0 : Int) < ((m + 1 : Nat) : Int) := by omega
    by_cases hxy : x < y
    ·have HF : Hid (zp a zt none l = 7) := by show _ = _; rw [HN.out, HY.out]; exact jko hh hxy
     go_wp2_with fail
     refine (jdc _ _ _ _).mono ?_
     rintro _ w2 ⟨rfl, hg2⟩
     have c3 : w2.cell? ⟨g, m, none⟩ = some (.int .i64 y) := hg2.cell c2 (by simp)
     clear c2
     go_wp2_with fail
     go_ret
     exact ⟨ji (HE.out.trans HF.out).symm, ja hG hg2⟩
    have HF : Hid (zp a zt none l = zp a zt (jfi l (m + 1 + 1)) (l.drop (m + 1 + 1))) := by
     show _ = _
     rw [HN.out, HP.out, HY.out]
     exact jf9 hh (fun z hz => by injection hz with hz; omega)
    go_wp2_with fail
    refine (jdc _ _ _ _).mono ?_
    rintro _ w2 ⟨rfl, hg2⟩
    have c3 : w2.cell? ⟨g, m, none⟩ = some (.int .i64 y) := hg2.cell c2 (by simp)
    clear c2
    have hG2 := ja hG hg2
    have hW2 := hW.grown hg2 (by simp)
    go_wp2_with fail
    go_roundw
    case rel => exact ⟨m + 1 + 1, by omega, by go_num, HF, hG2, hW2⟩
    case measure => simp [intOf]; omega
   obtain rfl : k = 0 := by omega
   have HF : Hid (zp a zt none l = zp a zt (jfi l (0 + 1)) (l.drop (0 + 1))) := by
    show _ = _
    rw [HN.out, HP.out]
    exact jf9 hh (fun z hz => by simp [jfi] at hz)
   clear cp HQ
   go_wp2_with fail
   refine (jdc _ _ _ _).mono ?_
   rintro _ w2 ⟨rfl, hg2⟩
   have hG2 := ja hG hg2
   have hW2 := hW.grown hg2 (by simp)
   go_wp2_with fail
   go_roundw
   case rel => exact ⟨0 + 1, by omega, by go_num, HF, hG2, hW2⟩
   case measure => simp [intOf]; omega
  have HF : Hid (zp a zt none l = 0) := by
   show _ = _
   rw [HR.out, List.drop_of_length_le (by omega)]
   cases jfi l k <;> rfl
  have hkl : ¬ (k : Int) < (l.length : Int) := by omega
  go_wp2_with fail
  go_ret
  exact ⟨ji (HE.out.trans HF.out).symm, hG⟩
end Go.Proofs.YtbamhgaghngjiaaGreatDoor

namespace Go.Proofs.YtbamhgaghngjiaaGreatDoor
open Go.RowKit
set_option linter.unusedVariables false

theorem jub {P : Program} {f : FuncId} {args : Array Value} {w : World} {v : Value} (h : Calls P f args w fun e w' => e = .returned v ∧ ∃ m, w' = w.drewN m) : Calls P f args w fun e w'' => e = .returned v ∧ ∃ m, w'' = w.drewN m := h
theorem jr1 {P : Program} {f : FuncId} {args : Array Value} {w : World} {n : Nat} {v : Value}
 (h : Calls P f args (w.drewN n) fun e w' => e = .returned v ∧ ∃ m, w' = (w.drewN n).drewN m) : Calls P f args (w.drewN n) fun e w'' => e = .returned v ∧ ∃ m, w'' = w.drewN m :=
 h.mono fun _ _ ⟨he, m, hm⟩ => ⟨he, n + m, by rw [hm, World.drewN_drewN]⟩
theorem jmp {P : Program} {f : FuncId} {args : Array Value} {w : World} {a n : Nat} {v : Value}
 (h : Calls P f args (w.drewN (a + n)) fun e w' => e = .returned v ∧ ∃ m, w' = (w.drewN (a + n)).drewN m) :
 Calls P f args (w.drewN (a + n)) fun e w'' => e = .returned v ∧ ∃ m, w'' = w.drewN (a + m) :=
 h.mono fun _ _ ⟨he, m, hm⟩ => ⟨he, n + m, by rw [hm, World.drewN_drewN, Nat.add_assoc]⟩
set_option maxHeartbeats 400000 in
theorem jc4 (base : Nat) (v : Value) (l : List Int) (x : Int) (w : World) (hl : IntsFrom base w v l) (hs : l.Pairwise (· ≤ ·)) (hn : l.length ≤ 1000000) :
 Calls Tryz.prog 151 #[v, .int .i64 x] w fun r w' => r = .returned (.int .i64 (jbs l x)) ∧ ∃ m, w' = w.drewN m := by
 obtain ⟨A, c, rfl, hlen, hA⟩ := hl.shape
 have hb := jgo l x
 rcases Nat.eq_zero_or_pos l.length with h0 | h0
 ·have hl0 : l = [] := List.eq_nil_of_length_eq_zero h0
  subst hl0
  have HA := Lib.hid hA
  have HL := Lib.hid hl
  clear hA hl
  go_enter Tryz.func151, Tryz.ntmps151
  go_wp2_with fail
  refine (Tryz.slices_BinarySearch_int_empty A c x _).mono ?_
  rintro _ w1 ⟨rfl, rfl⟩
  go_wp2_with fail
  go_ret
  exact ⟨rfl, 0, rfl⟩
 obtain ⟨g, rfl, _, _⟩ := hA h0
 have hc : ∀ j, j < l.length → w.cell? ⟨g, 0 + j, none⟩ = some (.int .i64 (l.getD j 0)) := fun j hj => by
  rw [Nat.zero_add, hl.at_ j hj]
  simp [List.getD, hj]
 have htk : l.take l.length = l := List.take_length
 have HB := Tryz.slices_BinarySearch_int g 0 l.length c l x w (Nat.le_refl _) (by omega) hc (by rw [htk]; exact hs)
 rw [htk] at HB
 have HB2 := Lib.hid HB
 have HL := Lib.hid hl
 have HS := Lib.hid hs
 clear HB hc hA hl hs htk
 go_enter Tryz.func151, Tryz.ntmps151
 go_wp2_with fail
 refine HB2.out.mono ?_
 rintro _ w1 ⟨rfl, q, rfl⟩
 go_wp2_with fail
 go_ret
 exact ⟨rfl, q, rfl⟩
theorem IntsFrom.drewN {base : Nat} {w : World} {v : Value} {l : List Int} (h : IntsFrom base w v l) (n : Nat) : IntsFrom base (w.drewN n) v l := h
theorem IntsFrom.alloc {base : Nat} {w : World} {v : Value} {l : List Int} (h : IntsFrom base w v l) (o : Obj) : IntsFrom base (w.alloc o) v l := World.ownsRow.alloc h o
set_option maxHeartbeats 1000000 in
theorem joh (base : Nat) (v : Value) (l : List Int) (a zt : Int) (w : World) (hl : IntsFrom base w v l) (hs : l.Pairwise (· ≤ ·)) (hn : l.length ≤ 1000000) :
 Calls Tryz.prog 91 #[v, .agg #[.int .i64 a, .int .i64 zt]] w fun r w' => r = .returned (.int .i64 (jbv l a zt)) ∧ w.grownBy w' none := by
 have HE := Lib.hid (jrk l a zt)
 unfold inI at HE
 obtain ⟨p, hp⟩ : ∃ p, jbs l zt = p := ⟨_, rfl⟩
 obtain ⟨q, hq⟩ : ∃ q, jbs l a = q := ⟨_, rfl⟩
 have hp1 := jgo l zt
 have hq1 := jgo l a
 rw [hp] at HE hp1
 rw [hq] at HE hq1
 obtain ⟨p0, p1⟩ := hp1
 obtain ⟨q0, q1⟩ := hq1
 have m1 : IntKind.i64.wrap (p - q) = p - q := IntWalk.i64_in _ ⟨by omega, by omega⟩
 have HL := Lib.hid hl
 have HS := Lib.hid hs
 clear hl hs
 go_enter Tryz.func91, Tryz.ntmps91
 go_wp2_with fail
 go_quiet ((go_at_call 151; first | exact jub (jc4 base v l _ _ (HL.out.alloc _) HS.out hn) | exact jr1 (jc4 base v l _ _ ((HL.out.alloc _).drewN _) HS.out hn) | exact jmp (jc4 base v l _ _ ((HL.out.alloc _).drewN _) HS.out hn)))
 all_goals go_wp2_with fail
 go_ret
 exact ⟨ji HE.out, q9 (World.grownBy_alloc w _ none) _⟩
def joo (n : Int) : Int := jdh n 60000 86400000
theorem jj3 (n : Int) : (joo n = 0 ∧ qu n 60000 86400000 = false ∧ 60000 ≤ n ∧ n ≤ 86400000) ∨ (joo n = 1 ∧ qu n 60000 86400000 = true) := by
 unfold joo
 rcases jfa n 60000 86400000 with ⟨h, h1, h2⟩ | ⟨h, h1⟩
 ·exact .inl ⟨h, zx h1 h2, h1, h2⟩
 exact .inr ⟨h, xq h1⟩
set_option maxHeartbeats 400000 in
theorem jma (n : Int) (w : World) :
 Calls Tryz.prog 90 #[.int .i64 n] w fun e w' => e = .returned (.bool (!qu n 60000 86400000)) ∧ w = w' := by
 go_enter Tryz.func90, Tryz.ntmps90
 go_wp2_with fail
 refine (qd _ _ _ _).mono ?_
 rintro e w' ⟨rfl, rfl⟩
 go_wp2_with fail
 go_ret
 exact ⟨rfl, rfl⟩
end Go.Proofs.YtbamhgaghngjiaaGreatDoor

namespace Go.Proofs.YtbamhgaghngjiaaGreatDoor
open Go.RowKit
set_option linter.unusedVariables false

end Go.Proofs.YtbamhgaghngjiaaGreatDoor

namespace Go.Proofs.YtbamhgaghngjiaaGreatDoor
open Go.RowKit
set_option linter.unusedVariables false

theorem jl6 {w w' : World} {row : Option Nat} (h : w.drew.grownBy w' row) : w.grownBy w' row := ⟨h.os, h.tape, h.output, h.size, h.block⟩
theorem TimesOk.E0 {l : List Int} {a zt : Int} (h : jak l a zt = 0) : (jak l a zt != 0) = false := by rw [h]; rfl
end Go.Proofs.YtbamhgaghngjiaaGreatDoor
