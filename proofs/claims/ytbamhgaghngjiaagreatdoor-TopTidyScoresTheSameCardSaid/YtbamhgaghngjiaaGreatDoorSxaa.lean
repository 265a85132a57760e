/- Parts of a proof: Base, Faults, Ints, Shelf. Conditions: as each statement says. -/
import Derived.Test.YtbamhgaghngjiaaGreatDoorSxtk
import Derived.Test.YtbamhgaghngjiaaGreatDoorRows
import Derived.WalkSpells
import Derived.WalkLawsBesides
import Derived.Deep.QuietTactic
import Derived.BigQuiet
import Derived.Lib.Hide
import Derived.Shelf.Strings.Trim
import Derived.Shelf.Small.Utf8
import Derived.Shelf.Small.Bits
import Derived.Shelf.Small.Strs
import Derived.Shelf.Small.Wraps
import Derived.Shelf.Utf8.RuneCount
import Derived.Shelf.Strconv.Itoa0
import Derived.Shelf.Strconv.Itoa1
import Derived.Shelf.LaysM
import Derived.Shelf.Strconv.Itoa2
import Derived.Shelf.Strconv.Itoa3
import Derived.Shelf.Strings.Search1
import Derived.Shelf.Strings.Search2
import Derived.Shelf.Strings.Search3
import Derived.Shelf.Strings.Cut
import Derived.Shelf.Strings.Count
import Derived.Shelf.Strings.Shaped
import Derived.Shelf.Sort.Plain
import Derived.Shelf.Strings.Split
import Derived.Shelf.Strings.Fields
import Derived.Shelf.Strings.SplitShaped
import Derived.Shelf.Unicode.Latin
import Derived.Shelf.Unicode.Decode
import Derived.Shelf.Strings.Runes
import Derived.Shelf.Strings.RuneCount
import Derived.Shelf.Strings.IndexAny
import Derived.Shelf.Strings.AsciiSet
import Derived.Shelf.Strings.IndexAnyAll
import Derived.Shelf.Strings.Explode
import Derived.Shelf.Unicode.DecodeSlow
import Derived.Shelf.Unicode.DecodeAny
import Derived.Shelf.Unicode.Is16White
import Derived.Shelf.Unicode.IsSpaceAny
import Derived.Shelf.Unicode.DecodeLast
import Derived.Shelf.Unicode.Is16WhiteD
import Derived.Shelf.Unicode.IsSpaceAnyD
import Derived.Shelf.Strings.FieldsAny
import Derived.Shelf.Strings.FieldsFuncAny
import Derived.Shelf.Unicode.Is16Any
import Derived.Shelf.Unicode.Is32Any
import Derived.Shelf.Unicode.ExclAny
import Derived.Shelf.Strings.FieldsFuncGrows
import Derived.Shelf.Slices.Turned
import Derived.Ground.Names2Prog
import Derived.Shelf.Slices.CompactI
import Derived.Shelf.Slices.CompactS
import Derived.Shelf.Slices.SearchI
import Derived.Shelf.Slices.Cells
import Derived.Shelf.Slices.In.SortNone
import Derived.Shelf.Slices.Empties
import Derived.Ground.SlsfProg
import Derived.Shelf.SlSortCmp.Insertion
import Derived.Test.YtbamhgaghngjiaaGreatDoorProg
namespace Go.Proofs.YtbamhgaghngjiaaGreatDoor
theorem ssA.{u} {A : Type u} {l : List A} {i : Nat} {a : A} : l.toArray.setIfInBounds i a = (l.set i a).toArray := List.setIfInBounds_toArray ..
theorem ssZ.{u} {A : Type u} {x y : A} {l : List A} : (x :: l).set 0 y = y :: l := rfl
theorem ssS.{u} {A : Type u} {x y : A} {l : List A} {n : Nat} : (x :: l).set (n + 1) y = x :: l.set n y := rfl
theorem geA.{u} {A : Type u} {l : List A} {i : Nat} : l.toArray[i]? = l[i]? := List.getElem?_toArray ..
theorem geZ.{u} {A : Type u} {x : A} {l : List A} : (x :: l)[0]? = some x := List.getElem?_cons_zero ..
theorem geS.{u} {A : Type u} {x : A} {l : List A} {n : Nat} : (x :: l)[n + 1]? = l[n]? := List.getElem?_cons_succ ..
set_option linter.unusedVariables false
open Go.RowKit

def Blk (w : World) (g : Nat) (t : TypeId) (cs : Array Value) : Prop := w.heap[g]? = some (.cells cs t (0, 0))
section
variable {w w' : World} {g : Nat} {t : TypeId} {cs : Array Value}
theorem Blk.lt (h : Blk w g t cs) : g < w.heap.size := (Array.getElem?_eq_some_iff.1 h).1
theorem Blk.cell (h : Blk w g t cs) (i : Nat) : w.cell? ⟨g, i, none⟩ = cs[i]? := cell_of_row w g i cs t (0, 0) h
theorem Blk.free (h : Blk w g t cs) (i : Nat) : w.frozen? ⟨g, i, none⟩ = false := by
 unfold Blk at h; simp [World.frozen?, h]
theorem Blk.new (w : World) (t : TypeId) (cs : Array Value) : Blk (w.alloc (.cells cs t)) w.heap.size t cs := heap_alloc_new w _
theorem Blk.alloc (h : Blk w g t cs) (o : Obj) : Blk (w.alloc o) g t cs := (Below.heap_alloc w o g h.lt).trans h
theorem Blk.drew (h : Blk w g t cs) : Blk w.drew g t cs := h
theorem Blk.drewN (h : Blk w g t cs) (n : Nat) : Blk (w.drewN n) g t cs := h
theorem Blk.put (h : Blk w g t cs) (i : Nat) (u : Value) : Blk (w.setCell ⟨g, i, none⟩ u) g t (cs.setIfInBounds i u) := by
 unfold Blk at h ⊢; simp [World.setCell, Array.getElem?_modify, h]
theorem Blk.far (h : Blk w g t cs) {p : Addr} (hp : g ≠ p.block) (u : Value) : Blk (w.setCell p u) g t cs := (Below.heap_setCell w p u g hp).trans h
theorem Blk.grown (h : Blk w g t cs) {row : Option Nat} (hb : w.grownBy w' row) (hg : some g ≠ row) : Blk w' g t cs := (hb.block g h.lt hg).trans h
end

/-! ### What a call leaves: 'w.grownBy w' none': nothing that was there has turned; 'w.grownBy w' (some b)': block b alone may have turned. -/
theorem je (w : World) (row : Option Nat) : w.grownBy w row := World.grownBy.refl w row
theorem ja {a b c : World} {row : Option Nat} (h : a.grownBy b row) (k : b.grownBy c row) : a.grownBy c row :=
 ⟨k.os.trans h.os, k.tape.trans h.tape, k.output.trans h.output, Nat.le_trans h.size k.size, fun i hi hne => (k.block i (Nat.lt_of_lt_of_le hi h.size) hne).trans (h.block i hi hne)⟩
theorem ja3 {a b : World} (h : a.grownBy b none) (row : Option Nat) : a.grownBy b row := ⟨h.os, h.tape, h.output, h.size, fun i hi _ => h.block i hi (by simp)⟩
theorem jk {a w : World} {row : Option Nat} (h : a.grownBy w row) : a.grownBy w.drew row := ⟨h.os, h.tape, h.output, h.size, h.block⟩
theorem xg {a w : World} {row : Option Nat} (h : a.grownBy w row) (n : Nat) : a.grownBy (w.drewN n) row := ⟨h.os, h.tape, h.output, h.size, h.block⟩
theorem jd {a w : World} {row : Option Nat} (h : a.grownBy w row) (o : Obj) : a.grownBy (w.alloc o) row :=
 ⟨h.os, h.tape, h.output, Nat.le_trans h.size (by simp), fun i hi hne => (Below.heap_alloc w o i (Nat.lt_of_lt_of_le hi h.size)).trans (h.block i hi hne)⟩
theorem jg {a w : World} {row : Option Nat} (h : a.grownBy w row) {p : Addr} (hp : row = some p.block ∨ a.heap.size ≤ p.block) (u : Value) : a.grownBy (w.setCell p u) row :=
 ⟨h.os, h.tape, h.output, by simpa [World.setCell] using h.size, fun i hi hne => (Below.heap_setCell w p u i (by
  rintro rfl
  rcases hp with hp | hp
  ·exact hne hp.symm
  omega)).trans (h.block i hi hne)⟩
theorem jh {a w w' : World} {row row' : Option Nat} (h : a.grownBy w row) (k : w.grownBy w' row') (hr : ∀ g, row' = some g → row = some g ∨ a.heap.size ≤ g) : a.grownBy w' row :=
 ⟨k.os.trans h.os, k.tape.trans h.tape, k.output.trans h.output, Nat.le_trans h.size k.size, fun i hi hne => (k.block i (Nat.lt_of_lt_of_le hi h.size) (fun e => by
  rcases hr i e.symm with h1 | h1
  ·exact hne h1.symm
  omega)).trans (h.block i hi hne)⟩
theorem jfa {a w : World} (h : a.grownBy w none) : Below a.heap.size a w := ⟨h.os, h.tape, h.output, h.size, fun i hi => h.block i hi (by simp)⟩
theorem jfw {a w : World} (h : Below a.heap.size a w) : a.grownBy w none := ⟨h.os, h.tape, h.output, h.size, fun i hi _ => h.block i hi⟩
/-! ### Calls inside a region that draws its order: a contract that leaves the world alone. -/
theorem ji {k : IntKind} {a b : Int} (h : a = b) : Ending.returned (.int k a) = .returned (.int k b) := by rw [h]
theorem yg {a b : Bool} (h : a = b) : Ending.returned (.bool a) = .returned (.bool b) := by rw [h]
/-! ### pilemake.Below -/
theorem jec (x n : Int) (h : 1 ≤ n) : -n < x.tmod n ∧ x.tmod n < n := by
 have h1 := Int.tmod_lt_of_pos x (show 0 < n by omega)
 have h2 := Int.lt_tmod_of_pos x (show 0 < n by omega)
 exact ⟨h2, h1⟩
set_option maxHeartbeats 400000 in
theorem jhv (x n : Int) (w : World) (h1 : 1 ≤ n) (h2 : n ≤ 4611686018427387904) :
 Calls Tryz.prog 127 #[.int .i64 x, .int .i64 n] w fun e w' => (∃ v : Int, 0 ≤ v ∧ v < n ∧ e = .returned (.int .i64 v)) ∧ w = w' := by
 have ht := jec x n h1
 obtain ⟨t1, t2⟩ := ht
 go_enter Tryz.func127, Tryz.ntmps127
 go_wp2
 all_goals (go_ret; exact ⟨⟨_, by omega, by omega, rfl⟩, rfl⟩)
/-! ### The stream: a block of two cells: the numbers that it hands out, and how many it has handed out (at most k). -/
def Str (w : World) (b k : Nat) : Prop :=
 ∃ (A : Option Addr) (n c : Nat) (at_ : Int), Blk w b 25 #[.slice A n c, .int .i64 at_] ∧ 0 ≤ at_ ∧ at_ ≤ k ∧ n ≤ 9223372036854775807 ∧
   (0 < n → ∃ ad, A = some ad ∧ ad.block < b ∧ ∀ j, j < n → ∃ z : Int, w.cell? (ad.add j) = some (.int .i64 z))
theorem Str.mono {w : World} {b k k' : Nat} (h : Str w b k) (hk : k ≤ k') : Str w b k' := by
 obtain ⟨A, n, c, a, h1, h2, h3, h4, h5⟩ := h
 exact ⟨A, n, c, a, h1, h2, by omega, h4, h5⟩
theorem Str.lt {w : World} {b k : Nat} (h : Str w b k) : b < w.heap.size := by
 obtain ⟨A, n, c, a, h1, h2, h3, h4, h5⟩ := h
 exact h1.lt
theorem xl (a : Addr) (n : Nat) : (a.add n).block = a.block := by unfold Addr.add; split <;> rfl
theorem Str.grown {w w' : World} {b k : Nat} (h : Str w b k) {row : Option Nat} (hg : w.grownBy w' row) (hr : ∀ g, row = some g → b < g) : Str w' b k := by
 obtain ⟨A, n, c, a, h1, h2, h3, h4, h5⟩ := h
 have hlt := h1.lt
 refine ⟨A, n, c, a, h1.grown hg (fun e => by have := hr b e.symm; omega), h2, h3, h4, fun hn => ?_⟩
 obtain ⟨ad, e, hb, hc⟩ := h5 hn
 refine ⟨ad, e, hb, fun j hj => ?_⟩
 obtain ⟨z, hz⟩ := hc j hj
 exact ⟨z, (World.cell?_of_block (hg.block _ (by rw [xl]; omega) (fun e' => by have := hr _ e'.symm; rw [xl] at this; omega))).trans hz⟩
theorem Str.alloc {w : World} {b k : Nat} (h : Str w b k) (o : Obj) : Str (w.alloc o) b k := h.grown (World.grownBy_alloc w o none) (by simp)
theorem Str.drew {w : World} {b k : Nat} (h : Str w b k) : Str w.drew b k := h
theorem Str.drewN {w : World} {b k : Nat} (h : Str w b k) (n : Nat) : Str (w.drewN n) b k := h
def jug (b k : Nat) (n : Int) (w : World) (e : Ending) (w' : World) : Prop :=
 ∃ v : Int, 0 ≤ v ∧ v < n ∧ e = .returned (.int .i64 v) ∧ Str w' b (k + 1) ∧ w.grownBy w' (some b)
set_option maxHeartbeats 400000 in
theorem zc (b k : Nat) (n : Int) (w : World) (hs : Str w b k) (hk : k ≤ 1000000000000) (h1 : 1 ≤ n) (h2 : n ≤ 4611686018427387904) :
 Calls Tryz.prog 72 #[.pointer (some ⟨b, 0, none⟩), .int .i64 n] w (jug b k n w) := by
 obtain ⟨A, len, c, a, hb, ha0, ha1, hn, hcell⟩ := hs
 have c0 := hb.cell 0
 have c1 := hb.cell 1
 have f1 := hb.free 1
 simp only [geA, geZ, geS] at c0 c1
 rcases Nat.eq_zero_or_pos len with h0 | h0
 ·subst h0
  have H5 := Lib.hid hcell
  clear hcell
  go_enter Tryz.func72, Tryz.ntmps72
  go_wp2_with fail
  refine (jhv _ _ _ h1 h2).mono ?_
  rintro e w' ⟨⟨v, hv0, hv1, rfl⟩, rfl⟩
  go_wp2_with fail
  go_ret
  have hb' := hb.put 1 (.int .i64 (a + 1))
  exact ⟨v, hv0, hv1, rfl, ⟨A, 0, c, a + 1, hb', by omega, by omega, hn, fun h => absurd h (by omega)⟩, jg (je _ _) (.inl rfl) _⟩
 obtain ⟨ad, rfl, hab, hx⟩ := hcell h0
 have H5 := Lib.hid hcell
 clear hcell
 have m0 : 0 ≤ a % (len : Int) := Int.emod_nonneg _ (by omega)
 have m1 : a % (len : Int) < len := Int.emod_lt_of_pos _ (by omega)
 have m2 : 0 ≤ a / (len : Int) := Int.ediv_nonneg ha0 (by omega)
 have m3 : a / (len : Int) ≤ a := Int.ediv_le_self _ ha0
 have hlen : ((len : Int) == 0) = false := by rw [beq_eq_false_iff_ne]; omega
 obtain ⟨i, hi⟩ := Int.eq_ofNat_of_zero_le m0
 obtain ⟨z, hz⟩ := hx i (by omega)
 have hz' : (w.setCell ⟨b, 1, none⟩ (.int .i64 (a + 1))).cell? (ad.add i) = some (.int .i64 z) :=
  (World.cell?_setCell_other w _ _ _ (fun e => by have := xl ad i; rw [← e] at this; simp at this; omega)).trans hz
 have HX := Lib.hid hx
 have HI := Lib.hid hi
 clear hx hz
 go_enter Tryz.func72, Tryz.ntmps72
 go_wp2_with fail
 go_quiet (fail)
 go_wp2_with fail
 go_quiet (fail)
 go_wp2_with fail
 refine (jhv _ _ _ (by omega) (by omega)).mono ?_
 rintro e w' ⟨⟨v, hv0, hv1, rfl⟩, rfl⟩
 go_wp2_with fail
 refine (jhv _ _ _ h1 h2).mono ?_
 rintro e w' ⟨⟨v2, hv20, hv21, rfl⟩, rfl⟩
 go_wp2_with fail
 go_ret
 have hb' := (hb.put 1 (.int .i64 (a + 1)))
 exact ⟨v2, hv20, hv21, rfl, ⟨some ad, len, c, a + 1, hb', by omega, by omega, hn, fun _ => ⟨ad, rfl, hab, fun j hj => by
  obtain ⟨z', hz2⟩ := HX.out j hj
  exact ⟨z', (World.cell?_setCell_other w _ _ _ (fun e => by have := xl ad j; rw [← e] at this; simp at this; omega)).trans hz2⟩⟩⟩,
  by repeat (first | exact jg (je _ _) (.inl rfl) _ | refine xg ?_ _ | refine jk ?_)⟩
end Go.Proofs.YtbamhgaghngjiaaGreatDoor
namespace Go.Proofs.YtbamhgaghngjiaaGreatDoor
open Go.RowKit
set_option linter.unusedVariables false

def qy (n l h : Int) : Bool := decide (n < l) || decide (h < n)
theorem jae {n l h : Int} (h1 : l ≤ n) (h2 : n ≤ h) : qy n l h = false := by unfold qy; simp; omega
theorem xr {n l h : Int} (h1 : n < l ∨ h < n) : qy n l h = true := by unfold qy; simp; omega
def jdf (n l h : Int) : Int := if qy n l h then 1 else 0
def jyc (at_ : Int) : Int := jdf at_ 0 345686399999
theorem joc {n l h : Int} (h1 : l ≤ n) (h2 : n ≤ h) : jdf n l h = 0 := by unfold jdf; rw [jae h1 h2]; rfl
theorem jrb {n l h : Int} (h1 : n < l ∨ h < n) : jdf n l h = 1 := by unfold jdf; rw [xr h1]; rfl
theorem jc7 (n l h : Int) : (jdf n l h = 0 ∧ l ≤ n ∧ n ≤ h) ∨ (jdf n l h = 1 ∧ (n < l ∨ h < n)) := by
 by_cases hh : l ≤ n ∧ n ≤ h
 ·exact .inl ⟨joc hh.1 hh.2, hh⟩
 have h' : n < l ∨ h < n := by omega
 exact .inr ⟨jrb h', h'⟩
set_option maxHeartbeats 400000 in
theorem qf (n l h : Int) (w : World) :
 Calls Tryz.prog 59 #[.int .i64 n, .int .i64 l, .int .i64 h] w fun e w' => e = .returned (.bool (qy n l h)) ∧ w = w' := by
 by_cases h1 : n < l
 ·have HE := Lib.hid (show qy n l h = true from xr (.inl h1))
  go_enter Tryz.func59, Tryz.ntmps59
  go_wp2_with fail
  go_ret
  exact ⟨yg HE.out.symm, rfl⟩
 by_cases h2 : h < n
 ·have HE := Lib.hid (show qy n l h = true from xr (.inr h2))
  go_enter Tryz.func59, Tryz.ntmps59
  go_wp2_with fail
  go_ret
  exact ⟨yg HE.out.symm, rfl⟩
 have HE := Lib.hid (show qy n l h = false from jae (by omega) (by omega))
 go_enter Tryz.func59, Tryz.ntmps59
 go_wp2_with fail
 go_ret
 exact ⟨yg HE.out.symm, rfl⟩
set_option maxHeartbeats 400000 in
theorem yd (n l h : Int) (w : World) :
 Calls Tryz.prog 38 #[.int .i64 n, .int .i64 l, .int .i64 h] w fun e w' => e = .returned (.bool (!qy n l h)) ∧ w = w' := by
 by_cases h1 : n < l
 ·have HE := Lib.hid (show qy n l h = true from xr (.inl h1))
  go_enter Tryz.func38, Tryz.ntmps38
  go_wp2_with fail
  go_ret
  exact ⟨yg (by rw [HE.out]; first | rfl | (simp; omega)), rfl⟩
 by_cases h2 : h < n
 ·have HE := Lib.hid (show qy n l h = true from xr (.inr h2))
  go_enter Tryz.func38, Tryz.ntmps38
  go_wp2_with fail
  go_ret
  exact ⟨yg (by rw [HE.out]; first | rfl | (simp; omega)), rfl⟩
 have HE := Lib.hid (show qy n l h = false from jae (by omega) (by omega))
 go_enter Tryz.func38, Tryz.ntmps38
 go_wp2_with fail
 go_ret
 exact ⟨yg (by rw [HE.out]; first | rfl | (simp; omega)), rfl⟩
set_option maxHeartbeats 400000 in
theorem jeu (n : Int) (w : World) :
 Calls Tryz.prog 54 #[.int .i64 n] w fun e w' => e = .returned (.bool (!qy n 0 345686399999)) ∧ w = w' := by
 go_enter Tryz.func54, Tryz.ntmps54
 go_wp2_with fail
 refine (qf _ _ _ _).mono ?_
 rintro e w' ⟨rfl, rfl⟩
 go_wp2_with fail
 go_ret
 exact ⟨rfl, rfl⟩
set_option maxHeartbeats 400000 in
theorem jij (n l h : Int) (w : World) :
 Calls Tryz.prog 129 #[.int .i64 n, .int .i64 l, .int .i64 h] w fun e w' => e = .returned (.int .i64 (jdf n l h)) ∧ w = w' := by
 rcases hb : qy n l h
 all_goals
  have HE := Lib.hid hb
  go_enter Tryz.func129, Tryz.ntmps129
  go_wp2_with fail
  refine (yd _ _ _ _).mono ?_
  rintro e w' ⟨rfl, rfl⟩
  go_wp2_with fail
  go_ret
  exact ⟨ji (by unfold jdf; rw [HE.out]; rfl), rfl⟩
set_option maxHeartbeats 400000 in
theorem jfj (n : Int) (w : World) :
 Calls Tryz.prog 77 #[.int .i64 n] w fun e w' => e = .returned (.int .i64 (jyc n)) ∧ w = w' := by
 go_enter Tryz.func77, Tryz.ntmps77
 go_wp2_with fail
 refine (jij _ _ _ _).mono ?_
 rintro e w' ⟨rfl, rfl⟩
 go_wp2_with fail
 go_ret
 exact ⟨rfl, rfl⟩
theorem jqw {xs : List Int} {i : Nat} (h : i < xs.length) : ((xs.map (Value.int .i64)).toArray)[i]? = some (.int .i64 xs[i]) := by simp [h]
def orL : List Int → Int
 | [] => 0
 | a :: r => if a = 0 then orL r else a
set_option maxHeartbeats 400000 in
theorem jyn (xs : List Int) (g m c : Nat) (w : World) (hg : Blk w g 39 (xs.map (Value.int .i64)).toArray) (hm : m = xs.length) (h1 : m ≤ 1000) :
 Calls Tryz.prog 34 #[.slice (some ⟨g, 0, none⟩) m c] w fun r w' => r = .returned (.int .i64 (orL xs)) ∧ w = w' := by
 have HM := Lib.hid hm
 clear hm
 go_enter Tryz.func34, Tryz.ntmps34
 go_wp2_with fail
 go_loop [8] (fun i => ∃ k : Nat, k ≤ m ∧ i = .int .i64 k ∧ Hid (orL xs = orL (xs.drop k))) (fun i => m - (intOf i).toNat)
 case atStart => exact ⟨0, by omega, rfl, rfl⟩
 case round =>
  obtain ⟨k, hk, rfl, HR⟩ := hrel
  by_cases hlt : k < m
  ·have hi : k < xs.length := by have := HM.out; omega
   have hc := hg.cell k
   rw [jqw hi] at hc
   obtain ⟨z, hz⟩ : ∃ z, z = xs[k] := ⟨_, rfl⟩
   rw [← hz] at hc
   have HZ : Hid (orL (xs.drop k) = if z = 0 then orL (xs.drop (k + 1)) else z) := by
    show orL (xs.drop k) = _
    rw [List.drop_eq_getElem_cons hi, ← hz]
    rfl
   clear hz
   by_cases h0 : z = 0
   ·have hne : (z != 0) = false := by simp [h0]
    have HZ2 : Hid (orL xs = orL (xs.drop (k + 1))) := by
     show orL xs = _
     rw [HR.out, HZ.out, if_pos h0]
    have H0 := Lib.hid h0
    clear h0
    go_wp2_with fail
    go_round
    case rel => exact ⟨k + 1, by omega, by go_num, HZ2⟩
    case measure => simp [intOf]; omega
   have hne : (z != 0) = true := by simpa using h0
   have HZ2 : Hid (orL xs = z) := by
    show orL xs = _
    rw [HR.out, HZ.out, if_neg h0]
   clear h0
   go_wp2_with fail
   go_ret
   exact ⟨ji HZ2.out.symm, rfl⟩
  have HZ2 : Hid (orL xs = 0) := by
   show orL xs = _
   rw [HR.out, List.drop_of_length_le (by have := HM.out; omega)]
   rfl
  go_wp2_with fail
  go_ret
  exact ⟨ji HZ2.out.symm, rfl⟩
theorem jxf (a b d : Int) (w : World) :
 Calls Tryz.prog 34 #[.slice (some ⟨w.heap.size, 0, none⟩) 3 3] (w.alloc (.cells #[.int .i64 a, .int .i64 b, .int .i64 d] 39)) fun r w' =>
  r = .returned (.int .i64 (orL [a, b, d])) ∧ w.grownBy w' none :=
 (jyn [a, b, d] _ 3 3 _ (Blk.new w _ _) rfl (by decide)).mono fun e w' ⟨he, hw⟩ => ⟨he, by rw [← hw]; exact World.grownBy_alloc w _ none⟩
theorem orL1 (a : Int) : orL [a] = a := by
 by_cases h : a = 0 <;> simp [orL, h]
theorem jn4 (a : Int) (r : List Int) : orL (a :: r) = if a = 0 then orL r else a := rfl
def okI (e v : Int) : Int := if e = 0 then v else 0
theorem jn9 {k l : IntKind} {a b c d : Int} (h : a = b) (h' : c = d) : Ending.returned (.tuple #[.int k a, .int l c]) = .returned (.tuple #[.int k b, .int l d]) := by rw [h, h']
theorem jt {w : World} {base base' : Nat} {e : TypeId} {size : Nat} {v : Value} {n : Nat} {xs : List Value} (h : w.ownsRow base e size v n xs) (hb : base' ≤ base) : w.ownsRow base' e size v n xs := by
 obtain ⟨h1, h2⟩ := h
 refine ⟨h1, ?_⟩
 rcases h2 with h2 | ⟨g, cap, cur, hv, hg, r⟩
 ·exact .inl h2
 exact .inr ⟨g, cap, cur, hv, by omega, r⟩
theorem j4 {w w' : World} {base : Nat} {e : TypeId} {size : Nat} {v : Value} {n : Nat} {xs : List Value} (h : w.ownsRow base e size v n xs) (hg : w.grownBy w' none) : w'.ownsRow base e size v n xs :=
 h.kept hg (by cases v.ownBlock <;> simp)
theorem jx {w w' : World} {base b : Nat} {e : TypeId} {size : Nat} {v : Value} {n : Nat} {xs : List Value} (h : w.ownsRow base e size v n xs) (hg : w.grownBy w' (some b)) (hb : b < base) : w'.ownsRow base e size v n xs :=
 h.kept hg (by
  cases hv : v.ownBlock with
  | none => exact .inl rfl
  | some g => exact .inr (fun e => by injection e with e; have := (h.lt g hv).1; omega))
theorem jw {w : World} {base : Nat} {e : TypeId} {size : Nat} {v : Value} {n : Nat} {xs : List Value} (h : w.ownsRow base e size v n xs) :
 ∃ A c, v = .slice A n c ∧ n ≤ 9223372036854775807 ∧ (0 < n → ∃ g, A = some ⟨g, 0, none⟩ ∧ base ≤ g ∧ g < w.heap.size) := by
 rcases h.2 with ⟨rfl, rfl⟩ | ⟨g, cap, cur, rfl, hb, hh, hnc, hm, _⟩
 ·exact ⟨none, 0, rfl, by omega, fun h => absurd h (by omega)⟩
 unfold maxLen at hm
 exact ⟨_, _, rfl, by omega, fun _ => ⟨g, rfl, hb, (Array.getElem?_eq_some_iff.1 hh).1⟩⟩
def IntsFrom (base : Nat) (w : World) (v : Value) (l : List Int) : Prop := w.ownsRow base 3 1 v l.length (l.map (Value.int .i64))
abbrev Ints (w : World) (v : Value) (l : List Int) : Prop := IntsFrom 0 w v l
theorem IntsFrom.low {base : Nat} {w : World} {v : Value} {l : List Int} (h : IntsFrom base w v l) : Ints w v l := jt h (Nat.zero_le _)
theorem IntsFrom.grown {base : Nat} {w w' : World} {v : Value} {l : List Int} (h : IntsFrom base w v l) (hg : w.grownBy w' none) : IntsFrom base w' v l := j4 h hg
theorem IntsFrom.other {base b : Nat} {w w' : World} {v : Value} {l : List Int} (h : IntsFrom base w v l) (hg : w.grownBy w' (some b)) (hb : b < base) : IntsFrom base w' v l := jx h hg hb
theorem IntsFrom.nil (base : Nat) (w : World) : IntsFrom base w (.slice none 0 0) [] := World.ownsRow_nil _ _ _ _
theorem IntsFrom.shape {base : Nat} {w : World} {v : Value} {l : List Int} (h : IntsFrom base w v l) :
 ∃ A c, v = .slice A l.length c ∧ l.length ≤ 9223372036854775807 ∧ (0 < l.length → ∃ g, A = some ⟨g, 0, none⟩ ∧ base ≤ g ∧ g < w.heap.size) := jw h
theorem IntsFrom.at_ {base : Nat} {w : World} {g c : Nat} {l : List Int} (h : IntsFrom base w (.slice (some ⟨g, 0, none⟩) l.length c) l) (k : Nat) (hk : k < l.length) : w.cell? ⟨g, k, none⟩ = some (.int .i64 l[k]) := by
 rw [World.ownsRow.cellAt h k (by omega)]
 simp [hk]
theorem jaa : (Tryz.prog.info? 3).map (fun i => (i.zero, i.size, i.bytes)) = some (some (.int .i64 0), 1, 8) := by kernel_rfl
theorem qw (w : World) (x : Int) (t : TypeId) : ∀ j u, ([Value.int .i64 x])[j]? = some u → (w.alloc (.cells #[.int .i64 x] t)).cell? ((⟨w.heap.size, 0, none⟩ : Addr).add j) = some u := by
 intro j u hu
 have hb := (Blk.new w t #[.int .i64 x]).cell j
 have hadd : (⟨w.heap.size, 0, none⟩ : Addr).add j = ⟨w.heap.size, j, none⟩ := by unfold Addr.add; split <;> simp_all
 rw [hadd, hb]
 simpa using hu
theorem j3 (x : Int) : ∀ u ∈ [Value.int .i64 x], u.oneCell' = true := by
 intro u hu
 simp at hu
 subst hu
 rfl
end Go.Proofs.YtbamhgaghngjiaaGreatDoor
namespace Go.Proofs
open Go.Shelf
def Tryz.lays160_ren : Go.Shelf.Ren := ⟨fun | 160 => 82 | 232 => 136 | 231 => 135 | 227 => 137 | 234 => 139 | 233 => 138 | 236 => 141 | 235 => 140 | 228 => 185 | 271 => 188 | 151 => 187 | 197 => 186 | 120 => 212 | 152 => 211 | 260 => 210 | 137 => 83 | 119 => 223 | 224 => 224 | 225 => 225 | 217 => 142 | 266 => 189 | n => n, fun | 9 => 9 | 4 => 4 | 3 => 3 | 5 => 5 | 117 => 200 | 116 => 199 | 0 => 0 | 124 => 203 | 21 => 21 | 105 => 238 | 46 => 110 | 119 => 263 | 139 => 266 | 138 => 265 | n => n, fun | 3 => 1 | 4 => 2 | n => n⟩
theorem Tryz.lays160 : Go.Proofs.Lays.n160 Tryz.prog Tryz.lays160_ren := {
 mixed := by kernel_rfl
 f119 := Tryz.func223.trans (congrArg some (by kernel_rfl))
 f120 := Tryz.func212.trans (congrArg some (by kernel_rfl))
 f137 := Tryz.func83.trans (congrArg some (by kernel_rfl))
 f151 := Tryz.func187.trans (congrArg some (by kernel_rfl))
 f152 := Tryz.func211.trans (congrArg some (by kernel_rfl))
 f160 := Tryz.func82.trans (congrArg some (by kernel_rfl))
 f197 := Tryz.func186.trans (congrArg some (by kernel_rfl))
 f217 := Tryz.func142.trans (congrArg some (by kernel_rfl))
 f224 := Tryz.func224.trans (congrArg some (by kernel_rfl))
 f225 := Tryz.func225.trans (congrArg some (by kernel_rfl))
 f227 := Tryz.func137.trans (congrArg some (by kernel_rfl))
 f228 := Tryz.func185.trans (congrArg some (by kernel_rfl))
 f231 := Tryz.func135.trans (congrArg some (by kernel_rfl))
 f232 := Tryz.func136.trans (congrArg some (by kernel_rfl))
 f233 := Tryz.func138.trans (congrArg some (by kernel_rfl))
 f234 := Tryz.func139.trans (congrArg some (by kernel_rfl))
 f235 := Tryz.func140.trans (congrArg some (by kernel_rfl))
 f236 := Tryz.func141.trans (congrArg some (by kernel_rfl))
 f260 := Tryz.func210.trans (congrArg some (by kernel_rfl))
 f266 := Tryz.func189.trans (congrArg some (by kernel_rfl))
 f271 := Tryz.func188.trans (congrArg some (by kernel_rfl))
 t0 := Tryz.underlying0
 a0 := Tryz.isAgg0
 z0 := Tryz.sizeOf0
 v0 := Tryz.zeroValue0
 t3 := Tryz.underlying3
 a3 := Tryz.isAgg3
 z3 := Tryz.sizeOf3
 v3 := Tryz.zeroValue3
 t4 := Tryz.underlying4
 a4 := Tryz.isAgg4
 z4 := Tryz.sizeOf4
 v4 := Tryz.zeroValue4
 t5 := Tryz.underlying5
 a5 := Tryz.isAgg5
 z5 := Tryz.sizeOf5
 v5 := Tryz.zeroValue5
 t9 := Tryz.underlying9
 a9 := Tryz.isAgg9
 z9 := Tryz.sizeOf9
 v9 := Tryz.zeroValue9
 t21 := Tryz.underlying21
 a21 := Tryz.isAgg21
 z21 := Tryz.sizeOf21
 v21 := Tryz.zeroValue21
 t46 := Tryz.underlying110
 a46 := Tryz.isAgg110
 z46 := Tryz.sizeOf110
 v46 := Tryz.zeroValue110
 t105 := Tryz.underlying238
 a105 := Tryz.isAgg238
 z105 := Tryz.sizeOf238
 v105 := Tryz.zeroValue238
 t116 := Tryz.underlying199
 a116 := Tryz.isAgg199
 z116 := Tryz.sizeOf199
 t117 := Tryz.underlying200
 a117 := Tryz.isAgg200
 z117 := Tryz.sizeOf200
 v117 := Tryz.zeroValue200
 t119 := Tryz.underlying263
 a119 := Tryz.isAgg263
 z119 := Tryz.sizeOf263
 t124 := Tryz.underlying203
 a124 := Tryz.isAgg203
 z124 := Tryz.sizeOf203
 v124 := Tryz.zeroValue203
 t138 := Tryz.underlying265
 a138 := Tryz.isAgg265
 z138 := Tryz.sizeOf265
 v138 := Tryz.zeroValue265
 t139 := Tryz.underlying266
 a139 := Tryz.isAgg266
 z139 := Tryz.sizeOf266
 v139 := Tryz.zeroValue266
 g3 := by kernel_rfl
 g4 := by kernel_rfl }
def Tryz.lays106_ren : Go.Shelf.Ren := ⟨fun | 106 => 132 | 213 => 183 | 265 => 209 | n => n, fun | 9 => 9 | 3 => 3 | n => n, fun | n => n⟩
theorem Tryz.lays106 : Go.Proofs.Lays.n106 Tryz.prog Tryz.lays106_ren := {
 mixed := by kernel_rfl
 f106 := Tryz.func132.trans (congrArg some (by kernel_rfl))
 f213 := Tryz.func183.trans (congrArg some (by kernel_rfl))
 f265 := Tryz.func209.trans (congrArg some (by kernel_rfl))
 t3 := Tryz.underlying3
 a3 := Tryz.isAgg3
 z3 := Tryz.sizeOf3
 v3 := Tryz.zeroValue3
 t9 := Tryz.underlying9
 a9 := Tryz.isAgg9
 z9 := Tryz.sizeOf9
 v9 := Tryz.zeroValue9 }
open Go.RowKit in
theorem Tryz.strings_Compare (a b : ByteArray) (w : World) :
 Calls Tryz.prog 132 #[.string a, .string b] w fun e w' => e = .returned (.int .i64 (Lib.compareBytes a.data.toList b.data.toList)) ∧ w' = w := Any.strings_Compare Tryz.lays106 a b w
def Tryz.lays137_ren : Go.Shelf.Ren := ⟨fun | 137 => 83 | 217 => 142 | 266 => 189 | n => n, fun | 9 => 9 | 5 => 5 | 3 => 3 | n => n, fun | n => n⟩
theorem Tryz.lays137 : Go.Proofs.Lays.n137 Tryz.prog Tryz.lays137_ren := {
 mixed := by kernel_rfl
 f137 := Tryz.func83.trans (congrArg some (by kernel_rfl))
 f217 := Tryz.func142.trans (congrArg some (by kernel_rfl))
 f266 := Tryz.func189.trans (congrArg some (by kernel_rfl))
 t3 := Tryz.underlying3
 a3 := Tryz.isAgg3
 z3 := Tryz.sizeOf3
 v3 := Tryz.zeroValue3
 t5 := Tryz.underlying5
 a5 := Tryz.isAgg5
 z5 := Tryz.sizeOf5
 v5 := Tryz.zeroValue5
 t9 := Tryz.underlying9
 a9 := Tryz.isAgg9
 z9 := Tryz.sizeOf9
 v9 := Tryz.zeroValue9 }
open Go.RowKit in
theorem Tryz.strings_IndexByte (s : ByteArray) (c : Int) (w : World) :
 Calls Tryz.prog 83 #[.string s, .int .u8 c] w fun e w' => e = .returned (.int .i64 (Lib.indexByte s.data.toList c.toNat.toUInt8)) ∧ w' = w := Any.strings_IndexByte Tryz.lays137 s c w
def Tryz.laysM171_ren : Go.Shelf.Ren := ⟨fun | 171 => 174 | 243 => 205 | 246 => 221 | 283 => 232 | 284 => 233 | 285 => 234 | 286 => 235 | 129 => 112 | 317 => 241 | 318 => 242 | 319 => 243 | 320 => 244 | 337 => 247 | 338 => 248 | n => n, fun | 3 => 3 | 9 => 9 | 2 => 2 | 4 => 4 | 171 => 270 | 0 => 0 | 53 => 180 | 37 => 272 | 5 => 5 | 173 => 273 | 212 => 282 | 51 => 178 | 20 => 20 | 213 => 283 | 46 => 110 | 232 => 297 | 233 => 298 | n => n, fun | 17 => 5 | 18 => 6 | 19 => 7 | n => n⟩
theorem Tryz.laysM171 : Go.Proofs.LaysM.n171 Tryz.prog Tryz.laysM171_ren := {
 mixed := by kernel_rfl
 f129 := Tryz.func112.trans (congrArg some (by kernel_rfl))
 f171 := Tryz.func174.trans (congrArg some (by kernel_rfl))
 f243 := Tryz.func205.trans (congrArg some (by kernel_rfl))
 f246 := Tryz.func221.trans (congrArg some (by kernel_rfl))
 f283 := Tryz.func232.trans (congrArg some (by kernel_rfl))
 f284 := Tryz.func233.trans (congrArg some (by kernel_rfl))
 f285 := Tryz.func234.trans (congrArg some (by kernel_rfl))
 f286 := Tryz.func235.trans (congrArg some (by kernel_rfl))
 f317 := Tryz.func241.trans (congrArg some (by kernel_rfl))
 f318 := Tryz.func242.trans (congrArg some (by kernel_rfl))
 f319 := Tryz.func243.trans (congrArg some (by kernel_rfl))
 f320 := Tryz.func244.trans (congrArg some (by kernel_rfl))
 f337 := Tryz.func247.trans (congrArg some (by kernel_rfl))
 f338 := Tryz.func248.trans (congrArg some (by kernel_rfl))
 t0 := Tryz.underlying0
 a0 := Tryz.isAgg0
 z0 := Tryz.sizeOf0
 v0 := Tryz.zeroValue0
 t2 := Tryz.underlying2
 a2 := Tryz.isAgg2
 z2 := Tryz.sizeOf2
 v2 := Tryz.zeroValue2
 t3 := Tryz.underlying3
 a3 := Tryz.isAgg3
 z3 := Tryz.sizeOf3
 v3 := Tryz.zeroValue3
 t4 := Tryz.underlying4
 a4 := Tryz.isAgg4
 z4 := Tryz.sizeOf4
 v4 := Tryz.zeroValue4
 t5 := Tryz.underlying5
 a5 := Tryz.isAgg5
 z5 := Tryz.sizeOf5
 v5 := Tryz.zeroValue5
 t9 := Tryz.underlying9
 a9 := Tryz.isAgg9
 z9 := Tryz.sizeOf9
 v9 := Tryz.zeroValue9
 t20 := Tryz.underlying20
 a20 := Tryz.isAgg20
 z20 := Tryz.sizeOf20
 v20 := Tryz.zeroValue20
 t37 := Tryz.underlying272
 a37 := Tryz.isAgg272
 z37 := Tryz.sizeOf272
 v37 := Tryz.zeroValue272
 t46 := Tryz.underlying110
 a46 := Tryz.isAgg110
 z46 := Tryz.sizeOf110
 v46 := Tryz.zeroValue110
 t51 := Tryz.underlying178
 a51 := Tryz.isAgg178
 z51 := Tryz.sizeOf178
 v51 := Tryz.zeroValue178
 t53 := Tryz.underlying180
 a53 := Tryz.isAgg180
 z53 := Tryz.sizeOf180
 v53 := Tryz.zeroValue180
 t171 := Tryz.underlying270
 a171 := Tryz.isAgg270
 z171 := Tryz.sizeOf270
 v171 := Tryz.zeroValue270
 t173 := Tryz.underlying273
 a173 := Tryz.isAgg273
 z173 := Tryz.sizeOf273
 v173 := Tryz.zeroValue273
 t212 := Tryz.underlying282
 a212 := Tryz.isAgg282
 z212 := Tryz.sizeOf282
 v212 := Tryz.zeroValue282
 t213 := Tryz.underlying283
 a213 := Tryz.isAgg283
 z213 := Tryz.sizeOf283
 t232 := Tryz.underlying297
 a232 := Tryz.isAgg297
 z232 := Tryz.sizeOf297
 v232 := Tryz.zeroValue297
 t233 := Tryz.underlying298
 a233 := Tryz.isAgg298
 z233 := Tryz.sizeOf298
 v233 := Tryz.zeroValue298
 g17 := by kernel_rfl
 g18 := by kernel_rfl
 g19 := by kernel_rfl
 i0 := by kernel_rfl
 i2 := by kernel_rfl
 i3 := by kernel_rfl
 i4 := by kernel_rfl
 i5 := by kernel_rfl
 i9 := by kernel_rfl
 i20 := by kernel_rfl
 i37 := by kernel_rfl
 i46 := by kernel_rfl
 i51 := by kernel_rfl
 i53 := by kernel_rfl
 i171 := by kernel_rfl
 i173 := by kernel_rfl
 i212 := by kernel_rfl
 i232 := by kernel_rfl
 i233 := by kernel_rfl
 m17 := by kernel_rfl
 m18 := by kernel_rfl
 m19 := by kernel_rfl }
open Go.RowKit Go.Sort Go.Lib in
theorem Tryz.strconv_Itoa (n : Int) (h0 : -9223372036854775808 ≤ n) (h1 : n ≤ 9223372036854775807) (w : World) (htab : Lib.TabIs Tryz.prog w "internal/strconv.uint64pow10" .u64 Lib.pow10Tab) :
 Calls Tryz.prog 174 #[.int .i64 n] w fun e w' => e = .returned (.string ⟨(Lib.itoa n).toArray⟩) ∧ ∃ k os, w' = grow (w.drewN k) os := Any.strconv_Itoa Tryz.laysM171 n h0 h1 w htab
def Tryz.lays219_ren : Go.Shelf.Ren := ⟨fun | 219 => 213 | 217 => 142 | 225 => 225 | 224 => 224 | 267 => 226 | 266 => 189 | 314 => 236 | n => n, fun | 9 => 9 | 3 => 3 | 4 => 4 | 5 => 5 | 46 => 110 | 146 => 275 | 51 => 178 | n => n, fun | 1 => 0 | n => n⟩
theorem Tryz.lays219 : Go.Proofs.Lays.n219 Tryz.prog Tryz.lays219_ren := {
 mixed := by kernel_rfl
 f217 := Tryz.func142.trans (congrArg some (by kernel_rfl))
 f219 := Tryz.func213.trans (congrArg some (by kernel_rfl))
 f224 := Tryz.func224.trans (congrArg some (by kernel_rfl))
 f225 := Tryz.func225.trans (congrArg some (by kernel_rfl))
 f266 := Tryz.func189.trans (congrArg some (by kernel_rfl))
 f267 := Tryz.func226.trans (congrArg some (by kernel_rfl))
 f314 := Tryz.func236.trans (congrArg some (by kernel_rfl))
 t3 := Tryz.underlying3
 a3 := Tryz.isAgg3
 z3 := Tryz.sizeOf3
 v3 := Tryz.zeroValue3
 t4 := Tryz.underlying4
 a4 := Tryz.isAgg4
 z4 := Tryz.sizeOf4
 v4 := Tryz.zeroValue4
 t5 := Tryz.underlying5
 a5 := Tryz.isAgg5
 z5 := Tryz.sizeOf5
 v5 := Tryz.zeroValue5
 t9 := Tryz.underlying9
 a9 := Tryz.isAgg9
 z9 := Tryz.sizeOf9
 v9 := Tryz.zeroValue9
 t46 := Tryz.underlying110
 a46 := Tryz.isAgg110
 z46 := Tryz.sizeOf110
 v46 := Tryz.zeroValue110
 t51 := Tryz.underlying178
 a51 := Tryz.isAgg178
 z51 := Tryz.sizeOf178
 v51 := Tryz.zeroValue178
 t146 := Tryz.underlying275
 a146 := Tryz.isAgg275
 z146 := Tryz.sizeOf275
 v146 := Tryz.zeroValue275
 g1 := by kernel_rfl }
open Go.RowKit Go.Lib in
theorem Tryz.stringslite_Index_one (s : ByteArray) (c : UInt8) (w : World) :
 Calls Tryz.prog 213 #[.string s, .string ⟨#[c]⟩] w fun e w' => e = .returned (.int .i64 (Lib.indexByte s.data.toList c)) ∧ w' = w := Any.stringslite_Index_one Tryz.lays219 s c w
def Tryz.lays144_ren : Go.Shelf.Ren := ⟨fun | 144 => 181 | 143 => 207 | 219 => 213 | 217 => 142 | 225 => 225 | 224 => 224 | 267 => 226 | 266 => 189 | 314 => 236 | n => n, fun | 9 => 9 | 4 => 4 | 3 => 3 | 5 => 5 | 46 => 110 | 146 => 275 | 51 => 178 | n => n, fun | 1 => 0 | n => n⟩
theorem Tryz.lays144 : Go.Proofs.Lays.n144 Tryz.prog Tryz.lays144_ren := {
 mixed := by kernel_rfl
 f143 := Tryz.func207.trans (congrArg some (by kernel_rfl))
 f144 := Tryz.func181.trans (congrArg some (by kernel_rfl))
 f217 := Tryz.func142.trans (congrArg some (by kernel_rfl))
 f219 := Tryz.func213.trans (congrArg some (by kernel_rfl))
 f224 := Tryz.func224.trans (congrArg some (by kernel_rfl))
 f225 := Tryz.func225.trans (congrArg some (by kernel_rfl))
 f266 := Tryz.func189.trans (congrArg some (by kernel_rfl))
 f267 := Tryz.func226.trans (congrArg some (by kernel_rfl))
 f314 := Tryz.func236.trans (congrArg some (by kernel_rfl))
 t3 := Tryz.underlying3
 a3 := Tryz.isAgg3
 z3 := Tryz.sizeOf3
 v3 := Tryz.zeroValue3
 t4 := Tryz.underlying4
 a4 := Tryz.isAgg4
 z4 := Tryz.sizeOf4
 v4 := Tryz.zeroValue4
 t5 := Tryz.underlying5
 a5 := Tryz.isAgg5
 z5 := Tryz.sizeOf5
 v5 := Tryz.zeroValue5
 t9 := Tryz.underlying9
 a9 := Tryz.isAgg9
 z9 := Tryz.sizeOf9
 v9 := Tryz.zeroValue9
 t46 := Tryz.underlying110
 a46 := Tryz.isAgg110
 z46 := Tryz.sizeOf110
 v46 := Tryz.zeroValue110
 t51 := Tryz.underlying178
 a51 := Tryz.isAgg178
 z51 := Tryz.sizeOf178
 v51 := Tryz.zeroValue178
 t146 := Tryz.underlying275
 a146 := Tryz.isAgg275
 z146 := Tryz.sizeOf275
 v146 := Tryz.zeroValue275
 g1 := by kernel_rfl }
open Go.RowKit Go.Lib in
theorem Tryz.strings_Contains_one (s : ByteArray) (c : UInt8) (w : World) :
 Calls Tryz.prog 181 #[.string s, .string ⟨#[c]⟩] w fun e w' => e = .returned (.bool (decide (0 ≤ Lib.indexByte s.data.toList c))) ∧ w' = w := Any.strings_Contains_one Tryz.lays144 s c w
def Tryz.lays189_ren : Go.Shelf.Ren := ⟨fun | 189 => 47 | 125 => 58 | 257 => 94 | 128 => 111 | 129 => 112 | 294 => 154 | 295 => 155 | 296 => 156 | 297 => 157 | 298 => 158 | 299 => 159 | 216 => 160 | 300 => 161 | 301 => 162 | 328 => 198 | 329 => 169 | 330 => 170 | 331 => 199 | 332 => 200 | 215 => 184 | 343 => 220 | n => n, fun | 28 => 22 | 3 => 3 | 46 => 110 | 0 => 0 | 51 => 178 | 53 => 180 | 4 => 4 | 183 => 171 | 182 => 170 | 131 => 130 | 5 => 5 | 9 => 9 | 218 => 224 | 222 => 228 | 228 => 253 | 229 => 254 | n => n, fun | n => n⟩
theorem Tryz.lays189 : Go.Proofs.Lays.n189 Tryz.prog Tryz.lays189_ren := {
 mixed := by kernel_rfl
 f125 := Tryz.func58.trans (congrArg some (by kernel_rfl))
 f128 := Tryz.func111.trans (congrArg some (by kernel_rfl))
 f129 := Tryz.func112.trans (congrArg some (by kernel_rfl))
 f189 := Tryz.func47.trans (congrArg some (by kernel_rfl))
 f215 := Tryz.func184.trans (congrArg some (by kernel_rfl))
 f216 := Tryz.func160.trans (congrArg some (by kernel_rfl))
 f257 := Tryz.func94.trans (congrArg some (by kernel_rfl))
 f294 := Tryz.func154.trans (congrArg some (by kernel_rfl))
 f295 := Tryz.func155.trans (congrArg some (by kernel_rfl))
 f296 := Tryz.func156.trans (congrArg some (by kernel_rfl))
 f297 := Tryz.func157.trans (congrArg some (by kernel_rfl))
 f298 := Tryz.func158.trans (congrArg some (by kernel_rfl))
 f299 := Tryz.func159.trans (congrArg some (by kernel_rfl))
 f300 := Tryz.func161.trans (congrArg some (by kernel_rfl))
 f301 := Tryz.func162.trans (congrArg some (by kernel_rfl))
 f328 := Tryz.func198.trans (congrArg some (by kernel_rfl))
 f329 := Tryz.func169.trans (congrArg some (by kernel_rfl))
 f330 := Tryz.func170.trans (congrArg some (by kernel_rfl))
 f331 := Tryz.func199.trans (congrArg some (by kernel_rfl))
 f332 := Tryz.func200.trans (congrArg some (by kernel_rfl))
 f343 := Tryz.func220.trans (congrArg some (by kernel_rfl))
 t0 := Tryz.underlying0
 a0 := Tryz.isAgg0
 z0 := Tryz.sizeOf0
 v0 := Tryz.zeroValue0
 t3 := Tryz.underlying3
 a3 := Tryz.isAgg3
 z3 := Tryz.sizeOf3
 v3 := Tryz.zeroValue3
 t4 := Tryz.underlying4
 a4 := Tryz.isAgg4
 z4 := Tryz.sizeOf4
 v4 := Tryz.zeroValue4
 t5 := Tryz.underlying5
 a5 := Tryz.isAgg5
 z5 := Tryz.sizeOf5
 v5 := Tryz.zeroValue5
 t9 := Tryz.underlying9
 a9 := Tryz.isAgg9
 z9 := Tryz.sizeOf9
 v9 := Tryz.zeroValue9
 t28 := Tryz.underlying22
 a28 := Tryz.isAgg22
 z28 := Tryz.sizeOf22
 v28 := Tryz.zeroValue22
 t46 := Tryz.underlying110
 a46 := Tryz.isAgg110
 z46 := Tryz.sizeOf110
 v46 := Tryz.zeroValue110
 t51 := Tryz.underlying178
 a51 := Tryz.isAgg178
 z51 := Tryz.sizeOf178
 v51 := Tryz.zeroValue178
 t53 := Tryz.underlying180
 a53 := Tryz.isAgg180
 z53 := Tryz.sizeOf180
 v53 := Tryz.zeroValue180
 t131 := Tryz.underlying130
 a131 := Tryz.isAgg130
 z131 := Tryz.sizeOf130
 v131 := Tryz.zeroValue130
 t182 := Tryz.underlying170
 a182 := Tryz.isAgg170
 z182 := Tryz.sizeOf170
 v182 := Tryz.zeroValue170
 t183 := Tryz.underlying171
 a183 := Tryz.isAgg171
 z183 := Tryz.sizeOf171
 v183 := Tryz.zeroValue171
 t218 := Tryz.underlying224
 a218 := Tryz.isAgg224
 z218 := Tryz.sizeOf224
 v218 := Tryz.zeroValue224
 t222 := Tryz.underlying228
 a222 := Tryz.isAgg228
 z222 := Tryz.sizeOf228
 v222 := Tryz.zeroValue228
 t228 := Tryz.underlying253
 a228 := Tryz.isAgg253
 z228 := Tryz.sizeOf253
 v228 := Tryz.zeroValue253
 t229 := Tryz.underlying254
 a229 := Tryz.isAgg254
 z229 := Tryz.sizeOf254
 v229 := Tryz.zeroValue254 }
open Go.Sort Go.RowKit in
theorem Tryz.slices_Sort_int (blk off cap : Nat) (zs : List Int) (w : World) (hH : Holds (Value.int .i64) w blk off zs.toArray) (hblk : blk < w.heap.size) (hsz : zs.length < 4611686018427387904) :
 Calls Tryz.prog 47 #[.slice (some ⟨blk, off, none⟩) zs.length cap] w fun e w' =>
  e = .returned (.tuple #[]) ∧ ∃ n os, w' = grow (putRow (Value.int .i64) (Sort.ahead w n) blk off (zs.mergeSort fun x y => decide (x ≤ y)).toArray) os := Any.slices_Sort_int Tryz.lays189 blk off cap zs w hH hblk hsz
def Tryz.lays190_ren : Go.Shelf.Ren := ⟨fun | 190 => 16 | 125 => 58 | 258 => 57 | 128 => 111 | 129 => 112 | 302 => 102 | 303 => 103 | 304 => 104 | 305 => 105 | 306 => 106 | 307 => 107 | 308 => 108 | 309 => 109 | 310 => 110 | 333 => 168 | 329 => 169 | 330 => 170 | 334 => 171 | 335 => 172 | 336 => 173 | 344 => 204 | n => n, fun | 31 => 48 | 9 => 9 | 3 => 3 | 46 => 110 | 0 => 0 | 51 => 178 | 53 => 180 | 4 => 4 | 183 => 171 | 182 => 170 | 131 => 130 | 5 => 5 | 218 => 224 | 222 => 228 | 228 => 253 | 229 => 254 | n => n, fun | n => n⟩
theorem Tryz.lays190 : Go.Proofs.Lays.n190 Tryz.prog Tryz.lays190_ren := {
 mixed := by kernel_rfl
 f125 := Tryz.func58.trans (congrArg some (by kernel_rfl))
 f128 := Tryz.func111.trans (congrArg some (by kernel_rfl))
 f129 := Tryz.func112.trans (congrArg some (by kernel_rfl))
 f190 := Tryz.func16.trans (congrArg some (by kernel_rfl))
 f258 := Tryz.func57.trans (congrArg some (by kernel_rfl))
 f302 := Tryz.func102.trans (congrArg some (by kernel_rfl))
 f303 := Tryz.func103.trans (congrArg some (by kernel_rfl))
 f304 := Tryz.func104.trans (congrArg some (by kernel_rfl))
 f305 := Tryz.func105.trans (congrArg some (by kernel_rfl))
 f306 := Tryz.func106.trans (congrArg some (by kernel_rfl))
 f307 := Tryz.func107.trans (congrArg some (by kernel_rfl))
 f308 := Tryz.func108.trans (congrArg some (by kernel_rfl))
 f309 := Tryz.func109.trans (congrArg some (by kernel_rfl))
 f310 := Tryz.func110.trans (congrArg some (by kernel_rfl))
 f329 := Tryz.func169.trans (congrArg some (by kernel_rfl))
 f330 := Tryz.func170.trans (congrArg some (by kernel_rfl))
 f333 := Tryz.func168.trans (congrArg some (by kernel_rfl))
 f334 := Tryz.func171.trans (congrArg some (by kernel_rfl))
 f335 := Tryz.func172.trans (congrArg some (by kernel_rfl))
 f336 := Tryz.func173.trans (congrArg some (by kernel_rfl))
 f344 := Tryz.func204.trans (congrArg some (by kernel_rfl))
 t0 := Tryz.underlying0
 a0 := Tryz.isAgg0
 z0 := Tryz.sizeOf0
 v0 := Tryz.zeroValue0
 t3 := Tryz.underlying3
 a3 := Tryz.isAgg3
 z3 := Tryz.sizeOf3
 v3 := Tryz.zeroValue3
 t4 := Tryz.underlying4
 a4 := Tryz.isAgg4
 z4 := Tryz.sizeOf4
 v4 := Tryz.zeroValue4
 t5 := Tryz.underlying5
 a5 := Tryz.isAgg5
 z5 := Tryz.sizeOf5
 v5 := Tryz.zeroValue5
 t9 := Tryz.underlying9
 a9 := Tryz.isAgg9
 z9 := Tryz.sizeOf9
 v9 := Tryz.zeroValue9
 t31 := Tryz.underlying48
 a31 := Tryz.isAgg48
 z31 := Tryz.sizeOf48
 v31 := Tryz.zeroValue48
 t46 := Tryz.underlying110
 a46 := Tryz.isAgg110
 z46 := Tryz.sizeOf110
 v46 := Tryz.zeroValue110
 t51 := Tryz.underlying178
 a51 := Tryz.isAgg178
 z51 := Tryz.sizeOf178
 v51 := Tryz.zeroValue178
 t53 := Tryz.underlying180
 a53 := Tryz.isAgg180
 z53 := Tryz.sizeOf180
 v53 := Tryz.zeroValue180
 t131 := Tryz.underlying130
 a131 := Tryz.isAgg130
 z131 := Tryz.sizeOf130
 v131 := Tryz.zeroValue130
 t182 := Tryz.underlying170
 a182 := Tryz.isAgg170
 z182 := Tryz.sizeOf170
 v182 := Tryz.zeroValue170
 t183 := Tryz.underlying171
 a183 := Tryz.isAgg171
 z183 := Tryz.sizeOf171
 v183 := Tryz.zeroValue171
 t218 := Tryz.underlying224
 a218 := Tryz.isAgg224
 z218 := Tryz.sizeOf224
 v218 := Tryz.zeroValue224
 t222 := Tryz.underlying228
 a222 := Tryz.isAgg228
 z222 := Tryz.sizeOf228
 v222 := Tryz.zeroValue228
 t228 := Tryz.underlying253
 a228 := Tryz.isAgg253
 z228 := Tryz.sizeOf253
 v228 := Tryz.zeroValue253
 t229 := Tryz.underlying254
 a229 := Tryz.isAgg254
 z229 := Tryz.sizeOf254
 v229 := Tryz.zeroValue254 }
open Go.Sort Go.RowKit in
theorem Tryz.slices_Sort_string (blk off cap : Nat) (ss : List (List UInt8)) (w : World) (hH : Holds encStr w blk off ss.toArray) (hblk : blk < w.heap.size) (hsz : ss.length < 4611686018427387904) :
 Calls Tryz.prog 16 #[.slice (some ⟨blk, off, none⟩) ss.length cap] w fun e w' =>
  e = .returned (.tuple #[]) ∧ ∃ n os, w' = grow (putRow encStr (Sort.ahead w n) blk off (ss.mergeSort fun x y => decide (x ≤ y)).toArray) os := Any.slices_Sort_string Tryz.lays190 blk off cap ss w hH hblk hsz
def Tryz.lays146_ren : Go.Shelf.Ren := ⟨fun | 146 => 194 | 221 => 215 | 268 => 227 | 138 => 228 | 143 => 207 | 195 => 237 | 197 => 186 | 218 => 238 | 219 => 213 | 260 => 210 | 217 => 142 | 225 => 225 | 224 => 224 | 267 => 226 | 266 => 189 | 314 => 236 | n => n, fun | 9 => 9 | 31 => 48 | 3 => 3 | 4 => 4 | 0 => 0 | 105 => 238 | 21 => 21 | 5 => 5 | 46 => 110 | 119 => 263 | 139 => 266 | 138 => 265 | 146 => 275 | 51 => 178 | n => n, fun | 1 => 0 | 3 => 1 | 4 => 2 | n => n⟩
theorem Tryz.lays146 : Go.Proofs.Lays.n146 Tryz.prog Tryz.lays146_ren := {
 mixed := by kernel_rfl
 f138 := Tryz.func228.trans (congrArg some (by kernel_rfl))
 f143 := Tryz.func207.trans (congrArg some (by kernel_rfl))
 f146 := Tryz.func194.trans (congrArg some (by kernel_rfl))
 f195 := Tryz.func237.trans (congrArg some (by kernel_rfl))
 f197 := Tryz.func186.trans (congrArg some (by kernel_rfl))
 f217 := Tryz.func142.trans (congrArg some (by kernel_rfl))
 f218 := Tryz.func238.trans (congrArg some (by kernel_rfl))
 f219 := Tryz.func213.trans (congrArg some (by kernel_rfl))
 f221 := Tryz.func215.trans (congrArg some (by kernel_rfl))
 f224 := Tryz.func224.trans (congrArg some (by kernel_rfl))
 f225 := Tryz.func225.trans (congrArg some (by kernel_rfl))
 f260 := Tryz.func210.trans (congrArg some (by kernel_rfl))
 f266 := Tryz.func189.trans (congrArg some (by kernel_rfl))
 f267 := Tryz.func226.trans (congrArg some (by kernel_rfl))
 f268 := Tryz.func227.trans (congrArg some (by kernel_rfl))
 f314 := Tryz.func236.trans (congrArg some (by kernel_rfl))
 t0 := Tryz.underlying0
 a0 := Tryz.isAgg0
 z0 := Tryz.sizeOf0
 v0 := Tryz.zeroValue0
 t3 := Tryz.underlying3
 a3 := Tryz.isAgg3
 z3 := Tryz.sizeOf3
 v3 := Tryz.zeroValue3
 t4 := Tryz.underlying4
 a4 := Tryz.isAgg4
 z4 := Tryz.sizeOf4
 v4 := Tryz.zeroValue4
 t5 := Tryz.underlying5
 a5 := Tryz.isAgg5
 z5 := Tryz.sizeOf5
 v5 := Tryz.zeroValue5
 t9 := Tryz.underlying9
 a9 := Tryz.isAgg9
 z9 := Tryz.sizeOf9
 v9 := Tryz.zeroValue9
 t21 := Tryz.underlying21
 a21 := Tryz.isAgg21
 z21 := Tryz.sizeOf21
 v21 := Tryz.zeroValue21
 t31 := Tryz.underlying48
 a31 := Tryz.isAgg48
 z31 := Tryz.sizeOf48
 v31 := Tryz.zeroValue48
 t46 := Tryz.underlying110
 a46 := Tryz.isAgg110
 z46 := Tryz.sizeOf110
 v46 := Tryz.zeroValue110
 t51 := Tryz.underlying178
 a51 := Tryz.isAgg178
 z51 := Tryz.sizeOf178
 v51 := Tryz.zeroValue178
 t105 := Tryz.underlying238
 a105 := Tryz.isAgg238
 z105 := Tryz.sizeOf238
 v105 := Tryz.zeroValue238
 t119 := Tryz.underlying263
 a119 := Tryz.isAgg263
 z119 := Tryz.sizeOf263
 t138 := Tryz.underlying265
 a138 := Tryz.isAgg265
 z138 := Tryz.sizeOf265
 v138 := Tryz.zeroValue265
 t139 := Tryz.underlying266
 a139 := Tryz.isAgg266
 z139 := Tryz.sizeOf266
 v139 := Tryz.zeroValue266
 t146 := Tryz.underlying275
 a146 := Tryz.isAgg275
 z146 := Tryz.sizeOf275
 v146 := Tryz.zeroValue275
 g1 := by kernel_rfl
 g3 := by kernel_rfl
 g4 := by kernel_rfl }
open Go.RowKit Go.Lib in
theorem Tryz.strings_Split (s sep : ByteArray) (m : Int) (w : World) (hs : s.size < 4294967281) (hm : w.cell? ⟨0, 0, none⟩ = some (.int .i64 m)) (h1 : 1 ≤ sep.size) :
 Calls Tryz.prog 194 #[.string s, .string sep] w fun e w' =>
  e = .returned (.slice (some ⟨w.heap.size, 0, none⟩) (Lib.countB s sep + 1) (Lib.countB s sep + 1)) ∧ w' = w.alloc (.cells ((Lib.splitB sep 0 (Lib.countB s sep) s).map Value.string).toArray 9) := Any.strings_Split Tryz.lays146 (by kernel_rfl) s sep m w hs hm h1
def Tryz.lays157_ren : Go.Shelf.Ren := ⟨fun | 157 => 216 | 229 => 229 | 199 => 230 | 261 => 239 | 311 => 245 | 312 => 246 | n => n, fun | 9 => 9 | 31 => 48 | 3 => 3 | 5 => 5 | 4 => 4 | 119 => 263 | 0 => 0 | 40 => 267 | 152 => 277 | 21 => 21 | 154 => 279 | 51 => 178 | 141 => 281 | 196 => 287 | 193 => 284 | 198 => 290 | 49 => 288 | 194 => 285 | 201 => 293 | 226 => 295 | 46 => 110 | 227 => 296 | n => n, fun | 0 => 3 | 6 => 4 | n => n⟩
theorem Tryz.lays157 : Go.Proofs.Lays.n157 Tryz.prog Tryz.lays157_ren := {
 mixed := by kernel_rfl
 f157 := Tryz.func216.trans (congrArg some (by kernel_rfl))
 f199 := Tryz.func230.trans (congrArg some (by kernel_rfl))
 f229 := Tryz.func229.trans (congrArg some (by kernel_rfl))
 f261 := Tryz.func239.trans (congrArg some (by kernel_rfl))
 f311 := Tryz.func245.trans (congrArg some (by kernel_rfl))
 f312 := Tryz.func246.trans (congrArg some (by kernel_rfl))
 t0 := Tryz.underlying0
 a0 := Tryz.isAgg0
 z0 := Tryz.sizeOf0
 v0 := Tryz.zeroValue0
 t3 := Tryz.underlying3
 a3 := Tryz.isAgg3
 z3 := Tryz.sizeOf3
 v3 := Tryz.zeroValue3
 t4 := Tryz.underlying4
 a4 := Tryz.isAgg4
 z4 := Tryz.sizeOf4
 v4 := Tryz.zeroValue4
 t5 := Tryz.underlying5
 a5 := Tryz.isAgg5
 z5 := Tryz.sizeOf5
 v5 := Tryz.zeroValue5
 t9 := Tryz.underlying9
 a9 := Tryz.isAgg9
 z9 := Tryz.sizeOf9
 v9 := Tryz.zeroValue9
 t21 := Tryz.underlying21
 a21 := Tryz.isAgg21
 z21 := Tryz.sizeOf21
 v21 := Tryz.zeroValue21
 t31 := Tryz.underlying48
 a31 := Tryz.isAgg48
 z31 := Tryz.sizeOf48
 v31 := Tryz.zeroValue48
 t40 := Tryz.underlying267
 a40 := Tryz.isAgg267
 z40 := Tryz.sizeOf267
 v40 := Tryz.zeroValue267
 t46 := Tryz.underlying110
 a46 := Tryz.isAgg110
 z46 := Tryz.sizeOf110
 v46 := Tryz.zeroValue110
 t49 := Tryz.underlying288
 a49 := Tryz.isAgg288
 z49 := Tryz.sizeOf288
 v49 := Tryz.zeroValue288
 t51 := Tryz.underlying178
 a51 := Tryz.isAgg178
 z51 := Tryz.sizeOf178
 v51 := Tryz.zeroValue178
 t119 := Tryz.underlying263
 a119 := Tryz.isAgg263
 z119 := Tryz.sizeOf263
 t141 := Tryz.underlying281
 a141 := Tryz.isAgg281
 z141 := Tryz.sizeOf281
 v141 := Tryz.zeroValue281
 t152 := Tryz.underlying277
 a152 := Tryz.isAgg277
 z152 := Tryz.sizeOf277
 v152 := Tryz.zeroValue277
 t154 := Tryz.underlying279
 a154 := Tryz.isAgg279
 z154 := Tryz.sizeOf279
 v154 := Tryz.zeroValue279
 t193 := Tryz.underlying284
 a193 := Tryz.isAgg284
 z193 := Tryz.sizeOf284
 v193 := Tryz.zeroValue284
 t194 := Tryz.underlying285
 a194 := Tryz.isAgg285
 z194 := Tryz.sizeOf285
 v194 := Tryz.zeroValue285
 t196 := Tryz.underlying287
 a196 := Tryz.isAgg287
 z196 := Tryz.sizeOf287
 v196 := Tryz.zeroValue287
 t198 := Tryz.underlying290
 a198 := Tryz.isAgg290
 z198 := Tryz.sizeOf290
 v198 := Tryz.zeroValue290
 t201 := Tryz.underlying293
 a201 := Tryz.isAgg293
 z201 := Tryz.sizeOf293
 v201 := Tryz.zeroValue293
 t226 := Tryz.underlying295
 a226 := Tryz.isAgg295
 z226 := Tryz.sizeOf295
 v226 := Tryz.zeroValue295
 t227 := Tryz.underlying296
 a227 := Tryz.isAgg296
 z227 := Tryz.sizeOf296
 v227 := Tryz.zeroValue296
 g0 := by kernel_rfl
 g6 := by kernel_rfl }
open Go.RowKit Go.Lib in
theorem Tryz.strings_Fields (s : ByteArray) (w : World) (hs : s.size < 4294967281) (hascii : ∀ (j : Nat) b, s.data.toList[j]? = some b → b.toNat < 128) (htab : Lib.TabIs Tryz.prog w "strings.asciiSpace" .u8 Lib.asciiSpaceTab) :
 Calls Tryz.prog 216 #[.string s] w fun e w' =>
  e = .returned (.slice (some ⟨w.heap.size, 0, none⟩) (Lib.fields s.data.toList).length (Lib.fields s.data.toList).length) ∧ w' = w.alloc (.cells ((Lib.fields s.data.toList).map fun l => Value.string ⟨l.toArray⟩).toArray 9) := Any.strings_Fields Tryz.lays157 (by kernel_rfl) (by kernel_rfl) s w hs hascii htab
def Tryz.lays152_ren : Go.Shelf.Ren := ⟨fun | 152 => 211 | 137 => 83 | 119 => 223 | 224 => 224 | 225 => 225 | 217 => 142 | 266 => 189 | n => n, fun | 9 => 9 | 21 => 21 | 3 => 3 | 4 => 4 | 5 => 5 | 0 => 0 | 46 => 110 | n => n, fun | n => n⟩
theorem Tryz.lays152 : Go.Proofs.Lays.n152 Tryz.prog Tryz.lays152_ren := {
 mixed := by kernel_rfl
 f119 := Tryz.func223.trans (congrArg some (by kernel_rfl))
 f137 := Tryz.func83.trans (congrArg some (by kernel_rfl))
 f152 := Tryz.func211.trans (congrArg some (by kernel_rfl))
 f217 := Tryz.func142.trans (congrArg some (by kernel_rfl))
 f224 := Tryz.func224.trans (congrArg some (by kernel_rfl))
 f225 := Tryz.func225.trans (congrArg some (by kernel_rfl))
 f266 := Tryz.func189.trans (congrArg some (by kernel_rfl))
 t0 := Tryz.underlying0
 a0 := Tryz.isAgg0
 z0 := Tryz.sizeOf0
 v0 := Tryz.zeroValue0
 t3 := Tryz.underlying3
 a3 := Tryz.isAgg3
 z3 := Tryz.sizeOf3
 v3 := Tryz.zeroValue3
 t4 := Tryz.underlying4
 a4 := Tryz.isAgg4
 z4 := Tryz.sizeOf4
 v4 := Tryz.zeroValue4
 t5 := Tryz.underlying5
 a5 := Tryz.isAgg5
 z5 := Tryz.sizeOf5
 v5 := Tryz.zeroValue5
 t9 := Tryz.underlying9
 a9 := Tryz.isAgg9
 z9 := Tryz.sizeOf9
 v9 := Tryz.zeroValue9
 t21 := Tryz.underlying21
 a21 := Tryz.isAgg21
 z21 := Tryz.sizeOf21
 v21 := Tryz.zeroValue21
 t46 := Tryz.underlying110
 a46 := Tryz.isAgg110
 z46 := Tryz.sizeOf110
 v46 := Tryz.zeroValue110 }
open Go.RowKit Go.Lib in
theorem Tryz.strings_IndexRune_ascii (s : ByteArray) (r : Int) (w : World) (h0 : 0 ≤ r) (h1 : r < 128) :
 Calls Tryz.prog 211 #[.string s, .int .i32 r] w fun e w' => e = .returned (.int .i64 (Lib.indexByte s.data.toList r.toNat.toUInt8)) ∧ w' = w := Any.strings_IndexRune_ascii Tryz.lays152 s r w h0 h1
def Tryz.lays226_ren : Go.Shelf.Ren := ⟨fun | 226 => 222 | n => n, fun | 3 => 3 | 4 => 4 | n => n, fun | n => n⟩
theorem Tryz.lays226 : Go.Proofs.Lays.n226 Tryz.prog Tryz.lays226_ren := {
 mixed := by kernel_rfl
 f226 := Tryz.func222.trans (congrArg some (by kernel_rfl))
 t3 := Tryz.underlying3
 a3 := Tryz.isAgg3
 z3 := Tryz.sizeOf3
 v3 := Tryz.zeroValue3
 t4 := Tryz.underlying4
 a4 := Tryz.isAgg4
 z4 := Tryz.sizeOf4
 v4 := Tryz.zeroValue4 }
open Go.RowKit Go.Lib in
theorem Tryz.strings_shouldUseASCIISet (n : Int) (w : World) :
 Calls Tryz.prog 222 #[.int .i64 n] w fun e w' => e = .returned (.bool (decide (8 < n))) ∧ w' = w := Any.strings_shouldUseASCIISet Tryz.lays226 n w
def Tryz.lays227_ren : Go.Shelf.Ren := ⟨fun | 227 => 137 | n => n, fun | 9 => 9 | 116 => 199 | 4 => 4 | 0 => 0 | 3 => 3 | 5 => 5 | n => n, fun | n => n⟩
theorem Tryz.lays227 : Go.Proofs.Lays.n227 Tryz.prog Tryz.lays227_ren := {
 mixed := by kernel_rfl
 f227 := Tryz.func137.trans (congrArg some (by kernel_rfl))
 t0 := Tryz.underlying0
 a0 := Tryz.isAgg0
 z0 := Tryz.sizeOf0
 v0 := Tryz.zeroValue0
 t3 := Tryz.underlying3
 a3 := Tryz.isAgg3
 z3 := Tryz.sizeOf3
 v3 := Tryz.zeroValue3
 t4 := Tryz.underlying4
 a4 := Tryz.isAgg4
 z4 := Tryz.sizeOf4
 v4 := Tryz.zeroValue4
 t5 := Tryz.underlying5
 a5 := Tryz.isAgg5
 z5 := Tryz.sizeOf5
 v5 := Tryz.zeroValue5
 t9 := Tryz.underlying9
 a9 := Tryz.isAgg9
 z9 := Tryz.sizeOf9
 v9 := Tryz.zeroValue9
 t116 := Tryz.underlying199
 a116 := Tryz.isAgg199
 z116 := Tryz.sizeOf199 }
open Go.RowKit Go.Lib in
theorem Tryz.strings_makeASCIISet (hv116 : ∀ w, (zeroValue 199).run Tryz.prog w = .ok (.agg (Array.replicate 256 (.bool false))) w) (chars : ByteArray) (w : World) (hs : chars.size < 4294967281) (hascii : ∀ (j : Nat) b, chars.data.toList[j]? = some b → b.toNat < 128) :
 Calls Tryz.prog 137 #[.string chars] w fun e w' => e = .returned (.tuple #[.agg (Lib.setCells chars.data.toList), .bool true]) ∧ w' = w.alloc (.cells (Lib.setCells chars.data.toList) 199) := Any.strings_makeASCIISet Tryz.lays227 hv116 (by kernel_rfl) chars w hs hascii
def Tryz.lays228_ren : Go.Shelf.Ren := ⟨fun | 228 => 185 | n => n, fun | 124 => 203 | 5 => 5 | 4 => 4 | 0 => 0 | 116 => 199 | n => n, fun | n => n⟩
theorem Tryz.lays228 : Go.Proofs.Lays.n228 Tryz.prog Tryz.lays228_ren := {
 mixed := by kernel_rfl
 f228 := Tryz.func185.trans (congrArg some (by kernel_rfl))
 t0 := Tryz.underlying0
 a0 := Tryz.isAgg0
 z0 := Tryz.sizeOf0
 v0 := Tryz.zeroValue0
 t4 := Tryz.underlying4
 a4 := Tryz.isAgg4
 z4 := Tryz.sizeOf4
 v4 := Tryz.zeroValue4
 t5 := Tryz.underlying5
 a5 := Tryz.isAgg5
 z5 := Tryz.sizeOf5
 v5 := Tryz.zeroValue5
 t116 := Tryz.underlying199
 a116 := Tryz.isAgg199
 z116 := Tryz.sizeOf199
 t124 := Tryz.underlying203
 a124 := Tryz.isAgg203
 z124 := Tryz.sizeOf203
 v124 := Tryz.zeroValue203 }
open Go.RowKit Go.Lib in
theorem Tryz.asciiSet_contains (b : Nat) (x : UInt8) (v : Bool) (w : World) (hc : w.cell? ⟨b, x.toNat, none⟩ = some (.bool v)) :
 Calls Tryz.prog 185 #[.pointer (some ⟨b, 0, none⟩), .int .u8 x.toNat] w fun e w' => e = .returned (.bool v) ∧ w' = w := Any.asciiSet_contains Tryz.lays228 b x v w hc
def Tryz.lays150_ren : Go.Shelf.Ren := ⟨fun | 150 => 182 | 153 => 208 | 152 => 211 | 226 => 222 | 227 => 137 | 228 => 185 | 137 => 83 | 119 => 223 | 224 => 224 | 225 => 225 | 217 => 142 | 266 => 189 | n => n, fun | 9 => 9 | 4 => 4 | 3 => 3 | 5 => 5 | 21 => 21 | 117 => 200 | 116 => 199 | 0 => 0 | 46 => 110 | 124 => 203 | n => n, fun | n => n⟩
theorem Tryz.lays150 : Go.Proofs.Lays.n150 Tryz.prog Tryz.lays150_ren := {
 mixed := by kernel_rfl
 f119 := Tryz.func223.trans (congrArg some (by kernel_rfl))
 f137 := Tryz.func83.trans (congrArg some (by kernel_rfl))
 f150 := Tryz.func182.trans (congrArg some (by kernel_rfl))
 f152 := Tryz.func211.trans (congrArg some (by kernel_rfl))
 f153 := Tryz.func208.trans (congrArg some (by kernel_rfl))
 f217 := Tryz.func142.trans (congrArg some (by kernel_rfl))
 f224 := Tryz.func224.trans (congrArg some (by kernel_rfl))
 f225 := Tryz.func225.trans (congrArg some (by kernel_rfl))
 f226 := Tryz.func222.trans (congrArg some (by kernel_rfl))
 f227 := Tryz.func137.trans (congrArg some (by kernel_rfl))
 f228 := Tryz.func185.trans (congrArg some (by kernel_rfl))
 f266 := Tryz.func189.trans (congrArg some (by kernel_rfl))
 t0 := Tryz.underlying0
 a0 := Tryz.isAgg0
 z0 := Tryz.sizeOf0
 v0 := Tryz.zeroValue0
 t3 := Tryz.underlying3
 a3 := Tryz.isAgg3
 z3 := Tryz.sizeOf3
 v3 := Tryz.zeroValue3
 t4 := Tryz.underlying4
 a4 := Tryz.isAgg4
 z4 := Tryz.sizeOf4
 v4 := Tryz.zeroValue4
 t5 := Tryz.underlying5
 a5 := Tryz.isAgg5
 z5 := Tryz.sizeOf5
 v5 := Tryz.zeroValue5
 t9 := Tryz.underlying9
 a9 := Tryz.isAgg9
 z9 := Tryz.sizeOf9
 v9 := Tryz.zeroValue9
 t21 := Tryz.underlying21
 a21 := Tryz.isAgg21
 z21 := Tryz.sizeOf21
 v21 := Tryz.zeroValue21
 t46 := Tryz.underlying110
 a46 := Tryz.isAgg110
 z46 := Tryz.sizeOf110
 v46 := Tryz.zeroValue110
 t116 := Tryz.underlying199
 a116 := Tryz.isAgg199
 z116 := Tryz.sizeOf199
 t117 := Tryz.underlying200
 a117 := Tryz.isAgg200
 z117 := Tryz.sizeOf200
 v117 := Tryz.zeroValue200
 t124 := Tryz.underlying203
 a124 := Tryz.isAgg203
 z124 := Tryz.sizeOf203
 v124 := Tryz.zeroValue203 }
open Go.RowKit Go.Lib in
theorem Tryz.strings_ContainsAny_laid (s chars : ByteArray) (w : World) (hs : s.size < 4294967281) (hcs : chars.size < 4294967281) (has : ∀ (j : Nat) b, s.data.toList[j]? = some b → b.toNat < 128) (hac : ∀ (j : Nat) b, chars.data.toList[j]? = some b → b.toNat < 128) :
 Calls Tryz.prog 182 #[.string s, .string chars] w fun e w' => e = .returned (.bool (Lib.containsAny s.data.toList chars.data.toList)) ∧ Below w.heap.size w w' := Any.strings_ContainsAny_laid Tryz.lays150 (by kernel_rfl) s chars w hs hcs has hac
def Tryz.laysNm220_ren : Go.Shelf.Ren := ⟨fun | 20 => 178 | n => n, fun | 22 => 22 | 3 => 3 | 4 => 4 | 0 => 0 | n => n, fun | n => n⟩
theorem Tryz.laysNm220 : Go.Proofs.Lays2.n20 Tryz.prog Tryz.laysNm220_ren := {
 mixed := by kernel_rfl
 f20 := Tryz.func178.trans (congrArg some (by kernel_rfl))
 t0 := Tryz.underlying0
 a0 := Tryz.isAgg0
 z0 := Tryz.sizeOf0
 v0 := Tryz.zeroValue0
 t3 := Tryz.underlying3
 a3 := Tryz.isAgg3
 z3 := Tryz.sizeOf3
 v3 := Tryz.zeroValue3
 t4 := Tryz.underlying4
 a4 := Tryz.isAgg4
 z4 := Tryz.sizeOf4
 v4 := Tryz.zeroValue4
 t22 := Tryz.underlying22
 a22 := Tryz.isAgg22
 z22 := Tryz.sizeOf22
 v22 := Tryz.zeroValue22
 i3 := by kernel_rfl }
open Go.RowKit Go.Lib Go.Sort in
theorem Tryz.slices_Compact_int (blk off cap : Nat) (zs : List Int) (w : World) (hH : Holds (Value.int .i64) w blk off zs.toArray) (hsz : zs.length ≤ 9223372036854775807) (hcap : zs.length ≤ cap) :
 Calls Tryz.prog 178 #[.slice (some ⟨blk, off, none⟩) zs.length cap] w fun e w' => e = .returned (.slice (some ⟨blk, off, none⟩) (Lib.compact zs).length cap) ∧ ∃ q, w' = putRow (Value.int .i64) (Sort.ahead w q) blk off (Lib.compact zs ++ List.replicate (zs.length - (Lib.compact zs).length) 0).toArray := Any.slices_Compact_int Tryz.laysNm220 blk off cap zs w hH hsz hcap
open Go.RowKit Go.Lib Go.Sort in
theorem Tryz.slices_Compact_int_empty (a : Option Addr) (cap : Nat) (w : World) :
 Calls Tryz.prog 178 #[.slice a 0 cap] w fun e w' => e = .returned (.slice a 0 cap) ∧ w' = w := Any.slices_Compact_int_empty Tryz.laysNm220 a cap w
def Tryz.lays194_ren : Go.Shelf.Ren := ⟨fun | 194 => 17 | n => n, fun | 31 => 48 | 9 => 9 | 3 => 3 | 4 => 4 | 0 => 0 | n => n, fun | n => n⟩
theorem Tryz.lays194 : Go.Proofs.Lays.n194 Tryz.prog Tryz.lays194_ren := {
 mixed := by kernel_rfl
 f194 := Tryz.func17.trans (congrArg some (by kernel_rfl))
 t0 := Tryz.underlying0
 a0 := Tryz.isAgg0
 z0 := Tryz.sizeOf0
 v0 := Tryz.zeroValue0
 t3 := Tryz.underlying3
 a3 := Tryz.isAgg3
 z3 := Tryz.sizeOf3
 v3 := Tryz.zeroValue3
 t4 := Tryz.underlying4
 a4 := Tryz.isAgg4
 z4 := Tryz.sizeOf4
 v4 := Tryz.zeroValue4
 t9 := Tryz.underlying9
 a9 := Tryz.isAgg9
 z9 := Tryz.sizeOf9
 v9 := Tryz.zeroValue9
 t31 := Tryz.underlying48
 a31 := Tryz.isAgg48
 z31 := Tryz.sizeOf48
 v31 := Tryz.zeroValue48 }
open Go.RowKit Go.Lib Go.Sort in
theorem Tryz.slices_Compact_string (blk off cap : Nat) (zs : List (List UInt8)) (w : World) (hH : Holds encStr w blk off zs.toArray) (hsz : zs.length ≤ 9223372036854775807) (hcap : zs.length ≤ cap) :
 Calls Tryz.prog 17 #[.slice (some ⟨blk, off, none⟩) zs.length cap] w fun e w' => e = .returned (.slice (some ⟨blk, off, none⟩) (Lib.compact zs).length cap) ∧ ∃ q, w' = putRow encStr (Sort.ahead w q) blk off (Lib.compact zs ++ List.replicate (zs.length - (Lib.compact zs).length) []).toArray := Any.slices_Compact_string Tryz.lays194 blk off cap zs w hH hsz hcap
open Go.RowKit Go.Lib Go.Sort in
theorem Tryz.slices_Compact_string_empty (a : Option Addr) (cap : Nat) (w : World) :
 Calls Tryz.prog 17 #[.slice a 0 cap] w fun e w' => e = .returned (.slice a 0 cap) ∧ w' = w := Any.slices_Compact_string_empty Tryz.lays194 a cap w
def Tryz.laysNm225_ren : Go.Shelf.Ren := ⟨fun | 25 => 196 | 31 => 160 | 32 => 217 | 37 => 184 | n => n, fun | 22 => 22 | 3 => 3 | 4 => 4 | 40 => 110 | 0 => 0 | n => n, fun | n => n⟩
theorem Tryz.laysNm225 : Go.Proofs.Lays2.n25 Tryz.prog Tryz.laysNm225_ren := {
 mixed := by kernel_rfl
 f25 := Tryz.func196.trans (congrArg some (by kernel_rfl))
 f31 := Tryz.func160.trans (congrArg some (by kernel_rfl))
 f32 := Tryz.func217.trans (congrArg some (by kernel_rfl))
 f37 := Tryz.func184.trans (congrArg some (by kernel_rfl))
 t0 := Tryz.underlying0
 a0 := Tryz.isAgg0
 z0 := Tryz.sizeOf0
 v0 := Tryz.zeroValue0
 t3 := Tryz.underlying3
 a3 := Tryz.isAgg3
 z3 := Tryz.sizeOf3
 v3 := Tryz.zeroValue3
 t4 := Tryz.underlying4
 a4 := Tryz.isAgg4
 z4 := Tryz.sizeOf4
 v4 := Tryz.zeroValue4
 t22 := Tryz.underlying22
 a22 := Tryz.isAgg22
 z22 := Tryz.sizeOf22
 v22 := Tryz.zeroValue22
 t40 := Tryz.underlying110
 a40 := Tryz.isAgg110
 z40 := Tryz.sizeOf110
 v40 := Tryz.zeroValue110 }
open Go.RowKit Go.Lib in
theorem Tryz.slices_BinarySearch_int (b off n c : Nat) (zs : List Int) (x : Int) (w : World) (hz : n ≤ zs.length) (hbig : n < 4611686018427387904) (hc : ∀ j, j < zs.length → w.cell? ⟨b, off + j, none⟩ = some (.int .i64 (zs.getD j 0))) (hs : (zs.take n).Pairwise (· ≤ ·)) :
 Calls Tryz.prog 196 #[.slice (some ⟨b, off, none⟩) n c, .int .i64 x] w fun e w' => e = .returned (.tuple #[.int .i64 ((zs.take n).countP (· < x) : Nat), .bool ((zs.take n).contains x)]) ∧ ∃ q, w' = w.drewN q := Any.slices_BinarySearch_int Tryz.laysNm225 b off n c zs x w hz hbig hc hs
open Go.RowKit Go.Sort in
theorem Tryz.slices_Sort_string_none (p : Option Addr) (cap : Nat) (w : World) :
 Calls Tryz.prog 16 #[.slice p 0 cap] w fun e w' => e = .returned (.tuple #[]) ∧ w' = w := Any.slices_Sort_string_none Tryz.lays190 p cap w
open Go.RowKit Go.Sort in
theorem Tryz.slices_Sort_int_none (p : Option Addr) (cap : Nat) (w : World) :
 Calls Tryz.prog 47 #[.slice p 0 cap] w fun e w' => e = .returned (.tuple #[]) ∧ w' = w := Any.slices_Sort_int_none Tryz.lays189 p cap w
open Go.RowKit Go.Lib in
theorem Tryz.slices_BinarySearch_int_empty (a : Option Addr) (c : Nat) (x : Int) (w : World) :
 Calls Tryz.prog 196 #[.slice a 0 c, .int .i64 x] w fun e w' => e = .returned (.tuple #[.int .i64 0, .bool false]) ∧ w' = w := Any.slices_BinarySearch_int_empty Tryz.laysNm225 a c x w
end Go.Proofs
