/- Small words for memory that the walks share: a block that is known whole; a slice that reads as a list; the stream of numbers. No condition. The tests of ranges, moments and sites, and cmp.Or over errors: each answers as its plain form says. No condition. A slice of ints that the program has made, as a list of numbers; slices.Equal at two that are equal. No condition. Contracts of Go's library at this translation, as the kit's shelf lays them in plain words: each says its own conditions. Plain law of times: their errors, how many are in a window: no program in sight. No condition. The walks over the errors of times and windows, over how many moments are before one or in a window, in package rate and in the reference. Condition: times that are counted by search are sorted. The walks over how many moments are before one and in a window, in package rate (by search) and in the reference (by counting). Condition: times that are searched are sorted. The walks over fractions in lowest terms, the last milliseconds before a moment, and the bad case of each exported function of package rate that begins with CheckTimes. Condition: numbers within their ranges. The walks over rate.In, rate.Rate and their twins in the reference. Condition: the window's end is no number beyond 2^60; else times without error where the name says ok. -/
import Derived.Test.YthlflljlkkkanaaGreatDoorRows
import Derived.WalkKit
import Derived.WalkSpells
import Derived.WalkLawsBesides
import Derived.Deep.QuietTactic
import Derived.BigQuiet
import Derived.Lib.Hide
import Derived.Shelf.Strings.Builder1
import Derived.Shelf.Strings.Builder2
import Derived.Shelf.Strings.OnBuilder
import Derived.Shelf.Strings.Trim
import Derived.Shelf.Small.Utf8
import Derived.Shelf.Small.Bits
import Derived.Shelf.Small.Strs
import Derived.Shelf.Small.Wraps
import Derived.Shelf.Strings.BuilderF
import Derived.Shelf.Strings.BuilderK
import Derived.Shelf.Utf8.RuneCount
import Derived.Shelf.Strings.Builder2Cap
import Derived.Shelf.Strconv.Itoa0
import Derived.Shelf.Strconv.Itoa1
import Derived.Shelf.LaysM
import Derived.Shelf.Strconv.Itoa2
import Derived.Shelf.Strconv.Itoa3
import Derived.Shelf.Strings.Search1
import Derived.Shelf.Strings.Search2
import Derived.Shelf.Strings.Search3
import Derived.Shelf.Strings.Cut
import Derived.Shelf.Strings.Count
import Derived.Shelf.Strings.Shaped
import Derived.Shelf.Sort.Plain
import Derived.Shelf.GgClosure.StringsIndexFunc
import Derived.Ground.GgwProg
import Derived.Shelf.GgClosure.StringsIndexFuncTop
import Derived.Shelf.GgClosure.StringsRunes
import Derived.Shelf.Strings.Prefix
import Derived.Shelf.Strings.Split
import Derived.Shelf.Strings.Fields
import Derived.Shelf.Strings.Replace
import Derived.Shelf.Strings.SplitShaped
import Derived.Shelf.Unicode.Latin
import Derived.Shelf.Unicode.Decode
import Derived.Shelf.Strings.Runes
import Derived.Shelf.Strings.RuneCount
import Derived.Shelf.Strings.IndexAny
import Derived.Shelf.Strings.AsciiSet
import Derived.Shelf.Strings.IndexAnyAll
import Derived.Shelf.Strings.Explode
import Derived.Shelf.Bits.Mul64
import Derived.Shelf.Strings.Repeat
import Derived.Shelf.Unicode.DecodeSlow
import Derived.Shelf.Unicode.DecodeAny
import Derived.Shelf.Unicode.Is16White
import Derived.Shelf.Unicode.IsSpaceAny
import Derived.Shelf.Unicode.DecodeLast
import Derived.Shelf.Unicode.Is16WhiteD
import Derived.Shelf.Unicode.IsSpaceAnyD
import Derived.Shelf.Strings.FieldsAny
import Derived.Shelf.Strings.FieldsFuncAny
import Derived.Shelf.Unicode.Is16Any
import Derived.Shelf.Unicode.Is32Any
import Derived.Shelf.Unicode.ExclAny
import Derived.Shelf.Strings.FuncGrows
import Derived.Shelf.Strings.FieldsFuncGrows
import Derived.Shelf.Strings.BuilderCap
import Derived.Shelf.Slices.Turned
import Derived.Shelf.Slices.Equal
import Derived.Ground.Names2Prog
import Derived.Shelf.Slices.CompactI
import Derived.Shelf.Slices.CompactS
import Derived.Shelf.Slices.SearchI
import Derived.Shelf.Slices.Cells
import Derived.Shelf.Slices.In.SortNone
import Derived.Shelf.Slices.Empties
import Derived.Shelf.Slices.Empties2
import Derived.Test.YthlflljlkkkanaaGreatDoorProg
import Derived.Deep.RegionHeld3
namespace Go.Proofs.YthlflljlkkkanaaGreatDoor
theorem ssA.{u} {A : Type u} {l : List A} {i : Nat} {a : A} : l.toArray.setIfInBounds i a = (l.set i a).toArray := List.setIfInBounds_toArray ..
theorem ssZ.{u} {A : Type u} {x y : A} {l : List A} : (x :: l).set 0 y = y :: l := rfl
theorem ssS.{u} {A : Type u} {x y : A} {l : List A} {n : Nat} : (x :: l).set (n + 1) y = x :: l.set n y := rfl
set_option linter.unusedVariables false
open Go.RowKit

/-- Block g holds just these cells, none of them frozen. -/
def Blk (w : World) (g : Nat) (t : TypeId) (cs : Array Value) : Prop := w.heap[g]? = some (.cells cs t (0, 0))
section
variable {w w' : World} {g : Nat} {t : TypeId} {cs : Array Value}
theorem Blk.lt (h : Blk w g t cs) : g < w.heap.size := (Array.getElem?_eq_some_iff.1 h).1
theorem Blk.cell (h : Blk w g t cs) (i : Nat) : w.cell? ⟨g, i, none⟩ = cs[i]? := cell_of_row w g i cs t (0, 0) h
theorem Blk.free (h : Blk w g t cs) (i : Nat) : w.frozen? ⟨g, i, none⟩ = false := by
 unfold Blk at h; simp [World.frozen?, h]
theorem Blk.new (w : World) (t : TypeId) (cs : Array Value) : Blk (w.alloc (.cells cs t)) w.heap.size t cs := heap_alloc_new w _
theorem Blk.alloc (h : Blk w g t cs) (o : Obj) : Blk (w.alloc o) g t cs := (Below.heap_alloc w o g h.lt).trans h
theorem Blk.drew (h : Blk w g t cs) : Blk w.drew g t cs := h
theorem Blk.drewN (h : Blk w g t cs) (n : Nat) : Blk (w.drewN n) g t cs := h
theorem Blk.put (h : Blk w g t cs) (i : Nat) (u : Value) : Blk (w.setCell ⟨g, i, none⟩ u) g t (cs.setIfInBounds i u) := by
 unfold Blk at h ⊢; simp [World.setCell, Array.getElem?_modify, h]
theorem Blk.far (h : Blk w g t cs) {p : Addr} (hp : g ≠ p.block) (u : Value) : Blk (w.setCell p u) g t cs := (Below.heap_setCell w p u g hp).trans h
theorem Blk.grown (h : Blk w g t cs) {row : Option Nat} (hb : w.grownBy w' row) (hg : some g ≠ row) : Blk w' g t cs := (hb.block g h.lt hg).trans h
end

/-! ### What a call leaves: 'w.grownBy w' none': nothing that was there has turned; 'w.grownBy w' (some b)': block b alone may have turned. -/
theorem gr_refl (w : World) (row : Option Nat) : w.grownBy w row := World.grownBy.refl w row
theorem gr_trans {a b c : World} {row : Option Nat} (h : a.grownBy b row) (k : b.grownBy c row) : a.grownBy c row :=
 ⟨k.os.trans h.os, k.tape.trans h.tape, k.output.trans h.output, Nat.le_trans h.size k.size, fun i hi hne => (k.block i (Nat.lt_of_lt_of_le hi h.size) hne).trans (h.block i hi hne)⟩
theorem gr_weak {a b : World} (h : a.grownBy b none) (row : Option Nat) : a.grownBy b row := ⟨h.os, h.tape, h.output, h.size, fun i hi _ => h.block i hi (by simp)⟩
theorem gr_drew {a w : World} {row : Option Nat} (h : a.grownBy w row) : a.grownBy w.drew row := ⟨h.os, h.tape, h.output, h.size, h.block⟩
theorem gr_drewN {a w : World} {row : Option Nat} (h : a.grownBy w row) (n : Nat) : a.grownBy (w.drewN n) row := ⟨h.os, h.tape, h.output, h.size, h.block⟩
theorem gr_alloc {a w : World} {row : Option Nat} (h : a.grownBy w row) (o : Obj) : a.grownBy (w.alloc o) row :=
 ⟨h.os, h.tape, h.output, Nat.le_trans h.size (by simp), fun i hi hne => (Below.heap_alloc w o i (Nat.lt_of_lt_of_le hi h.size)).trans (h.block i hi hne)⟩
theorem gr_put {a w : World} {row : Option Nat} (h : a.grownBy w row) {p : Addr} (hp : row = some p.block ∨ a.heap.size ≤ p.block) (u : Value) : a.grownBy (w.setCell p u) row :=
 ⟨h.os, h.tape, h.output, by simpa [World.setCell] using h.size, fun i hi hne => (Below.heap_setCell w p u i (by
  rintro rfl
  rcases hp with hp | hp
  ·exact hne hp.symm
  ·omega)).trans (h.block i hi hne)⟩
theorem gr_grown {a w w' : World} {row row' : Option Nat} (h : a.grownBy w row) (k : w.grownBy w' row') (hr : ∀ g, row' = some g → row = some g ∨ a.heap.size ≤ g) : a.grownBy w' row :=
 ⟨k.os.trans h.os, k.tape.trans h.tape, k.output.trans h.output, Nat.le_trans h.size k.size, fun i hi hne => (k.block i (Nat.lt_of_lt_of_le hi h.size) (fun e => by
  rcases hr i e.symm with h1 | h1
  ·exact hne h1.symm
  ·omega)).trans (h.block i hi hne)⟩
theorem gr_below {a w : World} (h : a.grownBy w none) : Below a.heap.size a w := ⟨h.os, h.tape, h.output, h.size, fun i hi => h.block i hi (by simp)⟩
theorem gr_of_below {a w : World} (h : Below a.heap.size a w) : a.grownBy w none := ⟨h.os, h.tape, h.output, h.size, fun i hi _ => h.block i hi⟩
/-! ### Calls inside a region that draws its order: a contract that leaves the world alone. -/
theorem ret_of {k : IntKind} {a b : Int} (h : a = b) : Ending.returned (.int k a) = .returned (.int k b) := by rw [h]
theorem ret_b {a b : Bool} (h : a = b) : Ending.returned (.bool a) = .returned (.bool b) := by rw [h]
/-! ### pilemake.Below -/
theorem tmod_lo (x n : Int) (h : 1 ≤ n) : -n < x.tmod n ∧ x.tmod n < n := by
 have h1 := Int.tmod_lt_of_pos x (show 0 < n by omega)
 have h2 := Int.lt_tmod_of_pos x (show 0 < n by omega)
 exact ⟨h2, h1⟩
set_option maxHeartbeats 400000 in
/-- Whatever x is: a number from 0 to n - 1. -/
theorem below_in (x n : Int) (w : World) (h1 : 1 ≤ n) (h2 : n ≤ 4611686018427387904) :
 Calls Tryz.prog 222 #[.int .i64 x, .int .i64 n] w fun e w' => (∃ v : Int, 0 ≤ v ∧ v < n ∧ e = .returned (.int .i64 v)) ∧ w = w' := by
 have ht := tmod_lo x n h1
 obtain ⟨t1, t2⟩ := ht
 go_enter Tryz.func222, Tryz.ntmps222
 go_wp2
 all_goals (go_ret; exact ⟨⟨_, by omega, by omega, rfl⟩, rfl⟩)
/-! ### The stream: a block of two cells: the numbers that it hands out, and how many it has handed out (at most k). -/
def Str (w : World) (b k : Nat) : Prop :=
 ∃ (A : Option Addr) (n c : Nat) (at_ : Int), Blk w b 25 #[.slice A n c, .int .i64 at_] ∧ 0 ≤ at_ ∧ at_ ≤ k ∧ n ≤ 9223372036854775807 ∧
   (0 < n → ∃ ad, A = some ad ∧ ad.block < b ∧ ∀ j, j < n → ∃ z : Int, w.cell? (ad.add j) = some (.int .i64 z))
theorem Str.mono {w : World} {b k k' : Nat} (h : Str w b k) (hk : k ≤ k') : Str w b k' := by
 obtain ⟨A, n, c, a, h1, h2, h3, h4, h5⟩ := h
 exact ⟨A, n, c, a, h1, h2, by omega, h4, h5⟩
theorem Str.lt {w : World} {b k : Nat} (h : Str w b k) : b < w.heap.size := by
 obtain ⟨A, n, c, a, h1, h2, h3, h4, h5⟩ := h
 exact h1.lt
theorem add_block (a : Addr) (n : Nat) : (a.add n).block = a.block := by unfold Addr.add; split <;> rfl
theorem Str.grown {w w' : World} {b k : Nat} (h : Str w b k) {row : Option Nat} (hg : w.grownBy w' row) (hr : ∀ g, row = some g → b < g) : Str w' b k := by
 obtain ⟨A, n, c, a, h1, h2, h3, h4, h5⟩ := h
 have hlt := h1.lt
 refine ⟨A, n, c, a, h1.grown hg (fun e => by have := hr b e.symm; omega), h2, h3, h4, fun hn => ?_⟩
 obtain ⟨ad, e, hb, hc⟩ := h5 hn
 refine ⟨ad, e, hb, fun j hj => ?_⟩
 obtain ⟨z, hz⟩ := hc j hj
 exact ⟨z, (World.cell?_of_block (hg.block _ (by rw [add_block]; omega) (fun e' => by have := hr _ e'.symm; rw [add_block] at this; omega))).trans hz⟩
theorem Str.alloc {w : World} {b k : Nat} (h : Str w b k) (o : Obj) : Str (w.alloc o) b k := h.grown (World.grownBy_alloc w o none) (by simp)
theorem Str.drew {w : World} {b k : Nat} (h : Str w b k) : Str w.drew b k := h
theorem Str.drewN {w : World} {b k : Nat} (h : Str w b k) (n : Nat) : Str (w.drewN n) b k := h
/-- What 'Next(n)' leaves: a number from 0 to n - 1, the stream one further. -/
def NextPost (b k : Nat) (n : Int) (w : World) (e : Ending) (w' : World) : Prop :=
 ∃ v : Int, 0 ≤ v ∧ v < n ∧ e = .returned (.int .i64 v) ∧ Str w' b (k + 1) ∧ w.grownBy w' (some b)
set_option maxHeartbeats 400000 in
theorem next_in (b k : Nat) (n : Int) (w : World) (hs : Str w b k) (hk : k ≤ 1000000000000) (h1 : 1 ≤ n) (h2 : n ≤ 4611686018427387904) :
 Calls Tryz.prog 120 #[.pointer (some ⟨b, 0, none⟩), .int .i64 n] w (NextPost b k n w) := by
 obtain ⟨A, len, c, a, hb, ha0, ha1, hn, hcell⟩ := hs
 have c0 := hb.cell 0
 have c1 := hb.cell 1
 have f1 := hb.free 1
 simp only [List.getElem?_toArray, List.getElem?_cons_zero, List.getElem?_cons_succ] at c0 c1
 rcases Nat.eq_zero_or_pos len with h0 | h0
 ·subst h0
  have H5 := Lib.hid hcell
  clear hcell
  go_enter Tryz.func120, Tryz.ntmps120
  go_wp2_with fail
  refine (below_in _ _ _ h1 h2).mono ?_
  rintro e w' ⟨⟨v, hv0, hv1, rfl⟩, rfl⟩
  go_wp2_with fail
  go_ret
  have hb' := hb.put 1 (.int .i64 (a + 1))
  exact ⟨v, hv0, hv1, rfl, ⟨A, 0, c, a + 1, hb', by omega, by omega, hn, fun h => absurd h (by omega)⟩, gr_put (gr_refl _ _) (.inl rfl) _⟩
 ·obtain ⟨ad, rfl, hab, hx⟩ := hcell h0
  have H5 := Lib.hid hcell
  clear hcell
  have m0 : 0 ≤ a % (len : Int) := Int.emod_nonneg _ (by omega)
  have m1 : a % (len : Int) < len := Int.emod_lt_of_pos _ (by omega)
  have m2 : 0 ≤ a / (len : Int) := Int.ediv_nonneg ha0 (by omega)
  have m3 : a / (len : Int) ≤ a := Int.ediv_le_self _ ha0
  have hlen : ((len : Int) == 0) = false := by rw [beq_eq_false_iff_ne]; omega
  obtain ⟨i, hi⟩ := Int.eq_ofNat_of_zero_le m0
  obtain ⟨z, hz⟩ := hx i (by omega)
  have hz' : (w.setCell ⟨b, 1, none⟩ (.int .i64 (a + 1))).cell? (ad.add i) = some (.int .i64 z) :=
   (World.cell?_setCell_other w _ _ _ (fun e => by have := add_block ad i; rw [← e] at this; simp at this; omega)).trans hz
  have HX := Lib.hid hx
  have HI := Lib.hid hi
  clear hx hz
  go_enter Tryz.func120, Tryz.ntmps120
  go_wp2_with fail
  go_quiet (fail)
  go_wp2_with fail
  go_quiet (fail)
  go_wp2_with fail
  refine (below_in _ _ _ (by omega) (by omega)).mono ?_
  rintro e w' ⟨⟨v, hv0, hv1, rfl⟩, rfl⟩
  go_wp2_with fail
  refine (below_in _ _ _ h1 h2).mono ?_
  rintro e w' ⟨⟨v2, hv20, hv21, rfl⟩, rfl⟩
  go_wp2_with fail
  go_ret
  have hb' := (hb.put 1 (.int .i64 (a + 1)))
  exact ⟨v2, hv20, hv21, rfl, ⟨some ad, len, c, a + 1, hb', by omega, by omega, hn, fun _ => ⟨ad, rfl, hab, fun j hj => by
   obtain ⟨z', hz2⟩ := HX.out j hj
   exact ⟨z', (World.cell?_setCell_other w _ _ _ (fun e => by have := add_block ad j; rw [← e] at this; simp at this; omega)).trans hz2⟩⟩⟩,
   by repeat (first | exact gr_put (gr_refl _ _) (.inl rfl) _ | refine gr_drewN ?_ _ | refine gr_drew ?_)⟩
end Go.Proofs.YthlflljlkkkanaaGreatDoor

namespace Go.Proofs.YthlflljlkkkanaaGreatDoor
open Go.RowKit
set_option linter.unusedVariables false

def outB (n l h : Int) : Bool := decide (n < l) || decide (h < n)
theorem outB_no {n l h : Int} (h1 : l ≤ n) (h2 : n ≤ h) : outB n l h = false := by unfold outB; simp; omega
theorem outB_yes {n l h : Int} (h1 : n < l ∨ h < n) : outB n l h = true := by unfold outB; simp; omega
def spanE (n l h : Int) : Int := if outB n l h then 1 else 0
def momE (at_ : Int) : Int := spanE at_ 0 345686399999
theorem spanE_no {n l h : Int} (h1 : l ≤ n) (h2 : n ≤ h) : spanE n l h = 0 := by unfold spanE; rw [outB_no h1 h2]; rfl
theorem spanE_yes {n l h : Int} (h1 : n < l ∨ h < n) : spanE n l h = 1 := by unfold spanE; rw [outB_yes h1]; rfl
theorem spanE_cases (n l h : Int) : (spanE n l h = 0 ∧ l ≤ n ∧ n ≤ h) ∨ (spanE n l h = 1 ∧ (n < l ∨ h < n)) := by
 by_cases hh : l ≤ n ∧ n ≤ h
 ·exact .inl ⟨spanE_no hh.1 hh.2, hh⟩
 ·have h' : n < l ∨ h < n := by omega
  exact .inr ⟨spanE_yes h', h'⟩
set_option maxHeartbeats 400000 in
theorem outside_any (n l h : Int) (w : World) :
 Calls Tryz.prog 113 #[.int .i64 n, .int .i64 l, .int .i64 h] w fun e w' => e = .returned (.bool (outB n l h)) ∧ w = w' := by
 by_cases h1 : n < l
 ·have HE := Lib.hid (show outB n l h = true from outB_yes (.inl h1))
  go_enter Tryz.func113, Tryz.ntmps113
  go_wp2_with fail
  go_ret
  exact ⟨ret_b HE.out.symm, rfl⟩
 ·by_cases h2 : h < n
  ·have HE := Lib.hid (show outB n l h = true from outB_yes (.inr h2))
   go_enter Tryz.func113, Tryz.ntmps113
   go_wp2_with fail
   go_ret
   exact ⟨ret_b HE.out.symm, rfl⟩
  ·have HE := Lib.hid (show outB n l h = false from outB_no (by omega) (by omega))
   go_enter Tryz.func113, Tryz.ntmps113
   go_wp2_with fail
   go_ret
   exact ⟨ret_b HE.out.symm, rfl⟩
set_option maxHeartbeats 400000 in
theorem in_any (n l h : Int) (w : World) :
 Calls Tryz.prog 76 #[.int .i64 n, .int .i64 l, .int .i64 h] w fun e w' => e = .returned (.bool (!outB n l h)) ∧ w = w' := by
 by_cases h1 : n < l
 ·have HE := Lib.hid (show outB n l h = true from outB_yes (.inl h1))
  go_enter Tryz.func76, Tryz.ntmps76
  go_wp2_with fail
  go_ret
  exact ⟨ret_b (by rw [HE.out]; first | rfl | (simp; omega)), rfl⟩
 ·by_cases h2 : h < n
  ·have HE := Lib.hid (show outB n l h = true from outB_yes (.inr h2))
   go_enter Tryz.func76, Tryz.ntmps76
   go_wp2_with fail
   go_ret
   exact ⟨ret_b (by rw [HE.out]; first | rfl | (simp; omega)), rfl⟩
  ·have HE := Lib.hid (show outB n l h = false from outB_no (by omega) (by omega))
   go_enter Tryz.func76, Tryz.ntmps76
   go_wp2_with fail
   go_ret
   exact ⟨ret_b (by rw [HE.out]; first | rfl | (simp; omega)), rfl⟩
set_option maxHeartbeats 400000 in
theorem isMoment_any (n : Int) (w : World) :
 Calls Tryz.prog 97 #[.int .i64 n] w fun e w' => e = .returned (.bool (!outB n 0 345686399999)) ∧ w = w' := by
 go_enter Tryz.func97, Tryz.ntmps97
 go_wp2_with fail
 refine (outside_any _ _ _ _).mono ?_
 rintro e w' ⟨rfl, rfl⟩
 go_wp2_with fail
 go_ret
 exact ⟨rfl, rfl⟩
set_option maxHeartbeats 400000 in
theorem spanFault_any (n l h : Int) (w : World) :
 Calls Tryz.prog 52 #[.int .i64 n, .int .i64 l, .int .i64 h] w fun e w' => e = .returned (.int .i64 (spanE n l h)) ∧ w = w' := by
 rcases hb : outB n l h
 all_goals
  have HE := Lib.hid hb
  go_enter Tryz.func52, Tryz.ntmps52
  go_wp2_with fail
  refine (in_any _ _ _ _).mono ?_
  rintro e w' ⟨rfl, rfl⟩
  go_wp2_with fail
  go_ret
  exact ⟨ret_of (by unfold spanE; rw [HE.out]; rfl), rfl⟩
set_option maxHeartbeats 400000 in
theorem momentFault_any (n : Int) (w : World) :
 Calls Tryz.prog 118 #[.int .i64 n] w fun e w' => e = .returned (.int .i64 (momE n)) ∧ w = w' := by
 go_enter Tryz.func118, Tryz.ntmps118
 go_wp2_with fail
 refine (spanFault_any _ _ _ _).mono ?_
 rintro e w' ⟨rfl, rfl⟩
 go_wp2_with fail
 go_ret
 exact ⟨rfl, rfl⟩
theorem getE_of {xs : List Int} {i : Nat} (h : i < xs.length) : ((xs.map (Value.int .i64)).toArray)[i]? = some (.int .i64 xs[i]) := by simp [h]
/-- The first error of a list. -/
def orL : List Int → Int
 | [] => 0
 | a :: r => if a = 0 then orL r else a
set_option maxHeartbeats 400000 in
theorem or_any (xs : List Int) (g m c : Nat) (w : World) (hg : Blk w g 37 (xs.map (Value.int .i64)).toArray) (hm : m = xs.length) (h1 : m ≤ 1000) :
 Calls Tryz.prog 51 #[.slice (some ⟨g, 0, none⟩) m c] w fun r w' => r = .returned (.int .i64 (orL xs)) ∧ w = w' := by
 have HM := Lib.hid hm
 clear hm
 go_enter Tryz.func51, Tryz.ntmps51
 go_wp2_with fail
 go_loop [8] (fun i => ∃ k : Nat, k ≤ m ∧ i = .int .i64 k ∧ Hid (orL xs = orL (xs.drop k))) (fun i => m - (intOf i).toNat)
 case atStart => exact ⟨0, by omega, rfl, rfl⟩
 case round =>
  obtain ⟨k, hk, rfl, HR⟩ := hrel
  by_cases hlt : k < m
  ·have hi : k < xs.length := by have := HM.out; omega
   have hc := hg.cell k
   rw [getE_of hi] at hc
   obtain ⟨z, hz⟩ : ∃ z, z = xs[k] := ⟨_, rfl⟩
   rw [← hz] at hc
   have HZ : Hid (orL (xs.drop k) = if z = 0 then orL (xs.drop (k + 1)) else z) := by
    show orL (xs.drop k) = _
    rw [List.drop_eq_getElem_cons hi, ← hz]
    rfl
   clear hz
   by_cases h0 : z = 0
   ·have hne : (z != 0) = false := by simp [h0]
    have HZ2 : Hid (orL xs = orL (xs.drop (k + 1))) := by
     show orL xs = _
     rw [HR.out, HZ.out, if_pos h0]
    have H0 := Lib.hid h0
    clear h0
    go_wp2_with fail
    go_round
    case rel => exact ⟨k + 1, by omega, by go_num, HZ2⟩
    case measure => simp [intOf]; omega
   ·have hne : (z != 0) = true := by simpa using h0
    have HZ2 : Hid (orL xs = z) := by
     show orL xs = _
     rw [HR.out, HZ.out, if_neg h0]
    clear h0
    go_wp2_with fail
    go_ret
    exact ⟨ret_of HZ2.out.symm, rfl⟩
  ·have HZ2 : Hid (orL xs = 0) := by
    show orL xs = _
    rw [HR.out, List.drop_of_length_le (by have := HM.out; omega)]
    rfl
   go_wp2_with fail
   go_ret
   exact ⟨ret_of HZ2.out.symm, rfl⟩
/-- cmp.Or of three, of four errors that have just been laid. -/
theorem or3_any (a b d : Int) (w : World) :
 Calls Tryz.prog 51 #[.slice (some ⟨w.heap.size, 0, none⟩) 3 3] (w.alloc (.cells #[.int .i64 a, .int .i64 b, .int .i64 d] 37)) fun r w' =>
  r = .returned (.int .i64 (orL [a, b, d])) ∧ w.grownBy w' none :=
 (or_any [a, b, d] _ 3 3 _ (Blk.new w _ _) rfl (by decide)).mono fun e w' ⟨he, hw⟩ => ⟨he, by rw [← hw]; exact World.grownBy_alloc w _ none⟩
theorem orL1 (a : Int) : orL [a] = a := by
 by_cases h : a = 0 <;> simp [orL, h]
theorem orL_cons (a : Int) (r : List Int) : orL (a :: r) = if a = 0 then orL r else a := rfl
/-- A result with an error: the value, or 0. -/
def okI (e v : Int) : Int := if e = 0 then v else 0
theorem ret_2i {k l : IntKind} {a b c d : Int} (h : a = b) (h' : c = d) : Ending.returned (.tuple #[.int k a, .int l c]) = .returned (.tuple #[.int k b, .int l d]) := by rw [h, h']
end Go.Proofs.YthlflljlkkkanaaGreatDoor

namespace Go.Proofs.YthlflljlkkkanaaGreatDoor
open Go.RowKit
set_option linter.unusedVariables false

theorem ownsRow_low {w : World} {base base' : Nat} {e : TypeId} {size : Nat} {v : Value} {n : Nat} {xs : List Value} (h : w.ownsRow base e size v n xs) (hb : base' ≤ base) : w.ownsRow base' e size v n xs := by
 obtain ⟨h1, h2⟩ := h
 refine ⟨h1, ?_⟩
 rcases h2 with h2 | ⟨g, cap, cur, hv, hg, r⟩
 ·exact .inl h2
 ·exact .inr ⟨g, cap, cur, hv, by omega, r⟩
theorem ownsRow_grown {w w' : World} {base : Nat} {e : TypeId} {size : Nat} {v : Value} {n : Nat} {xs : List Value} (h : w.ownsRow base e size v n xs) (hg : w.grownBy w' none) : w'.ownsRow base e size v n xs :=
 h.kept hg (by cases v.ownBlock <;> simp)
theorem ownsRow_other {w w' : World} {base b : Nat} {e : TypeId} {size : Nat} {v : Value} {n : Nat} {xs : List Value} (h : w.ownsRow base e size v n xs) (hg : w.grownBy w' (some b)) (hb : b < base) : w'.ownsRow base e size v n xs :=
 h.kept hg (by
  cases hv : v.ownBlock with
  | none => exact .inl rfl
  | some g => exact .inr (fun e => by injection e with e; have := (h.lt g hv).1; omega))
theorem ownsRow_shape {w : World} {base : Nat} {e : TypeId} {size : Nat} {v : Value} {n : Nat} {xs : List Value} (h : w.ownsRow base e size v n xs) :
 ∃ A c, v = .slice A n c ∧ n ≤ 9223372036854775807 ∧ (0 < n → ∃ g, A = some ⟨g, 0, none⟩ ∧ base ≤ g ∧ g < w.heap.size) := by
 rcases h.2 with ⟨rfl, rfl⟩ | ⟨g, cap, cur, rfl, hb, hh, hnc, hm, _⟩
 ·exact ⟨none, 0, rfl, by omega, fun h => absurd h (by omega)⟩
 ·unfold maxLen at hm
  exact ⟨_, _, rfl, by omega, fun _ => ⟨g, rfl, hb, (Array.getElem?_eq_some_iff.1 hh).1⟩⟩
/-- The numbers of a slice, that lies in a block from base on. -/
def IntsFrom (base : Nat) (w : World) (v : Value) (l : List Int) : Prop := w.ownsRow base 3 1 v l.length (l.map (Value.int .i64))
abbrev Ints (w : World) (v : Value) (l : List Int) : Prop := IntsFrom 0 w v l
theorem IntsFrom.low {base : Nat} {w : World} {v : Value} {l : List Int} (h : IntsFrom base w v l) : Ints w v l := ownsRow_low h (Nat.zero_le _)
theorem IntsFrom.grown {base : Nat} {w w' : World} {v : Value} {l : List Int} (h : IntsFrom base w v l) (hg : w.grownBy w' none) : IntsFrom base w' v l := ownsRow_grown h hg
theorem IntsFrom.other {base b : Nat} {w w' : World} {v : Value} {l : List Int} (h : IntsFrom base w v l) (hg : w.grownBy w' (some b)) (hb : b < base) : IntsFrom base w' v l := ownsRow_other h hg hb
theorem IntsFrom.nil (base : Nat) (w : World) : IntsFrom base w (.slice none 0 0) [] := World.ownsRow_nil _ _ _ _
theorem IntsFrom.shape {base : Nat} {w : World} {v : Value} {l : List Int} (h : IntsFrom base w v l) :
 ∃ A c, v = .slice A l.length c ∧ l.length ≤ 9223372036854775807 ∧ (0 < l.length → ∃ g, A = some ⟨g, 0, none⟩ ∧ base ≤ g ∧ g < w.heap.size) := ownsRow_shape h
theorem IntsFrom.at_ {base : Nat} {w : World} {g c : Nat} {l : List Int} (h : IntsFrom base w (.slice (some ⟨g, 0, none⟩) l.length c) l) (k : Nat) (hk : k < l.length) : w.cell? ⟨g, k, none⟩ = some (.int .i64 l[k]) := by
 rw [World.ownsRow.cellAt h k (by omega)]
 simp [hk]
theorem intInfo : (Tryz.prog.info? 3).map (fun i => (i.zero, i.size, i.bytes)) = some (some (.int .i64 0), 1, 8) := by kernel_rfl
theorem one_cell (w : World) (x : Int) (t : TypeId) : ∀ j u, ([Value.int .i64 x])[j]? = some u → (w.alloc (.cells #[.int .i64 x] t)).cell? ((⟨w.heap.size, 0, none⟩ : Addr).add j) = some u := by
 intro j u hu
 have hb := (Blk.new w t #[.int .i64 x]).cell j
 have hadd : (⟨w.heap.size, 0, none⟩ : Addr).add j = ⟨w.heap.size, j, none⟩ := by unfold Addr.add; split <;> simp_all
 rw [hadd, hb]
 simpa using hu
theorem one_oneCell (x : Int) : ∀ u ∈ [Value.int .i64 x], u.oneCell' = true := by
 intro u hu
 simp at hu
 subst hu
 rfl
end Go.Proofs.YthlflljlkkkanaaGreatDoor

namespace Go.Proofs
open Go.Shelf
def Tryz.lays160_ren : Go.Shelf.Ren := ⟨fun | 160 => 139 | 232 => 241 | 231 => 240 | 227 => 242 | 234 => 244 | 233 => 243 | 236 => 246 | 235 => 245 | 228 => 311 | 271 => 312 | 151 => 142 | 197 => 306 | 120 => 356 | 152 => 248 | 260 => 353 | 137 => 133 | 119 => 314 | 224 => 315 | 225 => 316 | 217 => 236 | 266 => 307 | n => n, fun | 9 => 9 | 4 => 4 | 3 => 3 | 5 => 5 | 117 => 291 | 116 => 290 | 0 => 0 | 124 => 294 | 21 => 21 | 105 => 358 | 46 => 135 | 119 => 360 | 139 => 414 | 138 => 413 | n => n, fun | 3 => 4 | 4 => 5 | n => n⟩
theorem Tryz.lays160 : Go.Proofs.Lays.n160 Tryz.prog Tryz.lays160_ren := {
 mixed := by kernel_rfl
 f119 := Tryz.func314.trans (congrArg some (by kernel_rfl))
 f120 := Tryz.func356.trans (congrArg some (by kernel_rfl))
 f137 := Tryz.func133.trans (congrArg some (by kernel_rfl))
 f151 := Tryz.func142.trans (congrArg some (by kernel_rfl))
 f152 := Tryz.func248.trans (congrArg some (by kernel_rfl))
 f160 := Tryz.func139.trans (congrArg some (by kernel_rfl))
 f197 := Tryz.func306.trans (congrArg some (by kernel_rfl))
 f217 := Tryz.func236.trans (congrArg some (by kernel_rfl))
 f224 := Tryz.func315.trans (congrArg some (by kernel_rfl))
 f225 := Tryz.func316.trans (congrArg some (by kernel_rfl))
 f227 := Tryz.func242.trans (congrArg some (by kernel_rfl))
 f228 := Tryz.func311.trans (congrArg some (by kernel_rfl))
 f231 := Tryz.func240.trans (congrArg some (by kernel_rfl))
 f232 := Tryz.func241.trans (congrArg some (by kernel_rfl))
 f233 := Tryz.func243.trans (congrArg some (by kernel_rfl))
 f234 := Tryz.func244.trans (congrArg some (by kernel_rfl))
 f235 := Tryz.func245.trans (congrArg some (by kernel_rfl))
 f236 := Tryz.func246.trans (congrArg some (by kernel_rfl))
 f260 := Tryz.func353.trans (congrArg some (by kernel_rfl))
 f266 := Tryz.func307.trans (congrArg some (by kernel_rfl))
 f271 := Tryz.func312.trans (congrArg some (by kernel_rfl))
 t0 := Tryz.underlying0
 a0 := Tryz.isAgg0
 z0 := Tryz.sizeOf0
 v0 := Tryz.zeroValue0
 t3 := Tryz.underlying3
 a3 := Tryz.isAgg3
 z3 := Tryz.sizeOf3
 v3 := Tryz.zeroValue3
 t4 := Tryz.underlying4
 a4 := Tryz.isAgg4
 z4 := Tryz.sizeOf4
 v4 := Tryz.zeroValue4
 t5 := Tryz.underlying5
 a5 := Tryz.isAgg5
 z5 := Tryz.sizeOf5
 v5 := Tryz.zeroValue5
 t9 := Tryz.underlying9
 a9 := Tryz.isAgg9
 z9 := Tryz.sizeOf9
 v9 := Tryz.zeroValue9
 t21 := Tryz.underlying21
 a21 := Tryz.isAgg21
 z21 := Tryz.sizeOf21
 v21 := Tryz.zeroValue21
 t46 := Tryz.underlying135
 a46 := Tryz.isAgg135
 z46 := Tryz.sizeOf135
 v46 := Tryz.zeroValue135
 t105 := Tryz.underlying358
 a105 := Tryz.isAgg358
 z105 := Tryz.sizeOf358
 v105 := Tryz.zeroValue358
 t116 := Tryz.underlying290
 a116 := Tryz.isAgg290
 z116 := Tryz.sizeOf290
 t117 := Tryz.underlying291
 a117 := Tryz.isAgg291
 z117 := Tryz.sizeOf291
 v117 := Tryz.zeroValue291
 t119 := Tryz.underlying360
 a119 := Tryz.isAgg360
 z119 := Tryz.sizeOf360
 t124 := Tryz.underlying294
 a124 := Tryz.isAgg294
 z124 := Tryz.sizeOf294
 v124 := Tryz.zeroValue294
 t138 := Tryz.underlying413
 a138 := Tryz.isAgg413
 z138 := Tryz.sizeOf413
 v138 := Tryz.zeroValue413
 t139 := Tryz.underlying414
 a139 := Tryz.isAgg414
 z139 := Tryz.sizeOf414
 v139 := Tryz.zeroValue414
 g3 := by kernel_rfl
 g4 := by kernel_rfl }
def Tryz.lays106_ren : Go.Shelf.Ren := ⟨fun | 106 => 156 | 213 => 256 | 265 => 329 | n => n, fun | 9 => 9 | 3 => 3 | n => n, fun | n => n⟩
theorem Tryz.lays106 : Go.Proofs.Lays.n106 Tryz.prog Tryz.lays106_ren := {
 mixed := by kernel_rfl
 f106 := Tryz.func156.trans (congrArg some (by kernel_rfl))
 f213 := Tryz.func256.trans (congrArg some (by kernel_rfl))
 f265 := Tryz.func329.trans (congrArg some (by kernel_rfl))
 t3 := Tryz.underlying3
 a3 := Tryz.isAgg3
 z3 := Tryz.sizeOf3
 v3 := Tryz.zeroValue3
 t9 := Tryz.underlying9
 a9 := Tryz.isAgg9
 z9 := Tryz.sizeOf9
 v9 := Tryz.zeroValue9 }
open Go.RowKit in
/-- strings.Compare: "Compare returns an integer comparing two strings lexicographically. The result will be 0 if a == b, -1 if a < b, and +1 if a > b.": IT RETURNS 'Lib.compareBytes a b'; the world is as it was. (LAID: no walk: one application.) -/
theorem Tryz.strings_Compare (a b : ByteArray) (w : World) :
 Calls Tryz.prog 156 #[.string a, .string b] w fun e w' => e = .returned (.int .i64 (Lib.compareBytes a.data.toList b.data.toList)) ∧ w' = w := Any.strings_Compare Tryz.lays106 a b w
def Tryz.lays137_ren : Go.Shelf.Ren := ⟨fun | 137 => 133 | 217 => 236 | 266 => 307 | n => n, fun | 9 => 9 | 5 => 5 | 3 => 3 | n => n, fun | n => n⟩
theorem Tryz.lays137 : Go.Proofs.Lays.n137 Tryz.prog Tryz.lays137_ren := {
 mixed := by kernel_rfl
 f137 := Tryz.func133.trans (congrArg some (by kernel_rfl))
 f217 := Tryz.func236.trans (congrArg some (by kernel_rfl))
 f266 := Tryz.func307.trans (congrArg some (by kernel_rfl))
 t3 := Tryz.underlying3
 a3 := Tryz.isAgg3
 z3 := Tryz.sizeOf3
 v3 := Tryz.zeroValue3
 t5 := Tryz.underlying5
 a5 := Tryz.isAgg5
 z5 := Tryz.sizeOf5
 v5 := Tryz.zeroValue5
 t9 := Tryz.underlying9
 a9 := Tryz.isAgg9
 z9 := Tryz.sizeOf9
 v9 := Tryz.zeroValue9 }
open Go.RowKit in
/-- strings.IndexByte: "IndexByte returns the index of the first instance of c in s, or -1 if c is not present in s.": IT RETURNS 'Lib.indexByte s c'; the world is as it was. (LAID: no walk: one application.) -/
theorem Tryz.strings_IndexByte (s : ByteArray) (c : Int) (w : World) :
 Calls Tryz.prog 133 #[.string s, .int .u8 c] w fun e w' => e = .returned (.int .i64 (Lib.indexByte s.data.toList c.toNat.toUInt8)) ∧ w' = w := Any.strings_IndexByte Tryz.lays137 s c w
def Tryz.lays219_ren : Go.Shelf.Ren := ⟨fun | 219 => 308 | 217 => 236 | 225 => 316 | 224 => 315 | 267 => 354 | 266 => 307 | 314 => 374 | n => n, fun | 9 => 9 | 3 => 3 | 4 => 4 | 5 => 5 | 46 => 135 | 146 => 353 | 51 => 245 | n => n, fun | 1 => 1 | n => n⟩
theorem Tryz.lays219 : Go.Proofs.Lays.n219 Tryz.prog Tryz.lays219_ren := {
 mixed := by kernel_rfl
 f217 := Tryz.func236.trans (congrArg some (by kernel_rfl))
 f219 := Tryz.func308.trans (congrArg some (by kernel_rfl))
 f224 := Tryz.func315.trans (congrArg some (by kernel_rfl))
 f225 := Tryz.func316.trans (congrArg some (by kernel_rfl))
 f266 := Tryz.func307.trans (congrArg some (by kernel_rfl))
 f267 := Tryz.func354.trans (congrArg some (by kernel_rfl))
 f314 := Tryz.func374.trans (congrArg some (by kernel_rfl))
 t3 := Tryz.underlying3
 a3 := Tryz.isAgg3
 z3 := Tryz.sizeOf3
 v3 := Tryz.zeroValue3
 t4 := Tryz.underlying4
 a4 := Tryz.isAgg4
 z4 := Tryz.sizeOf4
 v4 := Tryz.zeroValue4
 t5 := Tryz.underlying5
 a5 := Tryz.isAgg5
 z5 := Tryz.sizeOf5
 v5 := Tryz.zeroValue5
 t9 := Tryz.underlying9
 a9 := Tryz.isAgg9
 z9 := Tryz.sizeOf9
 v9 := Tryz.zeroValue9
 t46 := Tryz.underlying135
 a46 := Tryz.isAgg135
 z46 := Tryz.sizeOf135
 v46 := Tryz.zeroValue135
 t51 := Tryz.underlying245
 a51 := Tryz.isAgg245
 z51 := Tryz.sizeOf245
 v51 := Tryz.zeroValue245
 t146 := Tryz.underlying353
 a146 := Tryz.isAgg353
 z146 := Tryz.sizeOf353
 v146 := Tryz.zeroValue353
 g1 := by kernel_rfl }
open Go.RowKit Go.Lib in
/-- internal/stringslite.Index (what strings.Index calls) AT A substr OF ONE BYTE c: IT RETURNS 'Lib.indexByte s c'; the world is as it was. (LAID: no walk: one application.) -/
theorem Tryz.stringslite_Index_one (s : ByteArray) (c : UInt8) (w : World) :
 Calls Tryz.prog 308 #[.string s, .string ⟨#[c]⟩] w fun e w' => e = .returned (.int .i64 (Lib.indexByte s.data.toList c)) ∧ w' = w := Any.stringslite_Index_one Tryz.lays219 s c w
def Tryz.lays144_ren : Go.Shelf.Ren := ⟨fun | 144 => 135 | 143 => 238 | 219 => 308 | 217 => 236 | 225 => 316 | 224 => 315 | 267 => 354 | 266 => 307 | 314 => 374 | n => n, fun | 9 => 9 | 4 => 4 | 3 => 3 | 5 => 5 | 46 => 135 | 146 => 353 | 51 => 245 | n => n, fun | 1 => 1 | n => n⟩
theorem Tryz.lays144 : Go.Proofs.Lays.n144 Tryz.prog Tryz.lays144_ren := {
 mixed := by kernel_rfl
 f143 := Tryz.func238.trans (congrArg some (by kernel_rfl))
 f144 := Tryz.func135.trans (congrArg some (by kernel_rfl))
 f217 := Tryz.func236.trans (congrArg some (by kernel_rfl))
 f219 := Tryz.func308.trans (congrArg some (by kernel_rfl))
 f224 := Tryz.func315.trans (congrArg some (by kernel_rfl))
 f225 := Tryz.func316.trans (congrArg some (by kernel_rfl))
 f266 := Tryz.func307.trans (congrArg some (by kernel_rfl))
 f267 := Tryz.func354.trans (congrArg some (by kernel_rfl))
 f314 := Tryz.func374.trans (congrArg some (by kernel_rfl))
 t3 := Tryz.underlying3
 a3 := Tryz.isAgg3
 z3 := Tryz.sizeOf3
 v3 := Tryz.zeroValue3
 t4 := Tryz.underlying4
 a4 := Tryz.isAgg4
 z4 := Tryz.sizeOf4
 v4 := Tryz.zeroValue4
 t5 := Tryz.underlying5
 a5 := Tryz.isAgg5
 z5 := Tryz.sizeOf5
 v5 := Tryz.zeroValue5
 t9 := Tryz.underlying9
 a9 := Tryz.isAgg9
 z9 := Tryz.sizeOf9
 v9 := Tryz.zeroValue9
 t46 := Tryz.underlying135
 a46 := Tryz.isAgg135
 z46 := Tryz.sizeOf135
 v46 := Tryz.zeroValue135
 t51 := Tryz.underlying245
 a51 := Tryz.isAgg245
 z51 := Tryz.sizeOf245
 v51 := Tryz.zeroValue245
 t146 := Tryz.underlying353
 a146 := Tryz.isAgg353
 z146 := Tryz.sizeOf353
 v146 := Tryz.zeroValue353
 g1 := by kernel_rfl }
open Go.RowKit Go.Lib in
/-- strings.Contains: "Contains reports whether substr is within s.": AT A substr OF ONE BYTE c: IT RETURNS 'decide (0 ≤ Lib.indexByte s c)'; the world is as it was. (LAID: no walk: one application.) -/
theorem Tryz.strings_Contains_one (s : ByteArray) (c : UInt8) (w : World) :
 Calls Tryz.prog 135 #[.string s, .string ⟨#[c]⟩] w fun e w' => e = .returned (.bool (decide (0 ≤ Lib.indexByte s.data.toList c))) ∧ w' = w := Any.strings_Contains_one Tryz.lays144 s c w
def Tryz.lays189_ren : Go.Shelf.Ren := ⟨fun | 189 => 17 | 125 => 87 | 257 => 86 | 128 => 186 | 129 => 187 | 294 => 177 | 295 => 178 | 296 => 179 | 297 => 180 | 298 => 181 | 299 => 182 | 216 => 183 | 300 => 184 | 301 => 185 | 328 => 272 | 329 => 273 | 330 => 274 | 331 => 275 | 332 => 276 | 215 => 277 | 343 => 336 | n => n, fun | 28 => 22 | 3 => 3 | 46 => 135 | 0 => 0 | 51 => 245 | 53 => 247 | 4 => 4 | 183 => 238 | 182 => 237 | 131 => 184 | 5 => 5 | 9 => 9 | 218 => 330 | 222 => 334 | 228 => 374 | 229 => 375 | n => n, fun | n => n⟩
theorem Tryz.lays189 : Go.Proofs.Lays.n189 Tryz.prog Tryz.lays189_ren := {
 mixed := by kernel_rfl
 f125 := Tryz.func87.trans (congrArg some (by kernel_rfl))
 f128 := Tryz.func186.trans (congrArg some (by kernel_rfl))
 f129 := Tryz.func187.trans (congrArg some (by kernel_rfl))
 f189 := Tryz.func17.trans (congrArg some (by kernel_rfl))
 f215 := Tryz.func277.trans (congrArg some (by kernel_rfl))
 f216 := Tryz.func183.trans (congrArg some (by kernel_rfl))
 f257 := Tryz.func86.trans (congrArg some (by kernel_rfl))
 f294 := Tryz.func177.trans (congrArg some (by kernel_rfl))
 f295 := Tryz.func178.trans (congrArg some (by kernel_rfl))
 f296 := Tryz.func179.trans (congrArg some (by kernel_rfl))
 f297 := Tryz.func180.trans (congrArg some (by kernel_rfl))
 f298 := Tryz.func181.trans (congrArg some (by kernel_rfl))
 f299 := Tryz.func182.trans (congrArg some (by kernel_rfl))
 f300 := Tryz.func184.trans (congrArg some (by kernel_rfl))
 f301 := Tryz.func185.trans (congrArg some (by kernel_rfl))
 f328 := Tryz.func272.trans (congrArg some (by kernel_rfl))
 f329 := Tryz.func273.trans (congrArg some (by kernel_rfl))
 f330 := Tryz.func274.trans (congrArg some (by kernel_rfl))
 f331 := Tryz.func275.trans (congrArg some (by kernel_rfl))
 f332 := Tryz.func276.trans (congrArg some (by kernel_rfl))
 f343 := Tryz.func336.trans (congrArg some (by kernel_rfl))
 t0 := Tryz.underlying0
 a0 := Tryz.isAgg0
 z0 := Tryz.sizeOf0
 v0 := Tryz.zeroValue0
 t3 := Tryz.underlying3
 a3 := Tryz.isAgg3
 z3 := Tryz.sizeOf3
 v3 := Tryz.zeroValue3
 t4 := Tryz.underlying4
 a4 := Tryz.isAgg4
 z4 := Tryz.sizeOf4
 v4 := Tryz.zeroValue4
 t5 := Tryz.underlying5
 a5 := Tryz.isAgg5
 z5 := Tryz.sizeOf5
 v5 := Tryz.zeroValue5
 t9 := Tryz.underlying9
 a9 := Tryz.isAgg9
 z9 := Tryz.sizeOf9
 v9 := Tryz.zeroValue9
 t28 := Tryz.underlying22
 a28 := Tryz.isAgg22
 z28 := Tryz.sizeOf22
 v28 := Tryz.zeroValue22
 t46 := Tryz.underlying135
 a46 := Tryz.isAgg135
 z46 := Tryz.sizeOf135
 v46 := Tryz.zeroValue135
 t51 := Tryz.underlying245
 a51 := Tryz.isAgg245
 z51 := Tryz.sizeOf245
 v51 := Tryz.zeroValue245
 t53 := Tryz.underlying247
 a53 := Tryz.isAgg247
 z53 := Tryz.sizeOf247
 v53 := Tryz.zeroValue247
 t131 := Tryz.underlying184
 a131 := Tryz.isAgg184
 z131 := Tryz.sizeOf184
 v131 := Tryz.zeroValue184
 t182 := Tryz.underlying237
 a182 := Tryz.isAgg237
 z182 := Tryz.sizeOf237
 v182 := Tryz.zeroValue237
 t183 := Tryz.underlying238
 a183 := Tryz.isAgg238
 z183 := Tryz.sizeOf238
 v183 := Tryz.zeroValue238
 t218 := Tryz.underlying330
 a218 := Tryz.isAgg330
 z218 := Tryz.sizeOf330
 v218 := Tryz.zeroValue330
 t222 := Tryz.underlying334
 a222 := Tryz.isAgg334
 z222 := Tryz.sizeOf334
 v222 := Tryz.zeroValue334
 t228 := Tryz.underlying374
 a228 := Tryz.isAgg374
 z228 := Tryz.sizeOf374
 v228 := Tryz.zeroValue374
 t229 := Tryz.underlying375
 a229 := Tryz.isAgg375
 z229 := Tryz.sizeOf375
 v229 := Tryz.zeroValue375 }
open Go.Sort Go.RowKit in
theorem Tryz.slices_Sort_int (blk off cap : Nat) (zs : List Int) (w : World) (hH : Holds (Value.int .i64) w blk off zs.toArray) (hblk : blk < w.heap.size) (hsz : zs.length < 4611686018427387904) :
 Calls Tryz.prog 17 #[.slice (some ⟨blk, off, none⟩) zs.length cap] w fun e w' =>
  e = .returned (.tuple #[]) ∧ ∃ n os, w' = grow (putRow (Value.int .i64) (Sort.ahead w n) blk off (zs.mergeSort fun x y => decide (x ≤ y)).toArray) os := Any.slices_Sort_int Tryz.lays189 blk off cap zs w hH hblk hsz
def Tryz.lays146_ren : Go.Shelf.Ren := ⟨fun | 146 => 144 | 221 => 250 | 268 => 317 | 138 => 305 | 143 => 238 | 195 => 351 | 197 => 306 | 218 => 352 | 219 => 308 | 260 => 353 | 217 => 236 | 225 => 316 | 224 => 315 | 267 => 354 | 266 => 307 | 314 => 374 | n => n, fun | 9 => 9 | 31 => 56 | 3 => 3 | 4 => 4 | 0 => 0 | 105 => 358 | 21 => 21 | 5 => 5 | 46 => 135 | 119 => 360 | 139 => 414 | 138 => 413 | 146 => 353 | 51 => 245 | n => n, fun | 1 => 1 | 3 => 4 | 4 => 5 | n => n⟩
theorem Tryz.lays146 : Go.Proofs.Lays.n146 Tryz.prog Tryz.lays146_ren := {
 mixed := by kernel_rfl
 f138 := Tryz.func305.trans (congrArg some (by kernel_rfl))
 f143 := Tryz.func238.trans (congrArg some (by kernel_rfl))
 f146 := Tryz.func144.trans (congrArg some (by kernel_rfl))
 f195 := Tryz.func351.trans (congrArg some (by kernel_rfl))
 f197 := Tryz.func306.trans (congrArg some (by kernel_rfl))
 f217 := Tryz.func236.trans (congrArg some (by kernel_rfl))
 f218 := Tryz.func352.trans (congrArg some (by kernel_rfl))
 f219 := Tryz.func308.trans (congrArg some (by kernel_rfl))
 f221 := Tryz.func250.trans (congrArg some (by kernel_rfl))
 f224 := Tryz.func315.trans (congrArg some (by kernel_rfl))
 f225 := Tryz.func316.trans (congrArg some (by kernel_rfl))
 f260 := Tryz.func353.trans (congrArg some (by kernel_rfl))
 f266 := Tryz.func307.trans (congrArg some (by kernel_rfl))
 f267 := Tryz.func354.trans (congrArg some (by kernel_rfl))
 f268 := Tryz.func317.trans (congrArg some (by kernel_rfl))
 f314 := Tryz.func374.trans (congrArg some (by kernel_rfl))
 t0 := Tryz.underlying0
 a0 := Tryz.isAgg0
 z0 := Tryz.sizeOf0
 v0 := Tryz.zeroValue0
 t3 := Tryz.underlying3
 a3 := Tryz.isAgg3
 z3 := Tryz.sizeOf3
 v3 := Tryz.zeroValue3
 t4 := Tryz.underlying4
 a4 := Tryz.isAgg4
 z4 := Tryz.sizeOf4
 v4 := Tryz.zeroValue4
 t5 := Tryz.underlying5
 a5 := Tryz.isAgg5
 z5 := Tryz.sizeOf5
 v5 := Tryz.zeroValue5
 t9 := Tryz.underlying9
 a9 := Tryz.isAgg9
 z9 := Tryz.sizeOf9
 v9 := Tryz.zeroValue9
 t21 := Tryz.underlying21
 a21 := Tryz.isAgg21
 z21 := Tryz.sizeOf21
 v21 := Tryz.zeroValue21
 t31 := Tryz.underlying56
 a31 := Tryz.isAgg56
 z31 := Tryz.sizeOf56
 v31 := Tryz.zeroValue56
 t46 := Tryz.underlying135
 a46 := Tryz.isAgg135
 z46 := Tryz.sizeOf135
 v46 := Tryz.zeroValue135
 t51 := Tryz.underlying245
 a51 := Tryz.isAgg245
 z51 := Tryz.sizeOf245
 v51 := Tryz.zeroValue245
 t105 := Tryz.underlying358
 a105 := Tryz.isAgg358
 z105 := Tryz.sizeOf358
 v105 := Tryz.zeroValue358
 t119 := Tryz.underlying360
 a119 := Tryz.isAgg360
 z119 := Tryz.sizeOf360
 t138 := Tryz.underlying413
 a138 := Tryz.isAgg413
 z138 := Tryz.sizeOf413
 v138 := Tryz.zeroValue413
 t139 := Tryz.underlying414
 a139 := Tryz.isAgg414
 z139 := Tryz.sizeOf414
 v139 := Tryz.zeroValue414
 t146 := Tryz.underlying353
 a146 := Tryz.isAgg353
 z146 := Tryz.sizeOf353
 v146 := Tryz.zeroValue353
 g1 := by kernel_rfl
 g3 := by kernel_rfl
 g4 := by kernel_rfl }
open Go.RowKit Go.Lib in
/-- strings.Split. (LAID: no walk: one application.) -/
theorem Tryz.strings_Split (s sep : ByteArray) (m : Int) (w : World) (hs : s.size < 4294967281) (hm : w.cell? ⟨1, 0, none⟩ = some (.int .i64 m)) (h1 : 1 ≤ sep.size) :
 Calls Tryz.prog 144 #[.string s, .string sep] w fun e w' =>
  e = .returned (.slice (some ⟨w.heap.size, 0, none⟩) (Lib.countB s sep + 1) (Lib.countB s sep + 1)) ∧ w' = w.alloc (.cells ((Lib.splitB sep 0 (Lib.countB s sep) s).map Value.string).toArray 9) := Any.strings_Split Tryz.lays146 (by kernel_rfl) s sep m w hs hm h1
def Tryz.lays157_ren : Go.Shelf.Ren := ⟨fun | 157 => 239 | 229 => 309 | 199 => 310 | 261 => 355 | 311 => 375 | 312 => 376 | n => n, fun | 9 => 9 | 31 => 56 | 3 => 3 | 5 => 5 | 4 => 4 | 119 => 360 | 0 => 0 | 40 => 202 | 152 => 389 | 21 => 21 | 154 => 391 | 51 => 245 | 141 => 393 | 196 => 419 | 193 => 416 | 198 => 422 | 49 => 420 | 194 => 417 | 201 => 425 | 226 => 442 | 46 => 135 | 227 => 443 | n => n, fun | 0 => 0 | 6 => 2 | n => n⟩
theorem Tryz.lays157 : Go.Proofs.Lays.n157 Tryz.prog Tryz.lays157_ren := {
 mixed := by kernel_rfl
 f157 := Tryz.func239.trans (congrArg some (by kernel_rfl))
 f199 := Tryz.func310.trans (congrArg some (by kernel_rfl))
 f229 := Tryz.func309.trans (congrArg some (by kernel_rfl))
 f261 := Tryz.func355.trans (congrArg some (by kernel_rfl))
 f311 := Tryz.func375.trans (congrArg some (by kernel_rfl))
 f312 := Tryz.func376.trans (congrArg some (by kernel_rfl))
 t0 := Tryz.underlying0
 a0 := Tryz.isAgg0
 z0 := Tryz.sizeOf0
 v0 := Tryz.zeroValue0
 t3 := Tryz.underlying3
 a3 := Tryz.isAgg3
 z3 := Tryz.sizeOf3
 v3 := Tryz.zeroValue3
 t4 := Tryz.underlying4
 a4 := Tryz.isAgg4
 z4 := Tryz.sizeOf4
 v4 := Tryz.zeroValue4
 t5 := Tryz.underlying5
 a5 := Tryz.isAgg5
 z5 := Tryz.sizeOf5
 v5 := Tryz.zeroValue5
 t9 := Tryz.underlying9
 a9 := Tryz.isAgg9
 z9 := Tryz.sizeOf9
 v9 := Tryz.zeroValue9
 t21 := Tryz.underlying21
 a21 := Tryz.isAgg21
 z21 := Tryz.sizeOf21
 v21 := Tryz.zeroValue21
 t31 := Tryz.underlying56
 a31 := Tryz.isAgg56
 z31 := Tryz.sizeOf56
 v31 := Tryz.zeroValue56
 t40 := Tryz.underlying202
 a40 := Tryz.isAgg202
 z40 := Tryz.sizeOf202
 v40 := Tryz.zeroValue202
 t46 := Tryz.underlying135
 a46 := Tryz.isAgg135
 z46 := Tryz.sizeOf135
 v46 := Tryz.zeroValue135
 t49 := Tryz.underlying420
 a49 := Tryz.isAgg420
 z49 := Tryz.sizeOf420
 v49 := Tryz.zeroValue420
 t51 := Tryz.underlying245
 a51 := Tryz.isAgg245
 z51 := Tryz.sizeOf245
 v51 := Tryz.zeroValue245
 t119 := Tryz.underlying360
 a119 := Tryz.isAgg360
 z119 := Tryz.sizeOf360
 t141 := Tryz.underlying393
 a141 := Tryz.isAgg393
 z141 := Tryz.sizeOf393
 v141 := Tryz.zeroValue393
 t152 := Tryz.underlying389
 a152 := Tryz.isAgg389
 z152 := Tryz.sizeOf389
 v152 := Tryz.zeroValue389
 t154 := Tryz.underlying391
 a154 := Tryz.isAgg391
 z154 := Tryz.sizeOf391
 v154 := Tryz.zeroValue391
 t193 := Tryz.underlying416
 a193 := Tryz.isAgg416
 z193 := Tryz.sizeOf416
 v193 := Tryz.zeroValue416
 t194 := Tryz.underlying417
 a194 := Tryz.isAgg417
 z194 := Tryz.sizeOf417
 v194 := Tryz.zeroValue417
 t196 := Tryz.underlying419
 a196 := Tryz.isAgg419
 z196 := Tryz.sizeOf419
 v196 := Tryz.zeroValue419
 t198 := Tryz.underlying422
 a198 := Tryz.isAgg422
 z198 := Tryz.sizeOf422
 v198 := Tryz.zeroValue422
 t201 := Tryz.underlying425
 a201 := Tryz.isAgg425
 z201 := Tryz.sizeOf425
 v201 := Tryz.zeroValue425
 t226 := Tryz.underlying442
 a226 := Tryz.isAgg442
 z226 := Tryz.sizeOf442
 v226 := Tryz.zeroValue442
 t227 := Tryz.underlying443
 a227 := Tryz.isAgg443
 z227 := Tryz.sizeOf443
 v227 := Tryz.zeroValue443
 g0 := by kernel_rfl
 g6 := by kernel_rfl }
open Go.RowKit Go.Lib in
/-- strings.Fields, the table by 'Lib.TabIs' (as strings.TrimSpace's contract). 'hg': the table's number, by its name: at a dump 'by kernel_rfl'. (LAID: no walk: one application.) -/
theorem Tryz.strings_Fields (s : ByteArray) (w : World) (hs : s.size < 4294967281) (hascii : ∀ (j : Nat) b, s.data.toList[j]? = some b → b.toNat < 128) (htab : Lib.TabIs Tryz.prog w "strings.asciiSpace" .u8 Lib.asciiSpaceTab) :
 Calls Tryz.prog 239 #[.string s] w fun e w' =>
  e = .returned (.slice (some ⟨w.heap.size, 0, none⟩) (Lib.fields s.data.toList).length (Lib.fields s.data.toList).length) ∧ w' = w.alloc (.cells ((Lib.fields s.data.toList).map fun l => Value.string ⟨l.toArray⟩).toArray 9) := Any.strings_Fields Tryz.lays157 (by kernel_rfl) (by kernel_rfl) s w hs hascii htab
def Tryz.lays152_ren : Go.Shelf.Ren := ⟨fun | 152 => 248 | 137 => 133 | 119 => 314 | 224 => 315 | 225 => 316 | 217 => 236 | 266 => 307 | n => n, fun | 9 => 9 | 21 => 21 | 3 => 3 | 4 => 4 | 5 => 5 | 0 => 0 | 46 => 135 | n => n, fun | n => n⟩
theorem Tryz.lays152 : Go.Proofs.Lays.n152 Tryz.prog Tryz.lays152_ren := {
 mixed := by kernel_rfl
 f119 := Tryz.func314.trans (congrArg some (by kernel_rfl))
 f137 := Tryz.func133.trans (congrArg some (by kernel_rfl))
 f152 := Tryz.func248.trans (congrArg some (by kernel_rfl))
 f217 := Tryz.func236.trans (congrArg some (by kernel_rfl))
 f224 := Tryz.func315.trans (congrArg some (by kernel_rfl))
 f225 := Tryz.func316.trans (congrArg some (by kernel_rfl))
 f266 := Tryz.func307.trans (congrArg some (by kernel_rfl))
 t0 := Tryz.underlying0
 a0 := Tryz.isAgg0
 z0 := Tryz.sizeOf0
 v0 := Tryz.zeroValue0
 t3 := Tryz.underlying3
 a3 := Tryz.isAgg3
 z3 := Tryz.sizeOf3
 v3 := Tryz.zeroValue3
 t4 := Tryz.underlying4
 a4 := Tryz.isAgg4
 z4 := Tryz.sizeOf4
 v4 := Tryz.zeroValue4
 t5 := Tryz.underlying5
 a5 := Tryz.isAgg5
 z5 := Tryz.sizeOf5
 v5 := Tryz.zeroValue5
 t9 := Tryz.underlying9
 a9 := Tryz.isAgg9
 z9 := Tryz.sizeOf9
 v9 := Tryz.zeroValue9
 t21 := Tryz.underlying21
 a21 := Tryz.isAgg21
 z21 := Tryz.sizeOf21
 v21 := Tryz.zeroValue21
 t46 := Tryz.underlying135
 a46 := Tryz.isAgg135
 z46 := Tryz.sizeOf135
 v46 := Tryz.zeroValue135 }
open Go.RowKit Go.Lib in
theorem Tryz.strings_IndexRune_ascii (s : ByteArray) (r : Int) (w : World) (h0 : 0 ≤ r) (h1 : r < 128) :
 Calls Tryz.prog 248 #[.string s, .int .i32 r] w fun e w' => e = .returned (.int .i64 (Lib.indexByte s.data.toList r.toNat.toUInt8)) ∧ w' = w := Any.strings_IndexRune_ascii Tryz.lays152 s r w h0 h1
def Tryz.lays226_ren : Go.Shelf.Ren := ⟨fun | 226 => 369 | n => n, fun | 3 => 3 | 4 => 4 | n => n, fun | n => n⟩
theorem Tryz.lays226 : Go.Proofs.Lays.n226 Tryz.prog Tryz.lays226_ren := {
 mixed := by kernel_rfl
 f226 := Tryz.func369.trans (congrArg some (by kernel_rfl))
 t3 := Tryz.underlying3
 a3 := Tryz.isAgg3
 z3 := Tryz.sizeOf3
 v3 := Tryz.zeroValue3
 t4 := Tryz.underlying4
 a4 := Tryz.isAgg4
 z4 := Tryz.sizeOf4
 v4 := Tryz.zeroValue4 }
open Go.RowKit Go.Lib in
theorem Tryz.strings_shouldUseASCIISet (n : Int) (w : World) :
 Calls Tryz.prog 369 #[.int .i64 n] w fun e w' => e = .returned (.bool (decide (8 < n))) ∧ w' = w := Any.strings_shouldUseASCIISet Tryz.lays226 n w
def Tryz.lays227_ren : Go.Shelf.Ren := ⟨fun | 227 => 242 | n => n, fun | 9 => 9 | 116 => 290 | 4 => 4 | 0 => 0 | 3 => 3 | 5 => 5 | n => n, fun | n => n⟩
theorem Tryz.lays227 : Go.Proofs.Lays.n227 Tryz.prog Tryz.lays227_ren := {
 mixed := by kernel_rfl
 f227 := Tryz.func242.trans (congrArg some (by kernel_rfl))
 t0 := Tryz.underlying0
 a0 := Tryz.isAgg0
 z0 := Tryz.sizeOf0
 v0 := Tryz.zeroValue0
 t3 := Tryz.underlying3
 a3 := Tryz.isAgg3
 z3 := Tryz.sizeOf3
 v3 := Tryz.zeroValue3
 t4 := Tryz.underlying4
 a4 := Tryz.isAgg4
 z4 := Tryz.sizeOf4
 v4 := Tryz.zeroValue4
 t5 := Tryz.underlying5
 a5 := Tryz.isAgg5
 z5 := Tryz.sizeOf5
 v5 := Tryz.zeroValue5
 t9 := Tryz.underlying9
 a9 := Tryz.isAgg9
 z9 := Tryz.sizeOf9
 v9 := Tryz.zeroValue9
 t116 := Tryz.underlying290
 a116 := Tryz.isAgg290
 z116 := Tryz.sizeOf290 }
open Go.RowKit Go.Lib in
theorem Tryz.strings_makeASCIISet (hv116 : ∀ w, (zeroValue 290).run Tryz.prog w = .ok (.agg (Array.replicate 256 (.bool false))) w) (chars : ByteArray) (w : World) (hs : chars.size < 4294967281) (hascii : ∀ (j : Nat) b, chars.data.toList[j]? = some b → b.toNat < 128) :
 Calls Tryz.prog 242 #[.string chars] w fun e w' => e = .returned (.tuple #[.agg (Lib.setCells chars.data.toList), .bool true]) ∧ w' = w.alloc (.cells (Lib.setCells chars.data.toList) 290) := Any.strings_makeASCIISet Tryz.lays227 hv116 (by kernel_rfl) chars w hs hascii
def Tryz.lays228_ren : Go.Shelf.Ren := ⟨fun | 228 => 311 | n => n, fun | 124 => 294 | 5 => 5 | 4 => 4 | 0 => 0 | 116 => 290 | n => n, fun | n => n⟩
theorem Tryz.lays228 : Go.Proofs.Lays.n228 Tryz.prog Tryz.lays228_ren := {
 mixed := by kernel_rfl
 f228 := Tryz.func311.trans (congrArg some (by kernel_rfl))
 t0 := Tryz.underlying0
 a0 := Tryz.isAgg0
 z0 := Tryz.sizeOf0
 v0 := Tryz.zeroValue0
 t4 := Tryz.underlying4
 a4 := Tryz.isAgg4
 z4 := Tryz.sizeOf4
 v4 := Tryz.zeroValue4
 t5 := Tryz.underlying5
 a5 := Tryz.isAgg5
 z5 := Tryz.sizeOf5
 v5 := Tryz.zeroValue5
 t116 := Tryz.underlying290
 a116 := Tryz.isAgg290
 z116 := Tryz.sizeOf290
 t124 := Tryz.underlying294
 a124 := Tryz.isAgg294
 z124 := Tryz.sizeOf294
 v124 := Tryz.zeroValue294 }
open Go.RowKit Go.Lib in
/-- '(as *asciiSet) contains(c)': 'as[c]': the set lies at block b, whole. (LAID: no walk: one application.) -/
theorem Tryz.asciiSet_contains (b : Nat) (x : UInt8) (v : Bool) (w : World) (hc : w.cell? ⟨b, x.toNat, none⟩ = some (.bool v)) :
 Calls Tryz.prog 311 #[.pointer (some ⟨b, 0, none⟩), .int .u8 x.toNat] w fun e w' => e = .returned (.bool v) ∧ w' = w := Any.asciiSet_contains Tryz.lays228 b x v w hc
def Tryz.lays150_ren : Go.Shelf.Ren := ⟨fun | 150 => 331 | 153 => 366 | 152 => 248 | 226 => 369 | 227 => 242 | 228 => 311 | 137 => 133 | 119 => 314 | 224 => 315 | 225 => 316 | 217 => 236 | 266 => 307 | n => n, fun | 9 => 9 | 4 => 4 | 3 => 3 | 5 => 5 | 21 => 21 | 117 => 291 | 116 => 290 | 0 => 0 | 46 => 135 | 124 => 294 | n => n, fun | n => n⟩
theorem Tryz.lays150 : Go.Proofs.Lays.n150 Tryz.prog Tryz.lays150_ren := {
 mixed := by kernel_rfl
 f119 := Tryz.func314.trans (congrArg some (by kernel_rfl))
 f137 := Tryz.func133.trans (congrArg some (by kernel_rfl))
 f150 := Tryz.func331.trans (congrArg some (by kernel_rfl))
 f152 := Tryz.func248.trans (congrArg some (by kernel_rfl))
 f153 := Tryz.func366.trans (congrArg some (by kernel_rfl))
 f217 := Tryz.func236.trans (congrArg some (by kernel_rfl))
 f224 := Tryz.func315.trans (congrArg some (by kernel_rfl))
 f225 := Tryz.func316.trans (congrArg some (by kernel_rfl))
 f226 := Tryz.func369.trans (congrArg some (by kernel_rfl))
 f227 := Tryz.func242.trans (congrArg some (by kernel_rfl))
 f228 := Tryz.func311.trans (congrArg some (by kernel_rfl))
 f266 := Tryz.func307.trans (congrArg some (by kernel_rfl))
 t0 := Tryz.underlying0
 a0 := Tryz.isAgg0
 z0 := Tryz.sizeOf0
 v0 := Tryz.zeroValue0
 t3 := Tryz.underlying3
 a3 := Tryz.isAgg3
 z3 := Tryz.sizeOf3
 v3 := Tryz.zeroValue3
 t4 := Tryz.underlying4
 a4 := Tryz.isAgg4
 z4 := Tryz.sizeOf4
 v4 := Tryz.zeroValue4
 t5 := Tryz.underlying5
 a5 := Tryz.isAgg5
 z5 := Tryz.sizeOf5
 v5 := Tryz.zeroValue5
 t9 := Tryz.underlying9
 a9 := Tryz.isAgg9
 z9 := Tryz.sizeOf9
 v9 := Tryz.zeroValue9
 t21 := Tryz.underlying21
 a21 := Tryz.isAgg21
 z21 := Tryz.sizeOf21
 v21 := Tryz.zeroValue21
 t46 := Tryz.underlying135
 a46 := Tryz.isAgg135
 z46 := Tryz.sizeOf135
 v46 := Tryz.zeroValue135
 t116 := Tryz.underlying290
 a116 := Tryz.isAgg290
 z116 := Tryz.sizeOf290
 t117 := Tryz.underlying291
 a117 := Tryz.isAgg291
 z117 := Tryz.sizeOf291
 v117 := Tryz.zeroValue291
 t124 := Tryz.underlying294
 a124 := Tryz.isAgg294
 z124 := Tryz.sizeOf294
 v124 := Tryz.zeroValue294 }
open Go.RowKit Go.Lib in
theorem Tryz.strings_ContainsAny_laid (s chars : ByteArray) (w : World) (hs : s.size < 4294967281) (hcs : chars.size < 4294967281) (has : ∀ (j : Nat) b, s.data.toList[j]? = some b → b.toNat < 128) (hac : ∀ (j : Nat) b, chars.data.toList[j]? = some b → b.toNat < 128) :
 Calls Tryz.prog 331 #[.string s, .string chars] w fun e w' => e = .returned (.bool (Lib.containsAny s.data.toList chars.data.toList)) ∧ Below w.heap.size w w' := Any.strings_ContainsAny_laid Tryz.lays150 (by kernel_rfl) s chars w hs hcs has hac
def Tryz.laysNm225_ren : Go.Shelf.Ren := ⟨fun | 25 => 278 | 31 => 183 | 32 => 337 | 37 => 277 | n => n, fun | 22 => 22 | 3 => 3 | 4 => 4 | 40 => 135 | 0 => 0 | n => n, fun | n => n⟩
theorem Tryz.laysNm225 : Go.Proofs.Lays2.n25 Tryz.prog Tryz.laysNm225_ren := {
 mixed := by kernel_rfl
 f25 := Tryz.func278.trans (congrArg some (by kernel_rfl))
 f31 := Tryz.func183.trans (congrArg some (by kernel_rfl))
 f32 := Tryz.func337.trans (congrArg some (by kernel_rfl))
 f37 := Tryz.func277.trans (congrArg some (by kernel_rfl))
 t0 := Tryz.underlying0
 a0 := Tryz.isAgg0
 z0 := Tryz.sizeOf0
 v0 := Tryz.zeroValue0
 t3 := Tryz.underlying3
 a3 := Tryz.isAgg3
 z3 := Tryz.sizeOf3
 v3 := Tryz.zeroValue3
 t4 := Tryz.underlying4
 a4 := Tryz.isAgg4
 z4 := Tryz.sizeOf4
 v4 := Tryz.zeroValue4
 t22 := Tryz.underlying22
 a22 := Tryz.isAgg22
 z22 := Tryz.sizeOf22
 v22 := Tryz.zeroValue22
 t40 := Tryz.underlying135
 a40 := Tryz.isAgg135
 z40 := Tryz.sizeOf135
 v40 := Tryz.zeroValue135 }
open Go.RowKit Go.Lib in
/-- slices.BinarySearch at []int: "BinarySearch searches for target in a sorted slice and returns the earliest position where target is found, or the position where target would appear in the sort order; it also returns a bool saying whether the target is really found in the slice. The slice must be sorted in increasing order.": OF A SORTED SLICE IT RETURNS how many elements are less than the target, and whether the target is among the elements; the world is as it was but for the count of draws. 'zs': what the cells behind the slice's address hold; 'zs.take n': its elements. (Of a slice that is not sorted: no contract here.) (LAID: no walk: one application.) -/
theorem Tryz.slices_BinarySearch_int (b off n c : Nat) (zs : List Int) (x : Int) (w : World) (hz : n ≤ zs.length) (hbig : n < 4611686018427387904) (hc : ∀ j, j < zs.length → w.cell? ⟨b, off + j, none⟩ = some (.int .i64 (zs.getD j 0))) (hs : (zs.take n).Pairwise (· ≤ ·)) :
 Calls Tryz.prog 278 #[.slice (some ⟨b, off, none⟩) n c, .int .i64 x] w fun e w' => e = .returned (.tuple #[.int .i64 ((zs.take n).countP (· < x) : Nat), .bool ((zs.take n).contains x)]) ∧ ∃ q, w' = w.drewN q := Any.slices_BinarySearch_int Tryz.laysNm225 b off n c zs x w hz hbig hc hs
open Go.RowKit Go.Sort in
/-- .. and plain. (LAID: no walk: one application.) -/
theorem Tryz.slices_Sort_int_none (p : Option Addr) (cap : Nat) (w : World) :
 Calls Tryz.prog 17 #[.slice p 0 cap] w fun e w' => e = .returned (.tuple #[]) ∧ w' = w := Any.slices_Sort_int_none Tryz.lays189 p cap w
open Go.RowKit Go.Lib in
/-- slices.BinarySearch at []int of no element: position 0, not found; the world is as it was. (LAID: no walk: one application.) -/
theorem Tryz.slices_BinarySearch_int_empty (a : Option Addr) (c : Nat) (x : Int) (w : World) :
 Calls Tryz.prog 278 #[.slice a 0 c, .int .i64 x] w fun e w' => e = .returned (.tuple #[.int .i64 0, .bool false]) ∧ w' = w := Any.slices_BinarySearch_int_empty Tryz.laysNm225 a c x w
end Go.Proofs

namespace Go.Proofs.YthlflljlkkkanaaGreatDoor
set_option linter.unusedVariables false

def hasB (a zt x : Int) : Bool := decide (a ≤ x ∧ x < zt)
def timeB (a zt : Int) : Bool := decide (0 ≤ a ∧ a < zt ∧ zt ≤ 345686400000)
def timeE (a zt : Int) : Int := if timeB a zt then 0 else 1
def scanT (a zt : Int) : Option Int → List Int → Int
 | _, [] => 0
 | p, x :: r => if hasB a zt x = false then 1 else if p.any (fun y => decide (x < y)) then 7 else scanT a zt (some x) r
def timesE (l : List Int) (a zt : Int) : Int := if timeB a zt = false then 1 else if 2000 < l.length then 2 else scanT a zt none l
theorem scanT_ok (a zt : Int) : ∀ (p : Option Int) (l : List Int), scanT a zt p l = 0 → l.Pairwise (· ≤ ·) ∧ (∀ x ∈ l, a ≤ x ∧ x < zt) ∧ ∀ y, p = some y → ∀ x ∈ l, y ≤ x
 | p, [], _ => ⟨List.Pairwise.nil, by simp, by simp⟩
 | p, x :: r, h => by
   unfold scanT at h
   split at h
   ·omega
   ·split at h
    ·omega
    ·rename_i h1 h2
     have ih := scanT_ok a zt (some x) r h
     have hx : a ≤ x ∧ x < zt := by simpa [hasB] using h1
     refine ⟨List.pairwise_cons.2 ⟨fun y hy => ih.2.2 x rfl y hy, ih.1⟩, ?_, ?_⟩
     ·intro y hy
      rcases List.mem_cons.1 hy with rfl | hy
      ·exact hx
      ·exact ih.2.1 y hy
     ·intro y hy z hz
      subst hy
      have hyx : y ≤ x := by simpa using h2
      rcases List.mem_cons.1 hz with rfl | hz
      ·exact hyx
      ·exact Int.le_trans hyx (ih.2.2 x rfl z hz)
/-- What is known of times without error. -/
structure TimesOk (l : List Int) (a zt : Int) : Prop where
 a0 : 0 ≤ a
 ato : a < zt
 to_ : zt ≤ 345686400000
 len : l.length ≤ 2000
 sorted : l.Pairwise (· ≤ ·)
 mem : ∀ x ∈ l, a ≤ x ∧ x < zt
theorem timesE_ok {l : List Int} {a zt : Int} (h : timesE l a zt = 0) : TimesOk l a zt := by
 unfold timesE at h
 split at h
 ·omega
 ·split at h
  ·omega
  ·rename_i h1 h2
   have h3 : 0 ≤ a ∧ a < zt ∧ zt ≤ 345686400000 := by simpa [timeB] using h1
   have := scanT_ok a zt none l h
   exact ⟨h3.1, h3.2.1, h3.2.2, by omega, this.1, this.2.1⟩
def cntLt (l : List Int) (x : Int) : Int := (l.countP (fun y => decide (y < x)) : Nat)
def manyI (l : List Int) (a zt : Int) : Int := (l.countP (fun x => hasB a zt x) : Nat)
def inI (l : List Int) (a zt : Int) : Int := max 0 (cntLt l zt - cntLt l a)
theorem cntLt_bd (l : List Int) (x : Int) : 0 ≤ cntLt l x ∧ cntLt l x ≤ l.length := by
 unfold cntLt
 have := List.countP_le_length (p := fun y => decide (y < x)) (l := l)
 omega
theorem manyI_bd (l : List Int) (a zt : Int) : 0 ≤ manyI l a zt ∧ manyI l a zt ≤ l.length := by
 unfold manyI
 have := List.countP_le_length (p := fun x => hasB a zt x) (l := l)
 omega
theorem cnt_diff (l : List Int) (a zt : Int) (h : a ≤ zt) : cntLt l zt - cntLt l a = manyI l a zt := by
 unfold cntLt manyI
 induction l with
 | nil => rfl
 | cons x r ih =>
   simp only [List.countP_cons, hasB, decide_eq_true_eq] at ih ⊢
   by_cases h1 : x < zt <;> by_cases h2 : x < a <;> by_cases h3 : a ≤ x <;> simp [h1, h2, h3] at ih ⊢ <;> omega
theorem cnt_mono (l : List Int) (a zt : Int) (h : zt ≤ a) : cntLt l zt ≤ cntLt l a := by
 unfold cntLt
 have := List.countP_mono_left (l := l) (p := fun y => decide (y < zt)) (q := fun y => decide (y < a)) (fun x _ hx => by simp at hx ⊢; omega)
 omega
theorem cnt_none (l : List Int) (a zt : Int) (h : zt < a) : manyI l a zt = 0 ∧ cntLt l zt ≤ cntLt l a := by
 refine ⟨?_, cnt_mono l a zt (by omega)⟩
 unfold manyI
 have : l.countP (fun x => hasB a zt x) = 0 := List.countP_eq_zero.2 (fun x _ => by unfold hasB; simp; omega)
 omega
theorem inI_many (l : List Int) (a zt : Int) : inI l a zt = manyI l a zt := by
 unfold inI
 have hb := manyI_bd l a zt
 by_cases h : a ≤ zt
 ·rw [cnt_diff l a zt h]; omega
 ·have := cnt_none l a zt (by omega); omega
/-- The best stretch: the first of those with the most. -/
def bestStep (l : List Int) (long : Int) (st : Int × Int) (x : Int) : Int × Int := if st.2 < manyI l x (x + long) then (x, manyI l x (x + long)) else st
def bestI (l : List Int) (a long : Int) : Int × Int := l.foldl (bestStep l long) (a, manyI l a (a + long))
/-- Hours. -/
def hoursI (a zt : Int) : Int := (zt - a + 3600000 - 1) / 3600000
def hourL (l : List Int) (zt : Int) : Nat → Int → List Int
 | 0, _ => []
 | n + 1, f => manyI l f (min (f + 3600000) zt) :: hourL l zt n (f + 3600000)
def hourAll (l : List Int) (a zt : Int) : List Int := hourL l zt (hoursI a zt).toNat a
end Go.Proofs.YthlflljlkkkanaaGreatDoor

namespace Go.Proofs.YthlflljlkkkanaaGreatDoor
open Go.RowKit
set_option linter.unusedVariables false

theorem timeB_yes {a zt : Int} (h : 0 ≤ a ∧ a < zt ∧ zt ≤ 345686400000) : timeB a zt = true := by unfold timeB; simpa using h
theorem timeB_no {a zt : Int} (h : ¬ (0 ≤ a ∧ a < zt ∧ zt ≤ 345686400000)) : timeB a zt = false := by unfold timeB; simpa using h
set_option maxHeartbeats 400000 in
theorem isTime_any (a zt : Int) (w : World) (hto : -1152921504606846976 ≤ zt) (hto2 : zt ≤ 1152921504606846976) :
 Calls Tryz.prog 188 #[.agg #[.int .i64 a, .int .i64 zt]] w fun r w' => r = .returned (.bool (timeB a zt)) ∧ w.grownBy w' none := by
 by_cases h1 : 0 ≤ a ∧ a ≤ zt - 1
 ·have hb : outB a 0 (zt - 1) = false := outB_no h1.1 h1.2
  have HE : Hid (timeB a zt = decide (zt ≤ 345686400000)) := by
   show _ = _
   unfold timeB
   by_cases h : zt ≤ 345686400000 <;> simp [h] <;> omega
  go_enter Tryz.func188, Tryz.ntmps188
  go_wp2_with fail
  refine (outside_any _ _ _ _).mono ?_
  rintro r w' ⟨rfl, rfl⟩
  go_wp2_with fail
  go_ret
  exact ⟨ret_b HE.out.symm, gr_alloc (gr_refl _ _) _⟩
 ·have hb : outB a 0 (zt - 1) = true := outB_yes (by omega)
  have HE := Lib.hid (timeB_no (a := a) (zt := zt) (by omega))
  go_enter Tryz.func188, Tryz.ntmps188
  go_wp2_with fail
  refine (outside_any _ _ _ _).mono ?_
  rintro r w' ⟨rfl, rfl⟩
  go_wp2_with fail
  go_ret
  exact ⟨ret_b HE.out.symm, gr_alloc (gr_refl _ _) _⟩
set_option maxHeartbeats 400000 in
theorem timeFault_any (a zt : Int) (w : World) :
 Calls Tryz.prog 75 #[.agg #[.int .i64 a, .int .i64 zt]] w fun r w' => r = .returned (.int .i64 (timeE a zt)) ∧ w.grownBy w' none := by
 by_cases k1 : a < 0
 ·have HE : Hid (timeE a zt = 1) := by show _ = _; unfold timeE; rw [timeB_no (by omega)]; rfl
  go_enter Tryz.func75, Tryz.ntmps75
  go_wp2_with fail
  go_ret
  exact ⟨ret_of HE.out.symm, gr_alloc (gr_refl _ _) _⟩
 by_cases k2 : zt ≤ a
 ·have HE : Hid (timeE a zt = 1) := by show _ = _; unfold timeE; rw [timeB_no (by omega)]; rfl
  go_enter Tryz.func75, Tryz.ntmps75
  go_wp2_with fail
  go_ret
  exact ⟨ret_of HE.out.symm, gr_alloc (gr_refl _ _) _⟩
 by_cases k3 : 345686400000 < zt
 ·have HE : Hid (timeE a zt = 1) := by show _ = _; unfold timeE; rw [timeB_no (by omega)]; rfl
  go_enter Tryz.func75, Tryz.ntmps75
  go_wp2_with fail
  go_ret
  exact ⟨ret_of HE.out.symm, gr_alloc (gr_refl _ _) _⟩
 ·have HE : Hid (timeE a zt = 0) := by show _ = _; unfold timeE; rw [timeB_yes (by omega)]; rfl
  go_enter Tryz.func75, Tryz.ntmps75
  go_wp2_with fail
  go_ret
  exact ⟨ret_of HE.out.symm, gr_alloc (gr_refl _ _) _⟩
theorem hasB_of {a zt x : Int} (h : a ≤ x) : hasB a zt x = decide (x < zt) := by unfold hasB; simp [h]
theorem hasB_no {a zt x : Int} (h : ¬ a ≤ x) : hasB a zt x = false := by unfold hasB; simp [h]
set_option maxHeartbeats 400000 in
theorem has_any (a zt x : Int) (w : World) :
 Calls Tryz.prog 84 #[.agg #[.int .i64 a, .int .i64 zt], .int .i64 x] w fun r w' => r = .returned (.bool (hasB a zt x)) ∧ w.grownBy w' none := by
 by_cases k1 : a ≤ x
 ·have HE := Lib.hid (hasB_of (zt := zt) k1)
  go_enter Tryz.func84, Tryz.ntmps84
  go_wp2_with fail
  go_ret
  exact ⟨ret_b HE.out.symm, gr_alloc (gr_refl _ _) _⟩
 ·have HE := Lib.hid (hasB_no (zt := zt) k1)
  go_enter Tryz.func84, Tryz.ntmps84
  go_wp2_with fail
  go_ret
  exact ⟨ret_b HE.out.symm, gr_alloc (gr_refl _ _) _⟩
def truthI (b : Bool) : Int := if b then 1 else 0
set_option maxHeartbeats 400000 in
theorem truth_any (b : Bool) (w : World) :
 Calls Tryz.prog 251 #[.bool b] w fun r w' => r = .returned (.int .i64 (truthI b)) ∧ w = w' := by
 cases b
 all_goals
  go_enter Tryz.func251, Tryz.ntmps251
  go_wp2_with fail
  go_ret
  exact ⟨rfl, rfl⟩
/-- The element before place k. -/
def prevI (l : List Int) (k : Nat) : Option Int := if k = 0 then none else l[k - 1]?
theorem prevI_succ (l : List Int) (k : Nat) (h : k < l.length) : prevI l (k + 1) = some l[k] := by unfold prevI; simp [h]
theorem prevI_pos (l : List Int) (k : Nat) (h0 : 0 < k) (h : k < l.length) : prevI l k = some (l[k - 1]'(by omega)) := by
 unfold prevI; rw [if_neg (by omega)]; exact List.getElem?_eq_getElem (by omega)
theorem scanT_bad {a zt x : Int} {p : Option Int} {r : List Int} (h : hasB a zt x = false) : scanT a zt p (x :: r) = 1 := by simp [scanT, h]
theorem scanT_order {a zt x y : Int} {r : List Int} (h : hasB a zt x = true) (hxy : x < y) : scanT a zt (some y) (x :: r) = 7 := by simp [scanT, h, hxy]
theorem scanT_next {a zt x : Int} {p : Option Int} {r : List Int} (h : hasB a zt x = true) (hp : ∀ y, p = some y → ¬ x < y) : scanT a zt p (x :: r) = scanT a zt (some x) r := by
 cases p with
 | none => simp [scanT, h]
 | some y => have := hp y rfl; simp [scanT, h]; omega
set_option maxHeartbeats 2000000 in
theorem checkTimes_any (base : Nat) (v : Value) (l : List Int) (a zt : Int) (w : World) (hl : IntsFrom base w v l) (hto : -1152921504606846976 ≤ zt) (hto2 : zt ≤ 1152921504606846976) :
 Calls Tryz.prog 88 #[v, .agg #[.int .i64 a, .int .i64 zt]] w fun r w' => r = .returned (.int .i64 (timesE l a zt)) ∧ w.grownBy w' none := by
 obtain ⟨A, c, rfl, hlen, hA⟩ := hl.shape
 rcases hb : timeB a zt
 ·have HE : Hid (timesE l a zt = 1) := by show _ = _; unfold timesE; rw [if_pos hb]
  go_enter Tryz.func88, Tryz.ntmps88
  go_wp2_with fail
  refine (isTime_any _ _ _ hto hto2).mono ?_
  rintro r w1 ⟨rfl, hg1⟩
  go_wp2_with fail
  go_ret
  exact ⟨ret_of HE.out.symm, gr_trans (World.grownBy_alloc w _ none) hg1⟩
 ·by_cases hbig : 2000 < l.length
  ·have HE : Hid (timesE l a zt = 2) := by show _ = _; unfold timesE; rw [if_neg (by simp [hb]), if_pos hbig]
   have hbig' : (2000 : Int) < (l.length : Int) := by omega
   go_enter Tryz.func88, Tryz.ntmps88
   go_wp2_with fail
   refine (isTime_any _ _ _ hto hto2).mono ?_
   rintro r w1 ⟨rfl, hg1⟩
   go_wp2_with fail
   go_ret
   exact ⟨ret_of HE.out.symm, gr_trans (World.grownBy_alloc w _ none) hg1⟩
  ·have HE : Hid (timesE l a zt = scanT a zt none l) := by show _ = _; unfold timesE; rw [if_neg (by simp [hb]), if_neg hbig]
   have hbig' : ¬ (2000 : Int) < (l.length : Int) := by omega
   have HL := Lib.hid hl
   clear hl
   go_enter Tryz.func88, Tryz.ntmps88
   go_wp2_with fail
   refine (isTime_any _ _ _ hto hto2).mono ?_
   rintro r w1 ⟨rfl, hg1⟩
   have hw1 := (Blk.new w 29 #[.int .i64 a, .int .i64 zt]).grown hg1 (by simp)
   have hG1 := gr_trans (World.grownBy_alloc w (.cells #[.int .i64 a, .int .i64 zt] 29) none) hg1
   clear hg1
   go_wp2_with fail
   go_loopw [15] (fun i wr => ∃ k : Nat, k ≤ l.length ∧ i = .int .i64 k ∧ Hid (scanT a zt none l = scanT a zt (prevI l k) (l.drop k)) ∧ w.grownBy wr none ∧ Blk wr w.heap.size 29 #[.int .i64 a, .int .i64 zt]) (fun i _ => l.length - (intOf i).toNat)
   case atStart => exact ⟨0, by omega, rfl, rfl, hG1, hw1⟩
   case round =>
    obtain ⟨k, hk, rfl, HR, hG, hW⟩ := hrel
    by_cases hlt : k < l.length
    ·obtain ⟨g, rfl, hg0, hg1⟩ := hA (by omega)
     have hkl : (k : Int) < (l.length : Int) := by omega
     have cx := (HL.out.grown hG).at_ k hlt
     have b0 : wr.cell? ⟨w.heap.size, 0, none⟩ = some (.int .i64 a) := hW.cell 0
     have b1 : wr.cell? ⟨w.heap.size, 1, none⟩ = some (.int .i64 zt) := hW.cell 1
     have hd := List.drop_eq_getElem_cons hlt
     have hpn := prevI_succ l k hlt
     have hpk := fun h0 => prevI_pos l k h0 hlt
     have HN : Hid (scanT a zt none l = scanT a zt (prevI l k) (l[k] :: l.drop (k + 1))) := by show _ = _; rw [HR.out, hd]
     have HP := Lib.hid hpn
     have HQ := Lib.hid hpk
     clear hd hpn hpk
     have cp : 0 < k → wr.cell? ⟨g, k - 1, none⟩ = some (.int .i64 (l[k - 1]'(by omega))) := fun h0 => (HL.out.grown hG).at_ (k - 1) (by omega)
     obtain ⟨x, hx⟩ : ∃ x, x = l[k] := ⟨_, rfl⟩
     rw [← hx] at cx HN HP
     clear hx HR
     rcases hh : hasB a zt x
     ·have HF := Lib.hid (HN.out.trans (scanT_bad hh))
      go_wp2_with fail
      refine (has_any _ _ _ _).mono ?_
      rintro _ w2 ⟨rfl, hg2⟩
      go_wp2_with fail
      go_ret
      exact ⟨ret_of (HE.out.trans HF.out).symm, gr_trans hG hg2⟩
     ·by_cases h0 : 0 < k
      ·have c1 := cp h0
       have hq := HQ.out h0
       obtain ⟨y, hy⟩ : ∃ y, y = l[k - 1]'(by omega) := ⟨_, rfl⟩
       rw [← hy] at c1 hq
       have HY := Lib.hid hq
       clear hy cp hq HQ
       obtain ⟨m, rfl⟩ : ∃ m, k = m + 1 := ⟨k - 1, by omega⟩
       have c2 : wr.cell? ⟨g, m, none⟩ = some (.int .i64 y) := c1
       clear c1
       have hkp : (0 : Int) < ((m + 1 : Nat) : Int) := by omega
       by_cases hxy : x < y
       ·have HF : Hid (scanT a zt none l = 7) := by show _ = _; rw [HN.out, HY.out]; exact scanT_order hh hxy
        go_wp2_with fail
        refine (has_any _ _ _ _).mono ?_
        rintro _ w2 ⟨rfl, hg2⟩
        have c3 : w2.cell? ⟨g, m, none⟩ = some (.int .i64 y) := hg2.cell c2 (by simp)
        clear c2
        go_wp2_with fail
        go_ret
        exact ⟨ret_of (HE.out.trans HF.out).symm, gr_trans hG hg2⟩
       ·have HF : Hid (scanT a zt none l = scanT a zt (prevI l (m + 1 + 1)) (l.drop (m + 1 + 1))) := by
         show _ = _
         rw [HN.out, HP.out, HY.out]
         exact scanT_next hh (fun z hz => by injection hz with hz; omega)
        go_wp2_with fail
        refine (has_any _ _ _ _).mono ?_
        rintro _ w2 ⟨rfl, hg2⟩
        have c3 : w2.cell? ⟨g, m, none⟩ = some (.int .i64 y) := hg2.cell c2 (by simp)
        clear c2
        have hG2 := gr_trans hG hg2
        have hW2 := hW.grown hg2 (by simp)
        go_wp2_with fail
        go_roundw
        case rel => exact ⟨m + 1 + 1, by omega, by go_num, HF, hG2, hW2⟩
        case measure => simp [intOf]; omega
      ·obtain rfl : k = 0 := by omega
       have HF : Hid (scanT a zt none l = scanT a zt (prevI l (0 + 1)) (l.drop (0 + 1))) := by
        show _ = _
        rw [HN.out, HP.out]
        exact scanT_next hh (fun z hz => by simp [prevI] at hz)
       clear cp HQ
       go_wp2_with fail
       refine (has_any _ _ _ _).mono ?_
       rintro _ w2 ⟨rfl, hg2⟩
       have hG2 := gr_trans hG hg2
       have hW2 := hW.grown hg2 (by simp)
       go_wp2_with fail
       go_roundw
       case rel => exact ⟨0 + 1, by omega, by go_num, HF, hG2, hW2⟩
       case measure => simp [intOf]; omega
    ·have HF : Hid (scanT a zt none l = 0) := by
      show _ = _
      rw [HR.out, List.drop_of_length_le (by omega)]
      cases prevI l k <;> rfl
     have hkl : ¬ (k : Int) < (l.length : Int) := by omega
     go_wp2_with fail
     go_ret
     exact ⟨ret_of (HE.out.trans HF.out).symm, hG⟩
end Go.Proofs.YthlflljlkkkanaaGreatDoor

namespace Go.Proofs.YthlflljlkkkanaaGreatDoor
open Go.RowKit
set_option linter.unusedVariables false

theorem quiet_w {P : Program} {f : FuncId} {args : Array Value} {w : World} {v : Value} (h : Calls P f args w fun e w' => e = .returned v ∧ ∃ m, w' = w.drewN m) : Calls P f args w fun e w'' => e = .returned v ∧ ∃ m, w'' = w.drewN m := h
theorem quiet_wn {P : Program} {f : FuncId} {args : Array Value} {w : World} {n : Nat} {v : Value}
 (h : Calls P f args (w.drewN n) fun e w' => e = .returned v ∧ ∃ m, w' = (w.drewN n).drewN m) : Calls P f args (w.drewN n) fun e w'' => e = .returned v ∧ ∃ m, w'' = w.drewN m :=
 h.mono fun _ _ ⟨he, m, hm⟩ => ⟨he, n + m, by rw [hm, World.drewN_drewN]⟩
theorem quiet_wadd {P : Program} {f : FuncId} {args : Array Value} {w : World} {a n : Nat} {v : Value}
 (h : Calls P f args (w.drewN (a + n)) fun e w' => e = .returned v ∧ ∃ m, w' = (w.drewN (a + n)).drewN m) :
 Calls P f args (w.drewN (a + n)) fun e w'' => e = .returned v ∧ ∃ m, w'' = w.drewN (a + m) :=
 h.mono fun _ _ ⟨he, m, hm⟩ => ⟨he, n + m, by rw [hm, World.drewN_drewN, Nat.add_assoc]⟩
set_option maxHeartbeats 400000 in
theorem before_any (base : Nat) (v : Value) (l : List Int) (x : Int) (w : World) (hl : IntsFrom base w v l) (hs : l.Pairwise (· ≤ ·)) (hn : l.length ≤ 1000000) :
 Calls Tryz.prog 189 #[v, .int .i64 x] w fun r w' => r = .returned (.int .i64 (cntLt l x)) ∧ ∃ m, w' = w.drewN m := by
 obtain ⟨A, c, rfl, hlen, hA⟩ := hl.shape
 have hb := cntLt_bd l x
 rcases Nat.eq_zero_or_pos l.length with h0 | h0
 ·have hl0 : l = [] := List.eq_nil_of_length_eq_zero h0
  subst hl0
  have HA := Lib.hid hA
  have HL := Lib.hid hl
  clear hA hl
  go_enter Tryz.func189, Tryz.ntmps189
  go_wp2_with fail
  refine (Tryz.slices_BinarySearch_int_empty A c x _).mono ?_
  rintro _ w1 ⟨rfl, rfl⟩
  go_wp2_with fail
  go_ret
  exact ⟨rfl, 0, rfl⟩
 ·obtain ⟨g, rfl, _, _⟩ := hA h0
  have hc : ∀ j, j < l.length → w.cell? ⟨g, 0 + j, none⟩ = some (.int .i64 (l.getD j 0)) := fun j hj => by
   rw [Nat.zero_add, hl.at_ j hj]
   simp [List.getD, hj]
  have htk : l.take l.length = l := List.take_length
  have HB := Tryz.slices_BinarySearch_int g 0 l.length c l x w (Nat.le_refl _) (by omega) hc (by rw [htk]; exact hs)
  rw [htk] at HB
  have HB2 := Lib.hid HB
  have HL := Lib.hid hl
  have HS := Lib.hid hs
  clear HB hc hA hl hs htk
  go_enter Tryz.func189, Tryz.ntmps189
  go_wp2_with fail
  refine HB2.out.mono ?_
  rintro _ w1 ⟨rfl, q, rfl⟩
  go_wp2_with fail
  go_ret
  exact ⟨rfl, q, rfl⟩
theorem IntsFrom.drewN {base : Nat} {w : World} {v : Value} {l : List Int} (h : IntsFrom base w v l) (n : Nat) : IntsFrom base (w.drewN n) v l := h
theorem IntsFrom.alloc {base : Nat} {w : World} {v : Value} {l : List Int} (h : IntsFrom base w v l) (o : Obj) : IntsFrom base (w.alloc o) v l := World.ownsRow.alloc h o
set_option maxHeartbeats 1000000 in
theorem in_many (base : Nat) (v : Value) (l : List Int) (a zt : Int) (w : World) (hl : IntsFrom base w v l) (hs : l.Pairwise (· ≤ ·)) (hn : l.length ≤ 1000000) :
 Calls Tryz.prog 91 #[v, .agg #[.int .i64 a, .int .i64 zt]] w fun r w' => r = .returned (.int .i64 (manyI l a zt)) ∧ w.grownBy w' none := by
 have HE := Lib.hid (inI_many l a zt)
 unfold inI at HE
 obtain ⟨p, hp⟩ : ∃ p, cntLt l zt = p := ⟨_, rfl⟩
 obtain ⟨q, hq⟩ : ∃ q, cntLt l a = q := ⟨_, rfl⟩
 have hp1 := cntLt_bd l zt
 have hq1 := cntLt_bd l a
 rw [hp] at HE hp1
 rw [hq] at HE hq1
 obtain ⟨p0, p1⟩ := hp1
 obtain ⟨q0, q1⟩ := hq1
 have m1 : IntKind.i64.wrap (p - q) = p - q := IntWalk.i64_in _ ⟨by omega, by omega⟩
 have HL := Lib.hid hl
 have HS := Lib.hid hs
 clear hl hs
 go_enter Tryz.func91, Tryz.ntmps91
 go_wp2_with fail
 go_quiet ((go_at_call 189; first | exact quiet_w (before_any base v l _ _ (HL.out.alloc _) HS.out hn) | exact quiet_wn (before_any base v l _ _ ((HL.out.alloc _).drewN _) HS.out hn) | exact quiet_wadd (before_any base v l _ _ ((HL.out.alloc _).drewN _) HS.out hn)))
 all_goals go_wp2_with fail
 go_ret
 exact ⟨ret_of HE.out, gr_drewN (World.grownBy_alloc w _ none) _⟩
def winE (a zt : Int) : Int := if a < 0 ∨ zt < a ∨ 345686400000 < zt then 1 else 0
theorem winE_1 {a zt : Int} (h : a < 0 ∨ zt < a ∨ 345686400000 < zt) : winE a zt = 1 := by unfold winE; rw [if_pos h]
theorem winE_0 {a zt : Int} (h : ¬ (a < 0 ∨ zt < a ∨ 345686400000 < zt)) : winE a zt = 0 := by unfold winE; rw [if_neg h]
set_option maxHeartbeats 400000 in
theorem isWindow_e (a zt : Int) (w : World) :
 Calls Tryz.prog 90 #[.agg #[.int .i64 a, .int .i64 zt]] w fun r w' => r = .returned (.bool (decide (winE a zt = 0))) ∧ w.grownBy w' none := by
 by_cases h1 : 0 ≤ a ∧ a ≤ zt
 ·have hb : outB a 0 zt = false := outB_no h1.1 h1.2
  have HE : Hid (decide (winE a zt = 0) = decide (zt ≤ 345686400000)) := by
   show _ = _
   by_cases h : zt ≤ 345686400000
   ·rw [winE_0 (by omega)]; simp [h]
   ·rw [winE_1 (by omega)]; simp [h]
  go_enter Tryz.func90, Tryz.ntmps90
  go_wp2_with fail
  refine (outside_any _ _ _ _).mono ?_
  rintro r w' ⟨rfl, rfl⟩
  go_wp2_with fail
  go_ret
  exact ⟨ret_b HE.out.symm, gr_alloc (gr_refl _ _) _⟩
 ·have hb : outB a 0 zt = true := outB_yes (by omega)
  have HE : Hid (decide (winE a zt = 0) = false) := by
   show _ = _
   rw [winE_1 (by omega)]; rfl
  go_enter Tryz.func90, Tryz.ntmps90
  go_wp2_with fail
  refine (outside_any _ _ _ _).mono ?_
  rintro r w' ⟨rfl, rfl⟩
  go_wp2_with fail
  go_ret
  exact ⟨ret_b HE.out.symm, gr_alloc (gr_refl _ _) _⟩
set_option maxHeartbeats 400000 in
theorem hoursOf_any (a zt : Int) (w : World) (h0 : 0 ≤ a) (h1 : a < zt) (h2 : zt ≤ 345686400000) :
 Calls Tryz.prog 89 #[.agg #[.int .i64 a, .int .i64 zt]] w fun r w' => r = .returned (.int .i64 (hoursI a zt)) ∧ w.grownBy w' none := by
 go_enter Tryz.func89, Tryz.ntmps89
 go_wp2_with fail
 go_ret
 exact ⟨rfl, gr_alloc (gr_refl _ _) _⟩
def longE (n : Int) : Int := spanE n 60000 86400000
theorem longE_cases (n : Int) : (longE n = 0 ∧ outB n 60000 86400000 = false ∧ 60000 ≤ n ∧ n ≤ 86400000) ∨ (longE n = 1 ∧ outB n 60000 86400000 = true) := by
 unfold longE
 rcases spanE_cases n 60000 86400000 with ⟨h, h1, h2⟩ | ⟨h, h1⟩
 ·exact .inl ⟨h, outB_no h1 h2, h1, h2⟩
 ·exact .inr ⟨h, outB_yes h1⟩
set_option maxHeartbeats 400000 in
theorem isLong_any (n : Int) (w : World) :
 Calls Tryz.prog 175 #[.int .i64 n] w fun e w' => e = .returned (.bool (!outB n 60000 86400000)) ∧ w = w' := by
 go_enter Tryz.func175, Tryz.ntmps175
 go_wp2_with fail
 refine (outside_any _ _ _ _).mono ?_
 rintro e w' ⟨rfl, rfl⟩
 go_wp2_with fail
 go_ret
 exact ⟨rfl, rfl⟩
end Go.Proofs.YthlflljlkkkanaaGreatDoor

namespace Go.Proofs.YthlflljlkkkanaaGreatDoor
open Go.RowKit
set_option linter.unusedVariables false

end Go.Proofs.YthlflljlkkkanaaGreatDoor

namespace Go.Proofs.YthlflljlkkkanaaGreatDoor
open Go.RowKit
set_option linter.unusedVariables false

theorem gr_of_drew {w w' : World} {row : Option Nat} (h : w.drew.grownBy w' row) : w.grownBy w' row := ⟨h.os, h.tape, h.output, h.size, h.block⟩
theorem TimesOk.E0 {l : List Int} {a zt : Int} (h : timesE l a zt = 0) : (timesE l a zt != 0) = false := by rw [h]; rfl
set_option maxHeartbeats 1000000 in
theorem in_ok (base : Nat) (v : Value) (l : List Int) (a zt x y : Int) (w : World) (hl : IntsFrom base w v l) (hE : timesE l a zt = 0) :
 Calls Tryz.prog 19 #[v, .agg #[.int .i64 a, .int .i64 zt], .agg #[.int .i64 x, .int .i64 y]] w fun r w' => r = .returned (.tuple #[.int .i64 (okI (winE x y) (manyI l x y)), .int .i64 (winE x y)]) ∧ w.grownBy w' none := by
 have O := timesE_ok hE
 have hG := gr_alloc (World.grownBy_alloc w (.cells #[.int .i64 a, .int .i64 zt] 29) none) (.cells #[.int .i64 x, .int .i64 y] 29)
 have hl2 := (hl.alloc (.cells #[.int .i64 a, .int .i64 zt] 29)).alloc (.cells #[.int .i64 x, .int .i64 y] 29)
 have hx0 := Blk.new (w.alloc (.cells #[.int .i64 a, .int .i64 zt] 29)) 29 #[.int .i64 x, .int .i64 y]
 rw [World.size_alloc] at hx0
 have hto := O.to_
 have ha0 := O.a0
 have hato := O.ato
 have HL := Lib.hid hl2
 have HO := Lib.hid O
 clear hl O hl2
 rcases hw : decide (winE x y = 0)
 ·have hw1 : winE x y = 1 := by unfold winE at hw ⊢; split <;> simp_all
  have HW := Lib.hid hw1
  clear hw1
  go_enter Tryz.func19, Tryz.ntmps19
  go_wp2_with fail
  refine (checkTimes_any base _ _ _ _ _ HL.out (by omega) (by omega)).mono ?_
  rintro _ w1 ⟨rfl, hg1⟩
  have hx1 := hx0.grown hg1 (by simp)
  have c0 : w1.cell? ⟨w.heap.size + 1, 0, none⟩ = some (.int .i64 x) := hx1.cell 0
  have c1 : w1.cell? ⟨w.heap.size + 1, 1, none⟩ = some (.int .i64 y) := hx1.cell 1
  go_wp2_with fail
  refine (isWindow_e _ _ _).mono ?_
  rintro _ w2 ⟨rfl, hg2⟩
  rw [hw]
  go_wp2_with fail
  go_ret2
  exact ⟨ret_2i (by unfold okI; rw [HW.out]; rfl) HW.out.symm, gr_trans (gr_trans hG hg1) hg2⟩
 ·have hw0 : winE x y = 0 := by simpa using hw
  have HW := Lib.hid hw0
  clear hw0
  go_enter Tryz.func19, Tryz.ntmps19
  go_wp2_with fail
  refine (checkTimes_any base _ _ _ _ _ HL.out (by omega) (by omega)).mono ?_
  rintro _ w1 ⟨rfl, hg1⟩
  have hx1 := hx0.grown hg1 (by simp)
  have c0 : w1.cell? ⟨w.heap.size + 1, 0, none⟩ = some (.int .i64 x) := hx1.cell 0
  have c1 : w1.cell? ⟨w.heap.size + 1, 1, none⟩ = some (.int .i64 y) := hx1.cell 1
  go_wp2_with fail
  refine (isWindow_e _ _ _).mono ?_
  rintro _ w2 ⟨rfl, hg2⟩
  rw [hw]
  have hx2 := hx1.grown hg2 (by simp)
  clear c0 c1
  have c0 : w2.cell? ⟨w.heap.size + 1, 0, none⟩ = some (.int .i64 x) := hx2.cell 0
  have c1 : w2.cell? ⟨w.heap.size + 1, 1, none⟩ = some (.int .i64 y) := hx2.cell 1
  go_wp2_with fail
  refine (in_many base _ _ _ _ _ ((HL.out.grown hg1).grown hg2) HO.out.sorted (by have := HO.out.len; omega)).mono ?_
  rintro _ w3 ⟨rfl, hg3⟩
  go_wp2_with fail
  go_ret2
  exact ⟨ret_2i (by unfold okI; rw [HW.out]; rfl) HW.out.symm, gr_trans (gr_trans (gr_trans hG hg1) hg2) hg3⟩
end Go.Proofs.YthlflljlkkkanaaGreatDoor
