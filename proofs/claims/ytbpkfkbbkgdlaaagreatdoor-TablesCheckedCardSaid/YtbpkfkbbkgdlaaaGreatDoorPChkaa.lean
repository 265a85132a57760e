/- Small words for memory that the walks share: a block that is known whole; a slice that reads as a list; the stream of numbers. No condition. The stream's small methods: Flip, Range, Pick, Odd: each answers in its range, and turns the stream alone. Condition: it has handed out at most 10^12 numbers. The stream's Some: one of some strings. Condition: it has handed out at most 10^12 numbers. How a law begins: the stream is laid over the numbers that came in. No condition. The stream told exactly: Next, Flip, Range, Pick and Some answer as functions of the list and of how many numbers were handed out. Condition: at most 10^12 numbers were. The tests of ranges, moments and sites, and cmp.Or over errors: each answers as its plain form says. No condition. A slice of ints that the program has made, as a list of numbers; slices.Equal at two that are equal. No condition. Contracts of Go's library at this translation, as the kit's shelf lays them in plain words: each says its own conditions. Plain law of times: their errors, how many are in a window: no program in sight. No condition. The walks over the errors of times and windows, over how many moments are before one or in a window, in package rate and in the reference. Condition: times that are counted by search are sorted. The walks over how many moments are before one and in a window, in package rate (by search) and in the reference (by counting). Condition: times that are searched are sorted. The walks over fractions in lowest terms, the last milliseconds before a moment, and the bad case of each exported function of package rate that begins with CheckTimes. Condition: numbers within their ranges. The walks over rate.In, rate.Rate and their twins in the reference. Condition: the window's end is no number beyond 2^60; else times without error where the name says ok. The walks over kit.IsKey, kit.IsName and the reference's Key; strings.Trim at a set of ASCII bytes. Condition: strings of at most 10^9 bytes. Entities and prefixes in memory, and the errors of lists of entities. No condition. The walk over the stream's spanOf. Condition: the stream has handed out at most 10^10 numbers. -/
import Derived.Test.YtbpkfkbbkgdlaaaGreatDoorRows
import Derived.WalkKit
import Derived.WalkSpells
import Derived.WalkLawsBesides
import Derived.Deep.QuietTactic
import Derived.BigQuiet
import Derived.Lib.Hide
import Derived.ProofKit
import Derived.OpenShut
import Derived.ShutString
import Derived.ChangeOld
import Derived.Below
import Derived.Shelf.Strings.Trim
import Derived.Shelf.Small.Utf8
import Derived.Shelf.Small.Bits
import Derived.Shelf.Small.Strs
import Derived.Shelf.Small.Wraps
import Derived.Shelf.Utf8.RuneCount
import Derived.Shelf.Strconv.Atoi
import Derived.Shelf.Strconv.Itoa0
import Derived.Shelf.Strconv.Itoa1
import Derived.Shelf.LaysM
import Derived.Shelf.Strconv.Itoa2
import Derived.Shelf.Strconv.Itoa3
import Derived.Shelf.Strconv.AtoiErrFast
import Derived.Shelf.Strconv.ParseIntEmpty
import Derived.Shelf.Strconv.AtoiFail
import Derived.Shelf.Strconv.Clone
import Derived.Shelf.Strconv.SyntaxError
import Derived.Shelf.LaysC
import Derived.Shelf.Strconv.ToError
import Derived.Shelf.Strconv.AtoiErr
import Derived.Shelf.Strconv.ErrVar
import Derived.Shelf.Strconv.Lower
import Derived.Shelf.Strconv.ParseUint10
import Derived.Shelf.Strconv.ParseUint10Empty
import Derived.Shelf.Strconv.ParseUint10Any
import Derived.Shelf.Strconv.ParseInt10
import Derived.Shelf.Strconv.AtoiLong
import Derived.Shelf.Strconv.AtoiInnerAll
import Derived.Shelf.Strconv.RangeError
import Derived.Shelf.Strconv.ToErrorRange
import Derived.Shelf.Strconv.AtoiAll
import Derived.Shelf.Strconv.ErrVarAll
import Derived.Shelf.Strconv.ParseUintEmpty
import Derived.Shelf.Strconv.ParseUint10b64
import Derived.Shelf.Strconv.ParseUint10b32
import Derived.Shelf.Strconv.ParseUint10b16
import Derived.Shelf.Strconv.ParseUint10b8
import Derived.Shelf.Strconv.ParseUint10At
import Derived.Shelf.Strconv.ParseInt10At64
import Derived.Shelf.Strconv.ParseInt10At32
import Derived.Shelf.Strconv.ParseInt10At16
import Derived.Shelf.Strconv.ParseInt10At8
import Derived.Shelf.Strconv.ParseInt10All
import Derived.Shelf.Strings.Search1
import Derived.Shelf.Strings.Search2
import Derived.Shelf.Strings.Search3
import Derived.Shelf.Strings.Cut
import Derived.Shelf.Strings.Count
import Derived.Shelf.Strings.Shaped
import Derived.Shelf.Sort.Plain
import Derived.Shelf.Strings.Prefix
import Derived.Shelf.Strings.Split
import Derived.Shelf.Strings.Fields
import Derived.Shelf.Strings.SplitShaped
import Derived.Shelf.Unicode.Latin
import Derived.Shelf.Unicode.Decode
import Derived.Shelf.Strings.Runes
import Derived.Shelf.Strings.RuneCount
import Derived.Shelf.Strings.IndexAny
import Derived.Shelf.Strings.AsciiSet
import Derived.Shelf.Strings.IndexAnyAll
import Derived.Shelf.Strings.Explode
import Derived.Shelf.Unicode.DecodeSlow
import Derived.Shelf.Unicode.DecodeAny
import Derived.Shelf.Unicode.Is16White
import Derived.Shelf.Unicode.IsSpaceAny
import Derived.Shelf.Unicode.DecodeLast
import Derived.Shelf.Unicode.Is16WhiteD
import Derived.Shelf.Unicode.IsSpaceAnyD
import Derived.Shelf.Strings.FieldsAny
import Derived.Shelf.Strings.FieldsFuncAny
import Derived.Shelf.Unicode.Is16Any
import Derived.Shelf.Unicode.Is32Any
import Derived.Shelf.Unicode.ExclAny
import Derived.Shelf.Strings.FieldsFuncGrows
import Derived.Shelf.Slices.Turned
import Derived.Shelf.Slices.Equal
import Derived.Ground.Names2Prog
import Derived.Shelf.Slices.Clone
import Derived.Shelf.Slices.CompactI
import Derived.Shelf.Slices.CompactS
import Derived.Shelf.Slices.SearchI
import Derived.Shelf.Slices.Cells
import Derived.Shelf.Slices.In.SortNone
import Derived.Shelf.Slices.Empties
import Derived.Shelf.Slices.Empties2
import Derived.Ground.SlgnProg
import Derived.Shelf.SlicesE.Clone
import Derived.Test.YtbpkfkbbkgdlaaaGreatDoorProg
import Derived.Deep.RegionHeld3
import Derived.Shelf.Strings.SlTrimAscii
import Derived.Lib.IndexAny
import Derived.Deep.DeepCutAuto
import Derived.Deep.RegionWith
namespace Go.Proofs.YtbpkfkbbkgdlaaaGreatDoor
theorem ssA.{u} {A : Type u} {l : List A} {i : Nat} {a : A} : l.toArray.setIfInBounds i a = (l.set i a).toArray := List.setIfInBounds_toArray ..
theorem ssZ.{u} {A : Type u} {x y : A} {l : List A} : (x :: l).set 0 y = y :: l := rfl
theorem ssS.{u} {A : Type u} {x y : A} {l : List A} {n : Nat} : (x :: l).set (n + 1) y = x :: l.set n y := rfl
set_option linter.unusedVariables false
open Go.RowKit

/-- Block g holds just these cells, none of them frozen. -/
def Blk (w : World) (g : Nat) (t : TypeId) (cs : Array Value) : Prop := w.heap[g]? = some (.cells cs t (0, 0))
section
variable {w w' : World} {g : Nat} {t : TypeId} {cs : Array Value}
theorem Blk.lt (h : Blk w g t cs) : g < w.heap.size := (Array.getElem?_eq_some_iff.1 h).1
theorem Blk.cell (h : Blk w g t cs) (i : Nat) : w.cell? ⟨g, i, none⟩ = cs[i]? := cell_of_row w g i cs t (0, 0) h
theorem Blk.free (h : Blk w g t cs) (i : Nat) : w.frozen? ⟨g, i, none⟩ = false := by
 unfold Blk at h; simp [World.frozen?, h]
theorem Blk.new (w : World) (t : TypeId) (cs : Array Value) : Blk (w.alloc (.cells cs t)) w.heap.size t cs := heap_alloc_new w _
theorem Blk.alloc (h : Blk w g t cs) (o : Obj) : Blk (w.alloc o) g t cs := (Below.heap_alloc w o g h.lt).trans h
theorem Blk.drew (h : Blk w g t cs) : Blk w.drew g t cs := h
theorem Blk.drewN (h : Blk w g t cs) (n : Nat) : Blk (w.drewN n) g t cs := h
theorem Blk.put (h : Blk w g t cs) (i : Nat) (u : Value) : Blk (w.setCell ⟨g, i, none⟩ u) g t (cs.setIfInBounds i u) := by
 unfold Blk at h ⊢; simp [World.setCell, Array.getElem?_modify, h]
theorem Blk.far (h : Blk w g t cs) {p : Addr} (hp : g ≠ p.block) (u : Value) : Blk (w.setCell p u) g t cs := (Below.heap_setCell w p u g hp).trans h
theorem Blk.grown (h : Blk w g t cs) {row : Option Nat} (hb : w.grownBy w' row) (hg : some g ≠ row) : Blk w' g t cs := (hb.block g h.lt hg).trans h
end

/-! ### What a call leaves: 'w.grownBy w' none': nothing that was there has turned; 'w.grownBy w' (some b)': block b alone may have turned. -/
theorem gr_refl (w : World) (row : Option Nat) : w.grownBy w row := World.grownBy.refl w row
theorem gr_trans {a b c : World} {row : Option Nat} (h : a.grownBy b row) (k : b.grownBy c row) : a.grownBy c row :=
 ⟨k.os.trans h.os, k.tape.trans h.tape, k.output.trans h.output, Nat.le_trans h.size k.size, fun i hi hne => (k.block i (Nat.lt_of_lt_of_le hi h.size) hne).trans (h.block i hi hne)⟩
theorem gr_weak {a b : World} (h : a.grownBy b none) (row : Option Nat) : a.grownBy b row := ⟨h.os, h.tape, h.output, h.size, fun i hi _ => h.block i hi (by simp)⟩
theorem gr_drew {a w : World} {row : Option Nat} (h : a.grownBy w row) : a.grownBy w.drew row := ⟨h.os, h.tape, h.output, h.size, h.block⟩
theorem gr_drewN {a w : World} {row : Option Nat} (h : a.grownBy w row) (n : Nat) : a.grownBy (w.drewN n) row := ⟨h.os, h.tape, h.output, h.size, h.block⟩
theorem gr_alloc {a w : World} {row : Option Nat} (h : a.grownBy w row) (o : Obj) : a.grownBy (w.alloc o) row :=
 ⟨h.os, h.tape, h.output, Nat.le_trans h.size (by simp), fun i hi hne => (Below.heap_alloc w o i (Nat.lt_of_lt_of_le hi h.size)).trans (h.block i hi hne)⟩
theorem gr_put {a w : World} {row : Option Nat} (h : a.grownBy w row) {p : Addr} (hp : row = some p.block ∨ a.heap.size ≤ p.block) (u : Value) : a.grownBy (w.setCell p u) row :=
 ⟨h.os, h.tape, h.output, by simpa [World.setCell] using h.size, fun i hi hne => (Below.heap_setCell w p u i (by
  rintro rfl
  rcases hp with hp | hp
  ·exact hne hp.symm
  ·omega)).trans (h.block i hi hne)⟩
theorem gr_grown {a w w' : World} {row row' : Option Nat} (h : a.grownBy w row) (k : w.grownBy w' row') (hr : ∀ g, row' = some g → row = some g ∨ a.heap.size ≤ g) : a.grownBy w' row :=
 ⟨k.os.trans h.os, k.tape.trans h.tape, k.output.trans h.output, Nat.le_trans h.size k.size, fun i hi hne => (k.block i (Nat.lt_of_lt_of_le hi h.size) (fun e => by
  rcases hr i e.symm with h1 | h1
  ·exact hne h1.symm
  ·omega)).trans (h.block i hi hne)⟩
theorem gr_below {a w : World} (h : a.grownBy w none) : Below a.heap.size a w := ⟨h.os, h.tape, h.output, h.size, fun i hi => h.block i hi (by simp)⟩
theorem gr_of_below {a w : World} (h : Below a.heap.size a w) : a.grownBy w none := ⟨h.os, h.tape, h.output, h.size, fun i hi _ => h.block i hi⟩
/-! ### Calls inside a region that draws its order: a contract that leaves the world alone. -/
theorem ret_of {k : IntKind} {a b : Int} (h : a = b) : Ending.returned (.int k a) = .returned (.int k b) := by rw [h]
theorem ret_b {a b : Bool} (h : a = b) : Ending.returned (.bool a) = .returned (.bool b) := by rw [h]
/-! ### pilemake.Below -/
theorem tmod_lo (x n : Int) (h : 1 ≤ n) : -n < x.tmod n ∧ x.tmod n < n := by
 have h1 := Int.tmod_lt_of_pos x (show 0 < n by omega)
 have h2 := Int.lt_tmod_of_pos x (show 0 < n by omega)
 exact ⟨h2, h1⟩
set_option maxHeartbeats 400000 in
/-- Whatever x is: a number from 0 to n - 1. -/
theorem below_in (x n : Int) (w : World) (h1 : 1 ≤ n) (h2 : n ≤ 4611686018427387904) :
 Calls Tryz.prog 89 #[.int .i64 x, .int .i64 n] w fun e w' => (∃ v : Int, 0 ≤ v ∧ v < n ∧ e = .returned (.int .i64 v)) ∧ w = w' := by
 have ht := tmod_lo x n h1
 obtain ⟨t1, t2⟩ := ht
 go_enter Tryz.func89, Tryz.ntmps89
 go_wp2
 all_goals (go_ret; exact ⟨⟨_, by omega, by omega, rfl⟩, rfl⟩)
/-! ### The stream: a block of two cells: the numbers that it hands out, and how many it has handed out (at most k). -/
def Str (w : World) (b k : Nat) : Prop :=
 ∃ (A : Option Addr) (n c : Nat) (at_ : Int), Blk w b 25 #[.slice A n c, .int .i64 at_] ∧ 0 ≤ at_ ∧ at_ ≤ k ∧ n ≤ 9223372036854775807 ∧
   (0 < n → ∃ ad, A = some ad ∧ ad.block < b ∧ ∀ j, j < n → ∃ z : Int, w.cell? (ad.add j) = some (.int .i64 z))
theorem Str.mono {w : World} {b k k' : Nat} (h : Str w b k) (hk : k ≤ k') : Str w b k' := by
 obtain ⟨A, n, c, a, h1, h2, h3, h4, h5⟩ := h
 exact ⟨A, n, c, a, h1, h2, by omega, h4, h5⟩
theorem Str.lt {w : World} {b k : Nat} (h : Str w b k) : b < w.heap.size := by
 obtain ⟨A, n, c, a, h1, h2, h3, h4, h5⟩ := h
 exact h1.lt
theorem add_block (a : Addr) (n : Nat) : (a.add n).block = a.block := by unfold Addr.add; split <;> rfl
theorem Str.grown {w w' : World} {b k : Nat} (h : Str w b k) {row : Option Nat} (hg : w.grownBy w' row) (hr : ∀ g, row = some g → b < g) : Str w' b k := by
 obtain ⟨A, n, c, a, h1, h2, h3, h4, h5⟩ := h
 have hlt := h1.lt
 refine ⟨A, n, c, a, h1.grown hg (fun e => by have := hr b e.symm; omega), h2, h3, h4, fun hn => ?_⟩
 obtain ⟨ad, e, hb, hc⟩ := h5 hn
 refine ⟨ad, e, hb, fun j hj => ?_⟩
 obtain ⟨z, hz⟩ := hc j hj
 exact ⟨z, (World.cell?_of_block (hg.block _ (by rw [add_block]; omega) (fun e' => by have := hr _ e'.symm; rw [add_block] at this; omega))).trans hz⟩
theorem Str.alloc {w : World} {b k : Nat} (h : Str w b k) (o : Obj) : Str (w.alloc o) b k := h.grown (World.grownBy_alloc w o none) (by simp)
theorem Str.drew {w : World} {b k : Nat} (h : Str w b k) : Str w.drew b k := h
theorem Str.drewN {w : World} {b k : Nat} (h : Str w b k) (n : Nat) : Str (w.drewN n) b k := h
/-- What 'Next(n)' leaves: a number from 0 to n - 1, the stream one further. -/
def NextPost (b k : Nat) (n : Int) (w : World) (e : Ending) (w' : World) : Prop :=
 ∃ v : Int, 0 ≤ v ∧ v < n ∧ e = .returned (.int .i64 v) ∧ Str w' b (k + 1) ∧ w.grownBy w' (some b)
set_option maxHeartbeats 400000 in
theorem next_in (b k : Nat) (n : Int) (w : World) (hs : Str w b k) (hk : k ≤ 1000000000000) (h1 : 1 ≤ n) (h2 : n ≤ 4611686018427387904) :
 Calls Tryz.prog 41 #[.pointer (some ⟨b, 0, none⟩), .int .i64 n] w (NextPost b k n w) := by
 obtain ⟨A, len, c, a, hb, ha0, ha1, hn, hcell⟩ := hs
 have c0 := hb.cell 0
 have c1 := hb.cell 1
 have f1 := hb.free 1
 simp only [List.getElem?_toArray, List.getElem?_cons_zero, List.getElem?_cons_succ] at c0 c1
 rcases Nat.eq_zero_or_pos len with h0 | h0
 ·subst h0
  have H5 := Lib.hid hcell
  clear hcell
  go_enter Tryz.func41, Tryz.ntmps41
  go_wp2_with fail
  refine (below_in _ _ _ h1 h2).mono ?_
  rintro e w' ⟨⟨v, hv0, hv1, rfl⟩, rfl⟩
  go_wp2_with fail
  go_ret
  have hb' := hb.put 1 (.int .i64 (a + 1))
  exact ⟨v, hv0, hv1, rfl, ⟨A, 0, c, a + 1, hb', by omega, by omega, hn, fun h => absurd h (by omega)⟩, gr_put (gr_refl _ _) (.inl rfl) _⟩
 ·obtain ⟨ad, rfl, hab, hx⟩ := hcell h0
  have H5 := Lib.hid hcell
  clear hcell
  have m0 : 0 ≤ a % (len : Int) := Int.emod_nonneg _ (by omega)
  have m1 : a % (len : Int) < len := Int.emod_lt_of_pos _ (by omega)
  have m2 : 0 ≤ a / (len : Int) := Int.ediv_nonneg ha0 (by omega)
  have m3 : a / (len : Int) ≤ a := Int.ediv_le_self _ ha0
  have hlen : ((len : Int) == 0) = false := by rw [beq_eq_false_iff_ne]; omega
  obtain ⟨i, hi⟩ := Int.eq_ofNat_of_zero_le m0
  obtain ⟨z, hz⟩ := hx i (by omega)
  have hz' : (w.setCell ⟨b, 1, none⟩ (.int .i64 (a + 1))).cell? (ad.add i) = some (.int .i64 z) :=
   (World.cell?_setCell_other w _ _ _ (fun e => by have := add_block ad i; rw [← e] at this; simp at this; omega)).trans hz
  have HX := Lib.hid hx
  have HI := Lib.hid hi
  clear hx hz
  go_enter Tryz.func41, Tryz.ntmps41
  go_wp2_with fail
  go_quiet (fail)
  go_wp2_with fail
  go_quiet (fail)
  go_wp2_with fail
  refine (below_in _ _ _ (by omega) (by omega)).mono ?_
  rintro e w' ⟨⟨v, hv0, hv1, rfl⟩, rfl⟩
  go_wp2_with fail
  refine (below_in _ _ _ h1 h2).mono ?_
  rintro e w' ⟨⟨v2, hv20, hv21, rfl⟩, rfl⟩
  go_wp2_with fail
  go_ret
  have hb' := (hb.put 1 (.int .i64 (a + 1)))
  exact ⟨v2, hv20, hv21, rfl, ⟨some ad, len, c, a + 1, hb', by omega, by omega, hn, fun _ => ⟨ad, rfl, hab, fun j hj => by
   obtain ⟨z', hz2⟩ := HX.out j hj
   exact ⟨z', (World.cell?_setCell_other w _ _ _ (fun e => by have := add_block ad j; rw [← e] at this; simp at this; omega)).trans hz2⟩⟩⟩,
   by repeat (first | exact gr_put (gr_refl _ _) (.inl rfl) _ | refine gr_drewN ?_ _ | refine gr_drew ?_)⟩
end Go.Proofs.YtbpkfkbbkgdlaaaGreatDoor

namespace Go.Proofs.YtbpkfkbbkgdlaaaGreatDoor
set_option linter.unusedVariables false
open Go.RowKit

def FlipPost (b k : Nat) (w : World) (e : Ending) (w' : World) : Prop :=
 ∃ v : Bool, e = .returned (.bool v) ∧ Str w' b (k + 1) ∧ w.grownBy w' (some b)
set_option maxHeartbeats 400000 in
theorem flip_in (b k : Nat) (n : Int) (w : World) (hs : Str w b k) (hk : k ≤ 1000000000000) (h1 : 1 ≤ n) (h2 : n ≤ 4611686018427387904) :
 Calls Tryz.prog 40 #[.pointer (some ⟨b, 0, none⟩), .int .i64 n] w (FlipPost b k w) := by
 go_enter Tryz.func40, Tryz.ntmps40
 go_wp2_with fail
 refine (next_in b k n _ hs hk h1 h2).mono ?_
 rintro e w1 ⟨v, hv0, hv1, rfl, hs1, hg1⟩
 go_wp2_with fail
 all_goals go_ret
 all_goals exact ⟨_, rfl, hs1, hg1⟩
/-- A number from low to high. -/
def RangePost (b k : Nat) (low high : Int) (w : World) (e : Ending) (w' : World) : Prop :=
 ∃ v : Int, low ≤ v ∧ v ≤ high ∧ e = .returned (.int .i64 v) ∧ Str w' b (k + 1) ∧ w.grownBy w' (some b)
set_option maxHeartbeats 400000 in
theorem range_in (b k : Nat) (low high : Int) (w : World) (hs : Str w b k) (hk : k ≤ 1000000000000) (h1 : -1152921504606846976 ≤ low) (h2 : low ≤ high) (h3 : high ≤ 1152921504606846976) :
 Calls Tryz.prog 32 #[.pointer (some ⟨b, 0, none⟩), .int .i64 low, .int .i64 high] w (RangePost b k low high w) := by
 go_enter Tryz.func32, Tryz.ntmps32
 go_wp2_with fail
 refine (next_in b k _ _ hs hk (by omega) (by omega)).mono ?_
 rintro e w1 ⟨v, hv0, hv1, rfl, hs1, hg1⟩
 go_wp2_with fail
 go_ret
 exact ⟨_, by omega, by omega, rfl, hs1, hg1⟩
/-- One of the numbers. -/
def PickPost (b k : Nat) (xs : List Int) (w : World) (e : Ending) (w' : World) : Prop :=
 ∃ v : Int, v ∈ xs ∧ e = .returned (.int .i64 v) ∧ Str w' b (k + 1) ∧ w.grownBy w' (some b)
theorem getD_of {xs : List Int} {i : Nat} (h : i < xs.length) : ((xs.map (Value.int .i64)).toArray)[i]? = some (.int .i64 xs[i]) := by simp [h]
set_option maxHeartbeats 400000 in
theorem pick_in (b k g m c : Nat) (xs : List Int) (w : World) (hs : Str w b k) (hk : k ≤ 1000000000000) (hg : Blk w g 3 (xs.map (Value.int .i64)).toArray) (hne : g ≠ b) (hm : m = xs.length) (h1 : 1 ≤ m) (h2 : m ≤ 1000) :
 Calls Tryz.prog 44 #[.pointer (some ⟨b, 0, none⟩), .slice (some ⟨g, 0, none⟩) m c] w (PickPost b k xs w) := by
 have HM := Lib.hid hm
 clear hm
 go_enter Tryz.func44, Tryz.ntmps44
 go_wp2_with fail
 refine (next_in b k _ _ hs hk (by omega) (by omega)).mono ?_
 rintro e w1 ⟨v, hv0, hv1, rfl, hs1, hg1⟩
 obtain ⟨i, rfl⟩ := Int.eq_ofNat_of_zero_le hv0
 have hi : i < xs.length := by have := HM.out; omega
 have hc := (hg.grown hg1 (by simpa using hne)).cell i
 rw [getD_of hi] at hc
 obtain ⟨z, hz⟩ : ∃ z, z = xs[i] := ⟨_, rfl⟩
 have hmem : z ∈ xs := by rw [hz]; exact List.getElem_mem hi
 rw [← hz] at hc
 clear hz
 go_wp2_with fail
 go_ret
 exact ⟨z, hmem, rfl, hs1, hg1⟩
/-- Pick of numbers that have just been laid. -/
theorem pick_new (b k m c : Nat) (xs : List Int) (w : World) (hs : Str w b k) (hk : k ≤ 1000000000000) (hm : m = xs.length) (h1 : 1 ≤ m) (h2 : m ≤ 1000) :
 Calls Tryz.prog 44 #[.pointer (some ⟨b, 0, none⟩), .slice (some ⟨w.heap.size, 0, none⟩) m c] (w.alloc (.cells (xs.map (Value.int .i64)).toArray 3)) (PickPost b k xs w) :=
 (pick_in b k _ m c xs _ (hs.alloc _) hk (Blk.new _ _ _) (by have := hs.lt; omega) hm h1 h2).mono fun e w' ⟨v, hv, he, hs', hg⟩ =>
  ⟨v, hv, he, hs', gr_trans (World.grownBy_alloc w _ _) hg⟩
/-- The same where the address is spelled in another way. -/
theorem pick_at (b k g m c : Nat) (xs : List Int) (w : World) (hs : Str w b k) (hg : g = w.heap.size) (hk : k ≤ 1000000000000) (hm : m = xs.length) (h1 : 1 ≤ m) (h2 : m ≤ 1000) :
 Calls Tryz.prog 44 #[.pointer (some ⟨b, 0, none⟩), .slice (some ⟨g, 0, none⟩) m c] (w.alloc (.cells (xs.map (Value.int .i64)).toArray 3)) (PickPost b k xs w) := by
 subst hg
 exact pick_new b k m c xs w hs hk hm h1 h2
theorem Str.setCell {w : World} {b k : Nat} (h : Str w b k) {p : Addr} (hp : b < p.block) (u : Value) : Str (w.setCell p u) b k :=
 h.grown (gr_put (gr_refl w (some p.block)) (.inl rfl) u) (fun g e => by injection e with e; omega)
theorem Blk.cells2 {w : World} {g : Nat} {t : TypeId} {a0 a1 : Value} (h : Blk w g t #[a0, a1]) : w.cell? ⟨g, 0, none⟩ = some a0 ∧ w.cell? ⟨g, 1, none⟩ = some a1 := ⟨h.cell 0, h.cell 1⟩
theorem Blk.put01 {w : World} {g : Nat} {t : TypeId} {a0 a1 : Value} (h : Blk w g t #[a0, a1]) (b0 b1 : Value) : Blk ((w.setCell ⟨g, 0, none⟩ b0).setCell ⟨g, 1, none⟩ b1) g t #[b0, b1] := by
 have := (h.put 0 b0).put 1 b1
 simpa using this
end Go.Proofs.YtbpkfkbbkgdlaaaGreatDoor

namespace Go.Proofs.YtbpkfkbbkgdlaaaGreatDoor
set_option linter.unusedVariables false
open Go.RowKit

/-- One of the strings. -/
def SomePost (b k : Nat) (xs : List ByteArray) (w : World) (e : Ending) (w' : World) : Prop :=
 ∃ v : ByteArray, v ∈ xs ∧ e = .returned (.string v) ∧ Str w' b (k + 1) ∧ w.grownBy w' (some b)
theorem getS_of {xs : List ByteArray} {i : Nat} (h : i < xs.length) : ((xs.map Value.string).toArray)[i]? = some (.string xs[i]) := by simp [h]
set_option maxHeartbeats 400000 in
theorem some_in (b k g m c : Nat) (xs : List ByteArray) (w : World) (hs : Str w b k) (hk : k ≤ 1000000000000) (hg : Blk w g 9 (xs.map Value.string).toArray) (hne : g ≠ b) (hm : m = xs.length) (h1 : 1 ≤ m) (h2 : m ≤ 1000) :
 Calls Tryz.prog 42 #[.pointer (some ⟨b, 0, none⟩), .slice (some ⟨g, 0, none⟩) m c] w (SomePost b k xs w) := by
 have HM := Lib.hid hm
 clear hm
 go_enter Tryz.func42, Tryz.ntmps42
 go_wp2_with fail
 refine (next_in b k _ _ hs hk (by omega) (by omega)).mono ?_
 rintro e w1 ⟨v, hv0, hv1, rfl, hs1, hg1⟩
 obtain ⟨i, rfl⟩ := Int.eq_ofNat_of_zero_le hv0
 have hi : i < xs.length := by have := HM.out; omega
 have hc := (hg.grown hg1 (by simpa using hne)).cell i
 rw [getS_of hi] at hc
 obtain ⟨z, hz⟩ : ∃ z, z = xs[i] := ⟨_, rfl⟩
 have hmem : z ∈ xs := by rw [hz]; exact List.getElem_mem hi
 rw [← hz] at hc
 clear hz
 go_wp2_with fail
 go_ret
 exact ⟨z, hmem, rfl, hs1, hg1⟩
/-- Some of strings that have just been laid. -/
theorem some_at (b k g m c : Nat) (xs : List ByteArray) (w : World) (hs : Str w b k) (hg : g = w.heap.size) (hk : k ≤ 1000000000000) (hm : m = xs.length) (h1 : 1 ≤ m) (h2 : m ≤ 1000) :
 Calls Tryz.prog 42 #[.pointer (some ⟨b, 0, none⟩), .slice (some ⟨g, 0, none⟩) m c] (w.alloc (.cells (xs.map Value.string).toArray 9)) (SomePost b k xs w) := by
 subst hg
 exact (some_in b k _ m c xs _ (hs.alloc _) hk (Blk.new _ _ _) (by have := hs.lt; omega) hm h1 h2).mono fun e w' ⟨v, hv, he, hs', hg⟩ =>
  ⟨v, hv, he, hs', gr_trans (World.grownBy_alloc w _ _) hg⟩
end Go.Proofs.YtbpkfkbbkgdlaaaGreatDoor

namespace Go.Proofs.YtbpkfkbbkgdlaaaGreatDoor
open Go.RowKit
set_option linter.unusedVariables false

/-- The numbers that came in, as the walks ask for them. -/
def In (w : World) (A : Option Addr) (n : Nat) : Prop :=
 n ≤ 9223372036854775807 ∧ (0 < n → ∃ ad, A = some ad ∧ ad.block < w.heap.size ∧ ∀ j, j < n → ∃ z : Int, w.cell? (ad.add j) = some (.int .i64 z))
theorem Str.start {w : World} {A : Option Addr} {n c : Nat} (h : In w A n) :
 Str (w.alloc (.cells #[.slice A n c, .int .i64 0] 25)) w.heap.size 0 := by
 obtain ⟨h1, h2⟩ := h
 refine ⟨A, n, c, 0, Blk.new _ _ _, by omega, by omega, h1, fun hn => ?_⟩
 obtain ⟨ad, e, hb, hc⟩ := h2 hn
 refine ⟨ad, e, hb, fun j hj => ?_⟩
 obtain ⟨z, hz⟩ := hc j hj
 exact ⟨z, (World.cell?_alloc_lt w _ _ (by rw [add_block]; exact hb)).trans hz⟩
/-- WHAT IS TOLD OF A SLICE OF INTEGERS THAT CAME IN: it is nil; or it leads to a row of 'cap' cells, the numbers 'zs'. -/
def IsRow (k : IntKind) (w : World) (a : Option Addr) (len cap : Nat) (zs : List Int) : Prop :=
 (a = none ∧ len = 0 ∧ cap = 0 ∧ zs = []) ∨
 ∃ x, a = some x ∧ len ≤ cap ∧ cap ≤ maxLen ∧ zs.length = cap ∧ (∀ i, i < zs.length → w.cell? (x.add i) = some (.int k (zs.getD i 0))) ∧ ∀ n ∈ zs, (Lit.int k n).wf = true
theorem In.of_row {w : World} {a : Option Addr} {len cap : Nat} {zs : List Int} (h : IsRow .i64 w a len cap zs) : In w a len := by
 rcases h with ⟨_, rfl, _, _⟩ | ⟨x, rfl, h1, h2, h3, h4, _⟩
 ·exact ⟨by omega, fun h => absurd h (by omega)⟩
 ·unfold maxLen at h2
  refine ⟨by omega, fun hn => ⟨x, rfl, ?_, fun j hj => ⟨_, h4 j (by omega)⟩⟩⟩
  have := World.block_lt_of_cell? w _ (h4 0 (by omega))
  rwa [add_block] at this
end Go.Proofs.YtbpkfkbbkgdlaaaGreatDoor

namespace Go.Proofs.YtbpkfkbbkgdlaaaGreatDoor
set_option linter.unusedVariables false
open Go.RowKit

/-- The stream at block b over the numbers L, of which k were handed out; L lies below base. -/
def SX (base : Nat) (w : World) (b : Nat) (L : List Int) (k : Nat) : Prop :=
 ∃ (A : Option Addr) (c : Nat), Blk w b 25 #[.slice A L.length c, .int .i64 (k : Int)] ∧ base ≤ b ∧ L.length ≤ 9223372036854775807 ∧
   (0 < L.length → ∃ ad, A = some ad ∧ ad.block < base ∧ ∀ j, j < L.length → w.cell? (ad.add j) = some (.int .i64 (L.getD j 0)))
theorem SX.lt {base : Nat} {w : World} {b k : Nat} {L : List Int} (h : SX base w b L k) : b < w.heap.size := by
 obtain ⟨A, c, h1, h2, h3, h4⟩ := h
 exact h1.lt
theorem SX.base {base : Nat} {w : World} {b k : Nat} {L : List Int} (h : SX base w b L k) : base ≤ b := by
 obtain ⟨A, c, h1, h2, h3, h4⟩ := h
 exact h2
theorem SX.grown {base : Nat} {w w' : World} {b k : Nat} {L : List Int} (h : SX base w b L k) {row : Option Nat} (hg : w.grownBy w' row) (hr : ∀ g, row = some g → g ≠ b ∧ base ≤ g) : SX base w' b L k := by
 obtain ⟨A, c, h1, h2, h3, h4⟩ := h
 have hlt := h1.lt
 refine ⟨A, c, h1.grown hg (fun e => (hr b e.symm).1 rfl), h2, h3, fun hn => ?_⟩
 obtain ⟨ad, e, hb, hc⟩ := h4 hn
 exact ⟨ad, e, hb, fun j hj => (World.cell?_of_block (hg.block _ (by rw [add_block]; omega) (fun e' => by have := (hr _ e'.symm).2; rw [add_block] at this; omega))).trans (hc j hj)⟩
theorem SX.alloc {base : Nat} {w : World} {b k : Nat} {L : List Int} (h : SX base w b L k) (o : Obj) : SX base (w.alloc o) b L k := h.grown (World.grownBy_alloc w o none) (by simp)
theorem SX.drew {base : Nat} {w : World} {b k : Nat} {L : List Int} (h : SX base w b L k) : SX base w.drew b L k := h
theorem SX.drewN {base : Nat} {w : World} {b k : Nat} {L : List Int} (h : SX base w b L k) (n : Nat) : SX base (w.drewN n) b L k := h
theorem SX.str {base : Nat} {w : World} {b k : Nat} {L : List Int} (h : SX base w b L k) : Str w b k := by
 obtain ⟨A, c, h1, h2, h3, h4⟩ := h
 refine ⟨A, _, c, _, h1, by omega, by omega, h3, fun hn => ?_⟩
 obtain ⟨ad, e, hb, hc⟩ := h4 hn
 exact ⟨ad, e, by omega, fun j hj => ⟨_, hc j hj⟩⟩
/-- What is reduced by 'Next'. -/
def mixV (L : List Int) (k : Nat) : Int :=
 if L.length = 0 then ((k : Int) + 1) * 7919
 else wrap64 (L.getD (k % L.length) 0 % 1073741824 + wrap64 (((k / L.length : Nat) : Int) * wrap64 (7919 + ((k % L.length : Nat) : Int))))
def nextV (L : List Int) (k : Nat) (n : Int) : Int := mixV L k % n
theorem nextV_bd (L : List Int) (k : Nat) {n : Int} (h : 1 ≤ n) : 0 ≤ nextV L k n ∧ nextV L k n < n := ⟨Int.emod_nonneg _ (by omega), Int.emod_lt_of_pos _ (by omega)⟩
theorem tmodX_neg {x n : Int} (h : 1 ≤ n) (hx : x.tmod n < 0) : x.tmod n + n = x % n := by
 have h2 : x.tmod n = x - n * x.tdiv n := by have := Int.mul_tdiv_add_tmod x n; omega
 have h3 := tmod_lo x n h
 have h4 : (x.tmod n + n) % n = x % n := by
  rw [Int.add_emod_right, h2, Int.sub_mul_emod_self_left]
 rw [← h4]
 exact (Int.emod_eq_of_lt (by omega) (by omega)).symm
theorem tmodX_pos {x n : Int} (h : 1 ≤ n) (hx : ¬ x.tmod n < 0) : x.tmod n = x % n := by
 have h2 : x.tmod n = x - n * x.tdiv n := by have := Int.mul_tdiv_add_tmod x n; omega
 have h3 := tmod_lo x n h
 have h4 : (x.tmod n) % n = x % n := by
  rw [h2, Int.sub_mul_emod_self_left]
 rw [← h4]
 exact (Int.emod_eq_of_lt (by omega) (by omega)).symm
set_option maxHeartbeats 400000 in
/-- Below, exactly. -/
theorem below_x (x n : Int) (w : World) (h1 : 1 ≤ n) (h2 : n ≤ 4611686018427387904) :
 Calls Tryz.prog 89 #[.int .i64 x, .int .i64 n] w fun e w' => e = .returned (.int .i64 (x % n)) ∧ w = w' := by
 have ht := tmod_lo x n h1
 obtain ⟨t1, t2⟩ := ht
 have HN := Lib.hid (fun h => tmodX_neg (x := x) h1 h)
 have HP := Lib.hid (fun h => tmodX_pos (x := x) h1 h)
 by_cases hx : x.tmod n < 0
 ·go_enter Tryz.func89, Tryz.ntmps89
  go_wp2
  go_ret
  exact ⟨ret_of (HN.out hx), rfl⟩
 ·go_enter Tryz.func89, Tryz.ntmps89
  go_wp2
  go_ret
  exact ⟨ret_of (HP.out hx), rfl⟩
def NextXPost (base b : Nat) (L : List Int) (k : Nat) (n : Int) (w : World) (e : Ending) (w' : World) : Prop :=
 e = .returned (.int .i64 (nextV L k n)) ∧ SX base w' b L (k + 1) ∧ w.grownBy w' (some b)
set_option maxHeartbeats 1000000 in
theorem next_x (base b : Nat) (L : List Int) (k : Nat) (n : Int) (w : World) (hs : SX base w b L k) (hk : k ≤ 1000000000000) (h1 : 1 ≤ n) (h2 : n ≤ 4611686018427387904) :
 Calls Tryz.prog 41 #[.pointer (some ⟨b, 0, none⟩), .int .i64 n] w (NextXPost base b L k n w) := by
 obtain ⟨A, c, hb, hbs, hn, hcell⟩ := hs
 have c0 := hb.cell 0
 have c1 := hb.cell 1
 have f1 := hb.free 1
 simp only [List.getElem?_toArray, List.getElem?_cons_zero, List.getElem?_cons_succ] at c0 c1
 obtain ⟨len, hlen⟩ : ∃ len, L.length = len := ⟨_, rfl⟩
 rw [hlen] at hn hcell c0 hb
 rcases Nat.eq_zero_or_pos len with h0 | h0
 ·subst h0
  have HV : Hid (nextV L k n = (((k : Int) + 1) * 7919) % n) := by show _ = _; unfold nextV mixV; rw [if_pos hlen]
  have H5 := Lib.hid hcell
  clear hcell
  have HLN := Lib.hid hlen
  clear hlen
  go_enter Tryz.func41, Tryz.ntmps41
  go_wp2_with fail
  refine (below_x _ _ _ h1 h2).mono ?_
  rintro e w' ⟨rfl, rfl⟩
  go_wp2_with fail
  go_ret
  have hb' := hb.put 1 (.int .i64 (k + 1))
  exact ⟨ret_of HV.out.symm, ⟨A, c, by rw [HLN.out]; exact hb', hbs, by rw [HLN.out]; exact hn, fun h => absurd h (by rw [HLN.out]; omega)⟩, gr_put (gr_refl _ _) (.inl rfl) _⟩
 ·obtain ⟨ad, rfl, hab, hx⟩ := hcell h0
  have H5 := Lib.hid hcell
  clear hcell
  obtain ⟨i, hi⟩ : ∃ i, k % len = i := ⟨_, rfl⟩
  obtain ⟨r, hr⟩ : ∃ r, k / len = r := ⟨_, rfl⟩
  have hil : i < len := by rw [← hi]; exact Nat.mod_lt _ h0
  have hrk : r ≤ k := by rw [← hr]; exact Nat.div_le_self _ _
  have m1 : (k : Int) % (len : Int) = (i : Int) := by rw [← hi]; exact (Int.natCast_emod _ _).symm
  have m2 : (k : Int) / (len : Int) = (r : Int) := by rw [← hr]; exact (Int.natCast_ediv _ _).symm
  have q0 : 0 ≤ (k : Int) % (len : Int) := by omega
  have q1 : (k : Int) % (len : Int) < (len : Int) := by omega
  have q2 : 0 ≤ (k : Int) / (len : Int) := by omega
  have q3 : (k : Int) / (len : Int) ≤ (k : Int) := by omega
  have hlenb : ((len : Int) == 0) = false := by rw [beq_eq_false_iff_ne]; omega
  have hz := hx i hil
  obtain ⟨z, hzz⟩ : ∃ z, L.getD i 0 = z := ⟨_, rfl⟩
  rw [hzz] at hz
  have hz' : (w.setCell ⟨b, 1, none⟩ (.int .i64 (k + 1))).cell? (ad.add i) = some (.int .i64 z) :=
   (World.cell?_setCell_other w _ _ _ (fun e => by have := add_block ad i; rw [← e] at this; simp at this; omega)).trans hz
  have HV : Hid (nextV L k n = wrap64 (z % 1073741824 + wrap64 ((r : Int) * wrap64 (7919 + (i : Int)))) % n) := by
   show _ = _
   unfold nextV mixV
   rw [if_neg (by omega), hlen, hi, hr, hzz]
  have HX := Lib.hid hx
  have HI := Lib.hid hi
  have HR := Lib.hid hr
  have HLN := Lib.hid hlen
  have HZZ := Lib.hid hzz
  have M1 := Lib.hid m1
  have M2 := Lib.hid m2
  clear hx hz hi hr hlen hzz
  go_enter Tryz.func41, Tryz.ntmps41
  go_wp2_with fail
  go_quiet (fail)
  go_wp2_with fail
  go_quiet (fail)
  go_wp2_with fail
  refine (below_x _ _ _ (by omega) (by omega)).mono ?_
  rintro e w' ⟨rfl, rfl⟩
  go_wp2_with fail
  refine (below_x _ _ _ h1 h2).mono ?_
  rintro e w' ⟨rfl, rfl⟩
  go_wp2_with fail
  go_ret
  have hb' := hb.put 1 (.int .i64 (k + 1))
  exact ⟨ret_of HV.out.symm, ⟨some ad, c, by rw [HLN.out]; exact hb', hbs, by rw [HLN.out]; exact hn, fun _ => ⟨ad, rfl, hab, fun j hj => by
   rw [HLN.out] at hj
   exact (World.cell?_setCell_other w _ _ _ (fun e => by have := add_block ad j; rw [← e] at this; simp at this; omega)).trans (HX.out j hj)⟩⟩,
   by repeat (first | exact gr_put (gr_refl _ _) (.inl rfl) _ | refine gr_drewN ?_ _ | refine gr_drew ?_)⟩
def FlipXPost (base b : Nat) (L : List Int) (k : Nat) (n : Int) (w : World) (e : Ending) (w' : World) : Prop :=
 e = .returned (.bool (decide (nextV L k n = 0))) ∧ SX base w' b L (k + 1) ∧ w.grownBy w' (some b)
set_option maxHeartbeats 400000 in
theorem flip_x (base b : Nat) (L : List Int) (k : Nat) (n : Int) (w : World) (hs : SX base w b L k) (hk : k ≤ 1000000000000) (h1 : 1 ≤ n) (h2 : n ≤ 4611686018427387904) :
 Calls Tryz.prog 40 #[.pointer (some ⟨b, 0, none⟩), .int .i64 n] w (FlipXPost base b L k n w) := by
 have HN := Lib.hid (fun W (h : SX base W b L k) => next_x base b L k n W h hk h1 h2)
 obtain ⟨v, hv⟩ : ∃ v, nextV L k n = v := ⟨_, rfl⟩
 have HV := Lib.hid hv
 by_cases h0 : v = 0
 ·have HD : Hid (decide (nextV L k n = 0) = true) := by show _ = _; rw [HV.out]; simpa using h0
  subst h0
  clear hv
  go_enter Tryz.func40, Tryz.ntmps40
  go_wp2_with fail
  refine (HN.out _ hs).mono ?_
  rintro e w1 ⟨rfl, hs1, hg1⟩
  rw [HV.out]
  go_wp2_with fail
  go_ret
  exact ⟨ret_b HD.out.symm, hs1, hg1⟩
 ·have HD : Hid (decide (nextV L k n = 0) = false) := by show _ = _; rw [HV.out]; simpa using h0
  have h0b : (v == 0) = false := by simpa using h0
  clear hv
  go_enter Tryz.func40, Tryz.ntmps40
  go_wp2_with fail
  refine (HN.out _ hs).mono ?_
  rintro e w1 ⟨rfl, hs1, hg1⟩
  rw [HV.out]
  go_wp2_with fail
  go_ret
  exact ⟨ret_b HD.out.symm, hs1, hg1⟩
/-- One of the numbers. -/
def pickV (L : List Int) (k : Nat) (xs : List Int) : Int := xs.getD (nextV L k (xs.length : Int)).toNat 0
theorem pickV_mem (L : List Int) (k : Nat) {xs : List Int} (h : 0 < xs.length) : pickV L k xs ∈ xs := by
 have := nextV_bd L k (n := (xs.length : Int)) (by omega)
 unfold pickV
 rw [List.getD_eq_getElem?_getD, List.getElem?_eq_getElem (by omega)]
 exact List.getElem_mem _
def PickXPost (base b : Nat) (L : List Int) (k : Nat) (xs : List Int) (w : World) (e : Ending) (w' : World) : Prop :=
 e = .returned (.int .i64 (pickV L k xs)) ∧ SX base w' b L (k + 1) ∧ w.grownBy w' (some b)
set_option maxHeartbeats 400000 in
theorem pick_x (base b : Nat) (L : List Int) (k g m c : Nat) (xs : List Int) (w : World) (hs : SX base w b L k) (hk : k ≤ 1000000000000) (hg : Blk w g 3 (xs.map (Value.int .i64)).toArray) (hne : g ≠ b) (hm : m = xs.length) (h1 : 1 ≤ m) (h2 : m ≤ 1000) :
 Calls Tryz.prog 44 #[.pointer (some ⟨b, 0, none⟩), .slice (some ⟨g, 0, none⟩) m c] w (PickXPost base b L k xs w) := by
 subst hm
 have HN := Lib.hid (fun W (h : SX base W b L k) => next_x base b L k (xs.length : Int) W h hk (by omega) (by omega))
 have hbd := nextV_bd L k (n := (xs.length : Int)) (by omega)
 obtain ⟨v, hv⟩ : ∃ v, nextV L k (xs.length : Int) = v := ⟨_, rfl⟩
 rw [hv] at hbd
 obtain ⟨hv0, hv1⟩ := hbd
 obtain ⟨i, rfl⟩ := Int.eq_ofNat_of_zero_le hv0
 have HV := Lib.hid hv
 have hi : i < xs.length := by omega
 obtain ⟨z, hz⟩ : ∃ z, xs[i] = z := ⟨_, rfl⟩
 have HR : Hid (pickV L k xs = z) := by
  show _ = _
  unfold pickV
  rw [hv, List.getD_eq_getElem?_getD, Int.toNat_natCast, List.getElem?_eq_getElem hi]
  exact hz
 have HC : Hid (∀ W : World, w.grownBy W (some b) → W.cell? ⟨g, i, none⟩ = some (.int .i64 z)) := fun W hW => by
  rw [(hg.grown hW (by simpa using hne)).cell i, getD_of hi, hz]
 clear hv hz
 generalize hM : xs.length = M at *
 have HMM := Lib.hid hM
 clear hM
 go_enter Tryz.func44, Tryz.ntmps44
 go_wp2_with fail
 refine (HN.out _ hs).mono ?_
 rintro e w1 ⟨rfl, hs1, hg1⟩
 have hc := HC.out _ hg1
 rw [HV.out]
 go_wp2_with fail
 go_ret
 exact ⟨ret_of HR.out.symm, hs1, hg1⟩
theorem pick_xat (base b : Nat) (L : List Int) (k g m c : Nat) (xs : List Int) (w : World) (hs : SX base w b L k) (hg : g = w.heap.size) (hk : k ≤ 1000000000000) (hm : m = xs.length) (h1 : 1 ≤ m) (h2 : m ≤ 1000) :
 Calls Tryz.prog 44 #[.pointer (some ⟨b, 0, none⟩), .slice (some ⟨g, 0, none⟩) m c] (w.alloc (.cells (xs.map (Value.int .i64)).toArray 3)) (PickXPost base b L k xs w) := by
 subst hg
 exact (pick_x base b L k _ m c xs _ (hs.alloc _) hk (Blk.new _ _ _) (by have := hs.lt; omega) hm h1 h2).mono fun e w' ⟨he, hs', hg⟩ =>
  ⟨he, hs', gr_trans (World.grownBy_alloc w _ _) hg⟩
/-! ### The same with the value under a name, the equation hidden. -/
def NextEPost (base b : Nat) (L : List Int) (k : Nat) (n : Int) (w : World) (e : Ending) (w' : World) : Prop :=
 ∃ v : Int, 0 ≤ v ∧ v < n ∧ Hid (nextV L k n = v) ∧ e = .returned (.int .i64 v) ∧ SX base w' b L (k + 1) ∧ w.grownBy w' (some b)
theorem next_e (base b : Nat) (L : List Int) (k : Nat) (n : Int) (w : World) (hs : SX base w b L k) (hk : k ≤ 1000000000000) (h1 : 1 ≤ n) (h2 : n ≤ 4611686018427387904) :
 Calls Tryz.prog 41 #[.pointer (some ⟨b, 0, none⟩), .int .i64 n] w (NextEPost base b L k n w) :=
 (next_x base b L k n w hs hk h1 h2).mono fun e w' ⟨he, hs', hg⟩ => ⟨_, (nextV_bd L k h1).1, (nextV_bd L k h1).2, (rfl : _ = _), he, hs', hg⟩
def FlipEPost (base b : Nat) (L : List Int) (k : Nat) (n : Int) (w : World) (e : Ending) (w' : World) : Prop :=
 ∃ v : Bool, Hid (decide (nextV L k n = 0) = v) ∧ e = .returned (.bool v) ∧ SX base w' b L (k + 1) ∧ w.grownBy w' (some b)
theorem flip_e (base b : Nat) (L : List Int) (k : Nat) (n : Int) (w : World) (hs : SX base w b L k) (hk : k ≤ 1000000000000) (h1 : 1 ≤ n) (h2 : n ≤ 4611686018427387904) :
 Calls Tryz.prog 40 #[.pointer (some ⟨b, 0, none⟩), .int .i64 n] w (FlipEPost base b L k n w) :=
 (flip_x base b L k n w hs hk h1 h2).mono fun e w' ⟨he, hs', hg⟩ => ⟨_, (rfl : _ = _), he, hs', hg⟩
def PickEPost (base b : Nat) (L : List Int) (k : Nat) (xs : List Int) (w : World) (e : Ending) (w' : World) : Prop :=
 ∃ v : Int, v ∈ xs ∧ Hid (pickV L k xs = v) ∧ e = .returned (.int .i64 v) ∧ SX base w' b L (k + 1) ∧ w.grownBy w' (some b)
theorem pick_e (base b : Nat) (L : List Int) (k g m c : Nat) (xs : List Int) (w : World) (hs : SX base w b L k) (hk : k ≤ 1000000000000) (hg : Blk w g 3 (xs.map (Value.int .i64)).toArray) (hne : g ≠ b) (hm : m = xs.length) (h1 : 1 ≤ m) (h2 : m ≤ 1000) :
 Calls Tryz.prog 44 #[.pointer (some ⟨b, 0, none⟩), .slice (some ⟨g, 0, none⟩) m c] w (PickEPost base b L k xs w) :=
 (pick_x base b L k g m c xs w hs hk hg hne hm h1 h2).mono fun e w' ⟨he, hs', hg⟩ => ⟨_, pickV_mem L k (by omega), (rfl : _ = _), he, hs', hg⟩
theorem pick_eat (base b : Nat) (L : List Int) (k g m c : Nat) (xs : List Int) (w : World) (hs : SX base w b L k) (hg : g = w.heap.size) (hk : k ≤ 1000000000000) (hm : m = xs.length) (h1 : 1 ≤ m) (h2 : m ≤ 1000) :
 Calls Tryz.prog 44 #[.pointer (some ⟨b, 0, none⟩), .slice (some ⟨g, 0, none⟩) m c] (w.alloc (.cells (xs.map (Value.int .i64)).toArray 3)) (PickEPost base b L k xs w) :=
 (pick_xat base b L k g m c xs w hs hg hk hm h1 h2).mono fun e w' ⟨he, hs', hg⟩ => ⟨_, pickV_mem L k (by omega), (rfl : _ = _), he, hs', hg⟩
/-- The numbers that came in, told exactly. -/
def InX (w : World) (A : Option Addr) (n : Nat) : Prop :=
 n ≤ 9223372036854775807 ∧ ∃ L : List Int, L.length = n ∧ (0 < n → ∃ ad, A = some ad ∧ ad.block < w.heap.size ∧ ∀ j, j < n → w.cell? (ad.add j) = some (.int .i64 (L.getD j 0)))
theorem SX.start {w w' : World} {A : Option Addr} {n c b : Nat} {L : List Int} (hn : n ≤ 9223372036854775807) (hL : L.length = n) (h : 0 < n → ∃ ad, A = some ad ∧ ad.block < w.heap.size ∧ ∀ j, j < n → w.cell? (ad.add j) = some (.int .i64 (L.getD j 0)))
 (hg : w.grownBy w' none) (hb : Blk w' b 25 #[.slice A n c, .int .i64 0]) (hbs : w.heap.size ≤ b) : SX w.heap.size w' b L 0 := by
 subst hL
 refine ⟨A, c, hb, hbs, hn, fun h0 => ?_⟩
 obtain ⟨ad, e, hlt, hc⟩ := h h0
 exact ⟨ad, e, hlt, fun j hj => (World.cell?_of_block (hg.block _ (by rw [add_block]; exact hlt) (by simp))).trans (hc j hj)⟩
end Go.Proofs.YtbpkfkbbkgdlaaaGreatDoor

namespace Go.Proofs.YtbpkfkbbkgdlaaaGreatDoor
open Go.RowKit
set_option linter.unusedVariables false

def outB (n l h : Int) : Bool := decide (n < l) || decide (h < n)
theorem outB_no {n l h : Int} (h1 : l ≤ n) (h2 : n ≤ h) : outB n l h = false := by unfold outB; simp; omega
theorem outB_yes {n l h : Int} (h1 : n < l ∨ h < n) : outB n l h = true := by unfold outB; simp; omega
def spanE (n l h : Int) : Int := if outB n l h then 1 else 0
def momE (at_ : Int) : Int := spanE at_ 0 345686399999
theorem spanE_no {n l h : Int} (h1 : l ≤ n) (h2 : n ≤ h) : spanE n l h = 0 := by unfold spanE; rw [outB_no h1 h2]; rfl
theorem spanE_yes {n l h : Int} (h1 : n < l ∨ h < n) : spanE n l h = 1 := by unfold spanE; rw [outB_yes h1]; rfl
theorem spanE_cases (n l h : Int) : (spanE n l h = 0 ∧ l ≤ n ∧ n ≤ h) ∨ (spanE n l h = 1 ∧ (n < l ∨ h < n)) := by
 by_cases hh : l ≤ n ∧ n ≤ h
 ·exact .inl ⟨spanE_no hh.1 hh.2, hh⟩
 ·have h' : n < l ∨ h < n := by omega
  exact .inr ⟨spanE_yes h', h'⟩
set_option maxHeartbeats 400000 in
theorem outside_any (n l h : Int) (w : World) :
 Calls Tryz.prog 96 #[.int .i64 n, .int .i64 l, .int .i64 h] w fun e w' => e = .returned (.bool (outB n l h)) ∧ w = w' := by
 by_cases h1 : n < l
 ·have HE := Lib.hid (show outB n l h = true from outB_yes (.inl h1))
  go_enter Tryz.func96, Tryz.ntmps96
  go_wp2_with fail
  go_ret
  exact ⟨ret_b HE.out.symm, rfl⟩
 ·by_cases h2 : h < n
  ·have HE := Lib.hid (show outB n l h = true from outB_yes (.inr h2))
   go_enter Tryz.func96, Tryz.ntmps96
   go_wp2_with fail
   go_ret
   exact ⟨ret_b HE.out.symm, rfl⟩
  ·have HE := Lib.hid (show outB n l h = false from outB_no (by omega) (by omega))
   go_enter Tryz.func96, Tryz.ntmps96
   go_wp2_with fail
   go_ret
   exact ⟨ret_b HE.out.symm, rfl⟩
set_option maxHeartbeats 400000 in
theorem in_any (n l h : Int) (w : World) :
 Calls Tryz.prog 50 #[.int .i64 n, .int .i64 l, .int .i64 h] w fun e w' => e = .returned (.bool (!outB n l h)) ∧ w = w' := by
 by_cases h1 : n < l
 ·have HE := Lib.hid (show outB n l h = true from outB_yes (.inl h1))
  go_enter Tryz.func50, Tryz.ntmps50
  go_wp2_with fail
  go_ret
  exact ⟨ret_b (by rw [HE.out]; first | rfl | (simp; omega)), rfl⟩
 ·by_cases h2 : h < n
  ·have HE := Lib.hid (show outB n l h = true from outB_yes (.inr h2))
   go_enter Tryz.func50, Tryz.ntmps50
   go_wp2_with fail
   go_ret
   exact ⟨ret_b (by rw [HE.out]; first | rfl | (simp; omega)), rfl⟩
  ·have HE := Lib.hid (show outB n l h = false from outB_no (by omega) (by omega))
   go_enter Tryz.func50, Tryz.ntmps50
   go_wp2_with fail
   go_ret
   exact ⟨ret_b (by rw [HE.out]; first | rfl | (simp; omega)), rfl⟩
set_option maxHeartbeats 400000 in
theorem isMoment_any (n : Int) (w : World) :
 Calls Tryz.prog 55 #[.int .i64 n] w fun e w' => e = .returned (.bool (!outB n 0 345686399999)) ∧ w = w' := by
 go_enter Tryz.func55, Tryz.ntmps55
 go_wp2_with fail
 refine (outside_any _ _ _ _).mono ?_
 rintro e w' ⟨rfl, rfl⟩
 go_wp2_with fail
 go_ret
 exact ⟨rfl, rfl⟩
set_option maxHeartbeats 400000 in
theorem spanFault_any (n l h : Int) (w : World) :
 Calls Tryz.prog 68 #[.int .i64 n, .int .i64 l, .int .i64 h] w fun e w' => e = .returned (.int .i64 (spanE n l h)) ∧ w = w' := by
 rcases hb : outB n l h
 all_goals
  have HE := Lib.hid hb
  go_enter Tryz.func68, Tryz.ntmps68
  go_wp2_with fail
  refine (in_any _ _ _ _).mono ?_
  rintro e w' ⟨rfl, rfl⟩
  go_wp2_with fail
  go_ret
  exact ⟨ret_of (by unfold spanE; rw [HE.out]; rfl), rfl⟩
set_option maxHeartbeats 400000 in
theorem momentFault_any (n : Int) (w : World) :
 Calls Tryz.prog 20 #[.int .i64 n] w fun e w' => e = .returned (.int .i64 (momE n)) ∧ w = w' := by
 go_enter Tryz.func20, Tryz.ntmps20
 go_wp2_with fail
 refine (spanFault_any _ _ _ _).mono ?_
 rintro e w' ⟨rfl, rfl⟩
 go_wp2_with fail
 go_ret
 exact ⟨rfl, rfl⟩
theorem getE_of {xs : List Int} {i : Nat} (h : i < xs.length) : ((xs.map (Value.int .i64)).toArray)[i]? = some (.int .i64 xs[i]) := by simp [h]
/-- The first error of a list. -/
def orL : List Int → Int
 | [] => 0
 | a :: r => if a = 0 then orL r else a
set_option maxHeartbeats 400000 in
theorem or_any (xs : List Int) (g m c : Nat) (w : World) (hg : Blk w g 34 (xs.map (Value.int .i64)).toArray) (hm : m = xs.length) (h1 : m ≤ 1000) :
 Calls Tryz.prog 18 #[.slice (some ⟨g, 0, none⟩) m c] w fun r w' => r = .returned (.int .i64 (orL xs)) ∧ w = w' := by
 have HM := Lib.hid hm
 clear hm
 go_enter Tryz.func18, Tryz.ntmps18
 go_wp2_with fail
 go_loop [8] (fun i => ∃ k : Nat, k ≤ m ∧ i = .int .i64 k ∧ Hid (orL xs = orL (xs.drop k))) (fun i => m - (intOf i).toNat)
 case atStart => exact ⟨0, by omega, rfl, rfl⟩
 case round =>
  obtain ⟨k, hk, rfl, HR⟩ := hrel
  by_cases hlt : k < m
  ·have hi : k < xs.length := by have := HM.out; omega
   have hc := hg.cell k
   rw [getE_of hi] at hc
   obtain ⟨z, hz⟩ : ∃ z, z = xs[k] := ⟨_, rfl⟩
   rw [← hz] at hc
   have HZ : Hid (orL (xs.drop k) = if z = 0 then orL (xs.drop (k + 1)) else z) := by
    show orL (xs.drop k) = _
    rw [List.drop_eq_getElem_cons hi, ← hz]
    rfl
   clear hz
   by_cases h0 : z = 0
   ·have hne : (z != 0) = false := by simp [h0]
    have HZ2 : Hid (orL xs = orL (xs.drop (k + 1))) := by
     show orL xs = _
     rw [HR.out, HZ.out, if_pos h0]
    have H0 := Lib.hid h0
    clear h0
    go_wp2_with fail
    go_round
    case rel => exact ⟨k + 1, by omega, by go_num, HZ2⟩
    case measure => simp [intOf]; omega
   ·have hne : (z != 0) = true := by simpa using h0
    have HZ2 : Hid (orL xs = z) := by
     show orL xs = _
     rw [HR.out, HZ.out, if_neg h0]
    clear h0
    go_wp2_with fail
    go_ret
    exact ⟨ret_of HZ2.out.symm, rfl⟩
  ·have HZ2 : Hid (orL xs = 0) := by
    show orL xs = _
    rw [HR.out, List.drop_of_length_le (by have := HM.out; omega)]
    rfl
   go_wp2_with fail
   go_ret
   exact ⟨ret_of HZ2.out.symm, rfl⟩
/-- cmp.Or of two errors that have just been laid. -/
theorem or2_any (a b : Int) (w : World) :
 Calls Tryz.prog 18 #[.slice (some ⟨w.heap.size, 0, none⟩) 2 2] (w.alloc (.cells #[.int .i64 a, .int .i64 b] 34)) fun r w' =>
  r = .returned (.int .i64 (if a = 0 then b else a)) ∧ w.grownBy w' none :=
 (or_any [a, b] _ 2 2 _ (Blk.new w _ _) rfl (by decide)).mono fun e w' ⟨he, hw⟩ => ⟨by rw [he]; exact ret_of (by simp only [orL]; split <;> (try split) <;> simp_all), by rw [← hw]; exact World.grownBy_alloc w _ none⟩
/-- cmp.Or of three, of four errors that have just been laid. -/
theorem or3_any (a b d : Int) (w : World) :
 Calls Tryz.prog 18 #[.slice (some ⟨w.heap.size, 0, none⟩) 3 3] (w.alloc (.cells #[.int .i64 a, .int .i64 b, .int .i64 d] 34)) fun r w' =>
  r = .returned (.int .i64 (orL [a, b, d])) ∧ w.grownBy w' none :=
 (or_any [a, b, d] _ 3 3 _ (Blk.new w _ _) rfl (by decide)).mono fun e w' ⟨he, hw⟩ => ⟨he, by rw [← hw]; exact World.grownBy_alloc w _ none⟩
theorem orL1 (a : Int) : orL [a] = a := by
 by_cases h : a = 0 <;> simp [orL, h]
theorem orL_cons (a : Int) (r : List Int) : orL (a :: r) = if a = 0 then orL r else a := rfl
theorem momE_cases (a : Int) : (momE a = 0 ∧ outB a 0 345686399999 = false ∧ 0 ≤ a ∧ a ≤ 345686399999) ∨ (momE a = 1 ∧ outB a 0 345686399999 = true) := by
 unfold momE
 rcases spanE_cases a 0 345686399999 with ⟨h, h1, h2⟩ | ⟨h, h1⟩
 ·exact .inl ⟨h, outB_no h1 h2, h1, h2⟩
 ·exact .inr ⟨h, outB_yes h1⟩
end Go.Proofs.YtbpkfkbbkgdlaaaGreatDoor

namespace Go.Proofs.YtbpkfkbbkgdlaaaGreatDoor
open Go.RowKit
set_option linter.unusedVariables false

theorem ownsRow_low {w : World} {base base' : Nat} {e : TypeId} {size : Nat} {v : Value} {n : Nat} {xs : List Value} (h : w.ownsRow base e size v n xs) (hb : base' ≤ base) : w.ownsRow base' e size v n xs := by
 obtain ⟨h1, h2⟩ := h
 refine ⟨h1, ?_⟩
 rcases h2 with h2 | ⟨g, cap, cur, hv, hg, r⟩
 ·exact .inl h2
 ·exact .inr ⟨g, cap, cur, hv, by omega, r⟩
theorem ownsRow_grown {w w' : World} {base : Nat} {e : TypeId} {size : Nat} {v : Value} {n : Nat} {xs : List Value} (h : w.ownsRow base e size v n xs) (hg : w.grownBy w' none) : w'.ownsRow base e size v n xs :=
 h.kept hg (by cases v.ownBlock <;> simp)
theorem ownsRow_other {w w' : World} {base b : Nat} {e : TypeId} {size : Nat} {v : Value} {n : Nat} {xs : List Value} (h : w.ownsRow base e size v n xs) (hg : w.grownBy w' (some b)) (hb : b < base) : w'.ownsRow base e size v n xs :=
 h.kept hg (by
  cases hv : v.ownBlock with
  | none => exact .inl rfl
  | some g => exact .inr (fun e => by injection e with e; have := (h.lt g hv).1; omega))
theorem ownsRow_shape {w : World} {base : Nat} {e : TypeId} {size : Nat} {v : Value} {n : Nat} {xs : List Value} (h : w.ownsRow base e size v n xs) :
 ∃ A c, v = .slice A n c ∧ n ≤ 9223372036854775807 ∧ (0 < n → ∃ g, A = some ⟨g, 0, none⟩ ∧ base ≤ g ∧ g < w.heap.size) := by
 rcases h.2 with ⟨rfl, rfl⟩ | ⟨g, cap, cur, rfl, hb, hh, hnc, hm, _⟩
 ·exact ⟨none, 0, rfl, by omega, fun h => absurd h (by omega)⟩
 ·unfold maxLen at hm
  exact ⟨_, _, rfl, by omega, fun _ => ⟨g, rfl, hb, (Array.getElem?_eq_some_iff.1 hh).1⟩⟩
/-- The numbers of a slice, that lies in a block from base on. -/
def IntsFrom (base : Nat) (w : World) (v : Value) (l : List Int) : Prop := w.ownsRow base 3 1 v l.length (l.map (Value.int .i64))
abbrev Ints (w : World) (v : Value) (l : List Int) : Prop := IntsFrom 0 w v l
theorem IntsFrom.low {base : Nat} {w : World} {v : Value} {l : List Int} (h : IntsFrom base w v l) : Ints w v l := ownsRow_low h (Nat.zero_le _)
theorem IntsFrom.grown {base : Nat} {w w' : World} {v : Value} {l : List Int} (h : IntsFrom base w v l) (hg : w.grownBy w' none) : IntsFrom base w' v l := ownsRow_grown h hg
theorem IntsFrom.other {base b : Nat} {w w' : World} {v : Value} {l : List Int} (h : IntsFrom base w v l) (hg : w.grownBy w' (some b)) (hb : b < base) : IntsFrom base w' v l := ownsRow_other h hg hb
theorem IntsFrom.nil (base : Nat) (w : World) : IntsFrom base w (.slice none 0 0) [] := World.ownsRow_nil _ _ _ _
theorem IntsFrom.shape {base : Nat} {w : World} {v : Value} {l : List Int} (h : IntsFrom base w v l) :
 ∃ A c, v = .slice A l.length c ∧ l.length ≤ 9223372036854775807 ∧ (0 < l.length → ∃ g, A = some ⟨g, 0, none⟩ ∧ base ≤ g ∧ g < w.heap.size) := ownsRow_shape h
theorem IntsFrom.at_ {base : Nat} {w : World} {g c : Nat} {l : List Int} (h : IntsFrom base w (.slice (some ⟨g, 0, none⟩) l.length c) l) (k : Nat) (hk : k < l.length) : w.cell? ⟨g, k, none⟩ = some (.int .i64 l[k]) := by
 rw [World.ownsRow.cellAt h k (by omega)]
 simp [hk]
theorem intInfo : (Tryz.prog.info? 3).map (fun i => (i.zero, i.size, i.bytes)) = some (some (.int .i64 0), 1, 8) := by kernel_rfl
theorem one_cell (w : World) (x : Int) (t : TypeId) : ∀ j u, ([Value.int .i64 x])[j]? = some u → (w.alloc (.cells #[.int .i64 x] t)).cell? ((⟨w.heap.size, 0, none⟩ : Addr).add j) = some u := by
 intro j u hu
 have hb := (Blk.new w t #[.int .i64 x]).cell j
 have hadd : (⟨w.heap.size, 0, none⟩ : Addr).add j = ⟨w.heap.size, j, none⟩ := by unfold Addr.add; split <;> simp_all
 rw [hadd, hb]
 simpa using hu
theorem one_oneCell (x : Int) : ∀ u ∈ [Value.int .i64 x], u.oneCell' = true := by
 intro u hu
 simp at hu
 subst hu
 rfl
end Go.Proofs.YtbpkfkbbkgdlaaaGreatDoor

namespace Go.Proofs
open Go.Shelf
def Tryz.lays160_ren : Go.Shelf.Ren := ⟨fun | 160 => 85 | 232 => 139 | 231 => 138 | 227 => 140 | 234 => 142 | 233 => 141 | 236 => 144 | 235 => 143 | 228 => 174 | 271 => 177 | 151 => 176 | 197 => 175 | 120 => 218 | 152 => 212 | 260 => 217 | 137 => 98 | 119 => 238 | 224 => 229 | 225 => 228 | 217 => 151 | 266 => 185 | n => n, fun | 9 => 9 | 4 => 4 | 3 => 3 | 5 => 5 | 117 => 176 | 116 => 175 | 0 => 0 | 124 => 179 | 21 => 21 | 105 => 197 | 46 => 188 | 119 => 254 | 139 => 257 | 138 => 256 | n => n, fun | 3 => 4 | 4 => 5 | n => n⟩
theorem Tryz.lays160 : Go.Proofs.Lays.n160 Tryz.prog Tryz.lays160_ren := {
 mixed := by kernel_rfl
 f119 := Tryz.func238.trans (congrArg some (by kernel_rfl))
 f120 := Tryz.func218.trans (congrArg some (by kernel_rfl))
 f137 := Tryz.func98.trans (congrArg some (by kernel_rfl))
 f151 := Tryz.func176.trans (congrArg some (by kernel_rfl))
 f152 := Tryz.func212.trans (congrArg some (by kernel_rfl))
 f160 := Tryz.func85.trans (congrArg some (by kernel_rfl))
 f197 := Tryz.func175.trans (congrArg some (by kernel_rfl))
 f217 := Tryz.func151.trans (congrArg some (by kernel_rfl))
 f224 := Tryz.func229.trans (congrArg some (by kernel_rfl))
 f225 := Tryz.func228.trans (congrArg some (by kernel_rfl))
 f227 := Tryz.func140.trans (congrArg some (by kernel_rfl))
 f228 := Tryz.func174.trans (congrArg some (by kernel_rfl))
 f231 := Tryz.func138.trans (congrArg some (by kernel_rfl))
 f232 := Tryz.func139.trans (congrArg some (by kernel_rfl))
 f233 := Tryz.func141.trans (congrArg some (by kernel_rfl))
 f234 := Tryz.func142.trans (congrArg some (by kernel_rfl))
 f235 := Tryz.func143.trans (congrArg some (by kernel_rfl))
 f236 := Tryz.func144.trans (congrArg some (by kernel_rfl))
 f260 := Tryz.func217.trans (congrArg some (by kernel_rfl))
 f266 := Tryz.func185.trans (congrArg some (by kernel_rfl))
 f271 := Tryz.func177.trans (congrArg some (by kernel_rfl))
 t0 := Tryz.underlying0
 a0 := Tryz.isAgg0
 z0 := Tryz.sizeOf0
 v0 := Tryz.zeroValue0
 t3 := Tryz.underlying3
 a3 := Tryz.isAgg3
 z3 := Tryz.sizeOf3
 v3 := Tryz.zeroValue3
 t4 := Tryz.underlying4
 a4 := Tryz.isAgg4
 z4 := Tryz.sizeOf4
 v4 := Tryz.zeroValue4
 t5 := Tryz.underlying5
 a5 := Tryz.isAgg5
 z5 := Tryz.sizeOf5
 v5 := Tryz.zeroValue5
 t9 := Tryz.underlying9
 a9 := Tryz.isAgg9
 z9 := Tryz.sizeOf9
 v9 := Tryz.zeroValue9
 t21 := Tryz.underlying21
 a21 := Tryz.isAgg21
 z21 := Tryz.sizeOf21
 v21 := Tryz.zeroValue21
 t46 := Tryz.underlying188
 a46 := Tryz.isAgg188
 z46 := Tryz.sizeOf188
 v46 := Tryz.zeroValue188
 t105 := Tryz.underlying197
 a105 := Tryz.isAgg197
 z105 := Tryz.sizeOf197
 v105 := Tryz.zeroValue197
 t116 := Tryz.underlying175
 a116 := Tryz.isAgg175
 z116 := Tryz.sizeOf175
 t117 := Tryz.underlying176
 a117 := Tryz.isAgg176
 z117 := Tryz.sizeOf176
 v117 := Tryz.zeroValue176
 t119 := Tryz.underlying254
 a119 := Tryz.isAgg254
 z119 := Tryz.sizeOf254
 t124 := Tryz.underlying179
 a124 := Tryz.isAgg179
 z124 := Tryz.sizeOf179
 v124 := Tryz.zeroValue179
 t138 := Tryz.underlying256
 a138 := Tryz.isAgg256
 z138 := Tryz.sizeOf256
 v138 := Tryz.zeroValue256
 t139 := Tryz.underlying257
 a139 := Tryz.isAgg257
 z139 := Tryz.sizeOf257
 v139 := Tryz.zeroValue257
 g3 := by kernel_rfl
 g4 := by kernel_rfl }
def Tryz.lays106_ren : Go.Shelf.Ren := ⟨fun | 106 => 92 | 213 => 149 | 265 => 184 | n => n, fun | 9 => 9 | 3 => 3 | n => n, fun | n => n⟩
theorem Tryz.lays106 : Go.Proofs.Lays.n106 Tryz.prog Tryz.lays106_ren := {
 mixed := by kernel_rfl
 f106 := Tryz.func92.trans (congrArg some (by kernel_rfl))
 f213 := Tryz.func149.trans (congrArg some (by kernel_rfl))
 f265 := Tryz.func184.trans (congrArg some (by kernel_rfl))
 t3 := Tryz.underlying3
 a3 := Tryz.isAgg3
 z3 := Tryz.sizeOf3
 v3 := Tryz.zeroValue3
 t9 := Tryz.underlying9
 a9 := Tryz.isAgg9
 z9 := Tryz.sizeOf9
 v9 := Tryz.zeroValue9 }
open Go.RowKit in
/-- strings.Compare: "Compare returns an integer comparing two strings lexicographically. The result will be 0 if a == b, -1 if a < b, and +1 if a > b.": IT RETURNS 'Lib.compareBytes a b'; the world is as it was. (LAID: no walk: one application.) -/
theorem Tryz.strings_Compare (a b : ByteArray) (w : World) :
 Calls Tryz.prog 92 #[.string a, .string b] w fun e w' => e = .returned (.int .i64 (Lib.compareBytes a.data.toList b.data.toList)) ∧ w' = w := Any.strings_Compare Tryz.lays106 a b w
def Tryz.lays137_ren : Go.Shelf.Ren := ⟨fun | 137 => 98 | 217 => 151 | 266 => 185 | n => n, fun | 9 => 9 | 5 => 5 | 3 => 3 | n => n, fun | n => n⟩
theorem Tryz.lays137 : Go.Proofs.Lays.n137 Tryz.prog Tryz.lays137_ren := {
 mixed := by kernel_rfl
 f137 := Tryz.func98.trans (congrArg some (by kernel_rfl))
 f217 := Tryz.func151.trans (congrArg some (by kernel_rfl))
 f266 := Tryz.func185.trans (congrArg some (by kernel_rfl))
 t3 := Tryz.underlying3
 a3 := Tryz.isAgg3
 z3 := Tryz.sizeOf3
 v3 := Tryz.zeroValue3
 t5 := Tryz.underlying5
 a5 := Tryz.isAgg5
 z5 := Tryz.sizeOf5
 v5 := Tryz.zeroValue5
 t9 := Tryz.underlying9
 a9 := Tryz.isAgg9
 z9 := Tryz.sizeOf9
 v9 := Tryz.zeroValue9 }
open Go.RowKit in
/-- strings.IndexByte: "IndexByte returns the index of the first instance of c in s, or -1 if c is not present in s.": IT RETURNS 'Lib.indexByte s c'; the world is as it was. (LAID: no walk: one application.) -/
theorem Tryz.strings_IndexByte (s : ByteArray) (c : Int) (w : World) :
 Calls Tryz.prog 98 #[.string s, .int .u8 c] w fun e w' => e = .returned (.int .i64 (Lib.indexByte s.data.toList c.toNat.toUInt8)) ∧ w' = w := Any.strings_IndexByte Tryz.lays137 s c w
def Tryz.laysM171_ren : Go.Shelf.Ren := ⟨fun | 171 => 67 | 243 => 118 | 246 => 165 | 283 => 208 | 284 => 209 | 285 => 210 | 286 => 211 | 129 => 197 | 317 => 234 | 318 => 235 | 319 => 236 | 320 => 237 | 337 => 247 | 338 => 248 | n => n, fun | 3 => 3 | 9 => 9 | 2 => 2 | 4 => 4 | 171 => 224 | 0 => 0 | 53 => 217 | 37 => 201 | 5 => 5 | 173 => 226 | 212 => 249 | 51 => 215 | 20 => 20 | 213 => 250 | 46 => 188 | 232 => 271 | 233 => 272 | n => n, fun | 17 => 3 | 18 => 7 | 19 => 8 | n => n⟩
theorem Tryz.laysM171 : Go.Proofs.LaysM.n171 Tryz.prog Tryz.laysM171_ren := {
 mixed := by kernel_rfl
 f129 := Tryz.func197.trans (congrArg some (by kernel_rfl))
 f171 := Tryz.func67.trans (congrArg some (by kernel_rfl))
 f243 := Tryz.func118.trans (congrArg some (by kernel_rfl))
 f246 := Tryz.func165.trans (congrArg some (by kernel_rfl))
 f283 := Tryz.func208.trans (congrArg some (by kernel_rfl))
 f284 := Tryz.func209.trans (congrArg some (by kernel_rfl))
 f285 := Tryz.func210.trans (congrArg some (by kernel_rfl))
 f286 := Tryz.func211.trans (congrArg some (by kernel_rfl))
 f317 := Tryz.func234.trans (congrArg some (by kernel_rfl))
 f318 := Tryz.func235.trans (congrArg some (by kernel_rfl))
 f319 := Tryz.func236.trans (congrArg some (by kernel_rfl))
 f320 := Tryz.func237.trans (congrArg some (by kernel_rfl))
 f337 := Tryz.func247.trans (congrArg some (by kernel_rfl))
 f338 := Tryz.func248.trans (congrArg some (by kernel_rfl))
 t0 := Tryz.underlying0
 a0 := Tryz.isAgg0
 z0 := Tryz.sizeOf0
 v0 := Tryz.zeroValue0
 t2 := Tryz.underlying2
 a2 := Tryz.isAgg2
 z2 := Tryz.sizeOf2
 v2 := Tryz.zeroValue2
 t3 := Tryz.underlying3
 a3 := Tryz.isAgg3
 z3 := Tryz.sizeOf3
 v3 := Tryz.zeroValue3
 t4 := Tryz.underlying4
 a4 := Tryz.isAgg4
 z4 := Tryz.sizeOf4
 v4 := Tryz.zeroValue4
 t5 := Tryz.underlying5
 a5 := Tryz.isAgg5
 z5 := Tryz.sizeOf5
 v5 := Tryz.zeroValue5
 t9 := Tryz.underlying9
 a9 := Tryz.isAgg9
 z9 := Tryz.sizeOf9
 v9 := Tryz.zeroValue9
 t20 := Tryz.underlying20
 a20 := Tryz.isAgg20
 z20 := Tryz.sizeOf20
 v20 := Tryz.zeroValue20
 t37 := Tryz.underlying201
 a37 := Tryz.isAgg201
 z37 := Tryz.sizeOf201
 v37 := Tryz.zeroValue201
 t46 := Tryz.underlying188
 a46 := Tryz.isAgg188
 z46 := Tryz.sizeOf188
 v46 := Tryz.zeroValue188
 t51 := Tryz.underlying215
 a51 := Tryz.isAgg215
 z51 := Tryz.sizeOf215
 v51 := Tryz.zeroValue215
 t53 := Tryz.underlying217
 a53 := Tryz.isAgg217
 z53 := Tryz.sizeOf217
 v53 := Tryz.zeroValue217
 t171 := Tryz.underlying224
 a171 := Tryz.isAgg224
 z171 := Tryz.sizeOf224
 v171 := Tryz.zeroValue224
 t173 := Tryz.underlying226
 a173 := Tryz.isAgg226
 z173 := Tryz.sizeOf226
 v173 := Tryz.zeroValue226
 t212 := Tryz.underlying249
 a212 := Tryz.isAgg249
 z212 := Tryz.sizeOf249
 v212 := Tryz.zeroValue249
 t213 := Tryz.underlying250
 a213 := Tryz.isAgg250
 z213 := Tryz.sizeOf250
 t232 := Tryz.underlying271
 a232 := Tryz.isAgg271
 z232 := Tryz.sizeOf271
 v232 := Tryz.zeroValue271
 t233 := Tryz.underlying272
 a233 := Tryz.isAgg272
 z233 := Tryz.sizeOf272
 v233 := Tryz.zeroValue272
 g17 := by kernel_rfl
 g18 := by kernel_rfl
 g19 := by kernel_rfl
 i0 := by kernel_rfl
 i2 := by kernel_rfl
 i3 := by kernel_rfl
 i4 := by kernel_rfl
 i5 := by kernel_rfl
 i9 := by kernel_rfl
 i20 := by kernel_rfl
 i37 := by kernel_rfl
 i46 := by kernel_rfl
 i51 := by kernel_rfl
 i53 := by kernel_rfl
 i171 := by kernel_rfl
 i173 := by kernel_rfl
 i212 := by kernel_rfl
 i232 := by kernel_rfl
 i233 := by kernel_rfl
 m17 := by kernel_rfl
 m18 := by kernel_rfl
 m19 := by kernel_rfl }
open Go.RowKit Go.Sort Go.Lib in
/-- strconv.Itoa: "Itoa is equivalent to FormatInt(int64(i), 10).": i's DECIMAL NUMERAL ('Lib.itoa': a '-' where i is negative, then the digits), FOR EVERY int. The world behind the call: the world before it, new blocks behind the heap (the library's 'var a [24]byte'), draws. (LAID: no walk: one application.) -/
theorem Tryz.strconv_Itoa (n : Int) (h0 : -9223372036854775808 ≤ n) (h1 : n ≤ 9223372036854775807) (w : World) (htab : Lib.TabIs Tryz.prog w "internal/strconv.uint64pow10" .u64 Lib.pow10Tab) :
 Calls Tryz.prog 67 #[.int .i64 n] w fun e w' => e = .returned (.string ⟨(Lib.itoa n).toArray⟩) ∧ ∃ k os, w' = grow (w.drewN k) os := Any.strconv_Itoa Tryz.laysM171 n h0 h1 w htab
def Tryz.lays219_ren : Go.Shelf.Ren := ⟨fun | 219 => 198 | 217 => 151 | 225 => 228 | 224 => 229 | 267 => 230 | 266 => 185 | 314 => 245 | n => n, fun | 9 => 9 | 3 => 3 | 4 => 4 | 5 => 5 | 46 => 188 | 146 => 266 | 51 => 215 | n => n, fun | 1 => 0 | n => n⟩
theorem Tryz.lays219 : Go.Proofs.Lays.n219 Tryz.prog Tryz.lays219_ren := {
 mixed := by kernel_rfl
 f217 := Tryz.func151.trans (congrArg some (by kernel_rfl))
 f219 := Tryz.func198.trans (congrArg some (by kernel_rfl))
 f224 := Tryz.func229.trans (congrArg some (by kernel_rfl))
 f225 := Tryz.func228.trans (congrArg some (by kernel_rfl))
 f266 := Tryz.func185.trans (congrArg some (by kernel_rfl))
 f267 := Tryz.func230.trans (congrArg some (by kernel_rfl))
 f314 := Tryz.func245.trans (congrArg some (by kernel_rfl))
 t3 := Tryz.underlying3
 a3 := Tryz.isAgg3
 z3 := Tryz.sizeOf3
 v3 := Tryz.zeroValue3
 t4 := Tryz.underlying4
 a4 := Tryz.isAgg4
 z4 := Tryz.sizeOf4
 v4 := Tryz.zeroValue4
 t5 := Tryz.underlying5
 a5 := Tryz.isAgg5
 z5 := Tryz.sizeOf5
 v5 := Tryz.zeroValue5
 t9 := Tryz.underlying9
 a9 := Tryz.isAgg9
 z9 := Tryz.sizeOf9
 v9 := Tryz.zeroValue9
 t46 := Tryz.underlying188
 a46 := Tryz.isAgg188
 z46 := Tryz.sizeOf188
 v46 := Tryz.zeroValue188
 t51 := Tryz.underlying215
 a51 := Tryz.isAgg215
 z51 := Tryz.sizeOf215
 v51 := Tryz.zeroValue215
 t146 := Tryz.underlying266
 a146 := Tryz.isAgg266
 z146 := Tryz.sizeOf266
 v146 := Tryz.zeroValue266
 g1 := by kernel_rfl }
open Go.RowKit Go.Lib in
/-- internal/stringslite.Index (what strings.Index calls) AT A substr OF ONE BYTE c: IT RETURNS 'Lib.indexByte s c'; the world is as it was. (LAID: no walk: one application.) -/
theorem Tryz.stringslite_Index_one (s : ByteArray) (c : UInt8) (w : World) :
 Calls Tryz.prog 198 #[.string s, .string ⟨#[c]⟩] w fun e w' => e = .returned (.int .i64 (Lib.indexByte s.data.toList c)) ∧ w' = w := Any.stringslite_Index_one Tryz.lays219 s c w
def Tryz.lays144_ren : Go.Shelf.Ren := ⟨fun | 144 => 122 | 143 => 167 | 219 => 198 | 217 => 151 | 225 => 228 | 224 => 229 | 267 => 230 | 266 => 185 | 314 => 245 | n => n, fun | 9 => 9 | 4 => 4 | 3 => 3 | 5 => 5 | 46 => 188 | 146 => 266 | 51 => 215 | n => n, fun | 1 => 0 | n => n⟩
theorem Tryz.lays144 : Go.Proofs.Lays.n144 Tryz.prog Tryz.lays144_ren := {
 mixed := by kernel_rfl
 f143 := Tryz.func167.trans (congrArg some (by kernel_rfl))
 f144 := Tryz.func122.trans (congrArg some (by kernel_rfl))
 f217 := Tryz.func151.trans (congrArg some (by kernel_rfl))
 f219 := Tryz.func198.trans (congrArg some (by kernel_rfl))
 f224 := Tryz.func229.trans (congrArg some (by kernel_rfl))
 f225 := Tryz.func228.trans (congrArg some (by kernel_rfl))
 f266 := Tryz.func185.trans (congrArg some (by kernel_rfl))
 f267 := Tryz.func230.trans (congrArg some (by kernel_rfl))
 f314 := Tryz.func245.trans (congrArg some (by kernel_rfl))
 t3 := Tryz.underlying3
 a3 := Tryz.isAgg3
 z3 := Tryz.sizeOf3
 v3 := Tryz.zeroValue3
 t4 := Tryz.underlying4
 a4 := Tryz.isAgg4
 z4 := Tryz.sizeOf4
 v4 := Tryz.zeroValue4
 t5 := Tryz.underlying5
 a5 := Tryz.isAgg5
 z5 := Tryz.sizeOf5
 v5 := Tryz.zeroValue5
 t9 := Tryz.underlying9
 a9 := Tryz.isAgg9
 z9 := Tryz.sizeOf9
 v9 := Tryz.zeroValue9
 t46 := Tryz.underlying188
 a46 := Tryz.isAgg188
 z46 := Tryz.sizeOf188
 v46 := Tryz.zeroValue188
 t51 := Tryz.underlying215
 a51 := Tryz.isAgg215
 z51 := Tryz.sizeOf215
 v51 := Tryz.zeroValue215
 t146 := Tryz.underlying266
 a146 := Tryz.isAgg266
 z146 := Tryz.sizeOf266
 v146 := Tryz.zeroValue266
 g1 := by kernel_rfl }
open Go.RowKit Go.Lib in
/-- strings.Contains: "Contains reports whether substr is within s.": AT A substr OF ONE BYTE c: IT RETURNS 'decide (0 ≤ Lib.indexByte s c)'; the world is as it was. (LAID: no walk: one application.) -/
theorem Tryz.strings_Contains_one (s : ByteArray) (c : UInt8) (w : World) :
 Calls Tryz.prog 122 #[.string s, .string ⟨#[c]⟩] w fun e w' => e = .returned (.bool (decide (0 ≤ Lib.indexByte s.data.toList c))) ∧ w' = w := Any.strings_Contains_one Tryz.lays144 s c w
def Tryz.lays189_ren : Go.Shelf.Ren := ⟨fun | 189 => 115 | 125 => 160 | 257 => 164 | 128 => 196 | 129 => 197 | 294 => 199 | 295 => 200 | 296 => 201 | 297 => 202 | 298 => 203 | 299 => 204 | 216 => 205 | 300 => 206 | 301 => 207 | 328 => 231 | 329 => 223 | 330 => 224 | 331 => 232 | 332 => 233 | 215 => 150 | 343 => 246 | n => n, fun | 28 => 22 | 3 => 3 | 46 => 188 | 0 => 0 | 51 => 215 | 53 => 217 | 4 => 4 | 183 => 209 | 182 => 208 | 131 => 79 | 5 => 5 | 9 => 9 | 218 => 241 | 222 => 245 | 228 => 263 | 229 => 264 | n => n, fun | n => n⟩
theorem Tryz.lays189 : Go.Proofs.Lays.n189 Tryz.prog Tryz.lays189_ren := {
 mixed := by kernel_rfl
 f125 := Tryz.func160.trans (congrArg some (by kernel_rfl))
 f128 := Tryz.func196.trans (congrArg some (by kernel_rfl))
 f129 := Tryz.func197.trans (congrArg some (by kernel_rfl))
 f189 := Tryz.func115.trans (congrArg some (by kernel_rfl))
 f215 := Tryz.func150.trans (congrArg some (by kernel_rfl))
 f216 := Tryz.func205.trans (congrArg some (by kernel_rfl))
 f257 := Tryz.func164.trans (congrArg some (by kernel_rfl))
 f294 := Tryz.func199.trans (congrArg some (by kernel_rfl))
 f295 := Tryz.func200.trans (congrArg some (by kernel_rfl))
 f296 := Tryz.func201.trans (congrArg some (by kernel_rfl))
 f297 := Tryz.func202.trans (congrArg some (by kernel_rfl))
 f298 := Tryz.func203.trans (congrArg some (by kernel_rfl))
 f299 := Tryz.func204.trans (congrArg some (by kernel_rfl))
 f300 := Tryz.func206.trans (congrArg some (by kernel_rfl))
 f301 := Tryz.func207.trans (congrArg some (by kernel_rfl))
 f328 := Tryz.func231.trans (congrArg some (by kernel_rfl))
 f329 := Tryz.func223.trans (congrArg some (by kernel_rfl))
 f330 := Tryz.func224.trans (congrArg some (by kernel_rfl))
 f331 := Tryz.func232.trans (congrArg some (by kernel_rfl))
 f332 := Tryz.func233.trans (congrArg some (by kernel_rfl))
 f343 := Tryz.func246.trans (congrArg some (by kernel_rfl))
 t0 := Tryz.underlying0
 a0 := Tryz.isAgg0
 z0 := Tryz.sizeOf0
 v0 := Tryz.zeroValue0
 t3 := Tryz.underlying3
 a3 := Tryz.isAgg3
 z3 := Tryz.sizeOf3
 v3 := Tryz.zeroValue3
 t4 := Tryz.underlying4
 a4 := Tryz.isAgg4
 z4 := Tryz.sizeOf4
 v4 := Tryz.zeroValue4
 t5 := Tryz.underlying5
 a5 := Tryz.isAgg5
 z5 := Tryz.sizeOf5
 v5 := Tryz.zeroValue5
 t9 := Tryz.underlying9
 a9 := Tryz.isAgg9
 z9 := Tryz.sizeOf9
 v9 := Tryz.zeroValue9
 t28 := Tryz.underlying22
 a28 := Tryz.isAgg22
 z28 := Tryz.sizeOf22
 v28 := Tryz.zeroValue22
 t46 := Tryz.underlying188
 a46 := Tryz.isAgg188
 z46 := Tryz.sizeOf188
 v46 := Tryz.zeroValue188
 t51 := Tryz.underlying215
 a51 := Tryz.isAgg215
 z51 := Tryz.sizeOf215
 v51 := Tryz.zeroValue215
 t53 := Tryz.underlying217
 a53 := Tryz.isAgg217
 z53 := Tryz.sizeOf217
 v53 := Tryz.zeroValue217
 t131 := Tryz.underlying79
 a131 := Tryz.isAgg79
 z131 := Tryz.sizeOf79
 v131 := Tryz.zeroValue79
 t182 := Tryz.underlying208
 a182 := Tryz.isAgg208
 z182 := Tryz.sizeOf208
 v182 := Tryz.zeroValue208
 t183 := Tryz.underlying209
 a183 := Tryz.isAgg209
 z183 := Tryz.sizeOf209
 v183 := Tryz.zeroValue209
 t218 := Tryz.underlying241
 a218 := Tryz.isAgg241
 z218 := Tryz.sizeOf241
 v218 := Tryz.zeroValue241
 t222 := Tryz.underlying245
 a222 := Tryz.isAgg245
 z222 := Tryz.sizeOf245
 v222 := Tryz.zeroValue245
 t228 := Tryz.underlying263
 a228 := Tryz.isAgg263
 z228 := Tryz.sizeOf263
 v228 := Tryz.zeroValue263
 t229 := Tryz.underlying264
 a229 := Tryz.isAgg264
 z229 := Tryz.sizeOf264
 v229 := Tryz.zeroValue264 }
open Go.Sort Go.RowKit in
theorem Tryz.slices_Sort_int (blk off cap : Nat) (zs : List Int) (w : World) (hH : Holds (Value.int .i64) w blk off zs.toArray) (hblk : blk < w.heap.size) (hsz : zs.length < 4611686018427387904) :
 Calls Tryz.prog 115 #[.slice (some ⟨blk, off, none⟩) zs.length cap] w fun e w' =>
  e = .returned (.tuple #[]) ∧ ∃ n os, w' = grow (putRow (Value.int .i64) (Sort.ahead w n) blk off (zs.mergeSort fun x y => decide (x ≤ y)).toArray) os := Any.slices_Sort_int Tryz.lays189 blk off cap zs w hH hblk hsz
def Tryz.lays190_ren : Go.Shelf.Ren := ⟨fun | 190 => 109 | 125 => 160 | 258 => 159 | 128 => 196 | 129 => 197 | 302 => 187 | 303 => 188 | 304 => 189 | 305 => 190 | 306 => 191 | 307 => 192 | 308 => 193 | 309 => 194 | 310 => 195 | 333 => 222 | 329 => 223 | 330 => 224 | 334 => 225 | 335 => 226 | 336 => 227 | 344 => 244 | n => n, fun | 31 => 31 | 9 => 9 | 3 => 3 | 46 => 188 | 0 => 0 | 51 => 215 | 53 => 217 | 4 => 4 | 183 => 209 | 182 => 208 | 131 => 79 | 5 => 5 | 218 => 241 | 222 => 245 | 228 => 263 | 229 => 264 | n => n, fun | n => n⟩
theorem Tryz.lays190 : Go.Proofs.Lays.n190 Tryz.prog Tryz.lays190_ren := {
 mixed := by kernel_rfl
 f125 := Tryz.func160.trans (congrArg some (by kernel_rfl))
 f128 := Tryz.func196.trans (congrArg some (by kernel_rfl))
 f129 := Tryz.func197.trans (congrArg some (by kernel_rfl))
 f190 := Tryz.func109.trans (congrArg some (by kernel_rfl))
 f258 := Tryz.func159.trans (congrArg some (by kernel_rfl))
 f302 := Tryz.func187.trans (congrArg some (by kernel_rfl))
 f303 := Tryz.func188.trans (congrArg some (by kernel_rfl))
 f304 := Tryz.func189.trans (congrArg some (by kernel_rfl))
 f305 := Tryz.func190.trans (congrArg some (by kernel_rfl))
 f306 := Tryz.func191.trans (congrArg some (by kernel_rfl))
 f307 := Tryz.func192.trans (congrArg some (by kernel_rfl))
 f308 := Tryz.func193.trans (congrArg some (by kernel_rfl))
 f309 := Tryz.func194.trans (congrArg some (by kernel_rfl))
 f310 := Tryz.func195.trans (congrArg some (by kernel_rfl))
 f329 := Tryz.func223.trans (congrArg some (by kernel_rfl))
 f330 := Tryz.func224.trans (congrArg some (by kernel_rfl))
 f333 := Tryz.func222.trans (congrArg some (by kernel_rfl))
 f334 := Tryz.func225.trans (congrArg some (by kernel_rfl))
 f335 := Tryz.func226.trans (congrArg some (by kernel_rfl))
 f336 := Tryz.func227.trans (congrArg some (by kernel_rfl))
 f344 := Tryz.func244.trans (congrArg some (by kernel_rfl))
 t0 := Tryz.underlying0
 a0 := Tryz.isAgg0
 z0 := Tryz.sizeOf0
 v0 := Tryz.zeroValue0
 t3 := Tryz.underlying3
 a3 := Tryz.isAgg3
 z3 := Tryz.sizeOf3
 v3 := Tryz.zeroValue3
 t4 := Tryz.underlying4
 a4 := Tryz.isAgg4
 z4 := Tryz.sizeOf4
 v4 := Tryz.zeroValue4
 t5 := Tryz.underlying5
 a5 := Tryz.isAgg5
 z5 := Tryz.sizeOf5
 v5 := Tryz.zeroValue5
 t9 := Tryz.underlying9
 a9 := Tryz.isAgg9
 z9 := Tryz.sizeOf9
 v9 := Tryz.zeroValue9
 t31 := Tryz.underlying31
 a31 := Tryz.isAgg31
 z31 := Tryz.sizeOf31
 v31 := Tryz.zeroValue31
 t46 := Tryz.underlying188
 a46 := Tryz.isAgg188
 z46 := Tryz.sizeOf188
 v46 := Tryz.zeroValue188
 t51 := Tryz.underlying215
 a51 := Tryz.isAgg215
 z51 := Tryz.sizeOf215
 v51 := Tryz.zeroValue215
 t53 := Tryz.underlying217
 a53 := Tryz.isAgg217
 z53 := Tryz.sizeOf217
 v53 := Tryz.zeroValue217
 t131 := Tryz.underlying79
 a131 := Tryz.isAgg79
 z131 := Tryz.sizeOf79
 v131 := Tryz.zeroValue79
 t182 := Tryz.underlying208
 a182 := Tryz.isAgg208
 z182 := Tryz.sizeOf208
 v182 := Tryz.zeroValue208
 t183 := Tryz.underlying209
 a183 := Tryz.isAgg209
 z183 := Tryz.sizeOf209
 v183 := Tryz.zeroValue209
 t218 := Tryz.underlying241
 a218 := Tryz.isAgg241
 z218 := Tryz.sizeOf241
 v218 := Tryz.zeroValue241
 t222 := Tryz.underlying245
 a222 := Tryz.isAgg245
 z222 := Tryz.sizeOf245
 v222 := Tryz.zeroValue245
 t228 := Tryz.underlying263
 a228 := Tryz.isAgg263
 z228 := Tryz.sizeOf263
 v228 := Tryz.zeroValue263
 t229 := Tryz.underlying264
 a229 := Tryz.isAgg264
 z229 := Tryz.sizeOf264
 v229 := Tryz.zeroValue264 }
open Go.Sort Go.RowKit in
theorem Tryz.slices_Sort_string (blk off cap : Nat) (ss : List (List UInt8)) (w : World) (hH : Holds encStr w blk off ss.toArray) (hblk : blk < w.heap.size) (hsz : ss.length < 4611686018427387904) :
 Calls Tryz.prog 109 #[.slice (some ⟨blk, off, none⟩) ss.length cap] w fun e w' =>
  e = .returned (.tuple #[]) ∧ ∃ n os, w' = grow (putRow encStr (Sort.ahead w n) blk off (ss.mergeSort fun x y => decide (x ≤ y)).toArray) os := Any.slices_Sort_string Tryz.lays190 blk off cap ss w hH hblk hsz
def Tryz.lays99_ren : Go.Shelf.Ren := ⟨fun | 99 => 123 | 206 => 168 | n => n, fun | 9 => 9 | 4 => 4 | 3 => 3 | n => n, fun | n => n⟩
theorem Tryz.lays99 : Go.Proofs.Lays.n99 Tryz.prog Tryz.lays99_ren := {
 mixed := by kernel_rfl
 f99 := Tryz.func123.trans (congrArg some (by kernel_rfl))
 f206 := Tryz.func168.trans (congrArg some (by kernel_rfl))
 t3 := Tryz.underlying3
 a3 := Tryz.isAgg3
 z3 := Tryz.sizeOf3
 v3 := Tryz.zeroValue3
 t4 := Tryz.underlying4
 a4 := Tryz.isAgg4
 z4 := Tryz.sizeOf4
 v4 := Tryz.zeroValue4
 t9 := Tryz.underlying9
 a9 := Tryz.isAgg9
 z9 := Tryz.sizeOf9
 v9 := Tryz.zeroValue9 }
open Go.RowKit Go.Lib in
/-- strings.HasPrefix: "HasPrefix reports whether the string s begins with prefix.": IT RETURNS 'Lib.hasPrefix s prefix'; the world is as it was. (LAID: no walk: one application.) -/
theorem Tryz.strings_HasPrefix (s p : ByteArray) (w : World) :
 Calls Tryz.prog 123 #[.string s, .string p] w fun e w' => e = .returned (.bool (Lib.hasPrefix s.data.toList p.data.toList)) ∧ w' = w := Any.strings_HasPrefix Tryz.lays99 s p w
def Tryz.lays152_ren : Go.Shelf.Ren := ⟨fun | 152 => 212 | 137 => 98 | 119 => 238 | 224 => 229 | 225 => 228 | 217 => 151 | 266 => 185 | n => n, fun | 9 => 9 | 21 => 21 | 3 => 3 | 4 => 4 | 5 => 5 | 0 => 0 | 46 => 188 | n => n, fun | n => n⟩
theorem Tryz.lays152 : Go.Proofs.Lays.n152 Tryz.prog Tryz.lays152_ren := {
 mixed := by kernel_rfl
 f119 := Tryz.func238.trans (congrArg some (by kernel_rfl))
 f137 := Tryz.func98.trans (congrArg some (by kernel_rfl))
 f152 := Tryz.func212.trans (congrArg some (by kernel_rfl))
 f217 := Tryz.func151.trans (congrArg some (by kernel_rfl))
 f224 := Tryz.func229.trans (congrArg some (by kernel_rfl))
 f225 := Tryz.func228.trans (congrArg some (by kernel_rfl))
 f266 := Tryz.func185.trans (congrArg some (by kernel_rfl))
 t0 := Tryz.underlying0
 a0 := Tryz.isAgg0
 z0 := Tryz.sizeOf0
 v0 := Tryz.zeroValue0
 t3 := Tryz.underlying3
 a3 := Tryz.isAgg3
 z3 := Tryz.sizeOf3
 v3 := Tryz.zeroValue3
 t4 := Tryz.underlying4
 a4 := Tryz.isAgg4
 z4 := Tryz.sizeOf4
 v4 := Tryz.zeroValue4
 t5 := Tryz.underlying5
 a5 := Tryz.isAgg5
 z5 := Tryz.sizeOf5
 v5 := Tryz.zeroValue5
 t9 := Tryz.underlying9
 a9 := Tryz.isAgg9
 z9 := Tryz.sizeOf9
 v9 := Tryz.zeroValue9
 t21 := Tryz.underlying21
 a21 := Tryz.isAgg21
 z21 := Tryz.sizeOf21
 v21 := Tryz.zeroValue21
 t46 := Tryz.underlying188
 a46 := Tryz.isAgg188
 z46 := Tryz.sizeOf188
 v46 := Tryz.zeroValue188 }
open Go.RowKit Go.Lib in
theorem Tryz.strings_IndexRune_ascii (s : ByteArray) (r : Int) (w : World) (h0 : 0 ≤ r) (h1 : r < 128) :
 Calls Tryz.prog 212 #[.string s, .int .i32 r] w fun e w' => e = .returned (.int .i64 (Lib.indexByte s.data.toList r.toNat.toUInt8)) ∧ w' = w := Any.strings_IndexRune_ascii Tryz.lays152 s r w h0 h1
def Tryz.lays226_ren : Go.Shelf.Ren := ⟨fun | 226 => 213 | n => n, fun | 3 => 3 | 4 => 4 | n => n, fun | n => n⟩
theorem Tryz.lays226 : Go.Proofs.Lays.n226 Tryz.prog Tryz.lays226_ren := {
 mixed := by kernel_rfl
 f226 := Tryz.func213.trans (congrArg some (by kernel_rfl))
 t3 := Tryz.underlying3
 a3 := Tryz.isAgg3
 z3 := Tryz.sizeOf3
 v3 := Tryz.zeroValue3
 t4 := Tryz.underlying4
 a4 := Tryz.isAgg4
 z4 := Tryz.sizeOf4
 v4 := Tryz.zeroValue4 }
open Go.RowKit Go.Lib in
theorem Tryz.strings_shouldUseASCIISet (n : Int) (w : World) :
 Calls Tryz.prog 213 #[.int .i64 n] w fun e w' => e = .returned (.bool (decide (8 < n))) ∧ w' = w := Any.strings_shouldUseASCIISet Tryz.lays226 n w
def Tryz.lays227_ren : Go.Shelf.Ren := ⟨fun | 227 => 140 | n => n, fun | 9 => 9 | 116 => 175 | 4 => 4 | 0 => 0 | 3 => 3 | 5 => 5 | n => n, fun | n => n⟩
theorem Tryz.lays227 : Go.Proofs.Lays.n227 Tryz.prog Tryz.lays227_ren := {
 mixed := by kernel_rfl
 f227 := Tryz.func140.trans (congrArg some (by kernel_rfl))
 t0 := Tryz.underlying0
 a0 := Tryz.isAgg0
 z0 := Tryz.sizeOf0
 v0 := Tryz.zeroValue0
 t3 := Tryz.underlying3
 a3 := Tryz.isAgg3
 z3 := Tryz.sizeOf3
 v3 := Tryz.zeroValue3
 t4 := Tryz.underlying4
 a4 := Tryz.isAgg4
 z4 := Tryz.sizeOf4
 v4 := Tryz.zeroValue4
 t5 := Tryz.underlying5
 a5 := Tryz.isAgg5
 z5 := Tryz.sizeOf5
 v5 := Tryz.zeroValue5
 t9 := Tryz.underlying9
 a9 := Tryz.isAgg9
 z9 := Tryz.sizeOf9
 v9 := Tryz.zeroValue9
 t116 := Tryz.underlying175
 a116 := Tryz.isAgg175
 z116 := Tryz.sizeOf175 }
open Go.RowKit Go.Lib in
theorem Tryz.strings_makeASCIISet (hv116 : ∀ w, (zeroValue 175).run Tryz.prog w = .ok (.agg (Array.replicate 256 (.bool false))) w) (chars : ByteArray) (w : World) (hs : chars.size < 4294967281) (hascii : ∀ (j : Nat) b, chars.data.toList[j]? = some b → b.toNat < 128) :
 Calls Tryz.prog 140 #[.string chars] w fun e w' => e = .returned (.tuple #[.agg (Lib.setCells chars.data.toList), .bool true]) ∧ w' = w.alloc (.cells (Lib.setCells chars.data.toList) 175) := Any.strings_makeASCIISet Tryz.lays227 hv116 (by kernel_rfl) chars w hs hascii
def Tryz.lays228_ren : Go.Shelf.Ren := ⟨fun | 228 => 174 | n => n, fun | 124 => 179 | 5 => 5 | 4 => 4 | 0 => 0 | 116 => 175 | n => n, fun | n => n⟩
theorem Tryz.lays228 : Go.Proofs.Lays.n228 Tryz.prog Tryz.lays228_ren := {
 mixed := by kernel_rfl
 f228 := Tryz.func174.trans (congrArg some (by kernel_rfl))
 t0 := Tryz.underlying0
 a0 := Tryz.isAgg0
 z0 := Tryz.sizeOf0
 v0 := Tryz.zeroValue0
 t4 := Tryz.underlying4
 a4 := Tryz.isAgg4
 z4 := Tryz.sizeOf4
 v4 := Tryz.zeroValue4
 t5 := Tryz.underlying5
 a5 := Tryz.isAgg5
 z5 := Tryz.sizeOf5
 v5 := Tryz.zeroValue5
 t116 := Tryz.underlying175
 a116 := Tryz.isAgg175
 z116 := Tryz.sizeOf175
 t124 := Tryz.underlying179
 a124 := Tryz.isAgg179
 z124 := Tryz.sizeOf179
 v124 := Tryz.zeroValue179 }
open Go.RowKit Go.Lib in
/-- '(as *asciiSet) contains(c)': 'as[c]': the set lies at block b, whole. (LAID: no walk: one application.) -/
theorem Tryz.asciiSet_contains (b : Nat) (x : UInt8) (v : Bool) (w : World) (hc : w.cell? ⟨b, x.toNat, none⟩ = some (.bool v)) :
 Calls Tryz.prog 174 #[.pointer (some ⟨b, 0, none⟩), .int .u8 x.toNat] w fun e w' => e = .returned (.bool v) ∧ w' = w := Any.asciiSet_contains Tryz.lays228 b x v w hc
def Tryz.lays150_ren : Go.Shelf.Ren := ⟨fun | 150 => 148 | 153 => 183 | 152 => 212 | 226 => 213 | 227 => 140 | 228 => 174 | 137 => 98 | 119 => 238 | 224 => 229 | 225 => 228 | 217 => 151 | 266 => 185 | n => n, fun | 9 => 9 | 4 => 4 | 3 => 3 | 5 => 5 | 21 => 21 | 117 => 176 | 116 => 175 | 0 => 0 | 46 => 188 | 124 => 179 | n => n, fun | n => n⟩
theorem Tryz.lays150 : Go.Proofs.Lays.n150 Tryz.prog Tryz.lays150_ren := {
 mixed := by kernel_rfl
 f119 := Tryz.func238.trans (congrArg some (by kernel_rfl))
 f137 := Tryz.func98.trans (congrArg some (by kernel_rfl))
 f150 := Tryz.func148.trans (congrArg some (by kernel_rfl))
 f152 := Tryz.func212.trans (congrArg some (by kernel_rfl))
 f153 := Tryz.func183.trans (congrArg some (by kernel_rfl))
 f217 := Tryz.func151.trans (congrArg some (by kernel_rfl))
 f224 := Tryz.func229.trans (congrArg some (by kernel_rfl))
 f225 := Tryz.func228.trans (congrArg some (by kernel_rfl))
 f226 := Tryz.func213.trans (congrArg some (by kernel_rfl))
 f227 := Tryz.func140.trans (congrArg some (by kernel_rfl))
 f228 := Tryz.func174.trans (congrArg some (by kernel_rfl))
 f266 := Tryz.func185.trans (congrArg some (by kernel_rfl))
 t0 := Tryz.underlying0
 a0 := Tryz.isAgg0
 z0 := Tryz.sizeOf0
 v0 := Tryz.zeroValue0
 t3 := Tryz.underlying3
 a3 := Tryz.isAgg3
 z3 := Tryz.sizeOf3
 v3 := Tryz.zeroValue3
 t4 := Tryz.underlying4
 a4 := Tryz.isAgg4
 z4 := Tryz.sizeOf4
 v4 := Tryz.zeroValue4
 t5 := Tryz.underlying5
 a5 := Tryz.isAgg5
 z5 := Tryz.sizeOf5
 v5 := Tryz.zeroValue5
 t9 := Tryz.underlying9
 a9 := Tryz.isAgg9
 z9 := Tryz.sizeOf9
 v9 := Tryz.zeroValue9
 t21 := Tryz.underlying21
 a21 := Tryz.isAgg21
 z21 := Tryz.sizeOf21
 v21 := Tryz.zeroValue21
 t46 := Tryz.underlying188
 a46 := Tryz.isAgg188
 z46 := Tryz.sizeOf188
 v46 := Tryz.zeroValue188
 t116 := Tryz.underlying175
 a116 := Tryz.isAgg175
 z116 := Tryz.sizeOf175
 t117 := Tryz.underlying176
 a117 := Tryz.isAgg176
 z117 := Tryz.sizeOf176
 v117 := Tryz.zeroValue176
 t124 := Tryz.underlying179
 a124 := Tryz.isAgg179
 z124 := Tryz.sizeOf179
 v124 := Tryz.zeroValue179 }
open Go.RowKit Go.Lib in
theorem Tryz.strings_ContainsAny_laid (s chars : ByteArray) (w : World) (hs : s.size < 4294967281) (hcs : chars.size < 4294967281) (has : ∀ (j : Nat) b, s.data.toList[j]? = some b → b.toNat < 128) (hac : ∀ (j : Nat) b, chars.data.toList[j]? = some b → b.toNat < 128) :
 Calls Tryz.prog 148 #[.string s, .string chars] w fun e w' => e = .returned (.bool (Lib.containsAny s.data.toList chars.data.toList)) ∧ Below w.heap.size w w' := Any.strings_ContainsAny_laid Tryz.lays150 (by kernel_rfl) s chars w hs hcs has hac
def Tryz.lays110_ren : Go.Shelf.Ren := ⟨fun | 110 => 59 | 109 => 107 | n => n, fun | 31 => 31 | 9 => 9 | 4 => 4 | 3 => 3 | 0 => 0 | n => n, fun | n => n⟩
theorem Tryz.lays110 : Go.Proofs.Lays.n110 Tryz.prog Tryz.lays110_ren := {
 mixed := by kernel_rfl
 f109 := Tryz.func107.trans (congrArg some (by kernel_rfl))
 f110 := Tryz.func59.trans (congrArg some (by kernel_rfl))
 t0 := Tryz.underlying0
 a0 := Tryz.isAgg0
 z0 := Tryz.sizeOf0
 v0 := Tryz.zeroValue0
 t3 := Tryz.underlying3
 a3 := Tryz.isAgg3
 z3 := Tryz.sizeOf3
 v3 := Tryz.zeroValue3
 t4 := Tryz.underlying4
 a4 := Tryz.isAgg4
 z4 := Tryz.sizeOf4
 v4 := Tryz.zeroValue4
 t9 := Tryz.underlying9
 a9 := Tryz.isAgg9
 z9 := Tryz.sizeOf9
 v9 := Tryz.zeroValue9
 t31 := Tryz.underlying31
 a31 := Tryz.isAgg31
 z31 := Tryz.sizeOf31
 v31 := Tryz.zeroValue31 }
open Go.Lib in
/-- slices.Contains at []string: "Contains reports whether v is present in s.": IT RETURNS 'Lib.containsS (the elements) v', which is true just where v is among them ('Lib.containsS_iff'); the world is as it was. ITS CALLEE slices.Index IS MET BY ITS OWN CONTRACT OFF THE SHELF (lay that first): no loop is walked here. (LAID: no walk: one application.) -/
theorem Tryz.slices_Contains_string (b off n c : Nat) (zs : List ByteArray) (x : ByteArray) (w : World) (hz : n ≤ zs.length) (hbig : n ≤ 9223372036854775807) (hc : ∀ j, j < zs.length → w.cell? ⟨b, off + j, none⟩ = some (.string (zs.getD j ByteArray.empty))) :
 Calls Tryz.prog 59 #[.slice (some ⟨b, off, none⟩) n c, .string x] w fun e w' => e = .returned (.bool (Lib.containsS (zs.take n) x)) ∧ w' = w := Any.slices_Contains_string Tryz.lays110 b off n c zs x w hz hbig hc
open Go.Lib in
/-- The same at a slice of length 0, a nil one too. (LAID: no walk: one application.) -/
theorem Tryz.slices_Contains_string_empty (a : Option Addr) (c : Nat) (x : ByteArray) (w : World) :
 Calls Tryz.prog 59 #[.slice a 0 c, .string x] w fun e w' => e = .returned (.bool false) ∧ w' = w := Any.slices_Contains_string_empty Tryz.lays110 a c x w
def Tryz.laysNm216_ren : Go.Shelf.Ren := ⟨fun | 16 => 124 | n => n, fun | 24 => 31 | 9 => 9 | 4 => 4 | n => n, fun | n => n⟩
theorem Tryz.laysNm216 : Go.Proofs.Lays2.n16 Tryz.prog Tryz.laysNm216_ren := {
 mixed := by kernel_rfl
 f16 := Tryz.func124.trans (congrArg some (by kernel_rfl))
 t4 := Tryz.underlying4
 a4 := Tryz.isAgg4
 z4 := Tryz.sizeOf4
 v4 := Tryz.zeroValue4
 t9 := Tryz.underlying9
 a9 := Tryz.isAgg9
 z9 := Tryz.sizeOf9
 v9 := Tryz.zeroValue9
 t24 := Tryz.underlying31
 a24 := Tryz.isAgg31
 z24 := Tryz.sizeOf31
 v24 := Tryz.zeroValue31
 i9 := by kernel_rfl }
open Go.RowKit Go.Lib in
/-- slices.Clone at []string: "Clone returns a copy of the slice. The elements are copied using assignment, so this is a shallow clone. The result may have additional unused capacity. The result preserves the nilness of s.": OF A SLICE THAT IS NOT nil IT RETURNS A SLICE THAT IS NOT nil, OF THE SAME ELEMENTS, IN MEMORY OF THE CALL's OWN: in the how-to's words (6f): 'w'.ownsRow B e 1 v' n cells': v' begins at the head of a row among the blocks from B on (B: the heap's size at the call), not frozen, whose first cells are the elements · 'Below B w w'': below B all is as it was. The capacity is whatever the run-time gives. 'zs': what the cells behind the slice's address hold; 'zs.take n': its elements. (LAID: no walk: one application.) -/
theorem Tryz.slices_Clone_string (b off n c : Nat) (zs : List ByteArray) (w : World) (hz : n ≤ zs.length) (hbig : n * 16 ≤ 140737488355328) (hc : ∀ j, j < zs.length → w.cell? ⟨b, off + j, none⟩ = some (.string (zs.getD j ByteArray.empty))) :
 Calls Tryz.prog 124 #[.slice (some ⟨b, off, none⟩) n c] w fun e w' => ∃ v', e = .returned v' ∧ w'.ownsRow w.heap.size 9 1 v' n ((zs.take n).map (Value.string)) ∧ v' ≠ .slice none 0 0 ∧ Below w.heap.size w w' := Any.slices_Clone_string Tryz.laysNm216 b off n c zs w hz hbig hc
open Go.RowKit Go.Lib in
/-- The same at nil: nil comes back; the world is as it was. (LAID: no walk: one application.) -/
theorem Tryz.slices_Clone_string_nil (n c : Nat) (w : World) :
 Calls Tryz.prog 124 #[.slice none n c] w fun e w' => e = .returned (.slice none 0 0) ∧ w' = w := Any.slices_Clone_string_nil Tryz.laysNm216 n c w
def Tryz.laysNm220_ren : Go.Shelf.Ren := ⟨fun | 20 => 116 | n => n, fun | 22 => 22 | 3 => 3 | 4 => 4 | 0 => 0 | n => n, fun | n => n⟩
theorem Tryz.laysNm220 : Go.Proofs.Lays2.n20 Tryz.prog Tryz.laysNm220_ren := {
 mixed := by kernel_rfl
 f20 := Tryz.func116.trans (congrArg some (by kernel_rfl))
 t0 := Tryz.underlying0
 a0 := Tryz.isAgg0
 z0 := Tryz.sizeOf0
 v0 := Tryz.zeroValue0
 t3 := Tryz.underlying3
 a3 := Tryz.isAgg3
 z3 := Tryz.sizeOf3
 v3 := Tryz.zeroValue3
 t4 := Tryz.underlying4
 a4 := Tryz.isAgg4
 z4 := Tryz.sizeOf4
 v4 := Tryz.zeroValue4
 t22 := Tryz.underlying22
 a22 := Tryz.isAgg22
 z22 := Tryz.sizeOf22
 v22 := Tryz.zeroValue22
 i3 := by kernel_rfl }
open Go.RowKit Go.Lib Go.Sort in
/-- slices.Compact at []int: "Compact replaces consecutive runs of equal elements with a single copy. This is like the uniq command found on Unix. Compact modifies the contents of the slice s and returns the modified slice, which may have a smaller length. Compact zeroes the elements between the new length and the original length. The result preserves the nilness of s.": IT RETURNS THE SLICE CUT TO 'Lib.compact zs'; ITS CELLS HOLD 'Lib.compact zs', THEN ZERO VALUES up to the old length; all else is as it was, but for the count of draws. IN THE WORDS OF slices.Sort's CONTRACT ('Holds', 'putRow'): so the everyday 'slices.Sort(xs); xs = slices.Compact(xs)' goes from the one contract to the other. It asks 'zs.length ≤ cap' (every slice's: the reslicing 's[:k]' looks at it). Length 0, nil: '.._empty'. (LAID: no walk: one application.) -/
theorem Tryz.slices_Compact_int (blk off cap : Nat) (zs : List Int) (w : World) (hH : Holds (Value.int .i64) w blk off zs.toArray) (hsz : zs.length ≤ 9223372036854775807) (hcap : zs.length ≤ cap) :
 Calls Tryz.prog 116 #[.slice (some ⟨blk, off, none⟩) zs.length cap] w fun e w' => e = .returned (.slice (some ⟨blk, off, none⟩) (Lib.compact zs).length cap) ∧ ∃ q, w' = putRow (Value.int .i64) (Sort.ahead w q) blk off (Lib.compact zs ++ List.replicate (zs.length - (Lib.compact zs).length) 0).toArray := Any.slices_Compact_int Tryz.laysNm220 blk off cap zs w hH hsz hcap
open Go.RowKit Go.Lib Go.Sort in
/-- The same at a slice of length 0, a nil one too: it comes back as it is. (LAID: no walk: one application.) -/
theorem Tryz.slices_Compact_int_empty (a : Option Addr) (cap : Nat) (w : World) :
 Calls Tryz.prog 116 #[.slice a 0 cap] w fun e w' => e = .returned (.slice a 0 cap) ∧ w' = w := Any.slices_Compact_int_empty Tryz.laysNm220 a cap w
def Tryz.lays194_ren : Go.Shelf.Ren := ⟨fun | 194 => 125 | n => n, fun | 31 => 31 | 9 => 9 | 3 => 3 | 4 => 4 | 0 => 0 | n => n, fun | n => n⟩
theorem Tryz.lays194 : Go.Proofs.Lays.n194 Tryz.prog Tryz.lays194_ren := {
 mixed := by kernel_rfl
 f194 := Tryz.func125.trans (congrArg some (by kernel_rfl))
 t0 := Tryz.underlying0
 a0 := Tryz.isAgg0
 z0 := Tryz.sizeOf0
 v0 := Tryz.zeroValue0
 t3 := Tryz.underlying3
 a3 := Tryz.isAgg3
 z3 := Tryz.sizeOf3
 v3 := Tryz.zeroValue3
 t4 := Tryz.underlying4
 a4 := Tryz.isAgg4
 z4 := Tryz.sizeOf4
 v4 := Tryz.zeroValue4
 t9 := Tryz.underlying9
 a9 := Tryz.isAgg9
 z9 := Tryz.sizeOf9
 v9 := Tryz.zeroValue9
 t31 := Tryz.underlying31
 a31 := Tryz.isAgg31
 z31 := Tryz.sizeOf31
 v31 := Tryz.zeroValue31 }
open Go.RowKit Go.Lib Go.Sort in
/-- slices.Compact at []string: "Compact replaces consecutive runs of equal elements with a single copy. This is like the uniq command found on Unix. Compact modifies the contents of the slice s and returns the modified slice, which may have a smaller length. Compact zeroes the elements between the new length and the original length. The result preserves the nilness of s.": IT RETURNS THE SLICE CUT TO 'Lib.compact zs'; ITS CELLS HOLD 'Lib.compact zs', THEN ZERO VALUES up to the old length; all else is as it was, but for the count of draws. IN THE WORDS OF slices.Sort's CONTRACT ('Holds', 'putRow'): so the everyday 'slices.Sort(xs); xs = slices.Compact(xs)' goes from the one contract to the other. It asks 'zs.length ≤ cap' (every slice's: the reslicing 's[:k]' looks at it). Length 0, nil: '.._empty'. (LAID: no walk: one application.) -/
theorem Tryz.slices_Compact_string (blk off cap : Nat) (zs : List (List UInt8)) (w : World) (hH : Holds encStr w blk off zs.toArray) (hsz : zs.length ≤ 9223372036854775807) (hcap : zs.length ≤ cap) :
 Calls Tryz.prog 125 #[.slice (some ⟨blk, off, none⟩) zs.length cap] w fun e w' => e = .returned (.slice (some ⟨blk, off, none⟩) (Lib.compact zs).length cap) ∧ ∃ q, w' = putRow encStr (Sort.ahead w q) blk off (Lib.compact zs ++ List.replicate (zs.length - (Lib.compact zs).length) []).toArray := Any.slices_Compact_string Tryz.lays194 blk off cap zs w hH hsz hcap
open Go.RowKit Go.Lib Go.Sort in
/-- The same at a slice of length 0, a nil one too: it comes back as it is. (LAID: no walk: one application.) -/
theorem Tryz.slices_Compact_string_empty (a : Option Addr) (cap : Nat) (w : World) :
 Calls Tryz.prog 125 #[.slice a 0 cap] w fun e w' => e = .returned (.slice a 0 cap) ∧ w' = w := Any.slices_Compact_string_empty Tryz.lays194 a cap w
open Go.RowKit Go.Sort in
/-- .. and plain. (LAID: no walk: one application.) -/
theorem Tryz.slices_Sort_string_none (p : Option Addr) (cap : Nat) (w : World) :
 Calls Tryz.prog 109 #[.slice p 0 cap] w fun e w' => e = .returned (.tuple #[]) ∧ w' = w := Any.slices_Sort_string_none Tryz.lays190 p cap w
open Go.RowKit Go.Sort in
/-- .. and plain. (LAID: no walk: one application.) -/
theorem Tryz.slices_Sort_int_none (p : Option Addr) (cap : Nat) (w : World) :
 Calls Tryz.prog 115 #[.slice p 0 cap] w fun e w' => e = .returned (.tuple #[]) ∧ w' = w := Any.slices_Sort_int_none Tryz.lays189 p cap w
end Go.Proofs

namespace Go.Proofs.YtbpkfkbbkgdlaaaGreatDoor
set_option linter.unusedVariables false

def hasB (a zt x : Int) : Bool := decide (a ≤ x ∧ x < zt)
def timeB (a zt : Int) : Bool := decide (0 ≤ a ∧ a < zt ∧ zt ≤ 345686400000)
def timeE (a zt : Int) : Int := if timeB a zt then 0 else 1
end Go.Proofs.YtbpkfkbbkgdlaaaGreatDoor

namespace Go.Proofs.YtbpkfkbbkgdlaaaGreatDoor
open Go.RowKit
set_option linter.unusedVariables false

theorem timeB_yes {a zt : Int} (h : 0 ≤ a ∧ a < zt ∧ zt ≤ 345686400000) : timeB a zt = true := by unfold timeB; simpa using h
theorem timeB_no {a zt : Int} (h : ¬ (0 ≤ a ∧ a < zt ∧ zt ≤ 345686400000)) : timeB a zt = false := by unfold timeB; simpa using h
set_option maxHeartbeats 400000 in
theorem isTime_any (a zt : Int) (w : World) (hto : -1152921504606846976 ≤ zt) (hto2 : zt ≤ 1152921504606846976) :
 Calls Tryz.prog 97 #[.agg #[.int .i64 a, .int .i64 zt]] w fun r w' => r = .returned (.bool (timeB a zt)) ∧ w.grownBy w' none := by
 by_cases h1 : 0 ≤ a ∧ a ≤ zt - 1
 ·have hb : outB a 0 (zt - 1) = false := outB_no h1.1 h1.2
  have HE : Hid (timeB a zt = decide (zt ≤ 345686400000)) := by
   show _ = _
   unfold timeB
   by_cases h : zt ≤ 345686400000 <;> simp [h] <;> omega
  go_enter Tryz.func97, Tryz.ntmps97
  go_wp2_with fail
  refine (outside_any _ _ _ _).mono ?_
  rintro r w' ⟨rfl, rfl⟩
  go_wp2_with fail
  go_ret
  exact ⟨ret_b HE.out.symm, gr_alloc (gr_refl _ _) _⟩
 ·have hb : outB a 0 (zt - 1) = true := outB_yes (by omega)
  have HE := Lib.hid (timeB_no (a := a) (zt := zt) (by omega))
  go_enter Tryz.func97, Tryz.ntmps97
  go_wp2_with fail
  refine (outside_any _ _ _ _).mono ?_
  rintro r w' ⟨rfl, rfl⟩
  go_wp2_with fail
  go_ret
  exact ⟨ret_b HE.out.symm, gr_alloc (gr_refl _ _) _⟩
set_option maxHeartbeats 400000 in
theorem timeFault_any (a zt : Int) (w : World) :
 Calls Tryz.prog 49 #[.agg #[.int .i64 a, .int .i64 zt]] w fun r w' => r = .returned (.int .i64 (timeE a zt)) ∧ w.grownBy w' none := by
 by_cases k1 : a < 0
 ·have HE : Hid (timeE a zt = 1) := by show _ = _; unfold timeE; rw [timeB_no (by omega)]; rfl
  go_enter Tryz.func49, Tryz.ntmps49
  go_wp2_with fail
  go_ret
  exact ⟨ret_of HE.out.symm, gr_alloc (gr_refl _ _) _⟩
 by_cases k2 : zt ≤ a
 ·have HE : Hid (timeE a zt = 1) := by show _ = _; unfold timeE; rw [timeB_no (by omega)]; rfl
  go_enter Tryz.func49, Tryz.ntmps49
  go_wp2_with fail
  go_ret
  exact ⟨ret_of HE.out.symm, gr_alloc (gr_refl _ _) _⟩
 by_cases k3 : 345686400000 < zt
 ·have HE : Hid (timeE a zt = 1) := by show _ = _; unfold timeE; rw [timeB_no (by omega)]; rfl
  go_enter Tryz.func49, Tryz.ntmps49
  go_wp2_with fail
  go_ret
  exact ⟨ret_of HE.out.symm, gr_alloc (gr_refl _ _) _⟩
 ·have HE : Hid (timeE a zt = 0) := by show _ = _; unfold timeE; rw [timeB_yes (by omega)]; rfl
  go_enter Tryz.func49, Tryz.ntmps49
  go_wp2_with fail
  go_ret
  exact ⟨ret_of HE.out.symm, gr_alloc (gr_refl _ _) _⟩
theorem hasB_of {a zt x : Int} (h : a ≤ x) : hasB a zt x = decide (x < zt) := by unfold hasB; simp [h]
theorem hasB_no {a zt x : Int} (h : ¬ a ≤ x) : hasB a zt x = false := by unfold hasB; simp [h]
set_option maxHeartbeats 400000 in
theorem has_any (a zt x : Int) (w : World) :
 Calls Tryz.prog 156 #[.agg #[.int .i64 a, .int .i64 zt], .int .i64 x] w fun r w' => r = .returned (.bool (hasB a zt x)) ∧ w.grownBy w' none := by
 by_cases k1 : a ≤ x
 ·have HE := Lib.hid (hasB_of (zt := zt) k1)
  go_enter Tryz.func156, Tryz.ntmps156
  go_wp2_with fail
  go_ret
  exact ⟨ret_b HE.out.symm, gr_alloc (gr_refl _ _) _⟩
 ·have HE := Lib.hid (hasB_no (zt := zt) k1)
  go_enter Tryz.func156, Tryz.ntmps156
  go_wp2_with fail
  go_ret
  exact ⟨ret_b HE.out.symm, gr_alloc (gr_refl _ _) _⟩
set_option maxHeartbeats 400000 in
theorem inside_any (a zt x : Int) (w : World) :
 Calls Tryz.prog 119 #[.agg #[.int .i64 a, .int .i64 zt], .int .i64 x] w fun r w' => r = .returned (.bool (hasB a zt x)) ∧ w.grownBy w' none := by
 by_cases k1 : a ≤ x
 ·have HE := Lib.hid (hasB_of (zt := zt) k1)
  go_enter Tryz.func119, Tryz.ntmps119
  go_wp2_with fail
  go_ret
  exact ⟨ret_b HE.out.symm, gr_alloc (gr_refl _ _) _⟩
 ·have HE := Lib.hid (hasB_no (zt := zt) k1)
  go_enter Tryz.func119, Tryz.ntmps119
  go_wp2_with fail
  go_ret
  exact ⟨ret_b HE.out.symm, gr_alloc (gr_refl _ _) _⟩
def truthI (b : Bool) : Int := if b then 1 else 0
set_option maxHeartbeats 400000 in
theorem truth_any (b : Bool) (w : World) :
 Calls Tryz.prog 94 #[.bool b] w fun r w' => r = .returned (.int .i64 (truthI b)) ∧ w = w' := by
 cases b
 all_goals
  go_enter Tryz.func94, Tryz.ntmps94
  go_wp2_with fail
  go_ret
  exact ⟨rfl, rfl⟩
end Go.Proofs.YtbpkfkbbkgdlaaaGreatDoor

namespace Go.Proofs.YtbpkfkbbkgdlaaaGreatDoor
open Go.RowKit
set_option linter.unusedVariables false

theorem IntsFrom.drewN {base : Nat} {w : World} {v : Value} {l : List Int} (h : IntsFrom base w v l) (n : Nat) : IntsFrom base (w.drewN n) v l := h
theorem IntsFrom.alloc {base : Nat} {w : World} {v : Value} {l : List Int} (h : IntsFrom base w v l) (o : Obj) : IntsFrom base (w.alloc o) v l := World.ownsRow.alloc h o
end Go.Proofs.YtbpkfkbbkgdlaaaGreatDoor

namespace Go.Proofs.YtbpkfkbbkgdlaaaGreatDoor
open Go.RowKit
set_option linter.unusedVariables false

end Go.Proofs.YtbpkfkbbkgdlaaaGreatDoor

namespace Go.Proofs.YtbpkfkbbkgdlaaaGreatDoor
open Go.RowKit
set_option linter.unusedVariables false

end Go.Proofs.YtbpkfkbbkgdlaaaGreatDoor

namespace Go.Proofs.YtbpkfkbbkgdlaaaGreatDoor
open Go.RowKit
set_option linter.unusedVariables false

theorem infoSet : (Tryz.prog.info? 175).map (fun i => (i.zero, i.size)) = some (some (.agg (Array.replicate 256 (.bool false))), 256) := by kernel_rfl
theorem trim_any (s cutset : ByteArray) (w : World) (hs : s.size ≤ 9223372036854775807) (hc : cutset.size ≤ 1000) (ha : cutset.data.toList.all (fun b => decide (b.toNat < 128)) = true) :
 Calls Tryz.prog 85 #[.string s, .string cutset] w fun e w' => e = .returned (.string ⟨(Lib.trimS s.data.toList cutset.data.toList).toArray⟩) ∧ w.grownBy w' none :=
 (Any.strings_Trim_laid Tryz.lays160 infoSet s cutset w hs (by omega) (ascii_of_all ha)).mono fun e w' ⟨he, hb⟩ => ⟨he, gr_of_below hb⟩
theorem dropWhile_nil {α : Type} (p : α → Bool) : ∀ l : List α, l.dropWhile p = [] ↔ l.all p = true
 | [] => by simp
 | a :: r => by
   rw [List.dropWhile_cons, List.all_cons]
   cases h : p a
   ·simp
   ·simp [dropWhile_nil p r]
theorem trimS_nil (l cs : List UInt8) : Lib.trimS l cs = [] ↔ l.all cs.contains = true := by
 unfold Lib.trimS Lib.trimLeftS Lib.trimRightS
 rw [dropWhile_nil]
 have e : ∀ m : List UInt8, (m.reverse.dropWhile (cs.contains ·)).reverse.all cs.contains = true ↔ m.all cs.contains = true := by
  intro m
  rw [List.all_reverse]
  constructor
  ·intro h
   cases hd : m.reverse.dropWhile (cs.contains ·) with
   | nil =>
     have := (dropWhile_nil _ _).1 hd
     rwa [List.all_reverse] at this
   | cons x r =>
     rw [hd, List.all_cons] at h
     have h2 := List.head?_dropWhile_not (p := (cs.contains ·)) (l := m.reverse)
     rw [hd] at h2
     simp at h2
     simp [h2] at h
  ·intro h
   have : m.reverse.dropWhile (cs.contains ·) = [] := (dropWhile_nil _ _).2 (by rwa [List.all_reverse])
   rw [this]
   rfl
 exact e l
def smallL : List UInt8 := [97, 98, 99, 100, 101, 102, 103, 104, 105, 106, 107, 108, 109, 110, 111, 112, 113, 114, 115, 116, 117, 118, 119, 120, 121, 122]
def keyL : List UInt8 := smallL ++ [48, 49, 50, 51, 52, 53, 54, 55, 56, 57, 45, 95]
/-- A key: from 1 to 40 bytes, the first a small letter, all small letters, digits, - or _. -/
def keyB (l : List UInt8) : Bool := decide (1 ≤ l.length) && decide (l.length ≤ 40) && smallL.contains (l.headD 0) && l.all keyL.contains
theorem size_len (s : ByteArray) : s.size = s.data.toList.length := by rw [Lib.size_eq]
theorem ret_bool {a b : Bool} (h : a = b) : Ending.returned (.bool a) = .returned (.bool b) := by rw [h]
/-- What is asked of a string that is no key, or one, in the order in which it is asked. -/
inductive KeyWay (s : ByteArray) : Prop
 | none (h : s.size = 0) (e : s.toList = []) (k : keyB s.data.toList = false)
 | long (h : 40 < s.size) (e : s.toList.isEmpty = false) (k : keyB s.data.toList = false)
 | odd (h0 : 1 ≤ s.size) (h : s.size ≤ 40) (e : s.toList.isEmpty = false) (n : Lib.indexByte smallL (s[0]'(by omega)) < 0) (k : keyB s.data.toList = false)
 | bad (h0 : 1 ≤ s.size) (h : s.size ≤ 40) (e : s.toList.isEmpty = false) (n : 0 ≤ Lib.indexByte smallL (s[0]'(by omega))) (t : (Lib.trimS s.data.toList keyL).isEmpty = false) (k : keyB s.data.toList = false)
 | ok (h0 : 1 ≤ s.size) (h : s.size ≤ 40) (e : s.toList.isEmpty = false) (n : 0 ≤ Lib.indexByte smallL (s[0]'(by omega))) (t : Lib.trimS s.data.toList keyL = []) (k : keyB s.data.toList = true)
theorem headD_get (s : ByteArray) (h : 0 < s.size) : s.data.toList.headD 0 = s[0] := by
 have hl : 0 < s.data.toList.length := by rw [← size_len]; exact h
 cases hd : s.data.toList with
 | nil => rw [hd] at hl; exact absurd hl (by decide)
 | cons a r =>
   have : s[0] = s.data.toList[0]'hl := rfl
   rw [this]
   simp [hd]
theorem keyWay (s : ByteArray) : KeyWay s := by
 have hsz := size_len s
 by_cases h0 : s.size = 0
 ·have hl : s.data.toList = [] := List.eq_nil_of_length_eq_zero (by omega)
  exact .none h0 (by rw [Lib.toList_data, hl]) (by rw [hl]; rfl)
 have hne : s.toList.isEmpty = false := by
  rw [Lib.toList_data]
  cases hd : s.data.toList with
  | nil => rw [hd] at hsz; exact absurd hsz h0
  | cons a r => rfl
 by_cases h1 : 40 < s.size
 ·exact .long h1 hne (by unfold keyB; have : decide (s.data.toList.length ≤ 40) = false := by simp; omega
                         rw [this]; simp)
 have d1 : decide (1 ≤ s.data.toList.length) = true := by simp; omega
 have d2 : decide (s.data.toList.length ≤ 40) = true := by simp; omega
 have hk : keyB s.data.toList = (smallL.contains s[0] && s.data.toList.all keyL.contains) := by
  unfold keyB
  rw [d1, d2, headD_get s (by omega)]
  rfl
 have hc := Lib.contains_iff_indexByte smallL s[0]
 by_cases h2 : 0 ≤ Lib.indexByte smallL s[0]
 ·have hc1 : smallL.contains s[0] = true := by rw [hc]; simpa using h2
  cases ht : s.data.toList.all keyL.contains
  ·have : Lib.trimS s.data.toList keyL ≠ [] := fun e => by rw [(trimS_nil _ _).1 e] at ht; cases ht
   exact .bad (by omega) (by omega) hne h2 (by cases hh : Lib.trimS s.data.toList keyL with | nil => exact absurd hh this | cons a r => rfl) (by rw [hk, hc1, ht]; rfl)
  ·exact .ok (by omega) (by omega) hne h2 ((trimS_nil _ _).2 ht) (by rw [hk, hc1, ht]; rfl)
 ·have hc1 : smallL.contains s[0] = false := by rw [hc]; simpa using h2
  exact .odd (by omega) (by omega) hne (by omega) (by rw [hk, hc1]; rfl)
theorem index_small (x : UInt8) (w : World) : Calls Tryz.prog 98 #[.string ⟨#[97, 98, 99, 100, 101, 102, 103, 104, 105, 106, 107, 108, 109, 110, 111, 112, 113, 114, 115, 116, 117, 118, 119, 120, 121, 122]⟩, .int .u8 x.toNat] w fun e w' => e = .returned (.int .i64 (Lib.indexByte smallL x)) ∧ w = w' :=
 (Tryz.strings_IndexByte _ _ w).mono fun e w' ⟨he, hw⟩ => ⟨by
  rw [he]
  have : ((x.toNat : Int)).toNat.toUInt8 = x := by simp
  rw [this]
  rfl, hw.symm⟩
theorem trim_key (s : ByteArray) (w : World) (hs : s.size ≤ 1000000000) : Calls Tryz.prog 85 #[.string s, .string ⟨#[97, 98, 99, 100, 101, 102, 103, 104, 105, 106, 107, 108, 109, 110, 111, 112, 113, 114, 115, 116, 117, 118, 119, 120, 121, 122, 48, 49, 50, 51, 52, 53, 54, 55, 56, 57, 45, 95]⟩] w fun e w' => e = .returned (.string ⟨(Lib.trimS s.data.toList keyL).toArray⟩) ∧ w.grownBy w' none :=
 trim_any s _ w (by omega) (by decide) (by decide +kernel)
set_option maxRecDepth 100000 in
set_option maxHeartbeats 2000000 in
theorem isKey_any (s : ByteArray) (w : World) (hs : s.size ≤ 1000000000) :
 Calls Tryz.prog 95 #[.string s] w fun e w' => e = .returned (.bool (keyB s.data.toList)) ∧ w.grownBy w' none := by
 cases keyWay s with
 | none h e k =>
   have HK := Lib.hid k
   clear k
   go_enter Tryz.func95, Tryz.ntmps95
   go_wp2_with fail
   go_ret
   exact ⟨ret_bool HK.out.symm, gr_refl _ _⟩
 | long h e k =>
   have HK := Lib.hid k
   have h2 : (40 : Int) < (s.size : Int) := by omega
   clear k
   go_enter Tryz.func95, Tryz.ntmps95
   go_wp2_with fail
   go_ret
   exact ⟨ret_bool HK.out.symm, gr_refl _ _⟩
 | odd h0 h e n k =>
   have HK := Lib.hid k
   have h1 : (0 : Int) < (s.size : Int) := by omega
   have h2 : (s.size : Int) ≤ 40 := by omega
   clear k
   go_enter Tryz.func95, Tryz.ntmps95
   go_wp2_with fail
   refine (index_small _ _).mono ?_
   rintro _ _ ⟨rfl, rfl⟩
   go_wp2_with fail
   go_ret
   exact ⟨ret_bool HK.out.symm, gr_refl _ _⟩
 | bad h0 h e n t k =>
   have HK := Lib.hid k
   have h1 : (0 : Int) < (s.size : Int) := by omega
   have h2 : (s.size : Int) ≤ 40 := by omega
   have HT := Lib.hid t
   clear k t
   go_enter Tryz.func95, Tryz.ntmps95
   go_wp2_with fail
   refine (index_small _ _).mono ?_
   rintro _ _ ⟨rfl, rfl⟩
   go_wp2_with fail
   refine (trim_key _ _ hs).mono ?_
   rintro _ w1 ⟨rfl, hg⟩
   obtain ⟨T, hT⟩ : ∃ T : ByteArray, T = ⟨(Lib.trimS s.data.toList keyL).toArray⟩ := ⟨_, rfl⟩
   have hTe : T.toList.isEmpty = false := by rw [Lib.toList_data, hT]; exact HT.out
   rw [← hT]
   clear hT
   go_wp2_with fail
   go_ret
   exact ⟨ret_bool HK.out.symm, hg⟩
 | ok h0 h e n t k =>
   have HK := Lib.hid k
   have h1 : (0 : Int) < (s.size : Int) := by omega
   have h2 : (s.size : Int) ≤ 40 := by omega
   have HT := Lib.hid t
   clear k t
   go_enter Tryz.func95, Tryz.ntmps95
   go_wp2_with fail
   refine (index_small _ _).mono ?_
   rintro _ _ ⟨rfl, rfl⟩
   go_wp2_with fail
   refine (trim_key _ _ hs).mono ?_
   rintro _ w1 ⟨rfl, hg⟩
   obtain ⟨T, hT⟩ : ∃ T : ByteArray, T = ⟨(Lib.trimS s.data.toList keyL).toArray⟩ := ⟨_, rfl⟩
   have hTe : T.toList = [] := by rw [Lib.toList_data, hT]; exact HT.out
   rw [← hT]
   clear hT
   go_wp2_with fail
   go_ret
   exact ⟨ret_bool HK.out.symm, hg⟩
set_option maxRecDepth 100000 in
set_option maxHeartbeats 2000000 in
theorem refKey_any (s : ByteArray) (w : World) (hs : s.size ≤ 1000000000) :
 Calls Tryz.prog 53 #[.string s] w fun e w' => e = .returned (.bool (keyB s.data.toList)) ∧ w.grownBy w' none := by
 have hin : ∀ W : World, Calls Tryz.prog 50 #[.int .i64 s.size, .int .i64 1, .int .i64 40] W fun e w' => e = .returned (.bool (decide (1 ≤ s.size ∧ s.size ≤ 40))) ∧ W = w' := fun W =>
  (in_any _ _ _ W).mono fun e w' ⟨he, hw⟩ => ⟨by
   rw [he]
   refine ret_bool ?_
   by_cases hh : 1 ≤ s.size ∧ s.size ≤ 40
   ·rw [outB_no (by omega) (by omega)]; simp [hh]
   ·rw [outB_yes (by omega)]; simp; omega, hw⟩
 have HIN := Lib.hid hin
 clear hin
 cases keyWay s with
 | none h e k =>
   have HK := Lib.hid k
   have hd : decide (1 ≤ s.size ∧ s.size ≤ 40) = false := by simp; omega
   have HH := Lib.hid h
   clear k h
   go_enter Tryz.func53, Tryz.ntmps53
   go_wp2_with fail
   refine (HIN.out _).mono ?_
   rintro _ _ ⟨rfl, rfl⟩
   rw [hd]
   go_wp2_with fail
   go_ret
   exact ⟨ret_bool HK.out.symm, gr_refl _ _⟩
 | long h e k =>
   have HK := Lib.hid k
   have hd : decide (1 ≤ s.size ∧ s.size ≤ 40) = false := by simp; omega
   clear k
   go_enter Tryz.func53, Tryz.ntmps53
   go_wp2_with fail
   refine (HIN.out _).mono ?_
   rintro _ _ ⟨rfl, rfl⟩
   rw [hd]
   go_wp2_with fail
   go_ret
   exact ⟨ret_bool HK.out.symm, gr_refl _ _⟩
 | odd h0 h e n k =>
   have HK := Lib.hid k
   have hd : decide (1 ≤ s.size ∧ s.size ≤ 40) = true := by simp; omega
   have h1 : (0 : Int) < (s.size : Int) := by omega
   clear k
   go_enter Tryz.func53, Tryz.ntmps53
   go_wp2_with fail
   refine (HIN.out _).mono ?_
   rintro _ _ ⟨rfl, rfl⟩
   rw [hd]
   go_wp2_with fail
   refine (trim_key _ _ hs).mono ?_
   rintro _ w1 ⟨rfl, hg⟩
   obtain ⟨T, hT⟩ : ∃ T : ByteArray, T = ⟨(Lib.trimS s.data.toList keyL).toArray⟩ := ⟨_, rfl⟩
   rw [← hT]
   clear hT
   cases hTe : T.toList.isEmpty
   ·go_wp2_with fail
    go_ret
    exact ⟨ret_bool HK.out.symm, hg⟩
   ·have hTn : T.toList = [] := by simpa using hTe
    clear hTe
    go_wp2_with fail
    refine (index_small _ _).mono ?_
    rintro _ _ ⟨rfl, rfl⟩
    go_wp2_with fail
    go_ret
    exact ⟨ret_bool (by rw [HK.out]; exact decide_eq_false (by omega)), hg⟩
 | bad h0 h e n t k =>
   have HK := Lib.hid k
   have hd : decide (1 ≤ s.size ∧ s.size ≤ 40) = true := by simp; omega
   have HT := Lib.hid t
   clear k t
   go_enter Tryz.func53, Tryz.ntmps53
   go_wp2_with fail
   refine (HIN.out _).mono ?_
   rintro _ _ ⟨rfl, rfl⟩
   rw [hd]
   go_wp2_with fail
   refine (trim_key _ _ hs).mono ?_
   rintro _ w1 ⟨rfl, hg⟩
   obtain ⟨T, hT⟩ : ∃ T : ByteArray, T = ⟨(Lib.trimS s.data.toList keyL).toArray⟩ := ⟨_, rfl⟩
   have hTe : T.toList.isEmpty = false := by rw [Lib.toList_data, hT]; exact HT.out
   rw [← hT]
   clear hT
   go_wp2_with fail
   go_ret
   exact ⟨ret_bool HK.out.symm, hg⟩
 | ok h0 h e n t k =>
   have HK := Lib.hid k
   have hd : decide (1 ≤ s.size ∧ s.size ≤ 40) = true := by simp; omega
   have h1 : (0 : Int) < (s.size : Int) := by omega
   have HT := Lib.hid t
   clear k t
   go_enter Tryz.func53, Tryz.ntmps53
   go_wp2_with fail
   refine (HIN.out _).mono ?_
   rintro _ _ ⟨rfl, rfl⟩
   rw [hd]
   go_wp2_with fail
   refine (trim_key _ _ hs).mono ?_
   rintro _ w1 ⟨rfl, hg⟩
   obtain ⟨T, hT⟩ : ∃ T : ByteArray, T = ⟨(Lib.trimS s.data.toList keyL).toArray⟩ := ⟨_, rfl⟩
   have hTe : T.toList = [] := by rw [Lib.toList_data, hT]; exact HT.out
   rw [← hT]
   clear hT
   go_wp2_with fail
   refine (index_small _ _).mono ?_
   rintro _ _ ⟨rfl, rfl⟩
   go_wp2_with fail
   go_ret
   exact ⟨ret_bool (by rw [HK.out]; exact decide_eq_true n), hg⟩
end Go.Proofs.YtbpkfkbbkgdlaaaGreatDoor

namespace Go.Proofs.YtbpkfkbbkgdlaaaGreatDoor
open Go.RowKit
set_option linter.unusedVariables false

theorem flat_at {α : Type} (enc : α → List Value) (m : Nat) (hm : ∀ x, (enc x).length = m) : ∀ (l : List α) (k j : Nat) (hk : k < l.length), j < m → (l.flatMap enc)[k * m + j]? = (enc l[k])[j]?
 | x :: r, 0, j, hk, hj => by
   rw [List.flatMap_cons, Nat.zero_mul, Nat.zero_add, List.getElem?_append_left (by rw [hm]; exact hj)]
   rfl
 | x :: r, k + 1, j, hk, hj => by
   have ih := flat_at enc m hm r k j (by simpa using hk) hj
   rw [List.flatMap_cons, List.getElem?_append_right (by rw [hm, Nat.add_mul]; omega), hm, show (k + 1) * m + j - m = k * m + j by rw [Nat.add_mul]; omega, ih]
   rfl
structure Ent where
 key : ByteArray
 cont : Int
 zone : Int
 a : Int
 z : Int
structure Pfx where
 beg : ByteArray
 ent : ByteArray
 a : Int
 z : Int
 whole : Bool
 zone : Int
def encE (e : Ent) : List Value := [.string e.key, .int .i64 e.cont, .int .i64 e.zone, .int .i64 e.a, .int .i64 e.z]
def encP (p : Pfx) : List Value := [.string p.beg, .string p.ent, .int .i64 p.a, .int .i64 p.z, .bool p.whole, .int .i64 p.zone]
def EntsFrom (base : Nat) (w : World) (v : Value) (l : List Ent) : Prop := w.ownsRow base 77 5 v l.length (l.flatMap encE)
def PfxsFrom (base : Nat) (w : World) (v : Value) (l : List Pfx) : Prop := w.ownsRow base 72 6 v l.length (l.flatMap encP)
theorem EntsFrom.grown {base : Nat} {w w' : World} {v : Value} {l : List Ent} (h : EntsFrom base w v l) (hg : w.grownBy w' none) : EntsFrom base w' v l := ownsRow_grown h hg
theorem PfxsFrom.grown {base : Nat} {w w' : World} {v : Value} {l : List Pfx} (h : PfxsFrom base w v l) (hg : w.grownBy w' none) : PfxsFrom base w' v l := ownsRow_grown h hg
theorem EntsFrom.other {base b : Nat} {w w' : World} {v : Value} {l : List Ent} (h : EntsFrom base w v l) (hg : w.grownBy w' (some b)) (hb : b < base) : EntsFrom base w' v l := ownsRow_other h hg hb
theorem PfxsFrom.other {base b : Nat} {w w' : World} {v : Value} {l : List Pfx} (h : PfxsFrom base w v l) (hg : w.grownBy w' (some b)) (hb : b < base) : PfxsFrom base w' v l := ownsRow_other h hg hb
theorem EntsFrom.shape {base : Nat} {w : World} {v : Value} {l : List Ent} (h : EntsFrom base w v l) :
 ∃ A c, v = .slice A l.length c ∧ l.length ≤ 9223372036854775807 ∧ (0 < l.length → ∃ g, A = some ⟨g, 0, none⟩ ∧ base ≤ g ∧ g < w.heap.size) := ownsRow_shape h
theorem PfxsFrom.shape {base : Nat} {w : World} {v : Value} {l : List Pfx} (h : PfxsFrom base w v l) :
 ∃ A c, v = .slice A l.length c ∧ l.length ≤ 9223372036854775807 ∧ (0 < l.length → ∃ g, A = some ⟨g, 0, none⟩ ∧ base ≤ g ∧ g < w.heap.size) := ownsRow_shape h
theorem EntsFrom.at_ {base : Nat} {w : World} {g c : Nat} {l : List Ent} (h : EntsFrom base w (.slice (some ⟨g, 0, none⟩) l.length c) l) (k : Nat) (hk : k < l.length) :
 w.cell? ⟨g, k * 5, none⟩ = some (.string l[k].key) ∧ w.cell? ⟨g, k * 5 + 1, none⟩ = some (.int .i64 l[k].cont) ∧ w.cell? ⟨g, k * 5 + 2, none⟩ = some (.int .i64 l[k].zone) ∧ w.cell? ⟨g, k * 5 + 3, none⟩ = some (.int .i64 l[k].a) ∧ w.cell? ⟨g, k * 5 + 4, none⟩ = some (.int .i64 l[k].z) := by
 have hf := flat_at encE 5 (fun _ => rfl) l k
 have h0 := hf 0 hk (by decide)
 rw [Nat.add_zero] at h0
 refine ⟨?_, ?_, ?_, ?_, ?_⟩
 ·rw [World.ownsRow.cellAt h _ (by omega), h0]; rfl
 ·rw [World.ownsRow.cellAt h _ (by omega), hf 1 hk (by decide)]; rfl
 ·rw [World.ownsRow.cellAt h _ (by omega), hf 2 hk (by decide)]; rfl
 ·rw [World.ownsRow.cellAt h _ (by omega), hf 3 hk (by decide)]; rfl
 ·rw [World.ownsRow.cellAt h _ (by omega), hf 4 hk (by decide)]; rfl
theorem PfxsFrom.at_ {base : Nat} {w : World} {g c : Nat} {l : List Pfx} (h : PfxsFrom base w (.slice (some ⟨g, 0, none⟩) l.length c) l) (k : Nat) (hk : k < l.length) :
 w.cell? ⟨g, k * 6, none⟩ = some (.string l[k].beg) ∧ w.cell? ⟨g, k * 6 + 1, none⟩ = some (.string l[k].ent) ∧ w.cell? ⟨g, k * 6 + 2, none⟩ = some (.int .i64 l[k].a) ∧ w.cell? ⟨g, k * 6 + 3, none⟩ = some (.int .i64 l[k].z) ∧ w.cell? ⟨g, k * 6 + 4, none⟩ = some (.bool l[k].whole) ∧ w.cell? ⟨g, k * 6 + 5, none⟩ = some (.int .i64 l[k].zone) := by
 have hf := flat_at encP 6 (fun _ => rfl) l k
 have h0 := hf 0 hk (by decide)
 rw [Nat.add_zero] at h0
 refine ⟨?_, ?_, ?_, ?_, ?_, ?_⟩
 ·rw [World.ownsRow.cellAt h _ (by omega), h0]; rfl
 ·rw [World.ownsRow.cellAt h _ (by omega), hf 1 hk (by decide)]; rfl
 ·rw [World.ownsRow.cellAt h _ (by omega), hf 2 hk (by decide)]; rfl
 ·rw [World.ownsRow.cellAt h _ (by omega), hf 3 hk (by decide)]; rfl
 ·rw [World.ownsRow.cellAt h _ (by omega), hf 4 hk (by decide)]; rfl
 ·rw [World.ownsRow.cellAt h _ (by omega), hf 5 hk (by decide)]; rfl
/-- Strings in order: at most. -/
def leS (a b : ByteArray) : Bool := Op.bytesLess a.toList b.toList || a.toList == b.toList
def prevL {α : Type} (l : List α) (k : Nat) : Option α := if k = 0 then none else l[k - 1]?
theorem prevL_succ {α : Type} (l : List α) (k : Nat) (h : k < l.length) : prevL l (k + 1) = some l[k] := by unfold prevL; simp [h]
/-- What is wrong with an entity behind another one. -/
def entE1 (p : Option Ent) (e : Ent) : Int :=
 if keyB e.key.data.toList = false then 5
 else if outB e.cont 1 7 then 4
 else if outB e.zone 1 90 then 1
 else if timeB e.a e.z = false then 1
 else match p with
  | none => 0
  | some q => if leS e.key q.key then 7 else 0
def entsScan : Option Ent → List Ent → Int
 | _, [] => 0
 | p, e :: r => if entE1 p e = 0 then entsScan (some e) r else entE1 p e
def entsE (l : List Ent) : Int := if 400 < l.length then 2 else entsScan none l
theorem entsScan_step (l : List Ent) (k : Nat) (h : k < l.length) : entsScan (prevL l k) (l.drop k) = if entE1 (prevL l k) l[k] = 0 then entsScan (prevL l (k + 1)) (l.drop (k + 1)) else entE1 (prevL l k) l[k] := by
 rw [List.drop_eq_getElem_cons h, prevL_succ l k h]
 rfl
theorem entsScan_end (l : List Ent) (p : Option Ent) : entsScan p (l.drop l.length) = 0 := by rw [List.drop_length]; rfl
theorem entE1_cases (p : Option Ent) (e : Ent) : (keyB e.key.data.toList = false ∧ entE1 p e = 5) ∨ (keyB e.key.data.toList = true ∧ outB e.cont 1 7 = true ∧ entE1 p e = 4) ∨ (keyB e.key.data.toList = true ∧ outB e.cont 1 7 = false ∧ outB e.zone 1 90 = true ∧ entE1 p e = 1) ∨ (keyB e.key.data.toList = true ∧ outB e.cont 1 7 = false ∧ outB e.zone 1 90 = false ∧ timeB e.a e.z = false ∧ entE1 p e = 1) ∨
 (keyB e.key.data.toList = true ∧ outB e.cont 1 7 = false ∧ outB e.zone 1 90 = false ∧ timeB e.a e.z = true ∧ entE1 p e = match p with | none => 0 | some q => if leS e.key q.key then 7 else 0) := by
 unfold entE1
 cases keyB e.key.data.toList <;> cases outB e.cont 1 7 <;> cases outB e.zone 1 90 <;> cases timeB e.a e.z <;> simp
/-- Entities whose parts are of a size. -/
def EntSm (e : Ent) : Prop := e.key.size ≤ 1000000000 ∧ -1152921504606846976 ≤ e.z ∧ e.z ≤ 1152921504606846976
end Go.Proofs.YtbpkfkbbkgdlaaaGreatDoor

namespace Go.Proofs.YtbpkfkbbkgdlaaaGreatDoor
open Go.RowKit
set_option linter.unusedVariables false
set_option linter.unusedSimpArgs false

theorem closKey (K s : ByteArray) (a b c d : Int) (x : Nat) (w : World) (hx : w.cell? ⟨x, 0, none⟩ = some (.string s)) :
 Calls Tryz.prog 78 #[.agg #[.string K, .int .i64 a, .int .i64 b, .int .i64 c, .int .i64 d], .pointer (some ⟨x, 0, none⟩)] w fun r w' => r = .returned (.bool (decide (K = s))) ∧ w.grownBy w' none := by
 have hlx : x < w.heap.size := World.block_lt_of_cell? w _ hx
 have hB := (Blk.new w 77 #[.string K, .int .i64 a, .int .i64 b, .int .i64 c, .int .i64 d]).cell 0
 simp only [List.getElem?_toArray, List.getElem?_cons_zero] at hB
 obtain ⟨B, hB2⟩ : ∃ B, (K.toList == s.toList) = B := ⟨_, rfl⟩
 have HBX : Hid (decide (K = s) = B) := by
  show _ = _
  rw [← hB2]
  by_cases h : K = s
  ·rw [h]; simp
  ·have : ¬ K.toList = s.toList := fun e => h (by
    have h1 : K.data.toList = s.data.toList := by rw [← Lib.toList_data, ← Lib.toList_data]; exact e
    have h2 : K.data = s.data := Array.ext' h1
    cases K; cases s; simp_all)
   rw [decide_eq_false h]
   symm
   rw [beq_eq_false_iff_ne]
   exact this
 go_enter Tryz.func78, Tryz.ntmps78
 go_wp2_with fail
 go_ret
 exact ⟨ret_b HBX.out.symm, World.grownBy_alloc w _ _⟩
def hasEnt (l : List Ent) (s : ByteArray) : Bool := l.any fun e => decide (e.key = s)
def IdxEnt (l : List Ent) (s : ByteArray) (w : World) (e : Ending) (w' : World) : Prop := ∃ i : Int, e = .returned (.int .i64 i) ∧ (i = -1 ∧ hasEnt l s = false ∨ 0 ≤ i ∧ hasEnt l s = true) ∧ w.grownBy w' none
set_option maxRecDepth 100000 in
set_option maxHeartbeats 2000000 in
theorem indexEnt (base x : Nat) (v : Value) (l : List Ent) (s : ByteArray) (w : World) (hl : EntsFrom base w v l) (hbig : l.length ≤ 1000) (hx : w.cell? ⟨x, 0, none⟩ = some (.string s)) :
 Calls Tryz.prog 128 #[v, .func (.func 78) #[] #[.pointer (some ⟨x, 0, none⟩)]] w (IdxEnt l s w) := by
 obtain ⟨A, c, rfl, hlen, hA⟩ := hl.shape
 have HL := Lib.hid hl
 have HA := Lib.hid hA
 have HX : Hid (∀ W, w.grownBy W none → W.cell? ⟨x, 0, none⟩ = some (.string s)) := fun W h => h.cell hx (by simp)
 clear hl hA hx
 go_enter Tryz.func128, Tryz.ntmps128
 go_wp2_with fail
 go_loopw [8] (fun i wr => ∃ k : Nat, k ≤ l.length ∧ i = .int .i64 k ∧ Hid (hasEnt (l.take k) s = false) ∧ w.grownBy wr none) (fun i _ => l.length - (intOf i).toNat)
 case atStart => exact ⟨0, by omega, rfl, by show List.any (List.take 0 l) _ = _; simp, gr_refl _ _⟩
 case round =>
  obtain ⟨k, hk, rfl, HN, hg⟩ := hrel
  by_cases hlt : k < l.length
  ·obtain ⟨g, rfl, _, hgl⟩ := HA.out (by omega)
   obtain ⟨q0, q1, q2, q3, q4⟩ := (HL.out.grown hg).at_ k hlt
   have hkl : (k : Int) < (l.length : Int) := by omega
   have htk : hasEnt (l.take (k + 1)) s = (hasEnt (l.take k) s || decide (l[k].key = s)) := by
    unfold hasEnt
    rw [List.take_succ_eq_append_getElem hlt, List.any_append]; simp
   have hyes : l[k].key = s → hasEnt l s = true := fun h => List.any_eq_true.2 ⟨l[k], List.getElem_mem hlt, by simpa using h⟩
   rw [HN.out] at htk
   have HC := Lib.hid (fun W hW => closKey l[k].key s l[k].cont l[k].zone l[k].a l[k].z x W (HX.out W hW))
   generalize l[k].key = K at *
   generalize l[k].cont = C at *
   generalize l[k].zone = Z at *
   generalize l[k].a = ea at *
   generalize l[k].z = ez at *
   by_cases hd : K = s
   ·have HY := Lib.hid (hyes hd)
    have hdd : Hid (decide (K = s) = true) := by show _ = _; simpa using hd
    clear htk hyes hd
    go_wp2_with fail
    refine (HC.out _ hg).mono ?_
    rintro _ w1 ⟨rfl, hg1⟩
    rw [hdd.out]
    go_wp2_with fail
    go_ret
    exact ⟨k, rfl, .inr ⟨by omega, HY.out⟩, gr_trans hg hg1⟩
   ·have hdd : Hid (decide (K = s) = false) := by show _ = _; simpa using hd
    have HN2 : Hid (hasEnt (l.take (k + 1)) s = false) := by show _ = _; rw [htk, hdd.out]; rfl
    clear htk hyes hd
    go_wp2_with fail
    refine (HC.out _ hg).mono ?_
    rintro _ w1 ⟨rfl, hg1⟩
    rw [hdd.out]
    go_wp2_with fail
    go_roundw
    case rel => exact ⟨k + 1, by omega, by go_num, HN2, gr_trans hg hg1⟩
    case measure => simp [intOf]; omega
  ·have hkl : ¬ (k : Int) < (l.length : Int) := by omega
   have HN3 : Hid (hasEnt l s = false) := by
    show _ = _
    have := HN.out
    rwa [List.take_of_length_le (by omega)] at this
   go_wp2_with fail
   go_ret
   exact ⟨-1, rfl, .inl ⟨rfl, HN3.out⟩, hg⟩
theorem hasEnt_any (base x : Nat) (v : Value) (l : List Ent) (s : ByteArray) (w : World) (hl : EntsFrom base w v l) (hbig : l.length ≤ 1000) (hx : w.cell? ⟨x, 0, none⟩ = some (.string s)) :
 Calls Tryz.prog 77 #[v, .func (.func 78) #[] #[.pointer (some ⟨x, 0, none⟩)]] w fun r w' => r = .returned (.bool (hasEnt l s)) ∧ w.grownBy w' none := by
 have HI := Lib.hid (indexEnt base x v l s w hl hbig hx)
 clear hl hx
 go_enter Tryz.func77, Tryz.ntmps77
 go_wp2_with fail
 refine HI.out.mono ?_
 rintro _ w1 ⟨i, rfl, hi, hg⟩
 rcases hi with ⟨rfl, h⟩ | ⟨h0, h⟩
 ·have H := Lib.hid h
  clear h
  go_wp2_with fail
  go_ret
  exact ⟨ret_b (by rw [H.out]), hg⟩
 ·have H := Lib.hid h
  clear h
  go_wp2_with fail
  go_ret
  exact ⟨ret_b (by rw [H.out]), hg⟩
end Go.Proofs.YtbpkfkbbkgdlaaaGreatDoor
