/- Small words for memory that the walks share: a block that is known whole; a slice that reads as a list; the stream of numbers. No condition. The stream's small methods: Flip, Range, Pick, Odd: each answers in its range, and turns the stream alone. Condition: it has handed out at most 10^12 numbers. The stream's Some: one of some strings. Condition: it has handed out at most 10^12 numbers. How a law begins: the stream is laid over the numbers that came in. No condition. The stream told exactly: Next, Flip, Range, Pick and Some answer as functions of the list and of how many numbers were handed out. Condition: at most 10^12 numbers were. The tests of ranges, moments and sites, and cmp.Or over errors: each answers as its plain form says. No condition. A slice of ints that the program has made, as a list of numbers; slices.Equal at two that are equal. No condition. Contracts of Go's library at this translation, as the kit's shelf lays them in plain words: each says its own conditions. Plain law of times: their errors, how many are in a window: no program in sight. No condition. The walks over the errors of times and windows, over how many moments are before one or in a window, in package rate and in the reference. Condition: times that are counted by search are sorted. The walks over how many moments are before one and in a window, in package rate (by search) and in the reference (by counting). Condition: times that are searched are sorted. The walks over fractions in lowest terms, the last milliseconds before a moment, and the bad case of each exported function of package rate that begins with CheckTimes. Condition: numbers within their ranges. The walks over rate.In, rate.Rate and their twins in the reference. Condition: the window's end is no number beyond 2^60; else times without error where the name says ok. -/
import Derived.Test.YtbpkfkbbkgdlaaaGreatDoorRows
import Derived.WalkKit
import Derived.WalkSpells
import Derived.WalkLawsBesides
import Derived.Deep.QuietTactic
import Derived.BigQuiet
import Derived.Lib.Hide
import Derived.ProofKit
import Derived.OpenShut
import Derived.ShutString
import Derived.ChangeOld
import Derived.Below
import Derived.Shelf.Strings.Trim
import Derived.Shelf.Small.Utf8
import Derived.Shelf.Small.Bits
import Derived.Shelf.Small.Strs
import Derived.Shelf.Small.Wraps
import Derived.Shelf.Utf8.RuneCount
import Derived.Shelf.Strconv.Atoi
import Derived.Shelf.Strconv.Itoa0
import Derived.Shelf.Strconv.Itoa1
import Derived.Shelf.LaysM
import Derived.Shelf.Strconv.Itoa2
import Derived.Shelf.Strconv.Itoa3
import Derived.Shelf.Strconv.AtoiErrFast
import Derived.Shelf.Strconv.ParseIntEmpty
import Derived.Shelf.Strconv.AtoiFail
import Derived.Shelf.Strconv.Clone
import Derived.Shelf.Strconv.SyntaxError
import Derived.Shelf.LaysC
import Derived.Shelf.Strconv.ToError
import Derived.Shelf.Strconv.AtoiErr
import Derived.Shelf.Strconv.ErrVar
import Derived.Shelf.Strconv.Lower
import Derived.Shelf.Strconv.ParseUint10
import Derived.Shelf.Strconv.ParseUint10Empty
import Derived.Shelf.Strconv.ParseUint10Any
import Derived.Shelf.Strconv.ParseInt10
import Derived.Shelf.Strconv.AtoiLong
import Derived.Shelf.Strconv.AtoiInnerAll
import Derived.Shelf.Strconv.RangeError
import Derived.Shelf.Strconv.ToErrorRange
import Derived.Shelf.Strconv.AtoiAll
import Derived.Shelf.Strconv.ErrVarAll
import Derived.Shelf.Strconv.ParseUintEmpty
import Derived.Shelf.Strconv.ParseUint10b64
import Derived.Shelf.Strconv.ParseUint10b32
import Derived.Shelf.Strconv.ParseUint10b16
import Derived.Shelf.Strconv.ParseUint10b8
import Derived.Shelf.Strconv.ParseUint10At
import Derived.Shelf.Strconv.ParseInt10At64
import Derived.Shelf.Strconv.ParseInt10At32
import Derived.Shelf.Strconv.ParseInt10At16
import Derived.Shelf.Strconv.ParseInt10At8
import Derived.Shelf.Strconv.ParseInt10All
import Derived.Shelf.Strings.Search1
import Derived.Shelf.Strings.Search2
import Derived.Shelf.Strings.Search3
import Derived.Shelf.Strings.Cut
import Derived.Shelf.Strings.Count
import Derived.Shelf.Strings.Shaped
import Derived.Shelf.Sort.Plain
import Derived.Shelf.Strings.Prefix
import Derived.Shelf.Strings.Split
import Derived.Shelf.Strings.Fields
import Derived.Shelf.Strings.SplitShaped
import Derived.Shelf.Unicode.Latin
import Derived.Shelf.Unicode.Decode
import Derived.Shelf.Strings.Runes
import Derived.Shelf.Strings.RuneCount
import Derived.Shelf.Strings.IndexAny
import Derived.Shelf.Strings.AsciiSet
import Derived.Shelf.Strings.IndexAnyAll
import Derived.Shelf.Strings.Explode
import Derived.Shelf.Unicode.DecodeSlow
import Derived.Shelf.Unicode.DecodeAny
import Derived.Shelf.Unicode.Is16White
import Derived.Shelf.Unicode.IsSpaceAny
import Derived.Shelf.Unicode.DecodeLast
import Derived.Shelf.Unicode.Is16WhiteD
import Derived.Shelf.Unicode.IsSpaceAnyD
import Derived.Shelf.Strings.FieldsAny
import Derived.Shelf.Strings.FieldsFuncAny
import Derived.Shelf.Unicode.Is16Any
import Derived.Shelf.Unicode.Is32Any
import Derived.Shelf.Unicode.ExclAny
import Derived.Shelf.Strings.FieldsFuncGrows
import Derived.Shelf.Slices.Turned
import Derived.Shelf.Slices.Equal
import Derived.Ground.Names2Prog
import Derived.Shelf.Slices.Clone
import Derived.Shelf.Slices.CompactI
import Derived.Shelf.Slices.CompactS
import Derived.Shelf.Slices.SearchI
import Derived.Shelf.Slices.Cells
import Derived.Shelf.Slices.In.SortNone
import Derived.Shelf.Slices.Empties
import Derived.Shelf.Slices.Empties2
import Derived.Ground.SlgnProg
import Derived.Shelf.SlicesE.Clone
import Derived.Test.YtbpkfkbbkgdlaaaGreatDoorProg
import Derived.Deep.RegionHeld3
namespace Go.Proofs.YtbpkfkbbkgdlaaaGreatDoor
theorem ssA.{u} {A : Type u} {l : List A} {i : Nat} {a : A} : l.toArray.setIfInBounds i a = (l.set i a).toArray := List.setIfInBounds_toArray ..
theorem ssZ.{u} {A : Type u} {x y : A} {l : List A} : (x :: l).set 0 y = y :: l := rfl
theorem ssS.{u} {A : Type u} {x y : A} {l : List A} {n : Nat} : (x :: l).set (n + 1) y = x :: l.set n y := rfl
set_option linter.unusedVariables false
open Go.RowKit

/-- Block g holds just these cells, none of them frozen. -/
def Blk (w : World) (g : Nat) (t : TypeId) (cs : Array Value) : Prop := w.heap[g]? = some (.cells cs t (0, 0))
section
variable {w w' : World} {g : Nat} {t : TypeId} {cs : Array Value}
theorem Blk.lt (h : Blk w g t cs) : g < w.heap.size := (Array.getElem?_eq_some_iff.1 h).1
theorem Blk.cell (h : Blk w g t cs) (i : Nat) : w.cell? ⟨g, i, none⟩ = cs[i]? := cell_of_row w g i cs t (0, 0) h
theorem Blk.free (h : Blk w g t cs) (i : Nat) : w.frozen? ⟨g, i, none⟩ = false := by
 unfold Blk at h; simp [World.frozen?, h]
theorem Blk.new (w : World) (t : TypeId) (cs : Array Value) : Blk (w.alloc (.cells cs t)) w.heap.size t cs := heap_alloc_new w _
theorem Blk.alloc (h : Blk w g t cs) (o : Obj) : Blk (w.alloc o) g t cs := (Below.heap_alloc w o g h.lt).trans h
theorem Blk.drew (h : Blk w g t cs) : Blk w.drew g t cs := h
theorem Blk.drewN (h : Blk w g t cs) (n : Nat) : Blk (w.drewN n) g t cs := h
theorem Blk.put (h : Blk w g t cs) (i : Nat) (u : Value) : Blk (w.setCell ⟨g, i, none⟩ u) g t (cs.setIfInBounds i u) := by
 unfold Blk at h ⊢; simp [World.setCell, Array.getElem?_modify, h]
theorem Blk.far (h : Blk w g t cs) {p : Addr} (hp : g ≠ p.block) (u : Value) : Blk (w.setCell p u) g t cs := (Below.heap_setCell w p u g hp).trans h
theorem Blk.grown (h : Blk w g t cs) {row : Option Nat} (hb : w.grownBy w' row) (hg : some g ≠ row) : Blk w' g t cs := (hb.block g h.lt hg).trans h
end

/-! ### What a call leaves: 'w.grownBy w' none': nothing that was there has turned; 'w.grownBy w' (some b)': block b alone may have turned. -/
theorem gr_refl (w : World) (row : Option Nat) : w.grownBy w row := World.grownBy.refl w row
theorem gr_trans {a b c : World} {row : Option Nat} (h : a.grownBy b row) (k : b.grownBy c row) : a.grownBy c row :=
 ⟨k.os.trans h.os, k.tape.trans h.tape, k.output.trans h.output, Nat.le_trans h.size k.size, fun i hi hne => (k.block i (Nat.lt_of_lt_of_le hi h.size) hne).trans (h.block i hi hne)⟩
theorem gr_weak {a b : World} (h : a.grownBy b none) (row : Option Nat) : a.grownBy b row := ⟨h.os, h.tape, h.output, h.size, fun i hi _ => h.block i hi (by simp)⟩
theorem gr_drew {a w : World} {row : Option Nat} (h : a.grownBy w row) : a.grownBy w.drew row := ⟨h.os, h.tape, h.output, h.size, h.block⟩
theorem gr_drewN {a w : World} {row : Option Nat} (h : a.grownBy w row) (n : Nat) : a.grownBy (w.drewN n) row := ⟨h.os, h.tape, h.output, h.size, h.block⟩
theorem gr_alloc {a w : World} {row : Option Nat} (h : a.grownBy w row) (o : Obj) : a.grownBy (w.alloc o) row :=
 ⟨h.os, h.tape, h.output, Nat.le_trans h.size (by simp), fun i hi hne => (Below.heap_alloc w o i (Nat.lt_of_lt_of_le hi h.size)).trans (h.block i hi hne)⟩
theorem gr_put {a w : World} {row : Option Nat} (h : a.grownBy w row) {p : Addr} (hp : row = some p.block ∨ a.heap.size ≤ p.block) (u : Value) : a.grownBy (w.setCell p u) row :=
 ⟨h.os, h.tape, h.output, by simpa [World.setCell] using h.size, fun i hi hne => (Below.heap_setCell w p u i (by
  rintro rfl
  rcases hp with hp | hp
  ·exact hne hp.symm
  ·omega)).trans (h.block i hi hne)⟩
theorem gr_grown {a w w' : World} {row row' : Option Nat} (h : a.grownBy w row) (k : w.grownBy w' row') (hr : ∀ g, row' = some g → row = some g ∨ a.heap.size ≤ g) : a.grownBy w' row :=
 ⟨k.os.trans h.os, k.tape.trans h.tape, k.output.trans h.output, Nat.le_trans h.size k.size, fun i hi hne => (k.block i (Nat.lt_of_lt_of_le hi h.size) (fun e => by
  rcases hr i e.symm with h1 | h1
  ·exact hne h1.symm
  ·omega)).trans (h.block i hi hne)⟩
theorem gr_below {a w : World} (h : a.grownBy w none) : Below a.heap.size a w := ⟨h.os, h.tape, h.output, h.size, fun i hi => h.block i hi (by simp)⟩
theorem gr_of_below {a w : World} (h : Below a.heap.size a w) : a.grownBy w none := ⟨h.os, h.tape, h.output, h.size, fun i hi _ => h.block i hi⟩
/-! ### Calls inside a region that draws its order: a contract that leaves the world alone. -/
theorem ret_of {k : IntKind} {a b : Int} (h : a = b) : Ending.returned (.int k a) = .returned (.int k b) := by rw [h]
theorem ret_b {a b : Bool} (h : a = b) : Ending.returned (.bool a) = .returned (.bool b) := by rw [h]
/-! ### pilemake.Below -/
theorem tmod_lo (x n : Int) (h : 1 ≤ n) : -n < x.tmod n ∧ x.tmod n < n := by
 have h1 := Int.tmod_lt_of_pos x (show 0 < n by omega)
 have h2 := Int.lt_tmod_of_pos x (show 0 < n by omega)
 exact ⟨h2, h1⟩
/-! ### The stream: a block of two cells: the numbers that it hands out, and how many it has handed out (at most k). -/
theorem add_block (a : Addr) (n : Nat) : (a.add n).block = a.block := by unfold Addr.add; split <;> rfl
end Go.Proofs.YtbpkfkbbkgdlaaaGreatDoor

namespace Go.Proofs.YtbpkfkbbkgdlaaaGreatDoor
set_option linter.unusedVariables false
open Go.RowKit

theorem getD_of {xs : List Int} {i : Nat} (h : i < xs.length) : ((xs.map (Value.int .i64)).toArray)[i]? = some (.int .i64 xs[i]) := by simp [h]
theorem Blk.cells2 {w : World} {g : Nat} {t : TypeId} {a0 a1 : Value} (h : Blk w g t #[a0, a1]) : w.cell? ⟨g, 0, none⟩ = some a0 ∧ w.cell? ⟨g, 1, none⟩ = some a1 := ⟨h.cell 0, h.cell 1⟩
theorem Blk.put01 {w : World} {g : Nat} {t : TypeId} {a0 a1 : Value} (h : Blk w g t #[a0, a1]) (b0 b1 : Value) : Blk ((w.setCell ⟨g, 0, none⟩ b0).setCell ⟨g, 1, none⟩ b1) g t #[b0, b1] := by
 have := (h.put 0 b0).put 1 b1
 simpa using this
end Go.Proofs.YtbpkfkbbkgdlaaaGreatDoor

namespace Go.Proofs.YtbpkfkbbkgdlaaaGreatDoor
set_option linter.unusedVariables false
open Go.RowKit

theorem getS_of {xs : List ByteArray} {i : Nat} (h : i < xs.length) : ((xs.map Value.string).toArray)[i]? = some (.string xs[i]) := by simp [h]
end Go.Proofs.YtbpkfkbbkgdlaaaGreatDoor

namespace Go.Proofs.YtbpkfkbbkgdlaaaGreatDoor
open Go.RowKit
set_option linter.unusedVariables false

/-- WHAT IS TOLD OF A SLICE OF INTEGERS THAT CAME IN: it is nil; or it leads to a row of 'cap' cells, the numbers 'zs'. -/
def IsRow (k : IntKind) (w : World) (a : Option Addr) (len cap : Nat) (zs : List Int) : Prop :=
 (a = none ∧ len = 0 ∧ cap = 0 ∧ zs = []) ∨
 ∃ x, a = some x ∧ len ≤ cap ∧ cap ≤ maxLen ∧ zs.length = cap ∧ (∀ i, i < zs.length → w.cell? (x.add i) = some (.int k (zs.getD i 0))) ∧ ∀ n ∈ zs, (Lit.int k n).wf = true
end Go.Proofs.YtbpkfkbbkgdlaaaGreatDoor

namespace Go.Proofs.YtbpkfkbbkgdlaaaGreatDoor
set_option linter.unusedVariables false
open Go.RowKit

/-- The stream at block b over the numbers L, of which k were handed out; L lies below base. -/
def SX (base : Nat) (w : World) (b : Nat) (L : List Int) (k : Nat) : Prop :=
 ∃ (A : Option Addr) (c : Nat), Blk w b 25 #[.slice A L.length c, .int .i64 (k : Int)] ∧ base ≤ b ∧ L.length ≤ 9223372036854775807 ∧
   (0 < L.length → ∃ ad, A = some ad ∧ ad.block < base ∧ ∀ j, j < L.length → w.cell? (ad.add j) = some (.int .i64 (L.getD j 0)))
theorem SX.lt {base : Nat} {w : World} {b k : Nat} {L : List Int} (h : SX base w b L k) : b < w.heap.size := by
 obtain ⟨A, c, h1, h2, h3, h4⟩ := h
 exact h1.lt
theorem SX.base {base : Nat} {w : World} {b k : Nat} {L : List Int} (h : SX base w b L k) : base ≤ b := by
 obtain ⟨A, c, h1, h2, h3, h4⟩ := h
 exact h2
theorem SX.grown {base : Nat} {w w' : World} {b k : Nat} {L : List Int} (h : SX base w b L k) {row : Option Nat} (hg : w.grownBy w' row) (hr : ∀ g, row = some g → g ≠ b ∧ base ≤ g) : SX base w' b L k := by
 obtain ⟨A, c, h1, h2, h3, h4⟩ := h
 have hlt := h1.lt
 refine ⟨A, c, h1.grown hg (fun e => (hr b e.symm).1 rfl), h2, h3, fun hn => ?_⟩
 obtain ⟨ad, e, hb, hc⟩ := h4 hn
 exact ⟨ad, e, hb, fun j hj => (World.cell?_of_block (hg.block _ (by rw [add_block]; omega) (fun e' => by have := (hr _ e'.symm).2; rw [add_block] at this; omega))).trans (hc j hj)⟩
theorem SX.alloc {base : Nat} {w : World} {b k : Nat} {L : List Int} (h : SX base w b L k) (o : Obj) : SX base (w.alloc o) b L k := h.grown (World.grownBy_alloc w o none) (by simp)
theorem SX.drew {base : Nat} {w : World} {b k : Nat} {L : List Int} (h : SX base w b L k) : SX base w.drew b L k := h
theorem SX.drewN {base : Nat} {w : World} {b k : Nat} {L : List Int} (h : SX base w b L k) (n : Nat) : SX base (w.drewN n) b L k := h
/-- What is reduced by 'Next'. -/
def mixV (L : List Int) (k : Nat) : Int :=
 if L.length = 0 then ((k : Int) + 1) * 7919
 else wrap64 (L.getD (k % L.length) 0 % 1073741824 + wrap64 (((k / L.length : Nat) : Int) * wrap64 (7919 + ((k % L.length : Nat) : Int))))
def nextV (L : List Int) (k : Nat) (n : Int) : Int := mixV L k % n
theorem nextV_bd (L : List Int) (k : Nat) {n : Int} (h : 1 ≤ n) : 0 ≤ nextV L k n ∧ nextV L k n < n := ⟨Int.emod_nonneg _ (by omega), Int.emod_lt_of_pos _ (by omega)⟩
theorem tmodX_neg {x n : Int} (h : 1 ≤ n) (hx : x.tmod n < 0) : x.tmod n + n = x % n := by
 have h2 : x.tmod n = x - n * x.tdiv n := by have := Int.mul_tdiv_add_tmod x n; omega
 have h3 := tmod_lo x n h
 have h4 : (x.tmod n + n) % n = x % n := by
  rw [Int.add_emod_right, h2, Int.sub_mul_emod_self_left]
 rw [← h4]
 exact (Int.emod_eq_of_lt (by omega) (by omega)).symm
theorem tmodX_pos {x n : Int} (h : 1 ≤ n) (hx : ¬ x.tmod n < 0) : x.tmod n = x % n := by
 have h2 : x.tmod n = x - n * x.tdiv n := by have := Int.mul_tdiv_add_tmod x n; omega
 have h3 := tmod_lo x n h
 have h4 : (x.tmod n) % n = x % n := by
  rw [h2, Int.sub_mul_emod_self_left]
 rw [← h4]
 exact (Int.emod_eq_of_lt (by omega) (by omega)).symm
set_option maxHeartbeats 400000 in
/-- Below, exactly. -/
theorem below_x (x n : Int) (w : World) (h1 : 1 ≤ n) (h2 : n ≤ 4611686018427387904) :
 Calls Tryz.prog 89 #[.int .i64 x, .int .i64 n] w fun e w' => e = .returned (.int .i64 (x % n)) ∧ w = w' := by
 have ht := tmod_lo x n h1
 obtain ⟨t1, t2⟩ := ht
 have HN := Lib.hid (fun h => tmodX_neg (x := x) h1 h)
 have HP := Lib.hid (fun h => tmodX_pos (x := x) h1 h)
 by_cases hx : x.tmod n < 0
 ·go_enter Tryz.func89, Tryz.ntmps89
  go_wp2
  go_ret
  exact ⟨ret_of (HN.out hx), rfl⟩
 ·go_enter Tryz.func89, Tryz.ntmps89
  go_wp2
  go_ret
  exact ⟨ret_of (HP.out hx), rfl⟩
def NextXPost (base b : Nat) (L : List Int) (k : Nat) (n : Int) (w : World) (e : Ending) (w' : World) : Prop :=
 e = .returned (.int .i64 (nextV L k n)) ∧ SX base w' b L (k + 1) ∧ w.grownBy w' (some b)
set_option maxHeartbeats 1000000 in
theorem next_x (base b : Nat) (L : List Int) (k : Nat) (n : Int) (w : World) (hs : SX base w b L k) (hk : k ≤ 1000000000000) (h1 : 1 ≤ n) (h2 : n ≤ 4611686018427387904) :
 Calls Tryz.prog 41 #[.pointer (some ⟨b, 0, none⟩), .int .i64 n] w (NextXPost base b L k n w) := by
 obtain ⟨A, c, hb, hbs, hn, hcell⟩ := hs
 have c0 := hb.cell 0
 have c1 := hb.cell 1
 have f1 := hb.free 1
 simp only [List.getElem?_toArray, List.getElem?_cons_zero, List.getElem?_cons_succ] at c0 c1
 obtain ⟨len, hlen⟩ : ∃ len, L.length = len := ⟨_, rfl⟩
 rw [hlen] at hn hcell c0 hb
 rcases Nat.eq_zero_or_pos len with h0 | h0
 ·subst h0
  have HV : Hid (nextV L k n = (((k : Int) + 1) * 7919) % n) := by show _ = _; unfold nextV mixV; rw [if_pos hlen]
  have H5 := Lib.hid hcell
  clear hcell
  have HLN := Lib.hid hlen
  clear hlen
  go_enter Tryz.func41, Tryz.ntmps41
  go_wp2_with fail
  refine (below_x _ _ _ h1 h2).mono ?_
  rintro e w' ⟨rfl, rfl⟩
  go_wp2_with fail
  go_ret
  have hb' := hb.put 1 (.int .i64 (k + 1))
  exact ⟨ret_of HV.out.symm, ⟨A, c, by rw [HLN.out]; exact hb', hbs, by rw [HLN.out]; exact hn, fun h => absurd h (by rw [HLN.out]; omega)⟩, gr_put (gr_refl _ _) (.inl rfl) _⟩
 ·obtain ⟨ad, rfl, hab, hx⟩ := hcell h0
  have H5 := Lib.hid hcell
  clear hcell
  obtain ⟨i, hi⟩ : ∃ i, k % len = i := ⟨_, rfl⟩
  obtain ⟨r, hr⟩ : ∃ r, k / len = r := ⟨_, rfl⟩
  have hil : i < len := by rw [← hi]; exact Nat.mod_lt _ h0
  have hrk : r ≤ k := by rw [← hr]; exact Nat.div_le_self _ _
  have m1 : (k : Int) % (len : Int) = (i : Int) := by rw [← hi]; exact (Int.natCast_emod _ _).symm
  have m2 : (k : Int) / (len : Int) = (r : Int) := by rw [← hr]; exact (Int.natCast_ediv _ _).symm
  have q0 : 0 ≤ (k : Int) % (len : Int) := by omega
  have q1 : (k : Int) % (len : Int) < (len : Int) := by omega
  have q2 : 0 ≤ (k : Int) / (len : Int) := by omega
  have q3 : (k : Int) / (len : Int) ≤ (k : Int) := by omega
  have hlenb : ((len : Int) == 0) = false := by rw [beq_eq_false_iff_ne]; omega
  have hz := hx i hil
  obtain ⟨z, hzz⟩ : ∃ z, L.getD i 0 = z := ⟨_, rfl⟩
  rw [hzz] at hz
  have hz' : (w.setCell ⟨b, 1, none⟩ (.int .i64 (k + 1))).cell? (ad.add i) = some (.int .i64 z) :=
   (World.cell?_setCell_other w _ _ _ (fun e => by have := add_block ad i; rw [← e] at this; simp at this; omega)).trans hz
  have HV : Hid (nextV L k n = wrap64 (z % 1073741824 + wrap64 ((r : Int) * wrap64 (7919 + (i : Int)))) % n) := by
   show _ = _
   unfold nextV mixV
   rw [if_neg (by omega), hlen, hi, hr, hzz]
  have HX := Lib.hid hx
  have HI := Lib.hid hi
  have HR := Lib.hid hr
  have HLN := Lib.hid hlen
  have HZZ := Lib.hid hzz
  have M1 := Lib.hid m1
  have M2 := Lib.hid m2
  clear hx hz hi hr hlen hzz
  go_enter Tryz.func41, Tryz.ntmps41
  go_wp2_with fail
  go_quiet (fail)
  go_wp2_with fail
  go_quiet (fail)
  go_wp2_with fail
  refine (below_x _ _ _ (by omega) (by omega)).mono ?_
  rintro e w' ⟨rfl, rfl⟩
  go_wp2_with fail
  refine (below_x _ _ _ h1 h2).mono ?_
  rintro e w' ⟨rfl, rfl⟩
  go_wp2_with fail
  go_ret
  have hb' := hb.put 1 (.int .i64 (k + 1))
  exact ⟨ret_of HV.out.symm, ⟨some ad, c, by rw [HLN.out]; exact hb', hbs, by rw [HLN.out]; exact hn, fun _ => ⟨ad, rfl, hab, fun j hj => by
   rw [HLN.out] at hj
   exact (World.cell?_setCell_other w _ _ _ (fun e => by have := add_block ad j; rw [← e] at this; simp at this; omega)).trans (HX.out j hj)⟩⟩,
   by repeat (first | exact gr_put (gr_refl _ _) (.inl rfl) _ | refine gr_drewN ?_ _ | refine gr_drew ?_)⟩
def FlipXPost (base b : Nat) (L : List Int) (k : Nat) (n : Int) (w : World) (e : Ending) (w' : World) : Prop :=
 e = .returned (.bool (decide (nextV L k n = 0))) ∧ SX base w' b L (k + 1) ∧ w.grownBy w' (some b)
set_option maxHeartbeats 400000 in
theorem flip_x (base b : Nat) (L : List Int) (k : Nat) (n : Int) (w : World) (hs : SX base w b L k) (hk : k ≤ 1000000000000) (h1 : 1 ≤ n) (h2 : n ≤ 4611686018427387904) :
 Calls Tryz.prog 40 #[.pointer (some ⟨b, 0, none⟩), .int .i64 n] w (FlipXPost base b L k n w) := by
 have HN := Lib.hid (fun W (h : SX base W b L k) => next_x base b L k n W h hk h1 h2)
 obtain ⟨v, hv⟩ : ∃ v, nextV L k n = v := ⟨_, rfl⟩
 have HV := Lib.hid hv
 by_cases h0 : v = 0
 ·have HD : Hid (decide (nextV L k n = 0) = true) := by show _ = _; rw [HV.out]; simpa using h0
  subst h0
  clear hv
  go_enter Tryz.func40, Tryz.ntmps40
  go_wp2_with fail
  refine (HN.out _ hs).mono ?_
  rintro e w1 ⟨rfl, hs1, hg1⟩
  rw [HV.out]
  go_wp2_with fail
  go_ret
  exact ⟨ret_b HD.out.symm, hs1, hg1⟩
 ·have HD : Hid (decide (nextV L k n = 0) = false) := by show _ = _; rw [HV.out]; simpa using h0
  have h0b : (v == 0) = false := by simpa using h0
  clear hv
  go_enter Tryz.func40, Tryz.ntmps40
  go_wp2_with fail
  refine (HN.out _ hs).mono ?_
  rintro e w1 ⟨rfl, hs1, hg1⟩
  rw [HV.out]
  go_wp2_with fail
  go_ret
  exact ⟨ret_b HD.out.symm, hs1, hg1⟩
/-- A number from low to high. -/
def rangeV (L : List Int) (k : Nat) (low high : Int) : Int := low + nextV L k (high - low + 1)
theorem rangeV_bd (L : List Int) (k : Nat) {low high : Int} (h : low ≤ high) : low ≤ rangeV L k low high ∧ rangeV L k low high ≤ high := by
 have := nextV_bd L k (n := high - low + 1) (by omega)
 unfold rangeV
 omega
def RangeXPost (base b : Nat) (L : List Int) (k : Nat) (low high : Int) (w : World) (e : Ending) (w' : World) : Prop :=
 e = .returned (.int .i64 (rangeV L k low high)) ∧ SX base w' b L (k + 1) ∧ w.grownBy w' (some b)
set_option maxHeartbeats 400000 in
theorem range_x (base b : Nat) (L : List Int) (k : Nat) (low high : Int) (w : World) (hs : SX base w b L k) (hk : k ≤ 1000000000000) (h1 : -1152921504606846976 ≤ low) (h2 : low ≤ high) (h3 : high ≤ 1152921504606846976) :
 Calls Tryz.prog 32 #[.pointer (some ⟨b, 0, none⟩), .int .i64 low, .int .i64 high] w (RangeXPost base b L k low high w) := by
 have HN := Lib.hid (fun W (h : SX base W b L k) => next_x base b L k (high - low + 1) W h hk (by omega) (by omega))
 have hbd := nextV_bd L k (n := high - low + 1) (by omega)
 obtain ⟨v, hv⟩ : ∃ v, nextV L k (high - low + 1) = v := ⟨_, rfl⟩
 have HV := Lib.hid hv
 have HR : Hid (rangeV L k low high = low + v) := by show _ = _; unfold rangeV; rw [hv]
 rw [hv] at hbd
 clear hv
 go_enter Tryz.func32, Tryz.ntmps32
 go_wp2_with fail
 refine (HN.out _ hs).mono ?_
 rintro e w1 ⟨rfl, hs1, hg1⟩
 rw [HV.out]
 go_wp2_with fail
 go_ret
 exact ⟨ret_of HR.out.symm, hs1, hg1⟩
/-- One of the numbers. -/
def pickV (L : List Int) (k : Nat) (xs : List Int) : Int := xs.getD (nextV L k (xs.length : Int)).toNat 0
theorem pickV_mem (L : List Int) (k : Nat) {xs : List Int} (h : 0 < xs.length) : pickV L k xs ∈ xs := by
 have := nextV_bd L k (n := (xs.length : Int)) (by omega)
 unfold pickV
 rw [List.getD_eq_getElem?_getD, List.getElem?_eq_getElem (by omega)]
 exact List.getElem_mem _
def PickXPost (base b : Nat) (L : List Int) (k : Nat) (xs : List Int) (w : World) (e : Ending) (w' : World) : Prop :=
 e = .returned (.int .i64 (pickV L k xs)) ∧ SX base w' b L (k + 1) ∧ w.grownBy w' (some b)
set_option maxHeartbeats 400000 in
theorem pick_x (base b : Nat) (L : List Int) (k g m c : Nat) (xs : List Int) (w : World) (hs : SX base w b L k) (hk : k ≤ 1000000000000) (hg : Blk w g 3 (xs.map (Value.int .i64)).toArray) (hne : g ≠ b) (hm : m = xs.length) (h1 : 1 ≤ m) (h2 : m ≤ 1000) :
 Calls Tryz.prog 44 #[.pointer (some ⟨b, 0, none⟩), .slice (some ⟨g, 0, none⟩) m c] w (PickXPost base b L k xs w) := by
 subst hm
 have HN := Lib.hid (fun W (h : SX base W b L k) => next_x base b L k (xs.length : Int) W h hk (by omega) (by omega))
 have hbd := nextV_bd L k (n := (xs.length : Int)) (by omega)
 obtain ⟨v, hv⟩ : ∃ v, nextV L k (xs.length : Int) = v := ⟨_, rfl⟩
 rw [hv] at hbd
 obtain ⟨hv0, hv1⟩ := hbd
 obtain ⟨i, rfl⟩ := Int.eq_ofNat_of_zero_le hv0
 have HV := Lib.hid hv
 have hi : i < xs.length := by omega
 obtain ⟨z, hz⟩ : ∃ z, xs[i] = z := ⟨_, rfl⟩
 have HR : Hid (pickV L k xs = z) := by
  show _ = _
  unfold pickV
  rw [hv, List.getD_eq_getElem?_getD, Int.toNat_natCast, List.getElem?_eq_getElem hi]
  exact hz
 have HC : Hid (∀ W : World, w.grownBy W (some b) → W.cell? ⟨g, i, none⟩ = some (.int .i64 z)) := fun W hW => by
  rw [(hg.grown hW (by simpa using hne)).cell i, getD_of hi, hz]
 clear hv hz
 generalize hM : xs.length = M at *
 have HMM := Lib.hid hM
 clear hM
 go_enter Tryz.func44, Tryz.ntmps44
 go_wp2_with fail
 refine (HN.out _ hs).mono ?_
 rintro e w1 ⟨rfl, hs1, hg1⟩
 have hc := HC.out _ hg1
 rw [HV.out]
 go_wp2_with fail
 go_ret
 exact ⟨ret_of HR.out.symm, hs1, hg1⟩
theorem pick_xat (base b : Nat) (L : List Int) (k g m c : Nat) (xs : List Int) (w : World) (hs : SX base w b L k) (hg : g = w.heap.size) (hk : k ≤ 1000000000000) (hm : m = xs.length) (h1 : 1 ≤ m) (h2 : m ≤ 1000) :
 Calls Tryz.prog 44 #[.pointer (some ⟨b, 0, none⟩), .slice (some ⟨g, 0, none⟩) m c] (w.alloc (.cells (xs.map (Value.int .i64)).toArray 3)) (PickXPost base b L k xs w) := by
 subst hg
 exact (pick_x base b L k _ m c xs _ (hs.alloc _) hk (Blk.new _ _ _) (by have := hs.lt; omega) hm h1 h2).mono fun e w' ⟨he, hs', hg⟩ =>
  ⟨he, hs', gr_trans (World.grownBy_alloc w _ _) hg⟩
/-- One of the strings. -/
def someV (L : List Int) (k : Nat) (xs : List ByteArray) : ByteArray := xs.getD (nextV L k (xs.length : Int)).toNat default
theorem someV_mem (L : List Int) (k : Nat) {xs : List ByteArray} (h : 0 < xs.length) : someV L k xs ∈ xs := by
 have := nextV_bd L k (n := (xs.length : Int)) (by omega)
 unfold someV
 rw [List.getD_eq_getElem?_getD, List.getElem?_eq_getElem (by omega)]
 exact List.getElem_mem _
def SomeXPost (base b : Nat) (L : List Int) (k : Nat) (xs : List ByteArray) (w : World) (e : Ending) (w' : World) : Prop :=
 e = .returned (.string (someV L k xs)) ∧ SX base w' b L (k + 1) ∧ w.grownBy w' (some b)
set_option maxHeartbeats 400000 in
theorem some_x (base b : Nat) (L : List Int) (k g m c : Nat) (xs : List ByteArray) (w : World) (hs : SX base w b L k) (hk : k ≤ 1000000000000) (hg : Blk w g 9 (xs.map Value.string).toArray) (hne : g ≠ b) (hm : m = xs.length) (h1 : 1 ≤ m) (h2 : m ≤ 1000) :
 Calls Tryz.prog 42 #[.pointer (some ⟨b, 0, none⟩), .slice (some ⟨g, 0, none⟩) m c] w (SomeXPost base b L k xs w) := by
 subst hm
 have HN := Lib.hid (fun W (h : SX base W b L k) => next_x base b L k (xs.length : Int) W h hk (by omega) (by omega))
 have hbd := nextV_bd L k (n := (xs.length : Int)) (by omega)
 obtain ⟨v, hv⟩ : ∃ v, nextV L k (xs.length : Int) = v := ⟨_, rfl⟩
 rw [hv] at hbd
 obtain ⟨hv0, hv1⟩ := hbd
 obtain ⟨i, rfl⟩ := Int.eq_ofNat_of_zero_le hv0
 have HV := Lib.hid hv
 have hi : i < xs.length := by omega
 obtain ⟨z, hz⟩ : ∃ z, xs[i] = z := ⟨_, rfl⟩
 have HR : Hid (someV L k xs = z) := by
  show _ = _
  unfold someV
  rw [hv, List.getD_eq_getElem?_getD, Int.toNat_natCast, List.getElem?_eq_getElem hi]
  exact hz
 have HC : Hid (∀ W : World, w.grownBy W (some b) → W.cell? ⟨g, i, none⟩ = some (.string z)) := fun W hW => by
  rw [(hg.grown hW (by simpa using hne)).cell i, getS_of hi, hz]
 clear hv hz
 generalize hM : xs.length = M at *
 have HMM := Lib.hid hM
 clear hM
 go_enter Tryz.func42, Tryz.ntmps42
 go_wp2_with fail
 refine (HN.out _ hs).mono ?_
 rintro e w1 ⟨rfl, hs1, hg1⟩
 have hc := HC.out _ hg1
 rw [HV.out]
 go_wp2_with fail
 go_ret
 exact ⟨by rw [HR.out]; rfl, hs1, hg1⟩
theorem some_xat (base b : Nat) (L : List Int) (k g m c : Nat) (xs : List ByteArray) (w : World) (hs : SX base w b L k) (hg : g = w.heap.size) (hk : k ≤ 1000000000000) (hm : m = xs.length) (h1 : 1 ≤ m) (h2 : m ≤ 1000) :
 Calls Tryz.prog 42 #[.pointer (some ⟨b, 0, none⟩), .slice (some ⟨g, 0, none⟩) m c] (w.alloc (.cells (xs.map Value.string).toArray 9)) (SomeXPost base b L k xs w) := by
 subst hg
 exact (some_x base b L k _ m c xs _ (hs.alloc _) hk (Blk.new _ _ _) (by have := hs.lt; omega) hm h1 h2).mono fun e w' ⟨he, hs', hg⟩ =>
  ⟨he, hs', gr_trans (World.grownBy_alloc w _ _) hg⟩
/-! ### The same with the value under a name, the equation hidden. -/
def NextEPost (base b : Nat) (L : List Int) (k : Nat) (n : Int) (w : World) (e : Ending) (w' : World) : Prop :=
 ∃ v : Int, 0 ≤ v ∧ v < n ∧ Hid (nextV L k n = v) ∧ e = .returned (.int .i64 v) ∧ SX base w' b L (k + 1) ∧ w.grownBy w' (some b)
theorem next_e (base b : Nat) (L : List Int) (k : Nat) (n : Int) (w : World) (hs : SX base w b L k) (hk : k ≤ 1000000000000) (h1 : 1 ≤ n) (h2 : n ≤ 4611686018427387904) :
 Calls Tryz.prog 41 #[.pointer (some ⟨b, 0, none⟩), .int .i64 n] w (NextEPost base b L k n w) :=
 (next_x base b L k n w hs hk h1 h2).mono fun e w' ⟨he, hs', hg⟩ => ⟨_, (nextV_bd L k h1).1, (nextV_bd L k h1).2, (rfl : _ = _), he, hs', hg⟩
def FlipEPost (base b : Nat) (L : List Int) (k : Nat) (n : Int) (w : World) (e : Ending) (w' : World) : Prop :=
 ∃ v : Bool, Hid (decide (nextV L k n = 0) = v) ∧ e = .returned (.bool v) ∧ SX base w' b L (k + 1) ∧ w.grownBy w' (some b)
theorem flip_e (base b : Nat) (L : List Int) (k : Nat) (n : Int) (w : World) (hs : SX base w b L k) (hk : k ≤ 1000000000000) (h1 : 1 ≤ n) (h2 : n ≤ 4611686018427387904) :
 Calls Tryz.prog 40 #[.pointer (some ⟨b, 0, none⟩), .int .i64 n] w (FlipEPost base b L k n w) :=
 (flip_x base b L k n w hs hk h1 h2).mono fun e w' ⟨he, hs', hg⟩ => ⟨_, (rfl : _ = _), he, hs', hg⟩
def RangeEPost (base b : Nat) (L : List Int) (k : Nat) (low high : Int) (w : World) (e : Ending) (w' : World) : Prop :=
 ∃ v : Int, low ≤ v ∧ v ≤ high ∧ Hid (rangeV L k low high = v) ∧ e = .returned (.int .i64 v) ∧ SX base w' b L (k + 1) ∧ w.grownBy w' (some b)
theorem range_e (base b : Nat) (L : List Int) (k : Nat) (low high : Int) (w : World) (hs : SX base w b L k) (hk : k ≤ 1000000000000) (h1 : -1152921504606846976 ≤ low) (h2 : low ≤ high) (h3 : high ≤ 1152921504606846976) :
 Calls Tryz.prog 32 #[.pointer (some ⟨b, 0, none⟩), .int .i64 low, .int .i64 high] w (RangeEPost base b L k low high w) :=
 (range_x base b L k low high w hs hk h1 h2 h3).mono fun e w' ⟨he, hs', hg⟩ => ⟨_, (rangeV_bd L k h2).1, (rangeV_bd L k h2).2, (rfl : _ = _), he, hs', hg⟩
def PickEPost (base b : Nat) (L : List Int) (k : Nat) (xs : List Int) (w : World) (e : Ending) (w' : World) : Prop :=
 ∃ v : Int, v ∈ xs ∧ Hid (pickV L k xs = v) ∧ e = .returned (.int .i64 v) ∧ SX base w' b L (k + 1) ∧ w.grownBy w' (some b)
theorem pick_e (base b : Nat) (L : List Int) (k g m c : Nat) (xs : List Int) (w : World) (hs : SX base w b L k) (hk : k ≤ 1000000000000) (hg : Blk w g 3 (xs.map (Value.int .i64)).toArray) (hne : g ≠ b) (hm : m = xs.length) (h1 : 1 ≤ m) (h2 : m ≤ 1000) :
 Calls Tryz.prog 44 #[.pointer (some ⟨b, 0, none⟩), .slice (some ⟨g, 0, none⟩) m c] w (PickEPost base b L k xs w) :=
 (pick_x base b L k g m c xs w hs hk hg hne hm h1 h2).mono fun e w' ⟨he, hs', hg⟩ => ⟨_, pickV_mem L k (by omega), (rfl : _ = _), he, hs', hg⟩
theorem pick_eat (base b : Nat) (L : List Int) (k g m c : Nat) (xs : List Int) (w : World) (hs : SX base w b L k) (hg : g = w.heap.size) (hk : k ≤ 1000000000000) (hm : m = xs.length) (h1 : 1 ≤ m) (h2 : m ≤ 1000) :
 Calls Tryz.prog 44 #[.pointer (some ⟨b, 0, none⟩), .slice (some ⟨g, 0, none⟩) m c] (w.alloc (.cells (xs.map (Value.int .i64)).toArray 3)) (PickEPost base b L k xs w) :=
 (pick_xat base b L k g m c xs w hs hg hk hm h1 h2).mono fun e w' ⟨he, hs', hg⟩ => ⟨_, pickV_mem L k (by omega), (rfl : _ = _), he, hs', hg⟩
def SomeEPost (base b : Nat) (L : List Int) (k : Nat) (xs : List ByteArray) (w : World) (e : Ending) (w' : World) : Prop :=
 ∃ v : ByteArray, v ∈ xs ∧ Hid (someV L k xs = v) ∧ e = .returned (.string v) ∧ SX base w' b L (k + 1) ∧ w.grownBy w' (some b)
theorem some_eat (base b : Nat) (L : List Int) (k g m c : Nat) (xs : List ByteArray) (w : World) (hs : SX base w b L k) (hg : g = w.heap.size) (hk : k ≤ 1000000000000) (hm : m = xs.length) (h1 : 1 ≤ m) (h2 : m ≤ 1000) :
 Calls Tryz.prog 42 #[.pointer (some ⟨b, 0, none⟩), .slice (some ⟨g, 0, none⟩) m c] (w.alloc (.cells (xs.map Value.string).toArray 9)) (SomeEPost base b L k xs w) :=
 (some_xat base b L k g m c xs w hs hg hk hm h1 h2).mono fun e w' ⟨he, hs', hg⟩ => ⟨_, someV_mem L k (by omega), (rfl : _ = _), he, hs', hg⟩
/-- The numbers that came in, told exactly. -/
def InX (w : World) (A : Option Addr) (n : Nat) : Prop :=
 n ≤ 9223372036854775807 ∧ ∃ L : List Int, L.length = n ∧ (0 < n → ∃ ad, A = some ad ∧ ad.block < w.heap.size ∧ ∀ j, j < n → w.cell? (ad.add j) = some (.int .i64 (L.getD j 0)))
theorem SX.start {w w' : World} {A : Option Addr} {n c b : Nat} {L : List Int} (hn : n ≤ 9223372036854775807) (hL : L.length = n) (h : 0 < n → ∃ ad, A = some ad ∧ ad.block < w.heap.size ∧ ∀ j, j < n → w.cell? (ad.add j) = some (.int .i64 (L.getD j 0)))
 (hg : w.grownBy w' none) (hb : Blk w' b 25 #[.slice A n c, .int .i64 0]) (hbs : w.heap.size ≤ b) : SX w.heap.size w' b L 0 := by
 subst hL
 refine ⟨A, c, hb, hbs, hn, fun h0 => ?_⟩
 obtain ⟨ad, e, hlt, hc⟩ := h h0
 exact ⟨ad, e, hlt, fun j hj => (World.cell?_of_block (hg.block _ (by rw [add_block]; exact hlt) (by simp))).trans (hc j hj)⟩
end Go.Proofs.YtbpkfkbbkgdlaaaGreatDoor

namespace Go.Proofs.YtbpkfkbbkgdlaaaGreatDoor
open Go.RowKit
set_option linter.unusedVariables false

def outB (n l h : Int) : Bool := decide (n < l) || decide (h < n)
theorem outB_no {n l h : Int} (h1 : l ≤ n) (h2 : n ≤ h) : outB n l h = false := by unfold outB; simp; omega
theorem outB_yes {n l h : Int} (h1 : n < l ∨ h < n) : outB n l h = true := by unfold outB; simp; omega
def spanE (n l h : Int) : Int := if outB n l h then 1 else 0
theorem spanE_no {n l h : Int} (h1 : l ≤ n) (h2 : n ≤ h) : spanE n l h = 0 := by unfold spanE; rw [outB_no h1 h2]; rfl
theorem spanE_yes {n l h : Int} (h1 : n < l ∨ h < n) : spanE n l h = 1 := by unfold spanE; rw [outB_yes h1]; rfl
theorem spanE_cases (n l h : Int) : (spanE n l h = 0 ∧ l ≤ n ∧ n ≤ h) ∨ (spanE n l h = 1 ∧ (n < l ∨ h < n)) := by
 by_cases hh : l ≤ n ∧ n ≤ h
 ·exact .inl ⟨spanE_no hh.1 hh.2, hh⟩
 ·have h' : n < l ∨ h < n := by omega
  exact .inr ⟨spanE_yes h', h'⟩
set_option maxHeartbeats 400000 in
theorem outside_any (n l h : Int) (w : World) :
 Calls Tryz.prog 96 #[.int .i64 n, .int .i64 l, .int .i64 h] w fun e w' => e = .returned (.bool (outB n l h)) ∧ w = w' := by
 by_cases h1 : n < l
 ·have HE := Lib.hid (show outB n l h = true from outB_yes (.inl h1))
  go_enter Tryz.func96, Tryz.ntmps96
  go_wp2_with fail
  go_ret
  exact ⟨ret_b HE.out.symm, rfl⟩
 ·by_cases h2 : h < n
  ·have HE := Lib.hid (show outB n l h = true from outB_yes (.inr h2))
   go_enter Tryz.func96, Tryz.ntmps96
   go_wp2_with fail
   go_ret
   exact ⟨ret_b HE.out.symm, rfl⟩
  ·have HE := Lib.hid (show outB n l h = false from outB_no (by omega) (by omega))
   go_enter Tryz.func96, Tryz.ntmps96
   go_wp2_with fail
   go_ret
   exact ⟨ret_b HE.out.symm, rfl⟩
set_option maxHeartbeats 400000 in
theorem in_any (n l h : Int) (w : World) :
 Calls Tryz.prog 50 #[.int .i64 n, .int .i64 l, .int .i64 h] w fun e w' => e = .returned (.bool (!outB n l h)) ∧ w = w' := by
 by_cases h1 : n < l
 ·have HE := Lib.hid (show outB n l h = true from outB_yes (.inl h1))
  go_enter Tryz.func50, Tryz.ntmps50
  go_wp2_with fail
  go_ret
  exact ⟨ret_b (by rw [HE.out]; first | rfl | (simp; omega)), rfl⟩
 ·by_cases h2 : h < n
  ·have HE := Lib.hid (show outB n l h = true from outB_yes (.inr h2))
   go_enter Tryz.func50, Tryz.ntmps50
   go_wp2_with fail
   go_ret
   exact ⟨ret_b (by rw [HE.out]; first | rfl | (simp; omega)), rfl⟩
  ·have HE := Lib.hid (show outB n l h = false from outB_no (by omega) (by omega))
   go_enter Tryz.func50, Tryz.ntmps50
   go_wp2_with fail
   go_ret
   exact ⟨ret_b (by rw [HE.out]; first | rfl | (simp; omega)), rfl⟩
theorem getE_of {xs : List Int} {i : Nat} (h : i < xs.length) : ((xs.map (Value.int .i64)).toArray)[i]? = some (.int .i64 xs[i]) := by simp [h]
/-- The first error of a list. -/
def orL : List Int → Int
 | [] => 0
 | a :: r => if a = 0 then orL r else a
theorem orL1 (a : Int) : orL [a] = a := by
 by_cases h : a = 0 <;> simp [orL, h]
theorem orL_cons (a : Int) (r : List Int) : orL (a :: r) = if a = 0 then orL r else a := rfl
/-- A result with an error: the value, or 0. -/
def okI (e v : Int) : Int := if e = 0 then v else 0
theorem ret_2i {k l : IntKind} {a b c d : Int} (h : a = b) (h' : c = d) : Ending.returned (.tuple #[.int k a, .int l c]) = .returned (.tuple #[.int k b, .int l d]) := by rw [h, h']
end Go.Proofs.YtbpkfkbbkgdlaaaGreatDoor

namespace Go.Proofs.YtbpkfkbbkgdlaaaGreatDoor
open Go.RowKit
set_option linter.unusedVariables false

theorem ownsRow_low {w : World} {base base' : Nat} {e : TypeId} {size : Nat} {v : Value} {n : Nat} {xs : List Value} (h : w.ownsRow base e size v n xs) (hb : base' ≤ base) : w.ownsRow base' e size v n xs := by
 obtain ⟨h1, h2⟩ := h
 refine ⟨h1, ?_⟩
 rcases h2 with h2 | ⟨g, cap, cur, hv, hg, r⟩
 ·exact .inl h2
 ·exact .inr ⟨g, cap, cur, hv, by omega, r⟩
theorem ownsRow_grown {w w' : World} {base : Nat} {e : TypeId} {size : Nat} {v : Value} {n : Nat} {xs : List Value} (h : w.ownsRow base e size v n xs) (hg : w.grownBy w' none) : w'.ownsRow base e size v n xs :=
 h.kept hg (by cases v.ownBlock <;> simp)
theorem ownsRow_other {w w' : World} {base b : Nat} {e : TypeId} {size : Nat} {v : Value} {n : Nat} {xs : List Value} (h : w.ownsRow base e size v n xs) (hg : w.grownBy w' (some b)) (hb : b < base) : w'.ownsRow base e size v n xs :=
 h.kept hg (by
  cases hv : v.ownBlock with
  | none => exact .inl rfl
  | some g => exact .inr (fun e => by injection e with e; have := (h.lt g hv).1; omega))
theorem ownsRow_shape {w : World} {base : Nat} {e : TypeId} {size : Nat} {v : Value} {n : Nat} {xs : List Value} (h : w.ownsRow base e size v n xs) :
 ∃ A c, v = .slice A n c ∧ n ≤ 9223372036854775807 ∧ (0 < n → ∃ g, A = some ⟨g, 0, none⟩ ∧ base ≤ g ∧ g < w.heap.size) := by
 rcases h.2 with ⟨rfl, rfl⟩ | ⟨g, cap, cur, rfl, hb, hh, hnc, hm, _⟩
 ·exact ⟨none, 0, rfl, by omega, fun h => absurd h (by omega)⟩
 ·unfold maxLen at hm
  exact ⟨_, _, rfl, by omega, fun _ => ⟨g, rfl, hb, (Array.getElem?_eq_some_iff.1 hh).1⟩⟩
/-- The numbers of a slice, that lies in a block from base on. -/
def IntsFrom (base : Nat) (w : World) (v : Value) (l : List Int) : Prop := w.ownsRow base 3 1 v l.length (l.map (Value.int .i64))
abbrev Ints (w : World) (v : Value) (l : List Int) : Prop := IntsFrom 0 w v l
theorem IntsFrom.low {base : Nat} {w : World} {v : Value} {l : List Int} (h : IntsFrom base w v l) : Ints w v l := ownsRow_low h (Nat.zero_le _)
theorem IntsFrom.grown {base : Nat} {w w' : World} {v : Value} {l : List Int} (h : IntsFrom base w v l) (hg : w.grownBy w' none) : IntsFrom base w' v l := ownsRow_grown h hg
theorem IntsFrom.other {base b : Nat} {w w' : World} {v : Value} {l : List Int} (h : IntsFrom base w v l) (hg : w.grownBy w' (some b)) (hb : b < base) : IntsFrom base w' v l := ownsRow_other h hg hb
theorem IntsFrom.nil (base : Nat) (w : World) : IntsFrom base w (.slice none 0 0) [] := World.ownsRow_nil _ _ _ _
theorem IntsFrom.shape {base : Nat} {w : World} {v : Value} {l : List Int} (h : IntsFrom base w v l) :
 ∃ A c, v = .slice A l.length c ∧ l.length ≤ 9223372036854775807 ∧ (0 < l.length → ∃ g, A = some ⟨g, 0, none⟩ ∧ base ≤ g ∧ g < w.heap.size) := ownsRow_shape h
theorem IntsFrom.at_ {base : Nat} {w : World} {g c : Nat} {l : List Int} (h : IntsFrom base w (.slice (some ⟨g, 0, none⟩) l.length c) l) (k : Nat) (hk : k < l.length) : w.cell? ⟨g, k, none⟩ = some (.int .i64 l[k]) := by
 rw [World.ownsRow.cellAt h k (by omega)]
 simp [hk]
theorem intInfo : (Tryz.prog.info? 3).map (fun i => (i.zero, i.size, i.bytes)) = some (some (.int .i64 0), 1, 8) := by kernel_rfl
theorem one_cell (w : World) (x : Int) (t : TypeId) : ∀ j u, ([Value.int .i64 x])[j]? = some u → (w.alloc (.cells #[.int .i64 x] t)).cell? ((⟨w.heap.size, 0, none⟩ : Addr).add j) = some u := by
 intro j u hu
 have hb := (Blk.new w t #[.int .i64 x]).cell j
 have hadd : (⟨w.heap.size, 0, none⟩ : Addr).add j = ⟨w.heap.size, j, none⟩ := by unfold Addr.add; split <;> simp_all
 rw [hadd, hb]
 simpa using hu
theorem one_oneCell (x : Int) : ∀ u ∈ [Value.int .i64 x], u.oneCell' = true := by
 intro u hu
 simp at hu
 subst hu
 rfl
end Go.Proofs.YtbpkfkbbkgdlaaaGreatDoor

namespace Go.Proofs
open Go.Shelf
def Tryz.lays160_ren : Go.Shelf.Ren := ⟨fun | 160 => 85 | 232 => 139 | 231 => 138 | 227 => 140 | 234 => 142 | 233 => 141 | 236 => 144 | 235 => 143 | 228 => 174 | 271 => 177 | 151 => 176 | 197 => 175 | 120 => 218 | 152 => 212 | 260 => 217 | 137 => 98 | 119 => 238 | 224 => 229 | 225 => 228 | 217 => 151 | 266 => 185 | n => n, fun | 9 => 9 | 4 => 4 | 3 => 3 | 5 => 5 | 117 => 176 | 116 => 175 | 0 => 0 | 124 => 179 | 21 => 21 | 105 => 197 | 46 => 188 | 119 => 254 | 139 => 257 | 138 => 256 | n => n, fun | 3 => 4 | 4 => 5 | n => n⟩
theorem Tryz.lays160 : Go.Proofs.Lays.n160 Tryz.prog Tryz.lays160_ren := {
 mixed := by kernel_rfl
 f119 := Tryz.func238.trans (congrArg some (by kernel_rfl))
 f120 := Tryz.func218.trans (congrArg some (by kernel_rfl))
 f137 := Tryz.func98.trans (congrArg some (by kernel_rfl))
 f151 := Tryz.func176.trans (congrArg some (by kernel_rfl))
 f152 := Tryz.func212.trans (congrArg some (by kernel_rfl))
 f160 := Tryz.func85.trans (congrArg some (by kernel_rfl))
 f197 := Tryz.func175.trans (congrArg some (by kernel_rfl))
 f217 := Tryz.func151.trans (congrArg some (by kernel_rfl))
 f224 := Tryz.func229.trans (congrArg some (by kernel_rfl))
 f225 := Tryz.func228.trans (congrArg some (by kernel_rfl))
 f227 := Tryz.func140.trans (congrArg some (by kernel_rfl))
 f228 := Tryz.func174.trans (congrArg some (by kernel_rfl))
 f231 := Tryz.func138.trans (congrArg some (by kernel_rfl))
 f232 := Tryz.func139.trans (congrArg some (by kernel_rfl))
 f233 := Tryz.func141.trans (congrArg some (by kernel_rfl))
 f234 := Tryz.func142.trans (congrArg some (by kernel_rfl))
 f235 := Tryz.func143.trans (congrArg some (by kernel_rfl))
 f236 := Tryz.func144.trans (congrArg some (by kernel_rfl))
 f260 := Tryz.func217.trans (congrArg some (by kernel_rfl))
 f266 := Tryz.func185.trans (congrArg some (by kernel_rfl))
 f271 := Tryz.func177.trans (congrArg some (by kernel_rfl))
 t0 := Tryz.underlying0
 a0 := Tryz.isAgg0
 z0 := Tryz.sizeOf0
 v0 := Tryz.zeroValue0
 t3 := Tryz.underlying3
 a3 := Tryz.isAgg3
 z3 := Tryz.sizeOf3
 v3 := Tryz.zeroValue3
 t4 := Tryz.underlying4
 a4 := Tryz.isAgg4
 z4 := Tryz.sizeOf4
 v4 := Tryz.zeroValue4
 t5 := Tryz.underlying5
 a5 := Tryz.isAgg5
 z5 := Tryz.sizeOf5
 v5 := Tryz.zeroValue5
 t9 := Tryz.underlying9
 a9 := Tryz.isAgg9
 z9 := Tryz.sizeOf9
 v9 := Tryz.zeroValue9
 t21 := Tryz.underlying21
 a21 := Tryz.isAgg21
 z21 := Tryz.sizeOf21
 v21 := Tryz.zeroValue21
 t46 := Tryz.underlying188
 a46 := Tryz.isAgg188
 z46 := Tryz.sizeOf188
 v46 := Tryz.zeroValue188
 t105 := Tryz.underlying197
 a105 := Tryz.isAgg197
 z105 := Tryz.sizeOf197
 v105 := Tryz.zeroValue197
 t116 := Tryz.underlying175
 a116 := Tryz.isAgg175
 z116 := Tryz.sizeOf175
 t117 := Tryz.underlying176
 a117 := Tryz.isAgg176
 z117 := Tryz.sizeOf176
 v117 := Tryz.zeroValue176
 t119 := Tryz.underlying254
 a119 := Tryz.isAgg254
 z119 := Tryz.sizeOf254
 t124 := Tryz.underlying179
 a124 := Tryz.isAgg179
 z124 := Tryz.sizeOf179
 v124 := Tryz.zeroValue179
 t138 := Tryz.underlying256
 a138 := Tryz.isAgg256
 z138 := Tryz.sizeOf256
 v138 := Tryz.zeroValue256
 t139 := Tryz.underlying257
 a139 := Tryz.isAgg257
 z139 := Tryz.sizeOf257
 v139 := Tryz.zeroValue257
 g3 := by kernel_rfl
 g4 := by kernel_rfl }
def Tryz.lays106_ren : Go.Shelf.Ren := ⟨fun | 106 => 92 | 213 => 149 | 265 => 184 | n => n, fun | 9 => 9 | 3 => 3 | n => n, fun | n => n⟩
theorem Tryz.lays106 : Go.Proofs.Lays.n106 Tryz.prog Tryz.lays106_ren := {
 mixed := by kernel_rfl
 f106 := Tryz.func92.trans (congrArg some (by kernel_rfl))
 f213 := Tryz.func149.trans (congrArg some (by kernel_rfl))
 f265 := Tryz.func184.trans (congrArg some (by kernel_rfl))
 t3 := Tryz.underlying3
 a3 := Tryz.isAgg3
 z3 := Tryz.sizeOf3
 v3 := Tryz.zeroValue3
 t9 := Tryz.underlying9
 a9 := Tryz.isAgg9
 z9 := Tryz.sizeOf9
 v9 := Tryz.zeroValue9 }
open Go.RowKit in
/-- strings.Compare: "Compare returns an integer comparing two strings lexicographically. The result will be 0 if a == b, -1 if a < b, and +1 if a > b.": IT RETURNS 'Lib.compareBytes a b'; the world is as it was. (LAID: no walk: one application.) -/
theorem Tryz.strings_Compare (a b : ByteArray) (w : World) :
 Calls Tryz.prog 92 #[.string a, .string b] w fun e w' => e = .returned (.int .i64 (Lib.compareBytes a.data.toList b.data.toList)) ∧ w' = w := Any.strings_Compare Tryz.lays106 a b w
def Tryz.lays137_ren : Go.Shelf.Ren := ⟨fun | 137 => 98 | 217 => 151 | 266 => 185 | n => n, fun | 9 => 9 | 5 => 5 | 3 => 3 | n => n, fun | n => n⟩
theorem Tryz.lays137 : Go.Proofs.Lays.n137 Tryz.prog Tryz.lays137_ren := {
 mixed := by kernel_rfl
 f137 := Tryz.func98.trans (congrArg some (by kernel_rfl))
 f217 := Tryz.func151.trans (congrArg some (by kernel_rfl))
 f266 := Tryz.func185.trans (congrArg some (by kernel_rfl))
 t3 := Tryz.underlying3
 a3 := Tryz.isAgg3
 z3 := Tryz.sizeOf3
 v3 := Tryz.zeroValue3
 t5 := Tryz.underlying5
 a5 := Tryz.isAgg5
 z5 := Tryz.sizeOf5
 v5 := Tryz.zeroValue5
 t9 := Tryz.underlying9
 a9 := Tryz.isAgg9
 z9 := Tryz.sizeOf9
 v9 := Tryz.zeroValue9 }
open Go.RowKit in
/-- strings.IndexByte: "IndexByte returns the index of the first instance of c in s, or -1 if c is not present in s.": IT RETURNS 'Lib.indexByte s c'; the world is as it was. (LAID: no walk: one application.) -/
theorem Tryz.strings_IndexByte (s : ByteArray) (c : Int) (w : World) :
 Calls Tryz.prog 98 #[.string s, .int .u8 c] w fun e w' => e = .returned (.int .i64 (Lib.indexByte s.data.toList c.toNat.toUInt8)) ∧ w' = w := Any.strings_IndexByte Tryz.lays137 s c w
def Tryz.lays219_ren : Go.Shelf.Ren := ⟨fun | 219 => 198 | 217 => 151 | 225 => 228 | 224 => 229 | 267 => 230 | 266 => 185 | 314 => 245 | n => n, fun | 9 => 9 | 3 => 3 | 4 => 4 | 5 => 5 | 46 => 188 | 146 => 266 | 51 => 215 | n => n, fun | 1 => 0 | n => n⟩
theorem Tryz.lays219 : Go.Proofs.Lays.n219 Tryz.prog Tryz.lays219_ren := {
 mixed := by kernel_rfl
 f217 := Tryz.func151.trans (congrArg some (by kernel_rfl))
 f219 := Tryz.func198.trans (congrArg some (by kernel_rfl))
 f224 := Tryz.func229.trans (congrArg some (by kernel_rfl))
 f225 := Tryz.func228.trans (congrArg some (by kernel_rfl))
 f266 := Tryz.func185.trans (congrArg some (by kernel_rfl))
 f267 := Tryz.func230.trans (congrArg some (by kernel_rfl))
 f314 := Tryz.func245.trans (congrArg some (by kernel_rfl))
 t3 := Tryz.underlying3
 a3 := Tryz.isAgg3
 z3 := Tryz.sizeOf3
 v3 := Tryz.zeroValue3
 t4 := Tryz.underlying4
 a4 := Tryz.isAgg4
 z4 := Tryz.sizeOf4
 v4 := Tryz.zeroValue4
 t5 := Tryz.underlying5
 a5 := Tryz.isAgg5
 z5 := Tryz.sizeOf5
 v5 := Tryz.zeroValue5
 t9 := Tryz.underlying9
 a9 := Tryz.isAgg9
 z9 := Tryz.sizeOf9
 v9 := Tryz.zeroValue9
 t46 := Tryz.underlying188
 a46 := Tryz.isAgg188
 z46 := Tryz.sizeOf188
 v46 := Tryz.zeroValue188
 t51 := Tryz.underlying215
 a51 := Tryz.isAgg215
 z51 := Tryz.sizeOf215
 v51 := Tryz.zeroValue215
 t146 := Tryz.underlying266
 a146 := Tryz.isAgg266
 z146 := Tryz.sizeOf266
 v146 := Tryz.zeroValue266
 g1 := by kernel_rfl }
open Go.RowKit Go.Lib in
/-- internal/stringslite.Index (what strings.Index calls) AT A substr OF ONE BYTE c: IT RETURNS 'Lib.indexByte s c'; the world is as it was. (LAID: no walk: one application.) -/
theorem Tryz.stringslite_Index_one (s : ByteArray) (c : UInt8) (w : World) :
 Calls Tryz.prog 198 #[.string s, .string ⟨#[c]⟩] w fun e w' => e = .returned (.int .i64 (Lib.indexByte s.data.toList c)) ∧ w' = w := Any.stringslite_Index_one Tryz.lays219 s c w
def Tryz.lays144_ren : Go.Shelf.Ren := ⟨fun | 144 => 122 | 143 => 167 | 219 => 198 | 217 => 151 | 225 => 228 | 224 => 229 | 267 => 230 | 266 => 185 | 314 => 245 | n => n, fun | 9 => 9 | 4 => 4 | 3 => 3 | 5 => 5 | 46 => 188 | 146 => 266 | 51 => 215 | n => n, fun | 1 => 0 | n => n⟩
theorem Tryz.lays144 : Go.Proofs.Lays.n144 Tryz.prog Tryz.lays144_ren := {
 mixed := by kernel_rfl
 f143 := Tryz.func167.trans (congrArg some (by kernel_rfl))
 f144 := Tryz.func122.trans (congrArg some (by kernel_rfl))
 f217 := Tryz.func151.trans (congrArg some (by kernel_rfl))
 f219 := Tryz.func198.trans (congrArg some (by kernel_rfl))
 f224 := Tryz.func229.trans (congrArg some (by kernel_rfl))
 f225 := Tryz.func228.trans (congrArg some (by kernel_rfl))
 f266 := Tryz.func185.trans (congrArg some (by kernel_rfl))
 f267 := Tryz.func230.trans (congrArg some (by kernel_rfl))
 f314 := Tryz.func245.trans (congrArg some (by kernel_rfl))
 t3 := Tryz.underlying3
 a3 := Tryz.isAgg3
 z3 := Tryz.sizeOf3
 v3 := Tryz.zeroValue3
 t4 := Tryz.underlying4
 a4 := Tryz.isAgg4
 z4 := Tryz.sizeOf4
 v4 := Tryz.zeroValue4
 t5 := Tryz.underlying5
 a5 := Tryz.isAgg5
 z5 := Tryz.sizeOf5
 v5 := Tryz.zeroValue5
 t9 := Tryz.underlying9
 a9 := Tryz.isAgg9
 z9 := Tryz.sizeOf9
 v9 := Tryz.zeroValue9
 t46 := Tryz.underlying188
 a46 := Tryz.isAgg188
 z46 := Tryz.sizeOf188
 v46 := Tryz.zeroValue188
 t51 := Tryz.underlying215
 a51 := Tryz.isAgg215
 z51 := Tryz.sizeOf215
 v51 := Tryz.zeroValue215
 t146 := Tryz.underlying266
 a146 := Tryz.isAgg266
 z146 := Tryz.sizeOf266
 v146 := Tryz.zeroValue266
 g1 := by kernel_rfl }
open Go.RowKit Go.Lib in
/-- strings.Contains: "Contains reports whether substr is within s.": AT A substr OF ONE BYTE c: IT RETURNS 'decide (0 ≤ Lib.indexByte s c)'; the world is as it was. (LAID: no walk: one application.) -/
theorem Tryz.strings_Contains_one (s : ByteArray) (c : UInt8) (w : World) :
 Calls Tryz.prog 122 #[.string s, .string ⟨#[c]⟩] w fun e w' => e = .returned (.bool (decide (0 ≤ Lib.indexByte s.data.toList c))) ∧ w' = w := Any.strings_Contains_one Tryz.lays144 s c w
def Tryz.lays189_ren : Go.Shelf.Ren := ⟨fun | 189 => 115 | 125 => 160 | 257 => 164 | 128 => 196 | 129 => 197 | 294 => 199 | 295 => 200 | 296 => 201 | 297 => 202 | 298 => 203 | 299 => 204 | 216 => 205 | 300 => 206 | 301 => 207 | 328 => 231 | 329 => 223 | 330 => 224 | 331 => 232 | 332 => 233 | 215 => 150 | 343 => 246 | n => n, fun | 28 => 22 | 3 => 3 | 46 => 188 | 0 => 0 | 51 => 215 | 53 => 217 | 4 => 4 | 183 => 209 | 182 => 208 | 131 => 79 | 5 => 5 | 9 => 9 | 218 => 241 | 222 => 245 | 228 => 263 | 229 => 264 | n => n, fun | n => n⟩
theorem Tryz.lays189 : Go.Proofs.Lays.n189 Tryz.prog Tryz.lays189_ren := {
 mixed := by kernel_rfl
 f125 := Tryz.func160.trans (congrArg some (by kernel_rfl))
 f128 := Tryz.func196.trans (congrArg some (by kernel_rfl))
 f129 := Tryz.func197.trans (congrArg some (by kernel_rfl))
 f189 := Tryz.func115.trans (congrArg some (by kernel_rfl))
 f215 := Tryz.func150.trans (congrArg some (by kernel_rfl))
 f216 := Tryz.func205.trans (congrArg some (by kernel_rfl))
 f257 := Tryz.func164.trans (congrArg some (by kernel_rfl))
 f294 := Tryz.func199.trans (congrArg some (by kernel_rfl))
 f295 := Tryz.func200.trans (congrArg some (by kernel_rfl))
 f296 := Tryz.func201.trans (congrArg some (by kernel_rfl))
 f297 := Tryz.func202.trans (congrArg some (by kernel_rfl))
 f298 := Tryz.func203.trans (congrArg some (by kernel_rfl))
 f299 := Tryz.func204.trans (congrArg some (by kernel_rfl))
 f300 := Tryz.func206.trans (congrArg some (by kernel_rfl))
 f301 := Tryz.func207.trans (congrArg some (by kernel_rfl))
 f328 := Tryz.func231.trans (congrArg some (by kernel_rfl))
 f329 := Tryz.func223.trans (congrArg some (by kernel_rfl))
 f330 := Tryz.func224.trans (congrArg some (by kernel_rfl))
 f331 := Tryz.func232.trans (congrArg some (by kernel_rfl))
 f332 := Tryz.func233.trans (congrArg some (by kernel_rfl))
 f343 := Tryz.func246.trans (congrArg some (by kernel_rfl))
 t0 := Tryz.underlying0
 a0 := Tryz.isAgg0
 z0 := Tryz.sizeOf0
 v0 := Tryz.zeroValue0
 t3 := Tryz.underlying3
 a3 := Tryz.isAgg3
 z3 := Tryz.sizeOf3
 v3 := Tryz.zeroValue3
 t4 := Tryz.underlying4
 a4 := Tryz.isAgg4
 z4 := Tryz.sizeOf4
 v4 := Tryz.zeroValue4
 t5 := Tryz.underlying5
 a5 := Tryz.isAgg5
 z5 := Tryz.sizeOf5
 v5 := Tryz.zeroValue5
 t9 := Tryz.underlying9
 a9 := Tryz.isAgg9
 z9 := Tryz.sizeOf9
 v9 := Tryz.zeroValue9
 t28 := Tryz.underlying22
 a28 := Tryz.isAgg22
 z28 := Tryz.sizeOf22
 v28 := Tryz.zeroValue22
 t46 := Tryz.underlying188
 a46 := Tryz.isAgg188
 z46 := Tryz.sizeOf188
 v46 := Tryz.zeroValue188
 t51 := Tryz.underlying215
 a51 := Tryz.isAgg215
 z51 := Tryz.sizeOf215
 v51 := Tryz.zeroValue215
 t53 := Tryz.underlying217
 a53 := Tryz.isAgg217
 z53 := Tryz.sizeOf217
 v53 := Tryz.zeroValue217
 t131 := Tryz.underlying79
 a131 := Tryz.isAgg79
 z131 := Tryz.sizeOf79
 v131 := Tryz.zeroValue79
 t182 := Tryz.underlying208
 a182 := Tryz.isAgg208
 z182 := Tryz.sizeOf208
 v182 := Tryz.zeroValue208
 t183 := Tryz.underlying209
 a183 := Tryz.isAgg209
 z183 := Tryz.sizeOf209
 v183 := Tryz.zeroValue209
 t218 := Tryz.underlying241
 a218 := Tryz.isAgg241
 z218 := Tryz.sizeOf241
 v218 := Tryz.zeroValue241
 t222 := Tryz.underlying245
 a222 := Tryz.isAgg245
 z222 := Tryz.sizeOf245
 v222 := Tryz.zeroValue245
 t228 := Tryz.underlying263
 a228 := Tryz.isAgg263
 z228 := Tryz.sizeOf263
 v228 := Tryz.zeroValue263
 t229 := Tryz.underlying264
 a229 := Tryz.isAgg264
 z229 := Tryz.sizeOf264
 v229 := Tryz.zeroValue264 }
open Go.Sort Go.RowKit in
theorem Tryz.slices_Sort_int (blk off cap : Nat) (zs : List Int) (w : World) (hH : Holds (Value.int .i64) w blk off zs.toArray) (hblk : blk < w.heap.size) (hsz : zs.length < 4611686018427387904) :
 Calls Tryz.prog 115 #[.slice (some ⟨blk, off, none⟩) zs.length cap] w fun e w' =>
  e = .returned (.tuple #[]) ∧ ∃ n os, w' = grow (putRow (Value.int .i64) (Sort.ahead w n) blk off (zs.mergeSort fun x y => decide (x ≤ y)).toArray) os := Any.slices_Sort_int Tryz.lays189 blk off cap zs w hH hblk hsz
def Tryz.lays146_ren : Go.Shelf.Ren := ⟨fun | 146 => 214 | 221 => 239 | 268 => 249 | 138 => 250 | 143 => 167 | 195 => 253 | 197 => 175 | 218 => 254 | 219 => 198 | 260 => 217 | 217 => 151 | 225 => 228 | 224 => 229 | 267 => 230 | 266 => 185 | 314 => 245 | n => n, fun | 9 => 9 | 31 => 31 | 3 => 3 | 4 => 4 | 0 => 0 | 105 => 197 | 21 => 21 | 5 => 5 | 46 => 188 | 119 => 254 | 139 => 257 | 138 => 256 | 146 => 266 | 51 => 215 | n => n, fun | 1 => 0 | 3 => 4 | 4 => 5 | n => n⟩
theorem Tryz.lays146 : Go.Proofs.Lays.n146 Tryz.prog Tryz.lays146_ren := {
 mixed := by kernel_rfl
 f138 := Tryz.func250.trans (congrArg some (by kernel_rfl))
 f143 := Tryz.func167.trans (congrArg some (by kernel_rfl))
 f146 := Tryz.func214.trans (congrArg some (by kernel_rfl))
 f195 := Tryz.func253.trans (congrArg some (by kernel_rfl))
 f197 := Tryz.func175.trans (congrArg some (by kernel_rfl))
 f217 := Tryz.func151.trans (congrArg some (by kernel_rfl))
 f218 := Tryz.func254.trans (congrArg some (by kernel_rfl))
 f219 := Tryz.func198.trans (congrArg some (by kernel_rfl))
 f221 := Tryz.func239.trans (congrArg some (by kernel_rfl))
 f224 := Tryz.func229.trans (congrArg some (by kernel_rfl))
 f225 := Tryz.func228.trans (congrArg some (by kernel_rfl))
 f260 := Tryz.func217.trans (congrArg some (by kernel_rfl))
 f266 := Tryz.func185.trans (congrArg some (by kernel_rfl))
 f267 := Tryz.func230.trans (congrArg some (by kernel_rfl))
 f268 := Tryz.func249.trans (congrArg some (by kernel_rfl))
 f314 := Tryz.func245.trans (congrArg some (by kernel_rfl))
 t0 := Tryz.underlying0
 a0 := Tryz.isAgg0
 z0 := Tryz.sizeOf0
 v0 := Tryz.zeroValue0
 t3 := Tryz.underlying3
 a3 := Tryz.isAgg3
 z3 := Tryz.sizeOf3
 v3 := Tryz.zeroValue3
 t4 := Tryz.underlying4
 a4 := Tryz.isAgg4
 z4 := Tryz.sizeOf4
 v4 := Tryz.zeroValue4
 t5 := Tryz.underlying5
 a5 := Tryz.isAgg5
 z5 := Tryz.sizeOf5
 v5 := Tryz.zeroValue5
 t9 := Tryz.underlying9
 a9 := Tryz.isAgg9
 z9 := Tryz.sizeOf9
 v9 := Tryz.zeroValue9
 t21 := Tryz.underlying21
 a21 := Tryz.isAgg21
 z21 := Tryz.sizeOf21
 v21 := Tryz.zeroValue21
 t31 := Tryz.underlying31
 a31 := Tryz.isAgg31
 z31 := Tryz.sizeOf31
 v31 := Tryz.zeroValue31
 t46 := Tryz.underlying188
 a46 := Tryz.isAgg188
 z46 := Tryz.sizeOf188
 v46 := Tryz.zeroValue188
 t51 := Tryz.underlying215
 a51 := Tryz.isAgg215
 z51 := Tryz.sizeOf215
 v51 := Tryz.zeroValue215
 t105 := Tryz.underlying197
 a105 := Tryz.isAgg197
 z105 := Tryz.sizeOf197
 v105 := Tryz.zeroValue197
 t119 := Tryz.underlying254
 a119 := Tryz.isAgg254
 z119 := Tryz.sizeOf254
 t138 := Tryz.underlying256
 a138 := Tryz.isAgg256
 z138 := Tryz.sizeOf256
 v138 := Tryz.zeroValue256
 t139 := Tryz.underlying257
 a139 := Tryz.isAgg257
 z139 := Tryz.sizeOf257
 v139 := Tryz.zeroValue257
 t146 := Tryz.underlying266
 a146 := Tryz.isAgg266
 z146 := Tryz.sizeOf266
 v146 := Tryz.zeroValue266
 g1 := by kernel_rfl
 g3 := by kernel_rfl
 g4 := by kernel_rfl }
open Go.RowKit Go.Lib in
/-- strings.Split. (LAID: no walk: one application.) -/
theorem Tryz.strings_Split (s sep : ByteArray) (m : Int) (w : World) (hs : s.size < 4294967281) (hm : w.cell? ⟨0, 0, none⟩ = some (.int .i64 m)) (h1 : 1 ≤ sep.size) :
 Calls Tryz.prog 214 #[.string s, .string sep] w fun e w' =>
  e = .returned (.slice (some ⟨w.heap.size, 0, none⟩) (Lib.countB s sep + 1) (Lib.countB s sep + 1)) ∧ w' = w.alloc (.cells ((Lib.splitB sep 0 (Lib.countB s sep) s).map Value.string).toArray 9) := Any.strings_Split Tryz.lays146 (by kernel_rfl) s sep m w hs hm h1
def Tryz.lays157_ren : Go.Shelf.Ren := ⟨fun | 157 => 240 | 229 => 251 | 199 => 252 | 261 => 255 | 311 => 256 | 312 => 257 | n => n, fun | 9 => 9 | 31 => 31 | 3 => 3 | 5 => 5 | 4 => 4 | 119 => 254 | 0 => 0 | 40 => 251 | 152 => 273 | 21 => 21 | 154 => 275 | 51 => 215 | 141 => 277 | 196 => 281 | 193 => 278 | 198 => 284 | 49 => 282 | 194 => 279 | 201 => 287 | 226 => 289 | 46 => 188 | 227 => 290 | n => n, fun | 0 => 6 | 6 => 9 | n => n⟩
theorem Tryz.lays157 : Go.Proofs.Lays.n157 Tryz.prog Tryz.lays157_ren := {
 mixed := by kernel_rfl
 f157 := Tryz.func240.trans (congrArg some (by kernel_rfl))
 f199 := Tryz.func252.trans (congrArg some (by kernel_rfl))
 f229 := Tryz.func251.trans (congrArg some (by kernel_rfl))
 f261 := Tryz.func255.trans (congrArg some (by kernel_rfl))
 f311 := Tryz.func256.trans (congrArg some (by kernel_rfl))
 f312 := Tryz.func257.trans (congrArg some (by kernel_rfl))
 t0 := Tryz.underlying0
 a0 := Tryz.isAgg0
 z0 := Tryz.sizeOf0
 v0 := Tryz.zeroValue0
 t3 := Tryz.underlying3
 a3 := Tryz.isAgg3
 z3 := Tryz.sizeOf3
 v3 := Tryz.zeroValue3
 t4 := Tryz.underlying4
 a4 := Tryz.isAgg4
 z4 := Tryz.sizeOf4
 v4 := Tryz.zeroValue4
 t5 := Tryz.underlying5
 a5 := Tryz.isAgg5
 z5 := Tryz.sizeOf5
 v5 := Tryz.zeroValue5
 t9 := Tryz.underlying9
 a9 := Tryz.isAgg9
 z9 := Tryz.sizeOf9
 v9 := Tryz.zeroValue9
 t21 := Tryz.underlying21
 a21 := Tryz.isAgg21
 z21 := Tryz.sizeOf21
 v21 := Tryz.zeroValue21
 t31 := Tryz.underlying31
 a31 := Tryz.isAgg31
 z31 := Tryz.sizeOf31
 v31 := Tryz.zeroValue31
 t40 := Tryz.underlying251
 a40 := Tryz.isAgg251
 z40 := Tryz.sizeOf251
 v40 := Tryz.zeroValue251
 t46 := Tryz.underlying188
 a46 := Tryz.isAgg188
 z46 := Tryz.sizeOf188
 v46 := Tryz.zeroValue188
 t49 := Tryz.underlying282
 a49 := Tryz.isAgg282
 z49 := Tryz.sizeOf282
 v49 := Tryz.zeroValue282
 t51 := Tryz.underlying215
 a51 := Tryz.isAgg215
 z51 := Tryz.sizeOf215
 v51 := Tryz.zeroValue215
 t119 := Tryz.underlying254
 a119 := Tryz.isAgg254
 z119 := Tryz.sizeOf254
 t141 := Tryz.underlying277
 a141 := Tryz.isAgg277
 z141 := Tryz.sizeOf277
 v141 := Tryz.zeroValue277
 t152 := Tryz.underlying273
 a152 := Tryz.isAgg273
 z152 := Tryz.sizeOf273
 v152 := Tryz.zeroValue273
 t154 := Tryz.underlying275
 a154 := Tryz.isAgg275
 z154 := Tryz.sizeOf275
 v154 := Tryz.zeroValue275
 t193 := Tryz.underlying278
 a193 := Tryz.isAgg278
 z193 := Tryz.sizeOf278
 v193 := Tryz.zeroValue278
 t194 := Tryz.underlying279
 a194 := Tryz.isAgg279
 z194 := Tryz.sizeOf279
 v194 := Tryz.zeroValue279
 t196 := Tryz.underlying281
 a196 := Tryz.isAgg281
 z196 := Tryz.sizeOf281
 v196 := Tryz.zeroValue281
 t198 := Tryz.underlying284
 a198 := Tryz.isAgg284
 z198 := Tryz.sizeOf284
 v198 := Tryz.zeroValue284
 t201 := Tryz.underlying287
 a201 := Tryz.isAgg287
 z201 := Tryz.sizeOf287
 v201 := Tryz.zeroValue287
 t226 := Tryz.underlying289
 a226 := Tryz.isAgg289
 z226 := Tryz.sizeOf289
 v226 := Tryz.zeroValue289
 t227 := Tryz.underlying290
 a227 := Tryz.isAgg290
 z227 := Tryz.sizeOf290
 v227 := Tryz.zeroValue290
 g0 := by kernel_rfl
 g6 := by kernel_rfl }
open Go.RowKit Go.Lib in
/-- strings.Fields, the table by 'Lib.TabIs' (as strings.TrimSpace's contract). 'hg': the table's number, by its name: at a dump 'by kernel_rfl'. (LAID: no walk: one application.) -/
theorem Tryz.strings_Fields (s : ByteArray) (w : World) (hs : s.size < 4294967281) (hascii : ∀ (j : Nat) b, s.data.toList[j]? = some b → b.toNat < 128) (htab : Lib.TabIs Tryz.prog w "strings.asciiSpace" .u8 Lib.asciiSpaceTab) :
 Calls Tryz.prog 240 #[.string s] w fun e w' =>
  e = .returned (.slice (some ⟨w.heap.size, 0, none⟩) (Lib.fields s.data.toList).length (Lib.fields s.data.toList).length) ∧ w' = w.alloc (.cells ((Lib.fields s.data.toList).map fun l => Value.string ⟨l.toArray⟩).toArray 9) := Any.strings_Fields Tryz.lays157 (by kernel_rfl) (by kernel_rfl) s w hs hascii htab
def Tryz.lays152_ren : Go.Shelf.Ren := ⟨fun | 152 => 212 | 137 => 98 | 119 => 238 | 224 => 229 | 225 => 228 | 217 => 151 | 266 => 185 | n => n, fun | 9 => 9 | 21 => 21 | 3 => 3 | 4 => 4 | 5 => 5 | 0 => 0 | 46 => 188 | n => n, fun | n => n⟩
theorem Tryz.lays152 : Go.Proofs.Lays.n152 Tryz.prog Tryz.lays152_ren := {
 mixed := by kernel_rfl
 f119 := Tryz.func238.trans (congrArg some (by kernel_rfl))
 f137 := Tryz.func98.trans (congrArg some (by kernel_rfl))
 f152 := Tryz.func212.trans (congrArg some (by kernel_rfl))
 f217 := Tryz.func151.trans (congrArg some (by kernel_rfl))
 f224 := Tryz.func229.trans (congrArg some (by kernel_rfl))
 f225 := Tryz.func228.trans (congrArg some (by kernel_rfl))
 f266 := Tryz.func185.trans (congrArg some (by kernel_rfl))
 t0 := Tryz.underlying0
 a0 := Tryz.isAgg0
 z0 := Tryz.sizeOf0
 v0 := Tryz.zeroValue0
 t3 := Tryz.underlying3
 a3 := Tryz.isAgg3
 z3 := Tryz.sizeOf3
 v3 := Tryz.zeroValue3
 t4 := Tryz.underlying4
 a4 := Tryz.isAgg4
 z4 := Tryz.sizeOf4
 v4 := Tryz.zeroValue4
 t5 := Tryz.underlying5
 a5 := Tryz.isAgg5
 z5 := Tryz.sizeOf5
 v5 := Tryz.zeroValue5
 t9 := Tryz.underlying9
 a9 := Tryz.isAgg9
 z9 := Tryz.sizeOf9
 v9 := Tryz.zeroValue9
 t21 := Tryz.underlying21
 a21 := Tryz.isAgg21
 z21 := Tryz.sizeOf21
 v21 := Tryz.zeroValue21
 t46 := Tryz.underlying188
 a46 := Tryz.isAgg188
 z46 := Tryz.sizeOf188
 v46 := Tryz.zeroValue188 }
open Go.RowKit Go.Lib in
theorem Tryz.strings_IndexRune_ascii (s : ByteArray) (r : Int) (w : World) (h0 : 0 ≤ r) (h1 : r < 128) :
 Calls Tryz.prog 212 #[.string s, .int .i32 r] w fun e w' => e = .returned (.int .i64 (Lib.indexByte s.data.toList r.toNat.toUInt8)) ∧ w' = w := Any.strings_IndexRune_ascii Tryz.lays152 s r w h0 h1
def Tryz.lays226_ren : Go.Shelf.Ren := ⟨fun | 226 => 213 | n => n, fun | 3 => 3 | 4 => 4 | n => n, fun | n => n⟩
theorem Tryz.lays226 : Go.Proofs.Lays.n226 Tryz.prog Tryz.lays226_ren := {
 mixed := by kernel_rfl
 f226 := Tryz.func213.trans (congrArg some (by kernel_rfl))
 t3 := Tryz.underlying3
 a3 := Tryz.isAgg3
 z3 := Tryz.sizeOf3
 v3 := Tryz.zeroValue3
 t4 := Tryz.underlying4
 a4 := Tryz.isAgg4
 z4 := Tryz.sizeOf4
 v4 := Tryz.zeroValue4 }
open Go.RowKit Go.Lib in
theorem Tryz.strings_shouldUseASCIISet (n : Int) (w : World) :
 Calls Tryz.prog 213 #[.int .i64 n] w fun e w' => e = .returned (.bool (decide (8 < n))) ∧ w' = w := Any.strings_shouldUseASCIISet Tryz.lays226 n w
def Tryz.lays227_ren : Go.Shelf.Ren := ⟨fun | 227 => 140 | n => n, fun | 9 => 9 | 116 => 175 | 4 => 4 | 0 => 0 | 3 => 3 | 5 => 5 | n => n, fun | n => n⟩
theorem Tryz.lays227 : Go.Proofs.Lays.n227 Tryz.prog Tryz.lays227_ren := {
 mixed := by kernel_rfl
 f227 := Tryz.func140.trans (congrArg some (by kernel_rfl))
 t0 := Tryz.underlying0
 a0 := Tryz.isAgg0
 z0 := Tryz.sizeOf0
 v0 := Tryz.zeroValue0
 t3 := Tryz.underlying3
 a3 := Tryz.isAgg3
 z3 := Tryz.sizeOf3
 v3 := Tryz.zeroValue3
 t4 := Tryz.underlying4
 a4 := Tryz.isAgg4
 z4 := Tryz.sizeOf4
 v4 := Tryz.zeroValue4
 t5 := Tryz.underlying5
 a5 := Tryz.isAgg5
 z5 := Tryz.sizeOf5
 v5 := Tryz.zeroValue5
 t9 := Tryz.underlying9
 a9 := Tryz.isAgg9
 z9 := Tryz.sizeOf9
 v9 := Tryz.zeroValue9
 t116 := Tryz.underlying175
 a116 := Tryz.isAgg175
 z116 := Tryz.sizeOf175 }
open Go.RowKit Go.Lib in
theorem Tryz.strings_makeASCIISet (hv116 : ∀ w, (zeroValue 175).run Tryz.prog w = .ok (.agg (Array.replicate 256 (.bool false))) w) (chars : ByteArray) (w : World) (hs : chars.size < 4294967281) (hascii : ∀ (j : Nat) b, chars.data.toList[j]? = some b → b.toNat < 128) :
 Calls Tryz.prog 140 #[.string chars] w fun e w' => e = .returned (.tuple #[.agg (Lib.setCells chars.data.toList), .bool true]) ∧ w' = w.alloc (.cells (Lib.setCells chars.data.toList) 175) := Any.strings_makeASCIISet Tryz.lays227 hv116 (by kernel_rfl) chars w hs hascii
def Tryz.lays228_ren : Go.Shelf.Ren := ⟨fun | 228 => 174 | n => n, fun | 124 => 179 | 5 => 5 | 4 => 4 | 0 => 0 | 116 => 175 | n => n, fun | n => n⟩
theorem Tryz.lays228 : Go.Proofs.Lays.n228 Tryz.prog Tryz.lays228_ren := {
 mixed := by kernel_rfl
 f228 := Tryz.func174.trans (congrArg some (by kernel_rfl))
 t0 := Tryz.underlying0
 a0 := Tryz.isAgg0
 z0 := Tryz.sizeOf0
 v0 := Tryz.zeroValue0
 t4 := Tryz.underlying4
 a4 := Tryz.isAgg4
 z4 := Tryz.sizeOf4
 v4 := Tryz.zeroValue4
 t5 := Tryz.underlying5
 a5 := Tryz.isAgg5
 z5 := Tryz.sizeOf5
 v5 := Tryz.zeroValue5
 t116 := Tryz.underlying175
 a116 := Tryz.isAgg175
 z116 := Tryz.sizeOf175
 t124 := Tryz.underlying179
 a124 := Tryz.isAgg179
 z124 := Tryz.sizeOf179
 v124 := Tryz.zeroValue179 }
open Go.RowKit Go.Lib in
/-- '(as *asciiSet) contains(c)': 'as[c]': the set lies at block b, whole. (LAID: no walk: one application.) -/
theorem Tryz.asciiSet_contains (b : Nat) (x : UInt8) (v : Bool) (w : World) (hc : w.cell? ⟨b, x.toNat, none⟩ = some (.bool v)) :
 Calls Tryz.prog 174 #[.pointer (some ⟨b, 0, none⟩), .int .u8 x.toNat] w fun e w' => e = .returned (.bool v) ∧ w' = w := Any.asciiSet_contains Tryz.lays228 b x v w hc
def Tryz.lays150_ren : Go.Shelf.Ren := ⟨fun | 150 => 148 | 153 => 183 | 152 => 212 | 226 => 213 | 227 => 140 | 228 => 174 | 137 => 98 | 119 => 238 | 224 => 229 | 225 => 228 | 217 => 151 | 266 => 185 | n => n, fun | 9 => 9 | 4 => 4 | 3 => 3 | 5 => 5 | 21 => 21 | 117 => 176 | 116 => 175 | 0 => 0 | 46 => 188 | 124 => 179 | n => n, fun | n => n⟩
theorem Tryz.lays150 : Go.Proofs.Lays.n150 Tryz.prog Tryz.lays150_ren := {
 mixed := by kernel_rfl
 f119 := Tryz.func238.trans (congrArg some (by kernel_rfl))
 f137 := Tryz.func98.trans (congrArg some (by kernel_rfl))
 f150 := Tryz.func148.trans (congrArg some (by kernel_rfl))
 f152 := Tryz.func212.trans (congrArg some (by kernel_rfl))
 f153 := Tryz.func183.trans (congrArg some (by kernel_rfl))
 f217 := Tryz.func151.trans (congrArg some (by kernel_rfl))
 f224 := Tryz.func229.trans (congrArg some (by kernel_rfl))
 f225 := Tryz.func228.trans (congrArg some (by kernel_rfl))
 f226 := Tryz.func213.trans (congrArg some (by kernel_rfl))
 f227 := Tryz.func140.trans (congrArg some (by kernel_rfl))
 f228 := Tryz.func174.trans (congrArg some (by kernel_rfl))
 f266 := Tryz.func185.trans (congrArg some (by kernel_rfl))
 t0 := Tryz.underlying0
 a0 := Tryz.isAgg0
 z0 := Tryz.sizeOf0
 v0 := Tryz.zeroValue0
 t3 := Tryz.underlying3
 a3 := Tryz.isAgg3
 z3 := Tryz.sizeOf3
 v3 := Tryz.zeroValue3
 t4 := Tryz.underlying4
 a4 := Tryz.isAgg4
 z4 := Tryz.sizeOf4
 v4 := Tryz.zeroValue4
 t5 := Tryz.underlying5
 a5 := Tryz.isAgg5
 z5 := Tryz.sizeOf5
 v5 := Tryz.zeroValue5
 t9 := Tryz.underlying9
 a9 := Tryz.isAgg9
 z9 := Tryz.sizeOf9
 v9 := Tryz.zeroValue9
 t21 := Tryz.underlying21
 a21 := Tryz.isAgg21
 z21 := Tryz.sizeOf21
 v21 := Tryz.zeroValue21
 t46 := Tryz.underlying188
 a46 := Tryz.isAgg188
 z46 := Tryz.sizeOf188
 v46 := Tryz.zeroValue188
 t116 := Tryz.underlying175
 a116 := Tryz.isAgg175
 z116 := Tryz.sizeOf175
 t117 := Tryz.underlying176
 a117 := Tryz.isAgg176
 z117 := Tryz.sizeOf176
 v117 := Tryz.zeroValue176
 t124 := Tryz.underlying179
 a124 := Tryz.isAgg179
 z124 := Tryz.sizeOf179
 v124 := Tryz.zeroValue179 }
open Go.RowKit Go.Lib in
theorem Tryz.strings_ContainsAny_laid (s chars : ByteArray) (w : World) (hs : s.size < 4294967281) (hcs : chars.size < 4294967281) (has : ∀ (j : Nat) b, s.data.toList[j]? = some b → b.toNat < 128) (hac : ∀ (j : Nat) b, chars.data.toList[j]? = some b → b.toNat < 128) :
 Calls Tryz.prog 148 #[.string s, .string chars] w fun e w' => e = .returned (.bool (Lib.containsAny s.data.toList chars.data.toList)) ∧ Below w.heap.size w w' := Any.strings_ContainsAny_laid Tryz.lays150 (by kernel_rfl) s chars w hs hcs has hac
def Tryz.laysNm220_ren : Go.Shelf.Ren := ⟨fun | 20 => 116 | n => n, fun | 22 => 22 | 3 => 3 | 4 => 4 | 0 => 0 | n => n, fun | n => n⟩
theorem Tryz.laysNm220 : Go.Proofs.Lays2.n20 Tryz.prog Tryz.laysNm220_ren := {
 mixed := by kernel_rfl
 f20 := Tryz.func116.trans (congrArg some (by kernel_rfl))
 t0 := Tryz.underlying0
 a0 := Tryz.isAgg0
 z0 := Tryz.sizeOf0
 v0 := Tryz.zeroValue0
 t3 := Tryz.underlying3
 a3 := Tryz.isAgg3
 z3 := Tryz.sizeOf3
 v3 := Tryz.zeroValue3
 t4 := Tryz.underlying4
 a4 := Tryz.isAgg4
 z4 := Tryz.sizeOf4
 v4 := Tryz.zeroValue4
 t22 := Tryz.underlying22
 a22 := Tryz.isAgg22
 z22 := Tryz.sizeOf22
 v22 := Tryz.zeroValue22
 i3 := by kernel_rfl }
open Go.RowKit Go.Lib Go.Sort in
/-- slices.Compact at []int: "Compact replaces consecutive runs of equal elements with a single copy. This is like the uniq command found on Unix. Compact modifies the contents of the slice s and returns the modified slice, which may have a smaller length. Compact zeroes the elements between the new length and the original length. The result preserves the nilness of s.": IT RETURNS THE SLICE CUT TO 'Lib.compact zs'; ITS CELLS HOLD 'Lib.compact zs', THEN ZERO VALUES up to the old length; all else is as it was, but for the count of draws. IN THE WORDS OF slices.Sort's CONTRACT ('Holds', 'putRow'): so the everyday 'slices.Sort(xs); xs = slices.Compact(xs)' goes from the one contract to the other. It asks 'zs.length ≤ cap' (every slice's: the reslicing 's[:k]' looks at it). Length 0, nil: '.._empty'. (LAID: no walk: one application.) -/
theorem Tryz.slices_Compact_int (blk off cap : Nat) (zs : List Int) (w : World) (hH : Holds (Value.int .i64) w blk off zs.toArray) (hsz : zs.length ≤ 9223372036854775807) (hcap : zs.length ≤ cap) :
 Calls Tryz.prog 116 #[.slice (some ⟨blk, off, none⟩) zs.length cap] w fun e w' => e = .returned (.slice (some ⟨blk, off, none⟩) (Lib.compact zs).length cap) ∧ ∃ q, w' = putRow (Value.int .i64) (Sort.ahead w q) blk off (Lib.compact zs ++ List.replicate (zs.length - (Lib.compact zs).length) 0).toArray := Any.slices_Compact_int Tryz.laysNm220 blk off cap zs w hH hsz hcap
open Go.RowKit Go.Lib Go.Sort in
/-- The same at a slice of length 0, a nil one too: it comes back as it is. (LAID: no walk: one application.) -/
theorem Tryz.slices_Compact_int_empty (a : Option Addr) (cap : Nat) (w : World) :
 Calls Tryz.prog 116 #[.slice a 0 cap] w fun e w' => e = .returned (.slice a 0 cap) ∧ w' = w := Any.slices_Compact_int_empty Tryz.laysNm220 a cap w
def Tryz.laysNm225_ren : Go.Shelf.Ren := ⟨fun | 25 => 216 | 31 => 205 | 32 => 241 | 37 => 150 | n => n, fun | 22 => 22 | 3 => 3 | 4 => 4 | 40 => 188 | 0 => 0 | n => n, fun | n => n⟩
theorem Tryz.laysNm225 : Go.Proofs.Lays2.n25 Tryz.prog Tryz.laysNm225_ren := {
 mixed := by kernel_rfl
 f25 := Tryz.func216.trans (congrArg some (by kernel_rfl))
 f31 := Tryz.func205.trans (congrArg some (by kernel_rfl))
 f32 := Tryz.func241.trans (congrArg some (by kernel_rfl))
 f37 := Tryz.func150.trans (congrArg some (by kernel_rfl))
 t0 := Tryz.underlying0
 a0 := Tryz.isAgg0
 z0 := Tryz.sizeOf0
 v0 := Tryz.zeroValue0
 t3 := Tryz.underlying3
 a3 := Tryz.isAgg3
 z3 := Tryz.sizeOf3
 v3 := Tryz.zeroValue3
 t4 := Tryz.underlying4
 a4 := Tryz.isAgg4
 z4 := Tryz.sizeOf4
 v4 := Tryz.zeroValue4
 t22 := Tryz.underlying22
 a22 := Tryz.isAgg22
 z22 := Tryz.sizeOf22
 v22 := Tryz.zeroValue22
 t40 := Tryz.underlying188
 a40 := Tryz.isAgg188
 z40 := Tryz.sizeOf188
 v40 := Tryz.zeroValue188 }
open Go.RowKit Go.Lib in
/-- slices.BinarySearch at []int: "BinarySearch searches for target in a sorted slice and returns the earliest position where target is found, or the position where target would appear in the sort order; it also returns a bool saying whether the target is really found in the slice. The slice must be sorted in increasing order.": OF A SORTED SLICE IT RETURNS how many elements are less than the target, and whether the target is among the elements; the world is as it was but for the count of draws. 'zs': what the cells behind the slice's address hold; 'zs.take n': its elements. (Of a slice that is not sorted: no contract here.) (LAID: no walk: one application.) -/
theorem Tryz.slices_BinarySearch_int (b off n c : Nat) (zs : List Int) (x : Int) (w : World) (hz : n ≤ zs.length) (hbig : n < 4611686018427387904) (hc : ∀ j, j < zs.length → w.cell? ⟨b, off + j, none⟩ = some (.int .i64 (zs.getD j 0))) (hs : (zs.take n).Pairwise (· ≤ ·)) :
 Calls Tryz.prog 216 #[.slice (some ⟨b, off, none⟩) n c, .int .i64 x] w fun e w' => e = .returned (.tuple #[.int .i64 ((zs.take n).countP (· < x) : Nat), .bool ((zs.take n).contains x)]) ∧ ∃ q, w' = w.drewN q := Any.slices_BinarySearch_int Tryz.laysNm225 b off n c zs x w hz hbig hc hs
open Go.RowKit Go.Sort in
/-- .. and plain. (LAID: no walk: one application.) -/
theorem Tryz.slices_Sort_int_none (p : Option Addr) (cap : Nat) (w : World) :
 Calls Tryz.prog 115 #[.slice p 0 cap] w fun e w' => e = .returned (.tuple #[]) ∧ w' = w := Any.slices_Sort_int_none Tryz.lays189 p cap w
open Go.RowKit Go.Lib in
/-- slices.BinarySearch at []int of no element: position 0, not found; the world is as it was. (LAID: no walk: one application.) -/
theorem Tryz.slices_BinarySearch_int_empty (a : Option Addr) (c : Nat) (x : Int) (w : World) :
 Calls Tryz.prog 216 #[.slice a 0 c, .int .i64 x] w fun e w' => e = .returned (.tuple #[.int .i64 0, .bool false]) ∧ w' = w := Any.slices_BinarySearch_int_empty Tryz.laysNm225 a c x w
end Go.Proofs

namespace Go.Proofs.YtbpkfkbbkgdlaaaGreatDoor
set_option linter.unusedVariables false

def hasB (a zt x : Int) : Bool := decide (a ≤ x ∧ x < zt)
def timeB (a zt : Int) : Bool := decide (0 ≤ a ∧ a < zt ∧ zt ≤ 345686400000)
def timeE (a zt : Int) : Int := if timeB a zt then 0 else 1
def scanT (a zt : Int) : Option Int → List Int → Int
 | _, [] => 0
 | p, x :: r => if hasB a zt x = false then 1 else if p.any (fun y => decide (x < y)) then 7 else scanT a zt (some x) r
def timesE (l : List Int) (a zt : Int) : Int := if timeB a zt = false then 1 else if 2000 < l.length then 2 else scanT a zt none l
theorem scanT_ok (a zt : Int) : ∀ (p : Option Int) (l : List Int), scanT a zt p l = 0 → l.Pairwise (· ≤ ·) ∧ (∀ x ∈ l, a ≤ x ∧ x < zt) ∧ ∀ y, p = some y → ∀ x ∈ l, y ≤ x
 | p, [], _ => ⟨List.Pairwise.nil, by simp, by simp⟩
 | p, x :: r, h => by
   unfold scanT at h
   split at h
   ·omega
   ·split at h
    ·omega
    ·rename_i h1 h2
     have ih := scanT_ok a zt (some x) r h
     have hx : a ≤ x ∧ x < zt := by simpa [hasB] using h1
     refine ⟨List.pairwise_cons.2 ⟨fun y hy => ih.2.2 x rfl y hy, ih.1⟩, ?_, ?_⟩
     ·intro y hy
      rcases List.mem_cons.1 hy with rfl | hy
      ·exact hx
      ·exact ih.2.1 y hy
     ·intro y hy z hz
      subst hy
      have hyx : y ≤ x := by simpa using h2
      rcases List.mem_cons.1 hz with rfl | hz
      ·exact hyx
      ·exact Int.le_trans hyx (ih.2.2 x rfl z hz)
/-- What is known of times without error. -/
structure TimesOk (l : List Int) (a zt : Int) : Prop where
 a0 : 0 ≤ a
 ato : a < zt
 to_ : zt ≤ 345686400000
 len : l.length ≤ 2000
 sorted : l.Pairwise (· ≤ ·)
 mem : ∀ x ∈ l, a ≤ x ∧ x < zt
theorem timesE_ok {l : List Int} {a zt : Int} (h : timesE l a zt = 0) : TimesOk l a zt := by
 unfold timesE at h
 split at h
 ·omega
 ·split at h
  ·omega
  ·rename_i h1 h2
   have h3 : 0 ≤ a ∧ a < zt ∧ zt ≤ 345686400000 := by simpa [timeB] using h1
   have := scanT_ok a zt none l h
   exact ⟨h3.1, h3.2.1, h3.2.2, by omega, this.1, this.2.1⟩
def cntLt (l : List Int) (x : Int) : Int := (l.countP (fun y => decide (y < x)) : Nat)
def manyI (l : List Int) (a zt : Int) : Int := (l.countP (fun x => hasB a zt x) : Nat)
def inI (l : List Int) (a zt : Int) : Int := max 0 (cntLt l zt - cntLt l a)
theorem cntLt_bd (l : List Int) (x : Int) : 0 ≤ cntLt l x ∧ cntLt l x ≤ l.length := by
 unfold cntLt
 have := List.countP_le_length (p := fun y => decide (y < x)) (l := l)
 omega
theorem manyI_bd (l : List Int) (a zt : Int) : 0 ≤ manyI l a zt ∧ manyI l a zt ≤ l.length := by
 unfold manyI
 have := List.countP_le_length (p := fun x => hasB a zt x) (l := l)
 omega
theorem cnt_diff (l : List Int) (a zt : Int) (h : a ≤ zt) : cntLt l zt - cntLt l a = manyI l a zt := by
 unfold cntLt manyI
 induction l with
 | nil => rfl
 | cons x r ih =>
   simp only [List.countP_cons, hasB, decide_eq_true_eq] at ih ⊢
   by_cases h1 : x < zt <;> by_cases h2 : x < a <;> by_cases h3 : a ≤ x <;> simp [h1, h2, h3] at ih ⊢ <;> omega
theorem cnt_mono (l : List Int) (a zt : Int) (h : zt ≤ a) : cntLt l zt ≤ cntLt l a := by
 unfold cntLt
 have := List.countP_mono_left (l := l) (p := fun y => decide (y < zt)) (q := fun y => decide (y < a)) (fun x _ hx => by simp at hx ⊢; omega)
 omega
theorem cnt_none (l : List Int) (a zt : Int) (h : zt < a) : manyI l a zt = 0 ∧ cntLt l zt ≤ cntLt l a := by
 refine ⟨?_, cnt_mono l a zt (by omega)⟩
 unfold manyI
 have : l.countP (fun x => hasB a zt x) = 0 := List.countP_eq_zero.2 (fun x _ => by unfold hasB; simp; omega)
 omega
theorem inI_many (l : List Int) (a zt : Int) : inI l a zt = manyI l a zt := by
 unfold inI
 have hb := manyI_bd l a zt
 by_cases h : a ≤ zt
 ·rw [cnt_diff l a zt h]; omega
 ·have := cnt_none l a zt (by omega); omega
/-- The best stretch: the first of those with the most. -/
def bestStep (l : List Int) (long : Int) (st : Int × Int) (x : Int) : Int × Int := if st.2 < manyI l x (x + long) then (x, manyI l x (x + long)) else st
def bestI (l : List Int) (a long : Int) : Int × Int := l.foldl (bestStep l long) (a, manyI l a (a + long))
end Go.Proofs.YtbpkfkbbkgdlaaaGreatDoor

namespace Go.Proofs.YtbpkfkbbkgdlaaaGreatDoor
open Go.RowKit
set_option linter.unusedVariables false

theorem timeB_yes {a zt : Int} (h : 0 ≤ a ∧ a < zt ∧ zt ≤ 345686400000) : timeB a zt = true := by unfold timeB; simpa using h
theorem timeB_no {a zt : Int} (h : ¬ (0 ≤ a ∧ a < zt ∧ zt ≤ 345686400000)) : timeB a zt = false := by unfold timeB; simpa using h
set_option maxHeartbeats 400000 in
theorem isTime_any (a zt : Int) (w : World) (hto : -1152921504606846976 ≤ zt) (hto2 : zt ≤ 1152921504606846976) :
 Calls Tryz.prog 97 #[.agg #[.int .i64 a, .int .i64 zt]] w fun r w' => r = .returned (.bool (timeB a zt)) ∧ w.grownBy w' none := by
 by_cases h1 : 0 ≤ a ∧ a ≤ zt - 1
 ·have hb : outB a 0 (zt - 1) = false := outB_no h1.1 h1.2
  have HE : Hid (timeB a zt = decide (zt ≤ 345686400000)) := by
   show _ = _
   unfold timeB
   by_cases h : zt ≤ 345686400000 <;> simp [h] <;> omega
  go_enter Tryz.func97, Tryz.ntmps97
  go_wp2_with fail
  refine (outside_any _ _ _ _).mono ?_
  rintro r w' ⟨rfl, rfl⟩
  go_wp2_with fail
  go_ret
  exact ⟨ret_b HE.out.symm, gr_alloc (gr_refl _ _) _⟩
 ·have hb : outB a 0 (zt - 1) = true := outB_yes (by omega)
  have HE := Lib.hid (timeB_no (a := a) (zt := zt) (by omega))
  go_enter Tryz.func97, Tryz.ntmps97
  go_wp2_with fail
  refine (outside_any _ _ _ _).mono ?_
  rintro r w' ⟨rfl, rfl⟩
  go_wp2_with fail
  go_ret
  exact ⟨ret_b HE.out.symm, gr_alloc (gr_refl _ _) _⟩
set_option maxHeartbeats 400000 in
theorem timeFault_any (a zt : Int) (w : World) :
 Calls Tryz.prog 49 #[.agg #[.int .i64 a, .int .i64 zt]] w fun r w' => r = .returned (.int .i64 (timeE a zt)) ∧ w.grownBy w' none := by
 by_cases k1 : a < 0
 ·have HE : Hid (timeE a zt = 1) := by show _ = _; unfold timeE; rw [timeB_no (by omega)]; rfl
  go_enter Tryz.func49, Tryz.ntmps49
  go_wp2_with fail
  go_ret
  exact ⟨ret_of HE.out.symm, gr_alloc (gr_refl _ _) _⟩
 by_cases k2 : zt ≤ a
 ·have HE : Hid (timeE a zt = 1) := by show _ = _; unfold timeE; rw [timeB_no (by omega)]; rfl
  go_enter Tryz.func49, Tryz.ntmps49
  go_wp2_with fail
  go_ret
  exact ⟨ret_of HE.out.symm, gr_alloc (gr_refl _ _) _⟩
 by_cases k3 : 345686400000 < zt
 ·have HE : Hid (timeE a zt = 1) := by show _ = _; unfold timeE; rw [timeB_no (by omega)]; rfl
  go_enter Tryz.func49, Tryz.ntmps49
  go_wp2_with fail
  go_ret
  exact ⟨ret_of HE.out.symm, gr_alloc (gr_refl _ _) _⟩
 ·have HE : Hid (timeE a zt = 0) := by show _ = _; unfold timeE; rw [timeB_yes (by omega)]; rfl
  go_enter Tryz.func49, Tryz.ntmps49
  go_wp2_with fail
  go_ret
  exact ⟨ret_of HE.out.symm, gr_alloc (gr_refl _ _) _⟩
theorem hasB_of {a zt x : Int} (h : a ≤ x) : hasB a zt x = decide (x < zt) := by unfold hasB; simp [h]
theorem hasB_no {a zt x : Int} (h : ¬ a ≤ x) : hasB a zt x = false := by unfold hasB; simp [h]
set_option maxHeartbeats 400000 in
theorem has_any (a zt x : Int) (w : World) :
 Calls Tryz.prog 156 #[.agg #[.int .i64 a, .int .i64 zt], .int .i64 x] w fun r w' => r = .returned (.bool (hasB a zt x)) ∧ w.grownBy w' none := by
 by_cases k1 : a ≤ x
 ·have HE := Lib.hid (hasB_of (zt := zt) k1)
  go_enter Tryz.func156, Tryz.ntmps156
  go_wp2_with fail
  go_ret
  exact ⟨ret_b HE.out.symm, gr_alloc (gr_refl _ _) _⟩
 ·have HE := Lib.hid (hasB_no (zt := zt) k1)
  go_enter Tryz.func156, Tryz.ntmps156
  go_wp2_with fail
  go_ret
  exact ⟨ret_b HE.out.symm, gr_alloc (gr_refl _ _) _⟩
def truthI (b : Bool) : Int := if b then 1 else 0
set_option maxHeartbeats 400000 in
theorem truth_any (b : Bool) (w : World) :
 Calls Tryz.prog 94 #[.bool b] w fun r w' => r = .returned (.int .i64 (truthI b)) ∧ w = w' := by
 cases b
 all_goals
  go_enter Tryz.func94, Tryz.ntmps94
  go_wp2_with fail
  go_ret
  exact ⟨rfl, rfl⟩
/-- The element before place k. -/
def prevI (l : List Int) (k : Nat) : Option Int := if k = 0 then none else l[k - 1]?
theorem prevI_succ (l : List Int) (k : Nat) (h : k < l.length) : prevI l (k + 1) = some l[k] := by unfold prevI; simp [h]
theorem prevI_pos (l : List Int) (k : Nat) (h0 : 0 < k) (h : k < l.length) : prevI l k = some (l[k - 1]'(by omega)) := by
 unfold prevI; rw [if_neg (by omega)]; exact List.getElem?_eq_getElem (by omega)
theorem scanT_bad {a zt x : Int} {p : Option Int} {r : List Int} (h : hasB a zt x = false) : scanT a zt p (x :: r) = 1 := by simp [scanT, h]
theorem scanT_order {a zt x y : Int} {r : List Int} (h : hasB a zt x = true) (hxy : x < y) : scanT a zt (some y) (x :: r) = 7 := by simp [scanT, h, hxy]
theorem scanT_next {a zt x : Int} {p : Option Int} {r : List Int} (h : hasB a zt x = true) (hp : ∀ y, p = some y → ¬ x < y) : scanT a zt p (x :: r) = scanT a zt (some x) r := by
 cases p with
 | none => simp [scanT, h]
 | some y => have := hp y rfl; simp [scanT, h]; omega
set_option maxHeartbeats 2000000 in
theorem checkTimes_any (base : Nat) (v : Value) (l : List Int) (a zt : Int) (w : World) (hl : IntsFrom base w v l) (hto : -1152921504606846976 ≤ zt) (hto2 : zt ≤ 1152921504606846976) :
 Calls Tryz.prog 132 #[v, .agg #[.int .i64 a, .int .i64 zt]] w fun r w' => r = .returned (.int .i64 (timesE l a zt)) ∧ w.grownBy w' none := by
 obtain ⟨A, c, rfl, hlen, hA⟩ := hl.shape
 rcases hb : timeB a zt
 ·have HE : Hid (timesE l a zt = 1) := by show _ = _; unfold timesE; rw [if_pos hb]
  go_enter Tryz.func132, Tryz.ntmps132
  go_wp2_with fail
  refine (isTime_any _ _ _ hto hto2).mono ?_
  rintro r w1 ⟨rfl, hg1⟩
  go_wp2_with fail
  go_ret
  exact ⟨ret_of HE.out.symm, gr_trans (World.grownBy_alloc w _ none) hg1⟩
 ·by_cases hbig : 2000 < l.length
  ·have HE : Hid (timesE l a zt = 2) := by show _ = _; unfold timesE; rw [if_neg (by simp [hb]), if_pos hbig]
   have hbig' : (2000 : Int) < (l.length : Int) := by omega
   go_enter Tryz.func132, Tryz.ntmps132
   go_wp2_with fail
   refine (isTime_any _ _ _ hto hto2).mono ?_
   rintro r w1 ⟨rfl, hg1⟩
   go_wp2_with fail
   go_ret
   exact ⟨ret_of HE.out.symm, gr_trans (World.grownBy_alloc w _ none) hg1⟩
  ·have HE : Hid (timesE l a zt = scanT a zt none l) := by show _ = _; unfold timesE; rw [if_neg (by simp [hb]), if_neg hbig]
   have hbig' : ¬ (2000 : Int) < (l.length : Int) := by omega
   have HL := Lib.hid hl
   clear hl
   go_enter Tryz.func132, Tryz.ntmps132
   go_wp2_with fail
   refine (isTime_any _ _ _ hto hto2).mono ?_
   rintro r w1 ⟨rfl, hg1⟩
   have hw1 := (Blk.new w 70 #[.int .i64 a, .int .i64 zt]).grown hg1 (by simp)
   have hG1 := gr_trans (World.grownBy_alloc w (.cells #[.int .i64 a, .int .i64 zt] 70) none) hg1
   clear hg1
   go_wp2_with fail
   go_loopw [15] (fun i wr => ∃ k : Nat, k ≤ l.length ∧ i = .int .i64 k ∧ Hid (scanT a zt none l = scanT a zt (prevI l k) (l.drop k)) ∧ w.grownBy wr none ∧ Blk wr w.heap.size 70 #[.int .i64 a, .int .i64 zt]) (fun i _ => l.length - (intOf i).toNat)
   case atStart => exact ⟨0, by omega, rfl, rfl, hG1, hw1⟩
   case round =>
    obtain ⟨k, hk, rfl, HR, hG, hW⟩ := hrel
    by_cases hlt : k < l.length
    ·obtain ⟨g, rfl, hg0, hg1⟩ := hA (by omega)
     have hkl : (k : Int) < (l.length : Int) := by omega
     have cx := (HL.out.grown hG).at_ k hlt
     have b0 : wr.cell? ⟨w.heap.size, 0, none⟩ = some (.int .i64 a) := hW.cell 0
     have b1 : wr.cell? ⟨w.heap.size, 1, none⟩ = some (.int .i64 zt) := hW.cell 1
     have hd := List.drop_eq_getElem_cons hlt
     have hpn := prevI_succ l k hlt
     have hpk := fun h0 => prevI_pos l k h0 hlt
     have HN : Hid (scanT a zt none l = scanT a zt (prevI l k) (l[k] :: l.drop (k + 1))) := by show _ = _; rw [HR.out, hd]
     have HP := Lib.hid hpn
     have HQ := Lib.hid hpk
     clear hd hpn hpk
     have cp : 0 < k → wr.cell? ⟨g, k - 1, none⟩ = some (.int .i64 (l[k - 1]'(by omega))) := fun h0 => (HL.out.grown hG).at_ (k - 1) (by omega)
     obtain ⟨x, hx⟩ : ∃ x, x = l[k] := ⟨_, rfl⟩
     rw [← hx] at cx HN HP
     clear hx HR
     rcases hh : hasB a zt x
     ·have HF := Lib.hid (HN.out.trans (scanT_bad hh))
      go_wp2_with fail
      refine (has_any _ _ _ _).mono ?_
      rintro _ w2 ⟨rfl, hg2⟩
      go_wp2_with fail
      go_ret
      exact ⟨ret_of (HE.out.trans HF.out).symm, gr_trans hG hg2⟩
     ·by_cases h0 : 0 < k
      ·have c1 := cp h0
       have hq := HQ.out h0
       obtain ⟨y, hy⟩ : ∃ y, y = l[k - 1]'(by omega) := ⟨_, rfl⟩
       rw [← hy] at c1 hq
       have HY := Lib.hid hq
       clear hy cp hq HQ
       obtain ⟨m, rfl⟩ : ∃ m, k = m + 1 := ⟨k - 1, by omega⟩
       have c2 : wr.cell? ⟨g, m, none⟩ = some (.int .i64 y) := c1
       clear c1
       have hkp : (0 : Int) < ((m + 1 : Nat) : Int) := by omega
       by_cases hxy : x < y
       ·have HF : Hid (scanT a zt none l = 7) := by show _ = _; rw [HN.out, HY.out]; exact scanT_order hh hxy
        go_wp2_with fail
        refine (has_any _ _ _ _).mono ?_
        rintro _ w2 ⟨rfl, hg2⟩
        have c3 : w2.cell? ⟨g, m, none⟩ = some (.int .i64 y) := hg2.cell c2 (by simp)
        clear c2
        go_wp2_with fail
        go_ret
        exact ⟨ret_of (HE.out.trans HF.out).symm, gr_trans hG hg2⟩
       ·have HF : Hid (scanT a zt none l = scanT a zt (prevI l (m + 1 + 1)) (l.drop (m + 1 + 1))) := by
         show _ = _
         rw [HN.out, HP.out, HY.out]
         exact scanT_next hh (fun z hz => by injection hz with hz; omega)
        go_wp2_with fail
        refine (has_any _ _ _ _).mono ?_
        rintro _ w2 ⟨rfl, hg2⟩
        have c3 : w2.cell? ⟨g, m, none⟩ = some (.int .i64 y) := hg2.cell c2 (by simp)
        clear c2
        have hG2 := gr_trans hG hg2
        have hW2 := hW.grown hg2 (by simp)
        go_wp2_with fail
        go_roundw
        case rel => exact ⟨m + 1 + 1, by omega, by go_num, HF, hG2, hW2⟩
        case measure => simp [intOf]; omega
      ·obtain rfl : k = 0 := by omega
       have HF : Hid (scanT a zt none l = scanT a zt (prevI l (0 + 1)) (l.drop (0 + 1))) := by
        show _ = _
        rw [HN.out, HP.out]
        exact scanT_next hh (fun z hz => by simp [prevI] at hz)
       clear cp HQ
       go_wp2_with fail
       refine (has_any _ _ _ _).mono ?_
       rintro _ w2 ⟨rfl, hg2⟩
       have hG2 := gr_trans hG hg2
       have hW2 := hW.grown hg2 (by simp)
       go_wp2_with fail
       go_roundw
       case rel => exact ⟨0 + 1, by omega, by go_num, HF, hG2, hW2⟩
       case measure => simp [intOf]; omega
    ·have HF : Hid (scanT a zt none l = 0) := by
      show _ = _
      rw [HR.out, List.drop_of_length_le (by omega)]
      cases prevI l k <;> rfl
     have hkl : ¬ (k : Int) < (l.length : Int) := by omega
     go_wp2_with fail
     go_ret
     exact ⟨ret_of (HE.out.trans HF.out).symm, hG⟩
end Go.Proofs.YtbpkfkbbkgdlaaaGreatDoor

namespace Go.Proofs.YtbpkfkbbkgdlaaaGreatDoor
open Go.RowKit
set_option linter.unusedVariables false

theorem quiet_w {P : Program} {f : FuncId} {args : Array Value} {w : World} {v : Value} (h : Calls P f args w fun e w' => e = .returned v ∧ ∃ m, w' = w.drewN m) : Calls P f args w fun e w'' => e = .returned v ∧ ∃ m, w'' = w.drewN m := h
theorem quiet_wn {P : Program} {f : FuncId} {args : Array Value} {w : World} {n : Nat} {v : Value}
 (h : Calls P f args (w.drewN n) fun e w' => e = .returned v ∧ ∃ m, w' = (w.drewN n).drewN m) : Calls P f args (w.drewN n) fun e w'' => e = .returned v ∧ ∃ m, w'' = w.drewN m :=
 h.mono fun _ _ ⟨he, m, hm⟩ => ⟨he, n + m, by rw [hm, World.drewN_drewN]⟩
theorem quiet_wadd {P : Program} {f : FuncId} {args : Array Value} {w : World} {a n : Nat} {v : Value}
 (h : Calls P f args (w.drewN (a + n)) fun e w' => e = .returned v ∧ ∃ m, w' = (w.drewN (a + n)).drewN m) :
 Calls P f args (w.drewN (a + n)) fun e w'' => e = .returned v ∧ ∃ m, w'' = w.drewN (a + m) :=
 h.mono fun _ _ ⟨he, m, hm⟩ => ⟨he, n + m, by rw [hm, World.drewN_drewN, Nat.add_assoc]⟩
set_option maxHeartbeats 400000 in
theorem before_any (base : Nat) (v : Value) (l : List Int) (x : Int) (w : World) (hl : IntsFrom base w v l) (hs : l.Pairwise (· ≤ ·)) (hn : l.length ≤ 1000000) :
 Calls Tryz.prog 173 #[v, .int .i64 x] w fun r w' => r = .returned (.int .i64 (cntLt l x)) ∧ ∃ m, w' = w.drewN m := by
 obtain ⟨A, c, rfl, hlen, hA⟩ := hl.shape
 have hb := cntLt_bd l x
 rcases Nat.eq_zero_or_pos l.length with h0 | h0
 ·have hl0 : l = [] := List.eq_nil_of_length_eq_zero h0
  subst hl0
  have HA := Lib.hid hA
  have HL := Lib.hid hl
  clear hA hl
  go_enter Tryz.func173, Tryz.ntmps173
  go_wp2_with fail
  refine (Tryz.slices_BinarySearch_int_empty A c x _).mono ?_
  rintro _ w1 ⟨rfl, rfl⟩
  go_wp2_with fail
  go_ret
  exact ⟨rfl, 0, rfl⟩
 ·obtain ⟨g, rfl, _, _⟩ := hA h0
  have hc : ∀ j, j < l.length → w.cell? ⟨g, 0 + j, none⟩ = some (.int .i64 (l.getD j 0)) := fun j hj => by
   rw [Nat.zero_add, hl.at_ j hj]
   simp [List.getD, hj]
  have htk : l.take l.length = l := List.take_length
  have HB := Tryz.slices_BinarySearch_int g 0 l.length c l x w (Nat.le_refl _) (by omega) hc (by rw [htk]; exact hs)
  rw [htk] at HB
  have HB2 := Lib.hid HB
  have HL := Lib.hid hl
  have HS := Lib.hid hs
  clear HB hc hA hl hs htk
  go_enter Tryz.func173, Tryz.ntmps173
  go_wp2_with fail
  refine HB2.out.mono ?_
  rintro _ w1 ⟨rfl, q, rfl⟩
  go_wp2_with fail
  go_ret
  exact ⟨rfl, q, rfl⟩
theorem IntsFrom.drewN {base : Nat} {w : World} {v : Value} {l : List Int} (h : IntsFrom base w v l) (n : Nat) : IntsFrom base (w.drewN n) v l := h
theorem IntsFrom.alloc {base : Nat} {w : World} {v : Value} {l : List Int} (h : IntsFrom base w v l) (o : Obj) : IntsFrom base (w.alloc o) v l := World.ownsRow.alloc h o
set_option maxHeartbeats 1000000 in
theorem in_many (base : Nat) (v : Value) (l : List Int) (a zt : Int) (w : World) (hl : IntsFrom base w v l) (hs : l.Pairwise (· ≤ ·)) (hn : l.length ≤ 1000000) :
 Calls Tryz.prog 134 #[v, .agg #[.int .i64 a, .int .i64 zt]] w fun r w' => r = .returned (.int .i64 (manyI l a zt)) ∧ w.grownBy w' none := by
 have HE := Lib.hid (inI_many l a zt)
 unfold inI at HE
 obtain ⟨p, hp⟩ : ∃ p, cntLt l zt = p := ⟨_, rfl⟩
 obtain ⟨q, hq⟩ : ∃ q, cntLt l a = q := ⟨_, rfl⟩
 have hp1 := cntLt_bd l zt
 have hq1 := cntLt_bd l a
 rw [hp] at HE hp1
 rw [hq] at HE hq1
 obtain ⟨p0, p1⟩ := hp1
 obtain ⟨q0, q1⟩ := hq1
 have m1 : IntKind.i64.wrap (p - q) = p - q := IntWalk.i64_in _ ⟨by omega, by omega⟩
 have HL := Lib.hid hl
 have HS := Lib.hid hs
 clear hl hs
 go_enter Tryz.func134, Tryz.ntmps134
 go_wp2_with fail
 go_quiet ((go_at_call 173; first | exact quiet_w (before_any base v l _ _ (HL.out.alloc _) HS.out hn) | exact quiet_wn (before_any base v l _ _ ((HL.out.alloc _).drewN _) HS.out hn) | exact quiet_wadd (before_any base v l _ _ ((HL.out.alloc _).drewN _) HS.out hn)))
 all_goals go_wp2_with fail
 go_ret
 exact ⟨ret_of HE.out, gr_drewN (World.grownBy_alloc w _ none) _⟩
def longE (n : Int) : Int := spanE n 60000 86400000
theorem longE_cases (n : Int) : (longE n = 0 ∧ outB n 60000 86400000 = false ∧ 60000 ≤ n ∧ n ≤ 86400000) ∨ (longE n = 1 ∧ outB n 60000 86400000 = true) := by
 unfold longE
 rcases spanE_cases n 60000 86400000 with ⟨h, h1, h2⟩ | ⟨h, h1⟩
 ·exact .inl ⟨h, outB_no h1 h2, h1, h2⟩
 ·exact .inr ⟨h, outB_yes h1⟩
set_option maxHeartbeats 400000 in
theorem isLong_any (n : Int) (w : World) :
 Calls Tryz.prog 133 #[.int .i64 n] w fun e w' => e = .returned (.bool (!outB n 60000 86400000)) ∧ w = w' := by
 go_enter Tryz.func133, Tryz.ntmps133
 go_wp2_with fail
 refine (outside_any _ _ _ _).mono ?_
 rintro e w' ⟨rfl, rfl⟩
 go_wp2_with fail
 go_ret
 exact ⟨rfl, rfl⟩
end Go.Proofs.YtbpkfkbbkgdlaaaGreatDoor

namespace Go.Proofs.YtbpkfkbbkgdlaaaGreatDoor
open Go.RowKit
set_option linter.unusedVariables false

end Go.Proofs.YtbpkfkbbkgdlaaaGreatDoor

namespace Go.Proofs.YtbpkfkbbkgdlaaaGreatDoor
open Go.RowKit
set_option linter.unusedVariables false

theorem gr_of_drew {w w' : World} {row : Option Nat} (h : w.drew.grownBy w' row) : w.grownBy w' row := ⟨h.os, h.tape, h.output, h.size, h.block⟩
theorem TimesOk.E0 {l : List Int} {a zt : Int} (h : timesE l a zt = 0) : (timesE l a zt != 0) = false := by rw [h]; rfl
end Go.Proofs.YtbpkfkbbkgdlaaaGreatDoor
