/- The stream's small methods: Flip, Range, Pick, Odd: each answers in its range, and turns the stream alone. Condition: it has handed out at most 10^12 numbers. The stream's Some: one of some strings. Condition: it has handed out at most 10^12 numbers. How a law begins: the stream is laid over the numbers that came in. No condition. -/
import Derived.Test.YtlbhphfmckhimaaBase
import Derived.WalkKit
import Derived.ProofKit
import Derived.OpenShut
import Derived.ShutString
import Derived.ChangeOld
import Derived.Below
namespace Go.Proofs.Ytlbhphfmckhimaa
set_option linter.unusedVariables false
open Go.RowKit

def FlipPost (b k : Nat) (w : World) (e : Ending) (w' : World) : Prop :=
  ∃ v : Bool, e = .returned (.bool v) ∧ Str w' b (k + 1) ∧ w.grownBy w' (some b)

set_option maxHeartbeats 400000 in
theorem flip_in (b k : Nat) (n : Int) (w : World) (hs : Str w b k) (hk : k ≤ 1000000000000) (h1 : 1 ≤ n) (h2 : n ≤ 4611686018427387904) :
    Calls Try.prog 6 #[.pointer (some ⟨b, 0, none⟩), .int .i64 n] w (FlipPost b k w) := by
  go_enter Try.func6, Try.ntmps6
  go_wp2_with fail
  refine (next_in b k n _ hs hk h1 h2).mono ?_
  rintro e w1 ⟨v, hv0, hv1, rfl, hs1, hg1⟩
  go_wp2_with fail
  all_goals go_ret
  all_goals exact ⟨_, rfl, hs1, hg1⟩

/-- A number from low to high. -/
def RangePost (b k : Nat) (low high : Int) (w : World) (e : Ending) (w' : World) : Prop :=
  ∃ v : Int, low ≤ v ∧ v ≤ high ∧ e = .returned (.int .i64 v) ∧ Str w' b (k + 1) ∧ w.grownBy w' (some b)

set_option maxHeartbeats 400000 in
theorem range_in (b k : Nat) (low high : Int) (w : World) (hs : Str w b k) (hk : k ≤ 1000000000000) (h1 : -1152921504606846976 ≤ low) (h2 : low ≤ high) (h3 : high ≤ 1152921504606846976) :
    Calls Try.prog 23 #[.pointer (some ⟨b, 0, none⟩), .int .i64 low, .int .i64 high] w (RangePost b k low high w) := by
  go_enter Try.func23, Try.ntmps23
  go_wp2_with fail
  refine (next_in b k _ _ hs hk (by omega) (by omega)).mono ?_
  rintro e w1 ⟨v, hv0, hv1, rfl, hs1, hg1⟩
  go_wp2_with fail
  go_ret
  exact ⟨_, by omega, by omega, rfl, hs1, hg1⟩

/-- One of the numbers. -/
def PickPost (b k : Nat) (xs : List Int) (w : World) (e : Ending) (w' : World) : Prop :=
  ∃ v : Int, v ∈ xs ∧ e = .returned (.int .i64 v) ∧ Str w' b (k + 1) ∧ w.grownBy w' (some b)

theorem getD_of {xs : List Int} {i : Nat} (h : i < xs.length) : ((xs.map (Value.int .i64)).toArray)[i]? = some (.int .i64 xs[i]) := by simp [h]

set_option maxHeartbeats 400000 in
theorem pick_in (b k g m c : Nat) (xs : List Int) (w : World) (hs : Str w b k) (hk : k ≤ 1000000000000) (hg : Blk w g 3 (xs.map (Value.int .i64)).toArray) (hne : g ≠ b) (hm : m = xs.length) (h1 : 1 ≤ m) (h2 : m ≤ 1000) :
    Calls Try.prog 5 #[.pointer (some ⟨b, 0, none⟩), .slice (some ⟨g, 0, none⟩) m c] w (PickPost b k xs w) := by
  have HM := Lib.hid hm
  clear hm
  go_enter Try.func5, Try.ntmps5
  go_wp2_with fail
  refine (next_in b k _ _ hs hk (by omega) (by omega)).mono ?_
  rintro e w1 ⟨v, hv0, hv1, rfl, hs1, hg1⟩
  obtain ⟨i, rfl⟩ := Int.eq_ofNat_of_zero_le hv0
  have hi : i < xs.length := by have := HM.out; omega
  have hc := (hg.grown hg1 (by simpa using hne)).cell i
  rw [getD_of hi] at hc
  obtain ⟨z, hz⟩ : ∃ z, z = xs[i] := ⟨_, rfl⟩
  have hmem : z ∈ xs := by rw [hz]; exact List.getElem_mem hi
  rw [← hz] at hc
  clear hz
  go_wp2_with fail
  go_ret
  exact ⟨z, hmem, rfl, hs1, hg1⟩

/-- Pick of numbers that have just been laid. -/
theorem pick_new (b k m c : Nat) (xs : List Int) (w : World) (hs : Str w b k) (hk : k ≤ 1000000000000) (hm : m = xs.length) (h1 : 1 ≤ m) (h2 : m ≤ 1000) :
    Calls Try.prog 5 #[.pointer (some ⟨b, 0, none⟩), .slice (some ⟨w.heap.size, 0, none⟩) m c] (w.alloc (.cells (xs.map (Value.int .i64)).toArray 3)) (PickPost b k xs w) :=
  (pick_in b k _ m c xs _ (hs.alloc _) hk (Blk.new _ _ _) (by have := hs.lt; omega) hm h1 h2).mono fun e w' ⟨v, hv, he, hs', hg⟩ =>
    ⟨v, hv, he, hs', gr_trans (World.grownBy_alloc w _ _) hg⟩

/-- The same where the address is spelled in another way. -/
theorem pick_at (b k g m c : Nat) (xs : List Int) (w : World) (hs : Str w b k) (hg : g = w.heap.size) (hk : k ≤ 1000000000000) (hm : m = xs.length) (h1 : 1 ≤ m) (h2 : m ≤ 1000) :
    Calls Try.prog 5 #[.pointer (some ⟨b, 0, none⟩), .slice (some ⟨g, 0, none⟩) m c] (w.alloc (.cells (xs.map (Value.int .i64)).toArray 3)) (PickPost b k xs w) := by
  subst hg
  exact pick_new b k m c xs w hs hk hm h1 h2

theorem Str.setCell {w : World} {b k : Nat} (h : Str w b k) {p : Addr} (hp : b < p.block) (u : Value) : Str (w.setCell p u) b k :=
  h.grown (gr_put (gr_refl w (some p.block)) (.inl rfl) u) (fun g e => by injection e with e; omega)
theorem Str.put_far {w : World} {b k : Nat} (h : Str w b k) {p q : Addr} (hp : b < p.block) (hq : b < q.block) (u v : Value) : Str ((w.setCell p u).setCell q v) b k :=
  (h.setCell hp u).setCell hq v

theorem Blk.cells2 {w : World} {g : Nat} {t : TypeId} {a0 a1 : Value} (h : Blk w g t #[a0, a1]) : w.cell? ⟨g, 0, none⟩ = some a0 ∧ w.cell? ⟨g, 1, none⟩ = some a1 := ⟨h.cell 0, h.cell 1⟩
theorem Blk.put01 {w : World} {g : Nat} {t : TypeId} {a0 a1 : Value} (h : Blk w g t #[a0, a1]) (b0 b1 : Value) : Blk ((w.setCell ⟨g, 0, none⟩ b0).setCell ⟨g, 1, none⟩ b1) g t #[b0, b1] := by
  have := (h.put 0 b0).put 1 b1
  simpa using this
theorem gr_put01 {a w : World} {g : Nat} {row : Option Nat} (h : a.grownBy w row) (hg : a.heap.size ≤ g) (b0 b1 : Value) : a.grownBy ((w.setCell ⟨g, 0, none⟩ b0).setCell ⟨g, 1, none⟩ b1) row :=
  gr_put (gr_put h (.inr hg) _) (.inr hg) _

end Go.Proofs.Ytlbhphfmckhimaa

namespace Go.Proofs.Ytlbhphfmckhimaa
set_option linter.unusedVariables false
open Go.RowKit

/-- One of the strings. -/
def SomePost (b k : Nat) (xs : List ByteArray) (w : World) (e : Ending) (w' : World) : Prop :=
  ∃ v : ByteArray, v ∈ xs ∧ e = .returned (.string v) ∧ Str w' b (k + 1) ∧ w.grownBy w' (some b)
theorem getS_of {xs : List ByteArray} {i : Nat} (h : i < xs.length) : ((xs.map Value.string).toArray)[i]? = some (.string xs[i]) := by simp [h]

end Go.Proofs.Ytlbhphfmckhimaa

namespace Go.Proofs.Ytlbhphfmckhimaa
open Go.RowKit
set_option linter.unusedVariables false

/-- The numbers that came in, as the walks ask for them. -/
def In (w : World) (A : Option Addr) (n : Nat) : Prop :=
  n ≤ 9223372036854775807 ∧ (0 < n → ∃ ad, A = some ad ∧ ad.block < w.heap.size ∧ ∀ j, j < n → ∃ z : Int, w.cell? (ad.add j) = some (.int .i64 z))

theorem Str.start {w : World} {A : Option Addr} {n c : Nat} (h : In w A n) :
    Str (w.alloc (.cells #[.slice A n c, .int .i64 0] 25)) w.heap.size 0 := by
  obtain ⟨h1, h2⟩ := h
  refine ⟨A, n, c, 0, Blk.new _ _ _, by omega, by omega, h1, fun hn => ?_⟩
  obtain ⟨ad, e, hb, hc⟩ := h2 hn
  refine ⟨ad, e, hb, fun j hj => ?_⟩
  obtain ⟨z, hz⟩ := hc j hj
  exact ⟨z, (World.cell?_alloc_lt w _ _ (by rw [add_block]; exact hb)).trans hz⟩

/-- WHAT IS TOLD OF A SLICE OF INTEGERS THAT CAME IN: it is nil; or it leads to a row of 'cap' cells, the numbers 'zs'. -/
def IsRow (k : IntKind) (w : World) (a : Option Addr) (len cap : Nat) (zs : List Int) : Prop :=
  (a = none ∧ len = 0 ∧ cap = 0 ∧ zs = []) ∨
  ∃ x, a = some x ∧ len ≤ cap ∧ cap ≤ maxLen ∧ zs.length = cap ∧ (∀ i, i < zs.length → w.cell? (x.add i) = some (.int k (zs.getD i 0))) ∧ ∀ n ∈ zs, (Lit.int k n).wf = true

theorem In.of_row {w : World} {a : Option Addr} {len cap : Nat} {zs : List Int} (h : IsRow .i64 w a len cap zs) : In w a len := by
  rcases h with ⟨_, rfl, _, _⟩ | ⟨x, rfl, h1, h2, h3, h4, _⟩
  · exact ⟨by omega, fun h => absurd h (by omega)⟩
  · unfold maxLen at h2
    refine ⟨by omega, fun hn => ⟨x, rfl, ?_, fun j hj => ⟨_, h4 j (by omega)⟩⟩⟩
    have := World.block_lt_of_cell? w _ (h4 0 (by omega))
    rwa [add_block] at this
end Go.Proofs.Ytlbhphfmckhimaa
