/- Small words for memory that the walks share: a block that is known whole; a slice that reads as a list; the stream of numbers. No condition. -/
import Derived.Test.YtlbhphfmckhimaaRows
import Derived.WalkKit
import Derived.WalkSpells
import Derived.WalkLawsBesides
import Derived.Deep.QuietTactic
import Derived.BigQuiet
import Derived.Lib.Hide
namespace Go.Proofs.Ytlbhphfmckhimaa
set_option linter.unusedVariables false
open Go.RowKit

/-- Block g holds just these cells, none of them frozen. -/
def Blk (w : World) (g : Nat) (t : TypeId) (cs : Array Value) : Prop := w.heap[g]? = some (.cells cs t (0, 0))

section
variable {w w' : World} {g : Nat} {t : TypeId} {cs : Array Value}
theorem Blk.lt (h : Blk w g t cs) : g < w.heap.size := (Array.getElem?_eq_some_iff.1 h).1
theorem Blk.cell (h : Blk w g t cs) (i : Nat) : w.cell? ⟨g, i, none⟩ = cs[i]? := cell_of_row w g i cs t (0, 0) h
theorem Blk.free (h : Blk w g t cs) (i : Nat) : w.frozen? ⟨g, i, none⟩ = false := by
  unfold Blk at h; simp [World.frozen?, h]
theorem Blk.new (w : World) (t : TypeId) (cs : Array Value) : Blk (w.alloc (.cells cs t)) w.heap.size t cs := heap_alloc_new w _
theorem Blk.alloc (h : Blk w g t cs) (o : Obj) : Blk (w.alloc o) g t cs := (Below.heap_alloc w o g h.lt).trans h
theorem Blk.drew (h : Blk w g t cs) : Blk w.drew g t cs := h
theorem Blk.drewN (h : Blk w g t cs) (n : Nat) : Blk (w.drewN n) g t cs := h
theorem Blk.put (h : Blk w g t cs) (i : Nat) (u : Value) : Blk (w.setCell ⟨g, i, none⟩ u) g t (cs.setIfInBounds i u) := by
  unfold Blk at h ⊢; simp [World.setCell, Array.getElem?_modify, h]
theorem Blk.far (h : Blk w g t cs) {p : Addr} (hp : g ≠ p.block) (u : Value) : Blk (w.setCell p u) g t cs := (Below.heap_setCell w p u g hp).trans h
theorem Blk.grown (h : Blk w g t cs) {row : Option Nat} (hb : w.grownBy w' row) (hg : some g ≠ row) : Blk w' g t cs := (hb.block g h.lt hg).trans h
end

/-! ### What a call leaves: 'w.grownBy w' none': nothing that was there has turned; 'w.grownBy w' (some b)': block b alone may have turned. -/
theorem gr_refl (w : World) (row : Option Nat) : w.grownBy w row := World.grownBy.refl w row
theorem gr_trans {a b c : World} {row : Option Nat} (h : a.grownBy b row) (k : b.grownBy c row) : a.grownBy c row :=
  ⟨k.os.trans h.os, k.tape.trans h.tape, k.output.trans h.output, Nat.le_trans h.size k.size, fun i hi hne => (k.block i (Nat.lt_of_lt_of_le hi h.size) hne).trans (h.block i hi hne)⟩
theorem gr_weak {a b : World} (h : a.grownBy b none) (row : Option Nat) : a.grownBy b row := ⟨h.os, h.tape, h.output, h.size, fun i hi _ => h.block i hi (by simp)⟩
theorem gr_drew {a w : World} {row : Option Nat} (h : a.grownBy w row) : a.grownBy w.drew row := ⟨h.os, h.tape, h.output, h.size, h.block⟩
theorem gr_drewN {a w : World} {row : Option Nat} (h : a.grownBy w row) (n : Nat) : a.grownBy (w.drewN n) row := ⟨h.os, h.tape, h.output, h.size, h.block⟩
theorem gr_alloc {a w : World} {row : Option Nat} (h : a.grownBy w row) (o : Obj) : a.grownBy (w.alloc o) row :=
  ⟨h.os, h.tape, h.output, Nat.le_trans h.size (by simp), fun i hi hne => (Below.heap_alloc w o i (Nat.lt_of_lt_of_le hi h.size)).trans (h.block i hi hne)⟩
theorem gr_put {a w : World} {row : Option Nat} (h : a.grownBy w row) {p : Addr} (hp : row = some p.block ∨ a.heap.size ≤ p.block) (u : Value) : a.grownBy (w.setCell p u) row :=
  ⟨h.os, h.tape, h.output, by simpa [World.setCell] using h.size, fun i hi hne => (Below.heap_setCell w p u i (by
    rintro rfl
    rcases hp with hp | hp
    · exact hne hp.symm
    · omega)).trans (h.block i hi hne)⟩
theorem gr_grown {a w w' : World} {row row' : Option Nat} (h : a.grownBy w row) (k : w.grownBy w' row') (hr : ∀ g, row' = some g → row = some g ∨ a.heap.size ≤ g) : a.grownBy w' row :=
  ⟨k.os.trans h.os, k.tape.trans h.tape, k.output.trans h.output, Nat.le_trans h.size k.size, fun i hi hne => (k.block i (Nat.lt_of_lt_of_le hi h.size) (fun e => by
    rcases hr i e.symm with h1 | h1
    · exact hne h1.symm
    · omega)).trans (h.block i hi hne)⟩
theorem new_kept {w w1 : World} {t : TypeId} {cs : Array Value} {row : Option Nat} (hg : (w.alloc (.cells cs t)).grownBy w1 row) (hr : some w.heap.size ≠ row) (i : Nat) : w1.cell? ⟨w.heap.size, i, none⟩ = cs[i]? :=
  ((Blk.new w t cs).grown hg hr).cell i
theorem gr_below {a w : World} (h : a.grownBy w none) : Below a.heap.size a w := ⟨h.os, h.tape, h.output, h.size, fun i hi => h.block i hi (by simp)⟩
theorem gr_of_below {a w : World} (h : Below a.heap.size a w) : a.grownBy w none := ⟨h.os, h.tape, h.output, h.size, fun i hi _ => h.block i hi⟩

/-! ### Calls inside a region that draws its order: a contract that leaves the world alone. -/
theorem quiet_same {P : Program} {f : FuncId} {args : Array Value} {w : World} {v : Value}
    (h : Calls P f args w fun e w' => e = .returned v ∧ w = w') : Calls P f args w fun e w'' => e = .returned v ∧ ∃ m, w'' = w.drewN m :=
  h.mono fun _ _ ⟨he, hm⟩ => ⟨he, 0, hm.symm⟩
theorem quiet_n {P : Program} {f : FuncId} {args : Array Value} {w : World} {n : Nat} {v : Value}
    (h : Calls P f args (w.drewN n) fun e w' => e = .returned v ∧ w.drewN n = w') : Calls P f args (w.drewN n) fun e w'' => e = .returned v ∧ ∃ m, w'' = w.drewN m :=
  h.mono fun _ _ ⟨he, hm⟩ => ⟨he, n, hm.symm⟩
theorem quiet_add {P : Program} {f : FuncId} {args : Array Value} {w : World} {a n : Nat} {v : Value}
    (h : Calls P f args (w.drewN (a + n)) fun e w' => e = .returned v ∧ w.drewN (a + n) = w') :
    Calls P f args (w.drewN (a + n)) fun e w'' => e = .returned v ∧ ∃ m, w'' = w.drewN (a + m) :=
  h.mono fun _ _ ⟨he, hm⟩ => ⟨he, n, hm.symm⟩

theorem ret_of {k : IntKind} {a b : Int} (h : a = b) : Ending.returned (.int k a) = .returned (.int k b) := by rw [h]
theorem ret_b {a b : Bool} (h : a = b) : Ending.returned (.bool a) = .returned (.bool b) := by rw [h]

/-! ### pilemake.Below -/
theorem tmod_lo (x n : Int) (h : 1 ≤ n) : -n < x.tmod n ∧ x.tmod n < n := by
  have h1 := Int.tmod_lt_of_pos x (show 0 < n by omega)
  have h2 := Int.lt_tmod_of_pos x (show 0 < n by omega)
  exact ⟨h2, h1⟩

set_option maxHeartbeats 400000 in
/-- Whatever x is: a number from 0 to n - 1. -/
theorem below_in (x n : Int) (w : World) (h1 : 1 ≤ n) (h2 : n ≤ 4611686018427387904) :
    Calls Try.prog 46 #[.int .i64 x, .int .i64 n] w fun e w' => (∃ v : Int, 0 ≤ v ∧ v < n ∧ e = .returned (.int .i64 v)) ∧ w = w' := by
  have ht := tmod_lo x n h1
  obtain ⟨t1, t2⟩ := ht
  go_enter Try.func46, Try.ntmps46
  go_wp2
  all_goals (go_ret; exact ⟨⟨_, by omega, by omega, rfl⟩, rfl⟩)

/-! ### The stream: a block of two cells: the numbers that it hands out, and how many it has handed out (at most k). -/
def Str (w : World) (b k : Nat) : Prop :=
  ∃ (A : Option Addr) (n c : Nat) (at_ : Int), Blk w b 25 #[.slice A n c, .int .i64 at_] ∧ 0 ≤ at_ ∧ at_ ≤ k ∧ n ≤ 9223372036854775807 ∧
    (0 < n → ∃ ad, A = some ad ∧ ad.block < b ∧ ∀ j, j < n → ∃ z : Int, w.cell? (ad.add j) = some (.int .i64 z))

theorem Str.mono {w : World} {b k k' : Nat} (h : Str w b k) (hk : k ≤ k') : Str w b k' := by
  obtain ⟨A, n, c, a, h1, h2, h3, h4, h5⟩ := h
  exact ⟨A, n, c, a, h1, h2, by omega, h4, h5⟩
theorem Str.lt {w : World} {b k : Nat} (h : Str w b k) : b < w.heap.size := by
  obtain ⟨A, n, c, a, h1, h2, h3, h4, h5⟩ := h
  exact h1.lt
theorem add_block (a : Addr) (n : Nat) : (a.add n).block = a.block := by unfold Addr.add; split <;> rfl
theorem Str.grown {w w' : World} {b k : Nat} (h : Str w b k) {row : Option Nat} (hg : w.grownBy w' row) (hr : ∀ g, row = some g → b < g) : Str w' b k := by
  obtain ⟨A, n, c, a, h1, h2, h3, h4, h5⟩ := h
  have hlt := h1.lt
  refine ⟨A, n, c, a, h1.grown hg (fun e => by have := hr b e.symm; omega), h2, h3, h4, fun hn => ?_⟩
  obtain ⟨ad, e, hb, hc⟩ := h5 hn
  refine ⟨ad, e, hb, fun j hj => ?_⟩
  obtain ⟨z, hz⟩ := hc j hj
  exact ⟨z, (World.cell?_of_block (hg.block _ (by rw [add_block]; omega) (fun e' => by have := hr _ e'.symm; rw [add_block] at this; omega))).trans hz⟩
theorem Str.alloc {w : World} {b k : Nat} (h : Str w b k) (o : Obj) : Str (w.alloc o) b k := h.grown (World.grownBy_alloc w o none) (by simp)
theorem Str.drew {w : World} {b k : Nat} (h : Str w b k) : Str w.drew b k := h
theorem Str.drewN {w : World} {b k : Nat} (h : Str w b k) (n : Nat) : Str (w.drewN n) b k := h

/-- What 'Next(n)' leaves: a number from 0 to n - 1, the stream one further. -/
def NextPost (b k : Nat) (n : Int) (w : World) (e : Ending) (w' : World) : Prop :=
  ∃ v : Int, 0 ≤ v ∧ v < n ∧ e = .returned (.int .i64 v) ∧ Str w' b (k + 1) ∧ w.grownBy w' (some b)

set_option maxHeartbeats 400000 in
theorem next_in (b k : Nat) (n : Int) (w : World) (hs : Str w b k) (hk : k ≤ 1000000000000) (h1 : 1 ≤ n) (h2 : n ≤ 4611686018427387904) :
    Calls Try.prog 24 #[.pointer (some ⟨b, 0, none⟩), .int .i64 n] w (NextPost b k n w) := by
  obtain ⟨A, len, c, a, hb, ha0, ha1, hn, hcell⟩ := hs
  have c0 := hb.cell 0
  have c1 := hb.cell 1
  have f1 := hb.free 1
  simp only [List.getElem?_toArray, List.getElem?_cons_zero, List.getElem?_cons_succ] at c0 c1
  rcases Nat.eq_zero_or_pos len with h0 | h0
  · subst h0
    have H5 := Lib.hid hcell
    clear hcell
    go_enter Try.func24, Try.ntmps24
    go_wp2_with fail
    refine (below_in _ _ _ h1 h2).mono ?_
    rintro e w' ⟨⟨v, hv0, hv1, rfl⟩, rfl⟩
    go_wp2_with fail
    go_ret
    have hb' := hb.put 1 (.int .i64 (a + 1))
    exact ⟨v, hv0, hv1, rfl, ⟨A, 0, c, a + 1, hb', by omega, by omega, hn, fun h => absurd h (by omega)⟩, gr_put (gr_refl _ _) (.inl rfl) _⟩
  · obtain ⟨ad, rfl, hab, hx⟩ := hcell h0
    have H5 := Lib.hid hcell
    clear hcell
    have m0 : 0 ≤ a % (len : Int) := Int.emod_nonneg _ (by omega)
    have m1 : a % (len : Int) < len := Int.emod_lt_of_pos _ (by omega)
    have m2 : 0 ≤ a / (len : Int) := Int.ediv_nonneg ha0 (by omega)
    have m3 : a / (len : Int) ≤ a := Int.ediv_le_self _ ha0
    have hlen : ((len : Int) == 0) = false := by rw [beq_eq_false_iff_ne]; omega
    obtain ⟨i, hi⟩ := Int.eq_ofNat_of_zero_le m0
    obtain ⟨z, hz⟩ := hx i (by omega)
    have hz' : (w.setCell ⟨b, 1, none⟩ (.int .i64 (a + 1))).cell? (ad.add i) = some (.int .i64 z) :=
      (World.cell?_setCell_other w _ _ _ (fun e => by have := add_block ad i; rw [← e] at this; simp at this; omega)).trans hz
    have HX := Lib.hid hx
    have HI := Lib.hid hi
    clear hx hz
    go_enter Try.func24, Try.ntmps24
    go_wp2_with fail
    go_quiet (fail)
    go_wp2_with fail
    go_quiet (fail)
    go_wp2_with fail
    refine (below_in _ _ _ (by omega) (by omega)).mono ?_
    rintro e w' ⟨⟨v, hv0, hv1, rfl⟩, rfl⟩
    go_wp2_with fail
    refine (below_in _ _ _ h1 h2).mono ?_
    rintro e w' ⟨⟨v2, hv20, hv21, rfl⟩, rfl⟩
    go_wp2_with fail
    go_ret
    have hb' := (hb.put 1 (.int .i64 (a + 1)))
    exact ⟨v2, hv20, hv21, rfl, ⟨some ad, len, c, a + 1, hb', by omega, by omega, hn, fun _ => ⟨ad, rfl, hab, fun j hj => by
      obtain ⟨z', hz2⟩ := HX.out j hj
      exact ⟨z', (World.cell?_setCell_other w _ _ _ (fun e => by have := add_block ad j; rw [← e] at this; simp at this; omega)).trans hz2⟩⟩⟩,
      by repeat (first | exact gr_put (gr_refl _ _) (.inl rfl) _ | refine gr_drewN ?_ _ | refine gr_drew ?_)⟩
end Go.Proofs.Ytlbhphfmckhimaa
