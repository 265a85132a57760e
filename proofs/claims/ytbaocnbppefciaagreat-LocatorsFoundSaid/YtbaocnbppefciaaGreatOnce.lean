/- The reference's 'once' at few strings: they in order, each once; what it is made of: slices.Clone, Sort, Compact. Condition: at most 1000 strings. -/
import Derived.Test.YtbaocnbppefciaaGreatInts
import Derived.Test.YtbaocnbppefciaaGreatShelf
import Derived.Sort.OwnSorted
import Derived.Lib.OwnBridge
import Derived.Lib.SlicesCompact
import Derived.Lib.RowBridge
namespace Go.Proofs.YtbaocnbppefciaaGreat
open Go.RowKit Go.Sort
set_option linter.unusedVariables false

/-- Names in a slice, as lists of bytes. -/
def NamesFrom (base : Nat) (w : World) (v : Value) (ks : List (List UInt8)) : Prop := w.ownsRow base 9 1 v ks.length (ks.map encStr)
theorem NamesFrom.lowTo {base base' : Nat} {w : World} {v : Value} {l : List (List UInt8)} (h : NamesFrom base w v l) (hb : base' ≤ base) : NamesFrom base' w v l := ownsRow_low h hb
theorem NamesFrom.grown {base : Nat} {w w' : World} {v : Value} {l : List (List UInt8)} (h : NamesFrom base w v l) (hg : w.grownBy w' none) : NamesFrom base w' v l := ownsRow_grown h hg
theorem NamesFrom.other {base b : Nat} {w w' : World} {v : Value} {l : List (List UInt8)} (h : NamesFrom base w v l) (hg : w.grownBy w' (some b)) (hb : b < base) : NamesFrom base w' v l := ownsRow_other h hg hb
theorem NamesFrom.nil (base : Nat) (w : World) : NamesFrom base w (.slice none 0 0) [] := World.ownsRow_nil _ _ _ _
theorem NamesFrom.shape {base : Nat} {w : World} {v : Value} {l : List (List UInt8)} (h : NamesFrom base w v l) :
    ∃ A c, v = .slice A l.length c ∧ l.length ≤ 9223372036854775807 ∧ (0 < l.length → ∃ g, A = some ⟨g, 0, none⟩ ∧ base ≤ g ∧ g < w.heap.size) := ownsRow_shape h
theorem NamesFrom.at_ {base : Nat} {w : World} {g c : Nat} {l : List (List UInt8)} (h : NamesFrom base w (.slice (some ⟨g, 0, none⟩) l.length c) l) (k : Nat) (hk : k < l.length) : w.cell? ⟨g, k, none⟩ = some (encStr l[k]) := by
  have := World.ownsRow.cellAt h k (by omega)
  rw [this]; simp [hk]

def sortB (l : List (List UInt8)) : List (List UInt8) := l.mergeSort fun x y => decide (x ≤ y)
theorem sortB_len (l : List (List UInt8)) : (sortB l).length = l.length := List.length_mergeSort l
def onceB (l : List (List UInt8)) : List (List UInt8) := Lib.compact (sortB l)
theorem onceB_len (l : List (List UInt8)) : (onceB l).length ≤ l.length := by
  have := Lib.compact_length_le (sortB l)
  rw [sortB_len] at this
  exact this

theorem sortS_own (base : Nat) (v : Value) (l : List (List UInt8)) (w : World) (hl : NamesFrom base w v l) (hn : l.length ≤ 1000000000) :
    Calls Tryz.prog 66 #[v] w fun r w' => r = .returned (.tuple #[]) ∧ NamesFrom base w' v (sortB l) ∧ w.grownBy w' v.ownBlock := by
  have h0 := hl
  rcases hl.2 with ⟨rfl, h2⟩ | ⟨g, cap, cur, rfl, hb, hg, hnc, hm, hs, ht⟩
  · refine (Tryz.slices_Sort_string_none _ _ _).mono ?_
    rintro r w' ⟨rfl, rfl⟩
    have hnil : l = [] := List.eq_nil_of_length_eq_zero h2
    subst hnil
    exact ⟨rfl, by unfold sortB; simp; exact NamesFrom.nil _ _, gr_refl _ _⟩
  · have hlt : g < w.heap.size := (Array.getElem?_eq_some_iff.1 hg).1
    have hH := holds_of_block (ss := l) hg (by rw [Nat.mul_one] at ht; exact ht)
    refine (Tryz.slices_Sort_string g 0 cap l w hH hlt (by omega)).mono ?_
    rintro r w' ⟨rfl, n, os, rfl⟩
    refine ⟨rfl, ?_, grownBy_sorted _⟩
    have := ownsRow_sorted (n := n) (os := os) (ss := l) (ts := sortB l) (sortB_len l) hb hg hnc hm hs
    unfold NamesFrom
    rw [sortB_len]
    exact this
theorem grownBy_putRowS {w : World} {g n : Nat} (d : Array (List UInt8)) : w.grownBy (putRow encStr (Sort.ahead w n) g 0 d) (some g) := by
  refine ⟨rfl, rfl, rfl, by simp [Sort.ahead], fun k hk hne => ?_⟩
  have : g ≠ k := fun e => hne (by rw [e])
  simp [putRow, mapBlock, Sort.ahead, Array.getElem?_modify, this]
theorem compactS_own (base : Nat) (v : Value) (l : List (List UInt8)) (w : World) (hl : NamesFrom base w v l) (hn : l.length ≤ 1000000000) :
    Calls Tryz.prog 71 #[v] w fun r w' => ∃ u, r = .returned u ∧ NamesFrom base w' u (Lib.compact l) ∧ w.grownBy w' v.ownBlock := by
  have h0 := hl
  have hcl := Lib.compact_length_le l
  rcases hl.2 with ⟨rfl, h2⟩ | ⟨g, cap, cur, rfl, hb, hg, hnc, hm, hs, ht⟩
  · refine (Tryz.slices_Compact_string_empty none 0 w).mono ?_
    rintro r w' ⟨rfl, rfl⟩
    have hnil : l = [] := List.eq_nil_of_length_eq_zero h2
    subst hnil
    exact ⟨_, rfl, NamesFrom.nil _ _, gr_refl _ _⟩
  · have hH := holds_of_block (ss := l) hg (by rw [Nat.mul_one] at ht; exact ht)
    refine (Tryz.slices_Compact_string g 0 cap l w hH (by omega) hnc).mono ?_
    rintro r w' ⟨rfl, q, rfl⟩
    refine ⟨_, rfl, ?_, grownBy_putRowS _⟩
    have := Lib.ownsRow_putRow (q := q) (k := (Lib.compact l).length) (ys := Lib.compact l ++ List.replicate (l.length - (Lib.compact l).length) []) h0 (by simp; omega) hcl
    rw [List.take_left] at this
    exact this
theorem cloneS_own (base : Nat) (v : Value) (l : List (List UInt8)) (w : World) (hl : NamesFrom base w v l) (hn : l.length ≤ 1000000000) :
    Calls Tryz.prog 70 #[v] w fun r w' => ∃ u, r = .returned u ∧ NamesFrom w.heap.size w' u l ∧ w.grownBy w' none := by
  have h0 := hl
  rcases hl.2 with ⟨rfl, h2⟩ | ⟨g, cap, cur, rfl, hb, hg, hnc, hm, hs, ht⟩
  · refine (Tryz.slices_Clone_string_nil _ _ w).mono ?_
    rintro r w' ⟨rfl, rfl⟩
    have hnil : l = [] := List.eq_nil_of_length_eq_zero h2
    subst hnil
    exact ⟨_, rfl, NamesFrom.nil _ _, gr_refl _ _⟩
  · have hc : ∀ j, j < (l.map fun k => (⟨k.toArray⟩ : ByteArray)).length → w.cell? ⟨g, 0 + j, none⟩ = some (.string ((l.map fun k => (⟨k.toArray⟩ : ByteArray)).getD j ByteArray.empty)) := by
      intro j hj
      have hj' : j < l.length := by simpa using hj
      rw [Nat.zero_add, NamesFrom.at_ h0 j hj']
      simp [hj', encStr]
    refine (Tryz.slices_Clone_string g 0 l.length cap (l.map fun k => (⟨k.toArray⟩ : ByteArray)) w (by simp) (by omega) hc).mono ?_
    rintro r w' ⟨u, rfl, hu, _, hb'⟩
    refine ⟨u, rfl, ?_, gr_of_below hb'⟩
    unfold NamesFrom
    have e : ((l.map fun k => (⟨k.toArray⟩ : ByteArray)).take l.length).map Value.string = l.map encStr := by
      rw [List.take_of_length_le (by simp)]
      simp [encStr]
    rw [e] at hu
    exact hu

set_option maxRecDepth 100000 in
set_option maxHeartbeats 1000000 in
theorem once_any (base : Nat) (v : Value) (l : List (List UInt8)) (w : World) (hl : NamesFrom base w v l) (hn : l.length ≤ 1000) :
    Calls Tryz.prog 58 #[v] w fun r w' => ∃ u, r = .returned u ∧ NamesFrom w.heap.size w' u (onceB l) ∧ w.grownBy w' none := by
  have HL := Lib.hid hl
  clear hl
  go_enter Tryz.func58, Tryz.ntmps58
  go_wp2_with fail
  refine (cloneS_own base v l _ HL.out (by omega)).mono ?_
  rintro _ w1 ⟨u1, rfl, hu1, hg1⟩
  have hlow : ∀ gg, u1.ownBlock = some gg → w.heap.size ≤ gg := fun gg e => (hu1.lt gg e).1
  go_wp2_with fail
  refine (sortS_own w.heap.size u1 l _ hu1 (by omega)).mono ?_
  rintro _ w2 ⟨rfl, hu2, hg2⟩
  have hG2 : w.grownBy w2 none := gr_grown hg1 hg2 (fun g e => .inr (hlow g e))
  clear hg1 hg2 hu1
  go_wp2_with fail
  refine (compactS_own w.heap.size u1 (sortB l) _ hu2 (by rw [sortB_len]; omega)).mono ?_
  rintro _ w3 ⟨u3, rfl, hu3, hg3⟩
  have hG3 : w.grownBy w3 none := gr_grown hG2 hg3 (fun g e => .inr (hlow g e))
  go_wp2_with fail
  go_ret
  exact ⟨u3, rfl, hu3, hG3⟩
end Go.Proofs.YtbaocnbppefciaaGreat
