/- Parts of a proof: Once, OncePlain. Conditions: as each statement says. -/
import Derived.Test.YtbamhgaghngjiaaGreatDoorSxaa
import Derived.Sort.OwnSorted
import Derived.Lib.OwnBridge
import Derived.Lib.SlicesCompact
import Derived.Lib.RowBridge
import Derived.Sort.KeysCollected
namespace Go.Proofs.YtbamhgaghngjiaaGreatDoor
open Go.RowKit Go.Sort
set_option linter.unusedVariables false

def NamesFrom (base : Nat) (w : World) (v : Value) (ks : List (List UInt8)) : Prop := w.ownsRow base 9 1 v ks.length (ks.map encStr)
theorem NamesFrom.grown {base : Nat} {w w' : World} {v : Value} {l : List (List UInt8)} (h : NamesFrom base w v l) (hg : w.grownBy w' none) : NamesFrom base w' v l := j4 h hg
theorem NamesFrom.other {base b : Nat} {w w' : World} {v : Value} {l : List (List UInt8)} (h : NamesFrom base w v l) (hg : w.grownBy w' (some b)) (hb : b < base) : NamesFrom base w' v l := jx h hg hb
theorem NamesFrom.nil (base : Nat) (w : World) : NamesFrom base w (.slice none 0 0) [] := World.ownsRow_nil _ _ _ _
theorem NamesFrom.shape {base : Nat} {w : World} {v : Value} {l : List (List UInt8)} (h : NamesFrom base w v l) :
 ∃ A c, v = .slice A l.length c ∧ l.length ≤ 9223372036854775807 ∧ (0 < l.length → ∃ g, A = some ⟨g, 0, none⟩ ∧ base ≤ g ∧ g < w.heap.size) := jw h
theorem NamesFrom.at_ {base : Nat} {w : World} {g c : Nat} {l : List (List UInt8)} (h : NamesFrom base w (.slice (some ⟨g, 0, none⟩) l.length c) l) (k : Nat) (hk : k < l.length) : w.cell? ⟨g, k, none⟩ = some (encStr l[k]) := by
 have := World.ownsRow.cellAt h k (by omega)
 rw [this]; simp [hk]
def zv (l : List (List UInt8)) : List (List UInt8) := l.mergeSort fun x y => decide (x ≤ y)
theorem jdy (l : List (List UInt8)) : (zv l).length = l.length := List.length_mergeSort l
def jc0 (l : List (List UInt8)) : List (List UInt8) := Lib.compact (zv l)
theorem jse (l : List (List UInt8)) : (jc0 l).length ≤ l.length := by
 have := Lib.compact_length_le (zv l)
 rw [jdy] at this
 exact this
theorem jsd (base : Nat) (v : Value) (l : List (List UInt8)) (w : World) (hl : NamesFrom base w v l) (hn : l.length ≤ 1000000000) :
 Calls Tryz.prog 16 #[v] w fun r w' => r = .returned (.tuple #[]) ∧ NamesFrom base w' v (zv l) ∧ w.grownBy w' v.ownBlock := by
 have h0 := hl
 rcases hl.2 with ⟨rfl, h2⟩ | ⟨g, cap, cur, rfl, hb, hg, hnc, hm, hs, ht⟩
 ·refine (Tryz.slices_Sort_string_none _ _ _).mono ?_
  rintro r w' ⟨rfl, rfl⟩
  have hnil : l = [] := List.eq_nil_of_length_eq_zero h2
  subst hnil
  exact ⟨rfl, by unfold zv; simp; exact NamesFrom.nil _ _, je _ _⟩
 have hlt : g < w.heap.size := (Array.getElem?_eq_some_iff.1 hg).1
 have hH := holds_of_block (ss := l) hg (by rw [Nat.mul_one] at ht; exact ht)
 refine (Tryz.slices_Sort_string g 0 cap l w hH hlt (by omega)).mono ?_
 rintro r w' ⟨rfl, n, os, rfl⟩
 refine ⟨rfl, ?_, grownBy_sorted _⟩
 have := ownsRow_sorted (n := n) (os := os) (ss := l) (ts := zv l) (jdy l) hb hg hnc hm hs
 unfold NamesFrom
 rw [jdy]
 exact this
theorem jfp {w : World} {g n : Nat} (d : Array (List UInt8)) : w.grownBy (putRow encStr (Sort.ahead w n) g 0 d) (some g) := by
 refine ⟨rfl, rfl, rfl, by simp [Sort.ahead], fun k hk hne => ?_⟩
 have : g ≠ k := fun e => hne (by rw [e])
 simp [putRow, mapBlock, Sort.ahead, Array.getElem?_modify, this]
theorem jk8 (base : Nat) (v : Value) (l : List (List UInt8)) (w : World) (hl : NamesFrom base w v l) (hn : l.length ≤ 1000000000) :
 Calls Tryz.prog 17 #[v] w fun r w' => ∃ u, r = .returned u ∧ NamesFrom base w' u (Lib.compact l) ∧ w.grownBy w' v.ownBlock := by
 have h0 := hl
 have hcl := Lib.compact_length_le l
 rcases hl.2 with ⟨rfl, h2⟩ | ⟨g, cap, cur, rfl, hb, hg, hnc, hm, hs, ht⟩
 ·refine (Tryz.slices_Compact_string_empty none 0 w).mono ?_
  rintro r w' ⟨rfl, rfl⟩
  have hnil : l = [] := List.eq_nil_of_length_eq_zero h2
  subst hnil
  exact ⟨_, rfl, NamesFrom.nil _ _, je _ _⟩
 have hH := holds_of_block (ss := l) hg (by rw [Nat.mul_one] at ht; exact ht)
 refine (Tryz.slices_Compact_string g 0 cap l w hH (by omega) hnc).mono ?_
 rintro r w' ⟨rfl, q, rfl⟩
 refine ⟨_, rfl, ?_, jfp _⟩
 have := Lib.ownsRow_putRow (q := q) (k := (Lib.compact l).length) (ys := Lib.compact l ++ List.replicate (l.length - (Lib.compact l).length) []) h0 (by simp; omega) hcl
 rw [List.take_left] at this
 exact this
theorem jj8 (l : List (List UInt8)) : (zv l).Pairwise (· ≤ ·) := by
 have h := List.pairwise_mergeSort (le := fun x y : List UInt8 => decide (x ≤ y)) (by intro a b c h1 h2; simp only [decide_eq_true_eq] at *; exact List.le_trans h1 h2) (by intro a b; simp only [Bool.or_eq_true, decide_eq_true_eq]; exact List.le_total a b) l
 exact h.imp (by intro a b h; simpa using h)
theorem jlf (l : List (List UInt8)) (x : List UInt8) : x ∈ zv l ↔ x ∈ l := (List.mergeSort_perm l _).mem_iff
theorem jym (d : Array (List UInt8)) (hd : ∀ i j, i ≤ j → j < d.size → d[i]! ≤ d[j]!) : ∀ m, m ≤ d.size →
 (Lib.compactUpTo d m).Nodup ∧ (Lib.compactUpTo d m).Pairwise (· ≤ ·) ∧ (∀ x ∈ Lib.compactUpTo d m, ∃ j, j < m ∧ d[j]! = x) ∧ (∀ j, j < m → d[j]! ∈ Lib.compactUpTo d m)
 | 0, _ => by simp [Lib.compactUpTo]
 | m + 1, hm => by
   have ih := jym d hd m (by omega)
   rw [Lib.compactUpTo_succ]
   by_cases hk : Lib.keeps d m = true
   ·rw [if_pos hk]
    have hk' : m = 0 ∨ d[m]! ≠ d[m - 1]! := by simpa [Lib.keeps] using hk
    have hall : ∀ x ∈ Lib.compactUpTo d m, x ≤ d[m]! ∧ x ≠ d[m]! := fun x hx => by
     obtain ⟨j, hj, rfl⟩ := ih.2.2.1 x hx
     have h1 := hd j (m - 1) (by omega) (by omega)
     have h2 := hd (m - 1) m (by omega) (by omega)
     refine ⟨List.le_trans h1 h2, fun e => ?_⟩
     rcases hk' with h | h
     ·omega
     rw [e] at h1
     exact h (List.le_antisymm h1 h2)
    refine ⟨List.pairwise_append.2 ⟨ih.1, by simp, ?_⟩, List.pairwise_append.2 ⟨ih.2.1, by simp, ?_⟩, ?_, ?_⟩
    ·intro x hx y hy
     simp only [List.mem_singleton] at hy
     subst hy
     exact (hall x hx).2
    ·intro x hx y hy
     simp only [List.mem_singleton] at hy
     subst hy
     exact (hall x hx).1
    ·intro x hx
     rcases List.mem_append.1 hx with h | h
     ·obtain ⟨j, hj, e⟩ := ih.2.2.1 x h; exact ⟨j, by omega, e⟩
     simp only [List.mem_singleton] at h; exact ⟨m, by omega, h.symm⟩
    intro j hj
    rcases Nat.lt_or_ge j m with h | h
    ·exact List.mem_append_left _ (ih.2.2.2 j h)
    obtain rfl : j = m := by omega
    exact List.mem_append_right _ (by simp)
   rw [if_neg hk, List.append_nil]
   have hk' : ¬ (m = 0 ∨ d[m]! ≠ d[m - 1]!) := by simpa [Lib.keeps] using hk
   refine ⟨ih.1, ih.2.1, fun x hx => ?_, fun j hj => ?_⟩
   ·obtain ⟨j, hj, e⟩ := ih.2.2.1 x hx; exact ⟨j, by omega, e⟩
   rcases Nat.lt_or_ge j m with h | h
   ·exact ih.2.2.2 j h
   obtain rfl : j = m := by omega
   have e : d[j]! = d[j - 1]! := by
    rcases Classical.em (d[j]! = d[j - 1]!) with h | h
    ·exact h
    exact absurd (.inr h) hk'
   rw [e]
   exact ih.2.2.2 (j - 1) (by omega)
theorem jl9 (l : List (List UInt8)) : (jc0 l).Nodup ∧ (jc0 l).Pairwise (· ≤ ·) ∧ ∀ x, x ∈ jc0 l ↔ x ∈ l := by
 have hs := jj8 l
 have hd : ∀ i j, i ≤ j → j < (zv l).toArray.size → (zv l).toArray[i]! ≤ (zv l).toArray[j]! := fun i j hij hj => by
  have hj' : j < (zv l).length := by simpa using hj
  rw [getElem!_pos (zv l).toArray i (by simp; omega), getElem!_pos (zv l).toArray j (by simpa using hj')]
  rcases Nat.lt_or_eq_of_le hij with h | h
  ·simpa using (List.pairwise_iff_getElem.1 hs) i j (by omega) hj' h
  subst h; exact List.le_refl _
 have h := jym (zv l).toArray hd (zv l).length (by simp)
 refine ⟨h.1, h.2.1, fun x => ⟨fun hx => ?_, fun hx => ?_⟩⟩
 ·obtain ⟨j, hj, e⟩ := h.2.2.1 x hx
  rw [getElem!_pos (zv l).toArray j (by simpa using hj)] at e
  rw [← jlf l, ← e]
  simp
 rw [← jlf l] at hx
 obtain ⟨j, hj, e⟩ := List.getElem_of_mem hx
 have := h.2.2.2 j hj
 rw [getElem!_pos (zv l).toArray j (by simpa using hj)] at this
 simp [e] at this
 exact this
end Go.Proofs.YtbamhgaghngjiaaGreatDoor
