/- slices.Sort and slices.Compact at a slice of ints that the call owns, and what the sorted list without repetitions is. Condition: at most 10^9 numbers. -/
import Derived.Test.YtnapbnkbchaanaaGreatDoorInts
import Derived.Test.YtnapbnkbchaanaaGreatDoorShelf
import Derived.Sort.OwnSortedInts
import Derived.Lib.OwnBridge
import Derived.Lib.SlicesCompact
import Derived.Lib.RowBridge
namespace Go.Proofs.YtnapbnkbchaanaaGreatDoor
open Go.RowKit Go.Sort
set_option linter.unusedVariables false

def sortI (l : List Int) : List Int := l.mergeSort fun x y => decide (x ≤ y)
theorem sortI_len (l : List Int) : (sortI l).length = l.length := List.length_mergeSort l
theorem sortI_mem (l : List Int) (x : Int) : x ∈ sortI l ↔ x ∈ l := (List.mergeSort_perm l _).mem_iff
theorem sortI_sorted (l : List Int) : (sortI l).Pairwise (· ≤ ·) := by
  have h := List.pairwise_mergeSort (le := fun x y : Int => decide (x ≤ y)) (by intro a b c h1 h2; simp at *; omega) (by intro a b; simp; omega) l
  exact h.imp (by intro a b h; simpa using h)

theorem sort_own (base : Nat) (v : Value) (l : List Int) (w : World) (hl : IntsFrom base w v l) (hn : l.length ≤ 1000000000) :
    Calls Tryz.prog 107 #[v] w fun r w' => r = .returned (.tuple #[]) ∧ IntsFrom base w' v (sortI l) ∧ w.grownBy w' v.ownBlock := by
  have h0 := hl
  rcases hl.2 with ⟨rfl, h2⟩ | ⟨g, cap, cur, rfl, hb, hg, hnc, hm, hs, ht⟩
  · refine (Tryz.slices_Sort_int_none _ _ _).mono ?_
    rintro r w' ⟨rfl, rfl⟩
    have hnil : l = [] := List.eq_nil_of_length_eq_zero h2
    subst hnil
    exact ⟨rfl, by unfold sortI; simp; exact IntsFrom.nil _ _, gr_refl _ _⟩
  · have hlt : g < w.heap.size := (Array.getElem?_eq_some_iff.1 hg).1
    have hH := holds_of_blockI (ss := l) hg (by rw [Nat.mul_one] at ht; exact ht)
    refine (Tryz.slices_Sort_int g 0 cap l w hH hlt (by omega)).mono ?_
    rintro r w' ⟨rfl, n, os, rfl⟩
    refine ⟨rfl, ?_, grownBy_sortedI _⟩
    have := ownsRow_sortedI (n := n) (os := os) (ss := l) (ts := sortI l) (sortI_len l) hb hg hnc hm hs
    unfold IntsFrom
    rw [sortI_len]
    exact this

theorem grownBy_putRowI {w : World} {g n : Nat} (d : Array Int) : w.grownBy (putRow (Value.int .i64) (Sort.ahead w n) g 0 d) (some g) := by
  refine ⟨rfl, rfl, rfl, by simp [Sort.ahead], fun k hk hne => ?_⟩
  have : g ≠ k := fun e => hne (by rw [e])
  simp [putRow, mapBlock, Sort.ahead, Array.getElem?_modify, this]

def compI (l : List Int) : List Int := Lib.compact l
theorem compact_own (base : Nat) (v : Value) (l : List Int) (w : World) (hl : IntsFrom base w v l) (hn : l.length ≤ 1000000000) :
    Calls Tryz.prog 108 #[v] w fun r w' => ∃ u, r = .returned u ∧ IntsFrom base w' u (compI l) ∧ w.grownBy w' v.ownBlock := by
  have h0 := hl
  have hcl := Lib.compact_length_le l
  rcases hl.2 with ⟨rfl, h2⟩ | ⟨g, cap, cur, rfl, hb, hg, hnc, hm, hs, ht⟩
  · refine (Tryz.slices_Compact_int_empty none 0 w).mono ?_
    rintro r w' ⟨rfl, rfl⟩
    have hnil : l = [] := List.eq_nil_of_length_eq_zero h2
    subst hnil
    exact ⟨_, rfl, IntsFrom.nil _ _, gr_refl _ _⟩
  · have hH := holds_of_blockI (ss := l) hg (by rw [Nat.mul_one] at ht; exact ht)
    refine (Tryz.slices_Compact_int g 0 cap l w hH (by omega) hnc).mono ?_
    rintro r w' ⟨rfl, q, rfl⟩
    refine ⟨_, rfl, ?_, grownBy_putRowI _⟩
    have := Lib.ownsRow_putRow (q := q) (k := (Lib.compact l).length) (ys := Lib.compact l ++ List.replicate (l.length - (Lib.compact l).length) 0) h0 (by simp; omega) hcl
    rw [List.take_left] at this
    exact this

/-- Without repetitions. -/
theorem compU (d : Array Int) (hd : ∀ i j, i ≤ j → j < d.size → d[i]! ≤ d[j]!) : ∀ m, m ≤ d.size →
    (Lib.compactUpTo d m).Pairwise (· < ·) ∧ (∀ x ∈ Lib.compactUpTo d m, ∃ j, j < m ∧ d[j]! = x) ∧ (∀ j, j < m → d[j]! ∈ Lib.compactUpTo d m)
  | 0, _ => by simp [Lib.compactUpTo]
  | m + 1, hm => by
    have ih := compU d hd m (by omega)
    rw [Lib.compactUpTo_succ]
    by_cases hk : Lib.keeps d m = true
    · rw [if_pos hk]
      have hk' : m = 0 ∨ d[m]! ≠ d[m - 1]! := by simpa [Lib.keeps] using hk
      refine ⟨List.pairwise_append.2 ⟨ih.1, by simp, ?_⟩, ?_, ?_⟩
      · intro x hx y hy
        obtain ⟨j, hj, rfl⟩ := ih.2.1 x hx
        simp only [List.mem_singleton] at hy
        subst hy
        have h1 := hd j (m - 1) (by omega) (by omega)
        have h2 := hd (m - 1) m (by omega) (by omega)
        rcases hk' with h | h
        · omega
        · omega
      · intro x hx
        rcases List.mem_append.1 hx with h | h
        · obtain ⟨j, hj, e⟩ := ih.2.1 x h; exact ⟨j, by omega, e⟩
        · simp only [List.mem_singleton] at h; exact ⟨m, by omega, h.symm⟩
      · intro j hj
        rcases Nat.lt_or_ge j m with h | h
        · exact List.mem_append_left _ (ih.2.2 j h)
        · obtain rfl : j = m := by omega
          exact List.mem_append_right _ (by simp)
    · rw [if_neg hk, List.append_nil]
      have hk' : ¬ (m = 0 ∨ d[m]! ≠ d[m - 1]!) := by simpa [Lib.keeps] using hk
      refine ⟨ih.1, fun x hx => ?_, fun j hj => ?_⟩
      · obtain ⟨j, hj, e⟩ := ih.2.1 x hx; exact ⟨j, by omega, e⟩
      · rcases Nat.lt_or_ge j m with h | h
        · exact ih.2.2 j h
        · obtain rfl : j = m := by omega
          have e : d[j]! = d[j - 1]! := by
            rcases Classical.em (d[j]! = d[j - 1]!) with h | h
            · exact h
            · exact absurd (.inr h) hk'
          rw [e]
          exact ih.2.2 (j - 1) (by omega)

theorem compI_props (l : List Int) (hs : l.Pairwise (· ≤ ·)) : (compI l).Pairwise (· < ·) ∧ ∀ x, x ∈ compI l ↔ x ∈ l := by
  have hd : ∀ i j, i ≤ j → j < l.toArray.size → l.toArray[i]! ≤ l.toArray[j]! := fun i j hij hj => by
    have hj' : j < l.length := by simpa using hj
    rw [getElem!_pos l.toArray i (by simp; omega), getElem!_pos l.toArray j (by simpa using hj')]
    rcases Nat.lt_or_eq_of_le hij with h | h
    · simpa using (List.pairwise_iff_getElem.1 hs) i j (by omega) hj' h
    · subst h; exact Int.le_refl _
  have h := compU l.toArray hd l.length (by simp)
  refine ⟨h.1, fun x => ⟨fun hx => ?_, fun hx => ?_⟩⟩
  · obtain ⟨j, hj, e⟩ := h.2.1 x hx
    rw [getElem!_pos l.toArray j (by simpa using hj)] at e
    rw [← e]
    simp
  · obtain ⟨j, hj, e⟩ := List.getElem_of_mem hx
    have := h.2.2 j hj
    rw [getElem!_pos l.toArray j (by simpa using hj)] at this
    simp [e] at this
    exact this
/-- Two lists that rise and have the same members are one. -/
theorem rise_ext : ∀ (a b : List Int), a.Pairwise (· < ·) → b.Pairwise (· < ·) → (∀ x, x ∈ a ↔ x ∈ b) → a = b
  | [], [], _, _, _ => rfl
  | [], y :: b, _, _, h => by have := (h y).2 (by simp); simp at this
  | x :: a, [], _, _, h => by have := (h x).1 (by simp); simp at this
  | x :: a, y :: b, ha, hb, h => by
    have ha' := List.pairwise_cons.1 ha
    have hb' := List.pairwise_cons.1 hb
    have hxy : x = y := by
      have h1 := (h x).1 (by simp)
      have h2 := (h y).2 (by simp)
      rcases List.mem_cons.1 h1 with e | e
      · exact e
      · rcases List.mem_cons.1 h2 with e' | e'
        · exact e'.symm
        · have := hb'.1 x e; have := ha'.1 y e'; omega
    subst hxy
    congr 1
    refine rise_ext a b ha'.2 hb'.2 fun z => ⟨fun hz => ?_, fun hz => ?_⟩
    · rcases List.mem_cons.1 ((h z).1 (List.mem_cons_of_mem _ hz)) with e | e
      · have := ha'.1 z hz; omega
      · exact e
    · rcases List.mem_cons.1 ((h z).2 (List.mem_cons_of_mem _ hz)) with e | e
      · have := hb'.1 z hz; omega
      · exact e
end Go.Proofs.YtnapbnkbchaanaaGreatDoor
