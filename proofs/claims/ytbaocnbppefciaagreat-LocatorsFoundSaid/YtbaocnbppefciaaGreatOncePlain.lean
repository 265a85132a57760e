/- Plain law: strings in order, each once: what slices.Compact leaves of a sorted list. No condition. -/
import Derived.Test.YtbaocnbppefciaaGreatOnce
import Derived.Sort.KeysCollected
namespace Go.Proofs.YtbaocnbppefciaaGreat
open Go.RowKit Go.Sort
set_option linter.unusedVariables false

theorem sortB_sorted (l : List (List UInt8)) : (sortB l).Pairwise (· ≤ ·) := by
  have h := List.pairwise_mergeSort (le := fun x y : List UInt8 => decide (x ≤ y)) (by intro a b c h1 h2; simp only [decide_eq_true_eq] at *; exact List.le_trans h1 h2) (by intro a b; simp only [Bool.or_eq_true, decide_eq_true_eq]; exact List.le_total a b) l
  exact h.imp (by intro a b h; simpa using h)
theorem sortB_mem (l : List (List UInt8)) (x : List UInt8) : x ∈ sortB l ↔ x ∈ l := (List.mergeSort_perm l _).mem_iff
theorem sortB_perm (l : List (List UInt8)) : (sortB l).Perm l := List.mergeSort_perm l _
/-- Two lists in order with the same members, each once, are one. -/
theorem sorted_one {a b : List (List UInt8)} (ha : a.Pairwise (· ≤ ·)) (hb : b.Pairwise (· ≤ ·)) (h : a.Perm b) : a = b :=
  List.Perm.eq_of_pairwise (le := (· ≤ ·)) (fun x y _ _ h1 h2 => List.le_antisymm h1 h2) ha hb h

theorem compB (d : Array (List UInt8)) (hd : ∀ i j, i ≤ j → j < d.size → d[i]! ≤ d[j]!) : ∀ m, m ≤ d.size →
    (Lib.compactUpTo d m).Nodup ∧ (Lib.compactUpTo d m).Pairwise (· ≤ ·) ∧ (∀ x ∈ Lib.compactUpTo d m, ∃ j, j < m ∧ d[j]! = x) ∧ (∀ j, j < m → d[j]! ∈ Lib.compactUpTo d m)
  | 0, _ => by simp [Lib.compactUpTo]
  | m + 1, hm => by
    have ih := compB d hd m (by omega)
    rw [Lib.compactUpTo_succ]
    by_cases hk : Lib.keeps d m = true
    · rw [if_pos hk]
      have hk' : m = 0 ∨ d[m]! ≠ d[m - 1]! := by simpa [Lib.keeps] using hk
      have hall : ∀ x ∈ Lib.compactUpTo d m, x ≤ d[m]! ∧ x ≠ d[m]! := fun x hx => by
        obtain ⟨j, hj, rfl⟩ := ih.2.2.1 x hx
        have h1 := hd j (m - 1) (by omega) (by omega)
        have h2 := hd (m - 1) m (by omega) (by omega)
        refine ⟨List.le_trans h1 h2, fun e => ?_⟩
        rcases hk' with h | h
        · omega
        · rw [e] at h1
          exact h (List.le_antisymm h1 h2)
      refine ⟨List.pairwise_append.2 ⟨ih.1, by simp, ?_⟩, List.pairwise_append.2 ⟨ih.2.1, by simp, ?_⟩, ?_, ?_⟩
      · intro x hx y hy
        simp only [List.mem_singleton] at hy
        subst hy
        exact (hall x hx).2
      · intro x hx y hy
        simp only [List.mem_singleton] at hy
        subst hy
        exact (hall x hx).1
      · intro x hx
        rcases List.mem_append.1 hx with h | h
        · obtain ⟨j, hj, e⟩ := ih.2.2.1 x h; exact ⟨j, by omega, e⟩
        · simp only [List.mem_singleton] at h; exact ⟨m, by omega, h.symm⟩
      · intro j hj
        rcases Nat.lt_or_ge j m with h | h
        · exact List.mem_append_left _ (ih.2.2.2 j h)
        · obtain rfl : j = m := by omega
          exact List.mem_append_right _ (by simp)
    · rw [if_neg hk, List.append_nil]
      have hk' : ¬ (m = 0 ∨ d[m]! ≠ d[m - 1]!) := by simpa [Lib.keeps] using hk
      refine ⟨ih.1, ih.2.1, fun x hx => ?_, fun j hj => ?_⟩
      · obtain ⟨j, hj, e⟩ := ih.2.2.1 x hx; exact ⟨j, by omega, e⟩
      · rcases Nat.lt_or_ge j m with h | h
        · exact ih.2.2.2 j h
        · obtain rfl : j = m := by omega
          have e : d[j]! = d[j - 1]! := by
            rcases Classical.em (d[j]! = d[j - 1]!) with h | h
            · exact h
            · exact absurd (.inr h) hk'
          rw [e]
          exact ih.2.2.2 (j - 1) (by omega)
theorem onceB_props (l : List (List UInt8)) : (onceB l).Nodup ∧ (onceB l).Pairwise (· ≤ ·) ∧ ∀ x, x ∈ onceB l ↔ x ∈ l := by
  have hs := sortB_sorted l
  have hd : ∀ i j, i ≤ j → j < (sortB l).toArray.size → (sortB l).toArray[i]! ≤ (sortB l).toArray[j]! := fun i j hij hj => by
    have hj' : j < (sortB l).length := by simpa using hj
    rw [getElem!_pos (sortB l).toArray i (by simp; omega), getElem!_pos (sortB l).toArray j (by simpa using hj')]
    rcases Nat.lt_or_eq_of_le hij with h | h
    · simpa using (List.pairwise_iff_getElem.1 hs) i j (by omega) hj' h
    · subst h; exact List.le_refl _
  have h := compB (sortB l).toArray hd (sortB l).length (by simp)
  refine ⟨h.1, h.2.1, fun x => ⟨fun hx => ?_, fun hx => ?_⟩⟩
  · obtain ⟨j, hj, e⟩ := h.2.2.1 x hx
    rw [getElem!_pos (sortB l).toArray j (by simpa using hj)] at e
    rw [← sortB_mem l, ← e]
    simp
  · rw [← sortB_mem l] at hx
    obtain ⟨j, hj, e⟩ := List.getElem_of_mem hx
    have := h.2.2.2 j hj
    rw [getElem!_pos (sortB l).toArray j (by simpa using hj)] at this
    simp [e] at this
    exact this
/-- Each once: in order, they are those of any list with the same members, each once. -/
theorem onceB_keys {l ks : List (List UInt8)} (hn : ks.Nodup) (hm : ∀ x, x ∈ l ↔ x ∈ ks) : onceB l = sortB ks := by
  obtain ⟨h1, h2, h3⟩ := onceB_props l
  refine sorted_one h2 (sortB_sorted ks) ?_
  refine ((List.perm_ext_iff_of_nodup h1 hn).2 fun x => ?_).trans (sortB_perm ks).symm
  rw [h3, hm]
end Go.Proofs.YtbaocnbppefciaaGreat
