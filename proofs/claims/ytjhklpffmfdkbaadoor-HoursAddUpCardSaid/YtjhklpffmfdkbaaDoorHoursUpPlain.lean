/- Plain law: the hours add up to all, and no stretch has more than the best one. Condition: sorted times. -/
import Derived.Test.YtjhklpffmfdkbaaDoorRateHours
import Derived.Test.YtjhklpffmfdkbaaDoorKeyUnits
namespace Go.Proofs.YtjhklpffmfdkbaaDoor
set_option linter.unusedVariables false

theorem countP_split (p q : Int → Bool) (l : List Int) (h : ∀ x, ¬ (p x = true ∧ q x = true)) : l.countP (fun x => p x || q x) = l.countP p + l.countP q := by
  induction l with
  | nil => rfl
  | cons x r ih =>
    rw [List.countP_cons, List.countP_cons, List.countP_cons, ih]
    have := h x
    cases hp : p x <;> cases hq : q x <;> simp_all <;> omega
theorem hist_sumN (a : Int) (l : List Int) : ∀ N : Nat, (hist a N l).sum = ((l.countP (fun x => decide (0 ≤ (x - a) / 3600000 ∧ (x - a) / 3600000 < (N : Int))) : Nat) : Int)
  | 0 => by
    have : l.countP (fun x => decide (0 ≤ (x - a) / 3600000 ∧ (x - a) / 3600000 < ((0 : Nat) : Int))) = 0 := by
      rw [List.countP_eq_zero]
      intro x _
      simp
    rw [this]
    simp [hist]
  | N + 1 => by
    have ih := hist_sumN a l N
    unfold hist at ih ⊢
    rw [List.range_succ, List.map_append, List.sum_append, ih]
    have e := countP_split (fun x => decide (0 ≤ (x - a) / 3600000 ∧ (x - a) / 3600000 < (N : Int))) (hourIs a N) l (fun x => by
      unfold hourIs
      simp
      omega)
    have e2 : l.countP (fun x => decide (0 ≤ (x - a) / 3600000 ∧ (x - a) / 3600000 < ((N + 1 : Nat) : Int))) = l.countP (fun x => (decide (0 ≤ (x - a) / 3600000 ∧ (x - a) / 3600000 < (N : Int))) || hourIs a N x) := by
      apply List.countP_congr
      intro x _
      unfold hourIs
      simp
      omega
    rw [e2, e]
    simp
theorem hist_sum (a : Int) (N : Nat) (l : List Int) (h : ∀ x ∈ l, 0 ≤ (x - a) / 3600000 ∧ (x - a) / 3600000 < (N : Int)) : (hist a N l).sum = l.length := by
  rw [hist_sumN]
  congr 1
  rw [List.countP_eq_length]
  intro x hx
  have := h x hx
  simp
  omega

/-- What is known of the best stretch, of the contacts that were looked at. -/
theorem best_inv (l : List Int) (a long : Int) : ∀ (r : List Int) (st : Int × Int), st.2 = manyI l st.1 (st.1 + long) → (st.1 = a ∨ st.1 ∈ l) → (∀ x ∈ r, x ∈ l) →
    (r.foldl (bestStep l long) st).2 = manyI l (r.foldl (bestStep l long) st).1 ((r.foldl (bestStep l long) st).1 + long) ∧ ((r.foldl (bestStep l long) st).1 = a ∨ (r.foldl (bestStep l long) st).1 ∈ l) ∧
    st.2 ≤ (r.foldl (bestStep l long) st).2 ∧ ∀ x ∈ r, manyI l x (x + long) ≤ (r.foldl (bestStep l long) st).2
  | [], st, h1, h2, _ => ⟨h1, h2, Int.le_refl _, by simp⟩
  | y :: r, st, h1, h2, h3 => by
    rw [List.foldl_cons]
    by_cases hc : st.2 < manyI l y (y + long)
    · have e : bestStep l long st y = (y, manyI l y (y + long)) := by unfold bestStep; rw [if_pos hc]
      rw [e]
      obtain ⟨i1, i2, i3, i4⟩ := best_inv l a long r (y, manyI l y (y + long)) rfl (.inr (h3 y (by simp))) (fun x hx => h3 x (by simp [hx]))
      refine ⟨i1, i2, by simp only at i3; omega, fun x hx => ?_⟩
      rcases List.mem_cons.1 hx with rfl | hx
      · exact i3
      · exact i4 x hx
    · have e : bestStep l long st y = st := by unfold bestStep; rw [if_neg hc]
      rw [e]
      obtain ⟨i1, i2, i3, i4⟩ := best_inv l a long r st h1 h2 (fun x hx => h3 x (by simp [hx]))
      refine ⟨i1, i2, i3, fun x hx => ?_⟩
      rcases List.mem_cons.1 hx with rfl | hx
      · omega
      · exact i4 x hx
theorem best_own (l : List Int) (a long : Int) : manyI l (bestI l a long).1 ((bestI l a long).1 + long) = (bestI l a long).2 ∧ ((bestI l a long).1 = a ∨ (bestI l a long).1 ∈ l) := by
  have h := best_inv l a long l (a, manyI l a (a + long)) rfl (.inl rfl) (fun x hx => hx)
  exact ⟨h.1.symm, h.2.1⟩
theorem best_most (l : List Int) (a long f : Int) (hs : l.Pairwise (· ≤ ·)) : manyI l f (f + long) ≤ (bestI l a long).2 := by
  have h := best_inv l a long l (a, manyI l a (a + long)) rfl (.inl rfl) (fun x hx => hx)
  cases hf : l.find? (fun x => hasB f (f + long) x) with
  | none =>
    have h0 : manyI l f (f + long) = 0 := by
      unfold manyI
      have : l.countP (fun x => hasB f (f + long) x) = 0 := by
        rw [List.countP_eq_zero]
        exact List.find?_eq_none.1 hf
      rw [this]
      rfl
    have h1 := manyI_bd l (bestI l a long).1 ((bestI l a long).1 + long)
    have h2 := (best_own l a long).1
    omega
  | some x =>
    obtain ⟨hx, l1, l2, hl, has⟩ := List.find?_eq_some_iff_append.1 hf
    have hxl : x ∈ l := by rw [hl]; simp
    have hle : manyI l f (f + long) ≤ manyI l x (x + long) := by
      unfold manyI
      have : l.countP (fun y => hasB f (f + long) y) ≤ l.countP (fun y => hasB x (x + long) y) := by
        apply List.countP_mono_left
        intro y hy hb
        have hxy : x ≤ y := by
          rw [hl] at hy hs
          rcases List.mem_append.1 hy with h | h
          · have := has y h
            rw [hb] at this
            cases this
          · rcases List.mem_cons.1 h with rfl | h
            · exact Int.le_refl _
            · exact (List.pairwise_cons.1 (List.pairwise_append.1 hs).2.1).1 y h
        simp [hasB] at hb hx ⊢
        omega
      omega
    exact Int.le_trans hle (h.2.2.2 x hxl)
end Go.Proofs.YtjhklpffmfdkbaaDoor
