/- Plain law: who operated made as many contacts as were made while they did; all together are no more than the contest. Condition: times and shifts without error. -/
import Derived.Test.YtnapbnkbchaanaaGreatDoorCounts
import Derived.Test.YtnapbnkbchaanaaGreatDoorFairest
namespace Go.Proofs.YtnapbnkbchaanaaGreatDoor
set_option linter.unusedVariables false

/-- How many contacts were made while somebody operated. -/
def ownS (sh : List (Int × ByteArray)) (ts : List Int) : Int := ((ts.countP fun t => !(whoS sh t).toList.isEmpty : Nat) : Int)
theorem ownS_nil (sh : List (Int × ByteArray)) : ownS sh [] = 0 := rfl
theorem ownS_snoc (sh : List (Int × ByteArray)) (ts : List Int) (t : Int) : ownS sh (ts ++ [t]) = ownS sh ts + if (whoS sh t).toList.isEmpty = false then 1 else 0 := by
  unfold ownS
  rw [List.countP_append, List.countP_singleton]
  cases h : (whoS sh t).toList.isEmpty <;> simp
theorem ownS_le (sh : List (Int × ByteArray)) (ts : List Int) : 0 ≤ ownS sh ts ∧ ownS sh ts ≤ ts.length := by
  unfold ownS
  have := List.countP_le_length (p := fun t => !(whoS sh t).toList.isEmpty) (l := ts)
  omega

theorem many_count (sh : List (Int × ByteArray)) (ts : List Int) (m : List (List UInt8 × Int)) (k : List UInt8) :
    valS (ts.foldl (fun m t => addS m (whoS sh t).data.toList 1) m) k = valS m k + ((ts.countP fun t => decide ((whoS sh t).data.toList = k) : Nat) : Int) := by
  induction ts generalizing m with
  | nil => simp
  | cons t r ih =>
    rw [List.foldl_cons, ih, valS_add, List.countP_cons]
    by_cases h : (whoS sh t).data.toList = k
    · subst h; simp; omega
    · have h' : ¬ k = (whoS sh t).data.toList := fun e => h e.symm
      simp [h, h']
theorem manyS_count (sh : List (Int × ByteArray)) (ts : List Int) (k : List UInt8) : valS (manyS sh ts) k = ((ts.countP fun t => decide ((whoS sh t).data.toList = k) : Nat) : Int) := by
  unfold manyS; rw [many_count]; simp [valS]

theorem one_of {ks : List (List UInt8)} (hn : ks.Nodup) (x : List UInt8) : (ks.map fun k => if x = k then (1 : Int) else 0).sum = if x ∈ ks then 1 else 0 := by
  induction ks with
  | nil => simp
  | cons k r ih =>
    obtain ⟨h1, h2⟩ := List.nodup_cons.1 hn
    rw [List.map_cons, List.sum_cons, ih h2]
    by_cases h : x = k
    · subst h; simp [h1]
    · simp [h]
theorem sum_add2 (f g : List UInt8 → Int) (l : List (List UInt8)) : (l.map fun k => f k + g k).sum = (l.map f).sum + (l.map g).sum := by
  induction l with
  | nil => rfl
  | cons k r ih => simp only [List.map_cons, List.sum_cons]; rw [ih]; omega
theorem sum_counts {ks : List (List UInt8)} (hn : ks.Nodup) (f : Int → List UInt8) (ts : List Int) :
    (ks.map fun k => ((ts.countP fun t => decide (f t = k) : Nat) : Int)).sum = ((ts.countP fun t => decide (f t ∈ ks) : Nat) : Int) := by
  induction ts with
  | nil =>
    have : ∀ l : List (List UInt8), (l.map fun k => (0 : Int)).sum = 0 := fun l => by induction l with
      | nil => rfl
      | cons k r ih => simp [ih]
    simpa using this ks
  | cons t r ih =>
    have e : (ks.map fun k => (((t :: r).countP fun t => decide (f t = k) : Nat) : Int)) = ks.map fun k => ((r.countP fun t => decide (f t = k) : Nat) : Int) + if f t = k then 1 else 0 := by
      apply List.map_congr_left
      intro k _
      rw [List.countP_cons]
      by_cases h : f t = k <;> simp [h]
    rw [e, sum_add2, ih, one_of hn, List.countP_cons]
    by_cases h : f t ∈ ks <;> simp [h]

theorem longsTo_mem (l : List (Int × ByteArray)) (a z : Int) (k : Nat) (q : List UInt8) :
    q ∈ (longsTo l a z k).map (·.1) ↔ ∃ i p, i < k ∧ l[i]? = some p ∧ 0 < overS l a z i p.1 ∧ p.2.toList.isEmpty = false ∧ p.2.data.toList = q := by
  induction k with
  | zero => simp [longsTo]
  | succ k ih =>
    unfold longsTo
    cases h : l[k]? with
    | none =>
      simp only
      rw [ih]
      constructor
      · rintro ⟨i, p, h1, h2⟩; exact ⟨i, p, by omega, h2⟩
      · rintro ⟨i, p, h1, h2, h3⟩
        have : i ≠ k := by rintro rfl; rw [h] at h2; cases h2
        exact ⟨i, p, by omega, h2, h3⟩
    | some x =>
      simp only
      by_cases hc : 0 < overS l a z k x.1 ∧ x.2.toList.isEmpty = false
      · rw [if_pos hc, ← hasS_mem, hasS_add, Bool.or_eq_true, hasS_mem, ih, decide_eq_true_iff]
        constructor
        · rintro (⟨i, p, h1, h2⟩ | h1)
          · exact ⟨i, p, by omega, h2⟩
          · exact ⟨k, x, by omega, h, hc.1, hc.2, h1⟩
        · rintro ⟨i, p, h1, h2, h3, h4, h5⟩
          rcases Nat.lt_succ_iff_lt_or_eq.1 h1 with h6 | rfl
          · exact .inl ⟨i, p, h6, h2, h3, h4, h5⟩
          · rw [h] at h2; injection h2 with e; subst e; exact .inr h5
      · rw [if_neg hc, ih]
        constructor
        · rintro ⟨i, p, h1, h2⟩; exact ⟨i, p, by omega, h2⟩
        · rintro ⟨i, p, h1, h2, h3, h4, h5⟩
          rcases Nat.lt_succ_iff_lt_or_eq.1 h1 with h6 | rfl
          · exact ⟨i, p, h6, h2, h3, h4, h5⟩
          · rw [h] at h2; injection h2 with e; subst e; exact absurd ⟨h3, h4⟩ hc
theorem longsTo_nodup (l : List (Int × ByteArray)) (a z : Int) (k : Nat) : ((longsTo l a z k).map (·.1)).Nodup := by
  induction k with
  | zero => simp [longsTo]
  | succ k ih =>
    unfold longsTo
    split
    · exact ih
    · split
      · exact nodup_add ih _ _
      · exact ih

theorem who_at (l : List (Int × ByteArray)) (t : Int) (k : Nat) (hk : k ≤ l.length) :
    whoS (l.take k) t = ⟨#[]⟩ ∨ ∃ i p, i < k ∧ l[i]? = some p ∧ p.1 ≤ t ∧ whoS (l.take k) t = p.2 ∧ ∀ q, i + 1 < k → l[i + 1]? = some q → t < q.1 := by
  induction k with
  | zero => exact .inl rfl
  | succ k ih =>
    have hlt : k < l.length := by omega
    rw [List.take_succ_eq_append_getElem hlt, whoS_snoc]
    by_cases h : l[k].1 ≤ t
    · rw [if_pos h]
      exact .inr ⟨k, l[k], by omega, List.getElem?_eq_getElem hlt, h, rfl, fun q h1 => by omega⟩
    · rw [if_neg h]
      rcases ih (by omega) with h1 | ⟨i, p, h1, h2, h3, h4, h5⟩
      · exact .inl h1
      · refine .inr ⟨i, p, by omega, h2, h3, h4, fun q h6 h7 => ?_⟩
        by_cases h8 : i + 1 < k
        · exact h5 q h8 h7
        · have : i + 1 = k := by omega
          rw [this, List.getElem?_eq_getElem hlt] at h7
          injection h7 with e
          rw [← e]; omega
theorem who_long (l : List (Int × ByteArray)) (a z t : Int) (h1 : a ≤ t) (h2 : t < z) (hz : z ≤ 345686400000) :
    (whoS l t).data.toList ∈ (longsTo l a z l.length).map (·.1) ↔ (whoS l t).toList.isEmpty = false := by
  constructor
  · intro h
    obtain ⟨i, p, _, _, _, h4, h5⟩ := (longsTo_mem _ _ _ _ _).1 h
    rw [ByteArray.toList_eq] at h4 ⊢
    rw [← h5]; exact h4
  · intro h
    have := who_at l t l.length (Nat.le_refl _)
    rw [List.take_length] at this
    rcases this with h3 | ⟨i, p, h3, h4, h5, h6, h7⟩
    · rw [h3, ByteArray.toList_eq] at h; simp at h
    · refine (longsTo_mem _ _ _ _ _).2 ⟨i, p, h3, h4, ?_, by rw [← h6]; exact h, by rw [h6]⟩
      have hn : t < nextS l i := by
        unfold nextS
        split
        · rename_i q hq
          have hi : i + 1 < l.length := by
            rcases Nat.lt_or_ge (i + 1) l.length with h | h
            · exact h
            · rw [List.getElem?_eq_none h] at hq; cases hq
          exact h7 q hi hq
        · omega
      unfold overS; omega

/-- The contacts of all who operated. -/
theorem many_own {ks : List (List UInt8)} (sh : List (Int × ByteArray)) (ts : List Int) (a z : Int) (hE : timesE ts a z = 0) (hk : ks.Perm ((longsTo sh a z sh.length).map (·.1))) :
    (ks.map (valS (manyS sh ts))).sum = ownS sh ts := by
  have O := timesE_ok hE
  have hz := O.to_
  rw [sum_perm (hk.map _)]
  rw [show (valS (manyS sh ts)) = fun k => ((ts.countP fun t => decide ((whoS sh t).data.toList = k) : Nat) : Int) from funext (manyS_count sh ts)]
  rw [sum_counts (longsTo_nodup _ _ _ _)]
  unfold ownS
  congr 1
  apply List.countP_congr
  intro t ht
  have := O.mem t ht
  have hw := who_long sh a z t this.1 this.2 (by omega)
  rw [decide_eq_true_iff, hw]
  simp

theorem from_next (l : List (Int × ByteArray)) (hO : ShOk l) (k : Nat) (h : k < l.length) : l[k].1 < nextS l k := by
  unfold nextS
  split
  · rename_i q hq
    have h1 : k + 1 < l.length := by
      rcases Nat.lt_or_ge (k + 1) l.length with h | h
      · exact h
      · rw [List.getElem?_eq_none h] at hq; cases hq
    rw [List.getElem?_eq_getElem h1] at hq
    injection hq with e
    rw [← e]
    exact List.pairwise_iff_getElem.1 hO.ord k (k + 1) h h1 (by omega)
  · have := hO.mom _ (List.getElem_mem h); omega
def fromS (l : List (Int × ByteArray)) (k : Nat) : Int := match l[k]? with
  | some p => p.1
  | none => 345686400000
theorem longs_sum (l : List (Int × ByteArray)) (a z : Int) (hO : ShOk l) (k : Nat) (hk : k ≤ l.length) : sumS (longsTo l a z k) ≤ max 0 (min (fromS l k) z - a) := by
  induction k with
  | zero => simp [longsTo, sumS]; omega
  | succ k ih =>
    have hlt : k < l.length := by omega
    have ih := ih (by omega)
    have hf : fromS l k = l[k].1 := by unfold fromS; rw [List.getElem?_eq_getElem hlt]
    have hn : fromS l (k + 1) = nextS l k := rfl
    have hx := from_next l hO k hlt
    rw [hf] at ih
    rw [hn]
    unfold longsTo
    rw [List.getElem?_eq_getElem hlt]
    simp only
    split
    · rename_i hc
      rw [sumS_add]
      have h1 := hc.1
      unfold overS at h1 ⊢
      omega
    · omega
theorem longs_le (l : List (Int × ByteArray)) (a z : Int) (hO : ShOk l) (haz : a ≤ z) : sumS (longsTo l a z l.length) ≤ z - a := by
  have := longs_sum l a z hO l.length (Nat.le_refl _)
  omega

theorem sum_le2 {f g : List UInt8 → Int} {l : List (List UInt8)} (h : ∀ k, f k ≤ g k) : (l.map f).sum ≤ (l.map g).sum := by
  induction l with
  | nil => simp
  | cons k r ih => simp only [List.map_cons, List.sum_cons]; have := h k; omega
theorem fair_le (l : List (List UInt8 × Int)) (hn : (l.map (·.1)).Nodup) (B : Int) (hB : 0 ≤ B) (h : ∀ p ∈ l, 0 ≤ p.2 ∧ p.2 ≤ B) : fairS l ≤ sumS l := by
  have hs0 : 0 ≤ sumS l := by
    rw [← sumS_keys l hn]
    exact sum_nonneg fun k => (valS_bd hB h k).1
  unfold fairS
  split
  · exact hs0
  · rename_i hne
    rw [← sumS_keys l hn]
    apply sum_le2
    intro k
    have hv := (valS_bd hB h k).1
    have hq : 0 ≤ sumS l / (l.length : Int) := Int.ediv_nonneg hs0 (by omega)
    rw [sumS_keys l hn]
    omega
end Go.Proofs.YtnapbnkbchaanaaGreatDoor
