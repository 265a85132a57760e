/- Plain law of the steps between strings, read from behind: as many as from the front; how the reference counts them. No program in sight, no condition. -/
import Derived.Test.YtlodmkdhlmineaaGreatDoorStepsP
namespace Go.Proofs.YtlodmkdhlmineaaGreatDoor
set_option linter.unusedVariables false
set_option linter.unusedSimpArgs false

/-- One step of an alignment, or two equal signs. -/
inductive AlB : List UInt8 → List UInt8 → Nat → Prop
  | ins (y : UInt8) : AlB [] [y] 1
  | del (x : UInt8) : AlB [x] [] 1
  | sub (x y : UInt8) : AlB [x] [y] (if x = y then 0 else 1)
  | swp (x y : UInt8) : AlB [x, y] [y, x] 1
inductive Al : List UInt8 → List UInt8 → Nat → Prop
  | nil : Al [] [] 0
  | snoc {a b u v : List UInt8} {n c : Nat} : Al a b n → AlB u v c → Al (a ++ u) (b ++ v) (n + c)
theorem Al.cons {a b u v : List UInt8} {n c : Nat} (h : AlB u v c) (k : Al a b n) : Al (u ++ a) (v ++ b) (c + n) := by
  induction k with
  | nil =>
    have := Al.snoc Al.nil h
    rw [List.nil_append, List.nil_append, Nat.zero_add] at this
    rw [List.append_nil, List.append_nil, Nat.add_zero]
    exact this
  | snoc k1 k2 ih =>
    have := Al.snoc ih k2
    rw [List.append_assoc, List.append_assoc, Nat.add_assoc] at this
    exact this
theorem AlB.rev {u v : List UInt8} {c : Nat} (h : AlB u v c) : AlB u.reverse v.reverse c := by
  cases h with
  | ins y => exact AlB.ins y
  | del x => exact AlB.del x
  | sub x y => exact AlB.sub x y
  | swp x y => exact AlB.swp y x
theorem Al.rev {a b : List UInt8} {n : Nat} (h : Al a b n) : Al a.reverse b.reverse n := by
  induction h with
  | nil => exact Al.nil
  | snoc k1 k2 ih =>
    rw [List.reverse_append, List.reverse_append, Nat.add_comm]
    exact Al.cons k2.rev ih
theorem take_snocRv (a : List UInt8) {i : Nat} (h : i < a.length) : a.take (i + 1) = a.take i ++ [a.getD i 0] := by
  rw [List.take_succ_eq_append_getElem h, List.getD_eq_getElem?_getD, List.getElem?_eq_getElem h]; rfl
theorem take_snoc2Rv (a : List UInt8) {i : Nat} (h0 : 1 ≤ i) (h : i < a.length) : a.take (i + 1) = a.take (i - 1) ++ [a.getD (i - 1) 0, a.getD i 0] := by
  obtain ⟨j, rfl⟩ : ∃ j, i = j + 1 := ⟨i - 1, by omega⟩
  rw [take_snocRv a h, take_snocRv a (by omega), List.append_assoc, Nat.add_sub_cancel]; rfl
theorem Al.take (a b : List UInt8) : ∀ i j, i ≤ a.length → j ≤ b.length → Al (a.take i) (b.take j) (osa a b i j) := by
  refine osa_ind (P := fun i j => i ≤ a.length → j ≤ b.length → Al (a.take i) (b.take j) (osa a b i j)) ?_ ?_ ?_
  · intro j _ hj
    rw [osa_0]
    induction j with
    | zero => exact Al.nil
    | succ j ih =>
      have := Al.snoc (ih (by omega)) (AlB.ins (b.getD j 0))
      rw [take_snocRv b (by omega)]
      simpa using this
  · intro i hi _
    rw [osa_00]
    induction i with
    | zero => exact Al.nil
    | succ i ih =>
      have := Al.snoc (ih (by omega)) (AlB.del (a.getD i 0))
      rw [take_snocRv a (by omega)]
      simpa using this
  · intro i j h1 h2 h3 h4 hi hj
    have k1 : Al (a.take (i + 1)) (b.take (j + 1)) (osa a b i (j + 1) + 1) := by
      have := Al.snoc (h1 (by omega) hj) (AlB.del (a.getD i 0))
      rw [List.append_nil, ← take_snocRv a (by omega)] at this
      exact this
    have k2 : Al (a.take (i + 1)) (b.take (j + 1)) (osa a b (i + 1) j + 1) := by
      have := Al.snoc (h2 hi (by omega)) (AlB.ins (b.getD j 0))
      rw [List.append_nil, ← take_snocRv b (by omega)] at this
      exact this
    have k3 : Al (a.take (i + 1)) (b.take (j + 1)) (osa a b i j + osC a b i j) := by
      have := Al.snoc (h3 (by omega) (by omega)) (AlB.sub (a.getD i 0) (b.getD j 0))
      rw [← take_snocRv a (by omega), ← take_snocRv b (by omega)] at this
      exact this
    have k5 : Al (a.take (i + 1)) (b.take (j + 1)) (os3 a b i j) := by
      unfold os3
      rcases Nat.le_total (osa a b i (j + 1) + 1) (osa a b (i + 1) j + 1) with e | e
      · rw [Nat.min_eq_left e]
        rcases Nat.le_total (osa a b i (j + 1) + 1) (osa a b i j + osC a b i j) with e2 | e2
        · rw [Nat.min_eq_left e2]; exact k1
        · rw [Nat.min_eq_right e2]; exact k3
      · rw [Nat.min_eq_right e]
        rcases Nat.le_total (osa a b (i + 1) j + 1) (osa a b i j + osC a b i j) with e2 | e2
        · rw [Nat.min_eq_left e2]; exact k2
        · rw [Nat.min_eq_right e2]; exact k3
    rw [osa_1]
    by_cases hx : osX a b i j = true
    · rw [if_pos hx]
      obtain ⟨x1, x2, x3, x4⟩ := (osX_is a b i j).1 hx
      have k4 : Al (a.take (i + 1)) (b.take (j + 1)) (osa a b (i - 1) (j - 1) + 1) := by
        have := Al.snoc (h4 (by omega) (by omega)) (AlB.swp (a.getD (i - 1) 0) (a.getD i 0))
        rw [← take_snoc2Rv a x1 (by omega)] at this
        rw [x3, x4, ← take_snoc2Rv b x2 (by omega)] at this
        exact this
      rcases Nat.le_total (os3 a b i j) (osa a b (i - 1) (j - 1) + 1) with e | e
      · rw [Nat.min_eq_left e]; exact k5
      · rw [Nat.min_eq_right e]; exact k4
    · rw [if_neg hx]; exact k5
theorem osa_del (a b : List UInt8) (i j : Nat) : osa a b (i + 1) j ≤ osa a b i j + 1 := by
  cases j with
  | zero => rw [osa_00, osa_00]; exact Nat.le_refl _
  | succ j =>
    rw [osa_1]
    have : os3 a b i j ≤ osa a b i (j + 1) + 1 := by unfold os3; omega
    split <;> omega
theorem osa_ins (a b : List UInt8) (i j : Nat) : osa a b i (j + 1) ≤ osa a b i j + 1 := by
  cases i with
  | zero => rw [osa_0, osa_0]; exact Nat.le_refl _
  | succ i =>
    rw [osa_1]
    have : os3 a b i j ≤ osa a b (i + 1) j + 1 := by unfold os3; omega
    split <;> omega
theorem osa_sub (a b : List UInt8) (i j : Nat) : osa a b (i + 1) (j + 1) ≤ osa a b i j + osC a b i j := by
  rw [osa_1]
  have : os3 a b i j ≤ osa a b i j + osC a b i j := by unfold os3; omega
  split <;> omega
theorem osa_swp (a b : List UInt8) (i j : Nat) (h1 : a.getD (i + 1) 0 = b.getD j 0) (h2 : a.getD i 0 = b.getD (j + 1) 0) : osa a b (i + 2) (j + 2) ≤ osa a b i j + 1 := by
  rw [osa_1, if_pos ((osX_is a b (i + 1) (j + 1)).2 ⟨by omega, by omega, by rw [Nat.add_sub_cancel]; exact h1, by rw [Nat.add_sub_cancel]; exact h2⟩)]
  simp only [Nat.add_sub_cancel]
  omega
theorem getD_appRv (a x : List UInt8) {i : Nat} (h : i < a.length) : (a ++ x).getD i 0 = a.getD i 0 := by
  rw [List.getD_eq_getElem?_getD, List.getD_eq_getElem?_getD, List.getElem?_append_left h]
theorem getD_behindRv (a x : List UInt8) (k : Nat) : (a ++ x).getD (a.length + k) 0 = x.getD k 0 := by
  rw [List.getD_eq_getElem?_getD, List.getD_eq_getElem?_getD, List.getElem?_append_right (by omega), Nat.add_sub_cancel_left]
/-- The first signs alone count. -/
theorem osa_local (a b x y : List UInt8) : ∀ i j, i ≤ a.length → j ≤ b.length → osa (a ++ x) (b ++ y) i j = osa a b i j := by
  refine osa_ind (P := fun i j => i ≤ a.length → j ≤ b.length → osa (a ++ x) (b ++ y) i j = osa a b i j) (fun j _ _ => by rw [osa_0, osa_0]) (fun i _ _ => by rw [osa_00, osa_00]) ?_
  intro i j h1 h2 h3 h4 hi hj
  have e1 : osX (a ++ x) (b ++ y) i j = osX a b i j := by
    unfold osX
    rw [getD_appRv a x (i := i) (by omega), getD_appRv b y (i := j) (by omega), getD_appRv a x (i := i - 1) (by omega), getD_appRv b y (i := j - 1) (by omega)]
  have e2 : os3 (a ++ x) (b ++ y) i j = os3 a b i j := by
    unfold os3 osC
    rw [h1 (by omega) hj, h2 hi (by omega), h3 (by omega) (by omega), getD_appRv a x (by omega), getD_appRv b y (by omega)]
  rw [osa_1, osa_1, e1, e2, h4 (by omega) (by omega)]
theorem Al.ge {a b : List UInt8} {n : Nat} (h : Al a b n) : stepsL a b ≤ n := by
  induction h with
  | nil => exact Nat.le_of_eq ((stepsL_zero [] []).2 rfl)
  | @snoc a b u v n c k1 k2 ih =>
    refine Nat.le_trans ?_ (Nat.add_le_add_right ih c)
    unfold stepsL
    have e := osa_local a b u v _ _ (Nat.le_refl a.length) (Nat.le_refl b.length)
    rw [← e]
    cases k2 with
    | ins y => simp only [List.append_nil, List.length_append, List.length_cons, List.length_nil]; exact osa_ins _ _ _ _
    | del x => simp only [List.append_nil, List.length_append, List.length_cons, List.length_nil]; exact osa_del _ _ _ _
    | sub x y =>
      simp only [List.length_append, List.length_cons, List.length_nil]
      refine Nat.le_trans (osa_sub _ _ _ _) ?_
      unfold osC
      rw [show (a ++ [x]).getD a.length 0 = x from getD_behindRv a [x] 0, show (b ++ [y]).getD b.length 0 = y from getD_behindRv b [y] 0]
      exact Nat.le_refl _
    | swp x y =>
      simp only [List.length_append, List.length_cons, List.length_nil]
      refine osa_swp _ _ _ _ ?_ ?_
      · rw [show (a ++ [x, y]).getD (a.length + 1) 0 = y from getD_behindRv a [x, y] 1, show (b ++ [y, x]).getD b.length 0 = y from getD_behindRv b [y, x] 0]
      · rw [show (a ++ [x, y]).getD a.length 0 = x from getD_behindRv a [x, y] 0, show (b ++ [y, x]).getD (b.length + 1) 0 = x from getD_behindRv b [y, x] 1]
theorem stepsL_al (a b : List UInt8) : Al a b (stepsL a b) := by
  have h := Al.take a b _ _ (Nat.le_refl a.length) (Nat.le_refl b.length)
  rw [List.take_length, List.take_length] at h
  exact h
theorem stepsL_rev (a b : List UInt8) : stepsL a.reverse b.reverse = stepsL a b := by
  apply Nat.le_antisymm
  · exact (stepsL_al a b).rev.ge
  · have h := (stepsL_al a.reverse b.reverse).rev.ge
    rwa [List.reverse_reverse, List.reverse_reverse] at h

/-- The steps between what is behind two places. -/
def sfx (a b : List UInt8) (i k : Nat) : Nat := osa a.reverse b.reverse (a.length - i) (b.length - k)
theorem sfx_00 (a b : List UInt8) : sfx a b 0 0 = stepsL a b := by
  rw [← stepsL_rev]
  unfold sfx stepsL
  rw [List.length_reverse, List.length_reverse]; rfl
theorem sfx_end (a b : List UInt8) (i k : Nat) (h : i = a.length ∨ k = b.length) (hi : i ≤ a.length) (hk : k ≤ b.length) : sfx a b i k = (a.length - i) + (b.length - k) := by
  unfold sfx
  rcases h with rfl | rfl
  · rw [Nat.sub_self, osa_0]; omega
  · rw [Nat.sub_self, osa_00]; omega
theorem getD_revRv (a : List UInt8) {i : Nat} (h : i < a.length) : a.reverse.getD (a.length - i - 1) 0 = a.getD i 0 := by
  rw [List.getD_eq_getElem?_getD, List.getD_eq_getElem?_getD, List.getElem?_reverse (by omega)]
  rw [show a.length - 1 - (a.length - i - 1) = i by omega]
/-- How the reference counts. -/
theorem sfx_step (a b : List UInt8) {i k : Nat} (hi : i < a.length) (hk : k < b.length) :
    sfx a b i k = (let n := min (min (sfx a b (i + 1) k) (sfx a b i (k + 1))) (sfx a b (i + 1) (k + 1)) + 1
      let n1 := if a.getD i 0 = b.getD k 0 then min n (sfx a b (i + 1) (k + 1)) else n
      if i + 1 < a.length ∧ k + 1 < b.length ∧ a.getD i 0 = b.getD (k + 1) 0 ∧ a.getD (i + 1) 0 = b.getD k 0 then min n1 (sfx a b (i + 2) (k + 2) + 1) else n1) := by
  unfold sfx
  obtain ⟨p, hp⟩ : ∃ p, a.length - i = p + 1 := ⟨a.length - i - 1, by omega⟩
  obtain ⟨q, hq⟩ : ∃ q, b.length - k = q + 1 := ⟨b.length - k - 1, by omega⟩
  have e1 : a.length - (i + 1) = p := by omega
  have e2 : b.length - (k + 1) = q := by omega
  have e3 : a.length - (i + 2) = p - 1 := by omega
  have e4 : b.length - (k + 2) = q - 1 := by omega
  rw [hp, hq, e1, e2, e3, e4, osa_1]
  have g1 : a.reverse.getD p 0 = a.getD i 0 := by have := getD_revRv a hi; rwa [show a.length - i - 1 = p by omega] at this
  have g2 : b.reverse.getD q 0 = b.getD k 0 := by have := getD_revRv b hk; rwa [show b.length - k - 1 = q by omega] at this
  have hx : osX a.reverse b.reverse p q = true ↔ i + 1 < a.length ∧ k + 1 < b.length ∧ a.getD i 0 = b.getD (k + 1) 0 ∧ a.getD (i + 1) 0 = b.getD k 0 := by
    rw [osX_is]
    constructor
    · rintro ⟨h1, h2, h3, h4⟩
      have i1 : i + 1 < a.length := by omega
      have k1 : k + 1 < b.length := by omega
      have g3 : a.reverse.getD (p - 1) 0 = a.getD (i + 1) 0 := by have := getD_revRv a i1; rwa [show a.length - (i + 1) - 1 = p - 1 by omega] at this
      have g4 : b.reverse.getD (q - 1) 0 = b.getD (k + 1) 0 := by have := getD_revRv b k1; rwa [show b.length - (k + 1) - 1 = q - 1 by omega] at this
      exact ⟨i1, k1, by rw [← g1, ← g4]; exact h3, by rw [← g3, ← g2]; exact h4⟩
    · rintro ⟨i1, k1, h3, h4⟩
      have g3 : a.reverse.getD (p - 1) 0 = a.getD (i + 1) 0 := by have := getD_revRv a i1; rwa [show a.length - (i + 1) - 1 = p - 1 by omega] at this
      have g4 : b.reverse.getD (q - 1) 0 = b.getD (k + 1) 0 := by have := getD_revRv b k1; rwa [show b.length - (k + 1) - 1 = q - 1 by omega] at this
      exact ⟨by omega, by omega, by rw [g1, g4]; exact h3, by rw [g3, g2]; exact h4⟩
  have h3 : os3 a.reverse b.reverse p q = (if a.getD i 0 = b.getD k 0 then min (min (min (osa a.reverse b.reverse p (q + 1)) (osa a.reverse b.reverse (p + 1) q)) (osa a.reverse b.reverse p q) + 1) (osa a.reverse b.reverse p q) else min (min (osa a.reverse b.reverse p (q + 1)) (osa a.reverse b.reverse (p + 1) q)) (osa a.reverse b.reverse p q) + 1) := by
    unfold os3 osC
    rw [g1, g2]
    by_cases h : a.getD i 0 = b.getD k 0
    · rw [if_pos h, if_pos h]; omega
    · rw [if_neg h, if_neg h]; omega
  rw [h3]
  by_cases h : osX a.reverse b.reverse p q = true
  · rw [if_pos h]
    have h' := hx.1 h
    simp only []
    rw [if_pos h']
  · rw [if_neg h]
    have h' := fun e => h (hx.2 e)
    simp only []
    rw [if_neg h']
end Go.Proofs.YtlodmkdhlmineaaGreatDoor
