/- Plain law of the least number of elements put in, taken out or replaced: row by row; what is mistaken is one element away. No program in sight, no condition. Plain law of the steps between strings: they are as many there and back, none only to itself, one to a string with one other sign. No program in sight, no condition. -/
import Derived.Test.YtlodmkdhlmineaaGreatDoorKeyB
import Derived.Test.YtlodmkdhlmineaaGreatDoorHearPlain
namespace Go.Proofs.YtlodmkdhlmineaaGreatDoor
set_option linter.unusedVariables false
set_option linter.unusedSimpArgs false

/-- The steps from the first i elements of one list to the first j of another one. -/
def lev (a b : List UInt8) (i j : Nat) : Nat :=
  if i = 0 then j else if j = 0 then i else min (min (lev a b (i - 1) j + 1) (lev a b i (j - 1) + 1)) (lev a b (i - 1) (j - 1) + if a.getD (i - 1) 0 = b.getD (j - 1) 0 then 0 else 1)
termination_by i + j
decreasing_by all_goals omega
theorem lev_0 (a b : List UInt8) (j : Nat) : lev a b 0 j = j := by rw [lev, if_pos rfl]
theorem lev_00 (a b : List UInt8) (i : Nat) : lev a b i 0 = i := by
  rw [lev]
  split
  · omega
  · rw [if_pos rfl]
def levC (a b : List UInt8) (i j : Nat) : Nat := if a.getD i 0 = b.getD j 0 then 0 else 1
theorem lev_1 (a b : List UInt8) (i j : Nat) : lev a b (i + 1) (j + 1) = min (min (lev a b i (j + 1) + 1) (lev a b (i + 1) j + 1)) (lev a b i j + levC a b i j) := by
  rw [lev, if_neg (by omega), if_neg (by omega)]
  rfl
theorem lev_le (a b : List UInt8) : ∀ n i j, i + j ≤ n → lev a b i j ≤ i + j := fun n => by
  induction n with
  | zero => intro i j h; obtain rfl : i = 0 := by omega
            rw [lev_0]; omega
  | succ n ih =>
    intro i j h
    cases i with
    | zero => rw [lev_0]; omega
    | succ i =>
      cases j with
      | zero => rw [lev_00]; omega
      | succ j =>
        rw [lev_1]
        have := ih i (j + 1) (by omega)
        omega
/-- The steps from one list to another one. -/
def levL (a b : List UInt8) : Nat := lev a b a.length b.length
theorem levL_le (a b : List UInt8) : levL a b ≤ a.length + b.length := lev_le a b _ _ _ (Nat.le_refl _)
/-- A row, reckoned out of the one before. -/
def nextR (c : UInt8) : List UInt8 → List Nat → Nat → List Nat
  | [], _, _ => []
  | x :: xs, r0 :: r1 :: rs, l => min (min (r1 + 1) (l + 1)) (r0 + if c = x then 0 else 1) :: nextR c xs (r1 :: rs) (min (min (r1 + 1) (l + 1)) (r0 + if c = x then 0 else 1))
  | _ :: _, _, _ => []
def rowsR (b : List UInt8) : List UInt8 → List Nat → Nat → List Nat
  | [], r, _ => r
  | c :: cs, r, i => rowsR b cs ((i + 1) :: nextR c b r (i + 1)) (i + 1)
def levR (a b : List UInt8) : Nat := (rowsR b a (List.range (b.length + 1)) 0).getD b.length 0
theorem nextR_is (a b : List UInt8) (i : Nat) : ∀ (d j : Nat) (xs : List UInt8), j + d = b.length → xs = b.drop j → nextR (a.getD i 0) xs ((List.range' j (d + 1)).map (lev a b i)) (lev a b (i + 1) j) = (List.range' (j + 1) d).map (lev a b (i + 1)) := fun d => by
  induction d with
  | zero =>
    intro j xs h hx
    have : xs = [] := by rw [hx, List.drop_of_length_le (by omega)]
    subst this
    rfl
  | succ d ih =>
    intro j xs h hx
    have hj : j < b.length := by omega
    have hxs : xs = b.getD j 0 :: b.drop (j + 1) := by
      rw [hx, List.drop_eq_getElem_cons hj, List.getD_eq_getElem?_getD, List.getElem?_eq_getElem hj]; rfl
    rw [hxs]
    simp only [List.range'_succ, List.map_cons]
    unfold nextR
    have e : min (min (lev a b i (j + 1) + 1) (lev a b (i + 1) j + 1)) (lev a b i j + if a.getD i 0 = b.getD j 0 then 0 else 1) = lev a b (i + 1) (j + 1) := (lev_1 a b i j).symm
    rw [e]
    congr 1
    have := ih (j + 1) (b.drop (j + 1)) (by omega) rfl
    simp only [List.range'_succ, List.map_cons] at this
    exact this
theorem rowsR_is (a b : List UInt8) : ∀ (d i : Nat) (cs : List UInt8), i + d = a.length → cs = a.drop i → rowsR b cs ((List.range' 0 (b.length + 1)).map (lev a b i)) i = (List.range' 0 (b.length + 1)).map (lev a b a.length) := fun d => by
  induction d with
  | zero =>
    intro i cs h hc
    have : cs = [] := by rw [hc, List.drop_of_length_le (by omega)]
    subst this
    rw [show i = a.length by omega]
    rfl
  | succ d ih =>
    intro i cs h hc
    have hi : i < a.length := by omega
    have hcs : cs = a.getD i 0 :: a.drop (i + 1) := by
      rw [hc, List.drop_eq_getElem_cons hi, List.getD_eq_getElem?_getD, List.getElem?_eq_getElem hi]; rfl
    rw [hcs]
    show rowsR b (a.drop (i + 1)) ((i + 1) :: nextR (a.getD i 0) b _ (i + 1)) (i + 1) = _
    have hn := nextR_is a b i b.length 0 b (by omega) rfl
    rw [lev_00] at hn
    rw [hn]
    have e : (i + 1) :: (List.range' (0 + 1) b.length).map (lev a b (i + 1)) = (List.range' 0 (b.length + 1)).map (lev a b (i + 1)) := by
      rw [List.range'_succ, List.map_cons, lev_00]
    rw [e]
    exact ih (i + 1) _ (by omega) rfl
/-- Reckoned row by row it is the same. -/
theorem levR_is (a b : List UInt8) : levR a b = levL a b := by
  unfold levR
  have h := rowsR_is a b a.length 0 a (by omega) rfl
  have e : (List.range' 0 (b.length + 1)).map (lev a b 0) = List.range (b.length + 1) := by
    rw [List.range_eq_range']
    exact (List.map_congr_left (fun j _ => lev_0 a b j)).trans (List.map_id _)
  rw [e] at h
  rw [h, List.getD_eq_getElem?_getD, List.getElem?_map, List.getElem?_range' (by omega)]
  simp [levL]
/-- The signs whose codes are one element away from a code. -/
def oneOff (c : UInt8) : List UInt8 := (codeT.filter fun p => decide (levL (codeOf c) p.2 = 1)).map (·.1)
theorem oneOff_r (c : UInt8) : oneOff c = (codeT.filter fun p => decide (levR (codeOf c) p.2 = 1)).map (·.1) := by
  unfold oneOff
  congr 1
  apply List.filter_congr
  intro p _
  rw [levR_is]
theorem oneOff_all : codeT.all (fun q => let l := (codeT.filter fun p => decide (levR (codeOf q.1) p.2 = 1)).map (·.1); (!l.isEmpty || q.1 == 63) && l.all (fun x => x != q.1)) = true := by decide +kernel
theorem codeOf_mem {c : UInt8} (h : codeOf c ≠ []) : ∃ p ∈ codeT, p.1 = c := by
  unfold codeOf at h
  cases hf : codeT.find? (fun p => p.1 == c) with
  | none => rw [hf] at h; exact absurd rfl h
  | some p => exact ⟨p, List.mem_of_find?_eq_some hf, by simpa using List.find?_some hf⟩
/-- Each sign but ? can be mistaken, and none for itself. -/
theorem oneOff_ok {c : UInt8} (h : codeOf c ≠ []) : (c ≠ 63 → oneOff c ≠ []) ∧ ∀ x ∈ oneOff c, x ≠ c := by
  obtain ⟨p, hp, rfl⟩ := codeOf_mem h
  have := List.all_eq_true.1 oneOff_all p hp
  simp only [Bool.and_eq_true, Bool.or_eq_true] at this
  rw [← oneOff_r] at this
  obtain ⟨h1, h2⟩ := this
  refine ⟨fun hq e => ?_, fun x hx => ?_⟩
  · rw [e] at h1
    rcases h1 with h1 | h1
    · simp at h1
    · exact hq (by simpa using h1)
  · have := List.all_eq_true.1 h2 x hx
    simpa using this
end Go.Proofs.YtlodmkdhlmineaaGreatDoor

namespace Go.Proofs.YtlodmkdhlmineaaGreatDoor
set_option linter.unusedVariables false
set_option linter.unusedSimpArgs false

/-- The steps between the first i signs of one list and the first j of another one. -/
def osa (a b : List UInt8) (i j : Nat) : Nat :=
  if i = 0 then j else if j = 0 then i else
    if 1 < i ∧ 1 < j ∧ a.getD (i - 1) 0 = b.getD (j - 2) 0 ∧ a.getD (i - 2) 0 = b.getD (j - 1) 0 then
      min (min (min (osa a b (i - 1) j + 1) (osa a b i (j - 1) + 1)) (osa a b (i - 1) (j - 1) + if a.getD (i - 1) 0 = b.getD (j - 1) 0 then 0 else 1)) (osa a b (i - 2) (j - 2) + 1)
    else min (min (osa a b (i - 1) j + 1) (osa a b i (j - 1) + 1)) (osa a b (i - 1) (j - 1) + if a.getD (i - 1) 0 = b.getD (j - 1) 0 then 0 else 1)
termination_by i + j
decreasing_by all_goals omega
theorem osa_0 (a b : List UInt8) (j : Nat) : osa a b 0 j = j := by rw [osa, if_pos rfl]
theorem osa_00 (a b : List UInt8) (i : Nat) : osa a b i 0 = i := by
  rw [osa]
  split
  · omega
  · rw [if_pos rfl]
/-- The cost of one sign in another one's place. -/
def osC (a b : List UInt8) (i j : Nat) : Nat := if a.getD i 0 = b.getD j 0 then 0 else 1
/-- Three ways to the pair (i + 1, j + 1). -/
def os3 (a b : List UInt8) (i j : Nat) : Nat := min (min (osa a b i (j + 1) + 1) (osa a b (i + 1) j + 1)) (osa a b i j + osC a b i j)
/-- Are the last two signs exchanged? -/
def osX (a b : List UInt8) (i j : Nat) : Bool := decide (1 ≤ i) && decide (1 ≤ j) && decide (a.getD i 0 = b.getD (j - 1) 0) && decide (a.getD (i - 1) 0 = b.getD j 0)
theorem osX_is (a b : List UInt8) (i j : Nat) : osX a b i j = true ↔ 1 ≤ i ∧ 1 ≤ j ∧ a.getD i 0 = b.getD (j - 1) 0 ∧ a.getD (i - 1) 0 = b.getD j 0 := by
  unfold osX; simp [and_assoc]
theorem osa_1 (a b : List UInt8) (i j : Nat) : osa a b (i + 1) (j + 1) = if osX a b i j = true then min (os3 a b i j) (osa a b (i - 1) (j - 1) + 1) else os3 a b i j := by
  rw [osa, if_neg (by omega), if_neg (by omega)]
  unfold os3 osC
  by_cases h : osX a b i j = true
  · rw [if_pos h]
    obtain ⟨h1, h2, h3, h4⟩ := (osX_is a b i j).1 h
    rw [if_pos ⟨by omega, by omega, by rw [Nat.add_sub_cancel]; exact h3, by rw [Nat.add_sub_cancel]; exact h4⟩]
    rfl
  · rw [if_neg h, if_neg]
    · rfl
    · rintro ⟨h1, h2, h3, h4⟩
      refine h ((osX_is a b i j).2 ⟨by omega, by omega, ?_, ?_⟩)
      · rw [Nat.add_sub_cancel] at h3; exact h3
      · rw [Nat.add_sub_cancel] at h4; exact h4
theorem osa_ind {P : Nat → Nat → Prop} (h0 : ∀ j, P 0 j) (h1 : ∀ i, P i 0) (h : ∀ i j, P i (j + 1) → P (i + 1) j → P i j → P (i - 1) (j - 1) → P (i + 1) (j + 1)) : ∀ i j, P i j := by
  have key : ∀ n i j, i + j ≤ n → P i j := fun n => by
    induction n with
    | zero => intro i j hn; obtain rfl : i = 0 := by omega
              exact h0 j
    | succ n ih =>
      intro i j hn
      cases i with
      | zero => exact h0 j
      | succ i =>
        cases j with
        | zero => exact h1 _
        | succ j => exact h i j (ih _ _ (by omega)) (ih _ _ (by omega)) (ih _ _ (by omega)) (ih _ _ (by omega))
  exact fun i j => key _ i j (Nat.le_refl _)
theorem osC_symm (a b : List UInt8) (i j : Nat) : osC a b i j = osC b a j i := by
  unfold osC
  by_cases h : a.getD i 0 = b.getD j 0
  · rw [if_pos h, if_pos h.symm]
  · rw [if_neg h, if_neg (fun e => h e.symm)]
theorem osX_symm (a b : List UInt8) (i j : Nat) : osX a b i j = osX b a j i := by
  rw [Bool.eq_iff_iff, osX_is, osX_is]
  constructor
  · rintro ⟨h1, h2, h3, h4⟩; exact ⟨h2, h1, h4.symm, h3.symm⟩
  · rintro ⟨h1, h2, h3, h4⟩; exact ⟨h2, h1, h4.symm, h3.symm⟩
theorem osa_symm (a b : List UInt8) : ∀ i j, osa a b i j = osa b a j i := by
  refine osa_ind (P := fun i j => osa a b i j = osa b a j i) (fun j => by rw [osa_0, osa_00]) (fun i => by rw [osa_0, osa_00]) ?_
  intro i j h1 h2 h3 h4
  rw [osa_1, osa_1, osX_symm a b i j]
  have e : os3 a b i j = os3 b a j i := by
    unfold os3
    rw [h1, h2, h3, osC_symm a b i j]
    omega
  rw [e, h4]
theorem osa_le (a b : List UInt8) : ∀ i j, osa a b i j ≤ i + j := by
  refine osa_ind (P := fun i j => osa a b i j ≤ i + j) (fun j => by rw [osa_0]; omega) (fun i => by rw [osa_00]; omega) ?_
  intro i j h1 h2 h3 h4
  rw [osa_1]
  have : os3 a b i j ≤ i + 1 + (j + 1) := by unfold os3; omega
  split <;> omega
theorem osa_zero (a b : List UInt8) : ∀ i j, osa a b i j = 0 → i = j ∧ ∀ k, k < i → a.getD k 0 = b.getD k 0 := by
  refine osa_ind (P := fun i j => osa a b i j = 0 → i = j ∧ ∀ k, k < i → a.getD k 0 = b.getD k 0) (fun j h => by rw [osa_0] at h; exact ⟨h.symm, fun k hk => absurd hk (by omega)⟩)
    (fun i h => by rw [osa_00] at h; exact ⟨h, fun k hk => absurd hk (by omega)⟩) ?_
  intro i j h1 h2 h3 h4 h
  rw [osa_1] at h
  have h5 : os3 a b i j = 0 := by split at h <;> omega
  unfold os3 at h5
  have h6 : osa a b i j = 0 := by omega
  have h7 : osC a b i j = 0 := by omega
  obtain ⟨rfl, h8⟩ := h3 h6
  refine ⟨rfl, fun k hk => ?_⟩
  by_cases e : k = i
  · subst e
    unfold osC at h7
    by_cases hh : a.getD k 0 = b.getD k 0
    · exact hh
    · rw [if_neg hh] at h7; omega
  · exact h8 k (by omega)
theorem osa_self (a : List UInt8) : ∀ i, osa a a i i = 0 := fun i => by
  induction i with
  | zero => rw [osa_0]
  | succ i ih =>
    rw [osa_1]
    have : os3 a a i i = 0 := by unfold os3 osC; rw [ih, if_pos rfl]; omega
    split <;> omega
/-- How many of the first signs differ. -/
def hamm (a b : List UInt8) : Nat → Nat
  | 0 => 0
  | k + 1 => hamm a b k + osC a b k k
theorem osa_hamm (a b : List UInt8) : ∀ i, osa a b i i ≤ hamm a b i := fun i => by
  induction i with
  | zero => rw [osa_0]; exact Nat.le_refl _
  | succ i ih =>
    rw [osa_1]
    have : os3 a b i i ≤ hamm a b (i + 1) := by unfold os3 hamm; omega
    split <;> omega
/-- The steps between two lists. -/
def stepsL (a b : List UInt8) : Nat := osa a b a.length b.length
theorem stepsL_symm (a b : List UInt8) : stepsL a b = stepsL b a := osa_symm a b _ _
theorem stepsL_le (a b : List UInt8) : stepsL a b ≤ a.length + b.length := osa_le a b _ _
theorem stepsL_zero (a b : List UInt8) : stepsL a b = 0 ↔ a = b := by
  constructor
  · intro h
    obtain ⟨h1, h2⟩ := osa_zero a b _ _ h
    apply List.ext_getElem h1
    intro k hk hk2
    have := h2 k hk
    rw [List.getD_eq_getElem?_getD, List.getD_eq_getElem?_getD, List.getElem?_eq_getElem hk, List.getElem?_eq_getElem hk2] at this
    exact this
  · rintro rfl; exact osa_self a _
/-- One other sign: one step. -/
theorem stepsL_one (l r : List UInt8) {x y : UInt8} (h : x ≠ y) : stepsL (l ++ x :: r) (l ++ y :: r) = 1 := by
  have hne : l ++ x :: r ≠ l ++ y :: r := by
    intro e
    have := List.append_cancel_left e
    injection this with h1 h2
    exact h h1
  have h0 : stepsL (l ++ x :: r) (l ++ y :: r) ≠ 0 := fun e => hne ((stepsL_zero _ _).1 e)
  have hh : ∀ k, hamm (l ++ x :: r) (l ++ y :: r) k ≤ if l.length < k then 1 else 0 := fun k => by
    induction k with
    | zero => simp [hamm]
    | succ k ih =>
      unfold hamm osC
      by_cases hk : k = l.length
      · rw [if_neg (by omega)] at ih
        rw [if_pos (show l.length < k + 1 by omega)]
        split <;> omega
      · have e : (l ++ x :: r).getD k 0 = (l ++ y :: r).getD k 0 := by
          rw [List.getD_eq_getElem?_getD, List.getD_eq_getElem?_getD]
          by_cases hk2 : k < l.length
          · rw [List.getElem?_append_left hk2, List.getElem?_append_left hk2]
          · rw [List.getElem?_append_right (by omega), List.getElem?_append_right (by omega)]
            obtain ⟨m, hm⟩ : ∃ m, k - l.length = m + 1 := ⟨k - l.length - 1, by omega⟩
            rw [hm]; rfl
        rw [if_pos e]
        by_cases h2 : l.length < k
        · rw [if_pos h2] at ih; rw [if_pos (by omega)]; omega
        · rw [if_neg h2] at ih; rw [if_neg (by omega)]; omega
  have hl : (l ++ x :: r).length = (l ++ y :: r).length := by simp
  have h1 : stepsL (l ++ x :: r) (l ++ y :: r) ≤ 1 := by
    unfold stepsL
    rw [← hl]
    refine Nat.le_trans (osa_hamm _ _ _) (Nat.le_trans (hh _) ?_)
    split <;> omega
  omega
end Go.Proofs.YtlodmkdhlmineaaGreatDoor
