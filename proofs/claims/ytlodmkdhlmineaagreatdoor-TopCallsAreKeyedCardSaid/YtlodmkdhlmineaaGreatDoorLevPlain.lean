/- Plain law of the least number of elements put in, taken out or replaced: row by row; what is mistaken is one element away. No program in sight, no condition. -/
import Derived.Test.YtlodmkdhlmineaaGreatDoorKeyB
import Derived.Test.YtlodmkdhlmineaaGreatDoorHearPlain
namespace Go.Proofs.YtlodmkdhlmineaaGreatDoor
set_option linter.unusedVariables false
set_option linter.unusedSimpArgs false

/-- The steps from the first i elements of one list to the first j of another one. -/
def lev (a b : List UInt8) (i j : Nat) : Nat :=
  if i = 0 then j else if j = 0 then i else min (min (lev a b (i - 1) j + 1) (lev a b i (j - 1) + 1)) (lev a b (i - 1) (j - 1) + if a.getD (i - 1) 0 = b.getD (j - 1) 0 then 0 else 1)
termination_by i + j
decreasing_by all_goals omega
theorem lev_0 (a b : List UInt8) (j : Nat) : lev a b 0 j = j := by rw [lev, if_pos rfl]
theorem lev_00 (a b : List UInt8) (i : Nat) : lev a b i 0 = i := by
  rw [lev]
  split
  · omega
  · rw [if_pos rfl]
def levC (a b : List UInt8) (i j : Nat) : Nat := if a.getD i 0 = b.getD j 0 then 0 else 1
theorem lev_1 (a b : List UInt8) (i j : Nat) : lev a b (i + 1) (j + 1) = min (min (lev a b i (j + 1) + 1) (lev a b (i + 1) j + 1)) (lev a b i j + levC a b i j) := by
  rw [lev, if_neg (by omega), if_neg (by omega)]
  rfl
theorem lev_le (a b : List UInt8) : ∀ n i j, i + j ≤ n → lev a b i j ≤ i + j := fun n => by
  induction n with
  | zero => intro i j h; obtain rfl : i = 0 := by omega
            rw [lev_0]; omega
  | succ n ih =>
    intro i j h
    cases i with
    | zero => rw [lev_0]; omega
    | succ i =>
      cases j with
      | zero => rw [lev_00]; omega
      | succ j =>
        rw [lev_1]
        have := ih i (j + 1) (by omega)
        omega
/-- The steps from one list to another one. -/
def levL (a b : List UInt8) : Nat := lev a b a.length b.length
theorem levL_le (a b : List UInt8) : levL a b ≤ a.length + b.length := lev_le a b _ _ _ (Nat.le_refl _)
/-- A row, reckoned out of the one before. -/
def nextR (c : UInt8) : List UInt8 → List Nat → Nat → List Nat
  | [], _, _ => []
  | x :: xs, r0 :: r1 :: rs, l => min (min (r1 + 1) (l + 1)) (r0 + if c = x then 0 else 1) :: nextR c xs (r1 :: rs) (min (min (r1 + 1) (l + 1)) (r0 + if c = x then 0 else 1))
  | _ :: _, _, _ => []
def rowsR (b : List UInt8) : List UInt8 → List Nat → Nat → List Nat
  | [], r, _ => r
  | c :: cs, r, i => rowsR b cs ((i + 1) :: nextR c b r (i + 1)) (i + 1)
def levR (a b : List UInt8) : Nat := (rowsR b a (List.range (b.length + 1)) 0).getD b.length 0
theorem nextR_is (a b : List UInt8) (i : Nat) : ∀ (d j : Nat) (xs : List UInt8), j + d = b.length → xs = b.drop j → nextR (a.getD i 0) xs ((List.range' j (d + 1)).map (lev a b i)) (lev a b (i + 1) j) = (List.range' (j + 1) d).map (lev a b (i + 1)) := fun d => by
  induction d with
  | zero =>
    intro j xs h hx
    have : xs = [] := by rw [hx, List.drop_of_length_le (by omega)]
    subst this
    rfl
  | succ d ih =>
    intro j xs h hx
    have hj : j < b.length := by omega
    have hxs : xs = b.getD j 0 :: b.drop (j + 1) := by
      rw [hx, List.drop_eq_getElem_cons hj, List.getD_eq_getElem?_getD, List.getElem?_eq_getElem hj]; rfl
    rw [hxs]
    simp only [List.range'_succ, List.map_cons]
    unfold nextR
    have e : min (min (lev a b i (j + 1) + 1) (lev a b (i + 1) j + 1)) (lev a b i j + if a.getD i 0 = b.getD j 0 then 0 else 1) = lev a b (i + 1) (j + 1) := (lev_1 a b i j).symm
    rw [e]
    congr 1
    have := ih (j + 1) (b.drop (j + 1)) (by omega) rfl
    simp only [List.range'_succ, List.map_cons] at this
    exact this
theorem rowsR_is (a b : List UInt8) : ∀ (d i : Nat) (cs : List UInt8), i + d = a.length → cs = a.drop i → rowsR b cs ((List.range' 0 (b.length + 1)).map (lev a b i)) i = (List.range' 0 (b.length + 1)).map (lev a b a.length) := fun d => by
  induction d with
  | zero =>
    intro i cs h hc
    have : cs = [] := by rw [hc, List.drop_of_length_le (by omega)]
    subst this
    rw [show i = a.length by omega]
    rfl
  | succ d ih =>
    intro i cs h hc
    have hi : i < a.length := by omega
    have hcs : cs = a.getD i 0 :: a.drop (i + 1) := by
      rw [hc, List.drop_eq_getElem_cons hi, List.getD_eq_getElem?_getD, List.getElem?_eq_getElem hi]; rfl
    rw [hcs]
    show rowsR b (a.drop (i + 1)) ((i + 1) :: nextR (a.getD i 0) b _ (i + 1)) (i + 1) = _
    have hn := nextR_is a b i b.length 0 b (by omega) rfl
    rw [lev_00] at hn
    rw [hn]
    have e : (i + 1) :: (List.range' (0 + 1) b.length).map (lev a b (i + 1)) = (List.range' 0 (b.length + 1)).map (lev a b (i + 1)) := by
      rw [List.range'_succ, List.map_cons, lev_00]
    rw [e]
    exact ih (i + 1) _ (by omega) rfl
/-- Reckoned row by row it is the same. -/
theorem levR_is (a b : List UInt8) : levR a b = levL a b := by
  unfold levR
  have h := rowsR_is a b a.length 0 a (by omega) rfl
  have e : (List.range' 0 (b.length + 1)).map (lev a b 0) = List.range (b.length + 1) := by
    rw [List.range_eq_range']
    exact (List.map_congr_left (fun j _ => lev_0 a b j)).trans (List.map_id _)
  rw [e] at h
  rw [h, List.getD_eq_getElem?_getD, List.getElem?_map, List.getElem?_range' (by omega)]
  simp [levL]
/-- The signs whose codes are one element away from a code. -/
def oneOff (c : UInt8) : List UInt8 := (codeT.filter fun p => decide (levL (codeOf c) p.2 = 1)).map (·.1)
theorem oneOff_r (c : UInt8) : oneOff c = (codeT.filter fun p => decide (levR (codeOf c) p.2 = 1)).map (·.1) := by
  unfold oneOff
  congr 1
  apply List.filter_congr
  intro p _
  rw [levR_is]
theorem oneOff_all : codeT.all (fun q => let l := (codeT.filter fun p => decide (levR (codeOf q.1) p.2 = 1)).map (·.1); (!l.isEmpty || q.1 == 63) && l.all (fun x => x != q.1)) = true := by decide +kernel
theorem codeOf_mem {c : UInt8} (h : codeOf c ≠ []) : ∃ p ∈ codeT, p.1 = c := by
  unfold codeOf at h
  cases hf : codeT.find? (fun p => p.1 == c) with
  | none => rw [hf] at h; exact absurd rfl h
  | some p => exact ⟨p, List.mem_of_find?_eq_some hf, by simpa using List.find?_some hf⟩
/-- Each sign but ? can be mistaken, and none for itself. -/
theorem oneOff_ok {c : UInt8} (h : codeOf c ≠ []) : (c ≠ 63 → oneOff c ≠ []) ∧ ∀ x ∈ oneOff c, x ≠ c := by
  obtain ⟨p, hp, rfl⟩ := codeOf_mem h
  have := List.all_eq_true.1 oneOff_all p hp
  simp only [Bool.and_eq_true, Bool.or_eq_true] at this
  rw [← oneOff_r] at this
  obtain ⟨h1, h2⟩ := this
  refine ⟨fun hq e => ?_, fun x hx => ?_⟩
  · rw [e] at h1
    rcases h1 with h1 | h1
    · simp at h1
    · exact hq (by simpa using h1)
  · have := List.all_eq_true.1 h2 x hx
    simpa using this
end Go.Proofs.YtlodmkdhlmineaaGreatDoor
