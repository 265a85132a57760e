/- The plain side of hearing marks: as how many units a mark or a gap is read, how far it is away, what is read, and the unit with the least deviation. No condition. -/
import Derived.Test.YtlodmkdhlmineaaGreatDoorKeyA
namespace Go.Proofs.YtlodmkdhlmineaaGreatDoor
set_option linter.unusedVariables false
set_option linter.unusedSimpArgs false

/-- How far a length is from so many units. -/
def dN (x u n : Int) : Int := max (x - n * u) (n * u - x)
def nearU (mark : Bool) (x u : Int) : Int :=
  if mark = false ∧ dN x u 7 < min (dN x u 1) (dN x u 3) then 7 else if dN x u 3 < dN x u 1 then 3 else 1
def nearO (mark : Bool) (x u : Int) : Int := if mark then min (dN x u 1) (dN x u 3) else min (min (dN x u 1) (dN x u 3)) (dN x u 7)
def markB (k : Nat) : Bool := decide (k % 2 = 0)
theorem nearU_cases (m : Bool) (x u : Int) : nearU m x u = 1 ∨ nearU m x u = 3 ∨ (nearU m x u = 7 ∧ m = false) := by
  unfold nearU
  split
  · rename_i h; exact .inr (.inr ⟨rfl, h.1⟩)
  · split
    · exact .inr (.inl rfl)
    · exact .inl rfl
theorem dN_bd {x u n : Int} (h0 : 0 ≤ x) (h1 : x ≤ 1000000) (u0 : 0 ≤ u) (u1 : u ≤ 100000) (n0 : 1 ≤ n) (n1 : n ≤ 7) : 0 ≤ dN x u n ∧ dN x u n ≤ 1000000 := by
  have h2 : u ≤ n * u := by have := Int.mul_le_mul_of_nonneg_right n0 u0; omega
  have h3 : n * u ≤ 7 * u := Int.mul_le_mul_of_nonneg_right n1 u0
  unfold dN
  omega
theorem nearO_bd {x u : Int} (m : Bool) (h0 : 0 ≤ x) (h1 : x ≤ 1000000) (u0 : 0 ≤ u) (u1 : u ≤ 100000) : 0 ≤ nearO m x u ∧ nearO m x u ≤ 1000000 := by
  have a := dN_bd h0 h1 u0 u1 (n := 1) (by decide) (by decide)
  have b := dN_bd h0 h1 u0 u1 (n := 3) (by decide) (by decide)
  have c := dN_bd h0 h1 u0 u1 (n := 7) (by decide) (by decide)
  unfold nearO
  split <;> omega

/-- How far the first so many are from a unit, together. -/
def offTo (l : List Int) (u : Int) : Nat → Int
  | 0 => 0
  | k + 1 => offTo l u k + nearO (markB k) (l.getD k 0) u
def offL (l : List Int) (u : Int) : Int := offTo l u l.length
theorem offTo_bd {l : List Int} {u : Int} (hl : ∀ x ∈ l, 0 ≤ x ∧ x ≤ 1000000) (u0 : 0 ≤ u) (u1 : u ≤ 100000) (k : Nat) : 0 ≤ offTo l u k ∧ offTo l u k ≤ 1000000 * (k : Int) := by
  induction k with
  | zero => exact ⟨by simp [offTo], by simp [offTo]⟩
  | succ k ih =>
    have hx : 0 ≤ l.getD k 0 ∧ l.getD k 0 ≤ 1000000 := by
      by_cases hk : k < l.length
      · rw [List.getD_eq_getElem?_getD, List.getElem?_eq_getElem hk]; exact hl _ (List.getElem_mem hk)
      · rw [List.getD_eq_getElem?_getD, List.getElem?_eq_none (by omega)]; exact ⟨by decide, by decide⟩
    have := nearO_bd (markB k) hx.1 hx.2 u0 u1
    unfold offTo
    push_cast
    omega

/-- The unit with the least deviation among the first so many: the greatest one. -/
def hearTo (l : List Int) : Nat → Int × Int
  | 0 => (0, 0)
  | k + 1 => if (hearTo l k).1 = 0 ∨ offL l ((k : Int) + 1) ≤ (hearTo l k).2 then ((k : Int) + 1, offL l ((k : Int) + 1)) else hearTo l k
theorem hearTo_ok (l : List Int) (k : Nat) : 0 < k → 1 ≤ (hearTo l k).1 ∧ (hearTo l k).1 ≤ (k : Int) ∧ (hearTo l k).2 = offL l (hearTo l k).1 ∧
    ∀ u : Int, 1 ≤ u → u ≤ (k : Int) → (hearTo l k).2 ≤ offL l u ∧ (offL l u = (hearTo l k).2 → u ≤ (hearTo l k).1) := by
  induction k with
  | zero => intro h; omega
  | succ k ih =>
    intro _
    unfold hearTo
    rcases Nat.eq_zero_or_pos k with h0 | h0
    · subst h0
      rw [if_pos (.inl rfl)]
      refine ⟨by simp, by simp, rfl, fun u h1 h2 => ?_⟩
      have : u = ((0 : Nat) : Int) + 1 := by push_cast at h2 ⊢; omega
      subst this
      exact ⟨Int.le_refl _, fun _ => Int.le_refl _⟩
    · obtain ⟨i1, i2, i3, i4⟩ := ih h0
      split
      · rename_i h
        have h' : offL l ((k : Int) + 1) ≤ (hearTo l k).2 := by
          rcases h with h | h
          · omega
          · exact h
        refine ⟨by simp; omega, by simp, rfl, fun u h1 h2 => ?_⟩
        push_cast at h2
        by_cases hu : u = (k : Int) + 1
        · subst hu; exact ⟨Int.le_refl _, fun _ => Int.le_refl _⟩
        · have := (i4 u h1 (by omega)).1
          exact ⟨by simp only; omega, fun _ => by simp only; omega⟩
      · rename_i h
        have h' : (hearTo l k).2 < offL l ((k : Int) + 1) := by omega
        refine ⟨i1, by push_cast; omega, i3, fun u h1 h2 => ?_⟩
        push_cast at h2
        by_cases hu : u = (k : Int) + 1
        · subst hu; exact ⟨by omega, fun e => by omega⟩
        · exact i4 u h1 (by omega)

/-- The sign of a code, or a star. -/
def signOfL (code : List UInt8) : List UInt8 := match codeT.find? (fun p => decide (p.2 = code)) with
  | some p => [p.1]
  | none => [42]
theorem signOfL_len (code : List UInt8) : (signOfL code).length = 1 := by unfold signOfL; split <;> rfl
/-- What is read of the first so many: the text, and the code that is open. -/
def readTo (l : List Int) (u : Int) : Nat → List UInt8 × List UInt8
  | 0 => ([], [])
  | k + 1 =>
    if markB k then (if nearU true (l.getD k 0) u = 1 then ((readTo l u k).1, (readTo l u k).2 ++ [46]) else ((readTo l u k).1, (readTo l u k).2 ++ [45]))
    else if nearU false (l.getD k 0) u = 3 then ((readTo l u k).1 ++ signOfL (readTo l u k).2, [])
    else if nearU false (l.getD k 0) u = 7 then ((readTo l u k).1 ++ signOfL (readTo l u k).2 ++ [32], [])
    else readTo l u k
def readL (l : List Int) (u : Int) : List UInt8 := (readTo l u l.length).1 ++ signOfL (readTo l u l.length).2
theorem readTo_len (l : List Int) (u : Int) (k : Nat) : (readTo l u k).1.length ≤ 2 * k ∧ (readTo l u k).2.length ≤ k := by
  induction k with
  | zero => exact ⟨Nat.le_refl _, Nat.le_refl _⟩
  | succ k ih =>
    unfold readTo
    have h1 := signOfL_len (readTo l u k).2
    (repeat' split) <;> (try simp) <;> omega
theorem readL_len (l : List Int) (u : Int) : (readL l u).length ≤ 2 * l.length + 1 := by
  have := readTo_len l u l.length
  have h1 := signOfL_len (readTo l u l.length).2
  unfold readL
  simp
  omega
end Go.Proofs.YtlodmkdhlmineaaGreatDoor
