/- Plain words for the bytes of a call sign: letters, digits, where the last digit is, a base call, a begin, what stands behind a slash. No program in sight. -/
import Derived.Test.YtjhklpffmfdkbaaGreatDoorBase
namespace Go.Proofs.YtjhklpffmfdkbaaGreatDoor
set_option linter.unusedVariables false

def dgB (c : UInt8) : Bool := decide (48 ≤ c.toNat) && decide (c.toNat ≤ 57)
def ltB (c : UInt8) : Bool := decide (97 ≤ c.toNat) && decide (c.toNat ≤ 122)
def plB (c : UInt8) : Bool := ltB c || dgB c
def plainL (l : List UInt8) : Bool := l.all plB
def lettN (l : List UInt8) : Nat := l.countP ltB

theorem plainL_snoc (l : List UInt8) (c : UInt8) : plainL (l ++ [c]) = (plainL l && plB c) := by simp [plainL]
theorem lettN_snoc (l : List UInt8) (c : UInt8) : lettN (l ++ [c]) = lettN l + if ltB c then 1 else 0 := by
  unfold lettN; rw [List.countP_append]; cases h : ltB c <;> simp [h]
theorem lettN_le (l : List UInt8) : lettN l ≤ l.length := List.countP_le_length

/-- Where the last byte is that is so; -1: none is. -/
def lastP (p : UInt8 → Bool) : List UInt8 → Int
  | [] => -1
  | c :: r => if 0 ≤ lastP p r then lastP p r + 1 else if p c then 0 else -1
theorem lastP_bd (p : UInt8 → Bool) (l : List UInt8) : -1 ≤ lastP p l ∧ lastP p l < l.length := by
  induction l with
  | nil => simp [lastP]
  | cons c r ih =>
    simp only [lastP, List.length_cons]
    split
    · omega
    · split <;> omega
theorem lastP_none (p : UInt8 → Bool) (l : List UInt8) (h : ∀ j (hj : j < l.length), p l[j] = false) : lastP p l = -1 := by
  induction l with
  | nil => rfl
  | cons c r ih =>
    have h0 := h 0 (by simp)
    have ih' := ih (fun j hj => by have := h (j + 1) (by simp; omega); simpa using this)
    simp only [List.getElem_cons_zero] at h0
    simp [lastP, ih', h0]
theorem lastP_at (p : UInt8 → Bool) (l : List UInt8) (k : Nat) (hk : k < l.length) (h0 : p l[k] = true) (h : ∀ j (hj : j < l.length), k < j → p l[j] = false) : lastP p l = k := by
  induction l generalizing k with
  | nil => simp at hk
  | cons c r ih =>
    cases k with
    | zero =>
      have hr : lastP p r = -1 := lastP_none p r (fun j hj => by have := h (j + 1) (by simp; omega) (by omega); simpa using this)
      simp only [List.getElem_cons_zero] at h0
      simp [lastP, hr, h0]
    | succ k =>
      have hr := ih k (by simpa using hk) (by simpa using h0) (fun j hj hkj => by have := h (j + 1) (by simp; omega) (by omega); simpa using this)
      simp only [lastP, hr]
      rw [if_pos (by omega)]
      omega
theorem lastP_is (p : UInt8 → Bool) (l : List UInt8) (h : 0 ≤ lastP p l) : ∃ k, ∃ hk : k < l.length, lastP p l = (k : Int) ∧ p l[k] = true := by
  induction l with
  | nil => simp [lastP] at h
  | cons c r ih =>
    simp only [lastP] at h ⊢
    split
    · rename_i h1
      obtain ⟨k, hk, he, hp⟩ := ih h1
      exact ⟨k + 1, by simpa using hk, by omega, by simpa using hp⟩
    · rename_i h1
      rw [if_neg h1] at h
      split
      · rename_i h2; exact ⟨0, by simp, rfl, by simpa using h2⟩
      · rename_i h2; rw [if_neg h2] at h; omega

/-- Where the last digit of a base call is; -1: it is none. -/
def baseI (l : List UInt8) : Int :=
  let d := lastP dgB l
  if plainL l = true ∧ l.length ≤ 10 ∧ 1 ≤ d ∧ d ≤ 3 ∧ 1 ≤ (l.length : Int) - d - 1 ∧ (l.length : Int) - d - 1 ≤ 4 ∧ 0 < lettN (l.take d.toNat) then d else -1
def beginB (l : List UInt8) : Bool := plainL l && decide (0 < lettN l) && decide (l.length ≤ 4)

theorem baseI_cases (l : List UInt8) : baseI l = -1 ∨ (baseI l = lastP dgB l ∧ plainL l = true ∧ l.length ≤ 10 ∧ 1 ≤ baseI l ∧ baseI l ≤ 3 ∧ 1 ≤ (l.length : Int) - baseI l - 1 ∧ (l.length : Int) - baseI l - 1 ≤ 4 ∧ 0 < lettN (l.take (baseI l).toNat)) := by
  by_cases h : plainL l = true ∧ l.length ≤ 10 ∧ 1 ≤ lastP dgB l ∧ lastP dgB l ≤ 3 ∧ 1 ≤ (l.length : Int) - lastP dgB l - 1 ∧ (l.length : Int) - lastP dgB l - 1 ≤ 4 ∧ 0 < lettN (l.take (lastP dgB l).toNat)
  · have e : baseI l = lastP dgB l := by unfold baseI; exact if_pos h
    rw [e]
    exact .inr ⟨rfl, h⟩
  · exact .inl (by unfold baseI; exact if_neg h)
theorem baseI_no (l : List UInt8) (h : ¬ (plainL l = true ∧ l.length ≤ 10 ∧ 1 ≤ lastP dgB l ∧ lastP dgB l ≤ 3 ∧ 1 ≤ (l.length : Int) - lastP dgB l - 1 ∧ (l.length : Int) - lastP dgB l - 1 ≤ 4 ∧ 0 < lettN (l.take (lastP dgB l).toNat))) : baseI l = -1 := by
  unfold baseI; exact if_neg h
theorem baseI_yes (l : List UInt8) (h : plainL l = true ∧ l.length ≤ 10 ∧ 1 ≤ lastP dgB l ∧ lastP dgB l ≤ 3 ∧ 1 ≤ (l.length : Int) - lastP dgB l - 1 ∧ (l.length : Int) - lastP dgB l - 1 ≤ 4 ∧ 0 < lettN (l.take (lastP dgB l).toNat)) : baseI l = lastP dgB l := by
  unfold baseI; exact if_pos h

/-- What something behind a base call is (0: nothing that can be), and whether it is told. -/
def tailK (l : List UInt8) : Int :=
  if l = [112] then 3 else if l = [109] then 4 else if l = [109, 109] then 5 else if l = [97, 109] then 6
  else if l.length = 1 ∧ l.all dgB = true then 2 else if beginB l then 1 else 0
end Go.Proofs.YtjhklpffmfdkbaaGreatDoor
