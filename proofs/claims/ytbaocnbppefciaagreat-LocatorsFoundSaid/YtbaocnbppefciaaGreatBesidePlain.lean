/- Plain law: a locator is beside those that are beside it, eight of them away from the poles. No program in sight. -/
import Derived.Test.YtbaocnbppefciaaGreatLocPlain
import Derived.Test.YtbaocnbppefciaaGreatWayPlain
namespace Go.Proofs.YtbaocnbppefciaaGreat
set_option linter.unusedVariables false

/-- The three ways from a place: back, nowhere, on. -/
def stepI (h : Int) (j : Nat) : Int := if j = 0 then -h else if j = 1 then 0 else h
def besP (n e h wd : Int) (k : Nat) : Int × Int := (n + stepI h (k / 3), aroundI (e + stepI wd (k % 3)))
def besB (n h : Int) (k : Nat) : Bool := decide (k ≠ 4) && (decide (-324000 ≤ n + stepI h (k / 3)) && decide (n + stepI h (k / 3) ≤ 323999))
/-- The corners of the areas around one, the first so many of nine tries. -/
def besTo (n e h wd : Int) : Nat → List (Int × Int)
  | 0 => []
  | k + 1 => if besB n h k then besTo n e h wd k ++ [besP n e h wd k] else besTo n e h wd k
theorem besTo_few (n e h wd : Int) (k : Nat) : (besTo n e h wd k).length ≤ k := by
  induction k with
  | zero => simp [besTo]
  | succ k ih =>
    unfold besTo
    split
    · rw [List.length_append, List.length_singleton]; omega
    · omega
theorem besTo_mem (n e h wd : Int) (k : Nat) (p : Int × Int) : p ∈ besTo n e h wd k ↔ ∃ j, j < k ∧ besB n h j = true ∧ p = besP n e h wd j := by
  induction k with
  | zero => simp [besTo]
  | succ k ih =>
    unfold besTo
    split
    · rename_i hb
      rw [List.mem_append, ih, List.mem_singleton]
      constructor
      · rintro (⟨j, h1, h2, h3⟩ | h1)
        · exact ⟨j, by omega, h2, h3⟩
        · exact ⟨k, by omega, hb, h1⟩
      · rintro ⟨j, h1, h2, h3⟩
        rcases (by omega : j < k ∨ j = k) with h4 | h4
        · exact .inl ⟨j, h4, h2, h3⟩
        · subst h4; exact .inr h3
    · rename_i hb
      rw [ih]
      constructor
      · rintro ⟨j, h1, h2, h3⟩; exact ⟨j, by omega, h2, h3⟩
      · rintro ⟨j, h1, h2, h3⟩
        rcases (by omega : j < k ∨ j = k) with h4 | h4
        · exact ⟨j, h4, h2, h3⟩
        · subst h4; exact absurd h2 hb
theorem besTo_len (n e h wd : Int) (h0 : 0 < h) (n0 : -324000 ≤ n) (n1 : n ≤ 323999) (hb : -324000 ≤ n - h ∨ n + h ≤ 323999) : (besTo n e h wd 9).length = 8 ∨ (besTo n e h wd 9).length = 5 := by
  have b3 : besB n h 3 = true := by simp [besB, stepI]; omega
  have b4 : besB n h 4 = false := by simp [besB]
  have b5 : besB n h 5 = true := by simp [besB, stepI]; omega
  have l0 : besB n h 0 = decide (-324000 ≤ n - h) := by
    by_cases hh : -324000 ≤ n - h <;> simp [besB, stepI, hh] <;> omega
  have l1 : besB n h 1 = decide (-324000 ≤ n - h) := by
    by_cases hh : -324000 ≤ n - h <;> simp [besB, stepI, hh] <;> omega
  have l2 : besB n h 2 = decide (-324000 ≤ n - h) := by
    by_cases hh : -324000 ≤ n - h <;> simp [besB, stepI, hh] <;> omega
  have l6 : besB n h 6 = decide (n + h ≤ 323999) := by
    by_cases hh : n + h ≤ 323999 <;> simp [besB, stepI, hh] <;> omega
  have l7 : besB n h 7 = decide (n + h ≤ 323999) := by
    by_cases hh : n + h ≤ 323999 <;> simp [besB, stepI, hh] <;> omega
  have l8 : besB n h 8 = decide (n + h ≤ 323999) := by
    by_cases hh : n + h ≤ 323999 <;> simp [besB, stepI, hh] <;> omega
  simp only [besTo, b3, b4, b5, l0, l1, l2, l6, l7, l8]
  by_cases h1 : -324000 ≤ n - h <;> by_cases h2 : n + h ≤ 323999 <;> simp [h1, h2] <;> omega
/-- There and back. -/
theorem bes_back (n e h wd : Int) (k : Nat) (hk : k < 9) (n0 : -324000 ≤ n) (n1 : n ≤ 323999) (e0 : -648000 ≤ e) (e1 : e ≤ 647999) (hb : besB n h k = true) :
    (n, e) ∈ besTo (besP n e h wd k).1 (besP n e h wd k).2 h wd 9 := by
  rw [besTo_mem]
  have h4 : k ≠ 4 := by intro e; subst e; simp [besB] at hb
  refine ⟨8 - k, by omega, ?_, ?_⟩
  · have : n + stepI h (k / 3) + stepI h ((8 - k) / 3) = n := by
      unfold stepI
      rcases (by omega : k / 3 = 0 ∧ (8 - k) / 3 = 2 ∨ k / 3 = 1 ∧ (8 - k) / 3 = 1 ∨ k / 3 = 2 ∧ (8 - k) / 3 = 0) with ⟨a, b⟩ | ⟨a, b⟩ | ⟨a, b⟩ <;> rw [a, b] <;> simp <;> omega
    simp only [besB, besP, this]
    simp
    omega
  · have h1 : n + stepI h (k / 3) + stepI h ((8 - k) / 3) = n := by
      unfold stepI
      rcases (by omega : k / 3 = 0 ∧ (8 - k) / 3 = 2 ∨ k / 3 = 1 ∧ (8 - k) / 3 = 1 ∨ k / 3 = 2 ∧ (8 - k) / 3 = 0) with ⟨a, b⟩ | ⟨a, b⟩ | ⟨a, b⟩ <;> rw [a, b] <;> simp <;> omega
    have h2 : stepI wd ((8 - k) % 3) = - stepI wd (k % 3) := by
      unfold stepI
      rcases (by omega : k % 3 = 0 ∧ (8 - k) % 3 = 2 ∨ k % 3 = 1 ∧ (8 - k) % 3 = 1 ∨ k % 3 = 2 ∧ (8 - k) % 3 = 0) with ⟨a, b⟩ | ⟨a, b⟩ | ⟨a, b⟩ <;> rw [a, b] <;> simp
    simp only [besP]
    rw [h1, h2]
    congr 1
    generalize stepI wd (k % 3) = d
    unfold aroundI
    omega

/-- The low corner lies on the level's lines. -/
def Lined (m : Nat) (n e : Int) : Prop := (n + 324000) % lvHigh (m - 1) = 0 ∧ (e + 648000) % lvWide (m - 1) = 0
theorem low_lined (x : Nat → Int) (m : Nat) (hm0 : 0 < m) (hm : m ≤ 3) : Lined m (lowNo x m) (lowEa x m) := by
  unfold Lined
  rcases (by omega : m = 1 ∨ m = 2 ∨ m = 3) with rfl | rfl | rfl
  · simp [lowEa, lowNo, lvHigh, lvWide, lvFirst]; omega
  · simp [lowEa, lowNo, lvHigh, lvWide, lvFirst]; omega
  · simp [lowEa, lowNo, lvHigh, lvWide, lvFirst]; omega
theorem lined_step {m : Nat} (hm0 : 0 < m) (hm : m ≤ 3) {n e : Int} (h : Lined m n e) (k : Nat) : Lined m (besP n e (lvHigh (m - 1)) (lvWide (m - 1)) k).1 (besP n e (lvHigh (m - 1)) (lvWide (m - 1)) k).2 := by
  unfold Lined at h ⊢
  have hs : ∀ (d : Int) j, stepI d j = -d ∨ stepI d j = 0 ∨ stepI d j = d := fun d j => by
    unfold stepI
    split
    · exact .inl rfl
    · split
      · exact .inr (.inl rfl)
      · exact .inr (.inr rfl)
  have h1 := hs (lvHigh (m - 1)) (k / 3)
  have h2 := hs (lvWide (m - 1)) (k % 3)
  simp only [besP]
  generalize stepI (lvHigh (m - 1)) (k / 3) = d1 at *
  generalize stepI (lvWide (m - 1)) (k % 3) = d2 at *
  unfold aroundI
  rcases (by omega : m = 1 ∨ m = 2 ∨ m = 3) with rfl | rfl | rfl
  · simp [lvHigh, lvWide] at h h1 h2 ⊢; omega
  · simp [lvHigh, lvWide] at h h1 h2 ⊢; omega
  · simp [lvHigh, lvWide] at h h1 h2 ⊢; omega
/-- The low corner of a site on the lines is the site. -/
theorem low_own (n e : Int) (m : Nat) (hm0 : 0 < m) (hm : m ≤ 3) (n0 : -324000 ≤ n) (n1 : n ≤ 323999) (e0 : -648000 ≤ e) (e1 : e ≤ 647999) (h : Lined m n e) :
    lowNo (sgn (locL n e m)) m = n ∧ lowEa (sgn (locL n e m)) m = e := by
  obtain ⟨hok, h1, h2, h3, h4⟩ := locL_sgn n e m hm n0 (by omega) e0 e1 hm0
  obtain ⟨l1, l2⟩ := low_lined (sgn (locL n e m)) m hm0 hm
  have hmin : min (n + 324000) 647999 = n + 324000 := by omega
  rw [hmin] at h3 h4
  obtain ⟨g1, g2⟩ := h
  generalize lowNo (sgn (locL n e m)) m = a at *
  generalize lowEa (sgn (locL n e m)) m = b at *
  rcases (by omega : m = 1 ∨ m = 2 ∨ m = 3) with rfl | rfl | rfl
  · simp [lvHigh, lvWide] at l1 l2 g1 g2 h1 h2 h3 h4; omega
  · simp [lvHigh, lvWide] at l1 l2 g1 g2 h1 h2 h3 h4; omega
  · simp [lvHigh, lvWide] at l1 l2 g1 g2 h1 h2 h3 h4; omega
/-- A locator's low corner is a site that has the same locator. -/
theorem low_site (n e : Int) (m : Nat) (hm0 : 0 < m) (hm : m ≤ 3) (n0 : -324000 ≤ n) (n1 : n ≤ 324000) (e0 : -648000 ≤ e) (e1 : e ≤ 647999) :
    ∃ a b : Int, lowNo (sgn (locL n e m)) m = a ∧ lowEa (sgn (locL n e m)) m = b ∧ -324000 ≤ a ∧ a ≤ 323999 ∧ -648000 ≤ b ∧ b ≤ 647999 ∧ Lined m a b ∧ locL a b m = locL n e m ∧ (-324000 ≤ a - lvHigh (m - 1) ∨ a + lvHigh (m - 1) ≤ 323999) := by
  obtain ⟨hok, h1, h2, h3, h4⟩ := locL_sgn n e m hm n0 n1 e0 e1 hm0
  have hb := low_bd _ m hm hok m (Nat.le_refl _)
  have hb2 := hb.2.2 hm0
  obtain ⟨-, -, -, -, w0, w1, g0, g1, -⟩ := lv_bd (m - 1) (by omega)
  refine ⟨_, _, rfl, rfl, hb.2.1, by omega, hb.1, by omega, low_lined _ m hm0 hm, ?_, by omega⟩
  exact locL_same n e _ _ m hm n0 n1 e0 e1 hm0 (by omega) (by omega) (by omega) (by omega)
end Go.Proofs.YtbaocnbppefciaaGreat
