/- Plain words for locators: how the world is cut, the signs of a site, the area of signs. No program in sight. -/
import Derived.Test.YtbaocnbppefciaaGreatFaults
namespace Go.Proofs.YtbaocnbppefciaaGreat
set_option linter.unusedVariables false

def lvMany (j : Nat) : Int := if j = 0 then 18 else if j = 1 then 10 else 24
def lvFirst (j : Nat) : Int := if j = 1 then 48 else 97
def lvWide (j : Nat) : Int := if j = 0 then 72000 else if j = 1 then 7200 else 300
def lvHigh (j : Nat) : Int := if j = 0 then 36000 else if j = 1 then 3600 else 150
/-- How wide the world, or an area of the level before, is. -/
def lvAll (j : Nat) : Int := if j = 0 then 1296000 else if j = 1 then 72000 else 7200
def lvTall (j : Nat) : Int := if j = 0 then 648000 else if j = 1 then 36000 else 3600
theorem lv_bd (j : Nat) (h : j < 3) : 10 ≤ lvMany j ∧ lvMany j ≤ 24 ∧ 48 ≤ lvFirst j ∧ lvFirst j ≤ 97 ∧ 300 ≤ lvWide j ∧ lvWide j ≤ 72000 ∧ 150 ≤ lvHigh j ∧ lvHigh j ≤ 36000 ∧ lvAll j = lvMany j * lvWide j ∧ lvTall j = lvMany j * lvHigh j := by
  rcases (by omega : j = 0 ∨ j = 1 ∨ j = 2) with rfl | rfl | rfl <;> decide
/-- The signs of a site, from a level on: so many levels. -/
def locFrom (j : Nat) : Nat → Int → Int → List Int
  | 0, _, _ => []
  | m + 1, e, n => (lvFirst j + e / lvWide j) :: (lvFirst j + n / lvHigh j) :: locFrom (j + 1) m (e % lvWide j) (n % lvHigh j)
theorem locFrom_len (j m : Nat) (e n : Int) : (locFrom j m e n).length = 2 * m := by
  induction m generalizing j e n with
  | zero => rfl
  | succ m ih => simp only [locFrom, List.length_cons, ih]; omega
def locL (n e : Int) (m : Nat) : List Int := locFrom 0 m (e + 648000) (min (n + 324000) 647999)
theorem quo_lv (j : Nat) (h : j < 3) {e : Int} (h0 : 0 ≤ e) (h1 : e < lvAll j) : 0 ≤ e / lvWide j ∧ e / lvWide j < lvMany j ∧ 0 ≤ e % lvWide j ∧ (j < 2 → e % lvWide j < lvAll (j + 1)) := by
  rcases (by omega : j = 0 ∨ j = 1 ∨ j = 2) with rfl | rfl | rfl <;> simp only [lvAll, lvWide, lvMany] at h1 ⊢ <;> simp at h1 ⊢ <;> omega
theorem quo_tall (j : Nat) (h : j < 3) {e : Int} (h0 : 0 ≤ e) (h1 : e < lvTall j) : 0 ≤ e / lvHigh j ∧ e / lvHigh j < lvMany j ∧ 0 ≤ e % lvHigh j ∧ (j < 2 → e % lvHigh j < lvTall (j + 1)) := by
  rcases (by omega : j = 0 ∨ j = 1 ∨ j = 2) with rfl | rfl | rfl <;> simp only [lvTall, lvHigh, lvMany] at h1 ⊢ <;> simp at h1 ⊢ <;> omega
/-- The low corner of the area of signs. -/
def lowEa (x : Nat → Int) : Nat → Int
  | 0 => -648000
  | j + 1 => lowEa x j + (x (2 * j) - lvFirst j) * lvWide j
def lowNo (x : Nat → Int) : Nat → Int
  | 0 => -324000
  | j + 1 => lowNo x j + (x (2 * j + 1) - lvFirst j) * lvHigh j
/-- All signs are right. -/
def LocOk (x : Nat → Int) (m : Nat) : Prop := ∀ j, j < m → lvFirst j ≤ x (2 * j) ∧ x (2 * j) < lvFirst j + lvMany j ∧ lvFirst j ≤ x (2 * j + 1) ∧ x (2 * j + 1) < lvFirst j + lvMany j
theorem low_bd (x : Nat → Int) (m : Nat) (hm : m ≤ 3) (h : LocOk x m) : ∀ j, j ≤ m → -648000 ≤ lowEa x j ∧ -324000 ≤ lowNo x j ∧ (0 < j → lowEa x j + lvWide (j - 1) ≤ 648000 ∧ lowNo x j + lvHigh (j - 1) ≤ 324000) := by
  intro j hj
  have h0 := fun (hh : 0 < m) => h 0 hh
  have h1 := fun (hh : 1 < m) => h 1 hh
  have h2 := fun (hh : 2 < m) => h 2 hh
  rcases (by omega : j = 0 ∨ j = 1 ∨ j = 2 ∨ j = 3) with rfl | rfl | rfl | rfl
  · simp [lowEa, lowNo]
  · have a := h0 (by omega)
    simp [lvFirst, lvMany] at a
    simp [lowEa, lowNo, lvFirst, lvWide, lvHigh]
    omega
  · have a := h0 (by omega)
    have b := h1 (by omega)
    simp [lvFirst, lvMany] at a b
    simp [lowEa, lowNo, lvFirst, lvWide, lvHigh]
    omega
  · have a := h0 (by omega)
    have b := h1 (by omega)
    have c := h2 (by omega)
    simp [lvFirst, lvMany] at a b c
    simp [lowEa, lowNo, lvFirst, lvWide, lvHigh]
    omega
/-- The signs of a site as a function. -/
def sgn (l : List Int) (i : Nat) : Int := l.getD i 0
theorem locL_sgn (n e : Int) (m : Nat) (hm : m ≤ 3) (n0 : -324000 ≤ n) (n1 : n ≤ 324000) (e0 : -648000 ≤ e) (e1 : e ≤ 647999) (hm1 : 0 < m) :
    LocOk (sgn (locL n e m)) m ∧ lowEa (sgn (locL n e m)) m ≤ e ∧ e < lowEa (sgn (locL n e m)) m + lvWide (m - 1) ∧ lowNo (sgn (locL n e m)) m ≤ min (n + 324000) 647999 - 324000 ∧ min (n + 324000) 647999 - 324000 < lowNo (sgn (locL n e m)) m + lvHigh (m - 1) := by
  obtain ⟨E, hE⟩ : ∃ E, e + 648000 = E := ⟨_, rfl⟩
  obtain ⟨N, hN⟩ : ∃ N, min (n + 324000) 647999 = N := ⟨_, rfl⟩
  have hE0 : 0 ≤ E ∧ E < 1296000 := by omega
  have hN0 : 0 ≤ N ∧ N < 648000 := by omega
  unfold locL
  rw [hE, hN]
  obtain rfl : e = E - 648000 := by omega
  clear hE hN
  rcases (by omega : m = 1 ∨ m = 2 ∨ m = 3) with rfl | rfl | rfl
  · refine ⟨fun j hj => ?_, ?_⟩
    · obtain rfl : j = 0 := by omega
      simp [sgn, locFrom, lvFirst, lvWide, lvHigh, lvMany]; omega
    · simp [sgn, locFrom, lowEa, lowNo, lvFirst, lvWide, lvHigh]; omega
  · refine ⟨fun j hj => ?_, ?_⟩
    · rcases (by omega : j = 0 ∨ j = 1) with rfl | rfl <;> simp [sgn, locFrom, lvFirst, lvWide, lvHigh, lvMany] <;> omega
    · simp [sgn, locFrom, lowEa, lowNo, lvFirst, lvWide, lvHigh]; omega
  · refine ⟨fun j hj => ?_, ?_⟩
    · rcases (by omega : j = 0 ∨ j = 1 ∨ j = 2) with rfl | rfl | rfl <;> simp [sgn, locFrom, lvFirst, lvWide, lvHigh, lvMany] <;> omega
    · simp [sgn, locFrom, lowEa, lowNo, lvFirst, lvWide, lvHigh]; omega
/-- A site in the area of a site's signs has the same signs. -/
theorem locL_same (n e n2 e2 : Int) (m : Nat) (hm : m ≤ 3) (n0 : -324000 ≤ n) (n1 : n ≤ 324000) (e0 : -648000 ≤ e) (e1 : e ≤ 647999) (hm1 : 0 < m)
    (a0 : lowEa (sgn (locL n e m)) m ≤ e2) (a1 : e2 < lowEa (sgn (locL n e m)) m + lvWide (m - 1)) (b0 : lowNo (sgn (locL n e m)) m ≤ n2) (b1 : n2 < lowNo (sgn (locL n e m)) m + lvHigh (m - 1)) : locL n2 e2 m = locL n e m := by
  have hb := low_bd _ m hm (locL_sgn n e m hm n0 n1 e0 e1 hm1).1 m (Nat.le_refl _)
  have hb2 := hb.2.2 hm1
  have hn2 : min (n2 + 324000) 647999 = n2 + 324000 := by omega
  obtain ⟨N, hN⟩ : ∃ N, min (n + 324000) 647999 = N := ⟨_, rfl⟩
  have hN0 : 0 ≤ N ∧ N < 648000 := by omega
  unfold locL at a0 a1 b0 b1 ⊢
  rw [hN] at a0 a1 b0 b1 ⊢
  rw [hn2]
  clear hb hb2 hn2 hN
  rcases (by omega : m = 1 ∨ m = 2 ∨ m = 3) with rfl | rfl | rfl
  · simp [sgn, locFrom, lowEa, lowNo, lvFirst, lvWide, lvHigh] at a0 a1 b0 b1 ⊢; omega
  · simp [sgn, locFrom, lowEa, lowNo, lvFirst, lvWide, lvHigh] at a0 a1 b0 b1 ⊢; omega
  · simp [sgn, locFrom, lowEa, lowNo, lvFirst, lvWide, lvHigh] at a0 a1 b0 b1 ⊢; omega
theorem locL_take (n e : Int) (m : Nat) : (locL n e (m + 1)).take (2 * m) = locL n e m := by
  unfold locL
  have h : ∀ (m j : Nat) (a b : Int), (locFrom j (m + 1) a b).take (2 * m) = locFrom j m a b := by
    intro m
    induction m with
    | zero => intro j a b; rfl
    | succ m ih =>
      intro j a b
      rw [locFrom, show 2 * (m + 1) = 2 * m + 1 + 1 by omega, List.take_succ_cons, List.take_succ_cons, ih, ← locFrom]
  exact h m 0 _ _
end Go.Proofs.YtbaocnbppefciaaGreat
