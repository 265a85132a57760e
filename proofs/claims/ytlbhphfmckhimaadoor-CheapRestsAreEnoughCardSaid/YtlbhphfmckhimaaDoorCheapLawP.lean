/- Plain lemmas on the cheapest rests: how long they are, how many contacts they have. Condition: the windows lie one after another. -/
import Derived.Test.YtlbhphfmckhimaaDoorCheapW
import Derived.Test.YtlbhphfmckhimaaDoorRestsWorked
namespace Go.Proofs.YtlbhphfmckhimaaDoor
open Go.RowKit
set_option linter.unusedVariables false

/-- All contacts in windows. -/
def sumMW (t : List Int) (l : List (Int × Int)) : Int := l.foldl (fun n p => n + manyI t p.1 p.2) 0
theorem sumMW_snoc (t : List Int) (l : List (Int × Int)) (k : Nat) (h : k < l.length) : sumMW t (l.take (k + 1)) = sumMW t (l.take k) + manyI t l[k].1 l[k].2 := by
  unfold sumMW
  rw [List.take_succ_eq_append_getElem h, List.foldl_append]
  rfl
theorem sumMW_cons (t : List Int) (p : Int × Int) (l : List (Int × Int)) : sumMW t (p :: l) = manyI t p.1 p.2 + sumMW t l := by
  have key : ∀ (b : List (Int × Int)) (n : Int), b.foldl (fun n p => n + manyI t p.1 p.2) n = n + b.foldl (fun n p => n + manyI t p.1 p.2) 0 := by
    intro b
    induction b with
    | nil => intro n; simp
    | cons p r ih => intro n; simp only [List.foldl_cons]; rw [ih (n + manyI t p.1 p.2), ih (0 + manyI t p.1 p.2)]; omega
  unfold sumMW
  rw [List.foldl_cons, key]
  omega
theorem sumW_consM (p : Int × Int) (l : List (Int × Int)) : sumW (p :: l) = (p.2 - p.1) + sumW l := by
  have key : ∀ (b : List (Int × Int)) (n : Int), b.foldl (fun n p => n + (p.2 - p.1)) n = n + b.foldl (fun n p => n + (p.2 - p.1)) 0 := by
    intro b
    induction b with
    | nil => intro n; simp
    | cons p r ih => intro n; simp only [List.foldl_cons]; rw [ih (n + (p.2 - p.1)), ih (0 + (p.2 - p.1))]; omega
  unfold sumW
  rw [List.foldl_cons, key]
  omega
theorem sumMW_bd (t : List Int) (l : List (Int × Int)) (ht : t.length ≤ 2000) : ∀ k, k ≤ l.length → 0 ≤ sumMW t (l.take k) ∧ sumMW t (l.take k) ≤ 2000 * (k : Int)
  | 0, _ => by simp [sumMW]
  | k + 1, h => by
    have ih := sumMW_bd t l ht k (by omega)
    rw [sumMW_snoc t l k (by omega)]
    have := manyI_bd t l[k].1 l[k].2
    omega
theorem manyM_diff (t : List Int) (a : Int) {x y : Nat} (h : x ≤ y) : manyM t a y - manyM t a x = manyI t (a + 1000 * (x : Int)) (a + 1000 * (y : Int)) := cnt_diff t _ _ (by omega)
theorem scale_long {n L : Nat} (a : Int) : ∀ {W : List (Nat × Nat)} {s : Nat}, WinW n L s W → sumW (scaleW a W) = 1000 * (longW W : Int)
  | [], _, _ => rfl
  | (x, y) :: r, s, h => by
    obtain ⟨h1, h2, h3, h4⟩ := h
    have ih := scale_long a h4
    show sumW ((a + (x : Int) * 1000, a + (y : Int) * 1000) :: scaleW a r) = 1000 * (((y - x) + longW r : Nat) : Int)
    rw [sumW_consM, ih]
    simp only
    omega
theorem scale_cost {n L : Nat} (t : List Int) (a : Int) : ∀ {W : List (Nat × Nat)} {s : Nat}, WinW n L s W → sumMW t (scaleW a W) = costW (manyM t a) W
  | [], _, _ => rfl
  | (x, y) :: r, s, h => by
    obtain ⟨h1, h2, h3, h4⟩ := h
    have ih := scale_cost t a h4
    show sumMW t ((a + (x : Int) * 1000, a + (y : Int) * 1000) :: scaleW a r) = (manyM t a y - manyM t a x) + costW (manyM t a) r
    rw [sumMW_cons, ih, manyM_diff t a (by omega), show a + (x : Int) * 1000 = a + 1000 * (x : Int) by omega, show a + (y : Int) * 1000 = a + 1000 * (y : Int) by omega]
theorem winW_at {n L : Nat} : ∀ {W : List (Nat × Nat)} {s : Nat}, WinW n L s W → ∀ k (hk : k < W.length), s ≤ W[k].1 ∧ W[k].1 + L ≤ W[k].2 ∧ W[k].2 ≤ n
  | (x, y) :: r, s, h, k, hk => by
    obtain ⟨h1, h2, h3, h4⟩ := h
    cases k with
    | zero => exact ⟨h1, h2, h3⟩
    | succ k =>
      have := winW_at h4 k (by simpa using hk)
      simp only [List.getElem_cons_succ]
      omega
theorem winW_apart {n L : Nat} : ∀ {W : List (Nat × Nat)} {s : Nat}, WinW n L s W → ∀ k (hk : k + 1 < W.length), W[k].2 < W[k + 1].1
  | (x, y) :: r, s, h, k, hk => by
    obtain ⟨h1, h2, h3, h4⟩ := h
    cases k with
    | zero =>
      have := winW_at h4 0 (by simpa using hk)
      simp only [List.getElem_cons_zero, List.getElem_cons_succ]
      omega
    | succ k =>
      have := winW_apart h4 k (by simpa using hk)
      simpa using this
theorem winW_len {n L : Nat} (hL : 0 < L) : ∀ {W : List (Nat × Nat)} {s : Nat}, WinW n L s W → s ≤ n + 1 → s + W.length ≤ n + 1
  | [], s, _, hs => by simpa using hs
  | (x, y) :: r, s, h, hs => by
    obtain ⟨h1, h2, h3, h4⟩ := h
    have := winW_len hL h4 (by omega)
    simp only [List.length_cons]
    omega
theorem scale_len (a : Int) (W : List (Nat × Nat)) : (scaleW a W).length = W.length := by simp [scaleW]
theorem scale_at (a : Int) (W : List (Nat × Nat)) (k : Nat) (hk : k < W.length) : (scaleW a W)[k]'(by rw [scale_len]; exact hk) = (a + (W[k].1 : Int) * 1000, a + (W[k].2 : Int) * 1000) := by simp [scaleW]
/-- What is asked of the windows that were read off. -/
structure CheapOk (l : List Int) (a z nd ls : Int) (n L best : Nat) (R : List (Int × Int)) (many : Int) : Prop where
  len : R.length ≤ n + 1
  at_ : ∀ k (hk : k < R.length), a ≤ R[k].1 ∧ ls ≤ R[k].2 - R[k].1 ∧ R[k].2 ≤ z
  apart : ∀ k (hk : k + 1 < R.length), R[k].2 < R[k + 1].1
  long : sumW R = 1000 * (best : Int)
  many_ : sumMW l R = many
  few : ∀ t left : Nat, L ≤ left → nd ≤ 1000 * (left : Int) → t + left ≤ n → many ≤ manyI l (a + 1000 * (t : Int)) (a + 1000 * (t : Int) + 1000 * (left : Int))
theorem cheapOk (l : List Int) (a z nd ls : Int) (n L need best : Nat) (hz : z = a + 1000 * (n : Int)) (hnd : nd = 1000 * (need : Int)) (hls : ls = 1000 * (L : Int)) (hL : 0 < L) (hnn : need ≤ n)
    (hb : bstTo n L (manyM l a) need (n + 1 - need) = (best : Int)) : CheapOk l a z nd ls n L best (scaleW a (winsT n L (manyM l a) (n + 2) 0 best)) (outT n L (manyM l a) 0 best).1 ∧ nd ≤ 1000 * (best : Int) ∧ best ≤ n ∧ 0 ≤ (outT n L (manyM l a) 0 best).1 ∧ (outT n L (manyM l a) 0 best).1 ≤ 2000 := by
  have hM := manyM_rise l a n
  rcases bstTo_ok (n := n) (L := L) (M := manyM l a) need (n + 1 - need) with ⟨h1, _⟩ | ⟨j, h1, h2, h3, h4, _⟩
  · omega
  · have hbj : best = need + j := by omega
    rw [← hbj] at h3 h4
    have hw := winsT_ok hL hM (n + 2) 0 best (can_of (Nat.zero_le _) h3) (by omega) (by omega)
    have hcb := (cost_bd' hL hM (Nat.zero_le n) best).1
    obtain ⟨W, hW⟩ : ∃ W, winsT n L (manyM l a) (n + 2) 0 best = W := ⟨_, rfl⟩
    rw [hW] at hw
    rw [hW]
    obtain ⟨w1, w2, w3⟩ := hw
    refine ⟨⟨?_, fun k hk => ?_, fun k hk => ?_, ?_, ?_, fun t left hl hn ht => ?_⟩, by omega, by omega, hcb.1, h3⟩
    · rw [scale_len]
      have := winW_len hL w1 (by omega)
      omega
    · have hk' : k < W.length := by rw [scale_len] at hk; exact hk
      rw [scale_at a W k hk']
      have := winW_at w1 k hk'
      simp only
      omega
    · have hk' : k + 1 < W.length := by rw [scale_len] at hk; exact hk
      rw [scale_at a W k (by omega), scale_at a W (k + 1) hk']
      have := winW_apart w1 k hk'
      simp only
      omega
    · rw [scale_long a w1, w2]
    · rw [scale_cost l a w1, w3]
    · have h5 := outT_few hL hM t left hl ht
      have h6 := h4 (left - need) (by omega)
      rw [show need + (left - need) = left by omega] at h6
      rw [manyM_diff l a (by omega)] at h5
      rw [show a + 1000 * ((t + left : Nat) : Int) = a + 1000 * (t : Int) + 1000 * (left : Int) by omega] at h5
      omega
/-- Nothing that must be taken can always be had. -/
theorem cheap_none (l : List Int) (a : Int) (n L need : Nat) (h : bstTo n L (manyM l a) need (n + 1 - need) = -1) (hnn : need ≤ n) : 0 < need := by
  rcases bstTo_ok (n := n) (L := L) (M := manyM l a) need (n + 1 - need) with ⟨_, h2⟩ | ⟨j, h1, h2, h3, _⟩
  · rcases Nat.eq_zero_or_pos need with rfl | h0
    · have := h2 0 (by omega)
      rw [Nat.add_zero, outT_zero] at this
      simp at this
    · exact h0
  · omega
end Go.Proofs.YtlbhphfmckhimaaDoor
