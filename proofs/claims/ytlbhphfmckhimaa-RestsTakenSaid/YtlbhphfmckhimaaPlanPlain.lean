/- Plain law: the tables of the cheapest rests and what is read off them. No program in sight. Condition: counts that do not fall. -/
import Derived.Test.YtlbhphfmckhimaaBase
namespace Go.Proofs.Ytlbhphfmckhimaa
set_option linter.unusedVariables false
set_option linter.unusedSimpArgs false

abbrev Co := Int × Int
def nevC : Co := (2001, 0)
def plusC (c : Co) (a b : Int) : Co := (c.1 + a, c.2 + b)
def lessC (c d : Co) : Bool := decide (c.1 < d.1) || (decide (c.1 = d.1) && decide (c.2 < d.2))
/-- The candidate where it is less, else what stands. -/
def betC (c d : Co) : Co := if lessC c d then c else d

mutual
/-- What it costs outside of a window, so many seconds before the end. -/
def outD (n L : Nat) (M : Nat → Int) (d left : Nat) : Co :=
  if left = 0 then (0, 0)
  else if h : 0 < d then
    betC (if h2 : 0 < L ∧ L ≤ d ∧ L ≤ left then plusC (inD n L M (d - L) (left - L)) (M (n - d + L) - M (n - d)) 1 else nevC) (outD n L M (d - 1) left)
  else nevC
termination_by d
/-- Likewise within one. -/
def inD (n L : Nat) (M : Nat → Int) (d left : Nat) : Co :=
  betC (if h : 0 < d ∧ 0 < left then plusC (inD n L M (d - 1) (left - 1)) (M (n - d + 1) - M (n - d)) 0 else nevC)
    (if h : 0 < d then outD n L M (d - 1) left else if left = 0 then (0, 0) else nevC)
termination_by d
end
def outT (n L : Nat) (M : Nat → Int) (t left : Nat) : Co := outD n L M (n - t) left
def inT (n L : Nat) (M : Nat → Int) (t left : Nat) : Co := inD n L M (n - t) left
def begT (n L : Nat) (M : Nat → Int) (t left : Nat) : Co := if t + L ≤ n ∧ L ≤ left then plusC (inT n L M (t + L) (left - L)) (M (t + L) - M t) 1 else nevC
def goneT (n L : Nat) (M : Nat → Int) (t left : Nat) : Co := if t < n ∧ 0 < left then plusC (inT n L M (t + 1) (left - 1)) (M (t + 1) - M t) 0 else nevC
def endT (n L : Nat) (M : Nat → Int) (t left : Nat) : Co := outT n L M (min (t + 1) n) left
section
variable {n L : Nat} {M : Nat → Int}
theorem outT_zero (t : Nat) : outT n L M t 0 = (0, 0) := by unfold outT; rw [outD]; simp
theorem outT_end {left : Nat} (h : left ≠ 0) : outT n L M n left = nevC := by unfold outT; rw [outD]; simp [h]
theorem outT_step (hL : 0 < L) {t left : Nat} (ht : t < n) (h : left ≠ 0) : outT n L M t left = betC (begT n L M t left) (outT n L M (t + 1) left) := by
  unfold begT
  conv => lhs; unfold outT; rw [outD]
  rw [if_neg h, dif_pos (by omega)]
  have e1 : n - (n - t) = t := by omega
  have e2 : n - t - 1 = n - (t + 1) := by omega
  rw [e1, e2]
  show betC _ (outT n L M (t + 1) left) = _
  congr 1
  by_cases hb : t + L ≤ n ∧ L ≤ left
  · rw [dif_pos ⟨hL, by omega, hb.2⟩, if_pos hb, show n - t - L = n - (t + L) by omega]; rfl
  · rw [dif_neg (by omega), if_neg hb]
theorem inT_step {t : Nat} (ht : t ≤ n) (left : Nat) : inT n L M t left = betC (goneT n L M t left) (endT n L M t left) := by
  unfold goneT endT
  conv => lhs; unfold inT; rw [inD]
  have e1 : n - (n - t) = t := by omega
  have e2 : n - t - 1 = n - (t + 1) := by omega
  rw [e1, e2]
  by_cases hd : t < n
  · rw [dif_pos (show 0 < n - t by omega), show min (t + 1) n = t + 1 by omega]
    congr 1
    by_cases hl : 0 < left
    · rw [dif_pos ⟨by omega, hl⟩, if_pos ⟨hd, hl⟩]; rfl
    · rw [dif_neg (by omega), if_neg (by omega)]
  · obtain rfl : t = n := by omega
    rw [dif_neg (show ¬ (0 < t - t ∧ 0 < left) by omega), dif_neg (show ¬ 0 < t - t by omega), show min (t + 1) t = t by omega, if_neg (show ¬ (t < t ∧ 0 < left) by omega)]
    congr 1
    by_cases hl : left = 0
    · rw [if_pos hl, hl, outT_zero]
    · rw [if_neg hl, outT_end hl]
theorem betC_or (c d : Co) : betC c d = c ∨ betC c d = d := by unfold betC; split; exact .inl rfl; exact .inr rfl
theorem betC_le (c d : Co) : (betC c d).1 ≤ c.1 ∧ (betC c d).1 ≤ d.1 := by
  unfold betC lessC
  by_cases h1 : c.1 < d.1
  · simp [h1]; omega
  · by_cases h2 : c.1 = d.1 ∧ c.2 < d.2
    · simp [h2]
    · by_cases h3 : c.1 = d.1
      · have : ¬ c.2 < d.2 := fun h => h2 ⟨h3, h⟩
        simp [h3, this]
      · simp [h1, h3]; omega
theorem inT_zero {t : Nat} (ht : t ≤ n) : inT n L M t 0 = (0, 0) ∧ endT n L M t 0 = (0, 0) := by
  have h : endT n L M t 0 = (0, 0) := outT_zero _
  refine ⟨?_, h⟩
  rw [inT_step ht, h]
  unfold goneT
  rw [if_neg (by omega)]
  rfl

/-- Counts that do not fall. -/
def Rise (n : Nat) (M : Nat → Int) : Prop := ∀ a b, a ≤ b → b ≤ n → M a ≤ M b

/-- Where a window ends, with what is left then. -/
def inEnd (n L : Nat) (M : Nat → Int) : Nat → Nat → Nat × Nat
  | 0, t => (t, 0)
  | left + 1, t => if endT n L M t (left + 1) = inT n L M t (left + 1) then (t, left + 1) else inEnd n L M left (t + 1)
theorem inEnd_ok (hM : Rise n M) : ∀ (left t : Nat), t ≤ n → (inT n L M t left).1 ≤ 2000 →
    t ≤ (inEnd n L M left t).1 ∧ (inEnd n L M left t).1 ≤ n ∧ (inEnd n L M left t).1 + (inEnd n L M left t).2 = t + left ∧
    endT n L M (inEnd n L M left t).1 (inEnd n L M left t).2 = inT n L M (inEnd n L M left t).1 (inEnd n L M left t).2 ∧
    (inT n L M t left).1 = (endT n L M (inEnd n L M left t).1 (inEnd n L M left t).2).1 + (M (inEnd n L M left t).1 - M t)
  | 0, t, ht, hf => by
    simp only [inEnd]
    rw [(inT_zero ht).1, (inT_zero ht).2]
    exact ⟨by simp, ht, by simp, by simp, by simp⟩
  | left + 1, t, ht, hf => by
    unfold inEnd
    by_cases he : endT n L M t (left + 1) = inT n L M t (left + 1)
    · rw [if_pos he]
      exact ⟨Nat.le_refl _, ht, rfl, he, by rw [he]; simp⟩
    · rw [if_neg he]
      have hs := inT_step (L := L) (M := M) ht (left + 1)
      have hg : inT n L M t (left + 1) = goneT n L M t (left + 1) := by
        rcases betC_or (goneT n L M t (left + 1)) (endT n L M t (left + 1)) with h | h
        · rw [hs, h]
        · exact absurd (by rw [hs, h]) he
      have hlt : t < n := by
        rcases Nat.lt_or_ge t n with h | h
        · exact h
        · rw [hg] at hf
          unfold goneT at hf
          rw [if_neg (by omega)] at hf
          simp [nevC] at hf
      have hg2 : goneT n L M t (left + 1) = plusC (inT n L M (t + 1) left) (M (t + 1) - M t) 0 := by
        unfold goneT
        rw [if_pos ⟨hlt, by omega⟩]
        rfl
      have h1 : (inT n L M t (left + 1)).1 = (inT n L M (t + 1) left).1 + (M (t + 1) - M t) := by rw [hg, hg2]; rfl
      have hm := hM t (t + 1) (by omega) (by omega)
      have ih := inEnd_ok hM left (t + 1) (by omega) (by omega)
      refine ⟨by omega, ih.2.1, by omega, ih.2.2.2.1, by omega⟩
theorem inEnd_go {left t : Nat} (h : endT n L M t left ≠ inT n L M t left) (ht : t ≤ n) : 0 < left ∧ inEnd n L M left t = inEnd n L M (left - 1) (t + 1) := by
  cases left with
  | zero => exact absurd (by rw [(inT_zero ht).1, (inT_zero ht).2]) h
  | succ k => exact ⟨by omega, by rw [inEnd, if_neg h]; rfl⟩
theorem inEnd_stop {left t : Nat} (h : endT n L M t left = inT n L M t left) : inEnd n L M left t = (t, left) := by
  cases left with
  | zero => rfl
  | succ k => rw [inEnd, if_pos h]

/-- The windows read off the tables. -/
def winsT (n L : Nat) (M : Nat → Int) : Nat → Nat → Nat → List (Nat × Nat)
  | 0, _, _ => []
  | d + 1, t, left =>
    if left = 0 then []
    else if begT n L M t left = outT n L M t left then (t, (inEnd n L M (left - L) (t + L)).1) :: winsT n L M d ((inEnd n L M (left - L) (t + L)).1 + 1) (inEnd n L M (left - L) (t + L)).2
    else winsT n L M d (t + 1) left
/-- Windows one after another from a second on, each at least so long. -/
def WinW (n L : Nat) : Nat → List (Nat × Nat) → Prop
  | _, [] => True
  | t, (a, b) :: r => t ≤ a ∧ a + L ≤ b ∧ b ≤ n ∧ WinW n L (b + 1) r
def longW : List (Nat × Nat) → Nat
  | [] => 0
  | (a, b) :: r => (b - a) + longW r
def costW (M : Nat → Int) : List (Nat × Nat) → Int
  | [] => 0
  | (a, b) :: r => (M b - M a) + costW M r
theorem WinW.low {n L t s : Nat} {l : List (Nat × Nat)} (h : WinW n L t l) (hs : s ≤ t) : WinW n L s l := by
  cases l with
  | nil => trivial
  | cons p r => obtain ⟨a, b⟩ := p; exact ⟨by have := h.1; omega, h.2⟩
/-- What may be asked of a second and of what is left: nothing is left, or it can be had. -/
def Can (n L : Nat) (M : Nat → Int) (t left : Nat) : Prop := left = 0 ∨ (t < n ∧ (outT n L M t left).1 ≤ 2000)
theorem can_of {t left : Nat} (ht : t ≤ n) (h : (outT n L M t left).1 ≤ 2000) : Can n L M t left := by
  by_cases hl : left = 0
  · exact .inl hl
  · refine .inr ⟨?_, h⟩
    rcases Nat.lt_or_ge t n with h1 | h1
    · exact h1
    · obtain rfl : t = n := by omega
      rw [outT_end hl] at h
      simp [nevC] at h
/-- Not begun here: the same a second later. -/
theorem can_skip (hL : 0 < L) {t left : Nat} (h0 : left ≠ 0) (hc : Can n L M t left) (hb : begT n L M t left ≠ outT n L M t left) : Can n L M (t + 1) left ∧ outT n L M t left = outT n L M (t + 1) left := by
  rcases hc with h | ⟨ht, hf⟩
  · exact absurd h h0
  · have hs := outT_step (M := M) hL ht h0
    have he : outT n L M t left = outT n L M (t + 1) left := by
      rcases betC_or (begT n L M t left) (outT n L M (t + 1) left) with h | h
      · exact absurd (by rw [hs, h]) hb
      · rw [hs, h]
    exact ⟨can_of (by omega) (by rw [← he]; exact hf), he⟩
/-- Begun here: the window and what is left behind it. -/
theorem can_take (hL : 0 < L) (hM : Rise n M) {t left : Nat} (h0 : left ≠ 0) (hc : Can n L M t left) (hb : begT n L M t left = outT n L M t left) :
    t + L ≤ n ∧ L ≤ left ∧ (inT n L M (t + L) (left - L)).1 ≤ 2000 ∧ t + L ≤ (inEnd n L M (left - L) (t + L)).1 ∧ (inEnd n L M (left - L) (t + L)).1 ≤ n ∧
    (inEnd n L M (left - L) (t + L)).1 + (inEnd n L M (left - L) (t + L)).2 = t + left ∧ Can n L M ((inEnd n L M (left - L) (t + L)).1 + 1) (inEnd n L M (left - L) (t + L)).2 ∧
    (outT n L M t left).1 = (outT n L M ((inEnd n L M (left - L) (t + L)).1 + 1) (inEnd n L M (left - L) (t + L)).2).1 + (M (inEnd n L M (left - L) (t + L)).1 - M t) := by
  rcases hc with h | ⟨ht, hf⟩
  · exact absurd h h0
  have hbc : t + L ≤ n ∧ L ≤ left := by
    by_cases h : t + L ≤ n ∧ L ≤ left
    · exact h
    · rw [← hb] at hf
      unfold begT at hf
      rw [if_neg h] at hf
      simp [nevC] at hf
  have hbe : begT n L M t left = plusC (inT n L M (t + L) (left - L)) (M (t + L) - M t) 1 := by unfold begT; rw [if_pos hbc]
  have h1 : (outT n L M t left).1 = (inT n L M (t + L) (left - L)).1 + (M (t + L) - M t) := by rw [← hb, hbe]; rfl
  have hm := hM t (t + L) (by omega) hbc.1
  have hin : (inT n L M (t + L) (left - L)).1 ≤ 2000 := by omega
  have ie := inEnd_ok (L := L) hM (left - L) (t + L) hbc.1 hin
  generalize inEnd n L M (left - L) (t + L) = p at *
  obtain ⟨q, l2⟩ := p
  simp only at ie ⊢
  obtain ⟨i1, i2, i3, i4, i5⟩ := ie
  have hm2 := hM (t + L) q i1 i2
  have hfe : (endT n L M q l2).1 ≤ 2000 := by omega
  refine ⟨hbc.1, hbc.2, hin, i1, i2, by omega, ?_, ?_⟩
  · rcases Nat.lt_or_ge q n with h | h
    · have : min (q + 1) n = q + 1 := by omega
      unfold endT at hfe
      rw [this] at hfe
      exact can_of (by omega) hfe
    · obtain rfl : q = n := by omega
      left
      unfold endT at hfe
      rw [show min (q + 1) q = q by omega] at hfe
      rcases can_of (Nat.le_refl q) hfe with h2 | ⟨h2, _⟩
      · exact h2
      · omega
  · rw [h1, i5]
    unfold endT
    rcases Nat.lt_or_ge q n with h | h
    · rw [show min (q + 1) n = q + 1 by omega]; omega
    · obtain rfl : q = n := by omega
      unfold endT at hfe
      rw [show min (q + 1) q = q by omega] at hfe ⊢
      rcases can_of (Nat.le_refl q) hfe with h2 | ⟨h2, _⟩
      · rw [h2, outT_zero, outT_zero]; simp only; omega
      · omega
theorem winsT_ok (hL : 0 < L) (hM : Rise n M) : ∀ (d t left : Nat), Can n L M t left → n + 2 ≤ t + d → t ≤ n + 1 →
    WinW n L t (winsT n L M d t left) ∧ longW (winsT n L M d t left) = left ∧ costW M (winsT n L M d t left) = (outT n L M t left).1
  | 0, t, left, hc, hd, ht => by omega
  | d + 1, t, left, hc, hd, ht => by
    unfold winsT
    by_cases h0 : left = 0
    · rw [if_pos h0, h0, outT_zero]
      exact ⟨trivial, rfl, rfl⟩
    rw [if_neg h0]
    by_cases hb : begT n L M t left = outT n L M t left
    · rw [if_pos hb]
      obtain ⟨c1, c2, c3, c4, c5, c6, c7, c8⟩ := can_take hL hM h0 hc hb
      generalize inEnd n L M (left - L) (t + L) = p at *
      obtain ⟨q, l2⟩ := p
      simp only at *
      have ih := winsT_ok hL hM d (q + 1) l2 c7 (by omega) (by omega)
      refine ⟨⟨Nat.le_refl _, c4, c5, ih.1⟩, ?_, ?_⟩
      · simp only [longW]
        rw [ih.2.1]
        omega
      · simp only [costW]
        rw [ih.2.2, c8]
        omega
    · rw [if_neg hb]
      obtain ⟨hc2, he⟩ := can_skip hL h0 hc hb
      have hlt : t < n := by
        rcases hc with h | h
        · exact absurd h h0
        · exact h.1
      have ih := winsT_ok hL hM d (t + 1) left hc2 (by omega) (by omega)
      exact ⟨ih.1.low (by omega), ih.2.1, by rw [ih.2.2, he]⟩
/-- A window of one's own costs no less. -/
theorem inT_few (hM : Rise n M) : ∀ (left t : Nat), t + left ≤ n → (inT n L M t left).1 ≤ M (t + left) - M t
  | 0, t, ht => by rw [(inT_zero (by omega)).1]; simp
  | left + 1, t, ht => by
    have h1 := (betC_le (goneT n L M t (left + 1)) (endT n L M t (left + 1))).1
    rw [← inT_step (by omega)] at h1
    have h2 : goneT n L M t (left + 1) = plusC (inT n L M (t + 1) left) (M (t + 1) - M t) 0 := by unfold goneT; rw [if_pos ⟨by omega, by omega⟩]; rfl
    have h3 : (goneT n L M t (left + 1)).1 = (inT n L M (t + 1) left).1 + (M (t + 1) - M t) := by rw [h2]; rfl
    have ih := inT_few hM left (t + 1) (by omega)
    rw [show t + (left + 1) = t + 1 + left by omega]
    omega
theorem outT_few (hL : 0 < L) (hM : Rise n M) : ∀ (t left : Nat), L ≤ left → t + left ≤ n → (outT n L M 0 left).1 ≤ M (t + left) - M t := by
  have h1 : ∀ t left, t ≤ n → (outT n L M 0 left).1 ≤ (outT n L M t left).1 := by
    intro t left
    induction t with
    | zero => exact fun _ => by omega
    | succ t ih =>
      intro ht
      have := ih (by omega)
      by_cases h0 : left = 0
      · rw [h0, outT_zero, outT_zero]; omega
      · have h2 := (betC_le (begT n L M t left) (outT n L M (t + 1) left)).2
        rw [← outT_step hL (by omega) h0] at h2
        omega
  intro t left hl ht
  have h2 := h1 t left (by omega)
  have h3 := (betC_le (begT n L M t left) (outT n L M (t + 1) left)).1
  rw [← outT_step hL (by omega) (by omega)] at h3
  have h4 : begT n L M t left = plusC (inT n L M (t + L) (left - L)) (M (t + L) - M t) 1 := by unfold begT; rw [if_pos ⟨by omega, hl⟩]
  have h5 : (begT n L M t left).1 = (inT n L M (t + L) (left - L)).1 + (M (t + L) - M t) := by rw [h4]; rfl
  have h6 := inT_few (L := L) hM (left - L) (t + L) (by omega)
  rw [show t + L + (left - L) = t + left by omega] at h6
  omega
end
section
variable {n L : Nat} {M : Nat → Int}
/-- All costs are small. -/
def CoBd (n : Nat) (M : Nat → Int) (t : Nat) (c : Co) : Prop := 0 ≤ c.1 ∧ c.1 ≤ 2001 + (M n - M t) ∧ 0 ≤ c.2 ∧ c.2 ≤ ((n - t : Nat) : Int) + 1
theorem nev_bd (hM : Rise n M) {t : Nat} (ht : t ≤ n) : CoBd n M t nevC := by
  have := hM t n ht (Nat.le_refl _)
  unfold CoBd nevC
  simp only
  omega
theorem zero_bd (hM : Rise n M) {t : Nat} (ht : t ≤ n) : CoBd n M t (0, 0) := by
  have := hM t n ht (Nat.le_refl _)
  unfold CoBd
  simp only
  omega
theorem bet_bd {t : Nat} {c d : Co} (h1 : CoBd n M t c) (h2 : CoBd n M t d) : CoBd n M t (betC c d) := by
  rcases betC_or c d with h | h <;> rw [h] <;> assumption
theorem bd_low (hM : Rise n M) {s t : Nat} (hst : s ≤ t) (ht : t ≤ n) {c : Co} (h : CoBd n M t c) : CoBd n M s c := by
  have := hM s t hst ht
  unfold CoBd at *
  omega
theorem cost_bd (hL : 0 < L) (hM : Rise n M) : ∀ d, d ≤ n → ∀ left, CoBd n M (n - d) (outT n L M (n - d) left) ∧ CoBd n M (n - d) (inT n L M (n - d) left) := by
  intro d
  induction d using Nat.strongRecOn with
  | _ d ih =>
    intro hd left
    have hout : CoBd n M (n - d) (outT n L M (n - d) left) := by
      by_cases h0 : left = 0
      · rw [h0, outT_zero]; exact zero_bd hM (by omega)
      by_cases hd0 : d = 0
      · rw [hd0, Nat.sub_zero, outT_end h0]; exact nev_bd hM (Nat.le_refl _)
      rw [outT_step hL (by omega) h0]
      refine bet_bd ?_ ?_
      · unfold begT
        by_cases hb : n - d + L ≤ n ∧ L ≤ left
        · rw [if_pos hb]
          have h1 := (ih (d - L) (by omega) (by omega) (left - L)).2
          rw [show n - (d - L) = n - d + L by omega] at h1
          have := hM (n - d) (n - d + L) (by omega) hb.1
          unfold CoBd plusC at *
          simp only
          omega
        · rw [if_neg hb]; exact nev_bd hM (by omega)
      · have h1 := (ih (d - 1) (by omega) (by omega) left).1
        rw [show n - (d - 1) = n - d + 1 by omega] at h1
        exact bd_low hM (by omega) (by omega) h1
    refine ⟨hout, ?_⟩
    rw [inT_step (by omega)]
    refine bet_bd ?_ ?_
    · unfold goneT
      by_cases hb : n - d < n ∧ 0 < left
      · rw [if_pos hb]
        have h1 := (ih (d - 1) (by omega) (by omega) (left - 1)).2
        rw [show n - (d - 1) = n - d + 1 by omega] at h1
        have := hM (n - d) (n - d + 1) (by omega) (by omega)
        unfold CoBd plusC at *
        simp only
        omega
      · rw [if_neg hb]; exact nev_bd hM (by omega)
    · unfold endT
      by_cases hd0 : d = 0
      · rw [hd0, Nat.sub_zero, show min (n + 1) n = n by omega]
        rw [hd0, Nat.sub_zero] at hout
        exact hout
      · rw [show min (n - d + 1) n = n - d + 1 by omega]
        have h1 := (ih (d - 1) (by omega) (by omega) left).1
        rw [show n - (d - 1) = n - d + 1 by omega] at h1
        exact bd_low hM (by omega) (by omega) h1
theorem cost_bd' (hL : 0 < L) (hM : Rise n M) {t : Nat} (ht : t ≤ n) (left : Nat) : CoBd n M t (outT n L M t left) ∧ CoBd n M t (inT n L M t left) := by
  have h := cost_bd (L := L) hL hM (n - t) (by omega) left
  rwa [show n - (n - t) = t by omega] at h
end
/-- What is chosen: the first of the cheapest; -1: none can be had. -/
def bstStep (n L : Nat) (M : Nat → Int) (best : Int) (left : Nat) : Int :=
  if (outT n L M 0 left).1 ≤ 2000 ∧ (best < 0 ∨ (outT n L M 0 left).1 < (outT n L M 0 best.toNat).1) then left else best
def bstTo (n L : Nat) (M : Nat → Int) (need : Nat) : Nat → Int
  | 0 => -1
  | k + 1 => bstStep n L M (bstTo n L M need k) (need + k)
theorem bstTo_ok {n L : Nat} {M : Nat → Int} (need : Nat) : ∀ k : Nat,
    (bstTo n L M need k = -1 ∧ ∀ j, j < k → 2000 < (outT n L M 0 (need + j)).1) ∨
    (∃ j, j < k ∧ bstTo n L M need k = ((need + j : Nat) : Int) ∧ (outT n L M 0 (need + j)).1 ≤ 2000 ∧ (∀ i, i < k → (outT n L M 0 (need + j)).1 ≤ (outT n L M 0 (need + i)).1) ∧ ∀ i, i < j → (outT n L M 0 (need + j)).1 < (outT n L M 0 (need + i)).1)
  | 0 => .inl ⟨rfl, fun j h => by omega⟩
  | k + 1 => by
    unfold bstTo bstStep
    rcases bstTo_ok (n := n) (L := L) (M := M) need k with ⟨h1, h2⟩ | ⟨j, h1, h2, h3, h4, h5⟩
    · rw [h1]
      by_cases hf : (outT n L M 0 (need + k)).1 ≤ 2000
      · rw [if_pos ⟨hf, .inl (by decide)⟩]
        refine .inr ⟨k, by omega, rfl, hf, fun i hi => ?_, fun i hi => ?_⟩
        · rcases (by omega : i < k ∨ i = k) with h | rfl
          · have := h2 i h; omega
          · exact Int.le_refl _
        · have := h2 i hi; omega
      · rw [if_neg (fun h => hf h.1)]
        refine .inl ⟨rfl, fun i hi => ?_⟩
        rcases (by omega : i < k ∨ i = k) with h | rfl
        · exact h2 i h
        · omega
    · rw [h2, show (((need + j : Nat) : Int)).toNat = need + j by omega]
      by_cases hf : (outT n L M 0 (need + k)).1 < (outT n L M 0 (need + j)).1
      · rw [if_pos ⟨by omega, .inr hf⟩]
        refine .inr ⟨k, by omega, rfl, by omega, fun i hi => ?_, fun i hi => ?_⟩
        · rcases (by omega : i < k ∨ i = k) with h | rfl
          · have := h4 i h; omega
          · exact Int.le_refl _
        · have := h4 i hi; omega
      · rw [if_neg (by omega)]
        refine .inr ⟨j, by omega, rfl, h3, fun i hi => ?_, h5⟩
        rcases (by omega : i < k ∨ i = k) with h | rfl
        · exact h4 i h
        · omega
end Go.Proofs.Ytlbhphfmckhimaa
