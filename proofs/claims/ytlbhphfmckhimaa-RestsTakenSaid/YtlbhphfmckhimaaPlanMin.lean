/- Plain law: what is read off the tables is the least of all rests that are enough, and so is what the reference's search finds: they are the same. No program in sight. Condition: counts that do not fall. -/
import Derived.Test.YtlbhphfmckhimaaPlanPlain
namespace Go.Proofs.Ytlbhphfmckhimaa
set_option linter.unusedVariables false
set_option linter.unusedSimpArgs false

def leC (c d : Co) : Prop := c.1 < d.1 ∨ (c.1 = d.1 ∧ c.2 ≤ d.2)
theorem leC_refl (c : Co) : leC c c := .inr ⟨rfl, Int.le_refl _⟩
theorem leC_trans {a b c : Co} (h1 : leC a b) (h2 : leC b c) : leC a c := by unfold leC at *; omega
theorem leC_anti {a b : Co} (h1 : leC a b) (h2 : leC b a) : a = b := by
  obtain ⟨a1, a2⟩ := a
  obtain ⟨b1, b2⟩ := b
  unfold leC at *
  simp only at h1 h2
  rw [Prod.mk.injEq]
  omega
theorem leC_plus {a b : Co} (h : leC a b) (x y : Int) : leC (plusC a x y) (plusC b x y) := by
  unfold leC plusC at *
  simp only
  omega
theorem betC_lex (c d : Co) : leC (betC c d) c ∧ leC (betC c d) d := by
  obtain ⟨a1, a2⟩ := c
  obtain ⟨b1, b2⟩ := d
  have h : lessC (a1, a2) (b1, b2) = decide (a1 < b1 ∨ (a1 = b1 ∧ a2 < b2)) := by
    unfold lessC
    rw [Bool.decide_or, Bool.decide_and]
  unfold betC leC
  rw [h]
  by_cases hh : a1 < b1 ∨ (a1 = b1 ∧ a2 < b2)
  · rw [decide_eq_true hh]; simp; omega
  · rw [decide_eq_false hh]; simp; omega
theorem plusC_plus (c : Co) (a b x y : Int) : plusC (plusC c a b) x y = plusC c (a + x) (b + y) := by unfold plusC; simp only; rw [Prod.mk.injEq]; omega

section
variable {n L : Nat} {M : Nat → Int}
theorem out_mono (hL : 0 < L) (left : Nat) : ∀ k t, t + k ≤ n → leC (outT n L M t left) (outT n L M (t + k) left)
  | 0, t, _ => leC_refl _
  | k + 1, t, h => by
    refine leC_trans ?_ (by have := out_mono hL left k (t + 1) (by omega); rwa [show t + 1 + k = t + (k + 1) by omega] at this)
    by_cases h0 : left = 0
    · rw [h0, outT_zero, outT_zero]; exact leC_refl _
    · rw [outT_step hL (by omega) h0]
      exact (betC_lex _ _).2
theorem in_reach (left : Nat) : ∀ k t, t + k ≤ n → k ≤ left → leC (inT n L M t left) (plusC (inT n L M (t + k) (left - k)) (M (t + k) - M t) 0)
  | 0, t, _, _ => by
    have : plusC (inT n L M (t + 0) (left - 0)) (M (t + 0) - M t) 0 = inT n L M t left := by unfold plusC; simp
    rw [this]
    exact leC_refl _
  | k + 1, t, h, hk => by
    have h1 := (betC_lex (goneT n L M t left) (endT n L M t left)).1
    rw [← inT_step (by omega)] at h1
    have h2 : goneT n L M t left = plusC (inT n L M (t + 1) (left - 1)) (M (t + 1) - M t) 0 := by unfold goneT; rw [if_pos ⟨by omega, by omega⟩]
    rw [h2] at h1
    have ih := in_reach (left - 1) k (t + 1) (by omega) (by omega)
    have h3 := leC_plus ih (M (t + 1) - M t) 0
    rw [plusC_plus, show t + 1 + k = t + (k + 1) by omega, show left - 1 - k = left - (k + 1) by omega, show M (t + (k + 1)) - M (t + 1) + (M (t + 1) - M t) = M (t + (k + 1)) - M t by omega, Int.add_zero] at h3
    exact leC_trans h1 h3
theorem in_end {t left : Nat} (ht : t ≤ n) : leC (inT n L M t left) (endT n L M t left) := by
  rw [inT_step ht]
  exact (betC_lex _ _).2
theorem wins_none (hL : 0 < L) {l : List (Nat × Nat)} {t : Nat} (h : WinW n L t l) (ht : n ≤ t) : l = [] := by
  cases l with
  | nil => rfl
  | cons p r =>
    obtain ⟨a, b⟩ := p
    obtain ⟨h1, h2, h3, _⟩ := h
    omega
/-- No way of windows costs less than the table says. -/
theorem out_low (hL : 0 < L) : ∀ (l : List (Nat × Nat)) (t : Nat), t ≤ n → WinW n L t l → leC (outT n L M t (longW l)) (costW M l, (l.length : Int))
  | [], t, _, _ => by show leC (outT n L M t 0) (0, 0); rw [outT_zero]; exact leC_refl _
  | (a, b) :: r, t, ht, hw => by
    obtain ⟨h1, h2, h3, h4⟩ := hw
    have hl : longW ((a, b) :: r) = (b - a) + longW r := rfl
    have hc : costW M ((a, b) :: r) = (M b - M a) + costW M r := rfl
    have ihr : leC (endT n L M b (longW r)) (costW M r, (r.length : Int)) := by
      unfold endT
      rcases Nat.lt_or_ge b n with h | h
      · rw [show min (b + 1) n = b + 1 by omega]
        exact out_low hL r (b + 1) (by omega) h4
      · have hr := wins_none hL h4 (by omega)
        rw [hr]
        show leC (outT n L M _ 0) (0, 0)
        rw [outT_zero]
        exact leC_refl _
    have e1 := in_end (L := L) (M := M) (left := longW r) h3
    have e2 := in_reach (n := n) (L := L) (M := M) (longW ((a, b) :: r) - L) (b - a - L) (a + L) (by omega) (by omega)
    rw [show a + L + (b - a - L) = b by omega, show longW ((a, b) :: r) - L - (b - a - L) = longW r by omega] at e2
    have e3 := leC_trans e2 (leC_plus (leC_trans e1 ihr) (M b - M (a + L)) 0)
    have hb : begT n L M a (longW ((a, b) :: r)) = plusC (inT n L M (a + L) (longW ((a, b) :: r) - L)) (M (a + L) - M a) 1 := by unfold begT; rw [if_pos ⟨by omega, by omega⟩]
    have e4 := (betC_lex (begT n L M a (longW ((a, b) :: r))) (outT n L M (a + 1) (longW ((a, b) :: r)))).1
    rw [← outT_step hL (by omega) (by omega), hb] at e4
    have e5 := leC_trans e4 (leC_plus e3 (M (a + L) - M a) 1)
    rw [plusC_plus] at e5
    have e6 := out_mono (n := n) (M := M) hL (longW ((a, b) :: r)) (a - t) t (by omega)
    rw [show t + (a - t) = a by omega] at e6
    refine leC_trans e6 ?_
    have : plusC (costW M r, (r.length : Int)) (M b - M (a + L) + (M (a + L) - M a)) (0 + 1) = (costW M ((a, b) :: r), (((a, b) :: r).length : Int)) := by
      unfold plusC
      rw [hc, Prod.mk.injEq]
      simp only [List.length_cons]
      omega
    rw [this] at e5
    exact e5

/-- Which of two ways begins earlier, and ends earlier. -/
def leW : List (Nat × Nat) → List (Nat × Nat) → Prop
  | [], _ => True
  | _ :: _, [] => False
  | (a, b) :: r, (c, d) :: s => a < c ∨ (a = c ∧ (b < d ∨ (b = d ∧ leW r s)))
theorem leW_anti : ∀ {p q : List (Nat × Nat)}, leW p q → leW q p → p = q
  | [], [], _, _ => rfl
  | [], _ :: _, _, h => h.elim
  | _ :: _, [], h, _ => h.elim
  | (a, b) :: r, (c, d) :: s, h1, h2 => by
    unfold leW at h1 h2
    have : a = c ∧ b = d ∧ leW r s ∧ leW s r := by
      rcases h1 with h1 | ⟨e1, h1 | ⟨e2, h1⟩⟩ <;> rcases h2 with h2 | ⟨e3, h2 | ⟨e4, h2⟩⟩ <;> first | omega | exact ⟨e1, e2, h1, h2⟩
    obtain ⟨rfl, rfl, h3, h4⟩ := this
    rw [leW_anti h3 h4]
theorem leW_total : ∀ (p q : List (Nat × Nat)), leW p q ∨ leW q p
  | [], _ => .inl trivial
  | _ :: _, [] => .inr trivial
  | (a, b) :: r, (c, d) :: s => by
    unfold leW
    have := leW_total r s
    rcases Nat.lt_trichotomy a c with h | h | h
    · exact .inl (.inl h)
    · rcases Nat.lt_trichotomy b d with h' | h' | h'
      · exact .inl (.inr ⟨h, .inl h'⟩)
      · rcases this with h2 | h2
        · exact .inl (.inr ⟨h, .inr ⟨h', h2⟩⟩)
        · exact .inr (.inr ⟨h.symm, .inr ⟨h'.symm, h2⟩⟩)
      · exact .inr (.inr ⟨h.symm, .inl h'⟩)
    · exact .inr (.inl h)
theorem leW_trans : ∀ {p q s : List (Nat × Nat)}, leW p q → leW q s → leW p s
  | [], _, _, _, _ => trivial
  | _ :: _, [], _, h, _ => h.elim
  | _ :: _, _ :: _, [], _, h => h.elim
  | (a, b) :: r, (c, d) :: s, (e, f) :: u, h1, h2 => by
    unfold leW at *
    rcases h1 with h1 | ⟨e1, h1 | ⟨e2, h1⟩⟩ <;> rcases h2 with h2 | ⟨e3, h2 | ⟨e4, h2⟩⟩ <;> first
      | exact .inl (by omega)
      | exact .inr ⟨by omega, .inl (by omega)⟩
      | exact .inr ⟨by omega, .inr ⟨by omega, leW_trans h1 h2⟩⟩

/-- A window that is read off ends no later than that of any way that costs as little. -/
theorem inEnd_first : ∀ (left t b : Nat), t ≤ b → b ≤ n → b - t ≤ left → inT n L M t left = plusC (inT n L M b (left - (b - t))) (M b - M t) 0 → endT n L M b (left - (b - t)) = inT n L M b (left - (b - t)) →
    (inEnd n L M left t).1 ≤ b
  | 0, t, b, h1, h2, h3, _, _ => by simp only [inEnd]; omega
  | left + 1, t, b, h1, h2, h3, h4, h5 => by
    unfold inEnd
    by_cases he : endT n L M t (left + 1) = inT n L M t (left + 1)
    · rw [if_pos he]; exact h1
    · rw [if_neg he]
      have hlt : t < b := by
        rcases Nat.lt_or_ge t b with h | h
        · exact h
        · obtain rfl : b = t := by omega
          rw [show left + 1 - (b - b) = left + 1 by omega] at h5
          exact absurd h5 he
      have e2 := in_reach (n := n) (L := L) (M := M) left (b - (t + 1)) (t + 1) (by omega) (by omega)
      rw [show t + 1 + (b - (t + 1)) = b by omega] at e2
      have e1 := (betC_lex (goneT n L M t (left + 1)) (endT n L M t (left + 1))).1
      rw [← inT_step (by omega)] at e1
      have hg : goneT n L M t (left + 1) = plusC (inT n L M (t + 1) left) (M (t + 1) - M t) 0 := by unfold goneT; rw [if_pos ⟨by omega, by omega⟩]; rfl
      rw [hg, h4, show left + 1 - (b - t) = left - (b - (t + 1)) by omega] at e1
      have heq : inT n L M (t + 1) left = plusC (inT n L M b (left - (b - (t + 1)))) (M b - M (t + 1)) 0 := by
        refine leC_anti e2 ?_
        generalize inT n L M b (left - (b - (t + 1))) = x at *
        generalize inT n L M (t + 1) left = y at *
        unfold leC plusC at *
        simp only at *
        omega
      exact inEnd_first left (t + 1) b (by omega) h2 (by omega) heq (by rw [show left - (b - (t + 1)) = left + 1 - (b - t) by omega]; exact h5)
theorem winsT_nil (d t : Nat) : winsT n L M d t 0 = [] := by
  cases d with
  | zero => rfl
  | succ d => unfold winsT; rw [if_pos rfl]
/-- What is read off the tables costs as the table says, and has so many windows. -/
theorem winsT_many (hL : 0 < L) (hM : Rise n M) (d t left : Nat) (hc : Can n L M t left) (hd : n + 2 ≤ t + d) (ht : t ≤ n + 1) : ((winsT n L M d t left).length : Int) = (outT n L M t left).2 := by
  induction d generalizing t left with
  | zero => omega
  | succ d ih =>
    unfold winsT
    by_cases h0 : left = 0
    · rw [if_pos h0, h0, outT_zero]; rfl
    rw [if_neg h0]
    by_cases hb : begT n L M t left = outT n L M t left
    · rw [if_pos hb]
      obtain ⟨c1, c2, c3, c4, c5, c6, c7, c8⟩ := can_take hL hM h0 hc hb
      rw [List.length_cons, Int.natCast_add, ih _ _ c7 (by omega) (by omega)]
      have hx : ∀ left t, t ≤ n → (inT n L M t left).1 ≤ 2000 → (inT n L M t left).2 = (endT n L M (inEnd n L M left t).1 (inEnd n L M left t).2).2 := by
        intro left
        induction left with
        | zero => intro t ht _; simp only [inEnd]; rw [(inT_zero ht).1, (inT_zero ht).2]
        | succ k ih2 =>
          intro t ht hf
          unfold inEnd
          by_cases he : endT n L M t (k + 1) = inT n L M t (k + 1)
          · rw [if_pos he, he]
          · rw [if_neg he]
            have hs := inT_step (L := L) (M := M) ht (k + 1)
            have hg : inT n L M t (k + 1) = goneT n L M t (k + 1) := by
              rcases betC_or (goneT n L M t (k + 1)) (endT n L M t (k + 1)) with h | h
              · rw [hs, h]
              · exact absurd (by rw [hs, h]) he
            have hlt : t < n := by
              rcases Nat.lt_or_ge t n with h | h
              · exact h
              · rw [hg] at hf
                unfold goneT at hf
                rw [if_neg (by omega)] at hf
                simp [nevC] at hf
            have hg2 : goneT n L M t (k + 1) = plusC (inT n L M (t + 1) k) (M (t + 1) - M t) 0 := by unfold goneT; rw [if_pos ⟨hlt, by omega⟩]; rfl
            have h1 : (inT n L M t (k + 1)).1 = (inT n L M (t + 1) k).1 + (M (t + 1) - M t) := by rw [hg, hg2]; rfl
            have h2 : (inT n L M t (k + 1)).2 = (inT n L M (t + 1) k).2 := by rw [hg, hg2]; unfold plusC; simp
            have hm := hM t (t + 1) (by omega) (by omega)
            rw [h2]
            exact ih2 (t + 1) (by omega) (by omega)
      have hbe : begT n L M t left = plusC (inT n L M (t + L) (left - L)) (M (t + L) - M t) 1 := by unfold begT; rw [if_pos ⟨c1, c2⟩]
      have h1 : (outT n L M t left).2 = (inT n L M (t + L) (left - L)).2 + 1 := by rw [← hb, hbe]; rfl
      rw [h1, hx _ _ c1 c3]
      unfold endT
      generalize inEnd n L M (left - L) (t + L) = p at *
      obtain ⟨q, l2⟩ := p
      simp only at *
      rcases Nat.lt_or_ge q n with h | h
      · rw [show min (q + 1) n = q + 1 by omega]; rfl
      · obtain rfl : q = n := by omega
        rcases c7 with h2 | ⟨h2, _⟩
        · rw [h2, outT_zero, outT_zero]; rfl
        · omega
    · rw [if_neg hb]
      obtain ⟨hc2, he⟩ := can_skip hL h0 hc hb
      have hlt : t < n := by
        rcases hc with h | h
        · exact absurd h h0
        · exact h.1
      rw [ih _ _ hc2 (by omega) (by omega), he]
/-- Of the ways that cost as little it is the one that begins and ends first. -/
theorem winsT_lex (hL : 0 < L) (hM : Rise n M) : ∀ (d t left : Nat), Can n L M t left → n + 2 ≤ t + d → t ≤ n + 1 → ∀ l, WinW n L t l → longW l = left → outT n L M t left = (costW M l, (l.length : Int)) → leW (winsT n L M d t left) l
  | 0, t, left, hc, hd, ht, l, hw, hlg, hco => by omega
  | d + 1, t, left, hc, hd, ht, l, hw, hlg, hco => by
    unfold winsT
    by_cases h0 : left = 0
    · rw [if_pos h0]; exact trivial
    rw [if_neg h0]
    have htn : t < n := by
      rcases hc with h | h
      · exact absurd h h0
      · exact h.1
    cases l with
    | nil => exact absurd hlg.symm h0
    | cons p r =>
      obtain ⟨a, b⟩ := p
      obtain ⟨w1, w2, w3, w4⟩ := hw
      have hl : left = (b - a) + longW r := hlg.symm
      have hcc : costW M ((a, b) :: r) = (M b - M a) + costW M r := rfl
      have hlen : (((a, b) :: r).length : Int) = r.length + 1 := by simp
      have ihr : leC (endT n L M b (longW r)) (costW M r, (r.length : Int)) := by
        unfold endT
        rcases Nat.lt_or_ge b n with h | h
        · rw [show min (b + 1) n = b + 1 by omega]
          exact out_low hL r (b + 1) (by omega) w4
        · have hr := wins_none hL w4 (by omega)
          rw [hr]
          show leC (outT n L M _ 0) (0, 0)
          rw [outT_zero]
          exact leC_refl _
      have e1 := in_end (L := L) (M := M) (left := longW r) w3
      have e2 := in_reach (n := n) (L := L) (M := M) (left - L) (b - a - L) (a + L) (by omega) (by omega)
      rw [show a + L + (b - a - L) = b by omega, show left - L - (b - a - L) = longW r by omega] at e2
      have hba : begT n L M a left = plusC (inT n L M (a + L) (left - L)) (M (a + L) - M a) 1 := by unfold begT; rw [if_pos ⟨by omega, by omega⟩]
      have e4 := (betC_lex (begT n L M a left) (outT n L M (a + 1) left)).1
      rw [← outT_step hL (by omega) h0] at e4
      have e6 := out_mono (n := n) (M := M) hL left (a - t) t (by omega)
      rw [show t + (a - t) = a by omega] at e6
      have hval : outT n L M t left = plusC (plusC (costW M r, (r.length : Int)) (M b - M (a + L)) 0) (M (a + L) - M a) 1 := by
        rw [hco, hcc, hlen]
        unfold plusC
        rw [Prod.mk.injEq]
        simp only
        omega
      -- all of it is equal along the way
      have s1 : leC (begT n L M a left) (plusC (plusC (endT n L M b (longW r)) (M b - M (a + L)) 0) (M (a + L) - M a) 1) := by rw [hba]; exact leC_plus (leC_trans e2 (leC_plus e1 _ _)) _ _
      have s2 : leC (plusC (plusC (endT n L M b (longW r)) (M b - M (a + L)) 0) (M (a + L) - M a) 1) (outT n L M t left) := by rw [hval]; exact leC_plus (leC_plus ihr _ _) _ _
      have q1 : begT n L M a left = outT n L M t left := leC_anti (leC_trans s1 s2) (leC_trans e6 e4)
      have q2 : endT n L M b (longW r) = (costW M r, (r.length : Int)) := by
        refine leC_anti ihr ?_
        have h := leC_trans e6 (leC_trans e4 s1)
        rw [hval] at h
        generalize endT n L M b (longW r) = x at *
        unfold leC plusC at h
        unfold leC
        simp only at h ⊢
        omega
      have q3 : inT n L M b (longW r) = endT n L M b (longW r) := by
        refine leC_anti e1 ?_
        have h : leC (outT n L M t left) (begT n L M a left) := leC_trans e6 e4
        rw [hba, hval, ← q2] at h
        generalize endT n L M b (longW r) = x at *
        generalize inT n L M b (longW r) = y at *
        generalize inT n L M (a + L) (left - L) = z at *
        unfold leC plusC at h e2
        unfold leC
        simp only at h e2 ⊢
        omega
      have q4 : inT n L M (a + L) (left - L) = plusC (inT n L M b (longW r)) (M b - M (a + L)) 0 := by
        refine leC_anti e2 ?_
        rw [hba, hval, ← q2, ← q3] at q1
        generalize inT n L M b (longW r) = y at *
        generalize inT n L M (a + L) (left - L) = z at *
        unfold plusC at q1
        rw [Prod.mk.injEq] at q1
        simp only at q1
        unfold leC plusC
        simp only
        omega
      by_cases hb : begT n L M t left = outT n L M t left
      · rw [if_pos hb]
        obtain ⟨c1, c2, c3, c4, c5, c6, c7, c8⟩ := can_take hL hM h0 hc hb
        rcases Nat.lt_or_ge t a with h | h
        · exact .inl h
        obtain rfl : a = t := by omega
        have hf := inEnd_first (n := n) (L := L) (M := M) (left - L) (a + L) b (by omega) w3 (by omega) (by rw [show left - L - (b - (a + L)) = longW r by omega]; exact q4) (by rw [show left - L - (b - (a + L)) = longW r by omega]; exact q3.symm)
        generalize inEnd n L M (left - L) (a + L) = p at *
        obtain ⟨q, l2⟩ := p
        simp only at *
        refine .inr ⟨rfl, ?_⟩
        rcases Nat.lt_or_ge q b with h2 | h2
        · exact .inl h2
        obtain rfl : q = b := by omega
        refine .inr ⟨rfl, ?_⟩
        have hl2 : l2 = longW r := by omega
        subst hl2
        refine winsT_lex hL hM d (q + 1) (longW r) c7 (by omega) (by omega) r w4 rfl ?_
        unfold endT at q2
        rcases Nat.lt_or_ge q n with h3 | h3
        · rwa [show min (q + 1) n = q + 1 by omega] at q2
        · have hr := wins_none hL w4 (by omega)
          rw [hr]
          exact outT_zero _
      · rw [if_neg hb]
        obtain ⟨hc2, he⟩ := can_skip hL h0 hc hb
        have hat : a ≠ t := fun h => hb (by rw [← h] at q1 ⊢; exact q1)
        exact winsT_lex hL hM d (t + 1) left hc2 (by omega) (by omega) ((a, b) :: r) ⟨by omega, w2, w3, w4⟩ hlg (by rw [← he]; exact hco)
end
end Go.Proofs.Ytlbhphfmckhimaa
