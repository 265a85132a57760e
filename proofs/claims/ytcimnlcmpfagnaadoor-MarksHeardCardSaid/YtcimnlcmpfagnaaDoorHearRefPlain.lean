/- The plain side of hearing the document's way: from the greatest unit down; and of merging. No condition. -/
import Derived.Test.YtcimnlcmpfagnaaDoorHearPlain
import Derived.Test.YtcimnlcmpfagnaaDoorCleanPlain
namespace Go.Proofs.YtcimnlcmpfagnaaDoor
set_option linter.unusedVariables false
set_option linter.unusedSimpArgs false

/-- The unit with the least deviation among 2000, 1999, .., so many. -/
def downTo (l : List Int) : Nat → Int × Int
  | 0 => (0, 0)
  | k + 1 => if (downTo l k).1 = 0 ∨ offL l (2000 - (k : Int)) < (downTo l k).2 then (2000 - (k : Int), offL l (2000 - (k : Int))) else downTo l k
theorem downTo_ok (l : List Int) (k : Nat) : 0 < k → k ≤ 2000 → 2000 - (k : Int) < (downTo l k).1 ∧ (downTo l k).1 ≤ 2000 ∧ (downTo l k).2 = offL l (downTo l k).1 ∧
    ∀ u : Int, 2000 - (k : Int) < u → u ≤ 2000 → (downTo l k).2 ≤ offL l u ∧ (offL l u = (downTo l k).2 → u ≤ (downTo l k).1) := by
  induction k with
  | zero => intro h; omega
  | succ k ih =>
    intro _ hk
    unfold downTo
    rcases Nat.eq_zero_or_pos k with h0 | h0
    · subst h0
      rw [if_pos (.inl rfl)]
      refine ⟨by simp, by simp, rfl, fun u h1 h2 => ?_⟩
      have : u = 2000 - ((0 : Nat) : Int) := by push_cast at h1 ⊢; omega
      subst this
      exact ⟨Int.le_refl _, fun _ => Int.le_refl _⟩
    · obtain ⟨i1, i2, i3, i4⟩ := ih h0 (by omega)
      split
      · rename_i h
        have h' : offL l (2000 - (k : Int)) < (downTo l k).2 := by
          rcases h with h | h
          · omega
          · exact h
        refine ⟨by simp only; push_cast; omega, by simp only; omega, rfl, fun u h1 h2 => ?_⟩
        push_cast at h1
        by_cases hu : u = 2000 - (k : Int)
        · subst hu; exact ⟨Int.le_refl _, fun _ => Int.le_refl _⟩
        · have := (i4 u (by omega) h2).1
          exact ⟨by simp only; omega, fun e => by simp only at e ⊢; omega⟩
      · rename_i h
        have h' : (downTo l k).2 ≤ offL l (2000 - (k : Int)) := by omega
        refine ⟨by push_cast; omega, i2, i3, fun u h1 h2 => ?_⟩
        push_cast at h1
        by_cases hu : u = 2000 - (k : Int)
        · subst hu; exact ⟨h', fun e => by omega⟩
        · exact i4 u (by omega) h2
theorem down_hear (l : List Int) : downTo l 2000 = hearTo l 2000 := by
  obtain ⟨a1, a2, a3, a4⟩ := downTo_ok l 2000 (by decide) (Nat.le_refl _)
  obtain ⟨b1, b2, b3, b4⟩ := hearTo_ok l 2000 (by decide)
  have e20 : ((2000 : Nat) : Int) = 2000 := rfl
  rw [e20] at a1 b2 a4 b4
  obtain ⟨c1, c2⟩ := a4 (hearTo l 2000).1 (by omega) (by omega)
  obtain ⟨d1, d2⟩ := b4 (downTo l 2000).1 (by omega) (by omega)
  rw [← a3] at d1 d2
  rw [← b3] at c1 c2
  have e2 : (downTo l 2000).2 = (hearTo l 2000).2 := by omega
  have e1 : (downTo l 2000).1 = (hearTo l 2000).1 := by
    have := c2 e2.symm
    have := d2 e2
    omega
  exact Prod.ext e1 e2

/-- Merging, from place i on, with what was put out: the elements of one sort that are shorter come together with those beside them. -/
def mgS (sort : Nat) (least : Int) (l : List Int) : Nat → Nat → List Int → List Int
  | 0, _, out => out
  | f + 1, i, out =>
    if i < l.length then
      (if i % 2 = sort ∧ l.getD i 0 < least ∧ 0 < out.length ∧ i + 1 < l.length then mgS sort least l f (i + 2) (out.set (out.length - 1) (out.getD (out.length - 1) 0 + (l.getD i 0 + l.getD (i + 1) 0)))
      else mgS sort least l f (i + 1) (out ++ [l.getD i 0]))
    else out
def mgL (sort : Nat) (least : Int) (l : List Int) : List Int := mgS sort least l (l.length + 1) 0 []
theorem mgS_more (sort : Nat) (least : Int) (l : List Int) : ∀ (f f' i : Nat) (out : List Int), l.length < f + i → l.length < f' + i → mgS sort least l f i out = mgS sort least l f' i out
  | 0, f', i, out, h, h' => by
    cases f' with
    | zero => rfl
    | succ f' => rw [mgS, mgS, if_neg (by omega)]
  | f + 1, 0, i, out, h, h' => by rw [mgS, mgS, if_neg (by omega)]
  | f + 1, f' + 1, i, out, h, h' => by
    rw [mgS, mgS]
    by_cases hi : i < l.length
    · rw [if_pos hi, if_pos hi]
      split
      · exact mgS_more sort least l f f' (i + 2) _ (by omega) (by omega)
      · exact mgS_more sort least l f f' (i + 1) _ (by omega) (by omega)
    · rw [if_neg hi, if_neg hi]
theorem closedTo_pos (least : Int) (l : List Int) (k : Nat) : 0 < (closedTo least l k).length := by
  induction k with
  | zero => simp [closedTo]
  | succ k ih => unfold closedTo stepC; split <;> simp <;> omega
/-- Merging gaps is closing. -/
theorem mg_gaps (least : Int) (l : List Int) (ho : l.length % 2 = 1) : mgL 1 least l = closedL least l := by
  have key : ∀ (d k f : Nat), d + k = l.length / 2 → l.length < f + (2 * k + 1) → mgS 1 least l f (2 * k + 1) (closedTo least l k) = closedL least l := by
    intro d
    induction d with
    | zero =>
      intro k f hd hf
      have hk : k = l.length / 2 := by omega
      subst hk
      cases f with
      | zero => rfl
      | succ f => rw [mgS, if_neg (by omega)]; rfl
    | succ d ih =>
      intro k f hd hf
      have hp := closedTo_pos least l k
      rw [mgS_more 1 least l f (l.length + 2) (2 * k + 1) _ hf (by omega), mgS, if_pos (by omega)]
      have hnext : closedTo least l (k + 1) = stepC least (closedTo least l k) (l.getD (2 * k + 1) 0) (l.getD (2 * k + 2) 0) := rfl
      by_cases hs : l.getD (2 * k + 1) 0 < least
      · rw [if_pos ⟨by omega, hs, hp, by omega⟩]
        have := ih (k + 1) (l.length + 1) (by omega) (by omega)
        rw [hnext, stepC, if_pos hs] at this
        rw [← this, show 2 * k + 1 + 2 = 2 * (k + 1) + 1 from by omega]
      · rw [if_neg (by intro h; exact hs h.2.1), mgS, if_pos (by omega), if_neg (by omega)]
        have := ih (k + 1) l.length (by omega) (by omega)
        rw [hnext, stepC, if_neg hs] at this
        rw [← this, List.append_assoc, show 2 * k + 1 + 1 + 1 = 2 * (k + 1) + 1 from by omega]
        rfl
  unfold mgL
  rw [mgS, if_pos (by omega), if_neg (by omega)]
  have := key (l.length / 2) 0 l.length (by omega) (by omega)
  rw [← this]
  rfl
/-- Merging marks is cleaning. -/
theorem mg_marks (least : Int) (l : List Int) (ho : l.length % 2 = 1) : mgL 0 least l = cleanTo least l (l.length / 2) := by
  have key : ∀ (d k f : Nat) (R : List Int), d + k = l.length / 2 → l.length < f + 2 * k → (k = 0 ↔ R = []) → cleanTo least l k = R ++ [l.getD (2 * k) 0] → mgS 0 least l f (2 * k) R = cleanTo least l (l.length / 2) := by
    intro d
    induction d with
    | zero =>
      intro k f R hd hf hR hc
      have hk : k = l.length / 2 := by omega
      rw [mgS_more 0 least l f (l.length + 2) (2 * k) _ hf (by omega), mgS, if_pos (by omega), if_neg (by omega), mgS, if_neg (by omega), ← hc, hk]
    | succ d ih =>
      intro k f R hd hf hR hc
      rw [mgS_more 0 least l f (l.length + 3) (2 * k) _ hf (by omega), mgS, if_pos (by omega)]
      have hnext : cleanTo least l (k + 1) = stepD least (cleanTo least l k) (l.getD (2 * k) 0) (l.getD (2 * k + 1) 0) (l.getD (2 * k + 2) 0) := rfl
      rw [hc] at hnext
      have hlast : (R ++ [l.getD (2 * k) 0]).getD ((R ++ [l.getD (2 * k) 0]).length - 1) 0 = l.getD (2 * k) 0 := by
        rw [List.length_append, List.length_singleton, Nat.add_sub_cancel, List.getD_eq_getElem?_getD, List.getElem?_append_right (Nat.le_refl _)]
        simp
      by_cases hs : l.getD (2 * k) 0 < least ∧ 0 < R.length
      · rw [if_pos ⟨by omega, hs.1, hs.2, by omega⟩]
        have hne : R ≠ [] := by intro e; have := hs.2; rw [e] at this; simp at this
        have e2 : cleanTo least l (k + 1) = R.set (R.length - 1) (R.getD (R.length - 1) 0 + (l.getD (2 * k) 0 + l.getD (2 * k + 1) 0)) ++ [l.getD (2 * (k + 1)) 0] := by
          rw [hnext, stepD, if_pos (by rw [hlast, List.length_append, List.length_singleton, Nat.add_sub_cancel]; exact hs)]
          rw [List.length_append, List.length_singleton, Nat.add_sub_cancel, List.take_left]
          congr 2
          rw [List.getD_eq_getElem?_getD, List.getElem?_append_left (by omega), ← List.getD_eq_getElem?_getD]
        refine ih (k + 1) (l.length + 2) _ (by omega) (by omega) ?_ e2
        constructor
        · intro h; omega
        · intro h
          have := congrArg List.length h
          rw [List.length_set, List.length_nil] at this
          omega
      · rw [if_neg (by intro h; exact hs ⟨h.2.1, h.2.2.1⟩), mgS, if_pos (by omega), if_neg (by omega)]
        have e2 : cleanTo least l (k + 1) = (R ++ [l.getD (2 * k) 0] ++ [l.getD (2 * k + 1) 0]) ++ [l.getD (2 * (k + 1)) 0] := by
          rw [hnext, stepD, if_neg (by rw [hlast, List.length_append, List.length_singleton, Nat.add_sub_cancel]; exact hs)]
          simp [List.append_assoc, Nat.mul_add]
        refine ih (k + 1) (l.length + 1) _ (by omega) (by omega) ?_ e2
        constructor
        · intro h; omega
        · intro h; simp at h
  exact key (l.length / 2) 0 (l.length + 1) [] (by omega) (by omega) (by simp) (by simp [cleanTo])
end Go.Proofs.YtcimnlcmpfagnaaDoor
