/- Plain law: in the windows of grey light it is grey at their beginnings, and not at their ends. No program in sight. -/
import Derived.Test.YtngdjeggigkmlaaDoorWinPlain
namespace Go.Proofs.YtngdjeggigkmlaaDoor
set_option linter.unusedVariables false

/-- Windows that are closed before x. -/
structure WinShut (f : Int → Bool) (a zt x : Int) (r : List (Int × Int)) : Prop where
  each : ∀ p ∈ r, a ≤ p.1 ∧ f p.1 = true ∧ p.1 < p.2 ∧ p.2 < x ∧ p.2 < zt ∧ f p.2 = false
  ord : r.Pairwise (fun p q => p.2 < q.1)
structure WinGood (f : Int → Bool) (a zt : Int) (l : List (Int × Int)) : Prop where
  each : ∀ p ∈ l, a ≤ p.1 ∧ f p.1 = true ∧ p.1 < p.2 ∧ p.2 ≤ zt ∧ (p.2 < zt → f p.2 = false)
  ord : l.Pairwise (fun p q => p.2 < q.1)
theorem WinShut.good {f : Int → Bool} {a zt x : Int} {r : List (Int × Int)} (h : WinShut f a zt x r) : WinGood f a zt r :=
  ⟨fun p hp => by have := h.each p hp; exact ⟨this.1, this.2.1, this.2.2.1, by omega, fun _ => this.2.2.2.2.2⟩, h.ord⟩
theorem WinShut.mono {f : Int → Bool} {a zt x y : Int} {r : List (Int × Int)} (h : WinShut f a zt x r) (hy : x ≤ y) : WinShut f a zt y r :=
  ⟨fun p hp => by have := h.each p hp; exact ⟨this.1, this.2.1, this.2.2.1, by omega, this.2.2.2.2⟩, h.ord⟩
theorem WinShut.goodSnoc {f : Int → Bool} {a zt u : Int} {r : List (Int × Int)} (h : WinShut f a zt u r) (h0 : a ≤ u) (h1 : u < zt) (hf : f u = true) : WinGood f a zt (r ++ [(u, zt)]) := by
  refine ⟨fun p hp => ?_, ?_⟩
  · rcases List.mem_append.1 hp with hp | hp
    · exact h.good.each p hp
    · simp only [List.mem_singleton] at hp
      subst hp
      exact ⟨h0, hf, h1, Int.le_refl _, fun hlt => absurd hlt (by simp)⟩
  · rw [List.pairwise_append]
    refine ⟨h.ord, by simp, fun p hp q hq => ?_⟩
    simp only [List.mem_singleton] at hq
    subst hq
    exact (h.each p hp).2.2.2.1
theorem WinShut.snoc {f : Int → Bool} {a zt u x y : Int} {r : List (Int × Int)} (h : WinShut f a zt u r) (h0 : a ≤ u) (hux : u < x) (h1 : x < zt) (hf : f u = true) (hg : f x = false) (hy : x < y) : WinShut f a zt y (r ++ [(u, x)]) := by
  refine ⟨fun p hp => ?_, ?_⟩
  · rcases List.mem_append.1 hp with hp | hp
    · have := h.each p hp
      exact ⟨this.1, this.2.1, this.2.2.1, by omega, this.2.2.2.2⟩
    · simp only [List.mem_singleton] at hp
      subst hp
      exact ⟨h0, hf, hux, hy, h1, hg⟩
  · rw [List.pairwise_append]
    refine ⟨h.ord, by simp, fun p hp q hq => ?_⟩
    simp only [List.mem_singleton] at hq
    subst hq
    exact (h.each p hp).2.2.2.1
theorem winRun_good (f : Int → Bool) (a every zt : Int) (he : 1 ≤ every) : ∀ (n : Nat) (x : Int),
    (∀ r, a ≤ x → WinShut f a zt x r → WinGood f a zt (winRun f every zt n x (r, false)).1) ∧
    (∀ r u, a ≤ u → u < x → u < zt → f u = true → WinShut f a zt u r → WinGood f a zt (winRun f every zt n x (r ++ [(u, zt)], true)).1) := by
  intro n
  induction n with
  | zero => exact fun x => ⟨fun r _ h => h.good, fun r u h0 h1 h2 hf h => h.goodSnoc h0 h2 hf⟩
  | succ n ih =>
    intro x
    refine ⟨fun r ha h => ?_, fun r u h0 h1 h2 hf h => ?_⟩
    · rw [winRun]
      by_cases hx : x < zt
      · rw [if_pos hx]
        cases hfx : f x
        · have e : winStep zt false (r, false) x = (r, false) := by simp [winStep]
          rw [e]
          exact (ih (x + every)).1 r (by omega) (h.mono (by omega))
        · have e : winStep zt true (r, false) x = (r ++ [(x, zt)], true) := by simp [winStep]
          rw [e]
          exact (ih (x + every)).2 r x ha (by omega) hx hfx h
      · rw [if_neg hx]
        exact h.good
    · rw [winRun]
      by_cases hx : x < zt
      · rw [if_pos hx]
        cases hfx : f x
        · have e : winStep zt false (r ++ [(u, zt)], true) x = (r ++ [(u, x)], false) := by simp [winStep, setTo]
          rw [e]
          exact (ih (x + every)).1 _ (by omega) (h.snoc h0 h1 hx hf hfx (by omega))
        · have e : winStep zt true (r ++ [(u, zt)], true) x = (r ++ [(u, zt)], true) := by simp [winStep]
          rw [e]
          exact (ih (x + every)).2 r u h0 (by omega) h2 hf h
      · rw [if_neg hx]
        exact h.goodSnoc h0 h2 hf
theorem winAll_good (f : Int → Bool) (a every zt : Int) (he : 1 ≤ every) : WinGood f a zt (winAll f a every zt) :=
  (winRun_good f a every zt he _ a).1 [] (Int.le_refl _) ⟨by simp, by simp⟩
/-- A window, and the one before it. -/
theorem WinGood.step {f : Int → Bool} {a zt : Int} {l : List (Int × Int)} (h : WinGood f a zt l) (k : Nat) (hk : k + 1 < l.length) : l[k].2 < l[k + 1].1 :=
  List.pairwise_iff_getElem.1 h.ord k (k + 1) (by omega) hk (by omega)
theorem lightI_bd {f : Int → Bool} {a zt every : Int} (h : a ≤ zt) (he : 0 ≤ every) : 0 ≤ lightI f a zt every ∧ lightI f a zt every ≤ zt - a := by
  have h0 : 0 ≤ (cntAll f a every zt : Int) * every := Int.mul_nonneg (by omega) he
  unfold lightI
  split <;> omega
end Go.Proofs.YtngdjeggigkmlaaDoor
