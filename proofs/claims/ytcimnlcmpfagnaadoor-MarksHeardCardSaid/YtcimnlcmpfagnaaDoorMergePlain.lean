/- The plain side of the document's merged: closing gaps, and putting short marks away, are one and the same walk. No condition. -/
import Derived.Test.YtcimnlcmpfagnaaDoorCleanPlain
namespace Go.Proofs.YtcimnlcmpfagnaaDoor
set_option linter.unusedVariables false
set_option linter.unusedSimpArgs false

/-- merged from place i on, with what is laid out already. -/
def mrgF (sort : Nat) (least : Int) (l : List Int) : Nat → Nat → List Int → List Int
  | 0, _, o => o
  | f + 1, i, o => if i < l.length then
      (if i % 2 = sort ∧ l.getD i 0 < least ∧ 0 < o.length ∧ i + 1 < l.length then mrgF sort least l f (i + 2) (o.set (o.length - 1) (o.getD (o.length - 1) 0 + (l.getD i 0 + l.getD (i + 1) 0)))
       else mrgF sort least l f (i + 1) (o ++ [l.getD i 0]))
    else o
def mergedL (sort : Nat) (least : Int) (l : List Int) : List Int := mrgF sort least l l.length 0 []
theorem mrgF_end (sort : Nat) (least : Int) (l : List Int) (f i : Nat) (o : List Int) (h : l.length ≤ i) : mrgF sort least l f i o = o := by
  cases f with
  | zero => rfl
  | succ f => unfold mrgF; rw [if_neg (by omega)]
theorem mrgF_join {sort : Nat} {least : Int} {l : List Int} {f i : Nat} {o : List Int} (h : i < l.length) (h1 : i % 2 = sort) (h2 : l.getD i 0 < least) (h3 : 0 < o.length) (h4 : i + 1 < l.length) :
    mrgF sort least l (f + 1) i o = mrgF sort least l f (i + 2) (o.set (o.length - 1) (o.getD (o.length - 1) 0 + (l.getD i 0 + l.getD (i + 1) 0))) := by
  rw [mrgF, if_pos h, if_pos ⟨h1, h2, h3, h4⟩]
theorem mrgF_add {sort : Nat} {least : Int} {l : List Int} {f i : Nat} {o : List Int} (h : i < l.length) (h1 : ¬ (i % 2 = sort ∧ l.getD i 0 < least ∧ 0 < o.length ∧ i + 1 < l.length)) :
    mrgF sort least l (f + 1) i o = mrgF sort least l f (i + 1) (o ++ [l.getD i 0]) := by
  rw [mrgF, if_pos h, if_neg h1]
theorem closedTo_pos (least : Int) (l : List Int) (k : Nat) : 0 < (closedTo least l k).length := by
  induction k with
  | zero => simp [closedTo]
  | succ k ih =>
    unfold closedTo stepC
    split
    · rw [List.length_set]; exact ih
    · rw [List.length_append]; omega
theorem mrg_gaps (least : Int) (l : List Int) : ∀ (m k f : Nat), l.length = 2 * (k + m) + 1 → l.length ≤ 2 * k + 1 + f → mrgF 1 least l f (2 * k + 1) (closedTo least l k) = closedTo least l (k + m)
  | 0, k, f, h, _ => mrgF_end _ _ _ _ _ _ (by omega)
  | m + 1, k, f, h, hf => by
    obtain ⟨f, rfl⟩ : ∃ f', f = f' + 1 := ⟨f - 1, by omega⟩
    have hp := closedTo_pos least l k
    by_cases hg : l.getD (2 * k + 1) 0 < least
    · rw [mrgF_join (by omega) (by omega) hg hp (by omega)]
      have e : closedTo least l (k + 1) = (closedTo least l k).set ((closedTo least l k).length - 1) ((closedTo least l k).getD ((closedTo least l k).length - 1) 0 + (l.getD (2 * k + 1) 0 + l.getD (2 * k + 1 + 1) 0)) := by
        show stepC _ _ _ _ = _
        unfold stepC; rw [if_pos hg]
      rw [← e]
      have := mrg_gaps least l m (k + 1) f (by omega) (by omega)
      rw [show 2 * (k + 1) + 1 = 2 * k + 1 + 2 by omega, show k + 1 + m = k + (m + 1) by omega] at this
      exact this
    · obtain ⟨f, rfl⟩ : ∃ f', f = f' + 1 := ⟨f - 1, by omega⟩
      rw [mrgF_add (by omega) (fun h => hg h.2.1), mrgF_add (by omega) (fun h => by omega)]
      have e : closedTo least l (k + 1) = closedTo least l k ++ [l.getD (2 * k + 1) 0] ++ [l.getD (2 * k + 1 + 1) 0] := by
        show stepC _ _ _ _ = _
        unfold stepC; rw [if_neg hg]; simp
      rw [← e]
      have := mrg_gaps least l m (k + 1) f (by omega) (by omega)
      rw [show 2 * (k + 1) + 1 = 2 * k + 1 + 1 + 1 by omega, show k + 1 + m = k + (m + 1) by omega] at this
      exact this
theorem merged_gaps (least : Int) (l : List Int) (ho : l.length % 2 = 1) : mergedL 1 least l = closedL least l := by
  unfold mergedL closedL
  obtain ⟨f, hf⟩ : ∃ f, l.length = f + 1 := ⟨l.length - 1, by omega⟩
  rw [show mrgF 1 least l l.length 0 [] = mrgF 1 least l (f + 1) 0 [] by rw [hf], mrgF_add (by omega) (fun h => by omega)]
  have := mrg_gaps least l (l.length / 2) 0 f (by omega) (by omega)
  rw [show 0 + l.length / 2 = l.length / 2 from Nat.zero_add _] at this
  exact this
theorem mrg_marks (least : Int) (l : List Int) : ∀ (m k f : Nat) (M : List Int), l.length = 2 * (k + m) + 1 → l.length ≤ 2 * k + f → cleanTo least l k = M ++ [l.getD (2 * k) 0] → mrgF 0 least l f (2 * k) M = cleanTo least l (k + m)
  | 0, k, f, M, h, hf, hM => by
    obtain ⟨f, rfl⟩ : ∃ f', f = f' + 1 := ⟨f - 1, by omega⟩
    rw [mrgF_add (by omega) (fun h => by omega), mrgF_end _ _ _ _ _ _ (by omega), ← hM]; rfl
  | m + 1, k, f, M, h, hf, hM => by
    obtain ⟨f, rfl⟩ : ∃ f', f = f' + 1 := ⟨f - 1, by omega⟩
    have hl : (cleanTo least l k).length = M.length + 1 := by rw [hM]; simp
    have e : cleanTo least l (k + 1) = stepD least (cleanTo least l k) (l.getD (2 * k) 0) (l.getD (2 * k + 1) 0) (l.getD (2 * k + 2) 0) := rfl
    have hlast : (cleanTo least l k).getD M.length 0 = l.getD (2 * k) 0 := by rw [hM, List.getD_eq_getElem?_getD, List.getElem?_append_right (by omega)]; simp
    unfold stepD at e
    rw [hl, Nat.add_sub_cancel, hlast] at e
    by_cases hc : l.getD (2 * k) 0 < least ∧ 0 < M.length
    · rw [if_pos hc] at e
      have h1 : (cleanTo least l k).take M.length = M := by rw [hM]; simp
      have h2 : (cleanTo least l k).getD (M.length - 1) 0 = M.getD (M.length - 1) 0 := by
        rw [hM, List.getD_eq_getElem?_getD, List.getElem?_append_left (by omega), ← List.getD_eq_getElem?_getD]
      rw [h1, h2] at e
      rw [mrgF_join (by omega) (by omega) hc.1 hc.2 (by omega)]
      have := mrg_marks least l m (k + 1) f _ (by omega) (by omega) e
      rw [show 2 * (k + 1) = 2 * k + 2 by omega, show k + 1 + m = k + (m + 1) by omega] at this
      exact this
    · rw [if_neg hc] at e
      obtain ⟨f, rfl⟩ : ∃ f', f = f' + 1 := ⟨f - 1, by omega⟩
      rw [mrgF_add (by omega) (fun h => hc ⟨h.2.1, h.2.2.1⟩), mrgF_add (by omega) (fun h => by omega)]
      have e2 : cleanTo least l (k + 1) = (M ++ [l.getD (2 * k) 0] ++ [l.getD (2 * k + 1) 0]) ++ [l.getD (2 * (k + 1)) 0] := by
        rw [e, hM]; simp [Nat.mul_add]
      have := mrg_marks least l m (k + 1) f _ (by omega) (by omega) e2
      rw [show 2 * (k + 1) = 2 * k + 1 + 1 by omega, show k + 1 + m = k + (m + 1) by omega] at this
      exact this
theorem merged_marks (least : Int) (l : List Int) (ho : l.length % 2 = 1) : mergedL 0 least l = cleanTo least l (l.length / 2) := by
  have := mrg_marks least l (l.length / 2) 0 l.length [] (by omega) (by omega) rfl
  rw [show 0 + l.length / 2 = l.length / 2 from Nat.zero_add _] at this
  exact this

/-! ### What is laid out stays positive, and adds up to what was taken. -/
structure MrgAt (l : List Int) (i : Nat) (o : List Int) : Prop where
  pos : ∀ x ∈ o, 1 ≤ x
  sum : o.sum = (l.take i).sum
  few : o.length ≤ i
theorem mrgAt_start (l : List Int) : MrgAt l 0 [] := ⟨by simp, by simp, by simp⟩
theorem mrgAt_add {l : List Int} {i : Nat} {o : List Int} (h : MrgAt l i o) (hi : i < l.length) (hp : ∀ x ∈ l, 1 ≤ x) : MrgAt l (i + 1) (o ++ [l.getD i 0]) := by
  have hg := getD_mem hi
  refine ⟨fun x hx => ?_, ?_, by have := h.few; simp; omega⟩
  · rcases List.mem_append.1 hx with hx | hx
    · exact h.pos x hx
    · simp at hx; subst hx; exact hp _ (by simpa [List.getD_eq_getElem?_getD] using hg)
  · rw [sum_app, h.sum, List.take_succ_eq_append_getElem hi, sum_app, List.getD_eq_getElem?_getD, List.getElem?_eq_getElem hi]; rfl
theorem mrgAt_join {l : List Int} {i : Nat} {o : List Int} (h : MrgAt l i o) (hi : i + 1 < l.length) (ho : 0 < o.length) (hp : ∀ x ∈ l, 1 ≤ x) : MrgAt l (i + 2) (o.set (o.length - 1) (o.getD (o.length - 1) 0 + (l.getD i 0 + l.getD (i + 1) 0))) := by
  have h1 := hp _ (getD_mem (l := l) (i := i) (by omega))
  have h2 := hp _ (getD_mem hi)
  have h3 := h.pos _ (getD_mem (l := o) (i := o.length - 1) (by omega))
  refine ⟨fun x hx => ?_, ?_, by have := h.few; rw [List.length_set]; omega⟩
  · rcases set_mem hx with rfl | hx
    · omega
    · exact h.pos x hx
  · have hs := sum_set o (o.length - 1) (o.getD (o.length - 1) 0 + (l.getD i 0 + l.getD (i + 1) 0)) (by omega)
    have ht := h.sum
    rw [take_two l i hi, sum_app]
    simp only [List.sum_cons, List.sum_nil]
    omega
end Go.Proofs.YtcimnlcmpfagnaaDoor
