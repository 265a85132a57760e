/- Plain law: what is cleaned has nothing that is shorter, and is not cleaned again. No condition. -/
import Derived.Test.YtlodmkdhlmineaaGreatDoorInts
namespace Go.Proofs.YtlodmkdhlmineaaGreatDoor
set_option linter.unusedVariables false

theorem sum_set (l : List Int) (i : Nat) (v : Int) (h : i < l.length) : (l.set i v).sum + l.getD i 0 = l.sum + v := by
  induction l generalizing i with
  | nil => simp at h
  | cons a r ih =>
    cases i with
    | zero => simp; omega
    | succ i =>
      have := ih i (by simpa using h)
      simp only [List.set_cons_succ, List.sum_cons, List.getD_cons_succ]
      omega
theorem sum_app (a b : List Int) : (a ++ b).sum = a.sum + b.sum := by
  induction a with
  | nil => simp
  | cons x r ih => simp only [List.cons_append, List.sum_cons, ih]; omega
theorem sum_pos {l : List Int} (h : ∀ x ∈ l, 1 ≤ x) : (l.length : Int) ≤ l.sum := by
  induction l with
  | nil => simp
  | cons x r ih =>
    have h1 := h x (by simp)
    have h2 := ih fun y hy => h y (by simp [hy])
    simp only [List.sum_cons, List.length_cons]
    omega
theorem mem_le_sum {l : List Int} (h : ∀ x ∈ l, 1 ≤ x) {y : Int} (hy : y ∈ l) : y ≤ l.sum := by
  induction l with
  | nil => simp at hy
  | cons x r ih =>
    have h1 := h x (by simp)
    have h2 : ∀ z ∈ r, 1 ≤ z := fun z hz => h z (by simp [hz])
    have h3 := sum_pos h2
    simp only [List.sum_cons]
    rcases List.mem_cons.1 hy with rfl | hy
    · omega
    · have := ih h2 hy; omega
theorem getD_mem {l : List Int} {i : Nat} (h : i < l.length) : l.getD i 0 ∈ l := by
  rw [List.getD_eq_getElem?_getD, List.getElem?_eq_getElem h]; exact List.getElem_mem h
theorem take_two (l : List Int) (k : Nat) (h : k + 1 < l.length) : l.take (k + 2) = l.take k ++ [l.getD k 0, l.getD (k + 1) 0] := by
  rw [show k + 2 = k + 1 + 1 from rfl, List.take_succ_eq_append_getElem h, List.take_succ_eq_append_getElem (show k < l.length by omega)]
  rw [List.getD_eq_getElem?_getD, List.getElem?_eq_getElem (show k < l.length by omega), List.getD_eq_getElem?_getD, List.getElem?_eq_getElem h, List.append_assoc]
  rfl

/-- A gap and a mark come behind marks and gaps: a gap that is shorter is closed. -/
def stepC (least : Int) (o : List Int) (g m : Int) : List Int := if g < least then o.set (o.length - 1) (o.getD (o.length - 1) 0 + (g + m)) else o ++ [g, m]
def closedTo (least : Int) (l : List Int) : Nat → List Int
  | 0 => [l.getD 0 0]
  | k + 1 => stepC least (closedTo least l k) (l.getD (2 * k + 1) 0) (l.getD (2 * k + 2) 0)
def closedL (least : Int) (l : List Int) : List Int := closedTo least l (l.length / 2)
/-- A gap and a mark come: where the mark ahead (x) is shorter, both gaps and it are one. -/
def stepD (least : Int) (o : List Int) (x g m : Int) : List Int :=
  if o.getD (o.length - 1) 0 < least ∧ 0 < o.length - 1 then ((o.take (o.length - 1)).set (o.length - 1 - 1) (o.getD (o.length - 1 - 1) 0 + (x + g))) ++ [m] else o ++ [g, m]
def cleanTo (least : Int) (l : List Int) : Nat → List Int
  | 0 => [l.getD 0 0]
  | k + 1 => stepD least (cleanTo least l k) (l.getD (2 * k) 0) (l.getD (2 * k + 1) 0) (l.getD (2 * k + 2) 0)
def trimH (least : Int) : List Int → List Int
  | [] => []
  | [x] => if x < least then [] else [x]
  | x :: y :: r => if x < least then trimH least r else x :: y :: r
def trimT (least : Int) (l : List Int) : List Int := (trimH least l.reverse).reverse
def trimB (least : Int) (l : List Int) : List Int := trimT least (trimH least l)
def cleanedL (least : Int) (l : List Int) : List Int := if trimB least l = [] then [] else cleanTo least (trimB least l) ((trimB least l).length / 2)
def cleanL (least : Int) (l : List Int) : List Int := cleanedL least (closedL least l)

theorem trimH_step (least : Int) (l : List Int) (h : 0 < l.length) (h1 : l.getD 0 0 < least) : trimH least l = trimH least (l.drop (min 2 l.length)) := by
  match l with
  | [] => simp at h
  | [x] => simp at h1; simp [trimH, h1]
  | x :: y :: r =>
    simp at h1
    rw [trimH, if_pos h1]
    simp
theorem trimH_stop (least : Int) (l : List Int) (h : 0 < l.length → ¬ l.getD 0 0 < least) : trimH least l = l := by
  match l with
  | [] => rfl
  | [x] => have h := h (by simp); simp at h; simp [trimH]; omega
  | x :: y :: r => have h := h (by simp); simp at h; rw [trimH, if_neg (by omega)]
theorem rev_getD (l : List Int) (h : 0 < l.length) : l.reverse.getD 0 0 = l.getD (l.length - 1) 0 := by
  rw [List.getD_eq_getElem?_getD, List.getD_eq_getElem?_getD, List.getElem?_reverse h]
  rfl
theorem trimT_step (least : Int) (l : List Int) (h : 0 < l.length) (h1 : l.getD (l.length - 1) 0 < least) : trimT least l = trimT least (l.take (l.length - 2)) := by
  unfold trimT
  rw [trimH_step least l.reverse (by simpa using h) (by rw [rev_getD l h]; exact h1)]
  congr 2
  rw [List.reverse_take]
  congr 1
  simp
  omega
theorem trimT_stop (least : Int) (l : List Int) (h : 0 < l.length → ¬ l.getD (l.length - 1) 0 < least) : trimT least l = l := by
  unfold trimT
  rw [trimH_stop least l.reverse (fun h0 => by have h0' : 0 < l.length := by simpa using h0
                                               rw [rev_getD l h0']; exact h h0')]
  simp
theorem trimH_drop (least : Int) : ∀ l : List Int, ∃ j, trimH least l = l.drop (2 * j)
  | [] => ⟨0, rfl⟩
  | [x] => by
    by_cases h : x < least
    · exact ⟨1, by simp [trimH, h]⟩
    · exact ⟨0, by simp [trimH, h]⟩
  | x :: y :: r => by
    by_cases h : x < least
    · obtain ⟨j, hj⟩ := trimH_drop least r
      exact ⟨j + 1, by rw [trimH, if_pos h, hj, show 2 * (j + 1) = 2 * j + 1 + 1 from by omega]; rfl⟩
    · exact ⟨0, by rw [trimH, if_neg h]; rfl⟩
theorem trimH_head (least : Int) : ∀ l : List Int, 0 < (trimH least l).length → least ≤ (trimH least l).getD 0 0
  | [], h => by simp [trimH] at h
  | [x], h => by
    by_cases h' : x < least
    · simp [trimH, h'] at h
    · simp [trimH, h']; omega
  | x :: y :: r, h => by
    by_cases h' : x < least
    · rw [trimH, if_pos h'] at h ⊢
      exact trimH_head least r h
    · rw [trimH, if_neg h']; simp; omega
theorem trimT_take (least : Int) (l : List Int) : ∃ j, trimT least l = l.take (l.length - 2 * j) := by
  obtain ⟨j, hj⟩ := trimH_drop least l.reverse
  refine ⟨j, ?_⟩
  unfold trimT
  rw [hj, List.reverse_drop]
  simp
theorem trimT_last (least : Int) (l : List Int) (h : 0 < (trimT least l).length) : least ≤ (trimT least l).getD ((trimT least l).length - 1) 0 := by
  rw [← rev_getD _ h]
  unfold trimT at h ⊢
  rw [List.reverse_reverse]
  exact trimH_head least l.reverse (by simpa using h)

/-- Gaps that are long enough; marks and gaps that are right. -/
def gapsOK (least : Int) (l : List Int) : Prop := ∀ i x, i % 2 = 1 → l[i]? = some x → least ≤ x
theorem gaps_drop {least : Int} {l : List Int} (h : gapsOK least l) (j : Nat) : gapsOK least (l.drop (2 * j)) := fun i x hi hx => by
  rw [List.getElem?_drop] at hx
  exact h _ x (by omega) hx
theorem gaps_take {least : Int} {l : List Int} (h : gapsOK least l) (n : Nat) : gapsOK least (l.take n) := fun i x hi hx => by
  rw [List.getElem?_take] at hx
  split at hx
  · exact h i x hi hx
  · cases hx

theorem set_mem {l : List Int} {i : Nat} {v y : Int} (h : y ∈ l.set i v) : y = v ∨ y ∈ l := by
  rcases List.mem_or_eq_of_mem_set h with h | h
  · exact .inr h
  · exact .inl h
structure ClosedAt (least : Int) (l : List Int) (k : Nat) : Prop where
  odd : (closedTo least l k).length % 2 = 1
  few : (closedTo least l k).length ≤ 2 * k + 1
  pos : ∀ x ∈ closedTo least l k, 1 ≤ x
  gap : gapsOK least (closedTo least l k)
  sum : (closedTo least l k).sum = (l.take (2 * k + 1)).sum
theorem closedAt (least : Int) (l : List Int) (hp : ∀ x ∈ l, 1 ≤ x) (k : Nat) (hk : 2 * k < l.length) : ClosedAt least l k := by
  induction k with
  | zero =>
    match l with
    | [] => simp at hk
    | a :: r =>
      refine ⟨by simp [closedTo], by simp [closedTo], ?_, ?_, by simp [closedTo]⟩
      · intro x hx; simp [closedTo] at hx; subst hx; exact hp _ (by simp)
      · intro i x hi hx
        simp [closedTo] at hx
        cases i with
        | zero => omega
        | succ i => simp at hx
  | succ k ih =>
    have ih := ih (by omega)
    have hg := hp _ (getD_mem (show 2 * k + 1 < l.length by omega))
    have hm := hp _ (getD_mem (show 2 * k + 2 < l.length by omega))
    have hs : (l.take (2 * (k + 1) + 1)).sum = (l.take (2 * k + 1)).sum + (l.getD (2 * k + 1) 0 + l.getD (2 * k + 2) 0) := by
      rw [show 2 * (k + 1) + 1 = 2 * k + 1 + 2 from by omega, take_two l (2 * k + 1) (by omega), sum_app]
      first | (simp; done) | (simp; omega)
    obtain ⟨h1, h2, h3, h4, h5⟩ := ih
    generalize hC : closedTo least l k = o at *
    have hC' : closedTo least l (k + 1) = stepC least o (l.getD (2 * k + 1) 0) (l.getD (2 * k + 2) 0) := by rw [← hC]; rfl
    generalize l.getD (2 * k + 1) 0 = g at *
    generalize l.getD (2 * k + 2) 0 = m at *
    have hlast := h3 _ (getD_mem (show o.length - 1 < o.length by omega))
    by_cases hc : g < least
    · rw [stepC, if_pos hc] at hC'
      refine ⟨by rw [hC', List.length_set]; exact h1, by rw [hC', List.length_set]; omega, ?_, ?_, ?_⟩
      · rw [hC']; intro x hx
        rcases set_mem hx with rfl | hx
        · omega
        · exact h3 x hx
      · rw [hC']; intro i x hi hx
        rw [List.getElem?_set] at hx
        split at hx
        · omega
        · exact h4 i x hi hx
      · rw [hC', hs, ← h5]
        have := sum_set o (o.length - 1) (o.getD (o.length - 1) 0 + (g + m)) (by omega)
        omega
    · rw [stepC, if_neg hc] at hC'
      refine ⟨by rw [hC']; simp; omega, by rw [hC']; simp; omega, ?_, ?_, ?_⟩
      · rw [hC']; intro x hx
        simp only [List.mem_append, List.mem_cons, List.not_mem_nil, or_false] at hx
        rcases hx with hx | rfl | rfl
        · exact h3 x hx
        · exact hg
        · exact hm
      · rw [hC']; intro i x hi hx
        rw [List.getElem?_append] at hx
        split at hx
        · exact h4 i x hi hx
        · rename_i hlt
          have hi2 : i - o.length = 0 ∨ i - o.length = 1 ∨ 2 ≤ i - o.length := by omega
          rcases hi2 with h | h | h
          · rw [h] at hx; simp at hx; omega
          · omega
          · rw [List.getElem?_eq_none (by simpa using h)] at hx; cases hx
      · rw [hC', sum_app, hs, h5]; simp

structure CleanAt (least : Int) (l : List Int) (k : Nat) : Prop where
  odd : (cleanTo least l k).length % 2 = 1
  few : (cleanTo least l k).length ≤ 2 * k + 1
  pos : ∀ x ∈ cleanTo least l k, 1 ≤ x
  last : (cleanTo least l k).getD ((cleanTo least l k).length - 1) 0 = l.getD (2 * k) 0
  all : ∀ i x, i + 1 < (cleanTo least l k).length → (cleanTo least l k)[i]? = some x → least ≤ x
  sum : (cleanTo least l k).sum = (l.take (2 * k + 1)).sum
theorem cleanAt (least : Int) (l : List Int) (hp : ∀ x ∈ l, 1 ≤ x) (hh : least ≤ l.getD 0 0) (hgap : gapsOK least l) (k : Nat) (hk : 2 * k < l.length) : CleanAt least l k := by
  induction k with
  | zero =>
    match l with
    | [] => simp at hk
    | a :: r =>
      refine ⟨by simp [cleanTo], by simp [cleanTo], ?_, by simp [cleanTo], ?_, by simp [cleanTo]⟩
      · intro x hx; simp [cleanTo] at hx; subst hx; exact hp _ (by simp)
      · intro i x hi hx
        simp [cleanTo] at hi
  | succ k ih =>
    have ih := ih (by omega)
    have hx0 := hp _ (getD_mem (show 2 * k < l.length by omega))
    have hg := hp _ (getD_mem (show 2 * k + 1 < l.length by omega))
    have hm := hp _ (getD_mem (show 2 * k + 2 < l.length by omega))
    have hgl : least ≤ l.getD (2 * k + 1) 0 := by
      refine hgap (2 * k + 1) _ (by omega) ?_
      rw [List.getD_eq_getElem?_getD, List.getElem?_eq_getElem (show 2 * k + 1 < l.length by omega)]; rfl
    have hs : (l.take (2 * (k + 1) + 1)).sum = (l.take (2 * k + 1)).sum + (l.getD (2 * k + 1) 0 + l.getD (2 * k + 2) 0) := by
      rw [show 2 * (k + 1) + 1 = 2 * k + 1 + 2 from by omega, take_two l (2 * k + 1) (by omega), sum_app]
      first | (simp; done) | (simp; omega)
    have hk0 : k = 0 ∨ 0 < k := by omega
    obtain ⟨h1, h2, h3, h4, h5, h6⟩ := ih
    generalize hC : cleanTo least l k = o at *
    have hC' : cleanTo least l (k + 1) = stepD least o (l.getD (2 * k) 0) (l.getD (2 * k + 1) 0) (l.getD (2 * k + 2) 0) := by rw [← hC]; rfl
    have hM : l.getD (2 * (k + 1)) 0 = l.getD (2 * k + 2) 0 := by rw [show 2 * (k + 1) = 2 * k + 2 from by omega]
    have hone : o.length - 1 = 0 → o.getD (o.length - 1) 0 = l.getD (2 * k) 0 → k = 0 ∨ True := fun _ _ => .inr trivial
    generalize hG : l.getD (2 * k + 1) 0 = g at *
    generalize hMM : l.getD (2 * k + 2) 0 = m at *
    generalize hX : l.getD (2 * k) 0 = x0 at *
    by_cases hc : o.getD (o.length - 1) 0 < least ∧ 0 < o.length - 1
    · rw [stepD, if_pos hc] at hC'
      have hlen : ((o.take (o.length - 1)).set (o.length - 1 - 1) (o.getD (o.length - 1 - 1) 0 + (x0 + g))).length = o.length - 1 := by simp
      have hprev := h3 _ (getD_mem (show o.length - 1 - 1 < o.length by omega))
      have hpl : least ≤ o.getD (o.length - 1 - 1) 0 := by
        refine h5 (o.length - 1 - 1) _ (by omega) ?_
        rw [List.getD_eq_getElem?_getD, List.getElem?_eq_getElem (show o.length - 1 - 1 < o.length by omega)]; rfl
      refine ⟨?_, ?_, ?_, ?_, ?_, ?_⟩
      · rw [hC', List.length_append, hlen]; simp; omega
      · rw [hC', List.length_append, hlen]; simp; omega
      · rw [hC']; intro y hy
        rcases List.mem_append.1 hy with hy | hy
        · rcases set_mem hy with rfl | hy
          · omega
          · exact h3 y (List.mem_of_mem_take hy)
        · simp at hy; subst hy; exact hm
      · rw [show l.getD (2 * (k + 1)) 0 = m from hMM, hC', List.length_append, hlen, List.getD_eq_getElem?_getD, List.getElem?_append_right (by rw [hlen]; simp), hlen]
        simp
      · rw [hC']; intro i x hi hx
        rw [List.length_append, hlen] at hi
        simp at hi
        rw [List.getElem?_append_left (by rw [hlen]; omega)] at hx
        by_cases hi3 : o.length - 1 - 1 = i
        · subst hi3
          rw [List.getElem?_set_self (by simp; omega)] at hx
          injection hx with e
          omega
        · rw [List.getElem?_set_ne hi3, List.getElem?_take, if_pos (by omega)] at hx
          exact h5 i x (by omega) hx
      · rw [hC', sum_app, hs, ← h6]
        have e1 := sum_set (o.take (o.length - 1)) (o.length - 1 - 1) (o.getD (o.length - 1 - 1) 0 + (x0 + g)) (by simp; omega)
        have e2 : (o.take (o.length - 1)).getD (o.length - 1 - 1) 0 = o.getD (o.length - 1 - 1) 0 := by
          rw [List.getD_eq_getElem?_getD, List.getD_eq_getElem?_getD, List.getElem?_take, if_pos (by omega)]
        have e3 : o.sum = (o.take (o.length - 1)).sum + o.getD (o.length - 1) 0 := by
          have := sum_app (o.take (o.length - 1)) (o.drop (o.length - 1))
          rw [List.take_append_drop] at this
          rw [this]
          congr 1
          rw [List.drop_eq_getElem_cons (show o.length - 1 < o.length by omega), List.drop_eq_nil_of_le (by omega)]
          rw [List.getD_eq_getElem?_getD, List.getElem?_eq_getElem (show o.length - 1 < o.length by omega)]
          simp
        simp only [List.sum_cons, List.sum_nil]
        omega
    · rw [stepD, if_neg hc] at hC'
      have hlst : least ≤ o.getD (o.length - 1) 0 := by
        rcases Nat.eq_zero_or_pos (o.length - 1) with h0 | h0
        · rw [h4]
          -- the first mark: nothing but it has come
          rcases hk0 with rfl | hk0
          · rw [← hX]; exact hh
          · by_cases hlt : x0 < least
            · exfalso
              -- o has one element: its sum is its last element, but the sum of three or more marks and gaps is more
              have e3 : o.sum = o.getD (o.length - 1) 0 := by
                match o with
                | [] => simp at h1
                | [a] => simp
                | a :: b :: r => simp at h0
              have e4 := h6
              rw [e3, h4] at e4
              have e5 : (l.take (2 * k + 1)).sum = (l.take (2 * k)).sum + x0 := by
                rw [List.take_succ_eq_append_getElem (show 2 * k < l.length by omega), sum_app, ← hX]
                rw [List.getD_eq_getElem?_getD, List.getElem?_eq_getElem (show 2 * k < l.length by omega)]
                simp
              have e6 := sum_pos (l := l.take (2 * k)) fun x hx => hp x (List.mem_of_mem_take hx)
              rw [List.length_take, Nat.min_eq_left (by omega)] at e6
              omega
            · omega
        · omega
      refine ⟨by rw [hC']; simp; omega, by rw [hC']; simp; omega, ?_, ?_, ?_, ?_⟩
      · rw [hC']; intro x hx
        simp only [List.mem_append, List.mem_cons, List.not_mem_nil, or_false] at hx
        rcases hx with hx | rfl | rfl
        · exact h3 x hx
        · exact hg
        · exact hm
      · rw [show l.getD (2 * (k + 1)) 0 = m from hMM, hC', List.getD_eq_getElem?_getD, List.getElem?_append_right (by simp)]
        simp
      · rw [hC']; intro i x hi hx
        rw [List.getElem?_append] at hx
        split at hx
        · rename_i hlt
          by_cases hi2 : i + 1 < o.length
          · exact h5 i x hi2 hx
          · have : i = o.length - 1 := by omega
            subst this
            rw [List.getD_eq_getElem?_getD, hx] at hlst
            exact hlst
        · rename_i hlt
          simp at hi
          have hi2 : i - o.length = 0 := by omega
          rw [hi2] at hx; simp at hx; omega
      · rw [hC', sum_app, hs, h6]; simp

theorem trimB_nil_or (least : Int) (l : List Int) (ho : l.length % 2 = 1) : trimB least l = [] ∨ (trimB least l).length % 2 = 1 := by
  obtain ⟨i, hi⟩ := trimH_drop least l
  obtain ⟨j, hj⟩ := trimT_take least (trimH least l)
  unfold trimB
  by_cases h : (trimT least (trimH least l)).length = 0
  · exact .inl (List.length_eq_zero_iff.1 h)
  · refine .inr ?_
    rw [hj, List.length_take, hi, List.length_drop] at h ⊢
    omega
structure TrimOk (least : Int) (l : List Int) : Prop where
  mem : ∀ x ∈ trimB least l, x ∈ l
  len : (trimB least l).length ≤ l.length
  sum : (∀ x ∈ l, 1 ≤ x) → (trimB least l).sum ≤ l.sum
  gap : gapsOK least l → gapsOK least (trimB least l)
  head : trimB least l ≠ [] → least ≤ (trimB least l).getD 0 0
  last : trimB least l ≠ [] → least ≤ (trimB least l).getD ((trimB least l).length - 1) 0
theorem nonneg_sum {l : List Int} (h : ∀ x ∈ l, 1 ≤ x) : 0 ≤ l.sum := by have := sum_pos h; omega
theorem sum_split (l : List Int) (n : Nat) : l.sum = (l.take n).sum + (l.drop n).sum := by
  rw [← sum_app, List.take_append_drop]
theorem trimOk (least : Int) (l : List Int) : TrimOk least l := by
  obtain ⟨i, hi⟩ := trimH_drop least l
  obtain ⟨j, hj⟩ := trimT_take least (trimH least l)
  have hj' : trimB least l = (trimH least l).take ((trimH least l).length - 2 * j) := hj
  refine ⟨?_, ?_, ?_, ?_, ?_, ?_⟩
  · intro x hx
    rw [hj'] at hx
    have := List.mem_of_mem_take hx
    rw [hi] at this
    exact List.mem_of_mem_drop this
  · rw [hj', hi, List.length_take, List.length_drop]; omega
  · intro hp
    have h1 := sum_split l (2 * i)
    have h2 := sum_split (l.drop (2 * i)) ((l.drop (2 * i)).length - 2 * j)
    have h3 := nonneg_sum (l := l.take (2 * i)) fun x hx => hp x (List.mem_of_mem_take hx)
    have h4 := nonneg_sum (l := (l.drop (2 * i)).drop ((l.drop (2 * i)).length - 2 * j)) fun x hx => hp x (List.mem_of_mem_drop (List.mem_of_mem_drop hx))
    rw [hj', hi]
    omega
  · intro hg
    rw [hj', hi]
    exact gaps_take (gaps_drop hg i) _
  · intro hne
    have hpos : 0 < (trimB least l).length := List.length_pos_iff.2 hne
    rw [hj'] at hpos ⊢
    rw [List.length_take] at hpos
    rw [List.getD_eq_getElem?_getD, List.getElem?_take, if_pos (by omega), ← List.getD_eq_getElem?_getD]
    exact trimH_head least l (by omega)
  · intro hne
    exact trimT_last least (trimH least l) (List.length_pos_iff.2 hne)

/-- What is cleaned of right marks and gaps: nothing, or right ones that are long enough. -/
theorem clean_good (least : Int) (l : List Int) (hp : ∀ x ∈ l, 1 ≤ x) (ho : l.length % 2 = 1) :
    cleanL least l = [] ∨ ((cleanL least l).length % 2 = 1 ∧ (cleanL least l).length ≤ l.length ∧ (∀ x ∈ cleanL least l, 1 ≤ x ∧ least ≤ x ∧ x ≤ l.sum)) := by
  have C := closedAt least l hp (l.length / 2) (by omega)
  have hcs : (closedL least l).sum = l.sum := by
    show (closedTo least l (l.length / 2)).sum = _
    rw [C.sum, List.take_of_length_le (by omega)]
  have T := trimOk least (closedL least l)
  have hTo := trimB_nil_or least (closedL least l) C.odd
  unfold cleanL cleanedL
  split
  · exact .inl rfl
  · rename_i hne
    refine .inr ?_
    have hto := hTo.resolve_left hne
    have hpt : ∀ x ∈ trimB least (closedL least l), 1 ≤ x := fun x hx => C.pos x (T.mem x hx)
    have D := cleanAt least (trimB least (closedL least l)) hpt (T.head hne) (T.gap C.gap) ((trimB least (closedL least l)).length / 2) (by omega)
    have hts := T.sum C.pos
    have hlast := T.last hne
    have htl := T.len
    have hcf : (closedL least l).length ≤ l.length := by have := C.few; show (closedTo least l (l.length / 2)).length ≤ _; omega
    obtain ⟨d1, d2, d3, d4, d5, d6⟩ := D
    rw [List.take_of_length_le (by omega)] at d6
    generalize trimB least (closedL least l) = t at *
    refine ⟨d1, by omega, fun x hx => ⟨d3 x hx, ?_, ?_⟩⟩
    · obtain ⟨i, hi, rfl⟩ := List.mem_iff_getElem.1 hx
      by_cases hi2 : i + 1 < (cleanTo least t (t.length / 2)).length
      · exact d5 i _ hi2 (List.getElem?_eq_getElem hi)
      · have e : (cleanTo least t (t.length / 2)).length - 1 = i := by omega
        rw [e, List.getD_eq_getElem?_getD, List.getElem?_eq_getElem hi] at d4
        have e2 : 2 * (t.length / 2) = t.length - 1 := by omega
        rw [e2] at d4
        simp only [Option.getD_some] at d4
        omega
    · have := mem_le_sum d3 hx
      omega

theorem closedTo_id (least : Int) (l : List Int) (h : ∀ x ∈ l, least ≤ x) (k : Nat) (hk : 2 * k < l.length) : closedTo least l k = l.take (2 * k + 1) := by
  induction k with
  | zero =>
    match l with
    | [] => simp at hk
    | a :: r => simp [closedTo]
  | succ k ih =>
    have hg := h _ (getD_mem (show 2 * k + 1 < l.length by omega))
    rw [closedTo, ih (by omega), stepC, if_neg (by omega), show 2 * (k + 1) + 1 = 2 * k + 1 + 2 from by omega, take_two l (2 * k + 1) (by omega)]
theorem cleanTo_id (least : Int) (l : List Int) (h : ∀ x ∈ l, least ≤ x) (k : Nat) (hk : 2 * k < l.length) : cleanTo least l k = l.take (2 * k + 1) := by
  induction k with
  | zero =>
    match l with
    | [] => simp at hk
    | a :: r => simp [cleanTo]
  | succ k ih =>
    have hlen : (l.take (2 * k + 1)).length = 2 * k + 1 := by simp; omega
    have hg := h _ (getD_mem (show 2 * k < l.length by omega))
    have e : (l.take (2 * k + 1)).getD (2 * k + 1 - 1) 0 = l.getD (2 * k) 0 := by
      rw [List.getD_eq_getElem?_getD, List.getD_eq_getElem?_getD, List.getElem?_take, if_pos (by omega)]; rfl
    rw [cleanTo, ih (by omega), stepD, hlen, e, if_neg (by omega), show 2 * (k + 1) + 1 = 2 * k + 1 + 2 from by omega, take_two l (2 * k + 1) (by omega)]
/-- What is long enough everywhere is not cleaned. -/
theorem clean_id (least : Int) (l : List Int) (ho : l.length % 2 = 1) (h : ∀ x ∈ l, least ≤ x) : cleanL least l = l := by
  have hc : closedL least l = l := by
    unfold closedL
    rw [closedTo_id least l h _ (by omega), List.take_of_length_le (by omega)]
  have ht : trimB least l = l := by
    unfold trimB
    rw [trimH_stop least l fun h0 => by have := h _ (getD_mem h0); omega]
    exact trimT_stop least l fun h0 => by have := h _ (getD_mem (show l.length - 1 < l.length by omega)); omega
  unfold cleanL cleanedL
  rw [hc, ht, cleanTo_id least l h _ (by omega), List.take_of_length_le (by omega)]
  split
  · rename_i h0; exact h0.symm
  · rfl
end Go.Proofs.YtlodmkdhlmineaaGreatDoor
