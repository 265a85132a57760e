/- Plain law of times: their errors, how many are in a window: no program in sight. No condition. -/
import Derived.Test.YtjhklpffmfdkbaaGreatDoorFaults
namespace Go.Proofs.YtjhklpffmfdkbaaGreatDoor
set_option linter.unusedVariables false

/-- The first of two errors. -/
def orE (t e : Int) : Int := if t = 0 then e else t
theorem orE_ne {t e : Int} (h : t ≠ 0) : orE t e = t := by unfold orE; rw [if_neg h]
theorem orE_z {t e : Int} (h : t = 0) : orE t e = e := by unfold orE; rw [if_pos h]
theorem orE_0' {t e : Int} (h : orE t e = 0) : t = 0 ∧ e = 0 := by
  by_cases ht : t = 0
  · rw [orE_z ht] at h; exact ⟨ht, h⟩
  · rw [orE_ne ht] at h; exact absurd h ht
def hasB (a zt x : Int) : Bool := decide (a ≤ x ∧ x < zt)
def timeB (a zt : Int) : Bool := decide (0 ≤ a ∧ a < zt ∧ zt ≤ 345686400000)
def timeE (a zt : Int) : Int := if timeB a zt then 0 else 1
def scanT (a zt : Int) : Option Int → List Int → Int
  | _, [] => 0
  | p, x :: r => if hasB a zt x = false then 1 else if p.any (fun y => decide (x < y)) then 7 else scanT a zt (some x) r
def timesE (l : List Int) (a zt : Int) : Int := if timeB a zt = false then 1 else if 2000 < l.length then 2 else scanT a zt none l

theorem scanT_ok (a zt : Int) : ∀ (p : Option Int) (l : List Int), scanT a zt p l = 0 → l.Pairwise (· ≤ ·) ∧ (∀ x ∈ l, a ≤ x ∧ x < zt) ∧ ∀ y, p = some y → ∀ x ∈ l, y ≤ x
  | p, [], _ => ⟨List.Pairwise.nil, by simp, by simp⟩
  | p, x :: r, h => by
    unfold scanT at h
    split at h
    · omega
    · split at h
      · omega
      · rename_i h1 h2
        have ih := scanT_ok a zt (some x) r h
        have hx : a ≤ x ∧ x < zt := by simpa [hasB] using h1
        refine ⟨List.pairwise_cons.2 ⟨fun y hy => ih.2.2 x rfl y hy, ih.1⟩, ?_, ?_⟩
        · intro y hy
          rcases List.mem_cons.1 hy with rfl | hy
          · exact hx
          · exact ih.2.1 y hy
        · intro y hy z hz
          subst hy
          have hyx : y ≤ x := by simpa using h2
          rcases List.mem_cons.1 hz with rfl | hz
          · exact hyx
          · exact Int.le_trans hyx (ih.2.2 x rfl z hz)
theorem scanT_bd (a zt : Int) : ∀ (p : Option Int) (l : List Int), 0 ≤ scanT a zt p l ∧ scanT a zt p l ≤ 7
  | p, [] => by simp [scanT]
  | p, x :: r => by
    unfold scanT
    split
    · omega
    · split
      · omega
      · exact scanT_bd a zt (some x) r
/-- What is known of times without error. -/
structure TimesOk (l : List Int) (a zt : Int) : Prop where
  a0 : 0 ≤ a
  ato : a < zt
  to_ : zt ≤ 345686400000
  len : l.length ≤ 2000
  sorted : l.Pairwise (· ≤ ·)
  mem : ∀ x ∈ l, a ≤ x ∧ x < zt
theorem timesE_ok {l : List Int} {a zt : Int} (h : timesE l a zt = 0) : TimesOk l a zt := by
  unfold timesE at h
  split at h
  · omega
  · split at h
    · omega
    · rename_i h1 h2
      have h3 : 0 ≤ a ∧ a < zt ∧ zt ≤ 345686400000 := by simpa [timeB] using h1
      have := scanT_ok a zt none l h
      exact ⟨h3.1, h3.2.1, h3.2.2, by omega, this.1, this.2.1⟩
theorem timesE_bd (l : List Int) (a zt : Int) : 0 ≤ timesE l a zt ∧ timesE l a zt ≤ 7 := by
  unfold timesE
  split
  · omega
  · split
    · omega
    · exact scanT_bd _ _ _ _

def cntLt (l : List Int) (x : Int) : Int := (l.countP (fun y => decide (y < x)) : Nat)
def manyI (l : List Int) (a zt : Int) : Int := (l.countP (fun x => hasB a zt x) : Nat)
def inI (l : List Int) (a zt : Int) : Int := max 0 (cntLt l zt - cntLt l a)
theorem cntLt_bd (l : List Int) (x : Int) : 0 ≤ cntLt l x ∧ cntLt l x ≤ l.length := by
  unfold cntLt
  have := List.countP_le_length (p := fun y => decide (y < x)) (l := l)
  omega
theorem manyI_bd (l : List Int) (a zt : Int) : 0 ≤ manyI l a zt ∧ manyI l a zt ≤ l.length := by
  unfold manyI
  have := List.countP_le_length (p := fun x => hasB a zt x) (l := l)
  omega
theorem cnt_diff (l : List Int) (a zt : Int) (h : a ≤ zt) : cntLt l zt - cntLt l a = manyI l a zt := by
  unfold cntLt manyI
  induction l with
  | nil => rfl
  | cons x r ih =>
    simp only [List.countP_cons, hasB, decide_eq_true_eq] at ih ⊢
    by_cases h1 : x < zt <;> by_cases h2 : x < a <;> by_cases h3 : a ≤ x <;> simp [h1, h2, h3] at ih ⊢ <;> omega
theorem cnt_mono (l : List Int) (a zt : Int) (h : zt ≤ a) : cntLt l zt ≤ cntLt l a := by
  unfold cntLt
  have := List.countP_mono_left (l := l) (p := fun y => decide (y < zt)) (q := fun y => decide (y < a)) (fun x _ hx => by simp at hx ⊢; omega)
  omega
theorem cnt_none (l : List Int) (a zt : Int) (h : zt < a) : manyI l a zt = 0 ∧ cntLt l zt ≤ cntLt l a := by
  refine ⟨?_, cnt_mono l a zt (by omega)⟩
  unfold manyI
  have : l.countP (fun x => hasB a zt x) = 0 := List.countP_eq_zero.2 (fun x _ => by unfold hasB; simp; omega)
  omega
theorem inI_many (l : List Int) (a zt : Int) : inI l a zt = manyI l a zt := by
  unfold inI
  have hb := manyI_bd l a zt
  by_cases h : a ≤ zt
  · rw [cnt_diff l a zt h]; omega
  · have := cnt_none l a zt (by omega); omega

/-- The best stretch: the first of those with the most. -/
def bestStep (l : List Int) (long : Int) (st : Int × Int) (x : Int) : Int × Int := if st.2 < manyI l x (x + long) then (x, manyI l x (x + long)) else st
def bestI (l : List Int) (a long : Int) : Int × Int := l.foldl (bestStep l long) (a, manyI l a (a + long))

/-- The longest gap. -/
def gapStep (st : (Int × Int) × Int) (x : Int) : (Int × Int) × Int := (if st.1.2 - st.1.1 < x - st.2 then (st.2, x) else st.1, x)
def gapI (l : List Int) (a zt : Int) : Int × Int := ((l ++ [zt]).foldl gapStep ((a, a), a)).1
/-- The gaps, the next one begun so much behind. -/
def gapsL (begun : Int) : Int → List Int → List (Int × Int)
  | _, [] => []
  | f, x :: r => (f, x) :: gapsL begun (x + begun) r
def gapPick (st : Int × Int) (g : Int × Int) : Int × Int := if st.2 - st.1 < g.2 - g.1 then g else st
theorem gapsL_fold : ∀ (l : List Int) (f : Int) (b : Int × Int), (l.foldl gapStep (b, f)).1 = (gapsL 0 f l).foldl gapPick b
  | [], _, _ => rfl
  | x :: r, f, b => by
    have ih := gapsL_fold r x (if b.2 - b.1 < x - f then (f, x) else b)
    simp only [List.foldl_cons, gapsL, Int.add_zero]
    exact ih
/-- The reference begins with the first gap. -/
theorem gapI_first (l : List Int) (a zt : Int) (h : ∀ x ∈ l ++ [zt], a ≤ x) : gapI l a zt = (match gapsL 0 a (l ++ [zt]) with | [] => (0, 0) | g :: r => r.foldl gapPick g) := by
  unfold gapI
  rw [gapsL_fold]
  cases hl : l ++ [zt] with
  | nil => simp at hl
  | cons x r =>
    have hx : a ≤ x := h x (by rw [hl]; simp)
    simp only [gapsL, List.foldl_cons, Int.add_zero]
    congr 1
    unfold gapPick
    by_cases h0 : a - a < x - a
    · rw [if_pos h0]
    · have : x = a := by omega
      subst this; simp

/-- Hours. -/
def hoursI (a zt : Int) : Int := (zt - a + 3600000 - 1) / 3600000
def hourL (l : List Int) (zt : Int) : Nat → Int → List Int
  | 0, _ => []
  | n + 1, f => manyI l f (min (f + 3600000) zt) :: hourL l zt n (f + 3600000)
def hourAll (l : List Int) (a zt : Int) : List Int := hourL l zt (hoursI a zt).toNat a

/-- Euclid. -/
def gcdN (a b : Int) : Int := (Nat.gcd a.toNat b.toNat : Nat)
end Go.Proofs.YtjhklpffmfdkbaaGreatDoor
