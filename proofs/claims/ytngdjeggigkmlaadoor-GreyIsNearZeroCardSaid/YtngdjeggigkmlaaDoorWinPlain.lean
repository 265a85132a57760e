/- Plain law of windows in which something is so, asked again and again; and of counts of such moments: no program in sight. No condition. -/
import Derived.Test.YtngdjeggigkmlaaDoorPairs
namespace Go.Proofs.YtngdjeggigkmlaaDoor
open Go.RowKit
set_option linter.unusedVariables false

/-- The last window ends at x. -/
def setTo (l : List (Int × Int)) (x : Int) : List (Int × Int) := l.dropLast ++ [((l.getLast?.getD (0, 0)).1, x)]
def winStep (zt : Int) (b : Bool) (st : List (Int × Int) × Bool) (x : Int) : List (Int × Int) × Bool :=
  (if b && !st.2 then st.1 ++ [(x, zt)] else if !b && st.2 then setTo st.1 x else st.1, b)
/-- Asked at x, x + every, .. before 'to'. -/
def winRun (f : Int → Bool) (every zt : Int) : Nat → Int → List (Int × Int) × Bool → List (Int × Int) × Bool
  | 0, _, st => st
  | n + 1, x, st => if x < zt then winRun f every zt n (x + every) (winStep zt (f x) st x) else st
def winAll (f : Int → Bool) (a every zt : Int) : List (Int × Int) := (winRun f every zt ((zt - a).toNat + 1) a ([], false)).1
def cntRun (f : Int → Bool) (every zt : Int) : Nat → Int → Nat → Nat
  | 0, _, c => c
  | n + 1, x, c => if x < zt then cntRun f every zt n (x + every) (if f x then c + 1 else c) else c
def cntAll (f : Int → Bool) (a every zt : Int) : Nat := cntRun f every zt ((zt - a).toNat + 1) a 0

theorem snoc_of {l : List (Int × Int)} (h : l ≠ []) : ∃ r p, l = r ++ [p] := ⟨l.dropLast, l.getLast h, (List.dropLast_concat_getLast h).symm⟩
theorem setTo_snoc (r : List (Int × Int)) (p : Int × Int) (x : Int) : setTo (r ++ [p]) x = r ++ [(p.1, x)] := by simp [setTo]
theorem setTo_len (l : List (Int × Int)) (x : Int) (h : l ≠ []) : (setTo l x).length = l.length := by
  obtain ⟨r, p, rfl⟩ := snoc_of h
  rw [setTo_snoc]; simp
theorem wcells_setTo (l : List (Int × Int)) (x : Int) (h : l ≠ []) : (wcells l).set ((l.length - 1) * 2 + 1) (.int .i64 x) = wcells (setTo l x) := by
  obtain ⟨r, p, rfl⟩ := snoc_of h
  obtain ⟨a, b⟩ := p
  rw [setTo_snoc, wcells_snoc, wcells_snoc]
  have := wcells_len r
  rw [List.set_append_right _ _ (by simp; omega)]
  congr 1
  have e : (r ++ [(a, b)]).length - 1 = r.length := by simp
  rw [e, this]
  have e2 : r.length * 2 + 1 - r.length * 2 = 1 := by omega
  rw [e2]
  rfl

/-- The relation of the loop: what has been found so far. -/
structure WinRel (f : Int → Bool) (a every zt x : Int) (st : List (Int × Int) × Bool) : Prop where
  run : ∃ n : Nat, winRun f every zt ((zt - a).toNat + 1) a ([], false) = winRun f every zt n x st ∧ (zt - x).toNat < n
  ne : st.2 = true → st.1 ≠ []
  len : (st.1.length : Int) ≤ x - a
theorem WinRel.start (f : Int → Bool) (a every zt : Int) : WinRel f a every zt a ([], false) :=
  ⟨⟨_, rfl, by omega⟩, by simp, by simp⟩
theorem winStep_ne (zt : Int) (b : Bool) (st : List (Int × Int) × Bool) (x : Int) (h : st.2 = true → st.1 ≠ []) : (winStep zt b st x).2 = true → (winStep zt b st x).1 ≠ [] := by
  obtain ⟨l, o⟩ := st
  cases b <;> cases o <;> simp_all [winStep]
theorem winStep_len (zt : Int) (b : Bool) (st : List (Int × Int) × Bool) (x : Int) (h : st.2 = true → st.1 ≠ []) : (winStep zt b st x).1.length ≤ st.1.length + 1 := by
  obtain ⟨l, o⟩ := st
  cases b <;> cases o <;> simp_all [winStep, setTo_len]
theorem WinRel.next {f : Int → Bool} {a every zt x : Int} {st : List (Int × Int) × Bool} (h : WinRel f a every zt x st) (hx : x < zt) (he : 1 ≤ every) :
    WinRel f a every zt (x + every) (winStep zt (f x) st x) := by
  obtain ⟨⟨n, hr, hn⟩, h2, h3⟩ := h
  refine ⟨?_, winStep_ne zt _ st x h2, ?_⟩
  · cases n with
    | zero => omega
    | succ n =>
      refine ⟨n, ?_, by omega⟩
      rw [hr, winRun, if_pos hx]
  · have := winStep_len zt (f x) st x h2
    omega
theorem WinRel.fin {f : Int → Bool} {a every zt x : Int} {st : List (Int × Int) × Bool} (h : WinRel f a every zt x st) (hx : zt ≤ x) : winAll f a every zt = st.1 := by
  obtain ⟨⟨n, hr, hn⟩, _, _⟩ := h
  unfold winAll
  rw [hr]
  cases n with
  | zero => omega
  | succ n => rw [winRun, if_neg (by omega)]

structure CntRel (f : Int → Bool) (a every zt x : Int) (c : Nat) : Prop where
  run : ∃ n : Nat, cntRun f every zt ((zt - a).toNat + 1) a 0 = cntRun f every zt n x c ∧ (zt - x).toNat < n
  len : (c : Int) * every ≤ x - a
theorem CntRel.start (f : Int → Bool) (a every zt : Int) : CntRel f a every zt a 0 := ⟨⟨_, rfl, by omega⟩, by simp⟩
theorem CntRel.yes {f : Int → Bool} {a every zt x : Int} {c : Nat} (h : CntRel f a every zt x c) (hx : x < zt) (he : 1 ≤ every) (hf : f x = true) : CntRel f a every zt (x + every) (c + 1) := by
  obtain ⟨⟨n, hr, hn⟩, h3⟩ := h
  refine ⟨?_, by rw [Int.natCast_add, Int.add_mul]; omega⟩
  cases n with
  | zero => omega
  | succ n =>
    refine ⟨n, ?_, by omega⟩
    rw [hr, cntRun, if_pos hx, hf]; rfl
theorem CntRel.no {f : Int → Bool} {a every zt x : Int} {c : Nat} (h : CntRel f a every zt x c) (hx : x < zt) (he : 1 ≤ every) (hf : f x = false) : CntRel f a every zt (x + every) c := by
  obtain ⟨⟨n, hr, hn⟩, h3⟩ := h
  refine ⟨?_, by omega⟩
  cases n with
  | zero => omega
  | succ n =>
    refine ⟨n, ?_, by omega⟩
    rw [hr, cntRun, if_pos hx, hf]; rfl
theorem CntRel.fin {f : Int → Bool} {a every zt x : Int} {c : Nat} (h : CntRel f a every zt x c) (hx : zt ≤ x) : cntAll f a every zt = c := by
  obtain ⟨⟨n, hr, hn⟩, _⟩ := h
  unfold cntAll
  rw [hr]
  cases n with
  | zero => omega
  | succ n => rw [cntRun, if_neg (by omega)]

/-- The error of a window that is asked. -/
def askE (a zt every : Int) : Int :=
  if a < 0 ∨ zt < a ∨ 345686400000 < zt ∨ every < 1000 ∨ 86400000 < every then 1 else if 20000 < (zt - a + every - 1) / every then 2 else 0
def lightI (f : Int → Bool) (a zt every : Int) : Int := if (zt - a) < (cntAll f a every zt : Int) * every then zt - a else (cntAll f a every zt : Int) * every
end Go.Proofs.YtngdjeggigkmlaaDoor
