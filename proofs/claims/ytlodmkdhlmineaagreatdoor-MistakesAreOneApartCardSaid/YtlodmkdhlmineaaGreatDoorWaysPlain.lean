/- Plain law of the ways to read elements without gaps: how many there are behind each element, and the first hundred. No program in sight, no condition. -/
import Derived.Test.YtlodmkdhlmineaaGreatDoorSplitPlain
import Derived.Test.YtlodmkdhlmineaaGreatDoorKeyA
namespace Go.Proofs.YtlodmkdhlmineaaGreatDoor
set_option linter.unusedVariables false
set_option linter.unusedSimpArgs false

/-- The signs in the order of their bytes. -/
def signT : List (UInt8 × List UInt8) := (List.range 128).flatMap fun c => codeT.filter fun p => decide (p.1.toNat = c)
theorem signT_len : signT.length = 40 := by decide +kernel
theorem signT_short : ∀ p ∈ signT, 1 ≤ p.2.length ∧ p.2.length ≤ 6 := by decide +kernel
theorem signT_perm : signT.Perm codeT := by decide +kernel
theorem signT_sorted : signT.Pairwise (fun p q => p.1.toNat < q.1.toNat) := by decide +kernel

/-- What a sign adds to the ways of a list; t: the ways of what is behind each element of the list's rest. -/
def addAt (l : List UInt8) (t : List Nat) (p : UInt8 × List UInt8) : Nat := if p.2.isPrefixOf l then t.getD (p.2.length - 1) 0 else 0
def sumTo (l : List UInt8) (t : List Nat) (k : Nat) : Nat := ((signT.take k).map (addAt l t)).sum
/-- The ways of a list and of all that is behind its elements. -/
def waysR : List UInt8 → List Nat
  | [] => [1]
  | c :: r => sumTo (c :: r) (waysR r) 40 :: waysR r
theorem waysR_len (l : List UInt8) : (waysR l).length = l.length + 1 := by
  induction l with
  | nil => rfl
  | cons c r ih => show (_ :: waysR r).length = _; rw [List.length_cons, ih]; rfl
theorem waysR_drop : ∀ (l : List UInt8) (i : Nat), i ≤ l.length → (waysR l).drop i = waysR (l.drop i)
  | l, 0, _ => rfl
  | [], i + 1, h => by simp at h
  | c :: r, i + 1, h => by
    show (waysR r).drop i = waysR (r.drop i)
    exact waysR_drop r i (by simpa using h)
theorem waysR_at (l : List UInt8) (i j : Nat) (h : i ≤ l.length) : (waysR l).getD (i + j) 0 = (waysR (l.drop i)).getD j 0 := by
  rw [← waysR_drop l i h, List.getD_eq_getElem?_getD, List.getD_eq_getElem?_getD, List.getElem?_drop]
theorem sumTo_0 (l : List UInt8) (t : List Nat) : sumTo l t 0 = 0 := rfl
theorem sumTo_succ (l : List UInt8) (t : List Nat) {k : Nat} (h : k < signT.length) : sumTo l t (k + 1) = sumTo l t k + addAt l t signT[k] := by
  unfold sumTo
  rw [List.take_succ_eq_append_getElem h, List.map_append, List.sum_append]
  simp
theorem sumTo_mono (l : List UInt8) (t : List Nat) {k n : Nat} (h : k ≤ n) : sumTo l t k ≤ sumTo l t n := by
  obtain ⟨d, rfl⟩ : ∃ d, n = k + d := ⟨n - k, by omega⟩
  unfold sumTo
  rw [List.take_add, List.map_append, List.sum_append]
  omega
/-- The ways behind an element: its own sum over the signs. -/
theorem waysR_head {l : List UInt8} {i : Nat} (h : i < l.length) : (waysR l).getD i 0 = sumTo (l.drop i) (waysR (l.drop (i + 1))) 40 := by
  have h1 := waysR_at l i 0 (by omega)
  rw [Nat.add_zero] at h1
  rw [h1, List.drop_eq_getElem_cons h]
  rfl
theorem waysR_last (l : List UInt8) : (waysR l).getD l.length 0 = 1 := by
  have h1 := waysR_at l l.length 0 (Nat.le_refl _)
  rw [Nat.add_zero] at h1
  rw [h1, List.drop_length]
  rfl
/-- What a sign adds, told by the ways of the whole list. -/
theorem addAt_at {l : List UInt8} {i : Nat} (h : i < l.length) (p : UInt8 × List UInt8) (hp : 1 ≤ p.2.length) : addAt (l.drop i) (waysR (l.drop (i + 1))) p = if p.2.isPrefixOf (l.drop i) then (waysR l).getD (i + p.2.length) 0 else 0 := by
  unfold addAt
  have h1 := waysR_at l (i + 1) (p.2.length - 1) (by omega)
  rw [show i + 1 + (p.2.length - 1) = i + p.2.length by omega] at h1
  rw [h1]

/-- The ways themselves: all texts that a list can be read as, behind what was read. -/
def readR : Nat → List UInt8 → List UInt8 → List (List UInt8)
  | 0, l, s => if l.isEmpty then [s] else []
  | f + 1, l, s => if l.isEmpty then [s] else signT.flatMap fun p => if p.2.isPrefixOf l && decide (0 < (waysR (l.drop p.2.length)).headD 0) then readR f (l.drop p.2.length) (s ++ [p.1]) else []
def readIn (f : Nat) (l s : List UInt8) (k : Nat) : List (List UInt8) := (signT.take k).flatMap fun p => if p.2.isPrefixOf l && decide (0 < (waysR (l.drop p.2.length)).headD 0) then readR f (l.drop p.2.length) (s ++ [p.1]) else []
theorem readIn_succ (f : Nat) (l s : List UInt8) {k : Nat} (h : k < signT.length) : readIn f l s (k + 1) = readIn f l s k ++ (if signT[k].2.isPrefixOf l && decide (0 < (waysR (l.drop signT[k].2.length)).headD 0) then readR f (l.drop signT[k].2.length) (s ++ [signT[k].1]) else []) := by
  unfold readIn
  rw [List.take_succ_eq_append_getElem h, List.flatMap_append]
  simp
theorem readIn_all (f : Nat) {l : List UInt8} (s : List UInt8) (h : l ≠ []) : readIn f l s 40 = readR (f + 1) l s := by
  unfold readIn
  rw [show signT.take 40 = signT from List.take_of_length_le (by rw [signT_len]; omega)]
  show _ = if l.isEmpty then _ else _
  rw [if_neg (by simpa using h)]
theorem readR_nil (f : Nat) (s : List UInt8) : readR f [] s = [s] := by cases f <;> rfl
theorem take_take_app {α : Type} (n : Nat) (x y : List α) : (x.take n ++ y).take n = (x ++ y).take n := by
  rw [List.take_append, List.take_append, List.take_take, Nat.min_self, List.length_take]
  by_cases h : n ≤ x.length
  · rw [Nat.min_eq_left h, Nat.sub_self, show n - x.length = 0 by omega]
  · rw [Nat.min_eq_right (by omega)]
end Go.Proofs.YtlodmkdhlmineaaGreatDoor
