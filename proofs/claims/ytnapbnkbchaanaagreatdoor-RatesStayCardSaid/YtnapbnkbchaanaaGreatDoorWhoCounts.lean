/- The walk over the reference's WhoAt; who operates in order of their shifts. Condition: few shifts. The walk over the reference's CountsOf. Condition: few shifts without error; a window within a contest; at most 1000 times. -/
import Derived.Test.YtnapbnkbchaanaaGreatDoorShiftsUpPlain
import Derived.Test.YtnapbnkbchaanaaGreatDoorOncePlain
import Derived.Test.YtnapbnkbchaanaaGreatDoorShiftsFault
import Derived.Test.YtnapbnkbchaanaaGreatDoorCounts
import Derived.Deep.RegionWith
namespace Go.Proofs.YtnapbnkbchaanaaGreatDoor
open Go.RowKit
set_option linter.unusedVariables false
set_option linter.unusedSimpArgs false

/-- Who operates in a contest, shift by shift. -/
def whosTo (l : List (Int × ByteArray)) (a z : Int) : Nat → List (List UInt8)
  | 0 => []
  | k + 1 => match l[k]? with
    | none => whosTo l a z k
    | some p => if 0 < overS l a z k p.1 ∧ p.2.toList.isEmpty = false then whosTo l a z k ++ [p.2.data.toList] else whosTo l a z k
theorem whosTo_len (l : List (Int × ByteArray)) (a z : Int) (k : Nat) : (whosTo l a z k).length ≤ k := by
  induction k with
  | zero => simp [whosTo]
  | succ k ih =>
    unfold whosTo
    split
    · omega
    · split
      · rw [List.length_append, List.length_singleton]; omega
      · omega
theorem whosTo_mem (l : List (Int × ByteArray)) (a z : Int) (k : Nat) (x : List UInt8) : x ∈ whosTo l a z k ↔ hasS (longsTo l a z k) x = true := by
  induction k with
  | zero => simp [whosTo, longsTo, hasS]
  | succ k ih =>
    cases hk : l[k]? with
    | none => simp only [whosTo, longsTo, hk]; exact ih
    | some p =>
      by_cases h : 0 < overS l a z k p.1 ∧ p.2.toList.isEmpty = false
      · simp only [whosTo, longsTo, hk]
        rw [if_pos h, if_pos h, hasS_add, List.mem_append, ih, List.mem_singleton, Bool.or_eq_true, decide_eq_true_eq]
        constructor
        · rintro (h | h)
          · exact .inl h
          · exact .inr h.symm
        · rintro (h | h)
          · exact .inl h
          · exact .inr h.symm
      · simp only [whosTo, longsTo, hk]
        rw [if_neg h, if_neg h]
        exact ih
/-- Each of them once, in order: the keys of how long each operates. -/
theorem whos_once (l : List (Int × ByteArray)) (a z : Int) (k : Nat) {ks : List (List UInt8)} (hp : ks.Perm ((longsTo l a z k).map (·.1))) (hs : ks.Pairwise (· ≤ ·)) : ks = onceB (whosTo l a z k) := by
  rw [onceB_keys (longsTo_nodup l a z k) (fun x => by rw [whosTo_mem, hasS_mem])]
  exact sorted_one hs (sortB_sorted _) (hp.trans (sortB_perm _).symm)
end Go.Proofs.YtnapbnkbchaanaaGreatDoor

namespace Go.Proofs.YtnapbnkbchaanaaGreatDoor
open Go.RowKit
set_option linter.unusedVariables false
set_option linter.unusedSimpArgs false

/-- How many of the first so many times one operates. -/
def ownN (sh : List (Int × ByteArray)) (ts : List Int) (q : List UInt8) (j : Nat) : Int := (((ts.take j).countP fun t => decide ((whoS sh t).data.toList = q) : Nat) : Int)
theorem ownN_step (sh : List (Int × ByteArray)) (ts : List Int) (q : List UInt8) (j : Nat) (h : j < ts.length) : ownN sh ts q (j + 1) = ownN sh ts q j + truthI (decide ((whoS sh ts[j]).data.toList = q)) := by
  unfold ownN
  rw [List.take_succ_eq_append_getElem h, List.countP_append]
  cases hd : decide ((whoS sh ts[j]).data.toList = q) <;> simp [truthI, hd]
theorem ownN_bd (sh : List (Int × ByteArray)) (ts : List Int) (q : List UInt8) (j : Nat) : 0 ≤ ownN sh ts q j ∧ ownN sh ts q j ≤ j := by
  unfold ownN
  have h1 := List.countP_le_length (p := fun t => decide ((whoS sh t).data.toList = q)) (l := ts.take j)
  have h2 : (ts.take j).length ≤ j := by simp; omega
  omega
theorem ownN_all (sh : List (Int × ByteArray)) (ts : List Int) (q : List UInt8) : ownN sh ts q ts.length = valS (manyS sh ts) q := by
  unfold ownN
  rw [List.take_length, manyS_count]

theorem str_at (w : World) (x : ByteArray) (t : TypeId) (g : Nat) (hg : g = w.heap.size) : ∀ j u, ([Value.string x])[j]? = some u → (w.alloc (.cells #[.string x] t)).cell? ((⟨g, 0, none⟩ : Addr).add j) = some u := by
  subst hg; exact str_new w x t
end Go.Proofs.YtnapbnkbchaanaaGreatDoor
