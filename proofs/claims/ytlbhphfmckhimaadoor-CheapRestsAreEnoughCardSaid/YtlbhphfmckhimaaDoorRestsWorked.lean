/- The walks over rate.rests and rate.longOf. Condition: times without error; a least length from 1 to 10^9. The walks over rate.longOf and its twin, over the errors of rests, rate.Off and rate.Worked. Condition: windows within the times of a contest; the window's end is at most 2^60. -/
import Derived.Test.YtlbhphfmckhimaaDoorRateB
import Derived.Test.YtlbhphfmckhimaaDoorRateA
namespace Go.Proofs.YtlbhphfmckhimaaDoor
open Go.RowKit
set_option linter.unusedVariables false

/-- The rests that are long enough. -/
def longB (least : Int) (p : Int × Int) : Bool := decide (least ≤ p.2 - p.1)
def restsL (least f : Int) (ll : List Int) : List (Int × Int) := (gapsL 1 f ll).filter (longB least)
theorem restsL_cons (least f x : Int) (r : List Int) : restsL least f (x :: r) = (if longB least (f, x) then [(f, x)] else []) ++ restsL least (x + 1) r := by
  unfold restsL
  rw [gapsL, List.filter_cons]
  by_cases h : longB least (f, x) = true
  · rw [if_pos h, if_pos h]; rfl
  · rw [if_neg h, if_neg h]; rfl
def offL (l : List Int) (a zt least : Int) : List (Int × Int) := restsL least a (l ++ [zt])

end Go.Proofs.YtlbhphfmckhimaaDoor

namespace Go.Proofs.YtlbhphfmckhimaaDoor
open Go.RowKit
set_option linter.unusedVariables false

def sumW (l : List (Int × Int)) : Int := l.foldl (fun n p => n + (p.2 - p.1)) 0
theorem sumW_snoc (l : List (Int × Int)) (k : Nat) (h : k < l.length) : sumW (l.take (k + 1)) = sumW (l.take k) + (l[k].2 - l[k].1) := by
  unfold sumW
  rw [List.take_succ_eq_append_getElem h, List.foldl_append]
  rfl
theorem sumW_bd (l : List (Int × Int)) (hb : ∀ p ∈ l, -1 ≤ p.2 - p.1 ∧ p.2 - p.1 ≤ 345686400001) : ∀ k, k ≤ l.length → -(k : Int) ≤ sumW (l.take k) ∧ sumW (l.take k) ≤ 345686400001 * (k : Int)
  | 0, _ => by simp [sumW]
  | k + 1, h => by
    have ih := sumW_bd l hb k (by omega)
    rw [sumW_snoc l k (by omega)]
    have := hb l[k] (List.getElem_mem _)
    omega

/-- What is known of the rests. -/
theorem offL_mem (l : List Int) (a to_ least : Int) (h : timesE l a to_ = 0) (hm : 1 ≤ least) : ∀ p ∈ offL l a to_ least, 0 ≤ p.1 ∧ p.1 ≤ 345686400001 ∧ 0 ≤ p.2 ∧ p.2 ≤ 345686400001 ∧ -1 ≤ p.2 - p.1 := by
  have O := timesE_ok h
  intro p hp
  have h1 := List.mem_filter.1 hp
  have h2 := gapsL_mem 1 0 345686400001 (l ++ [to_]) a (by have := O.a0; omega) (by have := O.ato; have := O.to_; omega) (fun x hx => by
    rcases List.mem_append.1 hx with h | h
    · have := O.mem x h; have := O.a0; have := O.to_; omega
    · simp at h; subst h; have := O.a0; have := O.ato; have := O.to_; omega) (by omega) p h1.1
  have h3 : least ≤ p.2 - p.1 := by simpa [longB] using h1.2
  omega
theorem offL_len (l : List Int) (a to_ least : Int) : (offL l a to_ least).length ≤ l.length + 1 := by
  have h1 : (offL l a to_ least).length ≤ (gapsL 1 a (l ++ [to_])).length := List.length_filter_le _ _
  rw [gapsL_len] at h1
  simpa using h1

def restE (l : List Int) (a z least : Int) : Int := orE (timesE l a z) (spanE least 1000 86400000)
def offAll (l : List Int) (a z least : Int) : List (Int × Int) := if restE l a z least = 0 then offL l a z least else []
def workAll (l : List Int) (a z least : Int) : Int := if restE l a z least = 0 then z - a - sumW (offL l a z least) else 0
theorem restE_0 {l : List Int} {a z least : Int} (h : restE l a z least = 0) : timesE l a z = 0 ∧ 1000 ≤ least ∧ least ≤ 86400000 := by
  obtain ⟨h1, h2⟩ := orE_0' h
  rcases spanE_cases least 1000 86400000 with ⟨_, h3, h4⟩ | ⟨h3, _⟩
  · exact ⟨h1, h3, h4⟩
  · omega

end Go.Proofs.YtlbhphfmckhimaaDoor
