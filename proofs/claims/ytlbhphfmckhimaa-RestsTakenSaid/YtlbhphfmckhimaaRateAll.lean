/- Each exported function of package rate that HoursCounted asks, with all its errors in one contract; 'rated' answers true. Condition: the window's end is at most 2^60. -/
import Derived.Test.YtlbhphfmckhimaaRateC
import Derived.Test.YtlbhphfmckhimaaRateB
import Derived.Test.YtlbhphfmckhimaaTimes
namespace Go.Proofs.Ytlbhphfmckhimaa
open Go.RowKit
set_option linter.unusedVariables false

/-- The first error, or else the second one. -/
def hoursAllL (l : List Int) (a zt : Int) : List Int := if orE (timesE l a zt) (hoursE a zt) = 0 then hourAll l a zt else []
def inAll (l : List Int) (a zt x y : Int) : Int := if orE (timesE l a zt) (winE x y) = 0 then manyI l x y else 0
def rateB (l : List Int) (a zt at_ long : Int) : Bool := decide (lastE l a zt at_ long = 0 ∧ lastA a at_ long < lastT zt at_)
def rateN (l : List Int) (a zt at_ long : Int) : Int := if rateB l a zt at_ long then lowN (manyI l (lastA a at_ long) (lastT zt at_) * 3600000) (lastT zt at_ - lastA a at_ long) else 0
def rateD (l : List Int) (a zt at_ long : Int) : Int := if rateB l a zt at_ long then lowD (manyI l (lastA a at_ long) (lastT zt at_) * 3600000) (lastT zt at_ - lastA a at_ long) else 0
def bestA (l : List Int) (a zt long : Int) : Int := if bestE l a zt long = 0 then (bestI l a long).1 else 0
def bestM (l : List Int) (a zt long : Int) : Int := if bestE l a zt long = 0 then (bestI l a long).2 else 0
def gapA (l : List Int) (a zt : Int) : Int := if timesE l a zt = 0 then (gapI l a zt).1 else 0
def gapT (l : List Int) (a zt : Int) : Int := if timesE l a zt = 0 then (gapI l a zt).2 else 0

section
variable (base : Nat) (v : Value) (l : List Int) (a zt : Int) (w : World) (hl : IntsFrom base w v l) (hto : -1152921504606846976 ≤ zt) (hto2 : zt ≤ 1152921504606846976)
include hl hto hto2
theorem best_all (long : Int) : Calls Try.prog 42 #[v, .agg #[.int .i64 a, .int .i64 zt], .int .i64 long] w fun r w' =>
    r = .returned (.tuple #[.int .i64 (bestA l a zt long), .int .i64 (bestM l a zt long), .int .i64 (bestE l a zt long)]) ∧ w.grownBy w' none := by
  by_cases h : bestE l a zt long = 0
  · have h' := h
    unfold bestE at h'
    have ht : timesE l a zt = 0 := by
      by_cases ht : timesE l a zt = 0
      · exact ht
      · rw [if_neg ht] at h'; exact h'
    rw [if_pos ht] at h'
    refine (best_ok base v l a zt long w hl ht h').mono ?_
    rintro r w' ⟨rfl, hg⟩
    refine ⟨?_, hg⟩
    unfold bestA bestM
    rw [if_pos h, if_pos h, h]
  · refine (best_bad base v l a zt long w hl hto hto2 h).mono ?_
    rintro r w' ⟨rfl, hg⟩
    refine ⟨?_, hg⟩
    unfold bestA bestM
    rw [if_neg h, if_neg h]

end

set_option maxHeartbeats 1000000 in
theorem rated_any (w : World) : Calls Try.prog 21 #[] w fun r w' => r = .returned (.bool true) ∧ w.grownBy w' none := by
  have hb := Blk.new w 3 (([0, 600000, 1200000] : List Int).map (Value.int .i64)).toArray
  have hl : IntsFrom 0 _ _ [0, 600000, 1200000] := blk_ints hb (Nat.zero_le _) (by decide)
  have e1 : timesE [0, 600000, 1200000] 0 3600000 = 0 := by decide
  have e2 : longE 900000 = 0 := by decide
  have e3 : bestI [0, 600000, 1200000] 0 900000 = (0, 2) := by decide
  have H := (best_ok 0 _ _ 0 3600000 900000 _ hl e1 e2)
  rw [e3] at H
  have HH := Lib.hid H
  clear H e1 e2 e3 hl hb
  go_enter Try.func21, Try.ntmps21
  go_wp2_with fail
  refine (HH.out).mono ?_
  rintro _ w1 ⟨rfl, hg⟩
  go_wp2_with fail
  go_ret
  exact ⟨rfl, gr_trans (World.grownBy_alloc w _ none) hg⟩
end Go.Proofs.Ytlbhphfmckhimaa
