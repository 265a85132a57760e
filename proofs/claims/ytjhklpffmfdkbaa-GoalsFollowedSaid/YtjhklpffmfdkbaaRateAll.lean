/- Each exported function of package rate that HoursCounted asks, with all its errors in one contract; 'rated' answers true. Condition: the window's end is at most 2^60. -/
import Derived.Test.YtjhklpffmfdkbaaRateHours
import Derived.Test.YtjhklpffmfdkbaaRateGapOf
import Derived.Test.YtjhklpffmfdkbaaRateBest
import Derived.Test.YtjhklpffmfdkbaaRateR
import Derived.Test.YtjhklpffmfdkbaaTimes
namespace Go.Proofs.Ytjhklpffmfdkbaa
open Go.RowKit
set_option linter.unusedVariables false

/-- The first error, or else the second one. -/
def orE (t e : Int) : Int := if t = 0 then e else t
def hoursAllL (l : List Int) (a to : Int) : List Int := if orE (timesE l a to) (hoursE a to) = 0 then hourAll l a to else []
def inAll (l : List Int) (a to x y : Int) : Int := if orE (timesE l a to) (winE x y) = 0 then manyI l x y else 0
def rateB (l : List Int) (a to at_ long : Int) : Bool := decide (lastE l a to at_ long = 0 ∧ lastA a at_ long < lastT to at_)
def rateN (l : List Int) (a to at_ long : Int) : Int := if rateB l a to at_ long then lowN (manyI l (lastA a at_ long) (lastT to at_) * 3600000) (lastT to at_ - lastA a at_ long) else 0
def rateD (l : List Int) (a to at_ long : Int) : Int := if rateB l a to at_ long then lowD (manyI l (lastA a at_ long) (lastT to at_) * 3600000) (lastT to at_ - lastA a at_ long) else 0
def bestA (l : List Int) (a to long : Int) : Int := if bestE l a to long = 0 then (bestI l a long).1 else 0
def bestM (l : List Int) (a to long : Int) : Int := if bestE l a to long = 0 then (bestI l a long).2 else 0
def gapA (l : List Int) (a to : Int) : Int := if timesE l a to = 0 then (gapI l a to).1 else 0
def gapT (l : List Int) (a to : Int) : Int := if timesE l a to = 0 then (gapI l a to).2 else 0

section
variable (base : Nat) (v : Value) (l : List Int) (a to : Int) (w : World) (hl : IntsFrom base w v l) (hto : -1152921504606846976 ≤ to) (hto2 : to ≤ 1152921504606846976)
include hl hto hto2
theorem hours_all : Calls Try.prog 10 #[v, .agg #[.int .i64 a, .int .i64 to]] w fun r w' =>
    ∃ u, r = .returned (.tuple #[u, .int .i64 (orE (timesE l a to) (hoursE a to))]) ∧ Ints w' u (hoursAllL l a to) ∧ w.grownBy w' none := by
  by_cases h : timesE l a to = 0
  · by_cases h2 : 1000 < hoursI a to
    · have h3 : hoursE a to = 2 := by unfold hoursE; rw [if_pos h2]
      have h4 : hoursAllL l a to = [] := by unfold hoursAllL orE; rw [if_pos h, h3]; rfl
      refine (hours_large base v l a to w hl h h2).mono ?_
      rintro r w' ⟨rfl, hg⟩
      exact ⟨_, by unfold orE; rw [if_pos h, h3], by rw [h4]; exact IntsFrom.nil _ _, hg⟩
    · have h3 : hoursE a to = 0 := by unfold hoursE; rw [if_neg h2]
      have h4 : hoursAllL l a to = hourAll l a to := by unfold hoursAllL orE; rw [if_pos h, h3]; rfl
      refine (hours_ok base v l a to w hl h (by omega)).mono ?_
      rintro r w' ⟨u, rfl, hu, hg⟩
      exact ⟨u, by unfold orE; rw [if_pos h, h3], by rw [h4]; exact hu, hg⟩
  · have h4 : hoursAllL l a to = [] := by unfold hoursAllL orE; rw [if_neg h, if_neg h]
    refine (hours_bad base v l a to w hl hto hto2 h).mono ?_
    rintro r w' ⟨rfl, hg⟩
    exact ⟨_, by unfold orE; rw [if_neg h], by rw [h4]; exact IntsFrom.nil _ _, hg⟩

theorem in_all (x y : Int) : Calls Try.prog 11 #[v, .agg #[.int .i64 a, .int .i64 to], .agg #[.int .i64 x, .int .i64 y]] w fun r w' =>
    r = .returned (.tuple #[.int .i64 (inAll l a to x y), .int .i64 (orE (timesE l a to) (winE x y))]) ∧ w.grownBy w' none := by
  by_cases h : timesE l a to = 0
  · refine (in_ok base v l a to x y w hl h).mono ?_
    rintro r w' ⟨rfl, hg⟩
    refine ⟨?_, hg⟩
    unfold inAll orE
    rw [if_pos h]; rfl
  · refine (in_bad base v l a to x y w hl hto hto2 h).mono ?_
    rintro r w' ⟨rfl, hg⟩
    refine ⟨?_, hg⟩
    unfold inAll orE
    rw [if_neg h, if_neg h]

theorem rate_all (at_ long : Int) : Calls Try.prog 12 #[v, .agg #[.int .i64 a, .int .i64 to], .int .i64 at_, .int .i64 long] w fun r w' =>
    r = .returned (.tuple #[.agg #[.int .i64 (rateN l a to at_ long), .int .i64 (rateD l a to at_ long)], .bool (rateB l a to at_ long), .int .i64 (lastE l a to at_ long)]) ∧ w.grownBy w' none := by
  by_cases h : lastE l a to at_ long = 0
  · have h' := h
    unfold lastE at h'
    have ht : timesE l a to = 0 := by
      by_cases ht : timesE l a to = 0
      · exact ht
      · rw [if_neg ht] at h'; exact h'
    rw [if_pos ht] at h'
    by_cases h2 : lastA a at_ long < lastT to at_
    · have hB : rateB l a to at_ long = true := by unfold rateB; simp [h, h2]
      refine (rate_ok base v l a to at_ long w hl ht h' h2).mono ?_
      rintro r w' ⟨rfl, hg⟩
      refine ⟨?_, hg⟩
      unfold rateN rateD
      rw [hB, h]; rfl
    · have hB : rateB l a to at_ long = false := by unfold rateB; simp; omega
      refine (rate_none base v l a to at_ long w hl ht h' (by omega)).mono ?_
      rintro r w' ⟨rfl, hg⟩
      refine ⟨?_, hg⟩
      unfold rateN rateD
      rw [hB, h]; rfl
  · have hB : rateB l a to at_ long = false := by unfold rateB; simp [h]
    refine (rate_bad base v l a to at_ long w hl hto hto2 h).mono ?_
    rintro r w' ⟨rfl, hg⟩
    refine ⟨?_, hg⟩
    unfold rateN rateD
    rw [hB]; rfl

theorem best_all (long : Int) : Calls Try.prog 13 #[v, .agg #[.int .i64 a, .int .i64 to], .int .i64 long] w fun r w' =>
    r = .returned (.tuple #[.int .i64 (bestA l a to long), .int .i64 (bestM l a to long), .int .i64 (bestE l a to long)]) ∧ w.grownBy w' none := by
  by_cases h : bestE l a to long = 0
  · have h' := h
    unfold bestE at h'
    have ht : timesE l a to = 0 := by
      by_cases ht : timesE l a to = 0
      · exact ht
      · rw [if_neg ht] at h'; exact h'
    rw [if_pos ht] at h'
    refine (best_ok base v l a to long w hl ht h').mono ?_
    rintro r w' ⟨rfl, hg⟩
    refine ⟨?_, hg⟩
    unfold bestA bestM
    rw [if_pos h, if_pos h, h]
  · refine (best_bad base v l a to long w hl hto hto2 h).mono ?_
    rintro r w' ⟨rfl, hg⟩
    refine ⟨?_, hg⟩
    unfold bestA bestM
    rw [if_neg h, if_neg h]

theorem gap_all : Calls Try.prog 14 #[v, .agg #[.int .i64 a, .int .i64 to]] w fun r w' =>
    r = .returned (.tuple #[.agg #[.int .i64 (gapA l a to), .int .i64 (gapT l a to)], .int .i64 (timesE l a to)]) ∧ w.grownBy w' none := by
  by_cases h : timesE l a to = 0
  · refine (gap_ok base v l a to w hl h).mono ?_
    rintro r w' ⟨rfl, hg⟩
    refine ⟨?_, hg⟩
    unfold gapA gapT
    rw [if_pos h, if_pos h, h]
  · refine (gap_bad base v l a to w hl hto hto2 h).mono ?_
    rintro r w' ⟨rfl, hg⟩
    refine ⟨?_, hg⟩
    unfold gapA gapT
    rw [if_neg h, if_neg h]
end

set_option maxHeartbeats 1000000 in
theorem rated_any (w : World) : Calls Try.prog 26 #[] w fun r w' => r = .returned (.bool true) ∧ w.grownBy w' none := by
  have hb := Blk.new w 3 (([0, 600000, 1200000] : List Int).map (Value.int .i64)).toArray
  have hl : IntsFrom 0 _ _ [0, 600000, 1200000] := blk_ints hb (Nat.zero_le _) (by decide)
  have e1 : timesE [0, 600000, 1200000] 0 3600000 = 0 := by decide
  have e2 : longE 900000 = 0 := by decide
  have e3 : bestI [0, 600000, 1200000] 0 900000 = (0, 2) := by decide
  have H := (best_ok 0 _ _ 0 3600000 900000 _ hl e1 e2)
  rw [e3] at H
  have HH := Lib.hid H
  clear H e1 e2 e3 hl hb
  go_enter Try.func26, Try.ntmps26
  go_wp2_with fail
  refine (HH.out).mono ?_
  rintro _ w1 ⟨rfl, hg⟩
  go_wp2_with fail
  go_ret
  exact ⟨rfl, gr_trans (World.grownBy_alloc w _ none) hg⟩
end Go.Proofs.Ytjhklpffmfdkbaa
