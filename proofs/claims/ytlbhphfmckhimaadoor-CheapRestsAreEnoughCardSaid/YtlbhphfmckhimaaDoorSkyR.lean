/- Plain law of the cosine in whole numbers: no program in sight. No condition. place.cosine and pileref1.CosineOf both compute the plain cosine. Condition: the angle is far from the ends of int. Plain law of the sun: what tilt and height come to, and their bounds: no program in sight. No condition. The walks over tilt and height of the sun, in package place and in the reference. Condition: moments and angles in their ranges. The error of a site, in package place and in the reference. No condition. Tilt, Sun, Grey, Cosine with their errors; GreyAt; placed. Condition: a site's numbers lie within 2^41. ready: the four packages do something. Condition: asciiSpace is Go's own table, MaxLen holds a number. -/
import Derived.Test.YtlbhphfmckhimaaDoorBase
import Derived.Test.YtlbhphfmckhimaaDoorFaults
import Derived.Test.YtlbhphfmckhimaaDoorCall
import Derived.Test.YtlbhphfmckhimaaDoorKeyB
import Derived.Test.YtlbhphfmckhimaaDoorRateB
import Derived.Test.YtlbhphfmckhimaaDoorRateC
namespace Go.Proofs.YtlbhphfmckhimaaDoor
set_option linter.unusedVariables false

def cosB (x : Int) : Int := (419904000000 - 4 * x * x) * 1000000 / (419904000000 + x * x)
/-- The cosine of an angle that is from 0 to a whole circle less 1. -/
def cosC (y : Int) : Int :=
  if 648000 < y then (if 324000 < 1296000 - y then -cosB (648000 - (1296000 - y)) else cosB (1296000 - y))
  else (if 324000 < y then -cosB (648000 - y) else cosB y)
def cosI (a : Int) : Int := cosC (a % 1296000)

theorem sq_bd (x : Int) (h0 : 0 ≤ x) (h1 : x ≤ 324000) : 0 ≤ x * x ∧ x * x ≤ 104976000000 ∧ 4 * x * x = 4 * (x * x) := by
  refine ⟨Int.mul_nonneg h0 h0, ?_, by rw [Int.mul_assoc]⟩
  have := Int.mul_le_mul h1 h1 h0 (by omega)
  omega
theorem cosB_bd (x : Int) (h0 : 0 ≤ x) (h1 : x ≤ 324000) : 0 ≤ cosB x ∧ cosB x ≤ 1000000 := by
  obtain ⟨a, b, c⟩ := sq_bd x h0 h1
  unfold cosB
  rw [c]
  refine ⟨Int.ediv_nonneg (by omega) (by omega), ?_⟩
  refine Int.le_of_lt_add_one (Int.ediv_lt_of_lt_mul (by omega) ?_)
  omega
theorem cosC_bd (y : Int) (h0 : 0 ≤ y) (h1 : y < 1296000) : -1000000 ≤ cosC y ∧ cosC y ≤ 1000000 := by
  unfold cosC
  split <;> split
  · have := cosB_bd (648000 - (1296000 - y)) (by omega) (by omega); omega
  · have := cosB_bd (1296000 - y) (by omega) (by omega); omega
  · have := cosB_bd (648000 - y) (by omega) (by omega); omega
  · have := cosB_bd y (by omega) (by omega); omega
theorem cosI_bd (a : Int) : -1000000 ≤ cosI a ∧ cosI a ≤ 1000000 :=
  cosC_bd _ (by omega) (by omega)
theorem tmod_circle (a : Int) : (a.tmod 1296000 + 1296000) % 1296000 = a % 1296000 := by
  have := Int.tmod_add_mul_tdiv a 1296000
  have h1 := tmod_lo a 1296000 (by omega)
  omega
theorem tmod_pos {a : Int} (h : 0 ≤ a) : a.tmod 1296000 = a % 1296000 := by rw [Int.tmod_eq_emod_of_nonneg h]
theorem tmod_neg' {a : Int} (h : a.tmod 1296000 < 0) : a.tmod 1296000 + 1296000 = a % 1296000 := by
  have := tmod_circle a
  have h1 := tmod_lo a 1296000 (by omega)
  omega
theorem tmod_nonneg' {a : Int} (h : 0 ≤ a.tmod 1296000) : a.tmod 1296000 = a % 1296000 := by
  have := tmod_circle a
  have h1 := tmod_lo a 1296000 (by omega)
  omega
end Go.Proofs.YtlbhphfmckhimaaDoor

namespace Go.Proofs.YtlbhphfmckhimaaDoor
set_option linter.unusedVariables false
open Go.RowKit

set_option maxHeartbeats 400000 in
theorem cosine_base (x : Int) (w : World) (h0 : 0 ≤ x) (h1 : x ≤ 324000) :
    Calls Tryd.prog 37 #[.int .i64 x] w fun e w' => e = .returned (.int .i64 (cosB x)) ∧ w = w' := by
  obtain ⟨a, b, c⟩ := sq_bd x h0 h1
  have a' : 0 ≤ 4 * x * x := by omega
  have b' : 4 * x * x ≤ 419904000000 := by omega
  have e1 : (x % 1296000 + 1296000) % 1296000 = x := by omega
  clear c
  go_enter Tryd.func37, Tryd.ntmps37
  go_wp2_with fail
  go_ret
  exact ⟨rfl, rfl⟩


set_option maxHeartbeats 1000000 in
theorem cosine_any (x : Int) (w : World) (h0 : -1000000000000000 ≤ x) (h1 : x ≤ 1000000000000000) :
    Calls Tryd.prog 37 #[.int .i64 x] w fun e w' => e = .returned (.int .i64 (cosI x)) ∧ w = w' := by
  have ht := tmod_lo x 1296000 (by omega)
  obtain ⟨t1, t2⟩ := ht
  have hc := tmod_circle x
  have hfin : cosI x = cosC (x % 1296000) := rfl
  obtain ⟨y, hy⟩ : ∃ y, y = x % 1296000 := ⟨_, rfl⟩
  have y0 : 0 ≤ y := by omega
  have y1 : y < 1296000 := by omega
  rw [← hy] at hc hfin
  have hc2 : 0 ≤ x → (x % 1296000 + 1296000) % 1296000 = y := fun _ => by omega
  have HF := Lib.hid hfin
  clear hfin hy
  by_cases hx : 0 ≤ x
  all_goals first | (have hc3 := hc2 hx; clear hc hc2) | clear hc2
  all_goals
    by_cases g1 : 648000 < y
    · obtain ⟨z, hz⟩ : ∃ z, 1296000 - y = z := ⟨_, rfl⟩
      have z0 : 0 ≤ z := by omega
      have z1 : z < 648000 := by omega
      by_cases g2 : 324000 < z
      · have HE := Lib.hid (show cosC y = -cosB (648000 - z) by unfold cosC; rw [if_pos g1, hz, if_pos g2])
        have hbd := cosB_bd (648000 - z) (by omega) (by omega)
        obtain ⟨d1, d2⟩ := hbd
        go_enter Tryd.func37, Tryd.ntmps37
        go_wp2_with (go_at_call 37; refine (cosine_base _ _ (by omega) (by omega)).mono ?_; rintro e w' ⟨rfl, rfl⟩)
        go_ret
        exact ⟨ret_of (by rw [HF.out, HE.out]), rfl⟩
      · have HE := Lib.hid (show cosC y = cosB z by unfold cosC; rw [if_pos g1, hz, if_neg g2])
        obtain ⟨a, b, c⟩ := sq_bd z z0 (by omega)
        have a' : 0 ≤ 4 * z * z := by omega
        have b' : 4 * z * z ≤ 419904000000 := by omega
        clear c
        go_enter Tryd.func37, Tryd.ntmps37
        go_wp2_with fail
        go_ret
        exact ⟨ret_of (by rw [HF.out, HE.out]; rfl), rfl⟩
    · by_cases g2 : 324000 < y
      · have HE := Lib.hid (show cosC y = -cosB (648000 - y) by unfold cosC; rw [if_neg g1, if_pos g2])
        have hbd := cosB_bd (648000 - y) (by omega) (by omega)
        obtain ⟨d1, d2⟩ := hbd
        go_enter Tryd.func37, Tryd.ntmps37
        go_wp2_with (go_at_call 37; refine (cosine_base _ _ (by omega) (by omega)).mono ?_; rintro e w' ⟨rfl, rfl⟩)
        go_ret
        exact ⟨ret_of (by rw [HF.out, HE.out]), rfl⟩
      · have HE := Lib.hid (show cosC y = cosB y by unfold cosC; rw [if_neg g1, if_neg g2])
        obtain ⟨a, b, c⟩ := sq_bd y y0 (by omega)
        have a' : 0 ≤ 4 * y * y := by omega
        have b' : 4 * y * y ≤ 419904000000 := by omega
        clear c
        go_enter Tryd.func37, Tryd.ntmps37
        go_wp2_with fail
        go_ret
        exact ⟨ret_of (by rw [HF.out, HE.out]; rfl), rfl⟩

end Go.Proofs.YtlbhphfmckhimaaDoor

namespace Go.Proofs.YtlbhphfmckhimaaDoor
set_option linter.unusedVariables false

def sineI (a : Int) : Int := cosI (a - 324000)
def tiltI (at_ : Int) : Int := (84384 * cosI (((at_ / 86400000 % 365 - 171) * 1296000).tdiv 365)).tdiv 1000000
def hourI (at_ : Int) : Int := ((at_ % 86400000 - 43200000) * 1296000).tdiv 86400000
def sunI (n e at_ : Int) : Int :=
  (sineI n * sineI (tiltI at_)).tdiv 1000000 + ((cosI n * cosI (tiltI at_)).tdiv 1000000 * cosI (hourI at_ + e)).tdiv 1000000

theorem tdiv_bd (a b c : Int) (hb : 0 < b) (h1 : -(c * b) ≤ a) (h2 : a ≤ c * b) : -c ≤ a.tdiv b ∧ a.tdiv b ≤ c := by
  have hm := tmod_lo a b (by omega)
  have he := Int.mul_tdiv_add_tmod a b
  refine ⟨?_, ?_⟩
  · by_cases h : a.tdiv b < -c
    · exfalso
      have hh : b * a.tdiv b ≤ b * (-c - 1) := Int.mul_le_mul_of_nonneg_left (by omega) (by omega)
      rw [Int.mul_sub, Int.mul_neg, Int.mul_comm b c] at hh
      omega
    · omega
  · by_cases h : c < a.tdiv b
    · exfalso
      have hh : b * (c + 1) ≤ b * a.tdiv b := Int.mul_le_mul_of_nonneg_left (by omega) (by omega)
      rw [Int.mul_add, Int.mul_comm b c] at hh
      omega
    · omega
theorem mul_bd (a b c d : Int) (h1 : -c ≤ a) (h2 : a ≤ c) (h3 : -d ≤ b) (h4 : b ≤ d) : -(c * d) ≤ a * b ∧ a * b ≤ c * d := by
  have key : a.natAbs * b.natAbs ≤ c.natAbs * d.natAbs := Nat.mul_le_mul (by omega) (by omega)
  rw [← Int.natAbs_mul, ← Int.natAbs_mul] at key
  have hcd : 0 ≤ c * d := Int.mul_nonneg (by omega) (by omega)
  omega
theorem sineI_bd (a : Int) : -1000000 ≤ sineI a ∧ sineI a ≤ 1000000 := cosI_bd _
theorem tiltI_bd (a : Int) : -84384 ≤ tiltI a ∧ tiltI a ≤ 84384 := by
  have := cosI_bd (((a / 86400000 % 365 - 171) * 1296000).tdiv 365)
  exact tdiv_bd _ _ _ (by omega) (by omega) (by omega)
theorem hourI_bd (a : Int) : -648000 ≤ hourI a ∧ hourI a ≤ 648000 :=
  tdiv_bd _ _ _ (by omega) (by omega) (by omega)
theorem prod_bd (a b : Int) (h1 : -1000000 ≤ a ∧ a ≤ 1000000) (h2 : -1000000 ≤ b ∧ b ≤ 1000000) :
    -1000000000000 ≤ a * b ∧ a * b ≤ 1000000000000 ∧ -1000000 ≤ (a * b).tdiv 1000000 ∧ (a * b).tdiv 1000000 ≤ 1000000 := by
  have := mul_bd a b 1000000 1000000 (by omega) (by omega) (by omega) (by omega)
  have h3 := tdiv_bd (a * b) 1000000 1000000 (by omega) (by omega) (by omega)
  omega
theorem sunI_bd (n e a : Int) : -2000000 ≤ sunI n e a ∧ sunI n e a ≤ 2000000 := by
  unfold sunI
  have h1 := prod_bd _ _ (sineI_bd n) (sineI_bd (tiltI a))
  have h2 := prod_bd _ _ (cosI_bd n) (cosI_bd (tiltI a))
  have h3 := prod_bd _ _ ⟨h2.2.2.1, h2.2.2.2⟩ (cosI_bd (hourI a + e))
  omega
end Go.Proofs.YtlbhphfmckhimaaDoor

namespace Go.Proofs.YtlbhphfmckhimaaDoor
open Go.RowKit
set_option linter.unusedVariables false

theorem year_bd (a : Int) : -700000 ≤ ((a / 86400000 % 365 - 171) * 1296000).tdiv 365 ∧ ((a / 86400000 % 365 - 171) * 1296000).tdiv 365 ≤ 700000 := by
  have := tdiv_bd ((a / 86400000 % 365 - 171) * 1296000) 365 700000 (by omega) (by omega) (by omega)
  exact ⟨by omega, this.2⟩

/-- The sun's height out of its parts, under names: so that the walk meets numbers, not terms. -/
structure SunParts (n e at_ t cn sn ct st h ch p1 q1 p2 q2 p3 q3 : Int) : Prop where
  t_ : t = tiltI at_
  t0_ : -84384 ≤ t ∧ t ≤ 84384
  cn_ : cosI n = cn
  cn0_ : -1000000 ≤ cn ∧ cn ≤ 1000000
  sn_ : sineI n = sn
  sn0_ : -1000000 ≤ sn ∧ sn ≤ 1000000
  ct_ : cosI t = ct
  ct0_ : -1000000 ≤ ct ∧ ct ≤ 1000000
  st_ : sineI t = st
  st0_ : -1000000 ≤ st ∧ st ≤ 1000000
  h_ : hourI at_ + e = h
  ch_ : cosI h = ch
  ch0_ : -1000000 ≤ ch ∧ ch ≤ 1000000
  p1_ : sn * st = p1
  p10_ : -1000000000000 ≤ p1 ∧ p1 ≤ 1000000000000
  q1_ : p1.tdiv 1000000 = q1
  q10_ : -1000000 ≤ q1 ∧ q1 ≤ 1000000
  p2_ : cn * ct = p2
  p20_ : -1000000000000 ≤ p2 ∧ p2 ≤ 1000000000000
  q2_ : p2.tdiv 1000000 = q2
  q20_ : -1000000 ≤ q2 ∧ q2 ≤ 1000000
  p3_ : q2 * ch = p3
  p30_ : -1000000000000 ≤ p3 ∧ p3 ≤ 1000000000000
  q3_ : p3.tdiv 1000000 = q3
  q30_ : -1000000 ≤ q3 ∧ q3 ≤ 1000000
  fin_ : sunI n e at_ = q1 + q3
theorem sunParts (n e at_ : Int) : ∃ t cn sn ct st h ch p1 q1 p2 q2 p3 q3, SunParts n e at_ t cn sn ct st h ch p1 q1 p2 q2 p3 q3 := by
  have h1 := prod_bd _ _ (sineI_bd n) (sineI_bd (tiltI at_))
  have h2 := prod_bd _ _ (cosI_bd n) (cosI_bd (tiltI at_))
  have h3 := prod_bd _ _ ⟨h2.2.2.1, h2.2.2.2⟩ (cosI_bd (hourI at_ + e))
  exact ⟨_, _, _, _, _, _, _, _, _, _, _, _, _, ⟨rfl, tiltI_bd _, rfl, cosI_bd _, rfl, sineI_bd _, rfl, cosI_bd _, rfl, sineI_bd _, rfl, rfl, cosI_bd _, rfl, ⟨h1.1, h1.2.1⟩, rfl, h1.2.2,
    rfl, ⟨h2.1, h2.2.1⟩, rfl, h2.2.2, rfl, ⟨h3.1, h3.2.1⟩, rfl, h3.2.2, rfl⟩⟩

theorem i64_in (n : Int) (h : -9223372036854775808 ≤ n ∧ n ≤ 9223372036854775807) : IntKind.i64.wrap n = n := IntWalk.i64_in n h

end Go.Proofs.YtlbhphfmckhimaaDoor

namespace Go.Proofs.YtlbhphfmckhimaaDoor
open Go.RowKit
set_option linter.unusedVariables false

def siteE (n e : Int) : Int := if outB n (-324000) 324000 || outB e (-648000) 647999 then 1 else 0
theorem siteE_cases (n e : Int) : (siteE n e = 0 ∧ -324000 ≤ n ∧ n ≤ 324000 ∧ -648000 ≤ e ∧ e ≤ 647999) ∨ siteE n e = 1 := by
  unfold siteE
  by_cases h1 : -324000 ≤ n ∧ n ≤ 324000
  · rw [outB_no h1.1 h1.2]
    by_cases h2 : -648000 ≤ e ∧ e ≤ 647999
    · rw [outB_no h2.1 h2.2]; exact .inl ⟨rfl, h1.1, h1.2, h2.1, h2.2⟩
    · rw [outB_yes (by omega)]; exact .inr rfl
  · rw [outB_yes (by omega)]; exact .inr rfl

def bothE (n e n2 d2 : Int) : Int := if siteE n e = 0 then siteE n2 d2 else siteE n e
theorem siteE_01 (n e : Int) : siteE n e = 0 ∨ siteE n e = 1 := by rcases siteE_cases n e with h | h; exact .inl h.1; exact .inr h
theorem siteE_rng {n e : Int} (h : siteE n e = 0) : -324000 ≤ n ∧ n ≤ 324000 ∧ -648000 ≤ e ∧ e ≤ 647999 := by
  rcases siteE_cases n e with ⟨_, h1⟩ | h1
  · exact h1
  · omega

theorem bothE_01 (n e n2 d2 : Int) : (bothE n e n2 d2 = 0 ∧ siteE n e = 0 ∧ siteE n2 d2 = 0) ∨ bothE n e n2 d2 = 1 := by
  unfold bothE
  rcases siteE_01 n e with h | h <;> rcases siteE_01 n2 d2 with h2 | h2 <;> simp [h, h2]

end Go.Proofs.YtlbhphfmckhimaaDoor

namespace Go.Proofs.YtlbhphfmckhimaaDoor
open Go.RowKit
set_option linter.unusedVariables false

set_option maxHeartbeats 400000 in
theorem cosineE_any (x : Int) (w : World) :
    Calls Tryd.prog 20 #[.int .i64 x] w fun r w' =>
      r = .returned (.tuple #[.int .i64 (okI (spanE x (-1296000000) 1296000000) (cosI x)), .int .i64 (spanE x (-1296000000) 1296000000)]) ∧ w = w' := by
  rcases spanE_cases x (-1296000000) 1296000000 with ⟨he, h1, h2⟩ | ⟨he, h1⟩
  · have HE := Lib.hid he
    have hb : outB x (-1296000000) 1296000000 = false := outB_no h1 h2
    clear he
    go_enter Tryd.func20, Tryd.ntmps20
    go_wp2_with (first | (go_at_call 36; refine (outside_any _ _ _ _).mono ?_; rintro r w' ⟨rfl, rfl⟩) | (go_at_call 37; refine (cosine_any _ _ (by omega) (by omega)).mono ?_; rintro r w' ⟨rfl, rfl⟩))
    go_ret2
    exact ⟨ret_2i (by unfold okI; rw [HE.out]; rfl) HE.out.symm, rfl⟩
  · have HE := Lib.hid he
    have hb : outB x (-1296000000) 1296000000 = true := outB_yes h1
    clear he
    go_enter Tryd.func20, Tryd.ntmps20
    go_wp2_with (first | (go_at_call 36; refine (outside_any _ _ _ _).mono ?_; rintro r w' ⟨rfl, rfl⟩))
    go_ret2
    exact ⟨ret_2i (by unfold okI; rw [HE.out]; rfl) HE.out.symm, rfl⟩

/-- The error of a site and a moment. -/
def sunE (n e a : Int) : Int := if siteE n e = 0 then momE a else siteE n e

theorem sunE_ok {n e a : Int} (h : siteE n e = 0) : sunE n e a = momE a := by unfold sunE; rw [if_pos h]
theorem sunE_bad {n e a : Int} (h : siteE n e = 1) : sunE n e a = 1 := by unfold sunE; rw [if_neg (by omega), h]

/-- Is it grey? -/
def greyB (n e a within : Int) : Bool := !outB (sunI n e a) (-within) within
def greyE (n e a within : Int) : Int := if sunE n e a = 0 then spanE within 0 200000 else sunE n e a

theorem greyE_ok {n e a v : Int} (h : sunE n e a = 0) : greyE n e a v = spanE v 0 200000 := by unfold greyE; rw [if_pos h]
theorem greyE_bad {n e a v : Int} (h : sunE n e a = 1) : greyE n e a v = 1 := by unfold greyE; rw [if_neg (by omega), h]

theorem cos60 : cosI 216000 = 500000 := by decide +kernel

end Go.Proofs.YtlbhphfmckhimaaDoor

namespace Go.Proofs.YtlbhphfmckhimaaDoor
open Go.RowKit
set_option linter.unusedVariables false

theorem apart_ready (w : World) : Calls Tryd.prog 19 #[.string ⟨#[111, 104, 50, 97, 98, 99, 47, 52]⟩] w fun e w' =>
    e = .returned (.tuple #[.agg #[.string ⟨#[111, 104, 50, 97, 98, 99]⟩, .string ⟨#[111, 104, 50]⟩, .string ⟨#[97, 98, 99]⟩, .int .i64 2, .string ⟨#[52]⟩], .int .i64 0]) ∧ w.grownBy w' none := by
  refine (apart_any _ w (by decide) ?_).mono ?_
  · intro j b h
    have hm := List.mem_of_getElem? h
    have hall : ∀ b ∈ (⟨#[111, 104, 50, 97, 98, 99, 47, 52]⟩ : ByteArray).data.toList, b.toNat < 128 := by decide +kernel
    exact hall b hm
  · rintro e w' ⟨hg, h⟩
    refine ⟨?_, hg⟩
    rcases h with ⟨h, _⟩ | ⟨t, k, kd, ad, h, rfl⟩
    · rw [partsOf_ready] at h; cases h
    · rw [partsOf_ready] at h
      simp only [Option.some.injEq, Prod.mk.injEq] at h
      obtain ⟨rfl, rfl, rfl, rfl⟩ := h
      rfl
theorem units_ready (b : Nat) (w : World) (hgl : Gl b w) : Calls Tryd.prog 21 #[.string ⟨#[112, 97, 114, 105, 115]⟩] w fun e w' =>
    e = .returned (.tuple #[.int .i64 43, .int .i64 0]) ∧ w.grownBy w' none := by
  have h := units_any b parisS w hgl (by decide)
  rw [paris_ok, paris_units] at h
  exact h
theorem cosine_ready (w : World) : Calls Tryd.prog 20 #[.int .i64 216000] w fun e w' =>
    e = .returned (.tuple #[.int .i64 500000, .int .i64 0]) ∧ w = w' := by
  have h1 : spanE 216000 (-1296000000) 1296000000 = 0 := spanE_no (by omega) (by omega)
  have h := cosineE_any 216000 w
  rw [h1, cos60] at h
  exact h
theorem best_ready (w : World) : Calls Tryd.prog 22 #[.slice (some ⟨w.heap.size, 0, none⟩) 3 3, .agg #[.int .i64 0, .int .i64 3600000], .int .i64 900000] (w.alloc (.cells #[.int .i64 0, .int .i64 600000, .int .i64 1200000] 3)) fun e w' =>
    e = .returned (.tuple #[.int .i64 0, .int .i64 2, .int .i64 0]) ∧ w.grownBy w' none := by
  have hb := Blk.new w 3 (([0, 600000, 1200000] : List Int).map (Value.int .i64)).toArray
  have hl : IntsFrom 0 _ _ [0, 600000, 1200000] := blk_ints hb (Nat.zero_le _) (by decide)
  have e1 : timesE [0, 600000, 1200000] 0 3600000 = 0 := by decide
  have e2 : longE 900000 = 0 := by decide
  have e3 : bestI [0, 600000, 1200000] 0 900000 = (0, 2) := by decide
  have H := (best_ok 0 _ _ 0 3600000 900000 _ hl e1 e2)
  rw [e3] at H
  exact H.mono fun e w' ⟨he, hg⟩ => ⟨he, gr_trans (World.grownBy_alloc w _ none) hg⟩

set_option maxRecDepth 100000 in
set_option maxHeartbeats 2000000 in
theorem ready_any (b : Nat) (w : World) (hgl : Gl b w) : Calls Tryd.prog 8 #[] w fun r w' => r = .returned (.bool true) ∧ w.grownBy w' none := by
  have HGL := Lib.hid hgl
  clear hgl
  go_enter Tryd.func8, Tryd.ntmps8
  go_wp2_with fail
  refine (apart_ready _).mono ?_
  rintro _ w1 ⟨rfl, hg1⟩
  go_wp2_with fail
  have hB := Blk.new w1 51 #[.string ⟨#[111, 104, 50, 97, 98, 99]⟩, .string ⟨#[111, 104, 50]⟩, .string ⟨#[97, 98, 99]⟩, .int .i64 2, .string ⟨#[52]⟩]
  have hG := gr_alloc hg1 (.cells #[.string ⟨#[111, 104, 50, 97, 98, 99]⟩, .string ⟨#[111, 104, 50]⟩, .string ⟨#[97, 98, 99]⟩, .int .i64 2, .string ⟨#[52]⟩] 51)
  clear hg1
  generalize w1.alloc (.cells #[.string ⟨#[111, 104, 50, 97, 98, 99]⟩, .string ⟨#[111, 104, 50]⟩, .string ⟨#[97, 98, 99]⟩, .int .i64 2, .string ⟨#[52]⟩] 51) = W at *
  refine (cosine_ready _).mono ?_
  rintro _ _ ⟨rfl, rfl⟩
  go_wp2_with fail
  refine (units_ready b _ (HGL.out.quiet hG)).mono ?_
  rintro _ w2 ⟨rfl, hg⟩
  replace hB := hB.grown hg (by simp)
  replace hG := gr_trans hG hg
  clear hg
  go_wp2_with fail
  refine (best_ready _).mono ?_
  rintro _ w3 ⟨rfl, hg⟩
  replace hB := hB.grown hg (by simp)
  replace hG := gr_trans hG hg
  have c1 : w3.cell? ⟨w1.heap.size, 1, none⟩ = some (.string ⟨#[111, 104, 50]⟩) := hB.cell 1
  clear hg
  go_wp2_with fail
  go_ret
  exact ⟨rfl, hG⟩
end Go.Proofs.YtlbhphfmckhimaaDoor
