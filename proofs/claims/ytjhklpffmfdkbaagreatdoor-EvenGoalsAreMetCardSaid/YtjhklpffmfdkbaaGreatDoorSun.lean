/- The walks over tilt and height of the sun, in package place and in the reference. Condition: moments and angles in their ranges. -/
import Derived.Test.YtjhklpffmfdkbaaGreatDoorCos
import Derived.Test.YtjhklpffmfdkbaaGreatDoorSunPlain
namespace Go.Proofs.YtjhklpffmfdkbaaGreatDoor
open Go.RowKit
set_option linter.unusedVariables false

theorem year_bd (a : Int) : -700000 ≤ ((a / 86400000 % 365 - 171) * 1296000).tdiv 365 ∧ ((a / 86400000 % 365 - 171) * 1296000).tdiv 365 ≤ 700000 := by
  have := tdiv_bd ((a / 86400000 % 365 - 171) * 1296000) 365 700000 (by omega) (by omega) (by omega)
  exact ⟨by omega, this.2⟩

/-- The sun's height out of its parts, under names: so that the walk meets numbers, not terms. -/
structure SunParts (n e at_ t cn sn ct st h ch p1 q1 p2 q2 p3 q3 : Int) : Prop where
  t_ : t = tiltI at_
  t0_ : -84384 ≤ t ∧ t ≤ 84384
  cn_ : cosI n = cn
  cn0_ : -1000000 ≤ cn ∧ cn ≤ 1000000
  sn_ : sineI n = sn
  sn0_ : -1000000 ≤ sn ∧ sn ≤ 1000000
  ct_ : cosI t = ct
  ct0_ : -1000000 ≤ ct ∧ ct ≤ 1000000
  st_ : sineI t = st
  st0_ : -1000000 ≤ st ∧ st ≤ 1000000
  h_ : hourI at_ + e = h
  ch_ : cosI h = ch
  ch0_ : -1000000 ≤ ch ∧ ch ≤ 1000000
  p1_ : sn * st = p1
  p10_ : -1000000000000 ≤ p1 ∧ p1 ≤ 1000000000000
  q1_ : p1.tdiv 1000000 = q1
  q10_ : -1000000 ≤ q1 ∧ q1 ≤ 1000000
  p2_ : cn * ct = p2
  p20_ : -1000000000000 ≤ p2 ∧ p2 ≤ 1000000000000
  q2_ : p2.tdiv 1000000 = q2
  q20_ : -1000000 ≤ q2 ∧ q2 ≤ 1000000
  p3_ : q2 * ch = p3
  p30_ : -1000000000000 ≤ p3 ∧ p3 ≤ 1000000000000
  q3_ : p3.tdiv 1000000 = q3
  q30_ : -1000000 ≤ q3 ∧ q3 ≤ 1000000
  fin_ : sunI n e at_ = q1 + q3
theorem sunParts (n e at_ : Int) : ∃ t cn sn ct st h ch p1 q1 p2 q2 p3 q3, SunParts n e at_ t cn sn ct st h ch p1 q1 p2 q2 p3 q3 := by
  have h1 := prod_bd _ _ (sineI_bd n) (sineI_bd (tiltI at_))
  have h2 := prod_bd _ _ (cosI_bd n) (cosI_bd (tiltI at_))
  have h3 := prod_bd _ _ ⟨h2.2.2.1, h2.2.2.2⟩ (cosI_bd (hourI at_ + e))
  exact ⟨_, _, _, _, _, _, _, _, _, _, _, _, _, ⟨rfl, tiltI_bd _, rfl, cosI_bd _, rfl, sineI_bd _, rfl, cosI_bd _, rfl, sineI_bd _, rfl, rfl, cosI_bd _, rfl, ⟨h1.1, h1.2.1⟩, rfl, h1.2.2,
    rfl, ⟨h2.1, h2.2.1⟩, rfl, h2.2.2, rfl, ⟨h3.1, h3.2.1⟩, rfl, h3.2.2, rfl⟩⟩

theorem i64_in (n : Int) (h : -9223372036854775808 ≤ n ∧ n ≤ 9223372036854775807) : IntKind.i64.wrap n = n := IntWalk.i64_in n h

end Go.Proofs.YtjhklpffmfdkbaaGreatDoor
