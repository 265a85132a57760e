/- The walks over fractions in lowest terms, the last milliseconds before a moment, and the bad case of each exported function of package rate that begins with CheckTimes. Condition: numbers within their ranges. -/
import Derived.Test.YtjhklpffmfdkbaaGreatDoorRateIn
namespace Go.Proofs.YtjhklpffmfdkbaaGreatDoor
open Go.RowKit
set_option linter.unusedVariables false

theorem ret_agg2 {a b c d : Int} (h : a = b) (h' : c = d) : Ending.returned (.agg #[.int .i64 a, .int .i64 c]) = .returned (.agg #[.int .i64 b, .int .i64 d]) := by rw [h, h']

/-- A fraction in lowest terms. -/
def lowN (num den : Int) : Int := num / gcdN num den
def lowD (num den : Int) : Int := den / gcdN num den
theorem gcdN_pos {num den : Int} (h : 0 < den) : 1 ≤ gcdN num den ∧ gcdN num den ≤ den := by
  unfold gcdN
  have h1 := Nat.gcd_pos_of_pos_right num.toNat (show 0 < den.toNat by omega)
  have h2 := Nat.gcd_le_right num.toNat (show 0 < den.toNat by omega)
  omega
theorem gcd_step (m n : Nat) : Nat.gcd n (m % n) = Nat.gcd m n := by
  rw [Nat.gcd_comm m n, Nat.gcd_rec n m, Nat.gcd_comm]

/-- The last milliseconds before a moment. -/
def lastA (a at_ long : Int) : Int := max a (at_ - long)
def lastT (zt at_ : Int) : Int := min zt at_

end Go.Proofs.YtjhklpffmfdkbaaGreatDoor
