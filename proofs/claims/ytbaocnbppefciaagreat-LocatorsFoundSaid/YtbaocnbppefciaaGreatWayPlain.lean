/- Plain words for the ways between sites: angles taken around the world, parts of a way. No program in sight. -/
import Derived.Test.YtbaocnbppefciaaGreatBase
namespace Go.Proofs.YtbaocnbppefciaaGreat
set_option linter.unusedVariables false

/-- An angle to the east, taken around the world. -/
def aroundI (x : Int) : Int := (x + 648000) % 1296000 - 648000
theorem aroundI_bd (x : Int) : -648000 ≤ aroundI x ∧ aroundI x ≤ 647999 := by unfold aroundI; omega
theorem aroundI_id {x : Int} (h0 : -648000 ≤ x) (h1 : x ≤ 647999) : aroundI x = x := by unfold aroundI; omega
theorem aroundI_back {a b : Int} (h0 : -648000 ≤ b) (h1 : b ≤ 647999) : aroundI (a + aroundI (b - a)) = b := by unfold aroundI; omega
/-- There and back: the other way round, but for half the world. -/
theorem aroundI_neg {x : Int} (h : aroundI x ≠ -648000) : aroundI (-x) = -aroundI x := by unfold aroundI at h ⊢; omega
theorem aroundI_half {x : Int} (h : aroundI x = -648000) : aroundI (-x) = -648000 := by unfold aroundI at h ⊢; omega

/-- A part of a way lies between its ends. -/
theorem part_up (d k p : Int) (hd : 0 ≤ d) (h0 : 0 ≤ k) (h1 : k ≤ p) (hp : 0 < p) : 0 ≤ (d * k).tdiv p ∧ (d * k).tdiv p ≤ d := by
  have hk : 0 ≤ d * k := Int.mul_nonneg hd h0
  rw [Int.tdiv_eq_ediv_of_nonneg hk]
  refine ⟨Int.ediv_nonneg hk (by omega), ?_⟩
  exact Int.ediv_le_of_le_mul hp (Int.mul_le_mul_of_nonneg_left h1 hd)
theorem part_bd (d k p : Int) (h0 : 0 ≤ k) (h1 : k ≤ p) (hp : 0 < p) : min 0 d ≤ (d * k).tdiv p ∧ (d * k).tdiv p ≤ max 0 d := by
  rcases Int.le_total 0 d with h | h
  · have := part_up d k p h h0 h1 hp
    omega
  · have := part_up (-d) k p (by omega) h0 h1 hp
    rw [Int.neg_mul, Int.neg_tdiv] at this
    omega
theorem part_all (d p : Int) (hp : 0 < p) : (d * p).tdiv p = d := Int.mul_tdiv_cancel d (by omega)

/-- The sites of a way. -/
def wayN (a b p : Int) (k : Nat) : Int := a + ((b - a) * (k : Int)).tdiv p
def wayE (a b p : Int) (k : Nat) : Int := aroundI (a + (aroundI (b - a) * (k : Int)).tdiv p)
def wayL (an ae bn be p : Int) : List (Int × Int) := (List.range (p + 1).toNat).map fun k => (wayN an bn p k, wayE ae be p k)
theorem wayN_0 (a b p : Int) : wayN a b p 0 = a := by simp [wayN]
theorem wayE_0 {a : Int} (b p : Int) (h0 : -648000 ≤ a) (h1 : a ≤ 647999) : wayE a b p 0 = a := by
  unfold wayE
  have : (aroundI (b - a) * ((0 : Nat) : Int)).tdiv p = 0 := by simp
  rw [this, Int.add_zero, aroundI_id h0 h1]
theorem wayN_end (a b : Int) (p : Nat) (hp : 0 < p) : wayN a b p p = b := by
  unfold wayN
  rw [part_all _ _ (by omega)]
  omega
theorem wayE_end {b : Int} (a : Int) (p : Nat) (hp : 0 < p) (h0 : -648000 ≤ b) (h1 : b ≤ 647999) : wayE a b p p = b := by
  unfold wayE
  rw [part_all _ _ (by omega), aroundI_back h0 h1]
theorem wayN_bd {a b : Int} (p k : Nat) (hp : 0 < p) (hk : k ≤ p) (a0 : -324000 ≤ a) (a1 : a ≤ 324000) (b0 : -324000 ≤ b) (b1 : b ≤ 324000) : -324000 ≤ wayN a b p k ∧ wayN a b p k ≤ 324000 := by
  unfold wayN
  have := part_bd (b - a) k p (by omega) (by omega) (by omega)
  omega
end Go.Proofs.YtbaocnbppefciaaGreat
