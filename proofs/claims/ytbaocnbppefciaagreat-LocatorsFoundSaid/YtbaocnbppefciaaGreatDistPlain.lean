/- Plain words for distances and directions: metres, the square root rounded down, the eight winds. No program in sight. -/
import Derived.Test.YtbaocnbppefciaaGreatWayPlain
import Derived.Test.YtbaocnbppefciaaGreatSkyR
namespace Go.Proofs.YtbaocnbppefciaaGreat
set_option linter.unusedVariables false

def northI (n n2 : Int) : Int := ((n2 - n) * 10000000).tdiv 324000
def eastI (n e n2 e2 : Int) : Int := ((aroundI (e2 - e) * cosI ((n + n2).tdiv 2)).tdiv 1000000 * 10000000).tdiv 324000
theorem eastP_bd (d c : Int) (h0 : -648000 ≤ d) (h1 : d ≤ 648000) (c0 : -1000000 ≤ c) (c1 : c ≤ 1000000) :
    -648000000000 ≤ d * c ∧ d * c ≤ 648000000000 ∧ -648000 ≤ (d * c).tdiv 1000000 ∧ (d * c).tdiv 1000000 ≤ 648000 := by
  have := mul_bd d c 648000 1000000 h0 h1 c0 c1
  have h3 := tdiv_bd (d * c) 1000000 648000 (by omega) (by omega) (by omega)
  omega
theorem metres_bd (x : Int) (h0 : -648000 ≤ x) (h1 : x ≤ 648000) : -20000000 ≤ (x * 10000000).tdiv 324000 ∧ (x * 10000000).tdiv 324000 ≤ 20000000 :=
  tdiv_bd _ _ _ (by omega) (by omega) (by omega)
theorem aroundI_bd' (x : Int) : -648000 ≤ aroundI x ∧ aroundI x ≤ 648000 := by have := aroundI_bd x; omega
theorem northI_bd {n n2 : Int} (h0 : -324000 ≤ n) (h1 : n ≤ 324000) (h2 : -324000 ≤ n2) (h3 : n2 ≤ 324000) : -20000000 ≤ northI n n2 ∧ northI n n2 ≤ 20000000 :=
  metres_bd _ (by omega) (by omega)
theorem eastI_bd (n e n2 e2 : Int) : -20000000 ≤ eastI n e n2 e2 ∧ eastI n e n2 e2 ≤ 20000000 := by
  have h1 := aroundI_bd' (e2 - e)
  have h2 := cosI_bd ((n + n2).tdiv 2)
  have h3 := eastP_bd _ _ h1.1 h1.2 h2.1 h2.2
  exact metres_bd _ h3.2.2.1 h3.2.2.2
theorem sq_big (x : Int) (h0 : -20000000 ≤ x) (h1 : x ≤ 20000000) : 0 ≤ x * x ∧ x * x ≤ 400000000000000 := by
  have h := mul_bd x x 20000000 20000000 h0 h1 h0 h1
  have hx : (x.natAbs : Int) * x.natAbs = x * x := Int.natAbs_mul_self
  have : 0 ≤ (x.natAbs : Int) * x.natAbs := Int.mul_nonneg (by omega) (by omega)
  omega
theorem northI_back (n n2 : Int) : northI n2 n = -northI n n2 := by
  unfold northI
  rw [show (n - n2) * 10000000 = -((n2 - n) * 10000000) by omega, Int.neg_tdiv]
theorem eastI_back (n e n2 e2 : Int) (h : aroundI (e2 - e) ≠ -648000) : eastI n2 e2 n e = -eastI n e n2 e2 := by
  unfold eastI
  rw [show e - e2 = -(e2 - e) by omega, aroundI_neg h, Int.add_comm n2 n, Int.neg_mul, Int.neg_tdiv, Int.neg_mul, Int.neg_tdiv]
theorem eastI_half (n e n2 e2 : Int) (h : aroundI (e2 - e) = -648000) : eastI n2 e2 n e = eastI n e n2 e2 := by
  unfold eastI
  rw [show e - e2 = -(e2 - e) by omega, aroundI_half h, h, Int.add_comm n2 n]

/-- The square root, rounded down, by halving. -/
def bis (n : Int) : Nat → Int → Int → Int
  | 0, lo, hi => lo
  | k + 1, lo, hi => if lo + 1 < hi then (if (lo + hi) / 2 * ((lo + hi) / 2) ≤ n then bis n k ((lo + hi) / 2) hi else bis n k lo ((lo + hi) / 2)) else lo
def rootI (n : Int) : Int := bis n 31 0 2147483648
theorem bis_done (n : Int) (k : Nat) (lo hi : Int) (h : ¬ lo + 1 < hi) : bis n k lo hi = lo := by
  cases k with
  | zero => rfl
  | succ k => unfold bis; rw [if_neg h]
theorem bis_low (n : Int) (k : Nat) (lo hi : Int) (h : lo + 1 < hi) (h2 : (lo + hi) / 2 * ((lo + hi) / 2) ≤ n) : bis n (k + 1) lo hi = bis n k ((lo + hi) / 2) hi := by
  rw [bis, if_pos h, if_pos h2]
theorem bis_high (n : Int) (k : Nat) (lo hi : Int) (h : lo + 1 < hi) (h2 : ¬ (lo + hi) / 2 * ((lo + hi) / 2) ≤ n) : bis n (k + 1) lo hi = bis n k lo ((lo + hi) / 2) := by
  rw [bis, if_pos h, if_neg h2]
/-- What holds between two ends while one halves. -/
structure BisRel (n : Int) (lo hi : Int) (k : Nat) : Prop where
  eq : rootI n = bis n k lo hi
  l0 : 0 ≤ lo
  lh : lo < hi
  h1 : hi ≤ 2147483648
  len : hi - lo ≤ (2 : Int) ^ k
theorem BisRel.start (n : Int) : BisRel n 0 2147483648 31 := ⟨rfl, by omega, by omega, by omega, by decide⟩
theorem BisRel.low {n lo hi : Int} {k : Nat} (h : BisRel n lo hi (k + 1)) (hlt : lo + 1 < hi) (h2 : (lo + hi) / 2 * ((lo + hi) / 2) ≤ n) : BisRel n ((lo + hi) / 2) hi k := by
  have h5 := h.len
  rw [Int.pow_succ] at h5
  have h6 := h.l0
  have h7 := h.h1
  exact ⟨by rw [h.eq, bis_low n k lo hi hlt h2], by omega, by omega, by omega, by omega⟩
theorem BisRel.high {n lo hi : Int} {k : Nat} (h : BisRel n lo hi (k + 1)) (hlt : lo + 1 < hi) (h2 : ¬ (lo + hi) / 2 * ((lo + hi) / 2) ≤ n) : BisRel n lo ((lo + hi) / 2) k := by
  have h5 := h.len
  rw [Int.pow_succ] at h5
  have h6 := h.l0
  have h7 := h.h1
  exact ⟨by rw [h.eq, bis_high n k lo hi hlt h2], by omega, by omega, by omega, by omega⟩
theorem BisRel.some {n lo hi : Int} {k : Nat} (h : BisRel n lo hi k) (hlt : lo + 1 < hi) : ∃ j, k = j + 1 := by
  cases k with
  | zero => have := h.len; simp at this; omega
  | succ j => exact ⟨j, rfl⟩
theorem bis_bd (n : Int) (k : Nat) : ∀ lo hi : Int, 0 ≤ lo → lo < hi → hi ≤ 2147483648 → 0 ≤ bis n k lo hi ∧ bis n k lo hi ≤ 2147483648 := by
  induction k with
  | zero => intro lo hi h0 h1 h2; simp [bis]; omega
  | succ k ih =>
    intro lo hi h0 h1 h2
    by_cases hlt : lo + 1 < hi
    · by_cases hm : (lo + hi) / 2 * ((lo + hi) / 2) ≤ n
      · rw [bis_low n k lo hi hlt hm]; exact ih _ _ (by omega) (by omega) h2
      · rw [bis_high n k lo hi hlt hm]; exact ih _ _ h0 (by omega) (by omega)
    · rw [bis_done n _ lo hi hlt]; omega
theorem rootI_bd (n : Int) : 0 ≤ rootI n ∧ rootI n ≤ 2147483648 := bis_bd n 31 _ _ (by omega) (by omega) (by omega)

def distI (n e n2 e2 : Int) : Int := rootI (northI n n2 * northI n n2 + eastI n e n2 e2 * eastI n e n2 e2)
theorem distI_back (n e n2 e2 : Int) : distI n2 e2 n e = distI n e n2 e2 := by
  unfold distI
  rw [northI_back, Int.neg_mul_neg]
  by_cases h : aroundI (e2 - e) = -648000
  · rw [eastI_half n e n2 e2 h]
  · rw [eastI_back n e n2 e2 h, Int.neg_mul_neg]

/-- The directions, north 0 and on with the clock. -/
def absI (x : Int) : Int := max x (-x)
def windI (dn de : Int) : Int :=
  if 12 * absI de ≤ 5 * absI dn then (if 0 < dn then 0 else 4)
  else if 12 * absI dn ≤ 5 * absI de then (if 0 < de then 2 else 6)
  else if 0 < de then (if 0 < dn then 1 else 3) else if 0 < dn then 7 else 5
theorem windI_back (dn de : Int) (h : ¬ (dn = 0 ∧ de = 0)) : windI (-dn) (-de) = (windI dn de + 4) % 8 := by
  have e1 : absI (-dn) = absI dn := by unfold absI; omega
  have e2 : absI (-de) = absI de := by unfold absI; omega
  unfold windI
  rw [e1, e2]
  unfold absI
  repeat' split
  all_goals first | rfl | omega
end Go.Proofs.YtbaocnbppefciaaGreat
