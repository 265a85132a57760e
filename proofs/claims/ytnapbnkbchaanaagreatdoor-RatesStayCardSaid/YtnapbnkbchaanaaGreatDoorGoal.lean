/- The walks over rate.Goal, rate.Forecast and their twins in the reference. Condition: times without error where the name says ok; the window's end is at most 2^60. -/
import Derived.Test.YtnapbnkbchaanaaGreatDoorRateAll
namespace Go.Proofs.YtnapbnkbchaanaaGreatDoor
open Go.RowKit
set_option linter.unusedVariables false

theorem floor_eq (x b : Int) (hb : 0 < b) : x / b = if x.tmod b < 0 then x.tdiv b - 1 else x.tdiv b := by
  have h1 : b * x.tdiv b + x.tmod b = x := Int.mul_tdiv_add_tmod x b
  have h2 := tmod_lo x b (by omega)
  have key : ∀ q r : Int, b * q + r = x → 0 ≤ r → r < b → x / b = q := fun q r h h3 h4 => by
    rw [← h, Int.mul_add_ediv_left _ _ (by omega), Int.ediv_eq_zero_of_lt h3 h4, Int.add_zero]
  split
  · refine key _ (x.tmod b + b) ?_ (by omega) (by omega)
    rw [Int.mul_sub]; omega
  · exact key _ _ h1 (by omega) (by omega)
theorem tdiv_bdG (x b B : Int) (hb : 0 < b) (h0 : -B ≤ x) (h1 : x ≤ B) : -B ≤ x.tdiv b ∧ x.tdiv b ≤ B := by
  rcases Int.le_total 0 x with h | h
  · have := Int.tdiv_nonneg h (show 0 ≤ b by omega)
    have h2 : x.tdiv b ≤ x := by rw [Int.tdiv_eq_ediv_of_nonneg h]; exact Int.ediv_le_self _ h
    omega
  · have e : x.tdiv b = -((-x).tdiv b) := by rw [Int.neg_tdiv, Int.neg_neg]
    have h3 := Int.tdiv_nonneg (show 0 ≤ -x by omega) (show 0 ≤ b by omega)
    have h2 : (-x).tdiv b ≤ -x := by rw [Int.tdiv_eq_ediv_of_nonneg (by omega)]; exact Int.ediv_le_self _ (by omega)
    omega

section
variable (x b : Int) (w : World) (h0 : -1000000000000000000 ≤ x) (h1 : x ≤ 1000000000000000000) (hb : 0 < b) (hb2 : b ≤ 1000000000000)
include h0 h1 hb hb2
end

theorem before_gr (base : Nat) (v : Value) (l : List Int) (x : Int) (w : World) (hl : IntsFrom base w v l) (hs : l.Pairwise (· ≤ ·)) (hn : l.length ≤ 1000000) :
    Calls Tryz.prog 109 #[v, .int .i64 x] w fun r w' => r = .returned (.int .i64 (cntLt l x)) ∧ w.grownBy w' none := by
  refine (before_any base v l x w hl hs hn).mono ?_
  rintro r w' ⟨rfl, m, rfl⟩
  exact ⟨rfl, gr_drewN (gr_refl _ _) m⟩
theorem mul_bdG {c d C D : Int} (h0 : 0 ≤ c) (h1 : c ≤ C) (h2 : 0 ≤ d) (h3 : d ≤ D) : 0 ≤ c * d ∧ c * d ≤ C * D :=
  ⟨Int.mul_nonneg h0 h2, Int.mul_le_mul h1 h3 h2 (by omega)⟩

/-- By how many one is ahead of a goal at the end of hour k; all hours. -/
def goalEnd (a zt : Int) (k : Nat) : Int := min (a + (k + 1) * 3600000) zt
def goalAt (l : List Int) (a zt goal : Int) (k : Nat) : Int := (cntLt l (goalEnd a zt k) * (zt - a) - goal * (goalEnd a zt k - a)) / (zt - a)
def goalL (l : List Int) (a zt goal : Int) : List Int := (List.range (hoursI a zt).toNat).map (goalAt l a zt goal)

theorem range_snoc (f : Nat → Int) (k : Nat) : (List.range (k + 1)).map f = (List.range k).map f ++ [f k] := by rw [List.range_succ, List.map_append]; rfl

end Go.Proofs.YtnapbnkbchaanaaGreatDoor
