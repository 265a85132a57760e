/- The walk over pileref1.HoursOf. Condition: times without error, at most 1000 hours. The walk over rate.Hours. Condition: the window's end is no number beyond 2^60. -/
import Derived.Test.YtlbhphfmckhimaaRateB
namespace Go.Proofs.Ytlbhphfmckhimaa
open Go.RowKit
set_option linter.unusedVariables false

theorem hourL_len (l : List Int) (zt : Int) : ∀ (n : Nat) (f : Int), (hourL l zt n f).length = n
  | 0, _ => rfl
  | n + 1, f => by simp [hourL, hourL_len l zt n]
theorem hours_eq (a zt : Int) (h : a < zt) : ∃ n : Nat, (hoursI a zt).toNat = n ∧ hoursI a zt = n ∧ a + 3600000 * (n : Int) - 3600000 < zt ∧ zt ≤ a + 3600000 * (n : Int) := by
  refine ⟨(hoursI a zt).toNat, rfl, ?_⟩
  unfold hoursI
  omega

end Go.Proofs.Ytlbhphfmckhimaa

namespace Go.Proofs.Ytlbhphfmckhimaa
open Go.RowKit
set_option linter.unusedVariables false

/-- How many of the moments are in each hour. -/
def hourIs (a : Int) (i : Nat) (x : Int) : Bool := decide ((x - a) / 3600000 = (i : Int))
def hist (a : Int) (N : Nat) (l : List Int) : List Int := (List.range N).map fun i => ((l.countP (hourIs a i) : Nat) : Int)
theorem hist_len (a : Int) (N : Nat) (l : List Int) : (hist a N l).length = N := by simp [hist]
theorem hist_nil (a : Int) (N : Nat) : hist a N [] = List.replicate N 0 := by
  unfold hist
  apply List.ext_getElem <;> simp
theorem hist_snoc (a : Int) (N : Nat) (l : List Int) (x : Int) (i : Nat) (hi : i < N) (hx : (x - a) / 3600000 = (i : Int)) : hist a N (l ++ [x]) = (hist a N l).set i ((hist a N l)[i]'(by rw [hist_len]; exact hi) + 1) := by
  apply List.ext_getElem
  · simp [hist]
  · intro j h1 h2
    rw [List.getElem_set]
    simp only [hist, List.getElem_map, List.getElem_range, List.countP_append, List.countP_cons, List.countP_nil]
    by_cases h : i = j
    · subst h
      have : hourIs a i x = true := by unfold hourIs; simpa using hx
      simp [this]
    · have : hourIs a j x = false := by unfold hourIs; rw [hx]; simp; omega
      simp [this, h]
theorem made_ints (N : Nat) : madeCells (Value.int .i64 0).cells N = ((List.replicate N (0 : Int)).map (Value.int .i64)).toArray := by
  apply Array.ext
  · simp [madeCells]
  · intro i h1 h2
    simp [madeCells, Value.cells, Nat.mod_one]
theorem blk_ints {w : World} {g base : Nat} {l : List Int} (h : Blk w g 3 (l.map (Value.int .i64)).toArray) (hb : base ≤ g) (hn : l.length ≤ 1000000) : IntsFrom base w (.slice (some ⟨g, 0, none⟩) l.length l.length) l := by
  refine ⟨by simp, .inr ⟨g, l.length, _, rfl, hb, h, Nat.le_refl _, by unfold maxLen; omega, by simp, ?_⟩⟩
  exact List.take_of_length_le (by simp)
theorem set_ints (l : List Int) (i : Nat) (x : Int) : ((l.map (Value.int .i64)).toArray).setIfInBounds i (.int .i64 x) = ((l.set i x).map (Value.int .i64)).toArray := by
  simp [List.map_set]
theorem hist_bd (a : Int) (N : Nat) (l : List Int) (i : Nat) (hi : i < N) : 0 ≤ (hist a N l)[i]'(by rw [hist_len]; exact hi) ∧ (hist a N l)[i]'(by rw [hist_len]; exact hi) ≤ l.length := by
  simp only [hist, List.getElem_map, List.getElem_range]
  have := List.countP_le_length (p := hourIs a i) (l := l)
  omega
theorem hourL_map (l : List Int) (zt : Int) : ∀ (n : Nat) (f : Int), hourL l zt n f = (List.range n).map fun (i : Nat) => manyI l (f + 3600000 * (i : Int)) (min (f + 3600000 * (i : Int) + 3600000) zt)
  | 0, _ => rfl
  | n + 1, f => by
    rw [hourL, hourL_map l zt n, List.range_succ_eq_map, List.map_cons, List.map_map]
    congr 1
    · simp
    · apply List.map_congr_left
      intro i _
      have e : f + 3600000 + 3600000 * (i : Int) = f + 3600000 * ((i + 1 : Nat) : Int) := by omega
      simp only [Function.comp_apply, Nat.succ_eq_add_one]
      rw [e]
theorem hist_hours (a zt : Int) (l : List Int) (N : Nat) (hm : ∀ x ∈ l, a ≤ x ∧ x < zt) (hN : (hoursI a zt).toNat = N) : hist a N l = hourAll l a zt := by
  unfold hourAll
  rw [hN, hourL_map]
  apply List.map_congr_left
  intro i _
  unfold manyI
  congr 1
  apply List.countP_congr
  intro x hx
  have := hm x hx
  unfold hourIs hasB
  simp only [decide_eq_true_eq]
  omega

end Go.Proofs.Ytlbhphfmckhimaa
