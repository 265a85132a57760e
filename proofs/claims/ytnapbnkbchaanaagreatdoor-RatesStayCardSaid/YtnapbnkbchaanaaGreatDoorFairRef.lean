/- The walk over the reference's FairestOf. Condition: few shifts without error; a contest's time. -/
import Derived.Test.YtnapbnkbchaanaaGreatDoorWhoCounts
import Derived.Test.YtnapbnkbchaanaaGreatDoorFairest
namespace Go.Proofs.YtnapbnkbchaanaaGreatDoor
open Go.RowKit
set_option linter.unusedVariables false
set_option linter.unusedSimpArgs false

theorem ccells_of (ks : List (List UInt8)) (f g : List UInt8 → Int) (k : Nat) (h : k < ks.length) : (ccells ks f g)[k * 3]? = some (encStr ks[k]) ∧ (ccells ks f g)[k * 3 + 1]? = some (.int .i64 (f ks[k])) ∧ (ccells ks f g)[k * 3 + 2]? = some (.int .i64 (g ks[k])) := by
  induction ks generalizing k with
  | nil => simp at h
  | cons p r ih =>
    have e : ccells (p :: r) f g = encStr p :: .int .i64 (f p) :: .int .i64 (g p) :: ccells r f g := rfl
    rw [e]
    cases k with
    | zero => simp
    | succ k =>
      have := ih k (by simpa using h)
      rw [show (k + 1) * 3 = k * 3 + 1 + 1 + 1 from by omega]
      simpa using this
theorem CountsFrom.three {base : Nat} {w : World} {gb c : Nat} {ks : List (List UInt8)} {f g : List UInt8 → Int} (h : CountsFrom base w (.slice (some ⟨gb, 0, none⟩) ks.length c) ks f g) (k : Nat) (hk : k < ks.length) :
    w.cell? ⟨gb, k * 3, none⟩ = some (encStr ks[k]) ∧ w.cell? ⟨gb, k * 3 + 1, none⟩ = some (.int .i64 (f ks[k])) ∧ w.cell? ⟨gb, k * 3 + 2, none⟩ = some (.int .i64 (g ks[k])) := by
  have hc := ccells_of ks f g k hk
  rw [World.ownsRow.cellAt h (k * 3) (by omega), World.ownsRow.cellAt h (k * 3 + 1) (by omega), World.ownsRow.cellAt h (k * 3 + 2) (by omega)]
  exact hc
/-- The sum of the first so many. -/
def sumTo (f : List UInt8 → Int) (ks : List (List UInt8)) (k : Nat) : Int := ((ks.take k).map f).sum
theorem sum_append1 (l : List Int) (x : Int) : (l ++ [x]).sum = l.sum + x := by
  induction l with
  | nil => simp
  | cons a r ih => simp only [List.cons_append, List.sum_cons, ih]; omega
theorem sumTo_step (f : List UInt8 → Int) (ks : List (List UInt8)) (k : Nat) (h : k < ks.length) : sumTo f ks (k + 1) = sumTo f ks k + f ks[k] := by
  unfold sumTo
  rw [List.take_succ_eq_append_getElem h, List.map_append]
  exact sum_append1 _ _
theorem sumTo_bd (f : List UInt8 → Int) (ks : List (List UInt8)) (B : Int) (hB : 0 ≤ B) (h : ∀ q, 0 ≤ f q ∧ f q ≤ B) (k : Nat) : 0 ≤ sumTo f ks k ∧ sumTo f ks k ≤ B * (k : Int) := by
  unfold sumTo
  have hb : ∀ m : List (List UInt8), 0 ≤ (m.map f).sum ∧ (m.map f).sum ≤ B * (m.length : Int) := by
    intro m
    induction m with
    | nil => simp
    | cons q r ih =>
      have := h q
      simp only [List.map_cons, List.sum_cons, List.length_cons]
      have e : B * ((r.length : Int) + 1) = B * (r.length : Int) + B := by rw [Int.mul_add, Int.mul_one]
      have : ((r.length + 1 : Nat) : Int) = (r.length : Int) + 1 := rfl
      rw [this, e]
      omega
  have h1 := hb (ks.take k)
  have h2 : ((ks.take k).length : Int) ≤ (k : Int) := by simp; omega
  have h3 : B * ((ks.take k).length : Int) ≤ B * (k : Int) := Int.mul_le_mul_of_nonneg_left h2 hB
  omega
theorem fair_of (LL : List (List UInt8 × Int)) (ks : List (List UInt8)) (hn : (LL.map (·.1)).Nodup) (hp : ks.Perm (LL.map (·.1))) :
    sumTo (fun q => max 0 (valS LL q - sumTo (valS LL) ks ks.length / (ks.length : Int))) ks ks.length = fairS LL ∧ sumTo (valS LL) ks ks.length = sumS LL := by
  have hs : sumTo (valS LL) ks ks.length = sumS LL := by
    unfold sumTo
    rw [List.take_length, sum_perm (hp.map (valS LL)), sumS_keys LL hn]
  have hl : ks.length = LL.length := by rw [hp.length_eq, List.length_map]
  refine ⟨?_, hs⟩
  rw [hs]
  unfold sumTo fairS
  rw [List.take_length]
  by_cases h : LL = []
  · rw [if_pos h]
    have : ks = [] := List.eq_nil_of_length_eq_zero (by rw [hl, h]; rfl)
    rw [this]; rfl
  · rw [if_neg h, sum_perm (hp.map _), hl]

end Go.Proofs.YtnapbnkbchaanaaGreatDoor
