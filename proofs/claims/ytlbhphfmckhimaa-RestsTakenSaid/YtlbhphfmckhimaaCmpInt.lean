/- cmp.Compare and cmp.Or at numbers. No condition but a short list. -/
import Derived.Test.YtlbhphfmckhimaaFaults
namespace Go.Proofs.Ytlbhphfmckhimaa
open Go.RowKit
set_option linter.unusedVariables false
set_option linter.unusedSimpArgs false

def cmpN (a b : Int) : Int := if a < b then -1 else if b < a then 1 else 0
theorem isNaN_int (x : Int) (w : World) : Calls Try.prog 71 #[.int .i64 x] w fun r w' => r = .returned (.bool false) ∧ w = w' := by
  go_enter Try.func71, Try.ntmps71
  go_wp2_with fail
  go_ret
  exact ⟨by simp, rfl⟩
theorem compare_int (x y : Int) (w : World) : Calls Try.prog 63 #[.int .i64 x, .int .i64 y] w fun r w' => r = .returned (.int .i64 (cmpN x y)) ∧ w = w' := by
  unfold cmpN
  by_cases h1 : x < y
  · rw [if_pos h1]
    go_enter Try.func63, Try.ntmps63
    go_wp2_with fail
    refine (isNaN_int _ _).mono ?_
    rintro _ _ ⟨rfl, rfl⟩
    go_wp2_with fail
    refine (isNaN_int _ _).mono ?_
    rintro _ _ ⟨rfl, rfl⟩
    go_wp2_with fail
    go_ret
    exact ⟨rfl, rfl⟩
  · rw [if_neg h1]
    by_cases h2 : y < x
    · rw [if_pos h2]
      go_enter Try.func63, Try.ntmps63
      go_wp2_with fail
      refine (isNaN_int _ _).mono ?_
      rintro _ _ ⟨rfl, rfl⟩
      go_wp2_with fail
      refine (isNaN_int _ _).mono ?_
      rintro _ _ ⟨rfl, rfl⟩
      go_wp2_with fail
      go_ret
      exact ⟨rfl, rfl⟩
    · rw [if_neg h2]
      go_enter Try.func63, Try.ntmps63
      go_wp2_with fail
      refine (isNaN_int _ _).mono ?_
      rintro _ _ ⟨rfl, rfl⟩
      go_wp2_with fail
      refine (isNaN_int _ _).mono ?_
      rintro _ _ ⟨rfl, rfl⟩
      go_wp2_with fail
      go_ret
      exact ⟨rfl, rfl⟩
set_option maxHeartbeats 400000 in
theorem orI_any (xs : List Int) (g m c : Nat) (w : World) (hg : Blk w g 3 (xs.map (Value.int .i64)).toArray) (hm : m = xs.length) (h1 : m ≤ 1000) :
    Calls Try.prog 62 #[.slice (some ⟨g, 0, none⟩) m c] w fun r w' => r = .returned (.int .i64 (orL xs)) ∧ w = w' := by
  have HM := Lib.hid hm
  clear hm
  go_enter Try.func62, Try.ntmps62
  go_wp2_with fail
  go_loop [8] (fun i => ∃ k : Nat, k ≤ m ∧ i = .int .i64 k ∧ Hid (orL xs = orL (xs.drop k))) (fun i => m - (intOf i).toNat)
  case atStart => exact ⟨0, by omega, rfl, rfl⟩
  case round =>
    obtain ⟨k, hk, rfl, HR⟩ := hrel
    by_cases hlt : k < m
    · have hi : k < xs.length := by have := HM.out; omega
      have hc := hg.cell k
      rw [getE_of hi] at hc
      obtain ⟨z, hz⟩ : ∃ z, z = xs[k] := ⟨_, rfl⟩
      rw [← hz] at hc
      have HZ : Hid (orL (xs.drop k) = if z = 0 then orL (xs.drop (k + 1)) else z) := by
        show orL (xs.drop k) = _
        rw [List.drop_eq_getElem_cons hi, ← hz]
        rfl
      clear hz
      by_cases h0 : z = 0
      · have hne : (z != 0) = false := by simp [h0]
        have HZ2 : Hid (orL xs = orL (xs.drop (k + 1))) := by
          show orL xs = _
          rw [HR.out, HZ.out, if_pos h0]
        have H0 := Lib.hid h0
        clear h0
        go_wp2_with fail
        go_round
        case rel => exact ⟨k + 1, by omega, by go_num, HZ2⟩
        case measure => simp [intOf]; omega
      · have hne : (z != 0) = true := by simpa using h0
        have HZ2 : Hid (orL xs = z) := by
          show orL xs = _
          rw [HR.out, HZ.out, if_neg h0]
        clear h0
        go_wp2_with fail
        go_ret
        exact ⟨ret_of HZ2.out.symm, rfl⟩
    · have HZ2 : Hid (orL xs = 0) := by
        show orL xs = _
        rw [HR.out, List.drop_of_length_le (by have := HM.out; omega)]
        rfl
      go_wp2_with fail
      go_ret
      exact ⟨ret_of HZ2.out.symm, rfl⟩

theorem orI2_at (a b : Int) (g : Nat) (W : World) (hB : Blk W g 3 #[.int .i64 a, .int .i64 b]) :
    Calls Try.prog 62 #[.slice (some ⟨g, 0, none⟩) 2 2] W fun r w' => r = .returned (.int .i64 (if a = 0 then b else a)) ∧ W = w' :=
  (orI_any [a, b] g 2 2 W hB rfl (by decide)).mono fun z w' ⟨he, hw⟩ => ⟨by rw [he, orL_cons, orL1], hw⟩
end Go.Proofs.Ytlbhphfmckhimaa
