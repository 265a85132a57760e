/- The walk over key.nearest . Condition: a length and a unit within bounds. -/
import Derived.Test.YtlodmkdhlmineaaGreatDoorHear
namespace Go.Proofs.YtlodmkdhlmineaaGreatDoor
open Go.RowKit
set_option linter.unusedVariables false
set_option linter.unusedSimpArgs false

set_option maxHeartbeats 2000000 in
theorem nearest_any (x u : Int) (mk : Bool) (w : World) (x0 : 0 ≤ x) (x1 : x ≤ 1000000) (u0 : 0 ≤ u) (u1 : u ≤ 100000) :
    Calls Tryz.prog 136 #[.int .i64 x, .int .i64 u, .bool mk] w fun e w' => e = .returned (.tuple #[.int .i64 (nearU mk x u), .int .i64 (nearO mk x u)]) ∧ w.grownBy w' none := by
  obtain ⟨M, hM, hM2⟩ : ∃ M : Nat, (M = 2 ∨ M = 3) ∧ nrTo x u M = (nearU mk x u, nearO mk x u) ∧ M = if mk then 2 else 3 := by
    cases mk
    · exact ⟨3, .inr rfl, nrTo_3 x u, rfl⟩
    · exact ⟨2, .inl rfl, nrTo_2 x u, rfl⟩
  obtain ⟨hM2, hM3⟩ := hM2
  have HM := Lib.hid hM2
  have hB := Blk.new w 3 #[.int .i64 1, .int .i64 3, .int .i64 7]
  have hG := World.grownBy_alloc w (.cells #[.int .i64 1, .int .i64 3, .int .i64 7] 3) none
  have c0 := hB.cell 0
  have c1 := hB.cell 1
  have c2 := hB.cell 2
  simp only [List.getElem?_toArray, List.getElem?_cons_zero, List.getElem?_cons_succ] at c0 c1 c2
  clear hM2
  cases mk
  · simp only [if_true, Bool.false_eq_true, if_false] at hM3
    subst hM3
    clear hM
    go_enter Tryz.func136, Tryz.ntmps136
    go_wp2_with fail
    go_loop [6, 7, 18] (fun a b i => ∃ k : Nat, k ≤ 3 ∧ i = .int .i64 k ∧ a = .int .i64 (nrTo x u k).1 ∧ b = .int .i64 (nrTo x u k).2) (fun _ _ i => 3 - (intOf i).toNat)
    case atStart => exact ⟨0, by omega, rfl, rfl, rfl⟩
    case round =>
      obtain ⟨k, hk, rfl, rfl, rfl⟩ := hrel
      have hSU : nrTo x u (k + 1) = if (nrTo x u k).2 < 0 ∨ dN x u (nthI k) < (nrTo x u k).2 then (nthI k, dN x u (nthI k)) else nrTo x u k := rfl
      have HSU := Lib.hid hSU
      clear hSU
      rcases (show k = 0 ∨ k = 1 ∨ k = 2 ∨ k = 3 by omega) with rfl | rfl | rfl | rfl
      · rw [show nrTo x u 0 = (0, -1) from rfl]
        go_wp2_with fail
        go_round
        case rel => exact ⟨1, by omega, rfl, by rw [nrTo_1], by rw [nrTo_1]; unfold dN; simp⟩
        case measure => simp [intOf]
      · obtain ⟨a, ha⟩ : ∃ a, (nrTo x u 1).2 = a := ⟨_, rfl⟩
        obtain ⟨n0, hn0⟩ : ∃ a, (nrTo x u 1).1 = a := ⟨_, rfl⟩
        have ha0 : ¬ a < 0 := by rw [← ha, nrTo_1]; exact Int.not_lt.2 (dN_0 x u 1)
        have HN2 : Hid (nrTo x u (1 + 1) = if a < 0 ∨ max (x - 3 * u) (3 * u - x) < a then (3, max (x - 3 * u) (3 * u - x)) else (n0, a)) := by
          rw [← ha, ← hn0]; exact HSU.out
        rw [ha, hn0]
        clear ha hn0 HSU HM
        by_cases hlt : max (x - 3 * u) (3 * u - x) < a
        · go_wp2_with fail
          go_round
          case rel => exact ⟨2, by omega, rfl, by rw [HN2.out, if_pos (.inr hlt)], by rw [HN2.out, if_pos (.inr hlt)]⟩
          case measure => simp [intOf]
        · go_wp2_with fail
          go_round
          case rel => exact ⟨2, by omega, rfl, by rw [HN2.out, if_neg (by omega)], by rw [HN2.out, if_neg (by omega)]⟩
          case measure => simp [intOf]
      · obtain ⟨a, ha⟩ : ∃ a, (nrTo x u 2).2 = a := ⟨_, rfl⟩
        obtain ⟨n0, hn0⟩ : ∃ a, (nrTo x u 2).1 = a := ⟨_, rfl⟩
        have ha0 : ¬ a < 0 := by rw [← ha, nrTo_2]; exact Int.not_lt.2 ((nearO_bd true x0 x1 u0 u1).1)
        have HN2 : Hid (nrTo x u (2 + 1) = if a < 0 ∨ max (x - 7 * u) (7 * u - x) < a then (7, max (x - 7 * u) (7 * u - x)) else (n0, a)) := by
          rw [← ha, ← hn0]; exact HSU.out
        rw [ha, hn0]
        clear ha hn0 HSU HM
        by_cases hlt : max (x - 7 * u) (7 * u - x) < a
        · go_wp2_with fail
          go_round
          case rel => exact ⟨3, by omega, rfl, by rw [HN2.out, if_pos (.inr hlt)], by rw [HN2.out, if_pos (.inr hlt)]⟩
          case measure => simp [intOf]
        · go_wp2_with fail
          go_round
          case rel => exact ⟨3, by omega, rfl, by rw [HN2.out, if_neg (by omega)], by rw [HN2.out, if_neg (by omega)]⟩
          case measure => simp [intOf]
      · go_wp2_with fail
        go_ret2
        exact ⟨by rw [HM.out]; rfl, hG⟩
  · simp only [if_true, Bool.false_eq_true, if_false] at hM3
    subst hM3
    clear hM
    go_enter Tryz.func136, Tryz.ntmps136
    go_wp2_with fail
    go_loop [6, 7, 18] (fun a b i => ∃ k : Nat, k ≤ 2 ∧ i = .int .i64 k ∧ a = .int .i64 (nrTo x u k).1 ∧ b = .int .i64 (nrTo x u k).2) (fun _ _ i => 3 - (intOf i).toNat)
    case atStart => exact ⟨0, by omega, rfl, rfl, rfl⟩
    case round =>
      obtain ⟨k, hk, rfl, rfl, rfl⟩ := hrel
      have hSU : nrTo x u (k + 1) = if (nrTo x u k).2 < 0 ∨ dN x u (nthI k) < (nrTo x u k).2 then (nthI k, dN x u (nthI k)) else nrTo x u k := rfl
      have HSU := Lib.hid hSU
      clear hSU
      rcases (show k = 0 ∨ k = 1 ∨ k = 2 ∨ k = 3 by omega) with rfl | rfl | rfl | rfl
      · rw [show nrTo x u 0 = (0, -1) from rfl]
        go_wp2_with fail
        go_round
        case rel => exact ⟨1, by omega, rfl, by rw [nrTo_1], by rw [nrTo_1]; unfold dN; simp⟩
        case measure => simp [intOf]
      · obtain ⟨a, ha⟩ : ∃ a, (nrTo x u 1).2 = a := ⟨_, rfl⟩
        obtain ⟨n0, hn0⟩ : ∃ a, (nrTo x u 1).1 = a := ⟨_, rfl⟩
        have ha0 : ¬ a < 0 := by rw [← ha, nrTo_1]; exact Int.not_lt.2 (dN_0 x u 1)
        have HN2 : Hid (nrTo x u (1 + 1) = if a < 0 ∨ max (x - 3 * u) (3 * u - x) < a then (3, max (x - 3 * u) (3 * u - x)) else (n0, a)) := by
          rw [← ha, ← hn0]; exact HSU.out
        rw [ha, hn0]
        clear ha hn0 HSU HM
        by_cases hlt : max (x - 3 * u) (3 * u - x) < a
        · go_wp2_with fail
          go_round
          case rel => exact ⟨2, by omega, rfl, by rw [HN2.out, if_pos (.inr hlt)], by rw [HN2.out, if_pos (.inr hlt)]⟩
          case measure => simp [intOf]
        · go_wp2_with fail
          go_round
          case rel => exact ⟨2, by omega, rfl, by rw [HN2.out, if_neg (by omega)], by rw [HN2.out, if_neg (by omega)]⟩
          case measure => simp [intOf]
      · go_wp2_with fail
        go_ret2
        exact ⟨by rw [HM.out]; rfl, hG⟩
      · omega
end Go.Proofs.YtlodmkdhlmineaaGreatDoor
