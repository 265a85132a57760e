/- The walks over the bytes of a call sign: isDigit, isLetter, isPlain, isBegin. Condition: strings fit into memory. -/
import Derived.Test.YtjhklpffmfdkbaaGreatDoorCallPlain
namespace Go.Proofs.YtjhklpffmfdkbaaGreatDoor
open Go.RowKit
set_option linter.unusedVariables false

theorem dgB_of (c : UInt8) (b : Bool) (h : (48 ≤ c.toNat ∧ c.toNat ≤ 57) ↔ b = true) : dgB c = b := by
  unfold dgB
  cases b
  · by_cases h1 : 48 ≤ c.toNat <;> by_cases h2 : c.toNat ≤ 57 <;> simp_all
  · obtain ⟨h1, h2⟩ := h.2 rfl
    simp [h1, h2]
theorem ltB_of (c : UInt8) (b : Bool) (h : (97 ≤ c.toNat ∧ c.toNat ≤ 122) ↔ b = true) : ltB c = b := by
  unfold ltB
  cases b
  · by_cases h1 : 97 ≤ c.toNat <;> by_cases h2 : c.toNat ≤ 122 <;> simp_all
  · obtain ⟨h1, h2⟩ := h.2 rfl
    simp [h1, h2]

set_option maxHeartbeats 400000 in
theorem isDigit_any (c : UInt8) (w : World) :
    Calls Tryz.prog 115 #[.int .u8 (c.toNat : Int)] w fun e w' => e = .returned (.bool (dgB c)) ∧ w = w' := by
  by_cases h1 : (48 : Int) ≤ (c.toNat : Int)
  · by_cases h2 : (c.toNat : Int) ≤ 57
    · have HE := Lib.hid (dgB_of c true (by simp; omega))
      go_enter Tryz.func115, Tryz.ntmps115
      go_wp2_with fail
      go_ret
      exact ⟨ret_b HE.out.symm, rfl⟩
    · have HE := Lib.hid (dgB_of c false (by simp; omega))
      go_enter Tryz.func115, Tryz.ntmps115
      go_wp2_with fail
      go_ret
      exact ⟨ret_b HE.out.symm, rfl⟩
  · have HE := Lib.hid (dgB_of c false (by simp; omega))
    go_enter Tryz.func115, Tryz.ntmps115
    go_wp2_with fail
    go_ret
    exact ⟨ret_b HE.out.symm, rfl⟩
set_option maxHeartbeats 400000 in
theorem isLetter_any (c : UInt8) (w : World) :
    Calls Tryz.prog 135 #[.int .u8 (c.toNat : Int)] w fun e w' => e = .returned (.bool (ltB c)) ∧ w = w' := by
  by_cases h1 : (97 : Int) ≤ (c.toNat : Int)
  · by_cases h2 : (c.toNat : Int) ≤ 122
    · have HE := Lib.hid (ltB_of c true (by simp; omega))
      go_enter Tryz.func135, Tryz.ntmps135
      go_wp2_with fail
      go_ret
      exact ⟨ret_b HE.out.symm, rfl⟩
    · have HE := Lib.hid (ltB_of c false (by simp; omega))
      go_enter Tryz.func135, Tryz.ntmps135
      go_wp2_with fail
      go_ret
      exact ⟨ret_b HE.out.symm, rfl⟩
  · have HE := Lib.hid (ltB_of c false (by simp; omega))
    go_enter Tryz.func135, Tryz.ntmps135
    go_wp2_with fail
    go_ret
    exact ⟨ret_b HE.out.symm, rfl⟩

theorem take_snoc (s : ByteArray) (k : Nat) (h : k < s.size) : s.data.toList.take (k + 1) = s.data.toList.take k ++ [s[k]] := by
  rw [List.take_succ_eq_append_getElem (by simpa using h)]; rfl
theorem plainL_fail (s : ByteArray) (k : Nat) (h : k < s.size) (hb : plB s[k] = false) : plainL s.data.toList = false := by
  unfold plainL
  rw [List.all_eq_false]
  exact ⟨s[k], by show s.data[k] ∈ _; simp, by simp [hb]⟩
/-- How many letters, if all are letters and digits. -/
def plN (l : List UInt8) : Int := if plainL l then (lettN l : Int) else 0
theorem ret_ib {a b : Int} {c d : Bool} (h : a = b) (h' : c = d) : Ending.returned (.tuple #[.int .i64 a, .bool c]) = .returned (.tuple #[.int .i64 b, .bool d]) := by rw [h, h']

set_option maxHeartbeats 1000000 in
theorem isPlain_any (s : ByteArray) (w : World) (hs : s.size ≤ 9223372036854775807) :
    Calls Tryz.prog 114 #[.string s] w fun e w' => e = .returned (.tuple #[.int .i64 (plN s.data.toList), .bool (plainL s.data.toList)]) ∧ w = w' := by
  go_enter Tryz.func114, Tryz.ntmps114
  go_wp2_with fail
  go_loop [2, 7] (fun n i => ∃ k m : Nat, k ≤ s.size ∧ i = .int .i64 k ∧ n = .int .i64 m ∧ m ≤ k ∧ Hid (plainL (s.data.toList.take k) = true ∧ lettN (s.data.toList.take k) = m)) (fun _ i => s.size - (intOf i).toNat)
  case atStart => exact ⟨0, 0, Nat.zero_le _, rfl, rfl, Nat.le_refl _, ⟨rfl, rfl⟩⟩
  case round =>
    obtain ⟨k, m, hk, rfl, rfl, hm, HP⟩ := hrel
    by_cases hlt : k < s.size
    · have hlt2 : (k : Int) < (s.size : Int) := by omega
      have HT := Lib.hid (take_snoc s k hlt)
      obtain ⟨c, hc⟩ : ∃ c, c = s[k] := ⟨_, rfl⟩
      by_cases hl : ltB c = true
      · have HL : Hid (plainL (s.data.toList.take (k + 1)) = true ∧ lettN (s.data.toList.take (k + 1)) = m + 1) := by
          show _ ∧ _
          rw [HT.out, plainL_snoc, lettN_snoc, HP.out.1, HP.out.2, ← hc, hl]
          simp [plB, hl]
        have HC := Lib.hid hc
        clear hc
        go_wp2_with (first | (go_at_call 135; rw [← HC.out]; refine (isLetter_any _ _).mono ?_; rintro _ _ ⟨rfl, rfl⟩; rw [hl]) | fail)
        go_round
        case rel => exact ⟨k + 1, m + 1, by omega, by go_num, by go_num, by omega, HL⟩
        case measure => simp [intOf]; omega
      · have hl' : ltB c = false := by simpa using hl
        clear hl
        by_cases hd : dgB c = true
        · have HL : Hid (plainL (s.data.toList.take (k + 1)) = true ∧ lettN (s.data.toList.take (k + 1)) = m) := by
            show _ ∧ _
            rw [HT.out, plainL_snoc, lettN_snoc, HP.out.1, HP.out.2, ← hc, hl']
            simp [plB, hd]
          have HC := Lib.hid hc
          clear hc
          go_wp2_with (first | (go_at_call 135; rw [← HC.out]; refine (isLetter_any _ _).mono ?_; rintro _ _ ⟨rfl, rfl⟩; rw [hl']) | (go_at_call 115; rw [← HC.out]; refine (isDigit_any _ _).mono ?_; rintro _ _ ⟨rfl, rfl⟩; rw [hd]) | fail)
          go_round
          case rel => exact ⟨k + 1, m, by omega, by go_num, by go_num, by omega, HL⟩
          case measure => simp [intOf]; omega
        · have hd' : dgB c = false := by simpa using hd
          have HF := Lib.hid (plainL_fail s k hlt (by rw [← hc]; simp [plB, hl', hd']))
          have HC := Lib.hid hc
          clear hc hd
          go_wp2_with (first | (go_at_call 135; rw [← HC.out]; refine (isLetter_any _ _).mono ?_; rintro _ _ ⟨rfl, rfl⟩; rw [hl']) | (go_at_call 115; rw [← HC.out]; refine (isDigit_any _ _).mono ?_; rintro _ _ ⟨rfl, rfl⟩; rw [hd']) | fail)
          go_ret2
          exact ⟨ret_ib (by unfold plN; rw [HF.out]; rfl) HF.out.symm, rfl⟩
    · have hlt2 : ¬ (k : Int) < (s.size : Int) := by omega
      have HE : Hid (plainL s.data.toList = true ∧ lettN s.data.toList = m) := by
        have := HP.out
        rwa [List.take_of_length_le (by simp; omega)] at this
      go_wp2_with fail
      go_ret2
      exact ⟨ret_ib (by unfold plN; rw [HE.out.1, HE.out.2]; rfl) HE.out.1.symm, rfl⟩

set_option maxHeartbeats 400000 in
theorem isBegin_any (s : ByteArray) (w : World) (hs : s.size ≤ 9223372036854775807) :
    Calls Tryz.prog 90 #[.string s] w fun e w' => e = .returned (.bool (beginB s.data.toList)) ∧ w = w' := by
  have hl : s.data.toList.length = s.size := by simp
  rcases hp : plainL s.data.toList
  · have HE : Hid (beginB s.data.toList = false) := by show _ = _; simp [beginB, hp]
    clear hl
    go_enter Tryz.func90, Tryz.ntmps90
    go_wp2_with (go_at_call 114; refine (isPlain_any _ _ hs).mono ?_; rintro _ _ ⟨rfl, rfl⟩)
    go_ret
    exact ⟨ret_b HE.out.symm, rfl⟩
  · have hn : plN s.data.toList = (lettN s.data.toList : Int) := by unfold plN; rw [hp]; rfl
    obtain ⟨m, hm⟩ : ∃ m, lettN s.data.toList = m := ⟨_, rfl⟩
    rw [hm] at hn
    by_cases h1 : 0 < m
    · have HE : Hid (beginB s.data.toList = decide ((s.size : Int) ≤ 4)) := by
        show _ = _; unfold beginB; rw [hp, hm, hl]
        by_cases h2 : s.size ≤ 4
        · have h3 : (s.size : Int) ≤ 4 := by omega
          simp [h1, h2, h3]
        · have h3 : ¬ (s.size : Int) ≤ 4 := by omega
          simp [h2, h3]
      clear hl hm
      go_enter Tryz.func90, Tryz.ntmps90
      go_wp2_with (go_at_call 114; refine (isPlain_any _ _ hs).mono ?_; rintro _ _ ⟨rfl, rfl⟩)
      go_ret
      exact ⟨ret_b HE.out.symm, rfl⟩
    · have HE : Hid (beginB s.data.toList = false) := by show _ = _; unfold beginB; rw [hp, hm]; simp; omega
      clear hl hm
      go_enter Tryz.func90, Tryz.ntmps90
      go_wp2_with (go_at_call 114; refine (isPlain_any _ _ hs).mono ?_; rintro _ _ ⟨rfl, rfl⟩)
      go_ret
      exact ⟨ret_b HE.out.symm, rfl⟩
end Go.Proofs.YtjhklpffmfdkbaaGreatDoor
