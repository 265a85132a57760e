/- The walks over rate.who and rate.Who. Condition: few shifts, whose numbers and strings are small. -/
import Derived.Test.YtnapbnkbchaanaaGreatDoorShiftCheck
namespace Go.Proofs.YtnapbnkbchaanaaGreatDoor
open Go.RowKit
set_option linter.unusedVariables false

/-- Who operates at a moment. -/
def whoS (l : List (Int × ByteArray)) (t : Int) : ByteArray := l.foldl (fun acc p => if p.1 ≤ t then p.2 else acc) ⟨#[]⟩
theorem whoS_snoc (l : List (Int × ByteArray)) (p : Int × ByteArray) (t : Int) : whoS (l ++ [p]) t = if p.1 ≤ t then p.2 else whoS l t := by unfold whoS; rw [List.foldl_append]; rfl
theorem whoS_mem (l : List (Int × ByteArray)) (t : Int) : whoS l t = ⟨#[]⟩ ∨ ∃ p ∈ l, whoS l t = p.2 := by
  have h : ∀ (l : List (Int × ByteArray)) (acc : ByteArray), l.foldl (fun acc p => if p.1 ≤ t then p.2 else acc) acc = acc ∨ ∃ p ∈ l, l.foldl (fun acc p => if p.1 ≤ t then p.2 else acc) acc = p.2 := by
    intro l
    induction l with
    | nil => exact fun acc => .inl rfl
    | cons p r ih =>
      intro acc
      rw [List.foldl_cons]
      by_cases hp : p.1 ≤ t
      · rw [if_pos hp]
        rcases ih p.2 with h | ⟨q, hq, h⟩
        · exact .inr ⟨p, by simp, h⟩
        · exact .inr ⟨q, by simp [hq], h⟩
      · rw [if_neg hp]
        rcases ih acc with h | ⟨q, hq, h⟩
        · exact .inl h
        · exact .inr ⟨q, by simp [hq], h⟩
  exact h l _
theorem ret_str {a b : ByteArray} (h : a = b) : Ending.returned (.string a) = .returned (.string b) := by rw [h]

set_option maxHeartbeats 1000000 in
theorem who_any (base : Nat) (v : Value) (l : List (Int × ByteArray)) (t : Int) (w : World) (hl : ShFrom base w v l) (h6 : l.length ≤ 1000) :
    Calls Tryz.prog 112 #[v, .int .i64 t] w fun r w' => r = .returned (.string (whoS l t)) ∧ w.grownBy w' none := by
  obtain ⟨A, c, rfl, hlen, hA⟩ := hl.shape
  have HL := Lib.hid hl
  clear hl
  go_enter Tryz.func112, Tryz.ntmps112
  go_wp2_with fail
  go_loopw [5, 10] (fun o i wr => ∃ k : Nat, k ≤ l.length ∧ i = .int .i64 k ∧ o = .string (whoS (l.take k) t) ∧ w.grownBy wr none) (fun _ i _ => l.length - (intOf i).toNat)
  case atStart => exact ⟨0, by omega, rfl, rfl, gr_refl _ _⟩
  case round =>
    obtain ⟨k, hk, rfl, rfl, hgr⟩ := hrel
    by_cases hlt : k < l.length
    · obtain ⟨g, rfl, hg0, hg1⟩ := hA (by omega)
      have hkl : (k : Int) < (l.length : Int) := by omega
      obtain ⟨c0, c1⟩ := (HL.out.grown hgr).at1 k hlt
      have HN : Hid (whoS (l.take (k + 1)) t = if l[k].1 ≤ t then l[k].2 else whoS (l.take k) t) := by
        show _ = _
        rw [List.take_succ_eq_append_getElem hlt, whoS_snoc]
      obtain ⟨x, hx⟩ : ∃ x, l[k].1 = x := ⟨_, rfl⟩
      obtain ⟨y, hy⟩ : ∃ y, l[k].2 = y := ⟨_, rfl⟩
      rw [hx] at c0 HN
      rw [hy] at c1 HN
      clear hx hy
      by_cases hxt : x ≤ t
      · have HN2 : Hid (whoS (l.take (k + 1)) t = y) := by show _ = _; rw [HN.out, if_pos hxt]
        go_wp2_with fail
        go_roundw
        case rel => exact ⟨k + 1, by omega, by go_num, by rw [HN2.out], gr_alloc hgr _⟩
        case measure => simp [intOf]; omega
      · have HN2 : Hid (whoS (l.take (k + 1)) t = whoS (l.take k) t) := by show _ = _; rw [HN.out, if_neg hxt]
        go_wp2_with fail
        go_roundw
        case rel => exact ⟨k + 1, by omega, by go_num, by rw [HN2.out], gr_alloc hgr _⟩
        case measure => simp [intOf]; omega
    · have hkl : ¬ (k : Int) < (l.length : Int) := by omega
      have HE : Hid (l.take k = l) := List.take_of_length_le (by omega)
      go_wp2_with fail
      go_ret
      exact ⟨ret_str (by rw [HE.out]), hgr⟩

end Go.Proofs.YtnapbnkbchaanaaGreatDoor
