/- The tests of ranges, moments and sites, and cmp.Or over errors: each answers as its plain form says. No condition. -/
import Derived.Test.YtlbhphfmckhimaaBase
namespace Go.Proofs.Ytlbhphfmckhimaa
open Go.RowKit
set_option linter.unusedVariables false

def outB (n l h : Int) : Bool := decide (n < l) || decide (h < n)
theorem outB_no {n l h : Int} (h1 : l ≤ n) (h2 : n ≤ h) : outB n l h = false := by unfold outB; simp; omega
theorem outB_yes {n l h : Int} (h1 : n < l ∨ h < n) : outB n l h = true := by unfold outB; simp; omega
def spanE (n l h : Int) : Int := if outB n l h then 1 else 0
def momE (at_ : Int) : Int := spanE at_ 0 345686399999
theorem spanE_no {n l h : Int} (h1 : l ≤ n) (h2 : n ≤ h) : spanE n l h = 0 := by unfold spanE; rw [outB_no h1 h2]; rfl
theorem spanE_yes {n l h : Int} (h1 : n < l ∨ h < n) : spanE n l h = 1 := by unfold spanE; rw [outB_yes h1]; rfl
theorem spanE_cases (n l h : Int) : (spanE n l h = 0 ∧ l ≤ n ∧ n ≤ h) ∨ (spanE n l h = 1 ∧ (n < l ∨ h < n)) := by
  by_cases hh : l ≤ n ∧ n ≤ h
  · exact .inl ⟨spanE_no hh.1 hh.2, hh⟩
  · have h' : n < l ∨ h < n := by omega
    exact .inr ⟨spanE_yes h', h'⟩
set_option maxHeartbeats 400000 in
theorem outside_any (n l h : Int) (w : World) :
    Calls Try.prog 49 #[.int .i64 n, .int .i64 l, .int .i64 h] w fun e w' => e = .returned (.bool (outB n l h)) ∧ w = w' := by
  by_cases h1 : n < l
  · have HE := Lib.hid (show outB n l h = true from outB_yes (.inl h1))
    go_enter Try.func49, Try.ntmps49
    go_wp2_with fail
    go_ret
    exact ⟨ret_b HE.out.symm, rfl⟩
  · by_cases h2 : h < n
    · have HE := Lib.hid (show outB n l h = true from outB_yes (.inr h2))
      go_enter Try.func49, Try.ntmps49
      go_wp2_with fail
      go_ret
      exact ⟨ret_b HE.out.symm, rfl⟩
    · have HE := Lib.hid (show outB n l h = false from outB_no (by omega) (by omega))
      go_enter Try.func49, Try.ntmps49
      go_wp2_with fail
      go_ret
      exact ⟨ret_b HE.out.symm, rfl⟩

set_option maxHeartbeats 400000 in
theorem in_any (n l h : Int) (w : World) :
    Calls Try.prog 47 #[.int .i64 n, .int .i64 l, .int .i64 h] w fun e w' => e = .returned (.bool (!outB n l h)) ∧ w = w' := by
  by_cases h1 : n < l
  · have HE := Lib.hid (show outB n l h = true from outB_yes (.inl h1))
    go_enter Try.func47, Try.ntmps47
    go_wp2_with fail
    go_ret
    exact ⟨ret_b (by rw [HE.out]; first | rfl | (simp; omega)), rfl⟩
  · by_cases h2 : h < n
    · have HE := Lib.hid (show outB n l h = true from outB_yes (.inr h2))
      go_enter Try.func47, Try.ntmps47
      go_wp2_with fail
      go_ret
      exact ⟨ret_b (by rw [HE.out]; first | rfl | (simp; omega)), rfl⟩
    · have HE := Lib.hid (show outB n l h = false from outB_no (by omega) (by omega))
      go_enter Try.func47, Try.ntmps47
      go_wp2_with fail
      go_ret
      exact ⟨ret_b (by rw [HE.out]; first | rfl | (simp; omega)), rfl⟩

set_option maxHeartbeats 400000 in
theorem spanFault_any (n l h : Int) (w : World) :
    Calls Try.prog 27 #[.int .i64 n, .int .i64 l, .int .i64 h] w fun e w' => e = .returned (.int .i64 (spanE n l h)) ∧ w = w' := by
  rcases hb : outB n l h
  all_goals
    have HE := Lib.hid hb
    go_enter Try.func27, Try.ntmps27
    go_wp2_with fail
    refine (in_any _ _ _ _).mono ?_
    rintro e w' ⟨rfl, rfl⟩
    go_wp2_with fail
    go_ret
    exact ⟨ret_of (by unfold spanE; rw [HE.out]; rfl), rfl⟩

theorem getE_of {xs : List Int} {i : Nat} (h : i < xs.length) : ((xs.map (Value.int .i64)).toArray)[i]? = some (.int .i64 xs[i]) := by simp [h]

/-- The first error of a list. -/
def orL : List Int → Int
  | [] => 0
  | a :: r => if a = 0 then orL r else a

set_option maxHeartbeats 400000 in
theorem or_any (xs : List Int) (g m c : Nat) (w : World) (hg : Blk w g 36 (xs.map (Value.int .i64)).toArray) (hm : m = xs.length) (h1 : m ≤ 1000) :
    Calls Try.prog 9 #[.slice (some ⟨g, 0, none⟩) m c] w fun r w' => r = .returned (.int .i64 (orL xs)) ∧ w = w' := by
  have HM := Lib.hid hm
  clear hm
  go_enter Try.func9, Try.ntmps9
  go_wp2_with fail
  go_loop [8] (fun i => ∃ k : Nat, k ≤ m ∧ i = .int .i64 k ∧ Hid (orL xs = orL (xs.drop k))) (fun i => m - (intOf i).toNat)
  case atStart => exact ⟨0, by omega, rfl, rfl⟩
  case round =>
    obtain ⟨k, hk, rfl, HR⟩ := hrel
    by_cases hlt : k < m
    · have hi : k < xs.length := by have := HM.out; omega
      have hc := hg.cell k
      rw [getE_of hi] at hc
      obtain ⟨z, hz⟩ : ∃ z, z = xs[k] := ⟨_, rfl⟩
      rw [← hz] at hc
      have HZ : Hid (orL (xs.drop k) = if z = 0 then orL (xs.drop (k + 1)) else z) := by
        show orL (xs.drop k) = _
        rw [List.drop_eq_getElem_cons hi, ← hz]
        rfl
      clear hz
      by_cases h0 : z = 0
      · have hne : (z != 0) = false := by simp [h0]
        have HZ2 : Hid (orL xs = orL (xs.drop (k + 1))) := by
          show orL xs = _
          rw [HR.out, HZ.out, if_pos h0]
        have H0 := Lib.hid h0
        clear h0
        go_wp2_with fail
        go_round
        case rel => exact ⟨k + 1, by omega, by go_num, HZ2⟩
        case measure => simp [intOf]; omega
      · have hne : (z != 0) = true := by simpa using h0
        have HZ2 : Hid (orL xs = z) := by
          show orL xs = _
          rw [HR.out, HZ.out, if_neg h0]
        clear h0
        go_wp2_with fail
        go_ret
        exact ⟨ret_of HZ2.out.symm, rfl⟩
    · have HZ2 : Hid (orL xs = 0) := by
        show orL xs = _
        rw [HR.out, List.drop_of_length_le (by have := HM.out; omega)]
        rfl
      go_wp2_with fail
      go_ret
      exact ⟨ret_of HZ2.out.symm, rfl⟩

/-- cmp.Or of two errors that have just been laid. -/
theorem or2_any (a b : Int) (w : World) :
    Calls Try.prog 9 #[.slice (some ⟨w.heap.size, 0, none⟩) 2 2] (w.alloc (.cells #[.int .i64 a, .int .i64 b] 36)) fun r w' =>
      r = .returned (.int .i64 (if a = 0 then b else a)) ∧ w.grownBy w' none :=
  (or_any [a, b] _ 2 2 _ (Blk.new w _ _) rfl (by decide)).mono fun e w' ⟨he, hw⟩ => ⟨by rw [he]; exact ret_of (by simp only [orL]; split <;> (try split) <;> simp_all), by rw [← hw]; exact World.grownBy_alloc w _ none⟩

/-- cmp.Or of three, of four errors that have just been laid. -/
theorem or3_any (a b d : Int) (w : World) :
    Calls Try.prog 9 #[.slice (some ⟨w.heap.size, 0, none⟩) 3 3] (w.alloc (.cells #[.int .i64 a, .int .i64 b, .int .i64 d] 36)) fun r w' =>
      r = .returned (.int .i64 (orL [a, b, d])) ∧ w.grownBy w' none :=
  (or_any [a, b, d] _ 3 3 _ (Blk.new w _ _) rfl (by decide)).mono fun e w' ⟨he, hw⟩ => ⟨he, by rw [← hw]; exact World.grownBy_alloc w _ none⟩
theorem or4_any (a b c d : Int) (w : World) :
    Calls Try.prog 9 #[.slice (some ⟨w.heap.size, 0, none⟩) 4 4] (w.alloc (.cells #[.int .i64 a, .int .i64 b, .int .i64 c, .int .i64 d] 36)) fun r w' =>
      r = .returned (.int .i64 (orL [a, b, c, d])) ∧ w.grownBy w' none :=
  (or_any [a, b, c, d] _ 4 4 _ (Blk.new w _ _) rfl (by decide)).mono fun e w' ⟨he, hw⟩ => ⟨he, by rw [← hw]; exact World.grownBy_alloc w _ none⟩
theorem orL1 (a : Int) : orL [a] = a := by
  by_cases h : a = 0 <;> simp [orL, h]
theorem orL_cons (a : Int) (r : List Int) : orL (a :: r) = if a = 0 then orL r else a := rfl

/-- A result with an error: the value, or 0. -/
def okI (e v : Int) : Int := if e = 0 then v else 0
def okB (e : Int) (v : Bool) : Bool := if e = 0 then v else false

theorem ret_2i {k l : IntKind} {a b c d : Int} (h : a = b) (h' : c = d) : Ending.returned (.tuple #[.int k a, .int l c]) = .returned (.tuple #[.int k b, .int l d]) := by rw [h, h']
theorem ret_bi {l : IntKind} {a b : Bool} {c d : Int} (h : a = b) (h' : c = d) : Ending.returned (.tuple #[.bool a, .int l c]) = .returned (.tuple #[.bool b, .int l d]) := by rw [h, h']

theorem momE_cases (a : Int) : (momE a = 0 ∧ outB a 0 345686399999 = false ∧ 0 ≤ a ∧ a ≤ 345686399999) ∨ (momE a = 1 ∧ outB a 0 345686399999 = true) := by
  unfold momE
  rcases spanE_cases a 0 345686399999 with ⟨h, h1, h2⟩ | ⟨h, h1⟩
  · exact .inl ⟨h, outB_no h1 h2, h1, h2⟩
  · exact .inr ⟨h, outB_yes h1⟩

end Go.Proofs.Ytlbhphfmckhimaa
