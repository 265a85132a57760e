/- The tests of ranges, moments and sites, and cmp.Or over errors: each answers as its plain form says. No condition. -/
import Derived.Test.YtffddmgnjecmdaaGreatDoorBase
namespace Go.Proofs.YtffddmgnjecmdaaGreatDoor
open Go.RowKit
set_option linter.unusedVariables false

def outB (n l h : Int) : Bool := decide (n < l) || decide (h < n)
theorem outB_no {n l h : Int} (h1 : l ≤ n) (h2 : n ≤ h) : outB n l h = false := by unfold outB; simp; omega
theorem outB_yes {n l h : Int} (h1 : n < l ∨ h < n) : outB n l h = true := by unfold outB; simp; omega
def spanE (n l h : Int) : Int := if outB n l h then 1 else 0
def momE (at_ : Int) : Int := spanE at_ 0 345686399999
theorem spanE_no {n l h : Int} (h1 : l ≤ n) (h2 : n ≤ h) : spanE n l h = 0 := by unfold spanE; rw [outB_no h1 h2]; rfl
theorem spanE_yes {n l h : Int} (h1 : n < l ∨ h < n) : spanE n l h = 1 := by unfold spanE; rw [outB_yes h1]; rfl
theorem spanE_cases (n l h : Int) : (spanE n l h = 0 ∧ l ≤ n ∧ n ≤ h) ∨ (spanE n l h = 1 ∧ (n < l ∨ h < n)) := by
  by_cases hh : l ≤ n ∧ n ≤ h
  · exact .inl ⟨spanE_no hh.1 hh.2, hh⟩
  · have h' : n < l ∨ h < n := by omega
    exact .inr ⟨spanE_yes h', h'⟩
set_option maxHeartbeats 400000 in
theorem outside_any (n l h : Int) (w : World) :
    Calls Tryz.prog 31 #[.int .i64 n, .int .i64 l, .int .i64 h] w fun e w' => e = .returned (.bool (outB n l h)) ∧ w = w' := by
  by_cases h1 : n < l
  · have HE := Lib.hid (show outB n l h = true from outB_yes (.inl h1))
    go_enter Tryz.func31, Tryz.ntmps31
    go_wp2_with fail
    go_ret
    exact ⟨ret_b HE.out.symm, rfl⟩
  · by_cases h2 : h < n
    · have HE := Lib.hid (show outB n l h = true from outB_yes (.inr h2))
      go_enter Tryz.func31, Tryz.ntmps31
      go_wp2_with fail
      go_ret
      exact ⟨ret_b HE.out.symm, rfl⟩
    · have HE := Lib.hid (show outB n l h = false from outB_no (by omega) (by omega))
      go_enter Tryz.func31, Tryz.ntmps31
      go_wp2_with fail
      go_ret
      exact ⟨ret_b HE.out.symm, rfl⟩

set_option maxHeartbeats 400000 in
theorem in_any (n l h : Int) (w : World) :
    Calls Tryz.prog 64 #[.int .i64 n, .int .i64 l, .int .i64 h] w fun e w' => e = .returned (.bool (!outB n l h)) ∧ w = w' := by
  by_cases h1 : n < l
  · have HE := Lib.hid (show outB n l h = true from outB_yes (.inl h1))
    go_enter Tryz.func64, Tryz.ntmps64
    go_wp2_with fail
    go_ret
    exact ⟨ret_b (by rw [HE.out]; first | rfl | (simp; omega)), rfl⟩
  · by_cases h2 : h < n
    · have HE := Lib.hid (show outB n l h = true from outB_yes (.inr h2))
      go_enter Tryz.func64, Tryz.ntmps64
      go_wp2_with fail
      go_ret
      exact ⟨ret_b (by rw [HE.out]; first | rfl | (simp; omega)), rfl⟩
    · have HE := Lib.hid (show outB n l h = false from outB_no (by omega) (by omega))
      go_enter Tryz.func64, Tryz.ntmps64
      go_wp2_with fail
      go_ret
      exact ⟨ret_b (by rw [HE.out]; first | rfl | (simp; omega)), rfl⟩

set_option maxHeartbeats 400000 in
theorem isMoment_any (n : Int) (w : World) :
    Calls Tryz.prog 61 #[.int .i64 n] w fun e w' => e = .returned (.bool (!outB n 0 345686399999)) ∧ w = w' := by
  go_enter Tryz.func61, Tryz.ntmps61
  go_wp2_with fail
  refine (outside_any _ _ _ _).mono ?_
  rintro e w' ⟨rfl, rfl⟩
  go_wp2_with fail
  go_ret
  exact ⟨rfl, rfl⟩

set_option maxHeartbeats 400000 in
theorem spanFault_any (n l h : Int) (w : World) :
    Calls Tryz.prog 85 #[.int .i64 n, .int .i64 l, .int .i64 h] w fun e w' => e = .returned (.int .i64 (spanE n l h)) ∧ w = w' := by
  rcases hb : outB n l h
  all_goals
    have HE := Lib.hid hb
    go_enter Tryz.func85, Tryz.ntmps85
    go_wp2_with fail
    refine (in_any _ _ _ _).mono ?_
    rintro e w' ⟨rfl, rfl⟩
    go_wp2_with fail
    go_ret
    exact ⟨ret_of (by unfold spanE; rw [HE.out]; rfl), rfl⟩

set_option maxHeartbeats 400000 in
theorem momentFault_any (n : Int) (w : World) :
    Calls Tryz.prog 53 #[.int .i64 n] w fun e w' => e = .returned (.int .i64 (momE n)) ∧ w = w' := by
  go_enter Tryz.func53, Tryz.ntmps53
  go_wp2_with fail
  refine (spanFault_any _ _ _ _).mono ?_
  rintro e w' ⟨rfl, rfl⟩
  go_wp2_with fail
  go_ret
  exact ⟨rfl, rfl⟩

theorem getE_of {xs : List Int} {i : Nat} (h : i < xs.length) : ((xs.map (Value.int .i64)).toArray)[i]? = some (.int .i64 xs[i]) := by simp [h]

/-- The first error of a list. -/
def orL : List Int → Int
  | [] => 0
  | a :: r => if a = 0 then orL r else a

theorem orL1 (a : Int) : orL [a] = a := by
  by_cases h : a = 0 <;> simp [orL, h]
theorem orL_cons (a : Int) (r : List Int) : orL (a :: r) = if a = 0 then orL r else a := rfl

/-- A result with an error: the value, or 0. -/
def okI (e v : Int) : Int := if e = 0 then v else 0
def okB (e : Int) (v : Bool) : Bool := if e = 0 then v else false

theorem ret_2i {k l : IntKind} {a b c d : Int} (h : a = b) (h' : c = d) : Ending.returned (.tuple #[.int k a, .int l c]) = .returned (.tuple #[.int k b, .int l d]) := by rw [h, h']
theorem ret_bi {l : IntKind} {a b : Bool} {c d : Int} (h : a = b) (h' : c = d) : Ending.returned (.tuple #[.bool a, .int l c]) = .returned (.tuple #[.bool b, .int l d]) := by rw [h, h']

theorem momE_cases (a : Int) : (momE a = 0 ∧ outB a 0 345686399999 = false ∧ 0 ≤ a ∧ a ≤ 345686399999) ∨ (momE a = 1 ∧ outB a 0 345686399999 = true) := by
  unfold momE
  rcases spanE_cases a 0 345686399999 with ⟨h, h1, h2⟩ | ⟨h, h1⟩
  · exact .inl ⟨h, outB_no h1 h2, h1, h2⟩
  · exact .inr ⟨h, outB_yes h1⟩

end Go.Proofs.YtffddmgnjecmdaaGreatDoor
