/- The walks over rate.In, rate.Rate and their twins in the reference. Condition: the window's end is no number beyond 2^60; else times without error where the name says ok. -/
import Derived.Test.YtjhklpffmfdkbaaRateLow
import Derived.Deep.RegionHeld3
namespace Go.Proofs.Ytjhklpffmfdkbaa
open Go.RowKit
set_option linter.unusedVariables false

theorem gr_of_drew {w w' : World} {row : Option Nat} (h : w.drew.grownBy w' row) : w.grownBy w' row := ⟨h.os, h.tape, h.output, h.size, h.block⟩
theorem TimesOk.E0 {l : List Int} {a to : Int} (h : timesE l a to = 0) : (timesE l a to != 0) = false := by rw [h]; rfl

set_option maxHeartbeats 1000000 in
theorem in_bad (base : Nat) (v : Value) (l : List Int) (a to x y : Int) (w : World) (hl : IntsFrom base w v l) (hto : -1152921504606846976 ≤ to) (hto2 : to ≤ 1152921504606846976) (hE : timesE l a to ≠ 0) :
    Calls Try.prog 11 #[v, .agg #[.int .i64 a, .int .i64 to], .agg #[.int .i64 x, .int .i64 y]] w fun r w' => r = .returned (.tuple #[.int .i64 0, .int .i64 (timesE l a to)]) ∧ w.grownBy w' none := by
  have hE1 : (timesE l a to != 0) = true := by rw [bne_iff_ne]; exact hE
  have hG := gr_alloc (World.grownBy_alloc w (.cells #[.int .i64 a, .int .i64 to] 27) none) (.cells #[.int .i64 x, .int .i64 y] 27)
  have hl2 := (hl.alloc (.cells #[.int .i64 a, .int .i64 to] 27)).alloc (.cells #[.int .i64 x, .int .i64 y] 27)
  have HE := Lib.hid hE
  clear hl hE
  go_enter Try.func11, Try.ntmps11
  go_wp2_with fail
  refine (checkTimes_any base _ _ _ _ _ hl2 hto hto2).mono ?_
  rintro _ w1 ⟨rfl, hg1⟩
  go_wp2_with fail
  go_ret2
  exact ⟨rfl, gr_trans hG hg1⟩

set_option maxHeartbeats 1000000 in
theorem in_ok (base : Nat) (v : Value) (l : List Int) (a to x y : Int) (w : World) (hl : IntsFrom base w v l) (hE : timesE l a to = 0) :
    Calls Try.prog 11 #[v, .agg #[.int .i64 a, .int .i64 to], .agg #[.int .i64 x, .int .i64 y]] w fun r w' => r = .returned (.tuple #[.int .i64 (okI (winE x y) (manyI l x y)), .int .i64 (winE x y)]) ∧ w.grownBy w' none := by
  have O := timesE_ok hE
  have hG := gr_alloc (World.grownBy_alloc w (.cells #[.int .i64 a, .int .i64 to] 27) none) (.cells #[.int .i64 x, .int .i64 y] 27)
  have hl2 := (hl.alloc (.cells #[.int .i64 a, .int .i64 to] 27)).alloc (.cells #[.int .i64 x, .int .i64 y] 27)
  have hx0 := Blk.new (w.alloc (.cells #[.int .i64 a, .int .i64 to] 27)) 27 #[.int .i64 x, .int .i64 y]
  rw [World.size_alloc] at hx0
  have hto := O.to_
  have ha0 := O.a0
  have hato := O.ato
  have HL := Lib.hid hl2
  have HO := Lib.hid O
  clear hl O hl2
  rcases hw : decide (winE x y = 0)
  · have hw1 : winE x y = 1 := by unfold winE at hw ⊢; split <;> simp_all
    have HW := Lib.hid hw1
    clear hw1
    go_enter Try.func11, Try.ntmps11
    go_wp2_with fail
    refine (checkTimes_any base _ _ _ _ _ HL.out (by omega) (by omega)).mono ?_
    rintro _ w1 ⟨rfl, hg1⟩
    have hx1 := hx0.grown hg1 (by simp)
    have c0 : w1.cell? ⟨w.heap.size + 1, 0, none⟩ = some (.int .i64 x) := hx1.cell 0
    have c1 : w1.cell? ⟨w.heap.size + 1, 1, none⟩ = some (.int .i64 y) := hx1.cell 1
    go_wp2_with fail
    refine (isWindow_e _ _ _).mono ?_
    rintro _ w2 ⟨rfl, hg2⟩
    rw [hw]
    go_wp2_with fail
    go_ret2
    exact ⟨ret_2i (by unfold okI; rw [HW.out]; rfl) HW.out.symm, gr_trans (gr_trans hG hg1) hg2⟩
  · have hw0 : winE x y = 0 := by simpa using hw
    have HW := Lib.hid hw0
    clear hw0
    go_enter Try.func11, Try.ntmps11
    go_wp2_with fail
    refine (checkTimes_any base _ _ _ _ _ HL.out (by omega) (by omega)).mono ?_
    rintro _ w1 ⟨rfl, hg1⟩
    have hx1 := hx0.grown hg1 (by simp)
    have c0 : w1.cell? ⟨w.heap.size + 1, 0, none⟩ = some (.int .i64 x) := hx1.cell 0
    have c1 : w1.cell? ⟨w.heap.size + 1, 1, none⟩ = some (.int .i64 y) := hx1.cell 1
    go_wp2_with fail
    refine (isWindow_e _ _ _).mono ?_
    rintro _ w2 ⟨rfl, hg2⟩
    rw [hw]
    have hx2 := hx1.grown hg2 (by simp)
    clear c0 c1
    have c0 : w2.cell? ⟨w.heap.size + 1, 0, none⟩ = some (.int .i64 x) := hx2.cell 0
    have c1 : w2.cell? ⟨w.heap.size + 1, 1, none⟩ = some (.int .i64 y) := hx2.cell 1
    go_wp2_with fail
    refine (in_many base _ _ _ _ _ ((HL.out.grown hg1).grown hg2) HO.out.sorted (by have := HO.out.len; omega)).mono ?_
    rintro _ w3 ⟨rfl, hg3⟩
    go_wp2_with fail
    go_ret2
    exact ⟨ret_2i (by unfold okI; rw [HW.out]; rfl) HW.out.symm, gr_trans (gr_trans (gr_trans hG hg1) hg2) hg3⟩

/-- The error of a moment and a length. -/
def mlE (at_ long : Int) : Int := if momE at_ = 0 then longE long else momE at_
theorem mlE_01 (at_ long : Int) : (mlE at_ long = 0 ∧ momE at_ = 0 ∧ longE long = 0) ∨ mlE at_ long = 1 := by
  unfold mlE
  rcases momE_cases at_ with h | h <;> rcases longE_cases long with h2 | h2 <;> simp [h.1, h2.1]
def lastE (l : List Int) (a to at_ long : Int) : Int := if timesE l a to = 0 then mlE at_ long else timesE l a to

set_option maxHeartbeats 1000000 in
theorem lastFault_any (base : Nat) (v : Value) (l : List Int) (a to at_ long : Int) (w : World) (hl : IntsFrom base w v l) (hto : -1152921504606846976 ≤ to) (hto2 : to ≤ 1152921504606846976) :
    Calls Try.prog 59 #[v, .agg #[.int .i64 a, .int .i64 to], .int .i64 at_, .int .i64 long] w fun r w' => r = .returned (.int .i64 (lastE l a to at_ long)) ∧ w.grownBy w' none := by
  have hG := World.grownBy_alloc w (.cells #[.int .i64 a, .int .i64 to] 27) none
  have HL := Lib.hid (hl.alloc (.cells #[.int .i64 a, .int .i64 to] 27))
  clear hl
  by_cases hE : timesE l a to = 0
  · have HE : Hid (lastE l a to at_ long = mlE at_ long) := by show _ = _; unfold lastE; rw [if_pos hE]
    rcases momE_cases at_ with ⟨he, hb, h1, h2⟩ | ⟨he, hb⟩
    · rcases longE_cases long with ⟨hle, hlb, hl1, hl2⟩ | ⟨hle, hlb⟩
      · have HM : Hid (mlE at_ long = 0) := by show _ = _; unfold mlE; rw [if_pos he, hle]
        clear he hle
        go_enter Try.func59, Try.ntmps59
        go_wp2_with fail
        refine (checkTimes_any base _ _ _ _ _ HL.out hto hto2).mono ?_
        rintro _ w1 ⟨rfl, hg1⟩
        go_wp2_with (first | (go_at_call 92; refine (isMoment_any _ _).mono ?_; rintro r w' ⟨rfl, rfl⟩) | (go_at_call 62; refine (isLong_any _ _).mono ?_; rintro r w' ⟨rfl, rfl⟩))
        go_ret
        exact ⟨ret_of (HE.out.trans HM.out).symm, gr_trans hG hg1⟩
      · have HM : Hid (mlE at_ long = 1) := by show _ = _; unfold mlE; rw [if_pos he, hle]
        clear he hle
        go_enter Try.func59, Try.ntmps59
        go_wp2_with fail
        refine (checkTimes_any base _ _ _ _ _ HL.out hto hto2).mono ?_
        rintro _ w1 ⟨rfl, hg1⟩
        go_wp2_with (first | (go_at_call 92; refine (isMoment_any _ _).mono ?_; rintro r w' ⟨rfl, rfl⟩) | (go_at_call 62; refine (isLong_any _ _).mono ?_; rintro r w' ⟨rfl, rfl⟩))
        go_ret
        exact ⟨ret_of (HE.out.trans HM.out).symm, gr_trans hG hg1⟩
    · have HM : Hid (mlE at_ long = 1) := by show _ = _; unfold mlE; rw [if_neg (by omega), he]
      clear he
      go_enter Try.func59, Try.ntmps59
      go_wp2_with fail
      refine (checkTimes_any base _ _ _ _ _ HL.out hto hto2).mono ?_
      rintro _ w1 ⟨rfl, hg1⟩
      go_wp2_with (first | (go_at_call 92; refine (isMoment_any _ _).mono ?_; rintro r w' ⟨rfl, rfl⟩))
      go_ret
      exact ⟨ret_of (HE.out.trans HM.out).symm, gr_trans hG hg1⟩
  · have hE1 : (timesE l a to != 0) = true := by rw [bne_iff_ne]; exact hE
    have HE : Hid (lastE l a to at_ long = timesE l a to) := by show _ = _; unfold lastE; rw [if_neg hE]
    clear hE
    go_enter Try.func59, Try.ntmps59
    go_wp2_with fail
    refine (checkTimes_any base _ _ _ _ _ HL.out hto hto2).mono ?_
    rintro _ w1 ⟨rfl, hg1⟩
    go_wp2_with fail
    go_ret
    exact ⟨ret_of HE.out.symm, gr_trans hG hg1⟩
end Go.Proofs.Ytjhklpffmfdkbaa
