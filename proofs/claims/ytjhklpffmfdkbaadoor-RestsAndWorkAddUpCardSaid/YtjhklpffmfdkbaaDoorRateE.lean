/- The walks over rate.In, rate.Rate and their twins in the reference. Condition: the window's end is no number beyond 2^60; else times without error where the name says ok. -/
import Derived.Test.YtjhklpffmfdkbaaDoorRateLow
import Derived.Deep.RegionHeld3
namespace Go.Proofs.YtjhklpffmfdkbaaDoor
open Go.RowKit
set_option linter.unusedVariables false

theorem gr_of_drew {w w' : World} {row : Option Nat} (h : w.drew.grownBy w' row) : w.grownBy w' row := ⟨h.os, h.tape, h.output, h.size, h.block⟩
theorem TimesOk.E0 {l : List Int} {a zt : Int} (h : timesE l a zt = 0) : (timesE l a zt != 0) = false := by rw [h]; rfl

set_option maxHeartbeats 1000000 in
theorem in_bad (base : Nat) (v : Value) (l : List Int) (a zt x y : Int) (w : World) (hl : IntsFrom base w v l) (hto : -1152921504606846976 ≤ zt) (hto2 : zt ≤ 1152921504606846976) (hE : timesE l a zt ≠ 0) :
    Calls Tryd.prog 27 #[v, .agg #[.int .i64 a, .int .i64 zt], .agg #[.int .i64 x, .int .i64 y]] w fun r w' => r = .returned (.tuple #[.int .i64 0, .int .i64 (timesE l a zt)]) ∧ w.grownBy w' none := by
  have hE1 : (timesE l a zt != 0) = true := by rw [bne_iff_ne]; exact hE
  have hG := gr_alloc (World.grownBy_alloc w (.cells #[.int .i64 a, .int .i64 zt] 27) none) (.cells #[.int .i64 x, .int .i64 y] 27)
  have hl2 := (hl.alloc (.cells #[.int .i64 a, .int .i64 zt] 27)).alloc (.cells #[.int .i64 x, .int .i64 y] 27)
  have HE := Lib.hid hE
  clear hl hE
  go_enter Tryd.func27, Tryd.ntmps27
  go_wp2_with fail
  refine (checkTimes_any base _ _ _ _ _ hl2 hto hto2).mono ?_
  rintro _ w1 ⟨rfl, hg1⟩
  go_wp2_with fail
  go_ret2
  exact ⟨rfl, gr_trans hG hg1⟩

set_option maxHeartbeats 1000000 in
theorem in_ok (base : Nat) (v : Value) (l : List Int) (a zt x y : Int) (w : World) (hl : IntsFrom base w v l) (hE : timesE l a zt = 0) :
    Calls Tryd.prog 27 #[v, .agg #[.int .i64 a, .int .i64 zt], .agg #[.int .i64 x, .int .i64 y]] w fun r w' => r = .returned (.tuple #[.int .i64 (okI (winE x y) (manyI l x y)), .int .i64 (winE x y)]) ∧ w.grownBy w' none := by
  have O := timesE_ok hE
  have hG := gr_alloc (World.grownBy_alloc w (.cells #[.int .i64 a, .int .i64 zt] 27) none) (.cells #[.int .i64 x, .int .i64 y] 27)
  have hl2 := (hl.alloc (.cells #[.int .i64 a, .int .i64 zt] 27)).alloc (.cells #[.int .i64 x, .int .i64 y] 27)
  have hx0 := Blk.new (w.alloc (.cells #[.int .i64 a, .int .i64 zt] 27)) 27 #[.int .i64 x, .int .i64 y]
  rw [World.size_alloc] at hx0
  have hto := O.to_
  have ha0 := O.a0
  have hato := O.ato
  have HL := Lib.hid hl2
  have HO := Lib.hid O
  clear hl O hl2
  rcases hw : decide (winE x y = 0)
  · have hw1 : winE x y = 1 := by unfold winE at hw ⊢; split <;> simp_all
    have HW := Lib.hid hw1
    clear hw1
    go_enter Tryd.func27, Tryd.ntmps27
    go_wp2_with fail
    refine (checkTimes_any base _ _ _ _ _ HL.out (by omega) (by omega)).mono ?_
    rintro _ w1 ⟨rfl, hg1⟩
    have hx1 := hx0.grown hg1 (by simp)
    have c0 : w1.cell? ⟨w.heap.size + 1, 0, none⟩ = some (.int .i64 x) := hx1.cell 0
    have c1 : w1.cell? ⟨w.heap.size + 1, 1, none⟩ = some (.int .i64 y) := hx1.cell 1
    go_wp2_with fail
    refine (isWindow_e _ _ _).mono ?_
    rintro _ w2 ⟨rfl, hg2⟩
    rw [hw]
    go_wp2_with fail
    go_ret2
    exact ⟨ret_2i (by unfold okI; rw [HW.out]; rfl) HW.out.symm, gr_trans (gr_trans hG hg1) hg2⟩
  · have hw0 : winE x y = 0 := by simpa using hw
    have HW := Lib.hid hw0
    clear hw0
    go_enter Tryd.func27, Tryd.ntmps27
    go_wp2_with fail
    refine (checkTimes_any base _ _ _ _ _ HL.out (by omega) (by omega)).mono ?_
    rintro _ w1 ⟨rfl, hg1⟩
    have hx1 := hx0.grown hg1 (by simp)
    have c0 : w1.cell? ⟨w.heap.size + 1, 0, none⟩ = some (.int .i64 x) := hx1.cell 0
    have c1 : w1.cell? ⟨w.heap.size + 1, 1, none⟩ = some (.int .i64 y) := hx1.cell 1
    go_wp2_with fail
    refine (isWindow_e _ _ _).mono ?_
    rintro _ w2 ⟨rfl, hg2⟩
    rw [hw]
    have hx2 := hx1.grown hg2 (by simp)
    clear c0 c1
    have c0 : w2.cell? ⟨w.heap.size + 1, 0, none⟩ = some (.int .i64 x) := hx2.cell 0
    have c1 : w2.cell? ⟨w.heap.size + 1, 1, none⟩ = some (.int .i64 y) := hx2.cell 1
    go_wp2_with fail
    refine (in_many base _ _ _ _ _ ((HL.out.grown hg1).grown hg2) HO.out.sorted (by have := HO.out.len; omega)).mono ?_
    rintro _ w3 ⟨rfl, hg3⟩
    go_wp2_with fail
    go_ret2
    exact ⟨ret_2i (by unfold okI; rw [HW.out]; rfl) HW.out.symm, gr_trans (gr_trans (gr_trans hG hg1) hg2) hg3⟩

/-- The error of a moment and a length. -/
def mlE (at_ long : Int) : Int := if momE at_ = 0 then longE long else momE at_
theorem mlE_01 (at_ long : Int) : (mlE at_ long = 0 ∧ momE at_ = 0 ∧ longE long = 0) ∨ mlE at_ long = 1 := by
  unfold mlE
  rcases momE_cases at_ with h | h <;> rcases longE_cases long with h2 | h2 <;> simp [h.1, h2.1]
def lastE (l : List Int) (a zt at_ long : Int) : Int := if timesE l a zt = 0 then mlE at_ long else timesE l a zt

end Go.Proofs.YtjhklpffmfdkbaaDoor
