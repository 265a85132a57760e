/- Who, Counts, Fairest with their errors. Condition: few shifts; a window's end within 2^60; at most 1000 times. -/
import Derived.Test.YtnapbnkbchaanaaGreatDoorFairRef
namespace Go.Proofs.YtnapbnkbchaanaaGreatDoor
open Go.RowKit
set_option linter.unusedVariables false
set_option linter.unusedSimpArgs false

theorem emptyB : (!(⟨#[]⟩ : ByteArray).toList.isEmpty) = false := by rw [Lib.toList_data]; rfl
def nameS (l : List (Int × ByteArray)) (t : Int) : ByteArray := if orE (scanS none l) (momE t) = 0 then whoS l t else ⟨#[]⟩
def countKs (ts : List Int) (l : List (Int × ByteArray)) (a z : Int) : List (List UInt8) := if orE (timesE ts a z) (scanS none l) = 0 then onceB (whosTo l a z l.length) else []
set_option maxHeartbeats 1000000 in
theorem countsE_any (base base2 : Nat) (v v2 : Value) (ts : List Int) (l : List (Int × ByteArray)) (a z : Int) (w : World) (hts : IntsFrom base w v ts) (hl : ShFrom base2 w v2 l) (F : ShFew l) (z0 : -1152921504606846976 ≤ z) (z1 : z ≤ 1152921504606846976) :
    Calls Tryz.prog 48 #[v, .agg #[.int .i64 a, .int .i64 z], v2] w fun r w' =>
      ∃ u, r = .returned (.tuple #[u, .int .i64 (orE (timesE ts a z) (scanS none l))]) ∧ CountsFrom (w.heap.size + 1) w' u (countKs ts l a z) (valS (manyS l ts)) (valS (longsTo l a z l.length)) ∧ w.grownBy w' none := by
  by_cases hT : timesE ts a z = 0
  · by_cases hS : scanS none l = 0
    · have hE : orE (timesE ts a z) (scanS none l) = 0 := by unfold orE; rw [if_pos hT, hS]
      have hK : countKs ts l a z = onceB (whosTo l a z l.length) := by unfold countKs; rw [if_pos hE]
      rw [hK, hE]
      refine (counts_ok base base2 v v2 ts l a z w hts hT hl F hS).mono ?_
      rintro r w' ⟨u, ks, rfl, hp, hpw, hu, hg⟩
      rw [whos_once l a z l.length hp hpw] at hu
      exact ⟨u, rfl, hu, hg⟩
    · have hE : orE (timesE ts a z) (scanS none l) = scanS none l := by unfold orE; rw [if_pos hT]
      have hK : countKs ts l a z = [] := by unfold countKs; rw [hE, if_neg hS]
      rw [hK, hE]
      have hG := World.grownBy_alloc w (.cells #[.int .i64 a, .int .i64 z] 71) none
      have hx := Blk.new w 71 #[.int .i64 a, .int .i64 z]
      obtain ⟨x0, x1⟩ := hx.cells2
      have HCT := Lib.hid (fun W h => checkTimes_any base v ts a z W h z0 z1)
      rw [hT] at HCT
      have HC := Lib.hid (fun W h => checkShifts_few base2 v2 l W h F)
      have HT := Lib.hid (hts.grown hG)
      have HL := Lib.hid (hl.grown hG)
      generalize scanS none l = S at *
      clear hl F hE hK hts hT hx
      go_enter Tryz.func48, Tryz.ntmps48
      go_wp2_with fail
      generalize w.alloc (.cells #[.int .i64 a, .int .i64 z] 71) = W at *
      refine (HCT.out _ HT.out).mono ?_
      rintro _ w1 ⟨rfl, hg1⟩
      go_wp2_with fail
      refine (HC.out _ (HL.out.grown hg1)).mono ?_
      rintro _ w2 ⟨rfl, hg2⟩
      go_wp2_with fail
      go_ret2
      exact ⟨_, rfl, World.ownsRow_nil _ _ _ _, gr_trans hG (gr_trans hg1 hg2)⟩
  · have hE : orE (timesE ts a z) (scanS none l) = timesE ts a z := by unfold orE; rw [if_neg hT]
    have hK : countKs ts l a z = [] := by unfold countKs; rw [hE, if_neg hT]
    rw [hK, hE]
    have hG := World.grownBy_alloc w (.cells #[.int .i64 a, .int .i64 z] 71) none
    have hx := Blk.new w 71 #[.int .i64 a, .int .i64 z]
    obtain ⟨x0, x1⟩ := hx.cells2
    have HCT := Lib.hid (fun W h => checkTimes_any base v ts a z W h z0 z1)
    have HT := Lib.hid (hts.grown hG)
    generalize timesE ts a z = T at *
    clear hl F hE hK hts hx
    go_enter Tryz.func48, Tryz.ntmps48
    go_wp2_with fail
    generalize w.alloc (.cells #[.int .i64 a, .int .i64 z] 71) = W at *
    refine (HCT.out _ HT.out).mono ?_
    rintro _ w1 ⟨rfl, hg1⟩
    go_wp2_with fail
    go_ret2
    exact ⟨_, rfl, World.ownsRow_nil _ _ _ _, gr_trans hG hg1⟩

theorem timesE_nil (a z : Int) : timesE [] a z = if timeB a z then 0 else 1 := by
  unfold timesE
  cases timeB a z <;> simp [scanT]
theorem timeB_rng {a z : Int} (h : timeB a z = true) : 0 ≤ a ∧ a < z ∧ z ≤ 345686400000 := by simpa [timeB] using h
def fairN (l : List (Int × ByteArray)) (a z : Int) : Int := if orE (scanS none l) (timesE [] a z) = 0 then fairS (longsTo l a z l.length) else 0
end Go.Proofs.YtnapbnkbchaanaaGreatDoor
