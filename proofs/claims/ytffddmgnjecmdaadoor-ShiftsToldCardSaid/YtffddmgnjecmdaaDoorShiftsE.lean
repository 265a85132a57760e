/- Who, Counts, Fairest with their errors. Condition: few shifts; a window's end within 2^60; at most 1000 times. -/
import Derived.Test.YtffddmgnjecmdaaDoorFairRef
namespace Go.Proofs.YtffddmgnjecmdaaDoor
open Go.RowKit
set_option linter.unusedVariables false
set_option linter.unusedSimpArgs false

theorem emptyB : (!(⟨#[]⟩ : ByteArray).toList.isEmpty) = false := by rw [Lib.toList_data]; rfl
def nameS (l : List (Int × ByteArray)) (t : Int) : ByteArray := if orE (scanS none l) (momE t) = 0 then whoS l t else ⟨#[]⟩
set_option maxHeartbeats 1000000 in
theorem whoE_any (base : Nat) (v : Value) (l : List (Int × ByteArray)) (t : Int) (w : World) (hl : ShFrom base w v l) (F : ShFew l) :
    Calls Tryd.prog 36 #[v, .int .i64 t] w fun r w' => r = .returned (.tuple #[.string (nameS l t), .bool (!(nameS l t).toList.isEmpty), .int .i64 (orE (scanS none l) (momE t))]) ∧ w.grownBy w' none := by
  by_cases hS : scanS none l = 0
  · rcases momE_cases t with ⟨hm, ho, t0, t1⟩ | ⟨hm, ho⟩
    · have hE : orE (scanS none l) (momE t) = 0 := by unfold orE; rw [if_pos hS, hm]
      have hN : nameS l t = whoS l t := by unfold nameS; rw [if_pos hE]
      rw [hN, hE]
      exact who_ok base v l t w hl F hS t0 t1
    · have hE : orE (scanS none l) (momE t) = 1 := by unfold orE; rw [if_pos hS, hm]
      have hN : nameS l t = ⟨#[]⟩ := by unfold nameS; rw [hE]; rfl
      rw [hN, hE, emptyB]
      have HC := Lib.hid (fun W h => checkShifts_few base v l W h F)
      rw [hS] at HC
      have HL := Lib.hid hl
      clear hl F hS hm hE hN
      go_enter Tryd.func36, Tryd.ntmps36
      go_wp2_with fail
      refine (HC.out _ HL.out).mono ?_
      rintro _ w1 ⟨rfl, hg1⟩
      go_wp2_with fail
      refine (isMoment_any _ _).mono ?_
      rintro _ _ ⟨rfl, rfl⟩
      rw [ho]
      go_wp2_with fail
      go_ret3
      exact ⟨rfl, hg1⟩
  · have hE : orE (scanS none l) (momE t) = scanS none l := by unfold orE; rw [if_neg hS]
    have hN : nameS l t = ⟨#[]⟩ := by unfold nameS; rw [hE, if_neg hS]
    rw [hN, hE, emptyB]
    have HC := Lib.hid (fun W h => checkShifts_few base v l W h F)
    generalize scanS none l = S at *
    have HL := Lib.hid hl
    clear hl F hE hN
    go_enter Tryd.func36, Tryd.ntmps36
    go_wp2_with fail
    refine (HC.out _ HL.out).mono ?_
    rintro _ w1 ⟨rfl, hg1⟩
    go_wp2_with fail
    go_ret3
    exact ⟨rfl, hg1⟩

def countKs (ts : List Int) (l : List (Int × ByteArray)) (a z : Int) : List (List UInt8) := if orE (timesE ts a z) (scanS none l) = 0 then onceB (whosTo l a z l.length) else []
set_option maxHeartbeats 1000000 in
theorem countsE_any (base base2 : Nat) (v v2 : Value) (ts : List Int) (l : List (Int × ByteArray)) (a z : Int) (w : World) (hts : IntsFrom base w v ts) (hl : ShFrom base2 w v2 l) (F : ShFew l) (z0 : -1152921504606846976 ≤ z) (z1 : z ≤ 1152921504606846976) :
    Calls Tryd.prog 37 #[v, .agg #[.int .i64 a, .int .i64 z], v2] w fun r w' =>
      ∃ u, r = .returned (.tuple #[u, .int .i64 (orE (timesE ts a z) (scanS none l))]) ∧ CountsFrom (w.heap.size + 1) w' u (countKs ts l a z) (valS (manyS l ts)) (valS (longsTo l a z l.length)) ∧ w.grownBy w' none := by
  by_cases hT : timesE ts a z = 0
  · by_cases hS : scanS none l = 0
    · have hE : orE (timesE ts a z) (scanS none l) = 0 := by unfold orE; rw [if_pos hT, hS]
      have hK : countKs ts l a z = onceB (whosTo l a z l.length) := by unfold countKs; rw [if_pos hE]
      rw [hK, hE]
      refine (counts_ok base base2 v v2 ts l a z w hts hT hl F hS).mono ?_
      rintro r w' ⟨u, ks, rfl, hp, hpw, hu, hg⟩
      rw [whos_once l a z l.length hp hpw] at hu
      exact ⟨u, rfl, hu, hg⟩
    · have hE : orE (timesE ts a z) (scanS none l) = scanS none l := by unfold orE; rw [if_pos hT]
      have hK : countKs ts l a z = [] := by unfold countKs; rw [hE, if_neg hS]
      rw [hK, hE]
      have hG := World.grownBy_alloc w (.cells #[.int .i64 a, .int .i64 z] 60) none
      have hx := Blk.new w 60 #[.int .i64 a, .int .i64 z]
      obtain ⟨x0, x1⟩ := hx.cells2
      have HCT := Lib.hid (fun W h => checkTimes_any base v ts a z W h z0 z1)
      rw [hT] at HCT
      have HC := Lib.hid (fun W h => checkShifts_few base2 v2 l W h F)
      have HT := Lib.hid (hts.grown hG)
      have HL := Lib.hid (hl.grown hG)
      generalize scanS none l = S at *
      clear hl F hE hK hts hT hx
      go_enter Tryd.func37, Tryd.ntmps37
      go_wp2_with fail
      generalize w.alloc (.cells #[.int .i64 a, .int .i64 z] 60) = W at *
      refine (HCT.out _ HT.out).mono ?_
      rintro _ w1 ⟨rfl, hg1⟩
      go_wp2_with fail
      refine (HC.out _ (HL.out.grown hg1)).mono ?_
      rintro _ w2 ⟨rfl, hg2⟩
      go_wp2_with fail
      go_ret2
      exact ⟨_, rfl, World.ownsRow_nil _ _ _ _, gr_trans hG (gr_trans hg1 hg2)⟩
  · have hE : orE (timesE ts a z) (scanS none l) = timesE ts a z := by unfold orE; rw [if_neg hT]
    have hK : countKs ts l a z = [] := by unfold countKs; rw [hE, if_neg hT]
    rw [hK, hE]
    have hG := World.grownBy_alloc w (.cells #[.int .i64 a, .int .i64 z] 60) none
    have hx := Blk.new w 60 #[.int .i64 a, .int .i64 z]
    obtain ⟨x0, x1⟩ := hx.cells2
    have HCT := Lib.hid (fun W h => checkTimes_any base v ts a z W h z0 z1)
    have HT := Lib.hid (hts.grown hG)
    generalize timesE ts a z = T at *
    clear hl F hE hK hts hx
    go_enter Tryd.func37, Tryd.ntmps37
    go_wp2_with fail
    generalize w.alloc (.cells #[.int .i64 a, .int .i64 z] 60) = W at *
    refine (HCT.out _ HT.out).mono ?_
    rintro _ w1 ⟨rfl, hg1⟩
    go_wp2_with fail
    go_ret2
    exact ⟨_, rfl, World.ownsRow_nil _ _ _ _, gr_trans hG hg1⟩

theorem timesE_nil (a z : Int) : timesE [] a z = if timeB a z then 0 else 1 := by
  unfold timesE
  cases timeB a z <;> simp [scanT]
theorem timeB_rng {a z : Int} (h : timeB a z = true) : 0 ≤ a ∧ a < z ∧ z ≤ 345686400000 := by simpa [timeB] using h
def fairN (l : List (Int × ByteArray)) (a z : Int) : Int := if orE (scanS none l) (timesE [] a z) = 0 then fairS (longsTo l a z l.length) else 0
set_option maxHeartbeats 1000000 in
theorem fairE_any (base2 : Nat) (v2 : Value) (l : List (Int × ByteArray)) (a z : Int) (w : World) (hl : ShFrom base2 w v2 l) (F : ShFew l) (z0 : -1152921504606846976 ≤ z) (z1 : z ≤ 1152921504606846976) :
    Calls Tryd.prog 38 #[v2, .agg #[.int .i64 a, .int .i64 z]] w fun r w' => r = .returned (.tuple #[.int .i64 (fairN l a z), .int .i64 (orE (scanS none l) (timesE [] a z))]) ∧ w.grownBy w' none := by
  by_cases hS : scanS none l = 0
  · cases hB : timeB a z with
    | true =>
      obtain ⟨b0, b1, b2⟩ := timeB_rng hB
      have hE : orE (scanS none l) (timesE [] a z) = 0 := by unfold orE; rw [if_pos hS, timesE_nil, hB]; rfl
      have hN : fairN l a z = fairS (longsTo l a z l.length) := by unfold fairN; rw [if_pos hE]
      rw [hN, hE]
      exact fairest_ok base2 v2 l a z w hl F hS hB b0 b1 b2
    | false =>
      have hE : orE (scanS none l) (timesE [] a z) = 1 := by unfold orE; rw [if_pos hS, timesE_nil, hB]; rfl
      have hN : fairN l a z = 0 := by unfold fairN; rw [hE]; rfl
      rw [hN, hE]
      have hG := World.grownBy_alloc w (.cells #[.int .i64 a, .int .i64 z] 60) none
      have hx := Blk.new w 60 #[.int .i64 a, .int .i64 z]
      have HC := Lib.hid (fun W h => checkShifts_few base2 v2 l W h F)
      rw [hS] at HC
      have HL := Lib.hid (hl.grown hG)
      have HB := Lib.hid hB
      clear hl F hE hN hS hB
      go_enter Tryd.func38, Tryd.ntmps38
      go_wp2_with fail
      generalize w.alloc (.cells #[.int .i64 a, .int .i64 z] 60) = W at *
      refine (HC.out _ HL.out).mono ?_
      rintro _ w1 ⟨rfl, hg1⟩
      obtain ⟨x0, x1⟩ := (hx.grown hg1 (by simp)).cells2
      go_wp2_with fail
      refine (isTime_any a z _ z0 z1).mono ?_
      rintro _ w2 ⟨rfl, hg2⟩
      rw [HB.out]
      go_wp2_with fail
      go_ret2
      exact ⟨rfl, gr_trans hG (gr_trans hg1 hg2)⟩
  · have hE : orE (scanS none l) (timesE [] a z) = scanS none l := by unfold orE; rw [if_neg hS]
    have hN : fairN l a z = 0 := by unfold fairN; rw [hE, if_neg hS]
    rw [hN, hE]
    have hG := World.grownBy_alloc w (.cells #[.int .i64 a, .int .i64 z] 60) none
    have HC := Lib.hid (fun W h => checkShifts_few base2 v2 l W h F)
    have HL := Lib.hid (hl.grown hG)
    generalize scanS none l = S at *
    clear hl F hE hN
    go_enter Tryd.func38, Tryd.ntmps38
    go_wp2_with fail
    generalize w.alloc (.cells #[.int .i64 a, .int .i64 z] 60) = W at *
    refine (HC.out _ HL.out).mono ?_
    rintro _ w1 ⟨rfl, hg1⟩
    go_wp2_with fail
    go_ret2
    exact ⟨rfl, gr_trans hG hg1⟩

set_option maxHeartbeats 2000000 in
/-- slices.Equal at two slices of counts that are equal. -/
theorem equalCounts (b1 b2 : Nat) (u v : Value) (ks : List (List UInt8)) (f g : List UInt8 → Int) (w : World) (hu : CountsFrom b1 w u ks f g) (hv : CountsFrom b2 w v ks f g) :
    Calls Tryd.prog 44 #[u, v] w fun r w' => r = .returned (.bool true) ∧ w.grownBy w' none := by
  obtain ⟨A, ca, rfl, ha, hA⟩ := ownsRow_shape hu
  obtain ⟨B, cb, rfl, hb, hB⟩ := ownsRow_shape hv
  have HU := Lib.hid hu
  have HV := Lib.hid hv
  have HA := Lib.hid hA
  have HB := Lib.hid hB
  clear hu hv hA hB
  go_enter Tryd.func44, Tryd.ntmps44
  go_wp2_with fail
  go_loopw [13] (fun i wr => ∃ k : Nat, k ≤ ks.length ∧ i = .int .i64 k ∧ w.grownBy wr none) (fun i _ => ks.length - (intOf i).toNat)
  case atStart => exact ⟨0, by omega, rfl, gr_refl _ _⟩
  case round =>
    obtain ⟨k, hk, rfl, hgr⟩ := hrel
    by_cases hlt : k < ks.length
    · obtain ⟨ga, rfl, _, _⟩ := HA.out (by omega)
      obtain ⟨gb, rfl, _, _⟩ := HB.out (by omega)
      obtain ⟨a0, a1, a2⟩ := CountsFrom.three (ownsRow_grown HU.out hgr) k hlt
      obtain ⟨b0, b1, b2⟩ := CountsFrom.three (ownsRow_grown HV.out hgr) k hlt
      unfold encStr at a0 b0
      generalize (⟨ks[k].toArray⟩ : ByteArray) = st at *
      generalize f ks[k] = x at *
      generalize g ks[k] = y at *
      have hkl : (k : Int) < (ks.length : Int) := by omega
      go_wp2_with fail
      go_quiet (fail)
      go_wp2_with fail
      go_roundw
      case rel => exact ⟨k + 1, by omega, by go_num, by repeat (first | exact hgr | refine gr_drewN ?_ _ | refine gr_drew ?_)⟩
      case measure => simp [intOf]; omega
    · have hkl : ¬ ((k : Int) < ks.length) := by omega
      go_wp2_with fail
      go_ret
      exact ⟨rfl, hgr⟩
end Go.Proofs.YtffddmgnjecmdaaDoor
