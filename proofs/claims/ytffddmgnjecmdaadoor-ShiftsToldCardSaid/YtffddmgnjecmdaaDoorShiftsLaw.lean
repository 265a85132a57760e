/- The walk over the law ShiftsTold: it answers true whatever numbers come in. No condition. -/
import Derived.Test.YtffddmgnjecmdaaDoorShiftsE
import Derived.Test.YtffddmgnjecmdaaDoorStreamShifts
import Derived.Test.YtffddmgnjecmdaaDoorTimes
import Derived.Test.YtffddmgnjecmdaaDoorRateAll
import Derived.Test.YtffddmgnjecmdaaDoorStart
import Derived.Deep.RegionHeld3
import Derived.Deep.DeepCutAuto
namespace Go.Proofs.YtffddmgnjecmdaaDoor
open Go.RowKit
set_option linter.unusedVariables false
set_option linter.unusedSimpArgs false

theorem or2_at (a b : Int) (g : Nat) (W : World) (hB : Blk W g 31 #[.int .i64 a, .int .i64 b]) :
    Calls Tryd.prog 24 #[.slice (some ⟨g, 0, none⟩) 2 2] W fun r w' => r = .returned (.int .i64 (orE a b)) ∧ W = w' :=
  (or_any [a, b] g 2 2 W hB rfl (by decide)).mono fun e w' ⟨he, hw⟩ => ⟨by
    rw [he]
    have h : orL [a, b] = orE a b := by
      unfold orE
      rw [orL_cons, orL1]
    rw [h], hw⟩
set_option maxRecDepth 100000 in
set_option maxHeartbeats 8000000 in
theorem shiftsLaw (A : Option Addr) (n c : Nat) (w : World) (hin : In w A n) :
    Calls Tryd.prog 5 #[.slice A n c] w fun e w' => e = .returned (.bool true) ∧ Below w.heap.size w w' := by
  have hs := Str.start (c := c) hin
  clear hin
  go_enter Tryd.func5, Tryd.ntmps5
  go_wp2_with fail
  refine (timesOf_in _ _ _ hs (by omega)).mono ?_
  rintro _ w1 ⟨v, l, a, z, rfl, hl, hlen, ha0, ha1, hto0, hto1, hs1, hg1⟩
  have hG : w.grownBy w1 none := gr_grown (World.grownBy_alloc w _ none) hg1 (by simp)
  have hb1 := hs1.lt
  have HL : Hid (IntsFrom (w.heap.size + 1) w1 v l) := by
    have h := hl
    rw [World.size_alloc] at h
    exact h
  clear hg1 hl hs
  go_wp2_with fail
  have x5 := Blk.new w1 60 #[.int .i64 a, .int .i64 z]
  have hs1' := hs1.alloc (.cells #[.int .i64 a, .int .i64 z] 60)
  have hG1 := gr_alloc hG (.cells #[.int .i64 a, .int .i64 z] 60)
  have HL1 : Hid (IntsFrom (w.heap.size + 1) (w1.alloc (.cells #[.int .i64 a, .int .i64 z] 60)) v l) := IntsFrom.alloc HL.out _
  generalize hW1 : w1.alloc (.cells #[.int .i64 a, .int .i64 z] 60) = W1 at *
  have hz1 : w1.heap.size + 1 = W1.heap.size := by rw [← hW1]; simp
  generalize w1.heap.size = B5 at *
  have hB5 : w.heap.size < B5 := hb1
  clear hs1 hG HL hW1 hb1
  refine (shifts_in _ _ _ hs1' (by omega)).mono ?_
  rintro _ w2 ⟨sv, sh, rfl, hsh, hfew, hnm, hs2, hg⟩
  replace x5 := x5.grown hg (by simp; omega)
  replace hG1 := gr_grown hG1 hg (by simp)
  replace HL1 := Lib.hid (IntsFrom.other HL1.out hg (by omega))
  have HSH := Lib.hid hsh
  have HF := Lib.hid hfew
  clear hsh hfew hnm hg hs1'
  go_wp2_with fail
  refine (pick_at _ _ _ 5 5 [0, 500, 1000000, 5000000, -1] _ hs2 (by first | rfl | simp) (by omega) rfl (by decide) (by decide)).mono ?_
  rintro _ w3 ⟨at_, hy, rfl, hs3, hg⟩
  replace x5 := x5.grown hg (by simp; omega)
  replace hG1 := gr_grown hG1 hg (by simp)
  replace HL1 := Lib.hid (IntsFrom.other HL1.out hg (by omega))
  replace HSH := Lib.hid (ShFrom.other HSH.out hg (by omega))
  have htb : -1 ≤ at_ ∧ at_ ≤ 5000000 := by simp at hy; omega
  clear hy hs2 hs3 hg
  obtain ⟨S, hS⟩ : ∃ S, scanS none sh = S := ⟨_, rfl⟩
  obtain ⟨T, hT⟩ : ∃ T, timesE l a z = T := ⟨_, rfl⟩
  obtain ⟨B, hBB⟩ : ∃ T, timesE [] a z = T := ⟨_, rfl⟩
  obtain ⟨M, hM⟩ : ∃ T, momE at_ = T := ⟨_, rfl⟩
  obtain ⟨E1, hE1⟩ : ∃ E, orE S M = E := ⟨_, rfl⟩
  obtain ⟨E2, hE2⟩ : ∃ E, orE T S = E := ⟨_, rfl⟩
  obtain ⟨E3, hE3⟩ : ∃ E, orE S B = E := ⟨_, rfl⟩
  obtain ⟨NM, hNM⟩ : ∃ E, nameS sh at_ = E := ⟨_, rfl⟩
  obtain ⟨KK, hKK⟩ : ∃ E, countKs l sh a z = E := ⟨_, rfl⟩
  obtain ⟨FF, hFF⟩ : ∃ E, fairN sh a z = E := ⟨_, rfl⟩
  have HS := Lib.hid hS
  have HT := Lib.hid hT
  have HBB := Lib.hid hBB
  have HM := Lib.hid hM
  have H1 := Lib.hid hE1
  have H2 := Lib.hid hE2
  have H3 := Lib.hid hE3
  have HNM := Lib.hid hNM
  have HKK := Lib.hid hKK
  have HFF := Lib.hid hFF
  have hto2 : -1152921504606846976 ≤ z ∧ z ≤ 1152921504606846976 := by omega
  have HC1 := Lib.hid (fun W h => whoE_any (W1.heap.size) sv sh at_ W h HF.out)
  have HC2 := Lib.hid (fun W h h2 => countsE_any (w.heap.size + 1) (W1.heap.size) v sv l sh a z W h h2 HF.out hto2.1 hto2.2)
  have HC3 := Lib.hid (fun W h => fairE_any (W1.heap.size) sv sh a z W h HF.out hto2.1 hto2.2)
  have HC4 := Lib.hid (fun W h => shiftsFault_few (W1.heap.size) sv sh W h HF.out)
  have HC5 := Lib.hid (fun W h => checkShifts_few (W1.heap.size) sv sh W h HF.out)
  have HC6 := Lib.hid (fun W h => timesFault_any (w.heap.size + 1) v l a z W h)
  have HC7 := Lib.hid (fun W => timesFault_any 0 (.slice none 0 0) [] a z W (IntsFrom.nil _ _))
  rw [hS, hM, hE1, hNM] at HC1
  rw [hS, hT, hE2, hKK] at HC2
  rw [hS, hBB, hE3, hFF] at HC3
  rw [hS] at HC4 HC5
  rw [hT] at HC6
  rw [hBB] at HC7
  clear hS hT hBB hM hE1 hE2 hE3 hNM hKK hFF
  go_wp2_with fail
  refine (HC4.out _ HSH.out).mono ?_
  rintro _ w4 ⟨rfl, hg⟩
  replace x5 := x5.grown hg (by simp)
  replace hG1 := gr_trans hG1 hg
  replace HL1 := Lib.hid (HL1.out.grown hg)
  replace HSH := Lib.hid (HSH.out.grown hg)
  clear hg
  go_wp2_with fail
  refine (HC5.out _ HSH.out).mono ?_
  rintro _ w5 ⟨rfl, hg⟩
  replace x5 := x5.grown hg (by simp)
  replace hG1 := gr_trans hG1 hg
  replace HL1 := Lib.hid (HL1.out.grown hg)
  replace HSH := Lib.hid (HSH.out.grown hg)
  clear hg
  go_wp2_with fail
  refine (HC1.out _ HSH.out).mono ?_
  rintro _ w6 ⟨rfl, hg⟩
  replace x5 := x5.grown hg (by simp)
  replace hG1 := gr_trans hG1 hg
  replace HL1 := Lib.hid (HL1.out.grown hg)
  replace HSH := Lib.hid (HSH.out.grown hg)
  clear hg
  obtain ⟨y0, y1⟩ := x5.cells2
  go_wp2_with fail
  refine (HC2.out _ HL1.out HSH.out).mono ?_
  rintro _ w7 ⟨u, rfl, hu, hg⟩
  replace x5 := x5.grown hg (by simp)
  replace hG1 := gr_trans hG1 hg
  replace HL1 := Lib.hid (HL1.out.grown hg)
  replace HSH := Lib.hid (HSH.out.grown hg)
  have HU := Lib.hid hu
  clear hg hu y0 y1
  obtain ⟨y0, y1⟩ := x5.cells2
  go_wp2_with fail
  refine (HC3.out _ HSH.out).mono ?_
  rintro _ w8 ⟨rfl, hg⟩
  replace x5 := x5.grown hg (by simp)
  replace hG1 := gr_trans hG1 hg
  replace HL1 := Lib.hid (HL1.out.grown hg)
  replace HSH := Lib.hid (HSH.out.grown hg)
  replace HU := Lib.hid (ownsRow_grown HU.out hg)
  clear hg y0 y1
  obtain ⟨y0, y1⟩ := x5.cells2
  have KX : Hid (∀ W' : World, w8.grownBy W' none → W'.cell? ⟨B5, 0, none⟩ = some (.int .i64 a) ∧ W'.cell? ⟨B5, 1, none⟩ = some (.int .i64 z) ∧ w8.grownBy W' none) :=
    fun W' hW => ⟨(x5.grown hW (by simp)).cell 0, (x5.grown hW (by simp)).cell 1, hW⟩
  have K1 : Hid ((if S = 0 then M else S) = E1) := H1.out
  have K2 : Hid ((if T = 0 then S else T) = E2) := H2.out
  have K3 : Hid ((if S = 0 then B else S) = E3) := H3.out
  go_wp2_with fail
  go_cut [16, 17, 18] (fun s16 s17 s18 wr => s16 = .int .i64 E1 ∧ s17 = .int .i64 E2 ∧ s18 = .int .i64 E3 ∧ w8.grownBy wr none)
  case first =>
    as_aux_lemma =>
      have z0 : w8.drew.cell? ⟨B5, 0, none⟩ = some (.int .i64 a) := y0
      have z1 : w8.drew.cell? ⟨B5, 1, none⟩ = some (.int .i64 z) := y1
      go_region_held3 (fun W' => W'.cell? ⟨B5, 0, none⟩ = some (.int .i64 a) ∧ W'.cell? ⟨B5, 1, none⟩ = some (.int .i64 z) ∧ w8.grownBy W' none)
        ((exact KX.out _ (by repeat (first | exact gr_refl _ _ | assumption | refine gr_drew ?_ | refine gr_alloc ?_ _ | refine gr_trans ?_ (by assumption)))))
        (first | (go_at_call 39; refine (momentFault_any _ _).mono ?_; rintro _ wC ⟨rfl, rfl⟩; rw [HM.out]) | (go_at_call_of 40 v; refine (HC6.out _ (HL1.out.grown (by repeat (first | exact gr_refl _ _ | assumption | refine gr_drew ?_ | refine gr_alloc ?_ _ | refine gr_trans ?_ (by assumption))))).mono ?_; rintro _ wT ⟨rfl, hgT⟩) | (go_at_call 40; refine (HC7.out _).mono ?_; rintro _ wU ⟨rfl, hgU⟩) | (go_at_call 24; refine (or2_at _ _ _ _ (by repeat (first | exact Blk.new _ _ _ | refine Blk.drew ?_ | refine Blk.alloc ?_ _))).mono ?_; rintro _ _ ⟨rfl, rfl⟩; first | rw [H1.out] | rw [H2.out] | rw [H3.out]) | fail)
      all_goals
        go_wp2_with fail
        go_meet
        exact ⟨rfl, rfl, rfl, (by repeat (first | exact gr_refl _ _ | assumption | refine gr_drew ?_ | refine gr_alloc ?_ _ | refine gr_trans ?_ (by assumption)))⟩
  case rest =>
    obtain ⟨rfl, rfl, rfl, hg⟩ := hcut
    replace x5 := x5.grown hg (by simp)
    replace hG1 := gr_trans hG1 hg
    replace HL1 := Lib.hid (HL1.out.grown hg)
    replace HSH := Lib.hid (HSH.out.grown hg)
    replace HU := Lib.hid (ownsRow_grown HU.out hg)
    clear hg y0 y1 KX
    generalize wc = C0 at *
    go_upto_if 78 with fail
    go_cut [19] (fun s19 wr => s19 = .string NM ∧ C0.grownBy wr none)
    case first =>
      by_cases hE : E1 = 0
      · have hb0 : (E1 == 0) = true := by simpa using hE
        have HFF1 : Hid (whoS sh at_ = NM) := by
          show _ = _
          rw [← HNM.out]
          unfold nameS
          rw [HS.out, HM.out, H1.out, if_pos hE]
        have HWA := Lib.hid (whoAt_any (W1.heap.size) sv sh at_ C0 HSH.out (by have := HF.out.len; omega))
        clear hE
        go_wp2_with fail
        refine HWA.out.mono ?_
        rintro _ V2 ⟨rfl, hg⟩
        rw [HFF1.out]
        go_wp2_with fail
        go_meet
        exact ⟨rfl, hg⟩
      · have hb0 : (E1 == 0) = false := by simpa using hE
        have HFF1 : Hid (NM = ⟨#[]⟩) := by
          show _ = _
          rw [← HNM.out]
          unfold nameS
          rw [HS.out, HM.out, H1.out, if_neg hE]
        clear hE
        go_wp2_with fail
        go_meet
        exact ⟨by rw [HFF1.out], gr_refl _ _⟩
    case rest =>
      obtain ⟨rfl, hg⟩ := hcut
      replace x5 := x5.grown hg (by simp)
      replace hG1 := gr_trans hG1 hg
      replace HL1 := Lib.hid (HL1.out.grown hg)
      replace HSH := Lib.hid (HSH.out.grown hg)
      replace HU := Lib.hid (ownsRow_grown HU.out hg)
      clear hg
      generalize wc = C1 at *
      go_upto_if 83 with fail
      go_cut [21] (fun s21 wr => CountsFrom 0 wr s21 KK (valS (manyS sh l)) (valS (longsTo sh a z sh.length)) ∧ C1.grownBy wr none)
      case first =>
        by_cases hE : E2 = 0
        · have hb0 : (E2 == 0) = true := by simpa using hE
          obtain ⟨t0, s0⟩ := orE_0' (H2.out.trans hE)
          have hKK : onceB (whosTo sh a z sh.length) = KK := by
            rw [← HKK.out]
            unfold countKs
            rw [HS.out, HT.out, H2.out, if_pos hE]
          have O := timesE_ok (HT.out.trans t0)
          have o1 := O.a0
          have o2 := O.ato
          have o3 := O.to_
          have SO := (scanS_ok none sh (HS.out.trans s0)).1
          have HCR := Lib.hid (refCounts_any (w.heap.size + 1) (W1.heap.size) v sv l sh a z C1 HL1.out (by omega) HSH.out HF.out SO o1 (by omega) (by omega) o3)
          rw [hKK] at HCR
          obtain ⟨y0, y1⟩ := x5.cells2
          clear hE O SO hKK t0 s0
          go_wp2_with fail
          refine HCR.out.mono ?_
          rintro _ V2 ⟨u2, rfl, hu2, hg⟩
          have HU2 := Lib.hid (ownsRow_low (base' := 0) hu2 (Nat.zero_le _))
          clear hu2
          go_wp2_with fail
          go_meet
          exact ⟨HU2.out, hg⟩
        · have hb0 : (E2 == 0) = false := by simpa using hE
          have hKK : KK = [] := by
            rw [← HKK.out]
            unfold countKs
            rw [HS.out, HT.out, H2.out, if_neg hE]
          have HK0 := Lib.hid hKK
          clear hE hKK
          go_wp2_with fail
          go_meet
          exact ⟨by rw [HK0.out]; exact World.ownsRow_nil _ _ _ _, gr_refl _ _⟩
      case rest =>
        obtain ⟨hu2, hg⟩ := hcut
        have HU2 := Lib.hid hu2
        replace x5 := x5.grown hg (by simp)
        replace hG1 := gr_trans hG1 hg
        replace HL1 := Lib.hid (HL1.out.grown hg)
        replace HSH := Lib.hid (HSH.out.grown hg)
        replace HU := Lib.hid (ownsRow_grown HU.out hg)
        clear hg hu2
        generalize wc = C2 at *
        go_upto_if 89 with fail
        go_cut [20] (fun s20 wr => s20 = .int .i64 FF ∧ C2.grownBy wr none)
        case first =>
          by_cases hE : E3 = 0
          · have hb0 : (E3 == 0) = true := by simpa using hE
            obtain ⟨s0, t0⟩ := orE_0' (H3.out.trans hE)
            have hFF : fairS (longsTo sh a z sh.length) = FF := by
              rw [← HFF.out]
              unfold fairN
              rw [HS.out, HBB.out, H3.out, if_pos hE]
            have O := timesE_ok (HBB.out.trans t0)
            have o1 := O.a0
            have o2 := O.ato
            have o3 := O.to_
            have SO := (scanS_ok none sh (HS.out.trans s0)).1
            have HFR := Lib.hid (refFair_any (W1.heap.size) sv sh a z C2 HSH.out HF.out SO o1 (by omega) (by omega) o3)
            rw [hFF] at HFR
            obtain ⟨y0, y1⟩ := x5.cells2
            clear hE O SO hFF t0 s0
            go_wp2_with fail
            refine HFR.out.mono ?_
            rintro _ V2 ⟨rfl, hg⟩
            go_wp2_with fail
            go_meet
            exact ⟨rfl, hg⟩
          · have hb0 : (E3 == 0) = false := by simpa using hE
            have hFF : FF = 0 := by
              rw [← HFF.out]
              unfold fairN
              rw [HS.out, HBB.out, H3.out, if_neg hE]
            have HF0 := Lib.hid hFF
            clear hE hFF
            go_wp2_with fail
            go_meet
            exact ⟨by rw [HF0.out], gr_refl _ _⟩
        case rest =>
          obtain ⟨rfl, hg⟩ := hcut
          replace hG1 := gr_trans hG1 hg
          replace HU := Lib.hid (ownsRow_grown HU.out hg)
          replace HU2 := Lib.hid (ownsRow_grown HU2.out hg)
          clear hg x5 HL1 HSH
          generalize wc = C3 at *
          have HEQ := Lib.hid (equalCounts _ _ u _ KK _ _ C3 HU.out HU2.out)
          rcases he : NM.toList.isEmpty
          case' true => have hn : NM.toList = [] := by simpa using he
          all_goals
            go_wp2_with fail
            refine HEQ.out.mono ?_
            rintro _ V2 ⟨rfl, hg⟩
            replace hG1 := gr_trans hG1 hg
            clear hg
            go_wp2_with fail
            refine (rated_any _).mono ?_
            rintro _ V3 ⟨rfl, hg3⟩
            go_wp2_with fail
            go_ret
            exact ⟨rfl, gr_below (gr_trans hG1 hg3)⟩
end Go.Proofs.YtffddmgnjecmdaaDoor
