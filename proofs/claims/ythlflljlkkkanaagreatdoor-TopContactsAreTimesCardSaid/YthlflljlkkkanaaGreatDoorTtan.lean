/- The walk over the reference's ContestFault. Condition: parts of a size. The walk over score.Outside. Condition: parts of a size. slices.Contains and slices.Index at ints. No condition. slices.Sort and slices.Compact at a slice of ints that the call owns, and what the sorted list without repetitions is. Condition: at most 10^9 numbers. Plain law of the cosine in whole numbers: no program in sight. No condition. place.cosine and pileref1.CosineOf both compute the plain cosine. Condition: the angle is far from the ends of int. Plain law of the sun: what tilt and height come to, and their bounds: no program in sight. No condition. The walks over tilt and height of the sun, in package place and in the reference. Condition: moments and angles in their ranges. The error of a site, in package place and in the reference. No condition. Tilt, Sun, Grey, Cosine with their errors; GreyAt; placed. Condition: a site's numbers lie within 2^41. ready: the four packages do something. Condition: asciiSpace is Go's own table, MaxLen holds a number. h06facts: the four packages do something. Condition: asciiSpace is Go's own table, MaxLen holds a number. The walk over the law TopContactsAreTimes: it answers true whatever numbers come in. Condition: asciiSpace is Go's own table, MaxLen holds a number. What the cards of this seat share: a world that meets the rows' condition on package-level variables; what that condition gives the walks. No condition. -/
import Derived.Test.YthlflljlkkkanaaGreatDoorTtal
import Derived.Test.YthlflljlkkkanaaGreatDoorTtam
import Derived.Test.YthlflljlkkkanaaGreatDoorTtaa
import Derived.Sort.OwnSortedInts
import Derived.Lib.OwnBridge
import Derived.Lib.SlicesCompact
import Derived.Lib.RowBridge
import Derived.Test.YthlflljlkkkanaaGreatDoorTtad
import Derived.Test.YthlflljlkkkanaaGreatDoorTtac
import Derived.Test.YthlflljlkkkanaaGreatDoorTtak
import Derived.Test.YthlflljlkkkanaaGreatDoorTtaj
import Derived.Deep.DeepCutAuto
import Derived.Test.YthlflljlkkkanaaGreatDoorTtab
import Derived.Test.YthlflljlkkkanaaGreatDoorTtaf
import Derived.Test.YthlflljlkkkanaaGreatDoorCards
import Derived.Test.YthlflljlkkkanaaGreatDoorTie
import Derived.LaidMore
import Derived.Stop.Joined
import Derived.Stop.LaidErr
import Derived.HandedShaped
import Derived.Shelf.Vars
import Derived.PinnedBridge
import Derived.SevenTiedAt
namespace Go.Proofs.YthlflljlkkkanaaGreatDoor
open Go.RowKit
set_option linter.unusedVariables false
set_option linter.unusedSimpArgs false

theorem orL_5 (a b c d e : Int) : orL [a, b, c, d, e] = if orL [a, b, c] = 0 then orL [d, e] else orL [a, b, c] := by
 by_cases ha : a = 0 <;> by_cases hb : b = 0 <;> by_cases hc : c = 0 <;> simp [orL, ha, hb, hc]
set_option maxRecDepth 100000 in
set_option maxHeartbeats 16000000 in
theorem contestFault_any (base : Nat) (ev pv rv mv : Value) (c : Cst) (w : World) (h : CstFrom base w ev pv rv mv c) (hs : CstSm c) :
 Calls Tryz.prog 13 #[.agg #[ev, pv, .string c.own, .int .i64 c.beg, .int .i64 c.fin, rv, mv, .bool c.byMode]] w fun r w' => r = .returned (.int .i64 (cstE c)) ∧ w.grownBy w' none := by
 have H1 : Hid (∀ W, w.grownBy W none → Calls Tryz.prog 73 #[ev, pv] W fun r w' => r = .returned (.int .i64 (tabE c.ents c.pfxs)) ∧ W.grownBy w' none) := fun W hW => tableFault_any base ev pv c.ents c.pfxs W (h.ents.grown hW) hs.ents (h.pfxs.grown hW) hs.pfxs
 have H2 : Hid (∀ W, Calls Tryz.prog 74 #[.string c.own] W fun r w' => r = .returned (.int .i64 (callE c.own)) ∧ W.grownBy w' none) := fun W => callFault_any c.own W hs.own hs.asc
 have H3 : Hid (∀ W, Calls Tryz.prog 75 #[.agg #[.int .i64 c.beg, .int .i64 c.fin]] W fun r w' => r = .returned (.int .i64 (timeE c.beg c.fin)) ∧ W.grownBy w' none) := fun W => timeFault_any c.beg c.fin W
 have HOR : Hid (cstE c = if orL [tabE c.ents c.pfxs, callE c.own, timeE c.beg c.fin] = 0 then orL [rulsE c.ruls, mulsE c.muls] else orL [tabE c.ents c.pfxs, callE c.own, timeE c.beg c.fin]) := orL_5 _ _ _ _ _
 have HRV := Lib.hid h.ruls
 have HMV := Lib.hid h.muls
 have hrs := hs.ruls
 generalize cstE c = E at *
 generalize tabE c.ents c.pfxs = E1 at *
 generalize callE c.own = E2 at *
 generalize timeE c.beg c.fin = E3 at *
 generalize c.ruls = R at *
 generalize c.muls = L at *
 obtain ⟨RA, rc, rfl, hrl, hRA⟩ := HRV.out.shape
 obtain ⟨MA, mc, rfl, hml, hMA⟩ := HMV.out.shape
 have HRA := Lib.hid hRA
 have HMA := Lib.hid hMA
 have HCAP := Lib.hid (ownsRow_cap (show World.ownsRow _ _ _ _ _ _ _ from HMV.out)).1
 generalize c.own = own at *
 generalize c.beg = b at *
 generalize c.fin = z at *
 generalize c.byMode = bm at *
 have hB := Blk.new w 33 #[ev, pv, .string own, .int .i64 b, .int .i64 z, .slice RA R.length rc, .slice MA L.length mc, .bool bm]
 have hgA := World.grownBy_alloc w (.cells #[ev, pv, .string own, .int .i64 b, .int .i64 z, .slice RA R.length rc, .slice MA L.length mc, .bool bm] 33) none
 clear h hs hRA hMA
 go_enter Tryz.func13, Tryz.ntmps13
 go_upto_region 1 with fail
 generalize w.alloc (.cells #[ev, pv, .string own, .int .i64 b, .int .i64 z, .slice RA R.length rc, .slice MA L.length mc, .bool bm] 33) = w0 at *
 generalize w.heap.size = gC at *
 have HK : Hid (∀ V, w0.grownBy V none → V.cell? ⟨gC, 0, none⟩ = some ev ∧ V.cell? ⟨gC, 1, none⟩ = some pv ∧ V.cell? ⟨gC, 2, none⟩ = some (.string own) ∧ V.cell? ⟨gC, 3, none⟩ = some (.int .i64 b) ∧ V.cell? ⟨gC, 4, none⟩ = some (.int .i64 z) ∧ w0.grownBy V none) := fun V hV => ⟨(hB.grown hV (by simp)).cell 0, (hB.grown hV (by simp)).cell 1, (hB.grown hV (by simp)).cell 2, (hB.grown hV (by simp)).cell 3, (hB.grown hV (by simp)).cell 4, hV⟩
 refine wp_region_held_drew (S := fun V => V.cell? ⟨gC, 0, none⟩ = some ev ∧ V.cell? ⟨gC, 1, none⟩ = some pv ∧ V.cell? ⟨gC, 2, none⟩ = some (.string own) ∧ V.cell? ⟨gC, 3, none⟩ = some (.int .i64 b) ∧ V.cell? ⟨gC, 4, none⟩ = some (.int .i64 z) ∧ w0.grownBy V none) (by kernel_rfl) (HK.out _ (gr_drew (gr_refl _ _))) (fun hHeld => ?_)
 refine wpAnyH_take (i := 0) (v := ?_) rfl (by kernel_rfl) (by kernel_rfl) (by kernel_rfl) (fun _ _ _ h => h) (Or.inl ⟨by kernel_rfl, ?_⟩) hHeld ?_
 rotate_left
 ·intro w hSw
  (try dsimp only at hSw)
  obtain ⟨hS0, hS1, hS2, hS3, hS4, hS5⟩ := hSw
  go_simp
  (try with_reducible rfl)
 change wpAnyH _ _ _ _ _ _ _ (Act.put _ (some 8) _) _
 simp only [Act.put, ssA, ssZ, ssS]
 refine wpAnyH_take (i := 1) (v := ?_) rfl (by kernel_rfl) (by kernel_rfl) (by kernel_rfl) (fun _ _ _ h => h) (Or.inl ⟨by kernel_rfl, ?_⟩) hHeld ?_
 rotate_left
 ·intro w hSw
  (try dsimp only at hSw)
  obtain ⟨hS0, hS1, hS2, hS3, hS4, hS5⟩ := hSw
  go_simp
  (try with_reducible rfl)
 change wpAnyH _ _ _ _ _ _ _ (Act.put _ (some 9) _) _
 simp only [Act.put, ssA, ssZ, ssS]
 refine wpAnyH_take (i := 2) (v := ?_) rfl (by kernel_rfl) (by kernel_rfl) (by kernel_rfl) (fun _ _ _ h => h) (Or.inl ⟨by kernel_rfl, ?_⟩) hHeld ?_
 rotate_left
 ·intro w hSw
  (try dsimp only at hSw)
  obtain ⟨hS0, hS1, hS2, hS3, hS4, hS5⟩ := hSw
  go_simp
  (try with_reducible rfl)
 change wpAnyH _ _ _ _ _ _ _ (Act.put _ (some 10) _) _
 simp only [Act.put, ssA, ssZ, ssS]
 refine wpAnyH_take (i := 3) (v := ?_) rfl (by kernel_rfl) (by kernel_rfl) (by kernel_rfl) (fun _ _ _ h => h) (Or.inl ⟨by kernel_rfl, ?_⟩) hHeld ?_
 rotate_left
 ·intro w hSw
  (try dsimp only at hSw)
  obtain ⟨hS0, hS1, hS2, hS3, hS4, hS5⟩ := hSw
  go_simp
  (try with_reducible rfl)
 change wpAnyH _ _ _ _ _ _ _ (Act.put _ (some 11) _) _
 simp only [Act.put, ssA, ssZ, ssS]
 refine wpAnyH_take (i := 5) (v := ?_) rfl (by kernel_rfl) (by kernel_rfl) (by kernel_rfl) (fun _ _ _ h => h) (Or.inl ⟨by kernel_rfl, ?_⟩) hHeld ?_
 rotate_left
 ·intro w hSw
  (try dsimp only at hSw)
  obtain ⟨hS0, hS1, hS2, hS3, hS4, hS5⟩ := hSw
  go_simp
  (try with_reducible rfl)
 change wpAnyH _ _ _ _ _ _ _ (Act.put _ (some 13) _) _
 simp only [Act.put, ssA, ssZ, ssS]
 refine wpAnyH_take (i := 6) (v := ?_) rfl (by kernel_rfl) (by kernel_rfl) (by kernel_rfl) (fun _ _ _ h => h) (Or.inl ⟨by kernel_rfl, ?_⟩) hHeld ?_
 rotate_left
 ·intro w hSw
  (try dsimp only at hSw)
  obtain ⟨hS0, hS1, hS2, hS3, hS4, hS5⟩ := hSw
  go_simp
  (try with_reducible rfl)
 change wpAnyH _ _ _ _ _ _ _ (Act.put _ (some 14) _) _
 simp only [Act.put, ssA, ssZ, ssS]
 refine wpAnyH_take (i := 8) (v := ?_) rfl (by kernel_rfl) (by kernel_rfl) (by kernel_rfl) (fun _ _ _ h => h) (Or.inl ⟨by kernel_rfl, ?_⟩) hHeld ?_
 rotate_left
 ·intro w hSw
  (try dsimp only at hSw)
  obtain ⟨hS0, hS1, hS2, hS3, hS4, hS5⟩ := hSw
  go_simp
  (try with_reducible rfl)
 change wpAnyH _ _ _ _ _ _ _ (Act.put _ (some 16) _) _
 simp only [Act.put, ssA, ssZ, ssS]
 refine wpAnyH_take (i := 9) (v := ?_) rfl (by kernel_rfl) (by kernel_rfl) (by kernel_rfl) (fun _ _ _ h => h) (Or.inl ⟨by kernel_rfl, ?_⟩) hHeld ?_
 rotate_left
 ·intro w hSw
  (try dsimp only at hSw)
  obtain ⟨hS0, hS1, hS2, hS3, hS4, hS5⟩ := hSw
  go_simp
  (try with_reducible rfl)
 change wpAnyH _ _ _ _ _ _ _ (Act.put _ (some 17) _) _
 simp only [Act.put, ssA, ssZ, ssS]
 refine wpAnyH_ready (rs := [4]) (by kernel_rfl) (by simp) ?_
 refine AllReadyH.cons (o := _) rfl (fun K hK => ?_) AllReadyH.nil
 go_simp
 (go_at_call 73; refine (H1.out _ (gr_trans hgA (gr_drew (gr_refl _ _)))).mono ?_; rintro _ w1 ⟨rfl, hg1⟩; have hg01 : w0.grownBy w1 none := gr_trans (gr_drew (gr_refl w0 none)) hg1)
 refine hK.out _ _ (HK.out _ hg01) (fun hHeld4 => ?_)
 clear hK K
 (try simp only [Act.put, ssA, ssZ, ssS])
 refine wpAnyH_ready (rs := [7]) (by kernel_rfl) (by simp) ?_
 refine AllReadyH.cons (o := _) rfl (fun K hK => ?_) AllReadyH.nil
 go_simp
 (go_at_call 74; refine (H2.out _).mono ?_; rintro _ w2 ⟨rfl, hg2⟩; have hg02 : w0.grownBy w2 none := gr_trans hg01 hg2)
 refine hK.out _ _ (HK.out _ hg02) (fun hHeld7 => ?_)
 clear hK K
 (try simp only [Act.put, ssA, ssZ, ssS])
 refine wpAnyH_ready (rs := [10]) (by kernel_rfl) (by simp) ?_
 refine AllReadyH.cons (o := _) rfl (fun K hK => ?_) AllReadyH.nil
 go_simp
 (go_at_call 75; refine (H3.out _).mono ?_; rintro _ w3 ⟨rfl, hg3⟩; have hg03 : w0.grownBy w3 none := gr_trans hg02 hg3)
 refine hK.out _ _ (HK.out _ hg03) (fun hHeld10 => ?_)
 clear hK K
 (try simp only [Act.put, ssA, ssZ, ssS])
 refine wpAnyH_ready (rs := [11]) (by kernel_rfl) (by simp) ?_
 refine AllReadyH.cons (o := _) rfl (fun K hK => ?_) AllReadyH.nil
 go_simp
 (skip)
 refine hK.out _ _ (HK.out _ (gr_alloc hg03 _)) (fun hHeld11 => ?_)
 clear hK K
 (try simp only [Act.put, ssA, ssZ, ssS])
 refine wpAnyH_ready (rs := [12]) (by kernel_rfl) (by simp) ?_
 refine AllReadyH.cons (o := _) rfl (fun K hK => ?_) AllReadyH.nil
 go_simp
 (go_at_call 51; refine (or3_any _ _ _ _).mono ?_; rintro _ w4 ⟨rfl, hg4⟩; have hg04 : w0.grownBy w4 none := gr_trans hg03 hg4)
 refine hK.out _ _ (HK.out _ hg04) (fun hHeld12 => ?_)
 clear hK K
 (try simp only [Act.put, ssA, ssZ, ssS])
 refine wpAnyH_take (i := 13) (v := ?_) rfl (by kernel_rfl) (by kernel_rfl) (by kernel_rfl) (fun _ _ _ h => h) (Or.inl ⟨by kernel_rfl, ?_⟩) hHeld12 ?_
 rotate_left
 ·intro w hSw
  (try dsimp only at hSw)
  obtain ⟨hS0, hS1, hS2, hS3, hS4, hS5⟩ := hSw
  go_simp
  (try with_reducible rfl)
 change wpAnyH _ _ _ _ _ _ _ (Act.put _ (some 3) _) _
 simp only [Act.put, ssA, ssZ, ssS]
 refine wpAnyH_done (by kernel_rfl) ?_ _
 have hB4 := hB.grown hg04 (by simp)
 have hG4 := gr_trans hgA hg04
 clear hB H1 H2 H3 HK
 generalize orL [E1, E2, E3] = E0 at *
 by_cases e0 : E0 = 0
 rotate_left
 ·have HR : Hid (E = E0) := by show _ = _; rw [HOR.out, if_neg e0]
  have e1b : (E0 == 0) = false := by rw [beq_eq_false_iff_ne]; exact e0
  have e1n : (E0 != 0) = true := by rw [bne, e1b]; rfl
  go_wp2_with fail
  go_ret
  exact ⟨ret_of HR.out.symm, hG4⟩
 have HOR2 : Hid (E = orL [rulsE R, mulsE L]) := by show _ = _; rw [HOR.out, if_pos e0]
 subst e0
 clear HOR
 have k5 := hB4.cell 5
 simp only [List.getElem?_toArray, List.getElem?_cons_zero, List.getElem?_cons_succ] at k5
 by_cases hbig : 100 < R.length
 ·have HR : Hid (rulsE R = 2) := by show _ = _; unfold rulsE; rw [if_pos hbig]
  have hb : (100 : Int) < (R.length : Int) := by omega
  go_wp2_with fail
  go_ret
  exact ⟨ret_of (by rw [HOR2.out, HR.out]; simp [orL]), hG4⟩
 have HE : Hid (rulsE R = scanE rulE1 R) := by show _ = _; unfold rulsE; rw [if_neg hbig]
 have hb : ¬ (100 : Int) < (R.length : Int) := by omega
 generalize rulsE R = RE at *
 go_wp2_with fail
 clear k5
 go_loopw [31] (fun iv wr => ∃ k : Nat, k ≤ R.length ∧ iv = .int .i64 k ∧ Hid (RE = scanE rulE1 (R.drop k)) ∧ Blk wr gC 33 #[ev, pv, .string own, .int .i64 b, .int .i64 z, .slice RA R.length rc, .slice MA L.length mc, .bool bm] ∧ w.grownBy wr none) (fun iv _ => R.length - (intOf iv).toNat)
 case atStart => exact ⟨0, by omega, rfl, HE, hB4, hG4⟩
 case round =>
  obtain ⟨k, hk, rfl, HN, hBC, hg⟩ := hrel
  clear hB4 hG4
  by_cases hlt : k < R.length
  ·have hki : (k : Int) < (R.length : Int) := by omega
   have hgb : gC < wr.heap.size := hBC.lt
   obtain ⟨g, rfl, hg0, hg1⟩ := HRA.out (by omega)
   obtain ⟨q0, q1, q2, q3⟩ := (HRV.out.grown hg).at_ k hlt
   have hst := scanE_step rulE1 R k hlt
   rw [← HN.out, rulE1_B] at hst
   have hsk := hrs R[k] (List.getElem_mem hlt)
   unfold RulSm at hsk
   generalize R[k].rel = RL at *
   generalize R[k].mode = M at *
   generalize R[k].band = BD at *
   generalize R[k].points = PT at *
   have H1 := (fun W => in_any RL 0 5 W)
   have H2 := (fun W => in_any M 0 3 W)
   have H3 := (fun W => refKey_any BD W (by omega))
   have H3e := emp_is BD
   have H4 := (fun W => in_any PT 0 1000 W)
   obtain ⟨B1, hB1⟩ : ∃ x, outB RL 0 5 = x := ⟨_, rfl⟩
   obtain ⟨B2, hB2⟩ : ∃ x, outB M 0 3 = x := ⟨_, rfl⟩
   obtain ⟨Z3, hZ3⟩ : ∃ x, BD.data.toList.isEmpty = x := ⟨_, rfl⟩
   obtain ⟨K3, hK3⟩ : ∃ x, keyB BD.data.toList = x := ⟨_, rfl⟩
   obtain ⟨B4, hB4⟩ : ∃ x, outB PT 0 1000 = x := ⟨_, rfl⟩
   rw [hB1] at H1
   rw [hB2] at H2
   rw [hZ3] at H3e
   rw [hK3] at H3
   rw [hB4] at H4
   rw [hB1, hB2, hZ3, hK3, hB4] at hst
   have H1 := Lib.hid H1
   have H2 := Lib.hid H2
   have H3 := Lib.hid H3
   have H4 := Lib.hid H4
   have HST := Lib.hid hst
   have hB := Blk.new wr 116 #[.int .i64 RL, .int .i64 M, .string BD, .int .i64 PT]
   have hgA := World.grownBy_alloc wr (.cells #[.int .i64 RL, .int .i64 M, .string BD, .int .i64 PT] 116) none
   clear hst HN hB1 hB2 hZ3 hK3 hB4
   go_upto_region 9 with fail
   generalize wr.alloc (.cells #[.int .i64 RL, .int .i64 M, .string BD, .int .i64 PT] 116) = w0 at *
   generalize wr.heap.size = gE at *
   clear q0 q1 q2 q3
   have k0 := hB.cell 0
   have k1 := hB.cell 1
   have k2 := hB.cell 2
   have k3 := hB.cell 3
   simp only [List.getElem?_toArray, List.getElem?_cons_zero, List.getElem?_cons_succ] at k0 k1 k2 k3
   go_wp2_with fail
   refine (H1.out _).mono ?_
   rintro _ _ ⟨rfl, rfl⟩
   cases B1
   rotate_left
   ·have HR : Hid (RE = 4) := by show _ = _; have h := HST.out; simpa [rulEB] using h
    go_wp2_with fail
    go_ret
    exact ⟨ret_of (by rw [HOR2.out, HR.out]; simp [orL]), gr_trans hg hgA⟩
   go_wp2_with fail
   refine (H2.out _).mono ?_
   rintro _ _ ⟨rfl, rfl⟩
   cases B2
   rotate_left
   ·have HR : Hid (RE = 4) := by show _ = _; have h := HST.out; simpa [rulEB] using h
    go_wp2_with fail
    go_ret
    exact ⟨ret_of (by rw [HOR2.out, HR.out]; simp [orL]), gr_trans hg hgA⟩
   cases Z3
   ·skip
    go_wp2_with fail
    refine (H3.out _).mono ?_
    rintro _ v3 ⟨rfl, hgv3⟩
    have hBv3 := hB.grown hgv3 (by simp)
    have hGv3 := gr_trans hgA hgv3
    clear k0 k1 k2 k3
    have k0 := hBv3.cell 0
    have k1 := hBv3.cell 1
    have k2 := hBv3.cell 2
    have k3 := hBv3.cell 3
    simp only [List.getElem?_toArray, List.getElem?_cons_zero, List.getElem?_cons_succ] at k0 k1 k2 k3
    cases K3
    ·have HR : Hid (RE = 5) := by show _ = _; have h := HST.out; simpa [rulEB] using h
     go_wp2_with fail
     go_ret
     exact ⟨ret_of (by rw [HOR2.out, HR.out]; simp [orL]), gr_trans hg hGv3⟩
    ·skip
     go_wp2_with fail
     refine (H4.out _).mono ?_
     rintro _ _ ⟨rfl, rfl⟩
     cases B4
     rotate_left
     ·have HR : Hid (RE = 1) := by show _ = _; have h := HST.out; simpa [rulEB] using h
      go_wp2_with fail
      go_ret
      exact ⟨ret_of (by rw [HOR2.out, HR.out]; simp [orL]), gr_trans hg hGv3⟩
     have HR : Hid (RE = scanE rulE1 (R.drop (k + 1))) := by show _ = _; have h := HST.out; simpa [rulEB] using h
     go_wp2_with fail
     go_roundw
     case rel => exact ⟨k + 1, by omega, by go_num, HR, hBC.grown hGv3 (by simp), gr_trans hg hGv3⟩
     case measure => simp [intOf]; omega
   ·skip
    go_wp2_with fail
    refine (H4.out _).mono ?_
    rintro _ _ ⟨rfl, rfl⟩
    cases B4
    rotate_left
    ·have HR : Hid (RE = 1) := by show _ = _; have h := HST.out; simpa [rulEB] using h
     go_wp2_with fail
     go_ret
     exact ⟨ret_of (by rw [HOR2.out, HR.out]; simp [orL]), gr_trans hg hgA⟩
    have HR : Hid (RE = scanE rulE1 (R.drop (k + 1))) := by show _ = _; have h := HST.out; simpa [rulEB] using h
    go_wp2_with fail
    go_roundw
    case rel => exact ⟨k + 1, by omega, by go_num, HR, hBC.grown hgA (by simp), gr_trans hg hgA⟩
    case measure => simp [intOf]; omega
  ·have hki : ¬ (k : Int) < (R.length : Int) := by omega
   have HR0 : Hid (RE = 0) := by show _ = _; rw [HN.out, show k = R.length by omega, scanE_end]
   have HOR3 : Hid (E = mulsE L) := by show _ = _; rw [HOR2.out, HR0.out]; simp [orL]; exact fun h => h.symm
   have k6 := hBC.cell 6
   simp only [List.getElem?_toArray, List.getElem?_cons_zero, List.getElem?_cons_succ] at k6
   clear HOR2 HN
   by_cases hbig2 : 10 < L.length
   ·have HR : Hid (mulsE L = 2) := by show _ = _; unfold mulsE; rw [if_pos hbig2]
    have hb2 : (10 : Int) < (L.length : Int) := by omega
    go_wp2_with fail
    go_ret
    exact ⟨ret_of (by rw [HOR3.out, HR.out]), hg⟩
   have HE2 : Hid (mulsE L = mulsTo (L.take 0) (L.drop 0)) := by show _ = _; unfold mulsE; rw [if_neg hbig2]; rfl
   have hb2 : ¬ (10 : Int) < (L.length : Int) := by omega
   rw [← HOR3.out] at HE2
   go_wp2_with fail
   clear k6
   have hBC2 := hBC
   have hG2 := hg
   go_loopw [69] (fun iv wr => ∃ k : Nat, k ≤ L.length ∧ iv = .int .i64 k ∧ Hid (E = mulsTo (L.take k) (L.drop k)) ∧ Blk wr gC 33 #[ev, pv, .string own, .int .i64 b, .int .i64 z, .slice RA R.length rc, .slice MA L.length mc, .bool bm] ∧ w.grownBy wr none) (fun iv _ => L.length - (intOf iv).toNat)
   case atStart => exact ⟨0, by omega, rfl, HE2, hBC2, hG2⟩
   case round =>
    clear hBC hg hBC2 hG2 hki hlt hk
    obtain ⟨k, hk, rfl, HN, hBC, hg⟩ := hrel
    by_cases hlt : k < L.length
    ·have hki : (k : Int) < (L.length : Int) := by omega
     have hk0 : (0 : Int) ≤ (k : Int) := by omega
     have hkc : (k : Int) ≤ (mc : Int) := by have := HCAP.out; omega
     have hgb : gC < wr.heap.size := hBC.lt
     obtain ⟨g, rfl, hg0, hg1⟩ := HMA.out (by omega)
     obtain ⟨q0, q1, q2⟩ := (HMV.out.grown hg).at_ k hlt
     have hst := mulsTo_step L k hlt
     rw [← HN.out] at hst
     have hm1 : mulE1 (L.take k) L[k] = if outB L[k].what 1 5 then 4 else if (L.take k).any (mulEq L[k]) then 6 else 0 := rfl
     have HMAt : Hid (∀ W, wr.grownBy W none → MulsAt W g (L.take k)) := fun W hW j hj => by
      have hj' : j < L.length := by rw [List.length_take] at hj; omega
      rw [List.getElem_take]
      exact (HMV.out.grown (gr_trans hg hW)).at_ j hj'
     have HC : Hid (∀ W cc, wr.grownBy W none → Calls Tryz.prog 78 #[.slice (some ⟨g, 0, none⟩) k cc, .agg #[.int .i64 L[k].what, .bool L[k].byBand, .bool L[k].byMode]] W fun e w' => e = .returned (.bool ((L.take k).any (mulEq L[k]))) ∧ W.grownBy w' none) := fun W cc hW => containsM_any g k cc (L.take k) L[k].what L[k].byBand L[k].byMode W (by rw [List.length_take]; omega) (by omega) (HMAt.out W hW)
     generalize (L.take k).any (mulEq L[k]) = MB at *
     generalize L[k].what = x at *
     generalize L[k].byBand = y at *
     generalize L[k].byMode = z2 at *
     obtain ⟨B1, hB1⟩ : ∃ b, outB x 1 5 = b := ⟨_, rfl⟩
     have hO := fun W => in_any x 1 5 W
     rw [hB1] at hm1 hO
     have HO := Lib.hid hO
     rw [hm1] at hst
     have HST := Lib.hid hst
     have hB := Blk.new wr 51 #[.int .i64 x, .bool y, .bool z2]
     have hgA := World.grownBy_alloc wr (.cells #[.int .i64 x, .bool y, .bool z2] 51) none
     have hBC1 := hBC.grown hgA (by simp)
     clear hst hm1 hB1 hO HN HMAt hBC
     go_upto_region 21 with fail
     generalize wr.alloc (.cells #[.int .i64 x, .bool y, .bool z2] 51) = w5 at *
     generalize wr.heap.size = gE at *
     clear q0 q1 q2
     have k0 := hB.cell 0
     have k1 := hB.cell 1
     have k2 := hB.cell 2
     have c6 := hBC1.cell 6
     simp only [List.getElem?_toArray, List.getElem?_cons_zero, List.getElem?_cons_succ] at k0 k1 k2 c6
     go_wp2_with fail
     refine (HO.out _).mono ?_
     rintro _ _ ⟨rfl, rfl⟩
     cases B1
     rotate_left
     ·have HR : Hid (E = 4) := by show _ = _; have h := HST.out; simpa using h
      go_wp2_with fail
      go_ret
      exact ⟨ret_of HR.out.symm, gr_trans hg hgA⟩
     go_upto_region 23 with fail
     refine wp_region_held_drew (S := fun V => V.cell? ⟨gE, 0, none⟩ = some (.int .i64 x) ∧ V.cell? ⟨gE, 1, none⟩ = some (.bool y) ∧ V.cell? ⟨gE, 2, none⟩ = some (.bool z2) ∧ V.cell? ⟨gC, 6, none⟩ = some (.slice (some ⟨g, 0, none⟩) L.length mc)) (by kernel_rfl) ⟨k0, k1, k2, c6⟩ (fun hHeld => ?_)
     refine wpAnyH_take (i := 0) (v := ?_) rfl (by kernel_rfl) (by kernel_rfl) (by kernel_rfl) (fun _ _ _ h => h) (Or.inl ⟨by kernel_rfl, ?_⟩) hHeld ?_
     rotate_left
     ·intro w hSw
      (try dsimp only at hSw)
      obtain ⟨hS0, hS1, hS2, hS3⟩ := hSw
      go_simp
      (try with_reducible rfl)
     change wpAnyH _ _ _ _ _ _ _ (Act.put _ (some 80) _) _
     simp only [Act.put, ssA, ssZ, ssS]
     refine wpAnyH_take (i := 1) (v := ?_) rfl (by kernel_rfl) (by kernel_rfl) (by kernel_rfl) (fun _ _ _ h => h) (Or.inl ⟨by kernel_rfl, ?_⟩) hHeld ?_
     rotate_left
     ·intro w hSw
      (try dsimp only at hSw)
      obtain ⟨hS0, hS1, hS2, hS3⟩ := hSw
      go_simp
      (try with_reducible rfl)
     change wpAnyH _ _ _ _ _ _ _ (Act.put _ (some 81) _) _
     simp only [Act.put, ssA, ssZ, ssS]
     refine wpAnyH_take (i := 2) (v := ?_) rfl (by kernel_rfl) (by kernel_rfl) (by kernel_rfl) (fun _ _ _ h => h) (Or.inl ⟨by kernel_rfl, ?_⟩) hHeld ?_
     rotate_left
     ·intro w hSw
      (try dsimp only at hSw)
      obtain ⟨hS0, hS1, hS2, hS3⟩ := hSw
      go_simp
      (try with_reducible rfl)
     change wpAnyH _ _ _ _ _ _ _ (Act.put _ (some 82) _) _
     simp only [Act.put, ssA, ssZ, ssS]
     refine wpAnyH_take (i := 3) (v := ?_) rfl (by kernel_rfl) (by kernel_rfl) (by kernel_rfl) (fun _ _ _ h => h) (Or.inl ⟨by kernel_rfl, ?_⟩) hHeld ?_
     rotate_left
     ·intro w hSw
      (try dsimp only at hSw)
      obtain ⟨hS0, hS1, hS2, hS3⟩ := hSw
      go_simp
      (try with_reducible rfl)
     change wpAnyH _ _ _ _ _ _ _ (Act.put _ (some 83) _) _
     simp only [Act.put, ssA, ssZ, ssS]
     refine wpAnyH_take (i := 4) (v := ?_) rfl (by kernel_rfl) (by kernel_rfl) (by kernel_rfl) (fun _ _ _ h => h) (Or.inl ⟨by kernel_rfl, ?_⟩) hHeld ?_
     rotate_left
     ·intro w hSw
      (try dsimp only at hSw)
      obtain ⟨hS0, hS1, hS2, hS3⟩ := hSw
      go_simp
      (try with_reducible rfl)
     change wpAnyH _ _ _ _ _ _ _ (Act.put _ (some 84) _) _
     simp only [Act.put, ssA, ssZ, ssS]
     refine wpAnyH_ready (rs := [5]) (by kernel_rfl) (by simp) ?_
     refine AllReadyH.cons (o := _) rfl (fun K hK => ?_) AllReadyH.nil
     go_simp
     (go_at_call 78; refine (HC.out _ _ (gr_trans hgA (gr_drew (gr_refl _ _)))).mono ?_; rintro _ w6 ⟨rfl, hg6⟩; have hg56 : w5.grownBy w6 none := gr_trans (gr_drew (gr_refl w5 none)) hg6)
     refine hK.out _ _ ⟨hg56.cell k0 (by simp), hg56.cell k1 (by simp), hg56.cell k2 (by simp), hg56.cell c6 (by simp)⟩ (fun hHeld5 => ?_)
     clear hK K
     (try simp only [Act.put, ssA, ssZ, ssS])
     refine wpAnyH_take (i := 6) (v := ?_) rfl (by kernel_rfl) (by kernel_rfl) (by kernel_rfl) (fun _ _ _ h => h) (Or.inl ⟨by kernel_rfl, ?_⟩) hHeld5 ?_
     rotate_left
     ·intro w hSw
      (try dsimp only at hSw)
      obtain ⟨hS0, hS1, hS2, hS3⟩ := hSw
      go_simp
      (try with_reducible rfl)
     change wpAnyH _ _ _ _ _ _ _ (Act.put _ (some 79) _) _
     simp only [Act.put, ssA, ssZ, ssS]
     refine wpAnyH_done (by kernel_rfl) ?_ _
     have hgE := gr_trans (gr_trans hg hgA) hg56
     have hBC6 := hBC1.grown hg56 (by simp)
     cases MB
     rotate_left
     ·have HR : Hid (E = 6) := by show _ = _; have h := HST.out; simpa using h
      go_wp2_with fail
      go_ret
      exact ⟨ret_of HR.out.symm, hgE⟩
     have HR : Hid (E = mulsTo (L.take (k + 1)) (L.drop (k + 1))) := by show _ = _; have h := HST.out; simpa using h
     go_wp2_with fail
     go_roundw
     case rel => exact ⟨k + 1, by omega, by go_num, HR, hBC6, hgE⟩
     case measure => simp [intOf]; omega
    ·have hkl : ¬ (k : Int) < (L.length : Int) := by omega
     have HR : Hid (E = 0) := by show _ = _; rw [HN.out, show k = L.length by omega, mulsTo_end]
     go_wp2_with fail
     go_ret
     exact ⟨ret_of HR.out.symm, hg⟩
end Go.Proofs.YthlflljlkkkanaaGreatDoor

namespace Go.Proofs.YthlflljlkkkanaaGreatDoor
open Go.RowKit
set_option linter.unusedVariables false
set_option linter.unusedSimpArgs false

theorem outTo_len (a z : Int) (l : List Int) : ∀ k, (outTo a z l k).length ≤ k
 | 0 => Nat.le_refl _
 | k + 1 => by
   have := outTo_len a z l k
   unfold outTo
   split
   ·omega
   ·rw [List.length_append]; simp; omega
def OutPost (c : Cst) (x : List Con) (w : World) (r : Ending) (w' : World) : Prop :=
 ∃ u, r = .returned (.tuple #[u, .int .i64 (bothCE c x)]) ∧ IntsFrom w.heap.size w' u (if bothCE c x = 0 then outTo c.beg c.fin (x.map (·.tm)) x.length else []) ∧ w.grownBy w' none
set_option maxRecDepth 100000 in
set_option maxHeartbeats 8000000 in
theorem outside_c (base : Nat) (ev pv rv mv : Value) (c : Cst) (xv : Value) (x : List Con) (w : World) (h : CstFrom base w ev pv rv mv c) (hs : CstSm c) (hx : ConsFrom base w xv x) (hxs : ∀ y ∈ x, ConSm y) :
 Calls Tryz.prog 15 #[.agg #[ev, pv, .string c.own, .int .i64 c.beg, .int .i64 c.fin, rv, mv, .bool c.byMode], xv] w (OutPost c x w) := by
 obtain ⟨i0, hi0, hz0, hz1, hz2⟩ := info_parts intInfo
 obtain ⟨XA, xc, rfl, hxl, hXA⟩ := hx.shape
 have HXA := Lib.hid hXA
 have HX := Lib.hid hx
 have H1 : Hid (∀ W, w.grownBy W none → Calls Tryz.prog 83 #[.agg #[ev, pv, .string c.own, .int .i64 c.beg, .int .i64 c.fin, rv, mv, .bool c.byMode], .slice XA x.length xc] W fun r w' => r = .returned (.int .i64 (bothCE c x)) ∧ W.grownBy w' none) := fun W hW => bothFault_any base ev pv rv mv c _ x W (h.grown hW) hs (hx.grown hW) hxs
 have HP : Hid (∀ r w' u, r = .returned (.tuple #[u, .int .i64 (bothCE c x)]) → IntsFrom w.heap.size w' u (if bothCE c x = 0 then outTo c.beg c.fin (x.map (·.tm)) x.length else []) → w.grownBy w' none → OutPost c x w r w') := fun r w' u h1 h2 h3 => ⟨u, h1, h2, h3⟩
 have hlen2 : bothCE c x = 0 → x.length ≤ 2000 := fun h => by
  unfold bothCE at h
  split at h
  ·unfold consE at h
   split at h
   ·omega
   ·omega
  ·omega
 have HT : Hid (∀ k (hk : k < x.length), (x.map (·.tm)).getD k 0 = x[k].tm) := fun k hk => by simp [hk]
 generalize x.map (·.tm) = T at *
 generalize bothCE c x = E at *
 generalize OutPost c x w = P at *
 generalize c.own = own at *
 generalize c.beg = b at *
 generalize c.fin = z at *
 generalize c.byMode = bm at *
 have hB := Blk.new w 33 #[ev, pv, .string own, .int .i64 b, .int .i64 z, rv, mv, .bool bm]
 have hgA := World.grownBy_alloc w (.cells #[ev, pv, .string own, .int .i64 b, .int .i64 z, rv, mv, .bool bm] 33) none
 clear h hs hx hxs hXA
 go_enter Tryz.func15, Tryz.ntmps15
 go_upto_region 1 with fail
 have hwC : w.heap.size < (w.alloc (.cells #[ev, pv, .string own, .int .i64 b, .int .i64 z, rv, mv, .bool bm] 33)).heap.size := by simp
 generalize w.alloc (.cells #[ev, pv, .string own, .int .i64 b, .int .i64 z, rv, mv, .bool bm] 33) = w0 at *
 obtain ⟨gC, hgC⟩ : ∃ g, w.heap.size = g := ⟨_, rfl⟩
 rw [hgC] at hB HP hwC ⊢
 have HGC := Lib.hid hgC
 clear hgC
 have k0 := hB.cell 0
 have k1 := hB.cell 1
 have k2 := hB.cell 2
 have k3 := hB.cell 3
 have k4 := hB.cell 4
 have k5 := hB.cell 5
 have k6 := hB.cell 6
 have k7 := hB.cell 7
 simp only [List.getElem?_toArray, List.getElem?_cons_zero, List.getElem?_cons_succ] at k0 k1 k2 k3 k4 k5 k6 k7
 go_wp2_with fail
 refine (H1.out _ hgA).mono ?_
 rintro _ w1 ⟨rfl, hg1⟩
 have hG1 := gr_trans hgA hg1
 have hB1 := hB.grown hg1 (by simp)
 clear k0 k1 k2 k3 k4 k5 k6 k7 hB
 by_cases e1 : E = 0
 rotate_left
 ·have HP2 := Lib.hid (HP.out _ w1 (.slice none 0 0) rfl (by rw [if_neg e1]; exact IntsFrom.nil _ _) hG1)
  have e1b : (E == 0) = false := by rw [beq_eq_false_iff_ne]; exact e1
  have e1n : (E != 0) = true := by rw [bne, e1b]; rfl
  clear HP
  go_wp2_with fail
  exact HP2.out
 have hxl2 := hlen2 e1
 have HP2 : Hid (∀ u w', IntsFrom gC w' u (outTo b z T x.length) → w.grownBy w' none → P (.returned (.tuple #[u, .int .i64 0])) w') := fun u w' h1 h2 => by
  have := HP.out (.returned (.tuple #[u, .int .i64 E])) w' u rfl (by rw [if_pos e1]; exact h1) h2
  rwa [e1] at this
 subst e1
 clear HP H1 hlen2
 go_wp2_with fail
 go_loopw [7, 18] (fun ov kv wr => ∃ k : Nat, k ≤ x.length ∧ kv = .int .i64 k ∧ IntsFrom (gC + 1) wr ov (outTo b z T k) ∧ Blk wr gC 33 #[ev, pv, .string own, .int .i64 b, .int .i64 z, rv, mv, .bool bm] ∧ w.grownBy wr none) (fun _ kv _ => x.length - (intOf kv).toNat)
 case atStart => exact ⟨0, by omega, rfl, IntsFrom.nil _ _, hB1, hG1⟩
 case round =>
  obtain ⟨k, hk, rfl, hown, hBr, hg⟩ := hrel
  clear hB1 hG1
  obtain ⟨A2, c2, rfl, _, hA2⟩ := hown.shape
  obtain ⟨LO, hLO⟩ : ∃ LO, (outTo b z T k).length = LO := ⟨_, rfl⟩
  have hLOb : LO ≤ k := by rw [← hLO]; exact outTo_len b z T k
  by_cases hlt : k < x.length
  ·have hki : (k : Int) < (x.length : Int) := by omega
   obtain ⟨g, rfl, hg0, hg1⟩ := HXA.out (by omega)
   obtain ⟨q0, q1, q2, q3, q4, q5, q6, q7⟩ := (HX.out.grown hg).at_ k hlt
   have hst : outTo b z T (k + 1) = if hasB b z x[k].tm then outTo b z T k else outTo b z T k ++ [(k : Int)] := by
    rw [← HT.out k hlt]; rfl
   generalize x[k].tm = Tm at *
   generalize x[k].mode = Mo at *
   generalize x[k].band = BD at *
   generalize x[k].call = CL at *
   generalize x[k].sent = SE at *
   generalize x[k].heard = HE at *
   generalize x[k].gave = GA at *
   generalize x[k].got = GO at *
   have hH := fun W => has_any b z Tm W
   generalize hasB b z Tm = HB at *
   have HH := Lib.hid hH
   have HST := Lib.hid hst
   rw [hLO] at hown
   (try rw [hLO])
   have HLO := Lib.hid hLO
   have HOWN := Lib.hid hown
   have hX := Blk.new wr 43 #[.int .i64 Tm, .int .i64 Mo, .string BD, .string CL, .int .i64 SE, .int .i64 HE, .string GA, .string GO]
   have hgX := World.grownBy_alloc wr (.cells #[.int .i64 Tm, .int .i64 Mo, .string BD, .string CL, .int .i64 SE, .int .i64 HE, .string GA, .string GO] 43) none
   have hBX := hBr.grown hgX (by simp)
   have hgc : gC < wr.heap.size := hBr.lt
   clear hst hLO hA2 hown hH
   go_upto_region 8 with fail
   generalize wr.alloc (.cells #[.int .i64 Tm, .int .i64 Mo, .string BD, .string CL, .int .i64 SE, .int .i64 HE, .string GA, .string GO] 43) = w5 at *
   generalize wr.heap.size = gX at *
   clear q0 q1 q2 q3 q4 q5 q6 q7
   have x0 := hX.cell 0
   have c3 := hBX.cell 3
   have c4 := hBX.cell 4
   simp only [List.getElem?_toArray, List.getElem?_cons_zero, List.getElem?_cons_succ] at x0 c3 c4
   have hg5 := gr_trans hg hgX
   go_wp2_with fail
   refine (HH.out _).mono ?_
   rintro _ w6 ⟨rfl, hg6⟩
   have hg6' := gr_trans hg5 hg6
   have hown6 := Lib.hid (HOWN.out.grown (gr_trans hgX hg6))
   have hBC6 := hBX.grown hg6 (by simp)
   clear x0 c3 c4
   cases HB
   ·have HS : Hid (outTo b z T (k + 1) = outTo b z T k ++ [(k : Int)]) := HST.out
    have hownR : w6.ownsRow (gC + 1) 3 1 (.slice A2 LO c2) LO ((outTo b z T k).map (Value.int .i64)) := by
     have h := hown6.out
     unfold IntsFrom at h
     rw [HLO.out] at h
     exact h
    have HOR := Lib.hid hownR
    have hwg := hBC6.lt
    clear hownR
    go_wp2_with (at_builtin; refine wpList_append_own _ rfl _ _ 22 rfl (gC + 1) 3 i0 _ 1 8 Tryz.underlying22 hi0 hz0 hz1 hz2 rfl (by decide) _ LO _ rfl (World.ownsRow.alloc HOR.out _) ⟨_, 0, none⟩ 1 1 [.int .i64 k] rfl rfl (one_cell _ (k : Int) _) (one_oneCell (k : Int)) (by unfold maxLen; omega) (by omega) (by simp; omega) ?_; intro v' w7 hownB hgrB _)
    have hown7 : IntsFrom (gC + 1) w7 v' (outTo b z T (k + 1)) := by
     rw [HS.out]
     unfold IntsFrom
     rw [List.map_append, List.length_append, HLO.out]
     simpa using hownB
    have hG7 : w.grownBy w7 none := gr_grown (gr_alloc hg6' _) hgrB (fun g e => .inr (by have := (HOR.out.lt g e).1; have := HGC.out; omega))
    have hBC7 := (hBC6.alloc (.cells #[.int .i64 k] 3)).grown hgrB (fun e => by have := (HOR.out.lt _ e.symm).1; omega)
    go_wp2_with fail
    go_roundw
    case rel => exact ⟨k + 1, by omega, by go_num, hown7, hBC7, hG7⟩
    case measure => simp [intOf]; omega
   ·have HS : Hid (outTo b z T (k + 1) = outTo b z T k) := HST.out
    go_wp2_with fail
    go_roundw
    case rel => exact ⟨k + 1, by omega, by go_num, by rw [HS.out]; exact hown6.out, hBC6, hg6'⟩
    case measure => simp [intOf]; omega
  ·have hki : ¬ (k : Int) < (x.length : Int) := by omega
   obtain rfl : k = x.length := by omega
   have HR := Lib.hid (HP2.out _ wr (ownsRow_low hown (show gC ≤ gC + 1 by omega)) hg)
   rw [hLO] at HR
   go_wp2_with fail
   exact HR.out
end Go.Proofs.YthlflljlkkkanaaGreatDoor

namespace Go.Proofs.YthlflljlkkkanaaGreatDoor
open Go.RowKit
set_option linter.unusedVariables false
set_option linter.unusedSimpArgs false

set_option maxRecDepth 100000 in
set_option maxHeartbeats 2000000 in
theorem indexI_any (base : Nat) (v : Value) (l : List Int) (t : Int) (w : World) (hl : IntsFrom base w v l) :
 Calls Tryz.prog 85 #[v, .int .i64 t] w fun e w' => ∃ i : Int, e = .returned (.int .i64 i) ∧ decide (0 ≤ i) = l.contains t ∧ w.grownBy w' none := by
 obtain ⟨A, c, rfl, hlen, hA⟩ := IntsFrom.shape hl
 have HL := Lib.hid hl
 have HA := Lib.hid hA
 clear hl hA
 go_enter Tryz.func85, Tryz.ntmps85
 go_wp2_with fail
 go_loopw [8] (fun i wr => ∃ k : Nat, k ≤ l.length ∧ i = .int .i64 k ∧ Hid (∀ x ∈ l.take k, x ≠ t) ∧ w.grownBy wr none) (fun i _ => l.length - (intOf i).toNat)
 case atStart => exact ⟨0, by omega, rfl, (fun x hx => by simp at hx), gr_refl _ _⟩
 case round =>
  obtain ⟨k, hk, rfl, HN, hgr⟩ := hrel
  by_cases hlt : k < l.length
  ·have hki : (k : Int) < (l.length : Int) := by omega
   obtain ⟨g, rfl, hg0, hg1⟩ := HA.out (by omega)
   have hat := IntsFrom.at_ (IntsFrom.grown HL.out hgr) k hlt
   have hmem : l[k] ∈ l := List.getElem_mem hlt
   have htk := List.take_succ_eq_append_getElem hlt
   generalize l[k] = x at *
   by_cases hx : t = x
   ·have hb : (t == x) = true := by simpa using hx
    have HC : Hid (decide ((0 : Int) ≤ (k : Int)) = l.contains t) := by
     show _ = _
     rw [hx, List.contains_iff_mem.2 hmem]
     simp
    clear hmem htk
    subst hx
    go_wp2_with fail
    go_ret
    exact ⟨k, rfl, HC.out, hgr⟩
   ·have hb : (t == x) = false := by rw [beq_eq_false_iff_ne]; exact hx
    have HN2 : Hid (∀ y ∈ l.take (k + 1), y ≠ t) := fun y hy => by
     rw [htk] at hy
     rcases List.mem_append.1 hy with h | h
     ·exact HN.out y h
     ·rw [List.mem_singleton.1 h]; exact fun e => hx e.symm
    clear hmem htk
    go_wp2_with fail
    go_roundw
    case rel => exact ⟨k + 1, by omega, by go_num, HN2, hgr⟩
    case measure => simp [intOf]; omega
  ·have hki : ¬ (k : Int) < (l.length : Int) := by omega
   have HC : Hid (decide ((0 : Int) ≤ -1) = l.contains t) := by
    show _ = _
    have h := HN.out
    rw [List.take_of_length_le (by omega)] at h
    rw [Bool.eq_iff_iff]
    simp
    exact fun hm => h t hm rfl
   go_wp2_with fail
   go_ret
   refine ⟨-1, rfl, ?_, hgr⟩
   first | exact HC.out | (have h := HC.out; rw [Bool.eq_iff_iff] at h; simpa using h)
set_option maxRecDepth 100000 in
set_option maxHeartbeats 2000000 in
theorem containsI_any (base : Nat) (v : Value) (l : List Int) (t : Int) (w : World) (hl : IntsFrom base w v l) :
 Calls Tryz.prog 16 #[v, .int .i64 t] w fun e w' => e = .returned (.bool (l.contains t)) ∧ w.grownBy w' none := by
 have HI := Lib.hid (indexI_any base v l t w hl)
 obtain ⟨A, c, rfl, hlen, hA⟩ := IntsFrom.shape hl
 clear hl hA
 go_enter Tryz.func16, Tryz.ntmps16
 go_wp2_with fail
 refine HI.out.mono ?_
 rintro _ w2 ⟨i, rfl, hi, hg⟩
 have HC := Lib.hid hi
 clear hi
 go_wp2_with fail
 go_ret
 exact ⟨by rw [← HC.out]; rfl, hg⟩
end Go.Proofs.YthlflljlkkkanaaGreatDoor

namespace Go.Proofs.YthlflljlkkkanaaGreatDoor
open Go.RowKit Go.Sort
set_option linter.unusedVariables false

def sortI (l : List Int) : List Int := l.mergeSort fun x y => decide (x ≤ y)
theorem sortI_len (l : List Int) : (sortI l).length = l.length := List.length_mergeSort l
theorem sortI_mem (l : List Int) (x : Int) : x ∈ sortI l ↔ x ∈ l := (List.mergeSort_perm l _).mem_iff
theorem sortI_sorted (l : List Int) : (sortI l).Pairwise (· ≤ ·) := by
 have h := List.pairwise_mergeSort (le := fun x y : Int => decide (x ≤ y)) (by intro a b c h1 h2; simp at *; omega) (by intro a b; simp; omega) l
 exact h.imp (by intro a b h; simpa using h)
theorem sort_own (base : Nat) (v : Value) (l : List Int) (w : World) (hl : IntsFrom base w v l) (hn : l.length ≤ 1000000000) :
 Calls Tryz.prog 17 #[v] w fun r w' => r = .returned (.tuple #[]) ∧ IntsFrom base w' v (sortI l) ∧ w.grownBy w' v.ownBlock := by
 have h0 := hl
 rcases hl.2 with ⟨rfl, h2⟩ | ⟨g, cap, cur, rfl, hb, hg, hnc, hm, hs, ht⟩
 ·refine (Tryz.slices_Sort_int_none _ _ _).mono ?_
  rintro r w' ⟨rfl, rfl⟩
  have hnil : l = [] := List.eq_nil_of_length_eq_zero h2
  subst hnil
  exact ⟨rfl, by unfold sortI; simp; exact IntsFrom.nil _ _, gr_refl _ _⟩
 ·have hlt : g < w.heap.size := (Array.getElem?_eq_some_iff.1 hg).1
  have hH := holds_of_blockI (ss := l) hg (by rw [Nat.mul_one] at ht; exact ht)
  refine (Tryz.slices_Sort_int g 0 cap l w hH hlt (by omega)).mono ?_
  rintro r w' ⟨rfl, n, os, rfl⟩
  refine ⟨rfl, ?_, grownBy_sortedI _⟩
  have := ownsRow_sortedI (n := n) (os := os) (ss := l) (ts := sortI l) (sortI_len l) hb hg hnc hm hs
  unfold IntsFrom
  rw [sortI_len]
  exact this
end Go.Proofs.YthlflljlkkkanaaGreatDoor

namespace Go.Proofs.YthlflljlkkkanaaGreatDoor
set_option linter.unusedVariables false

def cosB (x : Int) : Int := (419904000000 - 4 * x * x) * 1000000 / (419904000000 + x * x)
/-- The cosine of an angle that is from 0 to a whole circle less 1. -/
def cosC (y : Int) : Int :=
 if 648000 < y then (if 324000 < 1296000 - y then -cosB (648000 - (1296000 - y)) else cosB (1296000 - y))
 else (if 324000 < y then -cosB (648000 - y) else cosB y)
def cosI (a : Int) : Int := cosC (a % 1296000)
theorem sq_bd (x : Int) (h0 : 0 ≤ x) (h1 : x ≤ 324000) : 0 ≤ x * x ∧ x * x ≤ 104976000000 ∧ 4 * x * x = 4 * (x * x) := by
 refine ⟨Int.mul_nonneg h0 h0, ?_, by rw [Int.mul_assoc]⟩
 have := Int.mul_le_mul h1 h1 h0 (by omega)
 omega
theorem cosB_bd (x : Int) (h0 : 0 ≤ x) (h1 : x ≤ 324000) : 0 ≤ cosB x ∧ cosB x ≤ 1000000 := by
 obtain ⟨a, b, c⟩ := sq_bd x h0 h1
 unfold cosB
 rw [c]
 refine ⟨Int.ediv_nonneg (by omega) (by omega), ?_⟩
 refine Int.le_of_lt_add_one (Int.ediv_lt_of_lt_mul (by omega) ?_)
 omega
theorem tmod_circle (a : Int) : (a.tmod 1296000 + 1296000) % 1296000 = a % 1296000 := by
 have := Int.tmod_add_mul_tdiv a 1296000
 have h1 := tmod_lo a 1296000 (by omega)
 omega
end Go.Proofs.YthlflljlkkkanaaGreatDoor

namespace Go.Proofs.YthlflljlkkkanaaGreatDoor
set_option linter.unusedVariables false
open Go.RowKit

set_option maxHeartbeats 400000 in
theorem cosine_base (x : Int) (w : World) (h0 : 0 ≤ x) (h1 : x ≤ 324000) :
 Calls Tryz.prog 173 #[.int .i64 x] w fun e w' => e = .returned (.int .i64 (cosB x)) ∧ w = w' := by
 obtain ⟨a, b, c⟩ := sq_bd x h0 h1
 have a' : 0 ≤ 4 * x * x := by omega
 have b' : 4 * x * x ≤ 419904000000 := by omega
 have e1 : (x % 1296000 + 1296000) % 1296000 = x := by omega
 clear c
 go_enter Tryz.func173, Tryz.ntmps173
 go_wp2_with fail
 go_ret
 exact ⟨rfl, rfl⟩
set_option maxHeartbeats 1000000 in
theorem cosine_any (x : Int) (w : World) (h0 : -1000000000000000 ≤ x) (h1 : x ≤ 1000000000000000) :
 Calls Tryz.prog 173 #[.int .i64 x] w fun e w' => e = .returned (.int .i64 (cosI x)) ∧ w = w' := by
 have ht := tmod_lo x 1296000 (by omega)
 obtain ⟨t1, t2⟩ := ht
 have hc := tmod_circle x
 have hfin : cosI x = cosC (x % 1296000) := rfl
 obtain ⟨y, hy⟩ : ∃ y, y = x % 1296000 := ⟨_, rfl⟩
 have y0 : 0 ≤ y := by omega
 have y1 : y < 1296000 := by omega
 rw [← hy] at hc hfin
 have hc2 : 0 ≤ x → (x % 1296000 + 1296000) % 1296000 = y := fun _ => by omega
 have HF := Lib.hid hfin
 clear hfin hy
 by_cases hx : 0 ≤ x
 all_goals first | (have hc3 := hc2 hx; clear hc hc2) | clear hc2
 all_goals
  by_cases g1 : 648000 < y
  ·obtain ⟨z, hz⟩ : ∃ z, 1296000 - y = z := ⟨_, rfl⟩
   have z0 : 0 ≤ z := by omega
   have z1 : z < 648000 := by omega
   by_cases g2 : 324000 < z
   ·have HE := Lib.hid (show cosC y = -cosB (648000 - z) by unfold cosC; rw [if_pos g1, hz, if_pos g2])
    have hbd := cosB_bd (648000 - z) (by omega) (by omega)
    obtain ⟨d1, d2⟩ := hbd
    go_enter Tryz.func173, Tryz.ntmps173
    go_wp2_with (go_at_call 173; refine (cosine_base _ _ (by omega) (by omega)).mono ?_; rintro e w' ⟨rfl, rfl⟩)
    go_ret
    exact ⟨ret_of (by rw [HF.out, HE.out]), rfl⟩
   ·have HE := Lib.hid (show cosC y = cosB z by unfold cosC; rw [if_pos g1, hz, if_neg g2])
    obtain ⟨a, b, c⟩ := sq_bd z z0 (by omega)
    have a' : 0 ≤ 4 * z * z := by omega
    have b' : 4 * z * z ≤ 419904000000 := by omega
    clear c
    go_enter Tryz.func173, Tryz.ntmps173
    go_wp2_with fail
    go_ret
    exact ⟨ret_of (by rw [HF.out, HE.out]; rfl), rfl⟩
  ·by_cases g2 : 324000 < y
   ·have HE := Lib.hid (show cosC y = -cosB (648000 - y) by unfold cosC; rw [if_neg g1, if_pos g2])
    have hbd := cosB_bd (648000 - y) (by omega) (by omega)
    obtain ⟨d1, d2⟩ := hbd
    go_enter Tryz.func173, Tryz.ntmps173
    go_wp2_with (go_at_call 173; refine (cosine_base _ _ (by omega) (by omega)).mono ?_; rintro e w' ⟨rfl, rfl⟩)
    go_ret
    exact ⟨ret_of (by rw [HF.out, HE.out]), rfl⟩
   ·have HE := Lib.hid (show cosC y = cosB y by unfold cosC; rw [if_neg g1, if_neg g2])
    obtain ⟨a, b, c⟩ := sq_bd y y0 (by omega)
    have a' : 0 ≤ 4 * y * y := by omega
    have b' : 4 * y * y ≤ 419904000000 := by omega
    clear c
    go_enter Tryz.func173, Tryz.ntmps173
    go_wp2_with fail
    go_ret
    exact ⟨ret_of (by rw [HF.out, HE.out]; rfl), rfl⟩
end Go.Proofs.YthlflljlkkkanaaGreatDoor

namespace Go.Proofs.YthlflljlkkkanaaGreatDoor
set_option linter.unusedVariables false

end Go.Proofs.YthlflljlkkkanaaGreatDoor

namespace Go.Proofs.YthlflljlkkkanaaGreatDoor
open Go.RowKit
set_option linter.unusedVariables false

theorem i64_in (n : Int) (h : -9223372036854775808 ≤ n ∧ n ≤ 9223372036854775807) : IntKind.i64.wrap n = n := IntWalk.i64_in n h
end Go.Proofs.YthlflljlkkkanaaGreatDoor

namespace Go.Proofs.YthlflljlkkkanaaGreatDoor
open Go.RowKit
set_option linter.unusedVariables false

end Go.Proofs.YthlflljlkkkanaaGreatDoor

namespace Go.Proofs.YthlflljlkkkanaaGreatDoor
open Go.RowKit
set_option linter.unusedVariables false

set_option maxHeartbeats 400000 in
theorem cosineE_any (x : Int) (w : World) :
 Calls Tryz.prog 80 #[.int .i64 x] w fun r w' =>
  r = .returned (.tuple #[.int .i64 (okI (spanE x (-1296000000) 1296000000) (cosI x)), .int .i64 (spanE x (-1296000000) 1296000000)]) ∧ w = w' := by
 rcases spanE_cases x (-1296000000) 1296000000 with ⟨he, h1, h2⟩ | ⟨he, h1⟩
 ·have HE := Lib.hid he
  have hb : outB x (-1296000000) 1296000000 = false := outB_no h1 h2
  clear he
  go_enter Tryz.func80, Tryz.ntmps80
  go_wp2_with (first | (go_at_call 113; refine (outside_any _ _ _ _).mono ?_; rintro r w' ⟨rfl, rfl⟩) | (go_at_call 173; refine (cosine_any _ _ (by omega) (by omega)).mono ?_; rintro r w' ⟨rfl, rfl⟩))
  go_ret2
  exact ⟨ret_2i (by unfold okI; rw [HE.out]; rfl) HE.out.symm, rfl⟩
 ·have HE := Lib.hid he
  have hb : outB x (-1296000000) 1296000000 = true := outB_yes h1
  clear he
  go_enter Tryz.func80, Tryz.ntmps80
  go_wp2_with (first | (go_at_call 113; refine (outside_any _ _ _ _).mono ?_; rintro r w' ⟨rfl, rfl⟩))
  go_ret2
  exact ⟨ret_2i (by unfold okI; rw [HE.out]; rfl) HE.out.symm, rfl⟩
theorem cos60 : cosI 216000 = 500000 := by decide +kernel
end Go.Proofs.YthlflljlkkkanaaGreatDoor

namespace Go.Proofs.YthlflljlkkkanaaGreatDoor
open Go.RowKit
set_option linter.unusedVariables false

theorem apart_ready (w : World) : Calls Tryz.prog 79 #[.string ⟨#[111, 104, 50, 97, 98, 99, 47, 52]⟩] w fun e w' =>
 e = .returned (.tuple #[.agg #[.string ⟨#[111, 104, 50, 97, 98, 99]⟩, .string ⟨#[111, 104, 50]⟩, .string ⟨#[97, 98, 99]⟩, .int .i64 2, .string ⟨#[52]⟩], .int .i64 0]) ∧ w.grownBy w' none := by
 refine (apart_any _ w (by decide) ?_).mono ?_
 ·intro j b h
  have hm := List.mem_of_getElem? h
  have hall : ∀ b ∈ (⟨#[111, 104, 50, 97, 98, 99, 47, 52]⟩ : ByteArray).data.toList, b.toNat < 128 := by decide +kernel
  exact hall b hm
 ·rintro e w' ⟨hg, h⟩
  refine ⟨?_, hg⟩
  rcases h with ⟨h, _⟩ | ⟨t, k, kd, ad, h, rfl⟩
  ·rw [partsOf_ready] at h; cases h
  ·rw [partsOf_ready] at h
   simp only [Option.some.injEq, Prod.mk.injEq] at h
   obtain ⟨rfl, rfl, rfl, rfl⟩ := h
   rfl
theorem units_ready (b : Nat) (w : World) (hgl : Gl b w) : Calls Tryz.prog 81 #[.string ⟨#[112, 97, 114, 105, 115]⟩] w fun e w' =>
 e = .returned (.tuple #[.int .i64 43, .int .i64 0]) ∧ w.grownBy w' none := by
 have h := units_any b parisS w hgl (by decide)
 rw [paris_ok, paris_units] at h
 exact h
theorem cosine_ready (w : World) : Calls Tryz.prog 80 #[.int .i64 216000] w fun e w' =>
 e = .returned (.tuple #[.int .i64 500000, .int .i64 0]) ∧ w = w' := by
 have h1 : spanE 216000 (-1296000000) 1296000000 = 0 := spanE_no (by omega) (by omega)
 have h := cosineE_any 216000 w
 rw [h1, cos60] at h
 exact h
theorem best_ready (w : World) : Calls Tryz.prog 82 #[.slice (some ⟨w.heap.size, 0, none⟩) 3 3, .agg #[.int .i64 0, .int .i64 3600000], .int .i64 900000] (w.alloc (.cells #[.int .i64 0, .int .i64 600000, .int .i64 1200000] 3)) fun e w' =>
 e = .returned (.tuple #[.int .i64 0, .int .i64 2, .int .i64 0]) ∧ w.grownBy w' none := by
 have hb := Blk.new w 3 (([0, 600000, 1200000] : List Int).map (Value.int .i64)).toArray
 have hl : IntsFrom 0 _ _ [0, 600000, 1200000] := blk_ints hb (Nat.zero_le _) (by decide)
 have e1 : timesE [0, 600000, 1200000] 0 3600000 = 0 := by decide
 have e2 : longE 900000 = 0 := by decide
 have e3 : bestI [0, 600000, 1200000] 0 900000 = (0, 2) := by decide
 have H := (best_ok 0 _ _ 0 3600000 900000 _ hl e1 e2)
 rw [e3] at H
 exact H.mono fun e w' ⟨he, hg⟩ => ⟨he, gr_trans (World.grownBy_alloc w _ none) hg⟩
end Go.Proofs.YthlflljlkkkanaaGreatDoor

namespace Go.Proofs.YthlflljlkkkanaaGreatDoor
open Go.RowKit
set_option linter.unusedVariables false

set_option maxRecDepth 100000 in
set_option maxHeartbeats 2000000 in
theorem facts_any (b : Nat) (w : World) (hgl : Gl b w) : Calls Tryz.prog 14 #[] w fun r w' => r = .returned (.bool true) ∧ w.grownBy w' none := by
 have HGL := Lib.hid hgl
 clear hgl
 go_enter Tryz.func14, Tryz.ntmps14
 go_wp2_with fail
 refine (apart_ready _).mono ?_
 rintro _ w1 ⟨rfl, hg1⟩
 go_wp2_with fail
 have hB := Blk.new w1 123 #[.string ⟨#[111, 104, 50, 97, 98, 99]⟩, .string ⟨#[111, 104, 50]⟩, .string ⟨#[97, 98, 99]⟩, .int .i64 2, .string ⟨#[52]⟩]
 have hG := gr_alloc hg1 (.cells #[.string ⟨#[111, 104, 50, 97, 98, 99]⟩, .string ⟨#[111, 104, 50]⟩, .string ⟨#[97, 98, 99]⟩, .int .i64 2, .string ⟨#[52]⟩] 123)
 clear hg1
 generalize w1.alloc (.cells #[.string ⟨#[111, 104, 50, 97, 98, 99]⟩, .string ⟨#[111, 104, 50]⟩, .string ⟨#[97, 98, 99]⟩, .int .i64 2, .string ⟨#[52]⟩] 123) = W at *
 refine (cosine_ready _).mono ?_
 rintro _ _ ⟨rfl, rfl⟩
 go_wp2_with fail
 refine (units_ready b _ (HGL.out.quiet hG)).mono ?_
 rintro _ w2 ⟨rfl, hg⟩
 replace hB := hB.grown hg (by simp)
 replace hG := gr_trans hG hg
 clear hg
 go_wp2_with fail
 refine (best_ready _).mono ?_
 rintro _ w3 ⟨rfl, hg⟩
 replace hB := hB.grown hg (by simp)
 replace hG := gr_trans hG hg
 have c1 : w3.cell? ⟨w1.heap.size, 1, none⟩ = some (.string ⟨#[111, 104, 50]⟩) := hB.cell 1
 clear hg
 go_wp2_with fail
 go_ret
 exact ⟨rfl, hG⟩
end Go.Proofs.YthlflljlkkkanaaGreatDoor

namespace Go.Proofs.YthlflljlkkkanaaGreatDoor
open Go.RowKit
set_option linter.unusedVariables false
set_option linter.unusedSimpArgs false

theorem insTo_step (a z : Int) (T : List Int) (k : Nat) : insTo a z T (k + 1) = if hasB a z (T.getD k 0) then insTo a z T k ++ [T.getD k 0] else insTo a z T k := rfl
theorem insTo_len (a z : Int) (T : List Int) : ∀ k, (insTo a z T k).length ≤ k := fun k => by have := ins_out a z T k; omega
theorem hourL_0 (l : List Int) (z : Int) : ∀ n f, ∀ x ∈ hourL l z n f, 0 ≤ x
 | 0, _, x, h => by cases h
 | n + 1, f, x, h => by
   rcases List.mem_cons.1 h with rfl | h
   ·unfold manyI; omega
   ·exact hourL_0 l z n _ x h
theorem sum_nn {l : List Int} (h : ∀ x ∈ l, 0 ≤ x) : 0 ≤ l.sum := by
 induction l with
 | nil => simp
 | cons a r ih =>
   have h1 := h a (List.mem_cons_self ..)
   have h2 := ih fun x hx => h x (List.mem_cons_of_mem _ hx)
   rw [List.sum_cons]; omega
theorem sum_part {l : List Int} (h : ∀ x ∈ l, 0 ≤ x) (k : Nat) : 0 ≤ (l.take k).sum ∧ (l.take k).sum ≤ l.sum := by
 have e : l.sum = (l.take k).sum + (l.drop k).sum := by rw [← List.sum_append, List.take_append_drop]
 have h1 := sum_nn (l := l.take k) fun x hx => h x (List.mem_of_mem_take hx)
 have h2 := sum_nn (l := l.drop k) fun x hx => h x (List.mem_of_mem_drop hx)
 omega
theorem sum_take {l : List Int} (k : Nat) (h : k < l.length) : (l.take (k + 1)).sum = (l.take k).sum + l[k] := by
 rw [List.take_succ_eq_append_getElem h, List.sum_append]
 simp
set_option maxRecDepth 100000 in
set_option maxHeartbeats 32000000 in
theorem topTimesLaw (A : Option Addr) (n c : Nat) (w : World) (hin : InX w A n) (hgl : Gl w.heap.size w) :
 Calls Tryz.prog 3 #[.slice A n c] w fun r w' => r = .returned (.bool true) ∧ Below w.heap.size w w' := by
 obtain ⟨i0, hi0, hz0, hz1, hz2⟩ := info_parts intInfo
 obtain ⟨hn, L, hL, hcell⟩ := hin
 have hG0 := World.grownBy_alloc w (.cells #[.slice A n c, .int .i64 0] 25) none
 have sA := SX.start hn hL hcell hG0 (Blk.new w _ _) (Nat.le_refl _)
 have HGL := Lib.hid hgl
 clear hn hL hcell hgl
 go_enter Tryz.func3, Tryz.ntmps3
 go_wp2_with fail
 generalize w.alloc (.cells #[.slice A n c, .int .i64 0] 25) = W0 at *
 obtain ⟨b, hb⟩ : ∃ b, w.heap.size = b := ⟨_, rfl⟩
 rw [hb] at sA HGL ⊢
 have HB := Lib.hid hb
 obtain ⟨B1, hB1⟩ : ∃ B1, W0.heap.size = B1 := ⟨_, rfl⟩
 have hbB : b < B1 := by rw [← hB1]; exact sA.lt
 have HBB := Lib.hid hbB
 have HRC := Lib.hid (rightContest_e b b L 0 W0 sA (by decide))
 unfold RConPost at HRC
 rw [hB1] at HRC
 have HBS := Lib.hid hB1
 clear hb hB1 sA hbB
 refine HRC.out.mono ?_
 rintro _ w1 ⟨u, v, rv, mv, C, k1, HR, rfl, hC, hCs, hbeg, hfin, hown, hl6, hp24, hr4, hm5, hk0, hk1, sA1, hg1⟩
 have hG1 : w.grownBy w1 none := gr_grown hG0 hg1 (fun g e => by injection e with e; exact .inr (by have := HB.out; omega))
 have HSZ1 : Hid (B1 ≤ w1.heap.size) := by show _ ≤ _; rw [← HBS.out]; exact hg1.size
 have hs1 := sA1.str
 have HCS := Lib.hid hCs
 clear hG0 hg1 HR HRC sA1 hCs hl6 hp24 hr4 hm5 hown
 go_wp2_with fail
 refine (rightWorked_in b k1 12 (by decide) w1 hs1 (by omega)).mono ?_
 rintro _ w2 ⟨xv, x, rfl, hx, hxl, hxs, hx0, hs2, hg2⟩
 have hC2 : CstFrom B1 w2 u v rv mv C := ⟨EntsFrom.other hC.ents hg2 HBB.out, PfxsFrom.other hC.pfxs hg2 HBB.out, RulsFrom.other hC.ruls hg2 HBB.out, MulsFrom.other hC.muls hg2 HBB.out⟩
 have hG2 : w.grownBy w2 none := gr_grown hG1 hg2 (fun g e => by injection e with e; exact .inr (by have := HB.out; omega))
 obtain ⟨B2, hB2⟩ : ∃ x, w1.heap.size = x := ⟨_, rfl⟩
 rw [hB2] at hx
 have hsz2 : B2 ≤ w2.heap.size := by rw [← hB2]; exact hg2.size
 have HSZ : Hid (B1 ≤ B2) := by show _ ≤ _; rw [← hB2]; exact HSZ1.out
 clear hG1 hg2 hC hs1 hs2 hB2
 obtain ⟨XA, xc, rfl, hxn, hXA⟩ := hx.shape
 obtain ⟨UA, uc, rfl, _, _⟩ := hC2.ents.shape
 obtain ⟨VA, vc, rfl, _, _⟩ := hC2.pfxs.shape
 obtain ⟨RA, rc, rfl, _, _⟩ := hC2.ruls.shape
 obtain ⟨MA, mc, rfl, _, _⟩ := hC2.muls.shape
 have HFA : Hid (∀ W, w.grownBy W none → Calls Tryz.prog 14 #[] W fun r w' => r = .returned (.bool true) ∧ W.grownBy w' none) := fun W hW => facts_any b W (HGL.out.quiet hW)
 have HCF : Hid (∀ W, w2.grownBy W none → Calls Tryz.prog 13 #[.agg #[.slice UA C.ents.length uc, .slice VA C.pfxs.length vc, .string C.own, .int .i64 C.beg, .int .i64 C.fin, .slice RA C.ruls.length rc, .slice MA C.muls.length mc, .bool C.byMode]] W fun r w' => r = .returned (.int .i64 (cstE C)) ∧ W.grownBy w' none) := fun W hW => contestFault_any B1 _ _ _ _ C W (hC2.grown hW) HCS.out
 have HOU : Hid (∀ W, w2.grownBy W none → Calls Tryz.prog 15 #[.agg #[.slice UA C.ents.length uc, .slice VA C.pfxs.length vc, .string C.own, .int .i64 C.beg, .int .i64 C.fin, .slice RA C.ruls.length rc, .slice MA C.muls.length mc, .bool C.byMode], .slice XA x.length xc] W (OutPost C x W)) := fun W hW => outside_c B1 _ _ _ _ C _ x W (hC2.grown hW) HCS.out (ownsRow_low (hx.grown hW) HSZ.out) hxs
 unfold OutPost at HOU
 have hbe : bothCE C x = cstE C := by
  unfold bothCE
  split
  ·rename_i h
   rw [hx0, h]
  ·rfl
 rw [hbe] at HOU
 have HTI : Hid (cstE C = 0 → timeB C.beg C.fin = true) := fun h => by
  have hh : timeE C.beg C.fin = 0 := by
   unfold cstE at h
   by_cases ht : timeE C.beg C.fin = 0
   ·exact ht
   ·exfalso
    by_cases h1 : tabE C.ents C.pfxs = 0 <;> by_cases h2 : callE C.own = 0 <;> simp [orL, h1, h2, ht] at h
  unfold timeE at hh
  cases hb : timeB C.beg C.fin with
  | true => rfl
  | false => rw [hb] at hh; simp at hh
 obtain ⟨T, hT⟩ : ∃ T, x.map (·.tm) = T := ⟨_, rfl⟩
 have HTX : Hid (∀ k (h : k < x.length), T.getD k 0 = x[k].tm) := fun k h => by rw [← hT]; simp [h]
 rw [hT] at HOU
 have HX := Lib.hid hx
 generalize cstE C = E at *
 generalize C.own = own at *
 generalize C.beg = bg at *
 generalize C.fin = fn at *
 generalize C.byMode = bm at *
 have hBc := Blk.new w2 33 #[.slice UA C.ents.length uc, .slice VA C.pfxs.length vc, .string own, .int .i64 bg, .int .i64 fn, .slice RA C.ruls.length rc, .slice MA C.muls.length mc, .bool bm]
 have hg3 := World.grownBy_alloc w2 (.cells #[.slice UA C.ents.length uc, .slice VA C.pfxs.length vc, .string own, .int .i64 bg, .int .i64 fn, .slice RA C.ruls.length rc, .slice MA C.muls.length mc, .bool bm] 33) none
 have HBEG := Lib.hid hbeg
 have HFIN := Lib.hid hfin
 have HXA := Lib.hid hXA
 clear hx hxs hx0 hC2 hbe hT hbeg hfin
 go_upto_region 3 with fail
 generalize w2.alloc (.cells #[.slice UA C.ents.length uc, .slice VA C.pfxs.length vc, .string own, .int .i64 bg, .int .i64 fn, .slice RA C.ruls.length rc, .slice MA C.muls.length mc, .bool bm] 33) = w3 at *
 generalize Value.slice UA C.ents.length uc = UV at *
 generalize Value.slice VA C.pfxs.length vc = VV at *
 generalize Value.slice RA C.ruls.length rc = RV at *
 generalize Value.slice MA C.muls.length mc = MV at *
 obtain ⟨gC, hgC⟩ : ∃ g, w2.heap.size = g := ⟨_, rfl⟩
 rw [hgC] at hBc
 (try rw [hgC])
 have k0 := hBc.cell 0
 have k1c := hBc.cell 1
 have k2c := hBc.cell 2
 have k3c := hBc.cell 3
 have k4c := hBc.cell 4
 have k5c := hBc.cell 5
 have k6c := hBc.cell 6
 have k7c := hBc.cell 7
 simp only [List.getElem?_toArray, List.getElem?_cons_zero, List.getElem?_cons_succ] at k0 k1c k2c k3c k4c k5c k6c k7c
 clear hgC hXA
 go_wp2_with fail
 refine (HCF.out _ hg3).mono ?_
 rintro _ w4 ⟨rfl, hg4⟩
 have hB4 := hBc.grown hg4 (by simp)
 have hg24 := gr_trans hg3 hg4
 clear k0 k1c k2c k3c k4c k5c k6c k7c hBc hg3 hg4 HCF
 by_cases hE : E = 0
 rotate_left
 ·have e1b : (E == 0) = false := by rw [beq_eq_false_iff_ne]; exact hE
  have e1n : (E != 0) = true := by rw [bne, e1b]; rfl
  have hg04 := gr_trans hG2 hg24
  clear HOU HTI
  go_wp2_with fail
  refine (HFA.out _ hg04).mono ?_
  rintro _ w5 ⟨rfl, hg5⟩
  go_wp2_with fail
  go_ret
  exact ⟨rfl, gr_below (gr_trans hg04 hg5)⟩
 have htime := HTI.out hE
 have HTB := Lib.hid htime
 have HOU2 : Hid (∀ W, w2.grownBy W none → Calls Tryz.prog 15 #[.agg #[UV, VV, .string own, .int .i64 bg, .int .i64 fn, RV, MV, .bool bm], .slice XA x.length xc] W fun r w' => ∃ u, r = .returned (.tuple #[u, .int .i64 0]) ∧ IntsFrom W.heap.size w' u (outTo bg fn T x.length) ∧ W.grownBy w' none) := fun W hW => (HOU.out W hW).mono fun r w' ⟨u, h1, h2, h3⟩ => ⟨u, by rw [h1, hE], by rw [if_pos hE] at h2; exact h2, h3⟩
 subst hE
 obtain ⟨k0, k1c, k2c, k3c, k4c, k5c, k6c, k7c⟩ := hB4.cells8
 clear HOU HTI htime
 go_wp2_with fail
 refine (HOU2.out _ hg24).mono ?_
 rintro _ w5 ⟨ov, rfl, hov, hg5⟩
 have hB5 := hB4.grown hg5 (by simp)
 have hg25 := gr_trans hg24 hg5
 have HOUT := Lib.hid (ins_out bg fn T x.length)
 have HMEM := Lib.hid (fun i => out_mem bg fn T x.length i)
 generalize outTo bg fn T x.length = O at *
 obtain ⟨OA, oc, rfl, hol, _⟩ := hov.shape
 have HCN : Hid (∀ W t, w5.grownBy W none → Calls Tryz.prog 16 #[.slice OA O.length oc, .int .i64 t] W fun e w' => e = .returned (.bool (O.contains t)) ∧ W.grownBy w' none) := fun W t hW => containsI_any _ _ O t W (hov.grown hW)
 obtain ⟨B5, hB5e⟩ : ∃ z, w5.heap.size = z := ⟨_, rfl⟩
 have HB5 := Lib.hid hB5e
 have HBK := Lib.hid hB5
 have HG25 := Lib.hid hg25
 clear k0 k1c k2c k3c k4c k5c k6c k7c hB4 hg24 hg5 HOU2 hov hB5e hB5 hg25
 go_wp2_with fail
 go_loopw [8, 37] (fun tv iv wr => ∃ k : Nat, k ≤ x.length ∧ iv = .int .i64 k ∧ Hid (IntsFrom B5 wr tv (insTo bg fn T k)) ∧ w5.grownBy wr none) (fun _ iv _ => x.length - (intOf iv).toNat)
 case atStart => exact ⟨0, by omega, rfl, IntsFrom.nil _ _, gr_refl _ _⟩
 case round =>
  obtain ⟨k, hk, rfl, HT, hg⟩ := hrel
  obtain ⟨A2, c2, rfl, _, _⟩ := HT.out.shape
  obtain ⟨LO, hLO⟩ : ∃ LO, (insTo bg fn T k).length = LO := ⟨_, rfl⟩
  have hLOb : LO ≤ k := by rw [← hLO]; exact insTo_len bg fn T k
  have HLO := Lib.hid hLO
  rw [hLO] at HT
  (try rw [hLO])
  clear hLO
  by_cases hlt : k < x.length
  ·have hki : (k : Int) < (x.length : Int) := by omega
   obtain ⟨g, rfl, _, _⟩ := HXA.out (by omega)
   obtain ⟨q0, q1, q2, q3, q4, q5, q6, q7⟩ := (HX.out.grown (gr_trans HG25.out hg)).at_ k hlt
   have hst := insTo_step bg fn T k
   rw [HTX.out k hlt] at hst
   have hct := HMEM.out k
   rw [HTX.out k hlt, decide_eq_true hlt, Bool.true_and] at hct
   generalize x[k].tm = Tm at *
   generalize x[k].mode = Mo at *
   generalize x[k].band = BD at *
   generalize x[k].call = CL at *
   generalize x[k].sent = SE at *
   generalize x[k].heard = HE at *
   generalize x[k].gave = GA at *
   generalize x[k].got = GO at *
   have HC1 : Hid (∀ W, w5.grownBy W none → Calls Tryz.prog 16 #[.slice OA O.length oc, .int .i64 k] W fun e w' => e = .returned (.bool (!hasB bg fn Tm)) ∧ W.grownBy w' none) := fun W hW => by
    have h := HCN.out W k hW
    rwa [hct] at h
   generalize hasB bg fn Tm = HB at *
   have HST := Lib.hid hst
   have hX := Blk.new wr 43 #[.int .i64 Tm, .int .i64 Mo, .string BD, .string CL, .int .i64 SE, .int .i64 HE, .string GA, .string GO]
   have hgX := World.grownBy_alloc wr (.cells #[.int .i64 Tm, .int .i64 Mo, .string BD, .string CL, .int .i64 SE, .int .i64 HE, .string GA, .string GO] 43) none
   clear hst hct
   go_upto_region 12 with fail
   generalize wr.alloc (.cells #[.int .i64 Tm, .int .i64 Mo, .string BD, .string CL, .int .i64 SE, .int .i64 HE, .string GA, .string GO] 43) = w6 at *
   generalize wr.heap.size = gX at *
   clear q0 q1 q2 q3 q4 q5 q6 q7
   have hg56 := gr_trans hg hgX
   go_wp2_with fail
   refine (HC1.out _ hg56).mono ?_
   rintro _ w7 ⟨rfl, hg7⟩
   have hX7 := hX.grown hg7 (by simp)
   have x0 := hX7.cell 0
   simp only [List.getElem?_toArray, List.getElem?_cons_zero, List.getElem?_cons_succ] at x0
   have hg57 := gr_trans hg56 hg7
   have HT7 := Lib.hid (HT.out.grown (gr_trans hgX hg7))
   clear hX hgX hg56 hg7 HC1
   cases HB
   ·have HS : Hid (insTo bg fn T (k + 1) = insTo bg fn T k) := HST.out
    go_wp2_with fail
    go_roundw
    case rel => exact ⟨k + 1, by omega, by go_num, (by rw [HS.out]; exact HT7.out), hg57⟩
    case measure => simp [intOf]; omega
   ·have HS : Hid (insTo bg fn T (k + 1) = insTo bg fn T k ++ [Tm]) := HST.out
    have hownR : w7.ownsRow B5 3 1 (.slice A2 LO c2) LO ((insTo bg fn T k).map (Value.int .i64)) := by
     have h := HT7.out
     unfold IntsFrom at h
     rw [HLO.out] at h
     exact h
    have HOR := Lib.hid hownR
    have hwg := hg57.size
    have hw5 := HB5.out
    clear hownR
    go_wp2_with (at_builtin; refine wpList_append_own _ rfl _ _ 22 rfl B5 3 i0 _ 1 8 Tryz.underlying22 hi0 hz0 hz1 hz2 rfl (by decide) _ LO _ rfl (World.ownsRow.alloc HOR.out _) ⟨_, 0, none⟩ 1 1 [.int .i64 Tm] rfl rfl (one_cell _ Tm _) (one_oneCell Tm) (by unfold maxLen; omega) (by omega) (by simp; omega) ?_; intro v' w8 hownB hgrB _)
    have hown8 : IntsFrom B5 w8 v' (insTo bg fn T (k + 1)) := by
     rw [HS.out]
     unfold IntsFrom
     rw [List.map_append, List.length_append, HLO.out]
     simpa using hownB
    have hg58 : w5.grownBy w8 none := gr_grown (gr_alloc hg57 _) hgrB (fun g e => .inr (by have := (HOR.out.lt g e).1; have := HB5.out; omega))
    go_wp2_with fail
    go_roundw
    case rel => exact ⟨k + 1, by omega, by go_num, hown8, hg58⟩
    case measure => simp [intOf]; omega
  ·have hki : ¬ (k : Int) < (x.length : Int) := by omega
   obtain rfl : k = x.length := by omega
   have hmem := ins_in bg fn T x.length
   have hsum := HOUT.out
   have hnn := insTo_len bg fn T x.length
   generalize insTo bg fn T x.length = I at *
   rw [HLO.out] at hsum
   have hTw : IntsFrom B5 wr (.slice A2 LO c2) I := HT.out
   have hIb : I.length ≤ 12 := by omega
   have hlen := sortI_len I
   have hJm : ∀ x ∈ sortI I, bg ≤ x ∧ x < fn := fun x hx => hmem x ((sortI_mem I x).1 hx)
   have hJs := sortI_sorted I
   go_wp2_with fail
   refine (sort_own B5 _ I wr hTw (by omega)).mono ?_
   rintro _ w8 ⟨rfl, hsv, hg8⟩
   have hg58 : w5.grownBy w8 none := gr_grown hg hg8 (fun g e => .inr (by have := (World.ownsRow.lt hTw g e).1; have := HB5.out; omega))
   generalize sortI I = J at *
   rw [HLO.out] at hlen
   have hTE := timesE_of HTB.out (by omega) hJs hJm
   have hMA := many_all hJm
   have hHS := hours_sum hJm
   rw [hlen] at hMA hHS
   have htb := HTB.out
   unfold timeB at htb
   rw [decide_eq_true_eq] at htb
   have hfb : fn ≤ 300000 := by rcases HFIN.out with h | h | h <;> omega
   have hWE : winE bg fn = 0 := winE_0 (by omega)
   have hHO : hoursI bg fn ≤ 1000 := by unfold hoursI; omega
   have HHO : Hid (∀ W, w8.grownBy W none → Calls Tryz.prog 18 #[.slice A2 LO c2, .agg #[.int .i64 bg, .int .i64 fn]] W fun r w' => ∃ u, r = .returned (.tuple #[u, .int .i64 0]) ∧ Ints w' u (hourAll J bg fn) ∧ W.grownBy w' none) := fun W hW => hours_ok B5 _ J bg fn W (hsv.grown hW) hTE hHO
   have HIN : Hid (∀ W, w8.grownBy W none → Calls Tryz.prog 19 #[.slice A2 LO c2, .agg #[.int .i64 bg, .int .i64 fn], .agg #[.int .i64 bg, .int .i64 fn]] W fun r w' => r = .returned (.tuple #[.int .i64 (LO : Int), .int .i64 0]) ∧ W.grownBy w' none) := fun W hW => by
    have h := in_ok B5 _ J bg fn bg fn W (hsv.grown hW) hTE
    rw [hWE, hMA] at h
    exact h
   have hNN : ∀ x ∈ hourAll J bg fn, 0 ≤ x := hourL_0 _ _ _ _
   generalize hourAll J bg fn = H at *
   have hB8 := HBK.out.grown hg58 (by simp)
   obtain ⟨k0, k1c, k2c, k3c, k4c, k5c, k6c, k7c⟩ := hB8.cells8
   clear hTE hMA hWE hHO htb hfb hJm hJs hmem hTw HT hsv hg8 hg HOUT HMEM
   go_wp2_with fail
   refine (HHO.out _ (gr_refl _ _)).mono ?_
   rintro _ w9 ⟨hv, rfl, hhv, hg9⟩
   have hB9 := hB8.grown hg9 (by simp)
   clear k0 k1c k2c k3c k4c k5c k6c k7c
   obtain ⟨k0, k1c, k2c, k3c, k4c, k5c, k6c, k7c⟩ := hB9.cells8
   go_wp2_with fail
   refine (HIN.out _ hg9).mono ?_
   rintro _ w10 ⟨rfl, hg10⟩
   have hhv10 := Lib.hid (IntsFrom.grown hhv hg10)
   have hg510 := gr_trans hg58 (gr_trans hg9 hg10)
   have hqe : (LO : Int) = (x.length : Int) - (O.length : Int) := by omega
   have hqb : ((LO : Int) == (x.length : Int) - (O.length : Int)) = true := by rw [beq_iff_eq]; exact hqe
   have hqn : ((LO : Int) != (x.length : Int) - (O.length : Int)) = false := by rw [bne, hqb]; rfl
   have HG0 := Lib.hid (gr_trans (gr_trans hG2 HG25.out) hg510)
   obtain ⟨HA, hc, rfl, _, hHA⟩ := IntsFrom.shape hhv10.out
   have HHA := Lib.hid hHA
   have HQE := Lib.hid hqe
   clear hqe hhv hB9 hB8 hg58 hg9 hg10 hg510 hHA
   go_wp2_with fail
   go_loopw [12, 87] (fun nv iv wr => ∃ k : Nat, k ≤ H.length ∧ iv = .int .i64 k ∧ nv = .int .i64 ((LO : Int) - (H.take k).sum) ∧ w10.grownBy wr none) (fun _ iv _ => H.length - (intOf iv).toNat)
   case atStart => exact ⟨0, by omega, rfl, (by simp), gr_refl _ _⟩
   case round =>
    obtain ⟨k, hk, rfl, rfl, hg⟩ := hrel
    obtain ⟨hp0, hp1⟩ := sum_part hNN k
    by_cases hlt : k < H.length
    ·have hki : (k : Int) < (H.length : Int) := by omega
     obtain ⟨g, rfl, _, _⟩ := HHA.out (by omega)
     have q0 := IntsFrom.at_ (IntsFrom.grown hhv10.out hg) k hlt
     have hs := sum_take k hlt
     obtain ⟨hq0, hq1⟩ := sum_part hNN (k + 1)
     rw [hHS] at hp1 hq1
     have HS := Lib.hid hs
     rw [hs] at hq0 hq1
     clear hs
     generalize H[k] = y at *
     generalize (H.take k).sum = S at *
     go_wp2_with fail
     go_roundw
     case rel => exact ⟨k + 1, by omega, by go_num, (congrArg (Value.int .i64) (by have := HS.out; omega)), hg⟩
     case measure => simp [intOf]; omega
    ·have hki : ¬ (k : Int) < (H.length : Int) := by omega
     obtain rfl : k = H.length := by omega
     have hz : (LO : Int) - (H.take H.length).sum = 0 := by rw [List.take_length, hHS]; omega
     rw [hz]
     have hg010 := gr_trans HG0.out hg
     clear hp0 hp1 hz
     go_wp2_with fail
     refine (HFA.out _ hg010).mono ?_
     rintro _ w11 ⟨rfl, hg11⟩
     go_wp2_with fail
     go_ret
     exact ⟨rfl, gr_below (gr_trans hg010 hg11)⟩
end Go.Proofs.YthlflljlkkkanaaGreatDoor

namespace Go.Proofs.YthlflljlkkkanaaGreatDoor
open Go.ChangeShapes Go.WideShapes Go.ChangeAt Go.RowKit
set_option linter.unusedVariables false

theorem cardOwn : ownKnob Tryz.prog.godebug = none := by kernel_rfl
theorem cardLaidOut : laidOutB Tryz.prog = true := by kernel_rfl
/-- A contract in worlds that meet a condition and are shaped as the program lays them. -/
theorem returns_both {H : Type} {enc : TypeId × Value → H} {a : Assume} {C : Checked} {os : Os} {f : FuncId} {fn : Func} {s : ChangeSpec} {conds : List PathCond} {apart fresh handsOn again : Bool} {X : World → Array Value → Prop}
 (hX : ∀ (w w' : World) (args : Array Value), w.heap = w'.heap → X w args → X w' args)
 (own : ownKnob C.prog.godebug = none) (started : os.Started) (noInit : C.prog.inits.idxOf? f = none) (hfn : C.prog.funcs[f]? = some fn)
 (witness : ∃ (w : World) (tape : Tape) (i : Input), w.os = os ∧ (w.forCall tape i).Shaped C.prog ∧ i.vars = [] ∧ Input.okWide C.prog (w.forCall tape i) .any w.heap.size f i ∧
  ((s.pre enc C.prog fn conds apart (w.forCall tape i).memory i.args ∧ X (w.forCall tape i).memory i.args) ∧ sizedMet enc C.prog fn (OpenSpec.ofChange s) apart (w.forCall tape i).memory i.args) ∧ a.holds C.prog (lone (Frame.enter C.prog f i.args .normal) [] (w.forCall tape i)))
 (contract : ∀ (W : World) (base : Nat) (args : Array Value) (ds gs : List (DataW H)) (before : List MemPlace),
  (∀ (j : Nat) t v, fn.params[j]? = some t → args[j]? = some v → Value.okWide C.prog W .any base t v) →
  DataW.Whole enc C.prog fn.params.toList s.vars apart W args.toList ds gs before → X W args → W.ShapedOpen C.prog →
  Calls C.prog f args W fun e W' => ∃ v, e = .returned v ∧ s.post enc C.prog fn apart fresh handsOn again W args v W') :
 ReturnsInHanded a C os f .any (fun w args => (s.pre enc C.prog fn conds apart w args ∧ X w args) ∧ sizedMet enc C.prog fn (OpenSpec.ofChange s) apart w args) (s.post enc C.prog fn apart fresh handsOn again) := by
 refine returnsInHanded_of_calls own started noInit witness ?_
 intro w tape i _ hsh _ hok hpre hholds
 obtain ⟨_, _, _, fn', hfn', _, _, _, _, hval⟩ := hok
 have e : fn' = fn := Option.some.inj (hfn'.symm.trans hfn)
 subst e
 obtain ⟨⟨⟨ds, gs, before, hw, hc⟩, hx⟩, hz⟩ := hpre
 have hw' := DataW.Whole.of_heap (w' := w.forCall tape i) (by rfl) hw
 refine (contract (w.forCall tape i) w.heap.size i.args ds gs before hval hw' (hX _ _ _ (by rfl) hx) hsh).mono fun e W' ⟨v, he, hp⟩ => ?_
 subst he
 exact ChangeSpec.post_blind hp
/-- The condition on variables, by one run; that no cell is met twice goes by a number's bits. -/
theorem laidMet_of_bits {P : Program} {w : World} {l : List (String × DataW Unit)} (fuel M : Nat) (h : (DataW.laidRun P w fuel (l.map (·.1))).map (·.1) = some l)
 (hn : (DataW.laidRun P w fuel (l.map (·.1))).map (fun x => nodupBits M x.2 0) = some true)
 (hr : (DataW.laidRun P w fuel (l.map (·.1))).map (fun x => laidRowsB P w x.2) = some true) : laidMet P l w := by
 cases hx : DataW.laidRun P w fuel (l.map (·.1)) with
 | none => simp [hx] at h
 | some x =>
   obtain ⟨l', ps⟩ := x
   simp only [hx, Option.map_some, Option.some.injEq] at h hr hn
   subst h
   exact laidMet_of_run fuel hx (decide_eq_true (nodupBits_sound hn).1) hr
/-- The cells of a datum that is a row of plain numbers. -/
def cellsD : DataW Unit → Array Value
 | .agg ds => (ds.map fun d => match d with | .lit (.int k n) => Value.int k n | _ => .bool false).toArray
 | _ => #[]
/-- The start: what the door's own run leaves, and Go's great table in its variable. -/
noncomputable def startW (os : Os) : World :=
 let w0 := World.doorLaid Tryz.prog 200 os
 { w0 with heap := w0.heap.modify 4 fun
  | .cells _ t fr => .cells (cellsD Go.Pinned.utf8First) t fr
  | o => o }
theorem maxCell {W : World} (h : W.ShapedOpen Tryz.prog) : ∃ m, W.cell? ⟨1, 0, none⟩ = some (.int .i64 m) :=
 cell_of_shapedOpen_int (t := 3) (zero := #[.int .i64 0]) h (of_decide_eq_true (by kernel_rfl)) (by kernel_rfl) (by kernel_rfl) (by kernel_rfl) (by kernel_rfl) Tryz.underlying3
theorem asc_eq : (Rows.laid_strings_asciiSpace : DataW Unit) = Lib.tabData .u8 Lib.asciiSpaceTab := by kernel_rfl
theorem spaceTab {W : World} {rest : List (String × DataW Unit)} (h : laidMet Tryz.prog (("strings.asciiSpace", Rows.laid_strings_asciiSpace) :: rest) W) : Lib.TabIs Tryz.prog W "strings.asciiSpace" .u8 Lib.asciiSpaceTab := by
 rw [asc_eq] at h
 exact Lib.tabIs_of_head (g := 0) (t := 360) (e := 5) (n := 256) (by kernel_rfl) (by kernel_rfl) Tryz.underlying360 Tryz.underlying5 (by kernel_rfl) (by kernel_rfl) h
theorem gl_start {W : World} (h1 : ∃ m, W.cell? ⟨1, 0, none⟩ = some (.int .i64 m)) (h2 : Lib.TabIs Tryz.prog W "strings.asciiSpace" .u8 Lib.asciiSpaceTab) : Gl W.heap.size W := by
 obtain ⟨m, hm⟩ := h1
 have hc := h2.cell (g := 0) (by kernel_rfl) 0 (by rw [Lib.asciiSpaceTab_length]; decide)
 exact ⟨⟨m, hm⟩, h2, World.block_lt_of_cell? W _ hm, World.block_lt_of_cell? W _ hc, Nat.le_refl _⟩
end Go.Proofs.YthlflljlkkkanaaGreatDoor
