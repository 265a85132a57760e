/- Parts of a proof: CstRef, TabTime, TabRef, TabLong, TabPlace, TabFound. Conditions: as each statement says. -/
import Derived.Test.YtbamhgaghngjiaaGreatDoorCoam
namespace Go.Proofs.YtbamhgaghngjiaaGreatDoor
open Go.RowKit
set_option linter.unusedVariables false
set_option linter.unusedSimpArgs false

theorem jwp (a b c d e : Int) : orL [a, b, c, d, e] = if orL [a, b, c] = 0 then orL [d, e] else orL [a, b, c] := by
 by_cases ha : a = 0 <;> by_cases hb : b = 0 <;> by_cases hc : c = 0 <;> simp [orL, ha, hb, hc]
set_option maxRecDepth 100000 in
set_option maxHeartbeats 16000000 in
theorem jdz (base : Nat) (ev pv rv mv : Value) (c : Cst) (w : World) (h : CstFrom base w ev pv rv mv c) (hs : CstSm c) :
 Calls Tryz.prog 9 #[.agg #[ev, pv, .string c.own, .int .i64 c.beg, .int .i64 c.fin, rv, mv, .bool c.byMode]] w fun r w' => r = .returned (.int .i64 (jfw c)) ∧ w.grownBy w' none := by
 have H1 : Hid (∀ W, w.grownBy W none → Calls Tryz.prog 35 #[ev, pv] W fun r w' => r = .returned (.int .i64 (jah c.ents c.pfxs)) ∧ W.grownBy w' none) := fun W hW => jfq base ev pv c.ents c.pfxs W (h.ents.grown hW) hs.ents (h.pfxs.grown hW) hs.pfxs
 have H2 : Hid (∀ W, Calls Tryz.prog 36 #[.string c.own] W fun r w' => r = .returned (.int .i64 (jdx c.own)) ∧ W.grownBy w' none) := fun W => jgl c.own W hs.own hs.asc
 have H3 : Hid (∀ W, Calls Tryz.prog 37 #[.agg #[.int .i64 c.beg, .int .i64 c.fin]] W fun r w' => r = .returned (.int .i64 (jaj c.beg c.fin)) ∧ W.grownBy w' none) := fun W => jaw c.beg c.fin W
 have HOR : Hid (jfw c = if orL [jah c.ents c.pfxs, jdx c.own, jaj c.beg c.fin] = 0 then orL [yj c.ruls, zj c.muls] else orL [jah c.ents c.pfxs, jdx c.own, jaj c.beg c.fin]) := jwp _ _ _ _ _
 have HRV := Lib.hid h.ruls
 have HMV := Lib.hid h.muls
 have hrs := hs.ruls
 generalize jfw c = E at *
 generalize jah c.ents c.pfxs = E1 at *
 generalize jdx c.own = E2 at *
 generalize jaj c.beg c.fin = E3 at *
 generalize c.ruls = R at *
 generalize c.muls = L at *
 obtain ⟨RA, rc, rfl, hrl, hRA⟩ := HRV.out.shape
 obtain ⟨MA, mc, rfl, hml, hMA⟩ := HMV.out.shape
 have HRA := Lib.hid hRA
 have HMA := Lib.hid hMA
 have HCAP := Lib.hid (jb9 (show World.ownsRow _ _ _ _ _ _ _ from HMV.out)).1
 generalize c.own = own at *
 generalize c.beg = b at *
 generalize c.fin = z at *
 generalize c.byMode = bm at *
 have hB := Blk.new w 33 #[ev, pv, .string own, .int .i64 b, .int .i64 z, .slice RA R.length rc, .slice MA L.length mc, .bool bm]
 have hgA := World.grownBy_alloc w (.cells #[ev, pv, .string own, .int .i64 b, .int .i64 z, .slice RA R.length rc, .slice MA L.length mc, .bool bm] 33) none
 clear h hs hRA hMA
 go_enter Tryz.func9, Tryz.ntmps9
 go_upto_region 1 with fail
 generalize w.alloc (.cells #[ev, pv, .string own, .int .i64 b, .int .i64 z, .slice RA R.length rc, .slice MA L.length mc, .bool bm] 33) = w0 at *
 generalize w.heap.size = gC at *
 have HK : Hid (∀ V, w0.grownBy V none → V.cell? ⟨gC, 0, none⟩ = some ev ∧ V.cell? ⟨gC, 1, none⟩ = some pv ∧ V.cell? ⟨gC, 2, none⟩ = some (.string own) ∧ V.cell? ⟨gC, 3, none⟩ = some (.int .i64 b) ∧ V.cell? ⟨gC, 4, none⟩ = some (.int .i64 z) ∧ w0.grownBy V none) := fun V hV => ⟨(hB.grown hV (by simp)).cell 0, (hB.grown hV (by simp)).cell 1, (hB.grown hV (by simp)).cell 2, (hB.grown hV (by simp)).cell 3, (hB.grown hV (by simp)).cell 4, hV⟩
 refine wp_region_held_drew (S := fun V => V.cell? ⟨gC, 0, none⟩ = some ev ∧ V.cell? ⟨gC, 1, none⟩ = some pv ∧ V.cell? ⟨gC, 2, none⟩ = some (.string own) ∧ V.cell? ⟨gC, 3, none⟩ = some (.int .i64 b) ∧ V.cell? ⟨gC, 4, none⟩ = some (.int .i64 z) ∧ w0.grownBy V none) (by kernel_rfl) (HK.out _ (jn (jf _ _))) (fun hHeld => ?_)
 refine tkH 0 8 hHeld ?_
 simp only [Act.put, ssA, ssZ, ssS]
 refine tkH 1 9 hHeld ?_
 simp only [Act.put, ssA, ssZ, ssS]
 refine tkH 2 10 hHeld ?_
 simp only [Act.put, ssA, ssZ, ssS]
 refine tkH 3 11 hHeld ?_
 simp only [Act.put, ssA, ssZ, ssS]
 refine tkH 5 13 hHeld ?_
 simp only [Act.put, ssA, ssZ, ssS]
 refine tkH 6 14 hHeld ?_
 simp only [Act.put, ssA, ssZ, ssS]
 refine tkH 8 16 hHeld ?_
 simp only [Act.put, ssA, ssZ, ssS]
 refine tkH 9 17 hHeld ?_
 simp only [Act.put, ssA, ssZ, ssS]
 refine wpAnyH_ready (rs := [4]) (by kernel_rfl) (by simp) ?_
 refine AllReadyH.cons (o := _) rfl (fun K hK => ?_) AllReadyH.nil
 go_simp
 (go_at_call 35; refine (H1.out _ (ja hgA (jn (jf _ _)))).mono ?_; rintro _ w1 ⟨rfl, hg1⟩; have hg01 : w0.grownBy w1 none := ja (jn (jf w0 none)) hg1)
 refine hK.out _ _ (HK.out _ hg01) (fun hHeld4 => ?_)
 clear hK K
 (try simp only [Act.put, ssA, ssZ, ssS])
 refine wpAnyH_ready (rs := [7]) (by kernel_rfl) (by simp) ?_
 refine AllReadyH.cons (o := _) rfl (fun K hK => ?_) AllReadyH.nil
 go_simp
 (go_at_call 36; refine (H2.out _).mono ?_; rintro _ w2 ⟨rfl, hg2⟩; have hg02 : w0.grownBy w2 none := ja hg01 hg2)
 refine hK.out _ _ (HK.out _ hg02) (fun hHeld7 => ?_)
 clear hK K
 (try simp only [Act.put, ssA, ssZ, ssS])
 refine wpAnyH_ready (rs := [10]) (by kernel_rfl) (by simp) ?_
 refine AllReadyH.cons (o := _) rfl (fun K hK => ?_) AllReadyH.nil
 go_simp
 (go_at_call 37; refine (H3.out _).mono ?_; rintro _ w3 ⟨rfl, hg3⟩; have hg03 : w0.grownBy w3 none := ja hg02 hg3)
 refine hK.out _ _ (HK.out _ hg03) (fun hHeld10 => ?_)
 clear hK K
 (try simp only [Act.put, ssA, ssZ, ssS])
 refine wpAnyH_ready (rs := [11]) (by kernel_rfl) (by simp) ?_
 refine AllReadyH.cons (o := _) rfl (fun K hK => ?_) AllReadyH.nil
 go_simp
 (skip)
 refine hK.out _ _ (HK.out _ (jd hg03 _)) (fun hHeld11 => ?_)
 clear hK K
 (try simp only [Act.put, ssA, ssZ, ssS])
 refine wpAnyH_ready (rs := [12]) (by kernel_rfl) (by simp) ?_
 refine AllReadyH.cons (o := _) rfl (fun K hK => ?_) AllReadyH.nil
 go_simp
 (go_at_call 34; refine (jt4 _ _ _ _).mono ?_; rintro _ w4 ⟨rfl, hg4⟩; have hg04 : w0.grownBy w4 none := ja hg03 hg4)
 refine hK.out _ _ (HK.out _ hg04) (fun hHeld12 => ?_)
 clear hK K
 (try simp only [Act.put, ssA, ssZ, ssS])
 refine tkH 13 3 hHeld12 ?_
 simp only [Act.put, ssA, ssZ, ssS]
 refine wpAnyH_done (by kernel_rfl) ?_ _
 have hB4 := hB.grown hg04 (by simp)
 have hG4 := ja hgA hg04
 clear hB H1 H2 H3 HK
 generalize orL [E1, E2, E3] = E0 at *
 by_cases e0 : E0 = 0
 rotate_left
 ·have HR : Hid (E = E0) := by show _ = _; rw [HOR.out, if_neg e0]
  have e1b : (E0 == 0) = false := by rw [beq_eq_false_iff_ne]; exact e0
  have e1n : (E0 != 0) = true := by rw [bne, e1b]; rfl
  go_wp2_with fail
  go_ret
  exact ⟨ji HR.out.symm, hG4⟩
 have HOR2 : Hid (E = orL [yj R, zj L]) := by show _ = _; rw [HOR.out, if_pos e0]
 subst e0
 clear HOR
 have k5 := hB4.cell 5
 simp only [geA, geZ, geS] at k5
 by_cases hbig : 100 < R.length
 ·have HR : Hid (yj R = 2) := by show _ = _; unfold yj; rw [if_pos hbig]
  have hb : (100 : Int) < (R.length : Int) := by omega
  go_wp2_with fail
  go_ret
  exact ⟨ji (by rw [HOR2.out, HR.out]; simp [orL]), hG4⟩
 have HE : Hid (yj R = yb jb0 R) := by show _ = _; unfold yj; rw [if_neg hbig]
 have hb : ¬ (100 : Int) < (R.length : Int) := by omega
 generalize yj R = RE at *
 go_wp2_with fail
 clear k5
 go_loopw [31] (fun iv wr => ∃ k : Nat, k ≤ R.length ∧ iv = .int .i64 k ∧ Hid (RE = yb jb0 (R.drop k)) ∧ Blk wr gC 33 #[ev, pv, .string own, .int .i64 b, .int .i64 z, .slice RA R.length rc, .slice MA L.length mc, .bool bm] ∧ w.grownBy wr none) (fun iv _ => R.length - (intOf iv).toNat)
 case atStart => exact ⟨0, by omega, rfl, HE, hB4, hG4⟩
 case round =>
  obtain ⟨k, hk, rfl, HN, hBC, hg⟩ := hrel
  clear hB4 hG4
  by_cases hlt : k < R.length
  ·have hki : (k : Int) < (R.length : Int) := by omega
   have hgb : gC < wr.heap.size := hBC.lt
   obtain ⟨g, rfl, hg0, hg1⟩ := HRA.out (by omega)
   obtain ⟨q0, q1, q2, q3⟩ := (HRV.out.grown hg).at_ k hlt
   have hst := jbq jb0 R k hlt
   rw [← HN.out, jpd] at hst
   have hsk := hrs R[k] (List.getElem_mem hlt)
   unfold jlt at hsk
   generalize R[k].rel = RL at *
   generalize R[k].mode = M at *
   generalize R[k].band = BD at *
   generalize R[k].points = PT at *
   have H1 := (fun W => xx RL 0 5 W)
   have H2 := (fun W => xx M 0 3 W)
   have H3 := (fun W => jaf BD W (by omega))
   have H3e := jky BD
   have H4 := (fun W => xx PT 0 1000 W)
   obtain ⟨B1, hB1⟩ : ∃ x, qu RL 0 5 = x := ⟨_, rfl⟩
   obtain ⟨B2, hB2⟩ : ∃ x, qu M 0 3 = x := ⟨_, rfl⟩
   obtain ⟨Z3, hZ3⟩ : ∃ x, BD.data.toList.isEmpty = x := ⟨_, rfl⟩
   obtain ⟨K3, hK3⟩ : ∃ x, jaq BD.data.toList = x := ⟨_, rfl⟩
   obtain ⟨B4, hB4⟩ : ∃ x, qu PT 0 1000 = x := ⟨_, rfl⟩
   rw [hB1] at H1
   rw [hB2] at H2
   rw [hZ3] at H3e
   rw [hK3] at H3
   rw [hB4] at H4
   rw [hB1, hB2, hZ3, hK3, hB4] at hst
   have H1 := Lib.hid H1
   have H2 := Lib.hid H2
   have H3 := Lib.hid H3
   have H4 := Lib.hid H4
   have HST := Lib.hid hst
   have hB := Blk.new wr 77 #[.int .i64 RL, .int .i64 M, .string BD, .int .i64 PT]
   have hgA := World.grownBy_alloc wr (.cells #[.int .i64 RL, .int .i64 M, .string BD, .int .i64 PT] 77) none
   clear hst HN hB1 hB2 hZ3 hK3 hB4
   go_upto_region 9 with fail
   generalize wr.alloc (.cells #[.int .i64 RL, .int .i64 M, .string BD, .int .i64 PT] 77) = w0 at *
   generalize wr.heap.size = gE at *
   clear q0 q1 q2 q3
   have k0 := hB.cell 0
   have k1 := hB.cell 1
   have k2 := hB.cell 2
   have k3 := hB.cell 3
   simp only [geA, geZ, geS] at k0 k1 k2 k3
   go_wp2_with fail
   refine (H1.out _).mono ?_
   rintro _ _ ⟨rfl, rfl⟩
   cases B1
   rotate_left
   ·have HR : Hid (RE = 4) := by show _ = _; have h := HST.out; simpa [jcd] using h
    go_wp2_with fail
    go_ret
    exact ⟨ji (by rw [HOR2.out, HR.out]; simp [orL]), ja hg hgA⟩
   go_wp2_with fail
   refine (H2.out _).mono ?_
   rintro _ _ ⟨rfl, rfl⟩
   cases B2
   rotate_left
   ·have HR : Hid (RE = 4) := by show _ = _; have h := HST.out; simpa [jcd] using h
    go_wp2_with fail
    go_ret
    exact ⟨ji (by rw [HOR2.out, HR.out]; simp [orL]), ja hg hgA⟩
   cases Z3
   ·skip
    go_wp2_with fail
    refine (H3.out _).mono ?_
    rintro _ v3 ⟨rfl, hgv3⟩
    have hBv3 := hB.grown hgv3 (by simp)
    have hGv3 := ja hgA hgv3
    clear k0 k1 k2 k3
    have k0 := hBv3.cell 0
    have k1 := hBv3.cell 1
    have k2 := hBv3.cell 2
    have k3 := hBv3.cell 3
    simp only [geA, geZ, geS] at k0 k1 k2 k3
    cases K3
    ·have HR : Hid (RE = 5) := by show _ = _; have h := HST.out; simpa [jcd] using h
     go_wp2_with fail
     go_ret
     exact ⟨ji (by rw [HOR2.out, HR.out]; simp [orL]), ja hg hGv3⟩
    skip
    go_wp2_with fail
    refine (H4.out _).mono ?_
    rintro _ _ ⟨rfl, rfl⟩
    cases B4
    rotate_left
    ·have HR : Hid (RE = 1) := by show _ = _; have h := HST.out; simpa [jcd] using h
     go_wp2_with fail
     go_ret
     exact ⟨ji (by rw [HOR2.out, HR.out]; simp [orL]), ja hg hGv3⟩
    have HR : Hid (RE = yb jb0 (R.drop (k + 1))) := by show _ = _; have h := HST.out; simpa [jcd] using h
    go_wp2_with fail
    go_roundw
    case rel => exact ⟨k + 1, by omega, by go_num, HR, hBC.grown hGv3 (by simp), ja hg hGv3⟩
    case measure => simp [intOf]; omega
   skip
   go_wp2_with fail
   refine (H4.out _).mono ?_
   rintro _ _ ⟨rfl, rfl⟩
   cases B4
   rotate_left
   ·have HR : Hid (RE = 1) := by show _ = _; have h := HST.out; simpa [jcd] using h
    go_wp2_with fail
    go_ret
    exact ⟨ji (by rw [HOR2.out, HR.out]; simp [orL]), ja hg hgA⟩
   have HR : Hid (RE = yb jb0 (R.drop (k + 1))) := by show _ = _; have h := HST.out; simpa [jcd] using h
   go_wp2_with fail
   go_roundw
   case rel => exact ⟨k + 1, by omega, by go_num, HR, hBC.grown hgA (by simp), ja hg hgA⟩
   case measure => simp [intOf]; omega
  have hki : ¬ (k : Int) < (R.length : Int) := by omega
  have HR0 : Hid (RE = 0) := by show _ = _; rw [HN.out, show k = R.length by omega, jcz]
  have HOR3 : Hid (E = zj L) := by show _ = _; rw [HOR2.out, HR0.out]; simp [orL]; exact fun h => h.symm
  have k6 := hBC.cell 6
  simp only [geA, geZ, geS] at k6
  clear HOR2 HN
  by_cases hbig2 : 10 < L.length
  ·have HR : Hid (zj L = 2) := by show _ = _; unfold zj; rw [if_pos hbig2]
   have hb2 : (10 : Int) < (L.length : Int) := by omega
   go_wp2_with fail
   go_ret
   exact ⟨ji (by rw [HOR3.out, HR.out]), hg⟩
  have HE2 : Hid (zj L = jbb (L.take 0) (L.drop 0)) := by show _ = _; unfold zj; rw [if_neg hbig2]; rfl
  have hb2 : ¬ (10 : Int) < (L.length : Int) := by omega
  rw [← HOR3.out] at HE2
  go_wp2_with fail
  clear k6
  have hBC2 := hBC
  have hG2 := hg
  go_loopw [69] (fun iv wr => ∃ k : Nat, k ≤ L.length ∧ iv = .int .i64 k ∧ Hid (E = jbb (L.take k) (L.drop k)) ∧ Blk wr gC 33 #[ev, pv, .string own, .int .i64 b, .int .i64 z, .slice RA R.length rc, .slice MA L.length mc, .bool bm] ∧ w.grownBy wr none) (fun iv _ => L.length - (intOf iv).toNat)
  case atStart => exact ⟨0, by omega, rfl, HE2, hBC2, hG2⟩
  case round =>
   clear hBC hg hBC2 hG2 hki hlt hk
   obtain ⟨k, hk, rfl, HN, hBC, hg⟩ := hrel
   by_cases hlt : k < L.length
   ·have hki : (k : Int) < (L.length : Int) := by omega
    have hk0 : (0 : Int) ≤ (k : Int) := by omega
    have hkc : (k : Int) ≤ (mc : Int) := by have := HCAP.out; omega
    have hgb : gC < wr.heap.size := hBC.lt
    obtain ⟨g, rfl, hg0, hg1⟩ := HMA.out (by omega)
    obtain ⟨q0, q1, q2⟩ := (HMV.out.grown hg).at_ k hlt
    have hst := je0 L k hlt
    rw [← HN.out] at hst
    have hm1 : jmf (L.take k) L[k] = if qu L[k].what 1 5 then 4 else if (L.take k).any (jba L[k]) then 6 else 0 := rfl
    have HMAt : Hid (∀ W, wr.grownBy W none → MulsAt W g (L.take k)) := fun W hW j hj => by
     have hj' : j < L.length := by rw [List.length_take] at hj; omega
     rw [List.getElem_take]
     exact (HMV.out.grown (ja hg hW)).at_ j hj'
    have HC : Hid (∀ W cc, wr.grownBy W none → Calls Tryz.prog 40 #[.slice (some ⟨g, 0, none⟩) k cc, .agg #[.int .i64 L[k].what, .bool L[k].byBand, .bool L[k].byMode]] W fun e w' => e = .returned (.bool ((L.take k).any (jba L[k]))) ∧ W.grownBy w' none) := fun W cc hW => jco g k cc (L.take k) L[k].what L[k].byBand L[k].byMode W (by rw [List.length_take]; omega) (by omega) (HMAt.out W hW)
    generalize (L.take k).any (jba L[k]) = MB at *
    generalize L[k].what = x at *
    generalize L[k].byBand = y at *
    generalize L[k].byMode = z2 at *
    obtain ⟨B1, hB1⟩ : ∃ b, qu x 1 5 = b := ⟨_, rfl⟩
    have hO := fun W => xx x 1 5 W
    rw [hB1] at hm1 hO
    have HO := Lib.hid hO
    rw [hm1] at hst
    have HST := Lib.hid hst
    have hB := Blk.new wr 38 #[.int .i64 x, .bool y, .bool z2]
    have hgA := World.grownBy_alloc wr (.cells #[.int .i64 x, .bool y, .bool z2] 38) none
    have hBC1 := hBC.grown hgA (by simp)
    clear hst hm1 hB1 hO HN HMAt hBC
    go_upto_region 21 with fail
    generalize wr.alloc (.cells #[.int .i64 x, .bool y, .bool z2] 38) = w5 at *
    generalize wr.heap.size = gE at *
    clear q0 q1 q2
    have k0 := hB.cell 0
    have k1 := hB.cell 1
    have k2 := hB.cell 2
    have c6 := hBC1.cell 6
    simp only [geA, geZ, geS] at k0 k1 k2 c6
    go_wp2_with fail
    refine (HO.out _).mono ?_
    rintro _ _ ⟨rfl, rfl⟩
    cases B1
    rotate_left
    ·have HR : Hid (E = 4) := by show _ = _; have h := HST.out; simpa using h
     go_wp2_with fail
     go_ret
     exact ⟨ji HR.out.symm, ja hg hgA⟩
    go_upto_region 23 with fail
    refine wp_region_held_drew (S := fun V => V.cell? ⟨gE, 0, none⟩ = some (.int .i64 x) ∧ V.cell? ⟨gE, 1, none⟩ = some (.bool y) ∧ V.cell? ⟨gE, 2, none⟩ = some (.bool z2) ∧ V.cell? ⟨gC, 6, none⟩ = some (.slice (some ⟨g, 0, none⟩) L.length mc)) (by kernel_rfl) ⟨k0, k1, k2, c6⟩ (fun hHeld => ?_)
    refine tkH 0 80 hHeld ?_
    simp only [Act.put, ssA, ssZ, ssS]
    refine tkH 1 81 hHeld ?_
    simp only [Act.put, ssA, ssZ, ssS]
    refine tkH 2 82 hHeld ?_
    simp only [Act.put, ssA, ssZ, ssS]
    refine tkH 3 83 hHeld ?_
    simp only [Act.put, ssA, ssZ, ssS]
    refine tkH 4 84 hHeld ?_
    simp only [Act.put, ssA, ssZ, ssS]
    refine wpAnyH_ready (rs := [5]) (by kernel_rfl) (by simp) ?_
    refine AllReadyH.cons (o := _) rfl (fun K hK => ?_) AllReadyH.nil
    go_simp
    (go_at_call 40; refine (HC.out _ _ (ja hgA (jn (jf _ _)))).mono ?_; rintro _ w6 ⟨rfl, hg6⟩; have hg56 : w5.grownBy w6 none := ja (jn (jf w5 none)) hg6)
    refine hK.out _ _ ⟨hg56.cell k0 (by simp), hg56.cell k1 (by simp), hg56.cell k2 (by simp), hg56.cell c6 (by simp)⟩ (fun hHeld5 => ?_)
    clear hK K
    (try simp only [Act.put, ssA, ssZ, ssS])
    refine tkH 6 79 hHeld5 ?_
    simp only [Act.put, ssA, ssZ, ssS]
    refine wpAnyH_done (by kernel_rfl) ?_ _
    have hgE := ja (ja hg hgA) hg56
    have hBC6 := hBC1.grown hg56 (by simp)
    cases MB
    rotate_left
    ·have HR : Hid (E = 6) := by show _ = _; have h := HST.out; simpa using h
     go_wp2_with fail
     go_ret
     exact ⟨ji HR.out.symm, hgE⟩
    have HR : Hid (E = jbb (L.take (k + 1)) (L.drop (k + 1))) := by show _ = _; have h := HST.out; simpa using h
    go_wp2_with fail
    go_roundw
    case rel => exact ⟨k + 1, by omega, by go_num, HR, hBC6, hgE⟩
    case measure => simp [intOf]; omega
   have hkl : ¬ (k : Int) < (L.length : Int) := by omega
   have HR : Hid (E = 0) := by show _ = _; rw [HN.out, show k = L.length by omega, jf4]
   go_wp2_with fail
   go_ret
   exact ⟨ji HR.out.symm, hg⟩
def jhs (l : List Ent) (s : ByteArray) : Ent := (xi l s).getD ⟨⟨#[]⟩, 0, 0, 0, 0⟩
def tmA (l : List Ent) (x : Pfx) : Int := max x.a (jhs l x.ent).a
def tmZ (l : List Ent) (x : Pfx) : Int := min x.z (jhs l x.ent).z
structure TabAt (base gT : Nat) (u v : Value) (l : List Ent) (p : List Pfx) (W : World) : Prop where
 cu : W.cell? ⟨gT, 0, none⟩ = some u
 cv : W.cell? ⟨gT, 1, none⟩ = some v
 el : EntsFrom base W u l
 pl : PfxsFrom base W v p
theorem TabAt.grown {base gT : Nat} {u v : Value} {l : List Ent} {p : List Pfx} {W W' : World} (h : TabAt base gT u v l p W) (hg : W.grownBy W' none) : TabAt base gT u v l p W' :=
 ⟨hg.cell h.cu (by simp), hg.cell h.cv (by simp), h.el.grown hg, h.pl.grown hg⟩
structure TabOk (l : List Ent) (p : List Pfx) : Prop where
 ents : EntsOk l
 len : p.length ≤ 2000
 has : ∀ x ∈ p, (xi l x.ent).isSome = true
set_option maxRecDepth 100000 in
set_option maxHeartbeats 4000000 in
theorem jut (base gT : Nat) (u v : Value) (l : List Ent) (p : List Pfx) (k : Nat) (w : World) (hT : TabAt base gT u v l p w) (hO : TabOk l p) (hlt : k < p.length) :
 Calls Tryz.prog 122 #[.pointer (some ⟨gT, 0, none⟩), .int .i64 k] w fun r w' => r = .returned (.agg #[.int .i64 (tmA l p[k]), .int .i64 (tmZ l p[k])]) ∧ w.grownBy w' none := by
 have hR := Blk.new w 29 #[.int .i64 0, .int .i64 0]
 have hg0 := World.grownBy_alloc w (.cells #[.int .i64 0, .int .i64 0] 29) none
 have hT0 := hT.grown hg0
 obtain ⟨A, c, rfl, hlen, hA⟩ := hT0.pl.shape
 obtain ⟨g, rfl, hgb, hgl⟩ := hA (by omega)
 obtain ⟨q0, q1, q2, q3, q4, q5⟩ := hT0.pl.at_ k hlt
 have hhas := hO.has _ (List.getElem_mem hlt)
 obtain ⟨e, he⟩ := Option.isSome_iff_exists.1 hhas
 have HD : Hid (tmA l p[k] = max p[k].a e.a ∧ tmZ l p[k] = min p[k].z e.z) := by
  show _ ∧ _
  unfold tmA tmZ jhs
  rw [he]
  exact ⟨rfl, rfl⟩
 have HAT : Hid (∀ W, w.grownBy W none → Calls Tryz.prog 166 #[u, .string p[k].ent] W fun r w' => ∃ (i : Nat) (gu cu : Nat), r = .returned (.tuple #[.int .i64 i, .bool true]) ∧ u = .slice (some ⟨gu, 0, none⟩) l.length cu ∧ i < l.length ∧ w'.cell? ⟨gu, i * 5, none⟩ = some (.string e.key) ∧ w'.cell? ⟨gu, i * 5 + 1, none⟩ = some (.int .i64 e.cont) ∧ w'.cell? ⟨gu, i * 5 + 2, none⟩ = some (.int .i64 e.zone) ∧ w'.cell? ⟨gu, i * 5 + 3, none⟩ = some (.int .i64 e.a) ∧ w'.cell? ⟨gu, i * 5 + 4, none⟩ = some (.int .i64 e.z) ∧ W.grownBy w' none) := fun W hW =>
  (jb6 base u l p[k].ent W (hT.el.grown hW) hO.ents).mono fun r w' ⟨i, h1, h2, h3⟩ => by
   obtain ⟨hi, hie⟩ := h2 e he
   have hel := hT.el.grown (ja hW h3)
   obtain ⟨A2, c2, hu, _, hA2⟩ := hel.shape
   obtain ⟨gu, rfl, _, _⟩ := hA2 (by omega)
   subst hu
   have hat := hel.at_ i hi
   rw [hie] at hat
   rw [hhas] at h1
   exact ⟨i, gu, c2, h1, rfl, hi, hat.1, hat.2.1, hat.2.2.1, hat.2.2.2.1, hat.2.2.2.2, h3⟩
 have cT0 := hT0.cu
 have cT1 := hT0.cv
 have hki : (k : Int) < (p.length : Int) := by omega
 have hk0 : (0 : Int) ≤ (k : Int) := by omega
 have hll := hO.ents.len
 have hTl : gT < w.heap.size := World.block_lt_of_cell? w _ hT.cu
 obtain ⟨TA, hTA⟩ : ∃ x, tmA l p[k] = x := ⟨_, rfl⟩
 obtain ⟨TZ, hTZ⟩ : ∃ x, tmZ l p[k] = x := ⟨_, rfl⟩
 rw [hTA, hTZ] at HD ⊢
 generalize p[k].beg = B at *
 generalize p[k].ent = N at *
 generalize p[k].a = xa at *
 generalize p[k].z = xz at *
 generalize p[k].whole = H at *
 generalize p[k].zone = Z at *
 clear hTA hTZ hhas he hT hA hO
 go_enter Tryz.func122, Tryz.ntmps122
 go_upto_region 1 with fail
 generalize w.alloc (.cells #[.int .i64 0, .int .i64 0] 29) = w1 at *
 obtain ⟨gR, hgR⟩ : ∃ x, w.heap.size = x := ⟨_, rfl⟩
 rw [hgR] at hR ⊢
 have HgR := Lib.hid hgR
 have hTl1 : gT < w1.heap.size := by have := hg0.size; omega
 clear hgR
 have hX := Blk.new w1 134 #[.string B, .string N, .int .i64 xa, .int .i64 xz, .bool H, .int .i64 Z]
 have hg1 := World.grownBy_alloc w1 (.cells #[.string B, .string N, .int .i64 xa, .int .i64 xz, .bool H, .int .i64 Z] 134) none
 have hg01 := ja hg0 hg1
 have cU : (w1.alloc (.cells #[.string B, .string N, .int .i64 xa, .int .i64 xz, .bool H, .int .i64 Z] 134)).cell? ⟨gT, 0, none⟩ = some u := hg1.cell cT0 (by simp)
 have hR1 := hR.grown hg1 (by simp)
 go_upto_region 2 with fail
 generalize w1.alloc (.cells #[.string B, .string N, .int .i64 xa, .int .i64 xz, .bool H, .int .i64 Z] 134) = w2 at *
 generalize w1.heap.size = gX at *
 have k1 := hX.cell 1
 simp only [geA, geZ, geS] at k1
 have hXl := hX.lt
 clear cT0 cT1 q0 q1 q2 q3 q4 q5 hR hg0 hg1
 go_wp2_with fail
 refine wp_region_held_drew (S := fun W => W.cell? ⟨gT, 0, none⟩ = some u ∧ W.cell? ⟨gX, 1, none⟩ = some (.string N)) (by kernel_rfl) ⟨cU, k1⟩ (fun hHeld => ?_)
 refine tkH 0 17 hHeld ?_
 simp only [Act.put, ssA, ssZ, ssS]
 refine tkH 1 18 hHeld ?_
 simp only [Act.put, ssA, ssZ, ssS]
 refine tkH 2 19 hHeld ?_
 simp only [Act.put, ssA, ssZ, ssS]
 refine tkH 3 20 hHeld ?_
 simp only [Act.put, ssA, ssZ, ssS]
 refine tkH 4 21 hHeld ?_
 simp only [Act.put, ssA, ssZ, ssS]
 refine tkH 5 22 hHeld ?_
 simp only [Act.put, ssA, ssZ, ssS]
 refine wpAnyH_ready (rs := [6]) (by kernel_rfl) (by simp) ?_
 refine AllReadyH.cons (o := _) rfl (fun K hK => ?_) AllReadyH.nil
 go_simp
 (go_at_call 166; refine (HAT.out _ (jn hg01)).mono ?_; rintro _ w3 ⟨i, gu, cu, rfl, hu, hi, a0, a1, a2, a3, a4, hg3⟩; have hX3 := Blk.grown (row := none) hX.drew hg3 (by simp); have hR3 := Blk.grown (row := none) hR1.drew hg3 (by simp); have cU3 := hg3.cell (show w2.drew.cell? _ = _ from cU) (by simp))
 refine hK.out _ _ ⟨cU3, hX3.cell 1⟩ (fun hHeld6 => ?_)
 clear hK K
 (try simp only [Act.put, ssA, ssZ, ssS])
 refine tkH 7 16 hHeld6 ?_
 simp only [Act.put, ssA, ssZ, ssS]
 refine tkH 8 24 hHeld6 ?_
 simp only [Act.put, ssA, ssZ, ssS]
 refine tkH 9 25 hHeld6 ?_
 simp only [Act.put, ssA, ssZ, ssS]
 refine tkH 10 6 hHeld6 ?_
 simp only [Act.put, ssA, ssZ, ssS]
 refine tkH 11 7 hHeld6 ?_
 simp only [Act.put, ssA, ssZ, ssS]
 refine wpAnyH_done (by kernel_rfl) ?_ _
 subst hu
 have hgE := ja (jn hg01) hg3
 have x2 := hX3.cell 2
 have x3 := hX3.cell 3
 simp only [geA, geZ, geS] at x2 x3
 have hii : (i : Int) < (l.length : Int) := by omega
 have hi0 : (0 : Int) ≤ (i : Int) := by omega
 obtain ⟨r0, r1⟩ := Blk.cells2 (g := gR) hR3
 have rf := Blk.free (g := gR) hR3
 have hRl3 := Blk.lt (g := gR) hR3
 have hXl3 := Blk.lt (g := gX) hX3
 have hgu3 : gu < w3.heap.size := World.block_lt_of_cell? w3 _ a0
 have hTl3 : gT < w3.heap.size := World.block_lt_of_cell? w3 _ cU3
 have hmx : max xa e.a = TA := HD.out.1.symm
 have hmn : min xz e.z = TZ := HD.out.2.symm
 generalize e.a = ea at *
 generalize e.z = ez at *
 have hY := Blk.new w3 29 #[.int .i64 ea, .int .i64 ez]
 have hR4 := hR3.alloc (.cells #[.int .i64 ea, .int .i64 ez] 29)
 have hX4 := hX3.alloc (.cells #[.int .i64 ea, .int .i64 ez] 29)
 have hgF := jd hgE (.cells #[.int .i64 ea, .int .i64 ez] 29)
 go_upto_region 4 with fail
 generalize w3.alloc (.cells #[.int .i64 ea, .int .i64 ez] 29) = w4 at *
 generalize w3.heap.size = gY at *
 clear x2 x3 r0 r1 a0 a1 a2 a3 a4
 have x2 := hX4.cell 2
 have x3 := hX4.cell 3
 simp only [geA, geZ, geS] at x2 x3
 obtain ⟨y0, y1⟩ := hY.cells2
 obtain ⟨r0, r1⟩ := hR4.cells2
 have rf4 := hR4.free
 go_wp2_with fail
 obtain ⟨e0, e1⟩ := (hR4.put01 (.int .i64 TA) (.int .i64 TZ)).cells2
 refine bodyPost_ret (v := .agg #[.int .i64 TA, .int .i64 TZ]) (by simp [results, Tryz.results122, go_sem, e0, e1]) rfl ?_
 have hw := HgR.out
 exact ⟨rfl, jg (p := ⟨gR, 1, none⟩) (jg (p := ⟨gR, 0, none⟩) hgF (.inr (by show _ ≤ gR; omega)) (.int .i64 TA)) (.inr (by show _ ≤ gR; omega)) (.int .i64 TZ)⟩
def jtt (l : List Ent) (x : Pfx) : Int := if x.zone ≠ 0 then x.zone else (jhs l x.ent).zone
set_option maxRecDepth 100000 in
set_option maxHeartbeats 4000000 in
theorem jrg (base gT : Nat) (u v : Value) (l : List Ent) (p : List Pfx) (k : Nat) (w : World) (hT : TabAt base gT u v l p w) (hO : TabOk l p) (hlt : k < p.length) :
 Calls Tryz.prog 99 #[.pointer (some ⟨gT, 0, none⟩), .int .i64 k] w fun r w' => r = .returned (.agg #[.string p[k].ent, .int .i64 (jhs l p[k].ent).cont, .int .i64 (jtt l p[k])]) ∧ w.grownBy w' none := by
 have hR := Blk.new w 53 #[.string ⟨#[]⟩, .int .i64 0, .int .i64 0]
 have hg0 := World.grownBy_alloc w (.cells #[.string ⟨#[]⟩, .int .i64 0, .int .i64 0] 53) none
 have hT0 := hT.grown hg0
 obtain ⟨A, c, rfl, hlen, hA⟩ := hT0.pl.shape
 obtain ⟨g, rfl, hgb, hgl⟩ := hA (by omega)
 obtain ⟨q0, q1, q2, q3, q4, q5⟩ := hT0.pl.at_ k hlt
 have hhas := hO.has _ (List.getElem_mem hlt)
 obtain ⟨e, he⟩ := Option.isSome_iff_exists.1 hhas
 have HD : Hid ((jhs l p[k].ent).cont = e.cont ∧ jtt l p[k] = if p[k].zone ≠ 0 then p[k].zone else e.zone) := by
  show _ ∧ _
  unfold jtt jhs
  rw [he]
  exact ⟨rfl, rfl⟩
 have HAT : Hid (∀ W, w.grownBy W none → Calls Tryz.prog 166 #[u, .string p[k].ent] W fun r w' => ∃ (i : Nat) (gu cu : Nat), r = .returned (.tuple #[.int .i64 i, .bool true]) ∧ u = .slice (some ⟨gu, 0, none⟩) l.length cu ∧ i < l.length ∧ w'.cell? ⟨gu, i * 5, none⟩ = some (.string e.key) ∧ w'.cell? ⟨gu, i * 5 + 1, none⟩ = some (.int .i64 e.cont) ∧ w'.cell? ⟨gu, i * 5 + 2, none⟩ = some (.int .i64 e.zone) ∧ w'.cell? ⟨gu, i * 5 + 3, none⟩ = some (.int .i64 e.a) ∧ w'.cell? ⟨gu, i * 5 + 4, none⟩ = some (.int .i64 e.z) ∧ W.grownBy w' none) := fun W hW =>
  (jb6 base u l p[k].ent W (hT.el.grown hW) hO.ents).mono fun r w' ⟨i, h1, h2, h3⟩ => by
   obtain ⟨hi, hie⟩ := h2 e he
   have hel := hT.el.grown (ja hW h3)
   obtain ⟨A2, c2, hu, _, hA2⟩ := hel.shape
   obtain ⟨gu, rfl, _, _⟩ := hA2 (by omega)
   subst hu
   have hat := hel.at_ i hi
   rw [hie] at hat
   rw [hhas] at h1
   exact ⟨i, gu, c2, h1, rfl, hi, hat.1, hat.2.1, hat.2.2.1, hat.2.2.2.1, hat.2.2.2.2, h3⟩
 have cT0 := hT0.cu
 have cT1 := hT0.cv
 have hki : (k : Int) < (p.length : Int) := by omega
 have hk0 : (0 : Int) ≤ (k : Int) := by omega
 have hll := hO.ents.len
 have hTl : gT < w.heap.size := World.block_lt_of_cell? w _ hT.cu
 obtain ⟨TA, hTA⟩ : ∃ x, (jhs l p[k].ent).cont = x := ⟨_, rfl⟩
 obtain ⟨TZ, hTZ⟩ : ∃ x, jtt l p[k] = x := ⟨_, rfl⟩
 rw [hTA, hTZ] at HD ⊢
 generalize p[k].beg = B at *
 generalize p[k].ent = N at *
 generalize p[k].a = xa at *
 generalize p[k].z = xz at *
 generalize p[k].whole = H at *
 generalize p[k].zone = Z at *
 clear hTA hTZ hhas he hT hA hO
 go_enter Tryz.func99, Tryz.ntmps99
 go_upto_region 1 with fail
 generalize w.alloc (.cells #[.string ⟨#[]⟩, .int .i64 0, .int .i64 0] 53) = w1 at *
 obtain ⟨gR, hgR⟩ : ∃ x, w.heap.size = x := ⟨_, rfl⟩
 rw [hgR] at hR ⊢
 have HgR := Lib.hid hgR
 have hTl1 : gT < w1.heap.size := by have := hg0.size; omega
 clear hgR
 have hX := Blk.new w1 134 #[.string B, .string N, .int .i64 xa, .int .i64 xz, .bool H, .int .i64 Z]
 have hg1 := World.grownBy_alloc w1 (.cells #[.string B, .string N, .int .i64 xa, .int .i64 xz, .bool H, .int .i64 Z] 134) none
 have hg01 := ja hg0 hg1
 have cU : (w1.alloc (.cells #[.string B, .string N, .int .i64 xa, .int .i64 xz, .bool H, .int .i64 Z] 134)).cell? ⟨gT, 0, none⟩ = some u := hg1.cell cT0 (by simp)
 have hR1 := hR.grown hg1 (by simp)
 go_upto_region 2 with fail
 generalize w1.alloc (.cells #[.string B, .string N, .int .i64 xa, .int .i64 xz, .bool H, .int .i64 Z] 134) = w2 at *
 generalize w1.heap.size = gX at *
 have k1 := hX.cell 1
 simp only [geA, geZ, geS] at k1
 have hXl := hX.lt
 clear cT0 cT1 q0 q1 q2 q3 q4 q5 hR hg0 hg1
 go_wp2_with fail
 refine wp_region_held_drew (S := fun W => W.cell? ⟨gT, 0, none⟩ = some u ∧ W.cell? ⟨gX, 1, none⟩ = some (.string N)) (by kernel_rfl) ⟨cU, k1⟩ (fun hHeld => ?_)
 refine tkH 0 17 hHeld ?_
 simp only [Act.put, ssA, ssZ, ssS]
 refine tkH 1 18 hHeld ?_
 simp only [Act.put, ssA, ssZ, ssS]
 refine tkH 2 19 hHeld ?_
 simp only [Act.put, ssA, ssZ, ssS]
 refine tkH 3 20 hHeld ?_
 simp only [Act.put, ssA, ssZ, ssS]
 refine tkH 4 21 hHeld ?_
 simp only [Act.put, ssA, ssZ, ssS]
 refine tkH 5 22 hHeld ?_
 simp only [Act.put, ssA, ssZ, ssS]
 refine wpAnyH_ready (rs := [6]) (by kernel_rfl) (by simp) ?_
 refine AllReadyH.cons (o := _) rfl (fun K hK => ?_) AllReadyH.nil
 go_simp
 (go_at_call 166; refine (HAT.out _ (jn hg01)).mono ?_; rintro _ w3 ⟨i, gu, cu, rfl, hu, hi, a0, a1, a2, a3, a4, hg3⟩; have hX3 := Blk.grown (row := none) hX.drew hg3 (by simp); have hR3 := Blk.grown (row := none) hR1.drew hg3 (by simp); have cU3 := hg3.cell (show w2.drew.cell? _ = _ from cU) (by simp))
 refine hK.out _ _ ⟨cU3, hX3.cell 1⟩ (fun hHeld6 => ?_)
 clear hK K
 (try simp only [Act.put, ssA, ssZ, ssS])
 refine tkH 7 16 hHeld6 ?_
 simp only [Act.put, ssA, ssZ, ssS]
 refine tkH 8 24 hHeld6 ?_
 simp only [Act.put, ssA, ssZ, ssS]
 refine tkH 9 25 hHeld6 ?_
 simp only [Act.put, ssA, ssZ, ssS]
 refine tkH 10 6 hHeld6 ?_
 simp only [Act.put, ssA, ssZ, ssS]
 refine tkH 11 7 hHeld6 ?_
 simp only [Act.put, ssA, ssZ, ssS]
 refine wpAnyH_done (by kernel_rfl) ?_ _
 subst hu
 have hgE := ja (jn hg01) hg3
 have x1 := Blk.cell (g := gX) hX3 1
 have x5 := Blk.cell (g := gX) hX3 5
 simp only [geA, geZ, geS] at x1 x5
 have hii : (i : Int) < (l.length : Int) := by omega
 have hi0 : (0 : Int) ≤ (i : Int) := by omega
 have hiw : IntKind.i64.wrap (i : Int) = (i : Int) := by rw [IntKind.wrap_i64]; omega
 have hRl3 := Blk.lt (g := gR) hR3
 have hXl3 := Blk.lt (g := gX) hX3
 have hgu3 : gu < w3.heap.size := World.block_lt_of_cell? w3 _ a0
 have hTl3 : gT < w3.heap.size := World.block_lt_of_cell? w3 _ cU3
 have hcn : e.cont = TA := HD.out.1.symm
 have HZN : Hid ((if Z ≠ 0 then Z else e.zone) = TZ) := HD.out.2.symm
 rw [hcn] at a1
 clear HD hcn
 generalize e.zone = EZ at *
 have hne1 := World.new_ne w3 _ cU3
 have hne2 := World.new_ne w3 _ a1
 have hne3 := World.new_ne w3 _ a2
 have hne4 := World.new_ne w3 _ x1
 go_wp2_with fail
 go_cut [8] (fun s wq => ∃ gY, s = .pointer (some ⟨gY, 0, none⟩) ∧ Blk wq gY 53 #[.string N, .int .i64 TA, .int .i64 EZ] ∧ w3.heap.size ≤ gY ∧ w3.grownBy wq none)
 case first =>
  as_aux_lemma =>
   go_region_held3 (fun V => V.cell? ⟨gT, 0, none⟩ = some (.slice (some ⟨gu, 0, none⟩) l.length cu) ∧ V.cell? ⟨gu, i * 5 + 1, none⟩ = some (.int .i64 TA) ∧ V.cell? ⟨gu, i * 5 + 2, none⟩ = some (.int .i64 EZ) ∧ V.cell? ⟨gX, 1, none⟩ = some (.string N)) (go_keep) (first | fail)
   all_goals
    go_wp2_with fail
    go_meet
    exact ⟨_, rfl, (by first | exact Blk.new _ _ _ | exact (Blk.new _ _ _).drew), (by first | exact Nat.le_refl _ | simp), (by repeat (first | exact jf _ _ | assumption | refine jd ?_ _ | refine q9 ?_ _ | refine jn ?_))⟩
 case rest =>
  as_aux_lemma =>
   obtain ⟨gY, rfl, hY, hYs, hg4⟩ := hcut
   rename World => w4
   have hX4 := Blk.grown (row := none) hX3 hg4 (by simp)
   have hR4 := Blk.grown (row := none) hR3 hg4 (by simp)
   have hgF := ja hgE hg4
   have hRY : gR ≠ gY := by omega
   clear a0 a1 a2 a3 a4 x1 x5 hne1 hne2 hne3 hne4
   have x5 := Blk.cell (g := gX) hX4 5
   have y0 := Blk.cell (g := gY) hY 0
   have y1 := Blk.cell (g := gY) hY 1
   have y2 := Blk.cell (g := gY) hY 2
   have r0 := Blk.cell (g := gR) hR4 0
   have r1 := Blk.cell (g := gR) hR4 1
   have r2 := Blk.cell (g := gR) hR4 2
   have yf := Blk.free (g := gY) hY
   have rf := Blk.free (g := gR) hR4
   simp only [geA, geZ, geS] at x5 y0 y1 y2 r0 r1 r2
   have hw := HgR.out
   have HZ2 := HZN
   have HW : Hid (w.heap.size ≤ gR ∧ w.heap.size ≤ gY) := ⟨by omega, by have := hgE.size; omega⟩
   clear hw
   by_cases hz : Z = 0
   ·have hzb : (Z != 0) = false := by simpa using hz
    have hTZ : EZ = TZ := by have := HZN.out; rwa [if_neg (by simpa using hz)] at this
    subst hTZ
    clear HZN HZ2
    go_wp2_with fail
    have hf := ((Blk.put hR4 0 (.string N)).put 1 (.int .i64 TA)).put 2 (.int .i64 EZ)
    simp only [List.setIfInBounds_toArray, List.set_cons_zero, List.set_cons_succ] at hf
    have e0 := Blk.cell (g := gR) hf 0
    have e1 := Blk.cell (g := gR) hf 1
    have e2 := Blk.cell (g := gR) hf 2
    simp only [geA, geZ, geS] at e0 e1 e2
    refine bodyPost_ret (v := .agg #[.string N, .int .i64 TA, .int .i64 EZ]) (by simp [results, Tryz.results99, go_sem, e0, e1, e2]) rfl ?_
    exact ⟨rfl, jg (p := ⟨gR, 2, none⟩) (jg (p := ⟨gR, 1, none⟩) (jg (p := ⟨gR, 0, none⟩) hgF (.inr HW.out.1) (.string N)) (.inr HW.out.1) (.int .i64 TA)) (.inr HW.out.1) (.int .i64 EZ)⟩
   have hzb : (Z != 0) = true := by simpa using hz
   have hTZ : Z = TZ := by have := HZN.out; rwa [if_pos hz] at this
   subst hTZ
   clear HZN HZ2
   have hY5 := Blk.put hY 2 (.int .i64 Z)
   have hR5 := Blk.far hR4 (p := ⟨gY, 2, none⟩) hRY (.int .i64 Z)
   simp only [List.setIfInBounds_toArray, List.set_cons_zero, List.set_cons_succ] at hY5
   have hgG := jg (p := (⟨gY, 2, none⟩ : Addr)) hgF (.inr HW.out.2) (.int .i64 Z)
   go_upto_region 6 with fail
   generalize w4.setCell ⟨gY, 2, none⟩ (.int .i64 Z) = w5 at *
   clear y0 y1 y2 r0 r1 r2
   have y0 := Blk.cell (g := gY) hY5 0
   have y1 := Blk.cell (g := gY) hY5 1
   have y2 := Blk.cell (g := gY) hY5 2
   have r0 := Blk.cell (g := gR) hR5 0
   have r1 := Blk.cell (g := gR) hR5 1
   have r2 := Blk.cell (g := gR) hR5 2
   have rf5 := Blk.free (g := gR) hR5
   simp only [geA, geZ, geS] at y0 y1 y2 r0 r1 r2
   go_wp2_with fail
   have hf := ((Blk.put hR5 0 (.string N)).put 1 (.int .i64 TA)).put 2 (.int .i64 Z)
   simp only [List.setIfInBounds_toArray, List.set_cons_zero, List.set_cons_succ] at hf
   have e0 := Blk.cell (g := gR) hf 0
   have e1 := Blk.cell (g := gR) hf 1
   have e2 := Blk.cell (g := gR) hf 2
   simp only [geA, geZ, geS] at e0 e1 e2
   refine bodyPost_ret (v := .agg #[.string N, .int .i64 TA, .int .i64 Z]) (by simp [results, Tryz.results99, go_sem, e0, e1, e2]) rfl ?_
   exact ⟨rfl, jg (p := ⟨gR, 2, none⟩) (jg (p := ⟨gR, 1, none⟩) (jg (p := ⟨gR, 0, none⟩) hgG (.inr HW.out.1) (.string N)) (.inr HW.out.1) (.int .i64 TA)) (.inr HW.out.1) (.int .i64 Z)⟩
def qn (js : List Nat) : List Int := js.map fun (j : Nat) => (j : Int)
def jcm (l : List Ent) (p : List Pfx) (x : Int) : List Nat → Int
 | [] => -1
 | j :: r => match p[j]? with
   | none => jcm l p x r
   | some q => if jb3 (tmA l q) (tmZ l q) x then (j : Int) else jcm l p x r
theorem jnt (l : List Ent) (p : List Pfx) (x : Int) (js : List Nat) (k : Nat) (h : k < js.length) (hj : js[k] < p.length) : jcm l p x (js.drop k) = if jb3 (tmA l p[js[k]]) (tmZ l p[js[k]]) x then (js[k] : Int) else jcm l p x (js.drop (k + 1)) := by
 rw [List.drop_eq_getElem_cons h]
 show (match p[js[k]]? with
  | none => jcm l p x (js.drop (k + 1))
  | some q => if jb3 (tmA l q) (tmZ l q) x then (js[k] : Int) else jcm l p x (js.drop (k + 1))) = _
 rw [List.getElem?_eq_getElem hj]
set_option maxRecDepth 100000 in
set_option maxHeartbeats 4000000 in
theorem jem (base base2 gT : Nat) (u v s : Value) (l : List Ent) (p : List Pfx) (js : List Nat) (x : Int) (w : World) (hT : TabAt base gT u v l p w) (hO : TabOk l p) (hs : IntsFrom base2 w s (qn js)) (hjs : ∀ j ∈ js, j < p.length) :
 Calls Tryz.prog 98 #[.pointer (some ⟨gT, 0, none⟩), s, .int .i64 x] w fun r w' => r = .returned (.int .i64 (jcm l p x js)) ∧ w.grownBy w' none := by
 obtain ⟨A, c, rfl, hlen, hA⟩ := hs.shape
 have hml : (qn js).length = js.length := by simp [qn]
 have HS := Lib.hid hs
 have HA := Lib.hid hA
 have HT := Lib.hid hT
 rw [hml] at HS HA hlen ⊢
 have HE : Hid (jcm l p x js = jcm l p x (js.drop 0)) := rfl
 clear hs hA hT
 go_enter Tryz.func98, Tryz.ntmps98
 go_wp2_with fail
 go_loopw [11] (fun iv wr => ∃ k : Nat, k ≤ js.length ∧ iv = .int .i64 k ∧ Hid (jcm l p x js = jcm l p x (js.drop k)) ∧ w.grownBy wr none) (fun iv _ => js.length - (intOf iv).toNat)
 case atStart => exact ⟨0, by omega, rfl, HE, jf _ _⟩
 case round =>
  obtain ⟨k, hk, rfl, HN, hg⟩ := hrel
  by_cases hlt : k < js.length
  ·have hki : (k : Int) < (js.length : Int) := by omega
   obtain ⟨g, rfl, _, hgl⟩ := HA.out (by omega)
   have hat := IntsFrom.at_ (l := qn js) (g := g) (c := c) (by rw [hml]; exact HS.out.grown hg) k (by omega)
   have hjl := hjs _ (List.getElem_mem hlt)
   have hst := jnt l p x js k hlt hjl
   rw [← HN.out] at hst
   rw [show (qn js)[k]'(by omega) = (js[k] : Int) by simp [qn]] at hat
   have HTM := Lib.hid (jut base gT u v l p js[k] wr (HT.out.grown hg) hO hjl)
   have HHA := Lib.hid (fun W => jdc (tmA l p[js[k]]) (tmZ l p[js[k]]) x W)
   generalize tmA l p[js[k]] = TA at *
   generalize tmZ l p[js[k]] = TZ at *
   generalize js[k] = J at *
   by_cases hh : jb3 TA TZ x = true
   ·have HR : Hid (jcm l p x js = (J : Int)) := by show _ = _; rw [hst, if_pos hh]
    rw [hh] at HHA
    clear hst hh
    go_wp2_with fail
    refine HTM.out.mono ?_
    rintro _ w2 ⟨rfl, hg2⟩
    go_wp2_with fail
    refine (HHA.out _).mono ?_
    rintro _ w3 ⟨rfl, hg3⟩
    go_wp2_with fail
    go_ret
    exact ⟨ji HR.out.symm, ja (ja hg hg2) hg3⟩
   have HR : Hid (jcm l p x js = jcm l p x (js.drop (k + 1))) := by show _ = _; rw [hst, if_neg hh]
   have hh2 : jb3 TA TZ x = false := by simpa using hh
   rw [hh2] at HHA
   clear hst hh hh2
   go_wp2_with fail
   refine HTM.out.mono ?_
   rintro _ w2 ⟨rfl, hg2⟩
   go_wp2_with fail
   refine (HHA.out _).mono ?_
   rintro _ w3 ⟨rfl, hg3⟩
   go_wp2_with fail
   go_roundw
   case rel => exact ⟨k + 1, by omega, by go_num, HR, ja (ja hg hg2) hg3⟩
   case measure => simp [intOf]; omega
  obtain rfl : k = js.length := by omega
  have hkl : ¬ (js.length : Int) < (js.length : Int) := by omega
  have HR : Hid (jcm l p x js = -1) := by show _ = _; rw [HN.out, List.drop_length]; rfl
  go_wp2_with fail
  go_ret
  exact ⟨ji HR.out.symm, hg⟩
def jns (l : List Ent) (x : Pfx) (t : Int) : Bool := jb3 x.a x.z t && jb3 (jhs l x.ent).a (jhs l x.ent).z t
theorem jtn (l : List Ent) (x : Pfx) (t : Int) : jb3 (tmA l x) (tmZ l x) t = jns l x t := by
 unfold jns tmA tmZ jb3
 rw [← Bool.decide_and, decide_eq_decide]
 omega
def jtx (l : List Ent) (place : ByteArray) (t but : Int) (k : Nat) (x : Pfx) : Bool := decide ((k : Int) ≠ but) && (!x.whole && (jns l x t && Lib.hasPrefix place.data.toList x.beg.data.toList))
def jwg (p : List Pfx) (b : Int) : Nat := match p[b.toNat]? with | none => 0 | some y => y.beg.size
def jbu (l : List Ent) (p : List Pfx) (place : ByteArray) (t but : Int) : Nat → Int
 | 0 => -1
 | k + 1 => match p[k]? with
   | none => jbu l p place t but k
   | some x => if jtx l place t but k x && (decide (jbu l p place t but k < 0) || decide (jwg p (jbu l p place t but k) < x.beg.size)) then (k : Int) else jbu l p place t but k
theorem jk6 (l : List Ent) (p : List Pfx) (place : ByteArray) (t but : Int) : ∀ k : Nat, -1 ≤ jbu l p place t but k ∧ jbu l p place t but k < k
 | 0 => by unfold jbu; omega
 | k + 1 => by
   have ih := jk6 l p place t but k
   unfold jbu
   split
   ·omega
   split <;> omega
theorem jmd (l : List Ent) (p : List Pfx) (place : ByteArray) (t but : Int) (k : Nat) (h : k < p.length) : jbu l p place t but (k + 1) = if jtx l place t but k p[k] && (decide (jbu l p place t but k < 0) || decide (jwg p (jbu l p place t but k) < p[k].beg.size)) then (k : Int) else jbu l p place t but k := by
 show (match p[k]? with | none => _ | some x => _) = _
 rw [List.getElem?_eq_getElem h]
def jca (t pre suf ad : ByteArray) (kd : Int) : ByteArray := if kd = 1 then ad else if kd = 2 then pre.extract 0 (pre.size - 1) ++ ad ++ suf else t
set_option maxRecDepth 100000 in
set_option maxHeartbeats 2000000 in
theorem jkd (t pre suf ad : ByteArray) (kd : Int) (w : World) (h1 : pre.size ≤ 100) (h2 : suf.size ≤ 100) (h3 : ad.size ≤ 100) (h4 : 1 ≤ pre.size) :
 Calls Tryz.prog 101 #[.agg #[.string t, .string pre, .string suf, .int .i64 kd, .string ad]] w fun r w' => r = .returned (.string (jca t pre suf ad kd)) ∧ w.grownBy w' none := by
 have hB := Blk.new w 87 #[.string t, .string pre, .string suf, .int .i64 kd, .string ad]
 have hg := World.grownBy_alloc w (.cells #[.string t, .string pre, .string suf, .int .i64 kd, .string ad] 87) none
 by_cases k1 : kd = 1
 ·have HP : Hid (jca t pre suf ad kd = ad) := by show _ = _; unfold jca; rw [if_pos k1]
  rw [HP.out]
  subst k1
  go_enter Tryz.func101, Tryz.ntmps101
  go_upto_region 1 with fail
  generalize w.alloc (.cells #[.string t, .string pre, .string suf, .int .i64 1, .string ad] 87) = w1 at *
  have x3 := hB.cell 3
  have x4 := hB.cell 4
  simp only [geA, geZ, geS] at x3 x4
  go_wp2_with fail
  go_ret
  exact ⟨rfl, hg⟩
 by_cases k2 : kd = 2
 ·have HP : Hid (jca t pre suf ad kd = pre.extract 0 (pre.size - 1) ++ ad ++ suf) := by show _ = _; unfold jca; rw [if_neg k1, if_pos k2]
  rw [HP.out]
  obtain ⟨M, hM⟩ : ∃ M, pre.size - 1 = M := ⟨_, rfl⟩
  rw [hM]
  have e1 : IntKind.i64.wrap ((pre.size : Int) - 1) = (M : Int) := by rw [IntKind.wrap_i64]; omega
  have e2 : IntKind.i64.wrap (M : Int) = (M : Int) := by rw [IntKind.wrap_i64]; omega
  have m1 : (M : Int) ≤ (pre.size : Int) := by omega
  have m2 : M ≤ pre.size := by omega
  have m0 : (0 : Int) ≤ (M : Int) := by omega
  have hs1 : (pre.extract 0 M).size + ad.size ≤ 9223372036854775807 := by rw [ByteArray.size_extract]; omega
  have hs2 : (pre.extract 0 M ++ ad).size + suf.size ≤ 9223372036854775807 := by rw [ByteArray.size_append, ByteArray.size_extract]; omega
  have hs3 : ¬ 9223372036854775807 < M + ad.size := by omega
  have hs4 : ¬ 9223372036854775807 < M + ad.size + suf.size := by omega
  subst k2
  have HM := Lib.hid hM
  clear k1 HP hM
  go_enter Tryz.func101, Tryz.ntmps101
  go_upto_region 1 with fail
  generalize w.alloc (.cells #[.string t, .string pre, .string suf, .int .i64 2, .string ad] 87) = w1 at *
  generalize w.heap.size = gX at *
  have x1 := hB.cell 1
  have x2 := hB.cell 2
  have x3 := hB.cell 3
  have x4 := hB.cell 4
  simp only [geA, geZ, geS] at x1 x2 x3 x4
  go_wp2_with fail
  refine wp_region_held_drew (S := fun W => W.cell? ⟨gX, 1, none⟩ = some (.string pre) ∧ W.cell? ⟨gX, 2, none⟩ = some (.string suf) ∧ W.cell? ⟨gX, 4, none⟩ = some (.string ad)) (by kernel_rfl) ⟨x1, x2, x4⟩ (fun hHeld => ?_)
  refine tkH 0 11 hHeld ?_
  simp only [Act.put, ssA, ssZ, ssS]
  refine tkH 1 12 hHeld ?_
  simp only [Act.put, ssA, ssZ, ssS]
  refine tkH 2 13 hHeld ?_
  simp only [Act.put, ssA, ssZ, ssS]
  refine tkH 3 14 hHeld ?_
  simp only [Act.put, ssA, ssZ, ssS]
  refine tkH 4 15 hHeld ?_
  simp only [Act.put, ssA, ssZ, ssS]
  refine tkH 5 16 hHeld ?_
  simp only [Act.put, ssA, ssZ, ssS]
  refine tkH 6 17 hHeld ?_
  simp only [Act.put, ssA, ssZ, ssS]
  refine tkH 7 18 hHeld ?_
  simp only [Act.put, ssA, ssZ, ssS]
  refine tkH 8 19 hHeld ?_
  simp only [Act.put, ssA, ssZ, ssS]
  refine tkH 9 20 hHeld ?_
  simp only [Act.put, ssA, ssZ, ssS]
  refine tkH 10 21 hHeld ?_
  simp only [Act.put, ssA, ssZ, ssS]
  refine tkH 11 22 hHeld ?_
  simp only [Act.put, ssA, ssZ, ssS]
  refine tkH 12 23 hHeld ?_
  simp only [Act.put, ssA, ssZ, ssS]
  refine tkH 13 2 hHeld ?_
  simp only [Act.put, ssA, ssZ, ssS]
  refine wpAnyH_done (by kernel_rfl) ?_ _
  go_wp2_with fail
  go_ret
  exact ⟨rfl, jn hg⟩
 have HP : Hid (jca t pre suf ad kd = t) := by show _ = _; unfold jca; rw [if_neg k1, if_neg k2]
 rw [HP.out]
 have b1 : (kd == 1) = false := by simpa using k1
 have b2 : (kd == 2) = false := by simpa using k2
 clear k1 k2
 go_enter Tryz.func101, Tryz.ntmps101
 go_upto_region 1 with fail
 generalize w.alloc (.cells #[.string t, .string pre, .string suf, .int .i64 kd, .string ad] 87) = w1 at *
 have x0 := hB.cell 0
 have x3 := hB.cell 3
 simp only [geA, geZ, geS] at x0 x3
 go_wp2_with fail
 go_ret
 exact ⟨rfl, hg⟩
abbrev Fnd := ByteArray × Int × Int
def jgw (l : List Ent) (x : Pfx) : Fnd := ((jhs l x.ent).key, (jhs l x.ent).cont, jtt l x)
def jwt (l : List Ent) (s : ByteArray) (t : Int) (x : Pfx) : Bool := x.whole && (decide (x.beg = s) && jns l x t)
def jp2 (l : List Ent) (p : List Pfx) (s : ByteArray) (t : Int) : Option Pfx := p.find? (jwt l s t)
def jle (l : List Ent) (p : List Pfx) (t : Int) (q : ByteArray × Nat × Int × ByteArray) : Option Fnd :=
 if q.2.2.1 = 5 ∨ q.2.2.1 = 6 then none
 else if jbu l p (jca q.1 (q.1.extract 0 (q.2.1 + 1)) (q.1.extract (q.2.1 + 1) q.1.size) q.2.2.2 q.2.2.1) t (-1) p.length < 0 then none
 else (p[(jbu l p (jca q.1 (q.1.extract 0 (q.2.1 + 1)) (q.1.extract (q.2.1 + 1) q.1.size) q.2.2.2 q.2.2.1) t (-1) p.length).toNat]?).map (jgw l)
def jgv (l : List Ent) (p : List Pfx) (s : ByteArray) (t : Int) (q : ByteArray × Nat × Int × ByteArray) : Option Fnd :=
 match jp2 l p s t with
 | some x => some (jgw l x)
 | none => jle l p t q
def x8 : Fnd := (⟨#[]⟩, 0, 0)
def jva (o : Option Fnd) (r : Ending) : Prop := r = .returned (.tuple #[.agg #[.string (o.getD x8).1, .int .i64 (o.getD x8).2.1, .int .i64 (o.getD x8).2.2], .bool o.isSome])
end Go.Proofs.YtbamhgaghngjiaaGreatDoor
