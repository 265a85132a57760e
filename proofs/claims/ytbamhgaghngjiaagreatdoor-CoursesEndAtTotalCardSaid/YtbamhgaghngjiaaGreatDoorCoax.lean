/- The jm9 jo1 the law CoursesEndAtTotal: it answers true whatever numbers come in. Condition: asciiSpace and the powers of ten are Go's own tables, MaxLen holds a number. -/
import Derived.Test.YtbamhgaghngjiaaGreatDoorCoav
import Derived.Test.YtbamhgaghngjiaaGreatDoorCoaw
namespace Go.Proofs.YtbamhgaghngjiaaGreatDoor
open Go.RowKit
set_option linter.unusedVariables false
set_option linter.unusedSimpArgs false

theorem jnx {l : List Con} (h : qm l = 0) {y : Con} (hy : y ∈ l) : qm [y] = 0 := by
 have h1 := (jgr h).2 y hy
 unfold qm
 rw [if_neg (by simp)]
 exact jhg zq fun z hz => by rw [List.mem_singleton.1 hz]; exact h1
theorem jnw {l : List Con} {y : Con} (h : qm l = 0) (hy : qm [y] = 0) (hl : l.length ≤ 1000) : qm (l ++ [y]) = 0 := by
 have h1 := (jgr h).2
 have h2 := (jgr hy).2
 unfold qm
 rw [if_neg (by rw [List.length_append]; simp; omega)]
 refine jhg zq fun z hz => ?_
 rcases List.mem_append.1 hz with hz | hz
 ·exact h1 z hz
 exact h2 z hz
theorem IntsFrom.last {base : Nat} {w : World} {g c n : Nat} {l : List Int} {t : Int} (h : IntsFrom base w (.slice (some ⟨g, 0, none⟩) n c) (l ++ [t])) (hn : n = l.length + 1) : w.cell? ⟨g, l.length, none⟩ = some (.int .i64 t) := by
 have e : n = (l ++ [t]).length := by rw [hn, List.length_append]; rfl
 rw [e] at h
 have := IntsFrom.at_ h l.length (by rw [List.length_append]; simp)
 simpa using this
set_option maxRecDepth 100000 in
set_option maxHeartbeats 64000000 in
theorem jl0 (A : Option Addr) (n c : Nat) (w : World) (hin : InX w A n) (hgl : Gl w.heap.size w) (hpp : P10 w.heap.size w) :
 Calls Tryz.prog 4 #[.slice A n c] w fun r w' => r = .returned (.bool true) ∧ Below w.heap.size w w' := by
 obtain ⟨j0, hj, hy01, hy02, hy03⟩ := info_parts jgq
 obtain ⟨hn, L, hL, hcell⟩ := hin
 have hG0 := World.grownBy_alloc w (.cells #[.slice A n c, .int .i64 0] 25) none
 have sA := SX.start hn hL hcell hG0 (Blk.new w _ _) (Nat.le_refl _)
 have HGL := Lib.hid hgl
 have HPP := Lib.hid hpp
 clear hn hL hcell hgl hpp
 go_enter Tryz.func4, Tryz.ntmps4
 go_wp2_with fail
 generalize w.alloc (.cells #[.slice A n c, .int .i64 0] 25) = W0 at *
 obtain ⟨b, hb⟩ : ∃ b, w.heap.size = b := ⟨_, rfl⟩
 rw [hb] at sA HGL HPP ⊢
 have HB := Lib.hid hb
 obtain ⟨B1, hB1⟩ : ∃ B1, W0.heap.size = B1 := ⟨_, rfl⟩
 have hbB : b < B1 := by rw [← hB1]; exact sA.lt
 have HBB := Lib.hid hbB
 have HRC := Lib.hid (jfm b b L 0 W0 sA (by decide))
 unfold jku at HRC
 rw [hB1] at HRC
 have HBS := Lib.hid hB1
 clear hb hB1 sA hbB
 refine HRC.out.mono ?_
 rintro _ w1 ⟨u, v, rv, mv, C, k1, HR, rfl, hC, hCs, hbeg, hfin, hown, hl6, hp24, hr4, hm5, hk0, hk1, sA1, hg1⟩
 have hG1 : w.grownBy w1 none := jk hG0 hg1 (fun g e => by injection e with e; exact .inr (by have := HB.out; omega))
 have HSZ1 : Hid (B1 ≤ w1.heap.size) := by show _ ≤ _; rw [← HBS.out]; exact hg1.size
 have hs1 := sA1.str
 have HCS := Lib.hid hCs
 clear hG0 hg1 HR HRC sA1 hCs hl6 hp24 hr4 hm5 hown
 go_wp2_with fail
 refine (jb4 b k1 8 (by decide) w1 hs1 (by omega)).mono ?_
 rintro _ w2 ⟨xv, x, rfl, hx, hxl, hxs, hx0, hs2, hg2⟩
 have hC2a : CstFrom B1 w2 u v rv mv C := ⟨EntsFrom.other hC.ents hg2 HBB.out, PfxsFrom.other hC.pfxs hg2 HBB.out, RulsFrom.other hC.ruls hg2 HBB.out, MulsFrom.other hC.muls hg2 HBB.out⟩
 have hG2a : w.grownBy w2 none := jk hG1 hg2 (fun g e => by injection e with e; exact .inr (by have := HB.out; omega))
 obtain ⟨B2, hB2⟩ : ∃ x, w1.heap.size = x := ⟨_, rfl⟩
 rw [hB2] at hx
 have hsz2 : B2 ≤ w2.heap.size := by rw [← hB2]; exact hg2.size
 have HSZ : Hid (B1 ≤ B2) := by show _ ≤ _; rw [← hB2]; exact HSZ1.out
 have hbB2 : b < B2 := Nat.lt_of_lt_of_le HBB.out HSZ.out
 have HBB2 := Lib.hid hbB2
 clear hG1 hg2 hC hs1 hB2 hbB2
 go_wp2_with fail
 refine (jb4 b (k1 + 12000) 1 (by decide) w2 hs2 (by omega)).mono ?_
 rintro _ w3 ⟨yv, y, rfl, hy, hyl, hys, hy0, hs3, hg3⟩
 have hC3 : CstFrom B1 w3 u v rv mv C := ⟨EntsFrom.other hC2a.ents hg3 HBB.out, PfxsFrom.other hC2a.pfxs hg3 HBB.out, RulsFrom.other hC2a.ruls hg3 HBB.out, MulsFrom.other hC2a.muls hg3 HBB.out⟩
 have hx3 : ConsFrom B2 w3 xv x := ConsFrom.other hx hg3 HBB2.out
 have hG3 : w.grownBy w3 none := jk hG2a hg3 (fun g e => by injection e with e; exact .inr (by have := HB.out; omega))
 have hy3 : ConsFrom B2 w3 yv y := jq hy hsz2
 have hsz3 : w2.heap.size ≤ w3.heap.size := hg3.size
 clear hG2a hg3 hC2a hs2 hs3 hx hy
 obtain ⟨XA, xc, rfl, hxn, hXA⟩ := hx3.shape
 obtain ⟨YA, yc, rfl, hyn, hYA⟩ := hy3.shape
 obtain ⟨UA, uc, rfl, _, _⟩ := hC3.ents.shape
 obtain ⟨VA, vc, rfl, _, _⟩ := hC3.pfxs.shape
 obtain ⟨RA, rc, rfl, _, _⟩ := hC3.ruls.shape
 obtain ⟨MA, mc, rfl, _, _⟩ := hC3.muls.shape
 have HRD : Hid (∀ W, w.grownBy W none → Calls Tryz.prog 18 #[] W fun r w' => r = .returned (.bool true) ∧ W.grownBy w' none) := fun W hW => jo8 b W (HGL.out.quiet hW)
 have HCF : Hid (∀ W, w3.grownBy W none → Calls Tryz.prog 9 #[.agg #[.slice UA C.ents.length uc, .slice VA C.pfxs.length vc, .string C.own, .int .i64 C.beg, .int .i64 C.fin, .slice RA C.ruls.length rc, .slice MA C.muls.length mc, .bool C.byMode]] W fun r w' => r = .returned (.int .i64 (jfw C)) ∧ W.grownBy w' none) := fun W hW => jdz B1 _ _ _ _ C W (hC3.grown hW) HCS.out
 have HC3 := Lib.hid hC3
 have HX3 : Hid (∀ W, w3.grownBy W none → ConsFrom B1 W (.slice XA x.length xc) x) := fun W hW => jq (hx3.grown hW) HSZ.out
 have HY3 := Lib.hid hy3
 have HXS := Lib.hid hxs
 have HYS := Lib.hid hys
 have HB1 : Hid (B1 ≤ w3.heap.size) := Nat.le_trans HSZ.out (Nat.le_trans hsz2 hsz3)
 obtain ⟨T1, hT1⟩ : ∃ z, jm8 (j5 C.ents C.pfxs) C x = z := ⟨_, rfl⟩
 obtain ⟨a0, a1, a2, ea⟩ := jd4 (j5 C.ents C.pfxs) C x
 rw [hT1] at ea
 have HS1 : Hid (jfw C = 0 → ∀ W, w3.grownBy W none → Calls Tryz.prog 13 #[.agg #[.slice UA C.ents.length uc, .slice VA C.pfxs.length vc, .string C.own, .int .i64 C.beg, .int .i64 C.fin, .slice RA C.ruls.length rc, .slice MA C.muls.length mc, .bool C.byMode], .slice XA x.length xc] W fun e w' => e = .returned (.tuple #[.agg #[.int .i64 a0, .int .i64 a1, .int .i64 a2, .int .i64 T1], .int .i64 0]) ∧ W.grownBy w' none) := fun h W hW => by
  have hR := jag HCS.out hxs h hx0
  rw [← ea]
  exact jll B1 b _ _ _ _ C _ x W (HC3.out.grown hW) HCS.out (HX3.out W hW) hxs hR.E hR.len hR.beg hR.tm (by omega) hR.ok (HPP.out.grown (ja hG3 hW)) hR.nam hR.pts hR.nms
 have HTB : Hid (jfw C = 0 → 0 ≤ T1 ∧ T1 ≤ 100000000) := fun h => by
  have hR := jag HCS.out hxs h hx0
  rw [← hT1]
  exact jhn hR (by omega)
 have HCR : Hid (jfw C = 0 → ∀ W, w3.grownBy W none → Calls Tryz.prog 19 #[.agg #[.slice UA C.ents.length uc, .slice VA C.pfxs.length vc, .string C.own, .int .i64 C.beg, .int .i64 C.fin, .slice RA C.ruls.length rc, .slice MA C.muls.length mc, .bool C.byMode], .slice XA x.length xc, .int .i64 60000] W fun e w' => ∃ v o, e = .returned (.tuple #[v, .int .i64 0]) ∧ IntsFrom W.heap.size w' v (o ++ [T1]) ∧ o.length ≤ 10 ∧ W.grownBy w' none) := fun h W hW => by
  have hR := jag HCS.out hxs h hx0
  have hti := (jsn h).2.2.1
  have htb : 0 ≤ C.beg ∧ C.beg < C.fin := by
   unfold jaj at hti
   cases hb : xu C.beg C.fin with
   | true =>
     unfold xu at hb
     rw [decide_eq_true_eq] at hb
     exact ⟨hb.1, hb.2.1⟩
   | false => rw [hb] at hti; simp at hti
  rw [← hT1]
  exact jnz B1 b _ _ _ _ C _ x W (HC3.out.grown hW) HCS.out (HX3.out W hW) hxs hR (by omega) (HPP.out.grown (ja hG3 hW)) htb.1 htb.2 (by rcases hfin with h | h | h <;> omega)
 have HWD : Hid (jfw C = 0 → ∀ (y0 : Con) (hy : y0 ∈ y), ∃ (T2 d0 d1 d2 : Int), (0 ≤ T2 ∧ T2 ≤ 100000000) ∧ (∀ W, w3.grownBy W none → Calls Tryz.prog 20 #[.agg #[.slice UA C.ents.length uc, .slice VA C.pfxs.length vc, .string C.own, .int .i64 C.beg, .int .i64 C.fin, .slice RA C.ruls.length rc, .slice MA C.muls.length mc, .bool C.byMode], .slice XA x.length xc, .agg #[.int .i64 y0.tm, .int .i64 y0.mode, .string y0.band, .string y0.call, .int .i64 y0.sent, .int .i64 y0.heard, .string y0.gave, .string y0.got]] W fun e w' => e = .returned (.tuple #[.int .i64 (T2 - T1), .int .i64 0]) ∧ W.grownBy w' none) ∧ (∀ uv W, w3.grownBy W none → ConsFrom w3.heap.size W uv (x ++ [y0]) → Calls Tryz.prog 13 #[.agg #[.slice UA C.ents.length uc, .slice VA C.pfxs.length vc, .string C.own, .int .i64 C.beg, .int .i64 C.fin, .slice RA C.ruls.length rc, .slice MA C.muls.length mc, .bool C.byMode], uv] W fun e w' => e = .returned (.tuple #[.agg #[.int .i64 d0, .int .i64 d1, .int .i64 d2, .int .i64 T2], .int .i64 0]) ∧ W.grownBy w' none)) := fun h y0 hy => by
  have hR := jag HCS.out hxs h hx0
  have hye := jnx hy0 hy
  have hyy := hys y0 hy
  have hxs2 : ∀ z ∈ x ++ [y0], zy z := fun z hz => by
   rcases List.mem_append.1 hz with hz | hz
   ·exact hxs z hz
   rw [List.mem_singleton.1 hz]; exact hyy
  have hx2 := jnw hx0 hye (by omega)
  have hR2 := jag HCS.out hxs2 h hx2
  have hl2 : (x ++ [y0]).length < 20 := by simp; omega
  obtain ⟨d0, d1, d2, ed⟩ := jd4 (j5 C.ents C.pfxs) C (x ++ [y0])
  refine ⟨jm8 (j5 C.ents C.pfxs) C (x ++ [y0]), d0, d1, d2, jhn hR2 hl2, fun W hW => ?_, fun uv W hW hu => ?_⟩
  ·rw [← hT1]
   exact jsk B1 b _ _ _ _ C _ x y0 W (HC3.out.grown hW) HCS.out (HX3.out W hW) hxs (Nat.le_trans HB1.out hW.size) hR hR2 (by omega) hye hyy (HPP.out.grown (ja hG3 hW))
  rw [← ed]
  exact jll B1 b _ _ _ _ C _ (x ++ [y0]) W (HC3.out.grown hW) HCS.out (jq hu HB1.out) hxs2 hR2.E hR2.len hR2.beg hR2.tm hl2 hR2.ok (HPP.out.grown (ja hG3 hW)) hR2.nam hR2.pts hR2.nms
 have HCL : Hid (∀ W, w3.grownBy W none → Calls Tryz.prog 21 #[.slice XA x.length xc] W fun e w' => ∃ u, e = .returned u ∧ ConsFrom W.heap.size w' u x ∧ W.grownBy w' none) := fun W hW => jh2 B1 _ x W (HX3.out W hW) (by omega)
 clear hT1 ea hC3 hx3 hy3 hxs hys hx0 hy0 hbeg hfin hXA
 generalize jfw C = E at *
 generalize C.own = own at *
 generalize C.beg = bg at *
 generalize C.fin = fn at *
 generalize C.byMode = bm at *
 have hBc := Blk.new w3 33 #[.slice UA C.ents.length uc, .slice VA C.pfxs.length vc, .string own, .int .i64 bg, .int .i64 fn, .slice RA C.ruls.length rc, .slice MA C.muls.length mc, .bool bm]
 have hg4 := World.grownBy_alloc w3 (.cells #[.slice UA C.ents.length uc, .slice VA C.pfxs.length vc, .string own, .int .i64 bg, .int .i64 fn, .slice RA C.ruls.length rc, .slice MA C.muls.length mc, .bool bm] 33) none
 go_upto_region 3 with fail
 generalize w3.alloc (.cells #[.slice UA C.ents.length uc, .slice VA C.pfxs.length vc, .string own, .int .i64 bg, .int .i64 fn, .slice RA C.ruls.length rc, .slice MA C.muls.length mc, .bool bm] 33) = w4 at *
 obtain ⟨gC, hgC⟩ : ∃ g, w3.heap.size = g := ⟨_, rfl⟩
 rw [hgC] at hBc
 (try rw [hgC])
 obtain ⟨k0, k1c, k2c, k3c, k4c, k5c, k6c, k7c⟩ := hBc.cells8
 have HGC := Lib.hid hgC
 clear hgC
 go_wp2_with fail
 refine (HCF.out _ hg4).mono ?_
 rintro _ w5 ⟨rfl, hg5⟩
 have hB5 := hBc.grown hg5 (by simp)
 have hg35 := ja hg4 hg5
 clear k0 k1c k2c k3c k4c k5c k6c k7c hBc hg4 hg5 HCF
 by_cases hE : E = 0
 rotate_left
 ·have e1b : (E == 0) = false := by rw [beq_eq_false_iff_ne]; exact hE
  have e1n : (E != 0) = true := by rw [bne, e1b]; rfl
  have hg05 := ja hG3 hg35
  clear HS1 HCR HWD HTB
  go_wp2_with fail
  refine (HRD.out _ hg05).mono ?_
  rintro _ w6 ⟨rfl, hg6⟩
  go_wp2_with fail
  go_ret
  exact ⟨rfl, jgx (ja hg05 hg6)⟩
 have HSA := Lib.hid (HS1.out hE)
 have HCA := Lib.hid (HCR.out hE)
 have HWA := Lib.hid (HWD.out hE)
 obtain ⟨t0, t1⟩ := HTB.out hE
 subst hE
 obtain ⟨k0, k1c, k2c, k3c, k4c, k5c, k6c, k7c⟩ := hB5.cells8
 clear HS1 HCR HWD HTB
 go_wp2_with fail
 refine (HSA.out _ hg35).mono ?_
 rintro _ w6 ⟨rfl, hg6⟩
 have hT := Blk.new w6 45 #[.int .i64 a0, .int .i64 a1, .int .i64 a2, .int .i64 T1]
 have hgT := World.grownBy_alloc w6 (.cells #[.int .i64 a0, .int .i64 a1, .int .i64 a2, .int .i64 T1] 45) none
 have hB7 := (hB5.grown hg6 (by simp)).grown hgT (by simp)
 have hg37 := ja hg35 (ja hg6 hgT)
 clear k0 k1c k2c k3c k4c k5c k6c k7c hB5 hg35 hg6 hgT HSA
 go_upto_region 6 with fail
 generalize w6.alloc (.cells #[.int .i64 a0, .int .i64 a1, .int .i64 a2, .int .i64 T1] 45) = w7 at *
 obtain ⟨gT, hgT0⟩ : ∃ g, w6.heap.size = g := ⟨_, rfl⟩
 rw [hgT0] at hT
 (try rw [hgT0])
 clear hgT0
 obtain ⟨k0, k1c, k2c, k3c, k4c, k5c, k6c, k7c⟩ := hB7.cells8
 go_wp2_with fail
 refine (HCA.out _ hg37).mono ?_
 rintro _ w8 ⟨ov, o, rfl, hov, hol, hg8⟩
 have hB8 := hB7.grown hg8 (by simp)
 have hT8 := hT.grown hg8 (by simp)
 have hg38 := ja hg37 hg8
 obtain ⟨OA, oc, rfl, _, hOA⟩ := hov.shape
 obtain ⟨LO, hLO⟩ : ∃ z, o.length = z := ⟨_, rfl⟩
 have hlen : (o ++ [T1]).length = LO + 1 := by rw [List.length_append, hLO]; rfl
 rw [hlen] at hov hOA
 (try rw [hlen])
 obtain ⟨gO, rfl, _, _⟩ := hOA (by omega)
 have hlast := IntsFrom.last hov (by rw [hLO])
 rw [hLO] at hlast hol
 have c3 := (j9 hT8).2.2.2
 have HB8 := Lib.hid hB8
 have HT8 := Lib.hid hT8
 clear k0 k1c k2c k3c k4c k5c k6c k7c hB7 hT hg37 hg8 HCA hov hOA hlen hLO hB8 hT8
 go_upto_region 7 with fail
 have HK7 : Hid (∀ V, w8.grownBy V none → V.cell? ⟨gO, LO, none⟩ = some (.int .i64 T1) ∧ V.cell? ⟨gT, 3, none⟩ = some (.int .i64 T1)) := fun V hV => ⟨hV.cell hlast (by simp), hV.cell c3 (by simp)⟩
 clear hlast c3
 have eT : (T1 == T1) = true := by simp
 have eTn : (T1 != T1) = false := by simp
 have eL : ((LO : Int) + 1 == 0) = false := by rw [beq_eq_false_iff_ne]; omega
 have wL : IntKind.i64.wrap (LO : Int) = (LO : Int) := IntWalk.i64_in _ ⟨by omega, by omega⟩
 have hL0 : (0 : Int) ≤ (LO : Int) := by omega
 have hL1 : LO < LO + 1 := by omega
 have hL2 : (LO : Int) < (LO : Int) + 1 := by omega
 refine jx [] (fun V => V.cell? ⟨gO, LO, none⟩ = some (.int .i64 T1) ∧ V.cell? ⟨gT, 3, none⟩ = some (.int .i64 T1)) (by kernel_rfl) ?_
 have hG : w8.grownBy w8.drew none := jn (jf _ _)
 generalize w8.drew = W at *
 revert hG
 revert W
 refine' qf ?hp8_14 ?kp8_14
 case' kp8_14 =>
  intro Hp8_14
  refine' qf ?hp8 ?kp8
 case' kp8 => intro Hp8
 case kp8 =>
  intro W hG
  refine tkA 0 38 (fun _ => HK7.out _ hG) ?_
  simp only [Act.put, ssA, ssZ, ssS]
  refine tkA 1 39 (fun _ => HK7.out _ hG) ?_
  simp only [Act.put, ssA, ssZ, ssS]
  refine tkA 2 40 (fun _ => HK7.out _ hG) ?_
  simp only [Act.put, ssA, ssZ, ssS]
  refine tkA 3 41 (fun _ => HK7.out _ hG) ?_
  simp only [Act.put, ssA, ssZ, ssS]
  refine tkA 4 42 (fun _ => HK7.out _ hG) ?_
  simp only [Act.put, ssA, ssZ, ssS]
  refine tkA 5 43 (fun _ => HK7.out _ hG) ?_
  simp only [Act.put, ssA, ssZ, ssS]
  refine tkA 6 44 (fun _ => HK7.out _ hG) ?_
  simp only [Act.put, ssA, ssZ, ssS]
  refine tkA 7 45 (fun _ => HK7.out _ hG) ?_
  simp only [Act.put, ssA, ssZ, ssS]
  refine je (rs := [8]) (by kernel_rfl) (by simp) ?_
  refine AllLate.cons (o := _) rfl (fun K hK => ?n1) AllLate.nil
  case n1 =>
   go_simp
   refine hK.out _ _ (fun _ => HK7.out _ hG) ?_
   clear hK K
   (try simp only [Act.put, ssA, ssZ, ssS])
   refine jh (listed' := #[true, true, true, true, true, true, true, true, true, false, false, false, false, false, false, false, false, false, false, false, false, false]) (by kernel_rfl) ?_
   revert hG
   revert W
   exact Hp8.out
 case hp8 =>
  intro W hG
  refine tkA 9 47 (fun _ => HK7.out _ hG) ?_
  simp only [Act.put, ssA, ssZ, ssS]
  refine tkA 10 48 (fun _ => HK7.out _ hG) ?_
  simp only [Act.put, ssA, ssZ, ssS]
  refine tkA 11 49 (fun _ => HK7.out _ hG) ?_
  simp only [Act.put, ssA, ssZ, ssS]
  refine tkA 12 50 (fun _ => HK7.out _ hG) ?_
  simp only [Act.put, ssA, ssZ, ssS]
  refine tkA 13 51 (fun _ => HK7.out _ hG) ?_
  simp only [Act.put, ssA, ssZ, ssS]
  refine tkA 18 56 (fun _ => HK7.out _ hG) ?_
  simp only [Act.put, ssA, ssZ, ssS]
  refine tkL 19 57 (HK7.out _ hG) ?_
  simp only [Act.put, ssA, ssZ, ssS]
  refine je (rs := [14]) (by kernel_rfl) (by simp) ?_
  refine AllLate.cons (o := _) rfl (fun K hK => ?n2) AllLate.nil
  case n2 =>
   go_simp
   refine hK.out _ _ (fun _ => HK7.out _ hG) ?_
   clear hK K
   (try simp only [Act.put, ssA, ssZ, ssS])
   refine jh (listed' := #[true, true, true, true, true, true, true, true, true, true, true, true, true, true, true, false, false, false, true, true, false, false]) (by kernel_rfl) ?_
   revert hG
   revert W
   exact Hp8_14.out
 case hp8_14 =>
  intro W hG
  refine tkA 15 53 (fun _ => HK7.out _ hG) ?_
  simp only [Act.put, ssA, ssZ, ssS]
  refine tkA 16 54 (fun _ => HK7.out _ hG) ?_
  simp only [Act.put, ssA, ssZ, ssS]
  refine tkL 17 55 (HK7.out _ hG) ?_
  simp only [Act.put, ssA, ssZ, ssS]
  refine tkA 20 58 (fun _ => HK7.out _ hG) ?_
  simp only [Act.put, ssA, ssZ, ssS]
  refine tkA 21 59 (fun _ => HK7.out _ hG) ?_
  simp only [Act.put, ssA, ssZ, ssS]
  refine qe (by kernel_rfl) ?_ _
  have hg39 := ja hg38 hG
  have hG89 := hG
  clear hG hg38 HK7 eT eTn eL wL hL0 hL1 hL2
  generalize W = w9 at *
  by_cases hy0 : y.length = 0
  ·have hyb : ((y.length : Int) == 0) = true := by rw [beq_iff_eq]; omega
   have hG9 := ja hG3 hg39
   clear hy0 HWA
   go_wp2_with fail
   refine (HRD.out _ hG9).mono ?_
   rintro _ w10 ⟨rfl, hg10⟩
   go_wp2_with fail
   go_ret
   exact ⟨rfl, jgx (ja hG9 hg10)⟩
  have hyb : ((y.length : Int) == 0) = false := by rw [beq_eq_false_iff_ne]; omega
  have hy1 : 0 < y.length := by omega
  have hy1i : (0 : Int) < (y.length : Int) := by omega
  obtain ⟨gY, rfl, _, _⟩ := hYA hy1
  obtain ⟨T2, d0, d1, d2, ⟨u0, u1⟩, HW0, HB0⟩ := HWA.out y[0] (List.getElem_mem hy1)
  have hq := HY3.out.at_ 0 hy1
  simp only [Nat.zero_mul, Nat.zero_add] at hq
  have HKY : Hid (∀ V, w3.grownBy V none → V.cell? ⟨gY, 0, none⟩ = some (.int .i64 y[0].tm) ∧ V.cell? ⟨gY, 1, none⟩ = some (.int .i64 y[0].mode) ∧ V.cell? ⟨gY, 2, none⟩ = some (.string y[0].band) ∧ V.cell? ⟨gY, 3, none⟩ = some (.string y[0].call) ∧ V.cell? ⟨gY, 4, none⟩ = some (.int .i64 y[0].sent) ∧ V.cell? ⟨gY, 5, none⟩ = some (.int .i64 y[0].heard) ∧ V.cell? ⟨gY, 6, none⟩ = some (.string y[0].gave) ∧ V.cell? ⟨gY, 7, none⟩ = some (.string y[0].got)) := fun V hV => ⟨hV.cell hq.1 (by simp), hV.cell hq.2.1 (by simp), hV.cell hq.2.2.1 (by simp), hV.cell hq.2.2.2.1 (by simp), hV.cell hq.2.2.2.2.1 (by simp), hV.cell hq.2.2.2.2.2.1 (by simp), hV.cell hq.2.2.2.2.2.2.1 (by simp), hV.cell hq.2.2.2.2.2.2.2 (by simp)⟩
  have HW := Lib.hid HW0
  have HS2 : Hid (∀ g cap W, w3.grownBy W none → World.ownsRow W w3.heap.size 50 8 (.slice (some ⟨g, 0, none⟩) (x.length + 1) cap) (x.length + 1) (x.flatMap ja6 ++ [.int .i64 y[0].tm, .int .i64 y[0].mode, .string y[0].band, .string y[0].call, .int .i64 y[0].sent, .int .i64 y[0].heard, .string y[0].gave, .string y[0].got]) → Calls Tryz.prog 13 #[.agg #[.slice UA C.ents.length uc, .slice VA C.pfxs.length vc, .string own, .int .i64 bg, .int .i64 fn, .slice RA C.ruls.length rc, .slice MA C.muls.length mc, .bool bm], .slice (some ⟨g, 0, none⟩) (x.length + 1) cap] W fun e w' => e = .returned (.tuple #[.agg #[.int .i64 d0, .int .i64 d1, .int .i64 d2, .int .i64 T2], .int .i64 0]) ∧ W.grownBy w' none) := fun g cap W hW h9 => HB0 _ W hW (by
   show World.ownsRow W w3.heap.size 50 8 _ (x ++ [y[0]]).length ((x ++ [y[0]]).flatMap ja6)
   rw [List.length_append, List.flatMap_append]
   simpa [ja6] using h9)
  clear hq HW0 HB0 hy0 HWA hYA HY3
  generalize y[0].tm = Tm at *
  generalize y[0].mode = Mo at *
  generalize y[0].band = BD at *
  generalize y[0].call = CA at *
  generalize y[0].sent = SE at *
  generalize y[0].heard = HE at *
  generalize y[0].gave = GA at *
  generalize y[0].got = GO at *
  have HK : Hid (∀ V, w9.grownBy V none → V.cell? ⟨gC, 0, none⟩ = some (.slice UA C.ents.length uc) ∧ V.cell? ⟨gC, 1, none⟩ = some (.slice VA C.pfxs.length vc) ∧ V.cell? ⟨gC, 2, none⟩ = some (.string own) ∧ V.cell? ⟨gC, 3, none⟩ = some (.int .i64 bg) ∧ V.cell? ⟨gC, 4, none⟩ = some (.int .i64 fn) ∧ V.cell? ⟨gC, 5, none⟩ = some (.slice RA C.ruls.length rc) ∧ V.cell? ⟨gC, 6, none⟩ = some (.slice MA C.muls.length mc) ∧ V.cell? ⟨gC, 7, none⟩ = some (.bool bm) ∧ V.cell? ⟨gY, 0, none⟩ = some (.int .i64 Tm) ∧ V.cell? ⟨gY, 1, none⟩ = some (.int .i64 Mo) ∧ V.cell? ⟨gY, 2, none⟩ = some (.string BD) ∧ V.cell? ⟨gY, 3, none⟩ = some (.string CA) ∧ V.cell? ⟨gY, 4, none⟩ = some (.int .i64 SE) ∧ V.cell? ⟨gY, 5, none⟩ = some (.int .i64 HE) ∧ V.cell? ⟨gY, 6, none⟩ = some (.string GA) ∧ V.cell? ⟨gY, 7, none⟩ = some (.string GO)) := fun V hV => by
   obtain ⟨q0, q1, q2, q3, q4, q5, q6, q7⟩ := (HB8.out.grown (ja hG89 hV) (by simp)).cells8
   obtain ⟨r0, r1, r2, r3, r4, r5, r6, r7⟩ := HKY.out V (ja hg39 hV)
   exact ⟨q0, q1, q2, q3, q4, q5, q6, q7, r0, r1, r2, r3, r4, r5, r6, r7⟩
  clear HKY
  go_upto_region 11 with fail
  refine jx [] (fun V => V.cell? ⟨gC, 0, none⟩ = some (.slice UA C.ents.length uc) ∧ V.cell? ⟨gC, 1, none⟩ = some (.slice VA C.pfxs.length vc) ∧ V.cell? ⟨gC, 2, none⟩ = some (.string own) ∧ V.cell? ⟨gC, 3, none⟩ = some (.int .i64 bg) ∧ V.cell? ⟨gC, 4, none⟩ = some (.int .i64 fn) ∧ V.cell? ⟨gC, 5, none⟩ = some (.slice RA C.ruls.length rc) ∧ V.cell? ⟨gC, 6, none⟩ = some (.slice MA C.muls.length mc) ∧ V.cell? ⟨gC, 7, none⟩ = some (.bool bm) ∧ V.cell? ⟨gY, 0, none⟩ = some (.int .i64 Tm) ∧ V.cell? ⟨gY, 1, none⟩ = some (.int .i64 Mo) ∧ V.cell? ⟨gY, 2, none⟩ = some (.string BD) ∧ V.cell? ⟨gY, 3, none⟩ = some (.string CA) ∧ V.cell? ⟨gY, 4, none⟩ = some (.int .i64 SE) ∧ V.cell? ⟨gY, 5, none⟩ = some (.int .i64 HE) ∧ V.cell? ⟨gY, 6, none⟩ = some (.string GA) ∧ V.cell? ⟨gY, 7, none⟩ = some (.string GO)) (by kernel_rfl) ?_
  have hG : w9.grownBy w9.drew none := jn (jf _ _)
  generalize w9.drew = W at *
  revert hG
  revert W
  refine' qf ?hq5 ?kq5
  case' kq5 => intro Hq5
  case kq5 =>
   intro W hG
   refine tkL 0 65 (HK.out _ hG) ?_
   simp only [Act.put, ssA, ssZ, ssS]
   refine tkA 1 66 (fun _ => HK.out _ hG) ?_
   simp only [Act.put, ssA, ssZ, ssS]
   refine tkA 2 67 (fun _ => HK.out _ hG) ?_
   simp only [Act.put, ssA, ssZ, ssS]
   refine tkA 3 68 (fun _ => HK.out _ hG) ?_
   simp only [Act.put, ssA, ssZ, ssS]
   refine tkL 4 69 (HK.out _ hG) ?_
   simp only [Act.put, ssA, ssZ, ssS]
   refine je (rs := [5]) (by kernel_rfl) (by simp) ?_
   refine AllLate.cons (o := _) rfl (fun K hK => ?n1) AllLate.nil
   case n1 =>
    go_simp
    (go_at_call 20; refine (HW.out _ (ja hg39 hG)).mono ?_; rintro _ W2 ⟨rfl, hgp⟩)
    replace hG := ja hG hgp
    clear hgp
    refine hK.out _ _ (fun _ => HK.out _ hG) ?_
    clear hK K
    (try simp only [Act.put, ssA, ssZ, ssS])
    refine jh (listed' := #[true, true, true, true, true, true, false, false, false, false, false]) (by kernel_rfl) ?_
    revert hG
    revert W2
    exact Hq5.out
  case hq5 =>
   intro W hG
   refine tkA 6 64 (fun _ => HK.out _ hG) ?_
   simp only [Act.put, ssA, ssZ, ssS]
   refine tkA 7 71 (fun _ => HK.out _ hG) ?_
   simp only [Act.put, ssA, ssZ, ssS]
   refine tkA 8 72 (fun _ => HK.out _ hG) ?_
   simp only [Act.put, ssA, ssZ, ssS]
   refine tkA 9 11 (fun _ => HK.out _ hG) ?_
   simp only [Act.put, ssA, ssZ, ssS]
   refine tkA 10 8 (fun _ => HK.out _ hG) ?_
   simp only [Act.put, ssA, ssZ, ssS]
   refine qe (by kernel_rfl) ?_ _
   have hg310 := ja hg39 hG
   have hg910 := hG
   clear hG HW
   generalize W = w10 at *
   have HK2 : Hid (∀ V, w10.grownBy V none → V.cell? ⟨gC, 0, none⟩ = some (.slice UA C.ents.length uc) ∧ V.cell? ⟨gC, 1, none⟩ = some (.slice VA C.pfxs.length vc) ∧ V.cell? ⟨gC, 2, none⟩ = some (.string own) ∧ V.cell? ⟨gC, 3, none⟩ = some (.int .i64 bg) ∧ V.cell? ⟨gC, 4, none⟩ = some (.int .i64 fn) ∧ V.cell? ⟨gC, 5, none⟩ = some (.slice RA C.ruls.length rc) ∧ V.cell? ⟨gC, 6, none⟩ = some (.slice MA C.muls.length mc) ∧ V.cell? ⟨gC, 7, none⟩ = some (.bool bm) ∧ V.cell? ⟨gY, 0, none⟩ = some (.int .i64 Tm) ∧ V.cell? ⟨gY, 1, none⟩ = some (.int .i64 Mo) ∧ V.cell? ⟨gY, 2, none⟩ = some (.string BD) ∧ V.cell? ⟨gY, 3, none⟩ = some (.string CA) ∧ V.cell? ⟨gY, 4, none⟩ = some (.int .i64 SE) ∧ V.cell? ⟨gY, 5, none⟩ = some (.int .i64 HE) ∧ V.cell? ⟨gY, 6, none⟩ = some (.string GA) ∧ V.cell? ⟨gY, 7, none⟩ = some (.string GO)) := fun V hV => HK.out V (ja hg910 hV)
   clear HK
   obtain ⟨B10, hB10⟩ : ∃ z, w10.heap.size = z := ⟨_, rfl⟩
   have HB10 := Lib.hid hB10
   have hB3 : w3.heap.size ≤ B10 := by rw [← hB10]; exact hg310.size
   have HB3 := Lib.hid hB3
   clear hB10 hB3
   go_upto_region 12 with fail
   refine jx [13] (fun V => V.cell? ⟨gC, 0, none⟩ = some (.slice UA C.ents.length uc) ∧ V.cell? ⟨gC, 1, none⟩ = some (.slice VA C.pfxs.length vc) ∧ V.cell? ⟨gC, 2, none⟩ = some (.string own) ∧ V.cell? ⟨gC, 3, none⟩ = some (.int .i64 bg) ∧ V.cell? ⟨gC, 4, none⟩ = some (.int .i64 fn) ∧ V.cell? ⟨gC, 5, none⟩ = some (.slice RA C.ruls.length rc) ∧ V.cell? ⟨gC, 6, none⟩ = some (.slice MA C.muls.length mc) ∧ V.cell? ⟨gC, 7, none⟩ = some (.bool bm) ∧ V.cell? ⟨gY, 0, none⟩ = some (.int .i64 Tm) ∧ V.cell? ⟨gY, 1, none⟩ = some (.int .i64 Mo) ∧ V.cell? ⟨gY, 2, none⟩ = some (.string BD) ∧ V.cell? ⟨gY, 3, none⟩ = some (.string CA) ∧ V.cell? ⟨gY, 4, none⟩ = some (.int .i64 SE) ∧ V.cell? ⟨gY, 5, none⟩ = some (.int .i64 HE) ∧ V.cell? ⟨gY, 6, none⟩ = some (.string GA) ∧ V.cell? ⟨gY, 7, none⟩ = some (.string GO)) (by kernel_rfl) ?_
   have hG : w10.grownBy w10.drew none := jn (jf _ _)
   generalize w10.drew = W at *
   revert hG
   revert W
   refine' qf ?hr2_6_7_8_12 ?kr2_6_7_8_12
   case' kr2_6_7_8_12 =>
    intro Hr2_6_7_8_12
    refine' qf ?hr2_6_7_8 ?kr2_6_7_8
   case' kr2_6_7_8 =>
    intro Hr2_6_7_8
    refine' qf ?hr2_6_7_12 ?kr2_6_7_12
   case' kr2_6_7_12 =>
    intro Hr2_6_7_12
    refine' qf ?hr2_6_7 ?kr2_6_7
   case' kr2_6_7 =>
    intro Hr2_6_7
    refine' qf ?hr2_6_12 ?kr2_6_12
   case' kr2_6_12 =>
    intro Hr2_6_12
    refine' qf ?hr2_6 ?kr2_6
   case' kr2_6 =>
    intro Hr2_6
    refine' qf ?hr2_12 ?kr2_12
   case' kr2_12 =>
    intro Hr2_12
    refine' qf ?hr6_12 ?kr6_12
   case' kr6_12 =>
    intro Hr6_12
    refine' qf ?hr2 ?kr2
   case' kr2 =>
    intro Hr2
    refine' qf ?hr6 ?kr6
   case' kr6 =>
    intro Hr6
    refine' qf ?hr12 ?kr12
   case' kr12 => intro Hr12
   case kr12 =>
    intro W hG
    refine tkL 0 74 (HK2.out _ hG) ?_
    simp only [Act.put, ssA, ssZ, ssS]
    refine tkA 1 75 (fun _ => HK2.out _ hG) ?_
    simp only [Act.put, ssA, ssZ, ssS]
    refine tkA 3 77 (fun _ => HK2.out _ hG) ?_
    simp only [Act.put, ssA, ssZ, ssS]
    refine tkA 4 78 (fun _ => HK2.out _ hG) ?_
    simp only [Act.put, ssA, ssZ, ssS]
    refine tkL 5 79 (HK2.out _ hG) ?_
    simp only [Act.put, ssA, ssZ, ssS]
    refine je (rs := [2, 6, 12]) (by kernel_rfl) (by simp) ?_
    refine AllLate.cons (o := _) rfl (fun K hK => ?n3) (AllLate.cons (o := _) rfl (fun K hK => ?n2) (AllLate.cons (o := _) rfl (fun K hK => ?n1) AllLate.nil))
    case n3 =>
     go_simp
     (go_at_call 21; refine (HCL.out _ (ja hg310 hG)).mono ?_; rintro _ W2 ⟨ov2, rfl, hO, hgp⟩)
     obtain ⟨NA, nc, rfl, -, -⟩ := hO.shape
     have hOb : B10 ≤ W.heap.size := by rw [← HB10.out]; exact hG.size
     replace hO := jq hO hOb
     clear hOb
     replace hG := ja hG hgp
     clear hgp
     refine hK.out _ _ (fun _ => HK2.out _ hG) ?_
     clear hK K
     (try simp only [Act.put, ssA, ssZ, ssS])
     refine jh (listed' := #[true, true, true, true, true, true, false, false, false, false, false, false, false, false, false]) (by kernel_rfl) ?_
     revert hO
     revert hG
     revert nc
     revert NA
     revert W2
     exact Hr2.out
    case n2 =>
     go_simp
     have hQ := Blk.new W 50 #[.int .i64 Tm, .int .i64 Mo, .string BD, .string CA, .int .i64 SE, .int .i64 HE, .string GA, .string GO]
     have hgp := World.grownBy_alloc W (.cells #[.int .i64 Tm, .int .i64 Mo, .string BD, .string CA, .int .i64 SE, .int .i64 HE, .string GA, .string GO] 50) none
     replace hG := ja hG hgp
     clear hgp
     generalize W.alloc (.cells #[.int .i64 Tm, .int .i64 Mo, .string BD, .string CA, .int .i64 SE, .int .i64 HE, .string GA, .string GO] 50) = W2 at *
     generalize W.heap.size = gQ at *
     refine hK.out _ _ (fun _ => HK2.out _ hG) ?_
     clear hK K
     (try simp only [Act.put, ssA, ssZ, ssS])
     refine jh (listed' := #[true, true, false, true, true, true, true, false, false, false, false, false, false, false, false]) (by kernel_rfl) ?_
     revert hQ
     revert hG
     revert gQ
     revert W2
     exact Hr6.out
    case n1 =>
     go_simp
     have hZ := Blk.new W 45 #[.int .i64 0, .int .i64 0, .int .i64 0, .int .i64 0]
     have hgp := World.grownBy_alloc W (.cells #[.int .i64 0, .int .i64 0, .int .i64 0, .int .i64 0] 45) none
     have hZb : B10 ≤ W.heap.size := by rw [← HB10.out]; exact hG.size
     replace hG := ja hG hgp
     clear hgp
     generalize W.alloc (.cells #[.int .i64 0, .int .i64 0, .int .i64 0, .int .i64 0] 45) = W2 at *
     generalize W.heap.size = gZ at *
     refine hK.out _ _ (fun _ => HK2.out _ hG) ?_
     clear hK K
     (try simp only [Act.put, ssA, ssZ, ssS])
     refine jh (listed' := #[true, true, false, true, true, true, false, false, false, false, false, false, true, false, false]) (by kernel_rfl) ?_
     revert hZ
     revert hZb
     revert hG
     revert gZ
     revert W2
     exact Hr12.out
   case hr12 =>
    intro W gZ hG hZb hZ
    refine je (rs := [2, 6]) (by kernel_rfl) (by simp) ?_
    refine AllLate.cons (o := _) rfl (fun K hK => ?n5) (AllLate.cons (o := _) rfl (fun K hK => ?n4) AllLate.nil)
    case n5 =>
     go_simp
     (go_at_call 21; refine (HCL.out _ (ja hg310 hG)).mono ?_; rintro _ W2 ⟨ov2, rfl, hO, hgp⟩)
     obtain ⟨NA, nc, rfl, -, -⟩ := hO.shape
     have hap : ∀ k, (Value.slice NA x.length nc).ownBlock = some k → k ≠ gZ := fun k e => by have h1 := (World.ownsRow.lt hO k e).1; have h2 := hZ.lt; omega
     have hOb : B10 ≤ W.heap.size := by rw [← HB10.out]; exact hG.size
     replace hO := jq hO hOb
     clear hOb
     replace hZ := hZ.grown hgp (by simp)
     replace hG := ja hG hgp
     clear hgp
     refine hK.out _ _ (fun _ => HK2.out _ hG) ?_
     clear hK K
     (try simp only [Act.put, ssA, ssZ, ssS])
     refine jh (listed' := #[true, true, true, true, true, true, false, false, false, false, false, false, true, false, false]) (by kernel_rfl) ?_
     revert hap
     revert hZ
     revert hZb
     revert hO
     revert hG
     revert gZ
     revert nc
     revert NA
     revert W2
     exact Hr2_12.out
    case n4 =>
     go_simp
     have hQ := Blk.new W 50 #[.int .i64 Tm, .int .i64 Mo, .string BD, .string CA, .int .i64 SE, .int .i64 HE, .string GA, .string GO]
     have hgp := World.grownBy_alloc W (.cells #[.int .i64 Tm, .int .i64 Mo, .string BD, .string CA, .int .i64 SE, .int .i64 HE, .string GA, .string GO] 50) none
     replace hZ := hZ.grown hgp (by simp)
     replace hG := ja hG hgp
     clear hgp
     generalize W.alloc (.cells #[.int .i64 Tm, .int .i64 Mo, .string BD, .string CA, .int .i64 SE, .int .i64 HE, .string GA, .string GO] 50) = W2 at *
     generalize W.heap.size = gQ at *
     refine hK.out _ _ (fun _ => HK2.out _ hG) ?_
     clear hK K
     (try simp only [Act.put, ssA, ssZ, ssS])
     refine jh (listed' := #[true, true, false, true, true, true, true, false, false, false, false, false, true, false, false]) (by kernel_rfl) ?_
     revert hZ
     revert hZb
     revert hQ
     revert hG
     revert gZ
     revert gQ
     revert W2
     exact Hr6_12.out
   case hr6 =>
    intro W gQ hG hQ
    refine je (rs := [2, 12]) (by kernel_rfl) (by simp) ?_
    refine AllLate.cons (o := _) rfl (fun K hK => ?n7) (AllLate.cons (o := _) rfl (fun K hK => ?n6) AllLate.nil)
    case n7 =>
     go_simp
     (go_at_call 21; refine (HCL.out _ (ja hg310 hG)).mono ?_; rintro _ W2 ⟨ov2, rfl, hO, hgp⟩)
     obtain ⟨NA, nc, rfl, -, -⟩ := hO.shape
     have hOb : B10 ≤ W.heap.size := by rw [← HB10.out]; exact hG.size
     replace hO := jq hO hOb
     clear hOb
     replace hQ := hQ.grown hgp (by simp)
     replace hG := ja hG hgp
     clear hgp
     refine hK.out _ _ (fun _ => HK2.out _ hG) ?_
     clear hK K
     (try simp only [Act.put, ssA, ssZ, ssS])
     refine jh (listed' := #[true, true, true, true, true, true, true, false, false, false, false, false, false, false, false]) (by kernel_rfl) ?_
     revert hQ
     revert hO
     revert hG
     revert gQ
     revert nc
     revert NA
     revert W2
     exact Hr2_6.out
    case n6 =>
     go_simp
     have hZ := Blk.new W 45 #[.int .i64 0, .int .i64 0, .int .i64 0, .int .i64 0]
     have hgp := World.grownBy_alloc W (.cells #[.int .i64 0, .int .i64 0, .int .i64 0, .int .i64 0] 45) none
     have hZb : B10 ≤ W.heap.size := by rw [← HB10.out]; exact hG.size
     replace hQ := hQ.grown hgp (by simp)
     replace hG := ja hG hgp
     clear hgp
     generalize W.alloc (.cells #[.int .i64 0, .int .i64 0, .int .i64 0, .int .i64 0] 45) = W2 at *
     generalize W.heap.size = gZ at *
     refine hK.out _ _ (fun _ => HK2.out _ hG) ?_
     clear hK K
     (try simp only [Act.put, ssA, ssZ, ssS])
     refine jh (listed' := #[true, true, false, true, true, true, true, false, false, false, false, false, true, false, false]) (by kernel_rfl) ?_
     revert hZ
     revert hZb
     revert hQ
     revert hG
     revert gZ
     revert gQ
     revert W2
     exact Hr6_12.out
   case hr2 =>
    intro W NA nc hG hO
    refine je (rs := [6, 12]) (by kernel_rfl) (by simp) ?_
    refine AllLate.cons (o := _) rfl (fun K hK => ?n9) (AllLate.cons (o := _) rfl (fun K hK => ?n8) AllLate.nil)
    case n9 =>
     go_simp
     have hQ := Blk.new W 50 #[.int .i64 Tm, .int .i64 Mo, .string BD, .string CA, .int .i64 SE, .int .i64 HE, .string GA, .string GO]
     have hgp := World.grownBy_alloc W (.cells #[.int .i64 Tm, .int .i64 Mo, .string BD, .string CA, .int .i64 SE, .int .i64 HE, .string GA, .string GO] 50) none
     replace hO := ConsFrom.grown hO hgp
     replace hG := ja hG hgp
     clear hgp
     generalize W.alloc (.cells #[.int .i64 Tm, .int .i64 Mo, .string BD, .string CA, .int .i64 SE, .int .i64 HE, .string GA, .string GO] 50) = W2 at *
     generalize W.heap.size = gQ at *
     refine hK.out _ _ (fun _ => HK2.out _ hG) ?_
     clear hK K
     (try simp only [Act.put, ssA, ssZ, ssS])
     refine jh (listed' := #[true, true, true, true, true, true, true, false, false, false, false, false, false, false, false]) (by kernel_rfl) ?_
     revert hQ
     revert hO
     revert hG
     revert gQ
     revert nc
     revert NA
     revert W2
     exact Hr2_6.out
    case n8 =>
     go_simp
     have hZ := Blk.new W 45 #[.int .i64 0, .int .i64 0, .int .i64 0, .int .i64 0]
     have hgp := World.grownBy_alloc W (.cells #[.int .i64 0, .int .i64 0, .int .i64 0, .int .i64 0] 45) none
     have hZb : B10 ≤ W.heap.size := by rw [← HB10.out]; exact hG.size
     have hap : ∀ k, (Value.slice NA x.length nc).ownBlock = some k → k ≠ W.heap.size := fun k e => by have h1 := (World.ownsRow.lt hO k e).2; omega
     replace hO := ConsFrom.grown hO hgp
     replace hG := ja hG hgp
     clear hgp
     generalize W.alloc (.cells #[.int .i64 0, .int .i64 0, .int .i64 0, .int .i64 0] 45) = W2 at *
     generalize W.heap.size = gZ at *
     refine hK.out _ _ (fun _ => HK2.out _ hG) ?_
     clear hK K
     (try simp only [Act.put, ssA, ssZ, ssS])
     refine jh (listed' := #[true, true, true, true, true, true, false, false, false, false, false, false, true, false, false]) (by kernel_rfl) ?_
     revert hap
     revert hZ
     revert hZb
     revert hO
     revert hG
     revert gZ
     revert nc
     revert NA
     revert W2
     exact Hr2_12.out
   case hr6_12 =>
    intro W gQ gZ hG hQ hZb hZ
    refine je (rs := [2]) (by kernel_rfl) (by simp) ?_
    refine AllLate.cons (o := _) rfl (fun K hK => ?n10) AllLate.nil
    case n10 =>
     go_simp
     (go_at_call 21; refine (HCL.out _ (ja hg310 hG)).mono ?_; rintro _ W2 ⟨ov2, rfl, hO, hgp⟩)
     obtain ⟨NA, nc, rfl, -, -⟩ := hO.shape
     have hap : ∀ k, (Value.slice NA x.length nc).ownBlock = some k → k ≠ gZ := fun k e => by have h1 := (World.ownsRow.lt hO k e).1; have h2 := hZ.lt; omega
     have hOb : B10 ≤ W.heap.size := by rw [← HB10.out]; exact hG.size
     replace hO := jq hO hOb
     clear hOb
     replace hQ := hQ.grown hgp (by simp)
     replace hZ := hZ.grown hgp (by simp)
     replace hG := ja hG hgp
     clear hgp
     refine hK.out _ _ (fun _ => HK2.out _ hG) ?_
     clear hK K
     (try simp only [Act.put, ssA, ssZ, ssS])
     refine jh (listed' := #[true, true, true, true, true, true, true, false, false, false, false, false, true, false, false]) (by kernel_rfl) ?_
     revert hap
     revert hZ
     revert hZb
     revert hQ
     revert hO
     revert hG
     revert gZ
     revert gQ
     revert nc
     revert NA
     revert W2
     exact Hr2_6_12.out
   case hr2_12 =>
    intro W NA nc gZ hG hO hZb hZ hap
    refine je (rs := [6]) (by kernel_rfl) (by simp) ?_
    refine AllLate.cons (o := _) rfl (fun K hK => ?n11) AllLate.nil
    case n11 =>
     go_simp
     have hQ := Blk.new W 50 #[.int .i64 Tm, .int .i64 Mo, .string BD, .string CA, .int .i64 SE, .int .i64 HE, .string GA, .string GO]
     have hgp := World.grownBy_alloc W (.cells #[.int .i64 Tm, .int .i64 Mo, .string BD, .string CA, .int .i64 SE, .int .i64 HE, .string GA, .string GO] 50) none
     replace hO := ConsFrom.grown hO hgp
     replace hZ := hZ.grown hgp (by simp)
     replace hG := ja hG hgp
     clear hgp
     generalize W.alloc (.cells #[.int .i64 Tm, .int .i64 Mo, .string BD, .string CA, .int .i64 SE, .int .i64 HE, .string GA, .string GO] 50) = W2 at *
     generalize W.heap.size = gQ at *
     refine hK.out _ _ (fun _ => HK2.out _ hG) ?_
     clear hK K
     (try simp only [Act.put, ssA, ssZ, ssS])
     refine jh (listed' := #[true, true, true, true, true, true, true, false, false, false, false, false, true, false, false]) (by kernel_rfl) ?_
     revert hap
     revert hZ
     revert hZb
     revert hQ
     revert hO
     revert hG
     revert gZ
     revert gQ
     revert nc
     revert NA
     revert W2
     exact Hr2_6_12.out
   case hr2_6 =>
    intro W NA nc gQ hG hO hQ
    refine je (rs := [7, 12]) (by kernel_rfl) (by simp) ?_
    refine AllLate.cons (o := _) rfl (fun K hK => ?n13) (AllLate.cons (o := _) rfl (fun K hK => ?n12) AllLate.nil)
    case n13 =>
     have hsz : B10 ≤ W.heap.size := by rw [← HB10.out]; exact hG.size
     have hRO : World.ownsRow W B10 50 8 (.slice NA x.length nc) x.length (x.flatMap ja6) := hO
     refine step_append_lies _ (by rfl) (.tmp 76) (.tmp 80) 35 (by rfl) B10 50 j0 _ 8 96 Tryz.underlying35 hj hy01 hy02 hy03 rfl (by decide) _ _ _ (by rfl) hRO ⟨gQ, 0, none⟩ 1 1 [.int .i64 Tm, .int .i64 Mo, .string BD, .string CA, .int .i64 SE, .int .i64 HE, .string GA, .string GO] (by rfl) rfl (World.news_of_block hQ) (jek Tm Mo SE HE BD CA GA GO) (by decide) (by unfold maxLen; omega) (by omega) hsz _ rfl ?_
     intro g9 cap W2 hU hg9 hat hglt
     replace hG : w10.grownBy W2 none := jk hG hg9 (fun g e => .inr (by have := (World.ownsRow.lt hRO g e).1; have := HB10.out; omega))
     clear hRO hO hQ hg9 hat hglt hsz
     refine hK.out _ _ (fun _ => HK2.out _ hG) ?_
     clear hK K
     (try simp only [Act.put, ssA, ssZ, ssS])
     refine jh (listed' := #[true, true, true, true, true, true, true, true, false, false, false, false, false, false, false]) (by kernel_rfl) ?_
     revert hU
     revert hG
     revert cap
     revert g9
     revert gQ
     revert nc
     revert NA
     revert W2
     exact Hr2_6_7.out
    case n12 =>
     go_simp
     have hZ := Blk.new W 45 #[.int .i64 0, .int .i64 0, .int .i64 0, .int .i64 0]
     have hgp := World.grownBy_alloc W (.cells #[.int .i64 0, .int .i64 0, .int .i64 0, .int .i64 0] 45) none
     have hZb : B10 ≤ W.heap.size := by rw [← HB10.out]; exact hG.size
     have hap : ∀ k, (Value.slice NA x.length nc).ownBlock = some k → k ≠ W.heap.size := fun k e => by have h1 := (World.ownsRow.lt hO k e).2; omega
     replace hO := ConsFrom.grown hO hgp
     replace hQ := hQ.grown hgp (by simp)
     replace hG := ja hG hgp
     clear hgp
     generalize W.alloc (.cells #[.int .i64 0, .int .i64 0, .int .i64 0, .int .i64 0] 45) = W2 at *
     generalize W.heap.size = gZ at *
     refine hK.out _ _ (fun _ => HK2.out _ hG) ?_
     clear hK K
     (try simp only [Act.put, ssA, ssZ, ssS])
     refine jh (listed' := #[true, true, true, true, true, true, true, false, false, false, false, false, true, false, false]) (by kernel_rfl) ?_
     revert hap
     revert hZ
     revert hZb
     revert hQ
     revert hO
     revert hG
     revert gZ
     revert gQ
     revert nc
     revert NA
     revert W2
     exact Hr2_6_12.out
   case hr2_6_12 =>
    intro W NA nc gQ gZ hG hO hQ hZb hZ hap
    refine je (rs := [7]) (by kernel_rfl) (by simp) ?_
    refine AllLate.cons (o := _) rfl (fun K hK => ?n14) AllLate.nil
    case n14 =>
     have hsz : B10 ≤ W.heap.size := by rw [← HB10.out]; exact hG.size
     have hRO : World.ownsRow W B10 50 8 (.slice NA x.length nc) x.length (x.flatMap ja6) := hO
     refine step_append_lies _ (by rfl) (.tmp 76) (.tmp 80) 35 (by rfl) B10 50 j0 _ 8 96 Tryz.underlying35 hj hy01 hy02 hy03 rfl (by decide) _ _ _ (by rfl) hRO ⟨gQ, 0, none⟩ 1 1 [.int .i64 Tm, .int .i64 Mo, .string BD, .string CA, .int .i64 SE, .int .i64 HE, .string GA, .string GO] (by rfl) rfl (World.news_of_block hQ) (jek Tm Mo SE HE BD CA GA GO) (by decide) (by unfold maxLen; omega) (by omega) hsz _ rfl ?_
     intro g9 cap W2 hU hg9 hat hglt
     replace hZ := hZ.grown hg9 (fun e => hap gZ e.symm rfl)
     clear hap
     replace hG : w10.grownBy W2 none := jk hG hg9 (fun g e => .inr (by have := (World.ownsRow.lt hRO g e).1; have := HB10.out; omega))
     clear hRO hO hQ hg9 hat hglt hsz
     refine hK.out _ _ (fun _ => HK2.out _ hG) ?_
     clear hK K
     (try simp only [Act.put, ssA, ssZ, ssS])
     refine jh (listed' := #[true, true, true, true, true, true, true, true, false, false, false, false, true, false, false]) (by kernel_rfl) ?_
     revert hZ
     revert hZb
     revert hU
     revert hG
     revert gZ
     revert cap
     revert g9
     revert gQ
     revert nc
     revert NA
     revert W2
     exact Hr2_6_7_12.out
   case hr2_6_7 =>
    intro W NA nc gQ g9 cap hG hU
    refine je (rs := [8, 12]) (by kernel_rfl) (by simp) ?_
    refine AllLate.cons (o := _) rfl (fun K hK => ?n16) (AllLate.cons (o := _) rfl (fun K hK => ?n15) AllLate.nil)
    case n16 =>
     go_simp
     (go_at_call 13; refine (HS2.out g9 cap _ (ja hg310 hG) (jq hU HB3.out)).mono ?_; rintro _ W2 ⟨rfl, hgp⟩)
     replace hG := ja hG hgp
     clear hgp hU
     refine hK.out _ _ (fun _ => HK2.out _ hG) ?_
     clear hK K
     (try simp only [Act.put, ssA, ssZ, ssS])
     refine jh (listed' := #[true, true, true, true, true, true, true, true, true, false, false, false, false, false, false]) (by kernel_rfl) ?_
     revert hG
     revert cap
     revert g9
     revert gQ
     revert nc
     revert NA
     revert W2
     exact Hr2_6_7_8.out
    case n15 =>
     go_simp
     have hZ := Blk.new W 45 #[.int .i64 0, .int .i64 0, .int .i64 0, .int .i64 0]
     have hgp := World.grownBy_alloc W (.cells #[.int .i64 0, .int .i64 0, .int .i64 0, .int .i64 0] 45) none
     have hZb : B10 ≤ W.heap.size := by rw [← HB10.out]; exact hG.size
     replace hU := j7 hU hgp
     replace hG := ja hG hgp
     clear hgp
     generalize W.alloc (.cells #[.int .i64 0, .int .i64 0, .int .i64 0, .int .i64 0] 45) = W2 at *
     generalize W.heap.size = gZ at *
     refine hK.out _ _ (fun _ => HK2.out _ hG) ?_
     clear hK K
     (try simp only [Act.put, ssA, ssZ, ssS])
     refine jh (listed' := #[true, true, true, true, true, true, true, true, false, false, false, false, true, false, false]) (by kernel_rfl) ?_
     revert hZ
     revert hZb
     revert hU
     revert hG
     revert gZ
     revert cap
     revert g9
     revert gQ
     revert nc
     revert NA
     revert W2
     exact Hr2_6_7_12.out
   case hr2_6_7_12 =>
    intro W NA nc gQ g9 cap gZ hG hU hZb hZ
    refine je (rs := [8]) (by kernel_rfl) (by simp) ?_
    refine AllLate.cons (o := _) rfl (fun K hK => ?n17) AllLate.nil
    case n17 =>
     go_simp
     (go_at_call 13; refine (HS2.out g9 cap _ (ja hg310 hG) (jq hU HB3.out)).mono ?_; rintro _ W2 ⟨rfl, hgp⟩)
     replace hZ := hZ.grown hgp (by simp)
     replace hG := ja hG hgp
     clear hgp hU
     refine hK.out _ _ (fun _ => HK2.out _ hG) ?_
     clear hK K
     (try simp only [Act.put, ssA, ssZ, ssS])
     refine tkA 9 73 (fun _ => HK2.out _ hG) ?_
     simp only [Act.put, ssA, ssZ, ssS]
     refine tkA 10 83 (fun _ => HK2.out _ hG) ?_
     simp only [Act.put, ssA, ssZ, ssS]
     refine tkA 11 84 (fun _ => HK2.out _ hG) ?_
     simp only [Act.put, ssA, ssZ, ssS]
     refine jh (listed' := #[true, true, true, true, true, true, true, true, true, true, true, true, true, false, false]) (by kernel_rfl) ?_
     revert hZ
     revert hZb
     revert hG
     revert gZ
     revert cap
     revert g9
     revert gQ
     revert nc
     revert NA
     revert W2
     exact Hr2_6_7_8_12.out
   case hr2_6_7_8 =>
    intro W NA nc gQ g9 cap hG
    refine tkA 9 73 (fun _ => HK2.out _ hG) ?_
    simp only [Act.put, ssA, ssZ, ssS]
    refine tkA 10 83 (fun _ => HK2.out _ hG) ?_
    simp only [Act.put, ssA, ssZ, ssS]
    refine tkA 11 84 (fun _ => HK2.out _ hG) ?_
    simp only [Act.put, ssA, ssZ, ssS]
    refine je (rs := [12]) (by kernel_rfl) (by simp) ?_
    refine AllLate.cons (o := _) rfl (fun K hK => ?n18) AllLate.nil
    case n18 =>
     go_simp
     have hZ := Blk.new W 45 #[.int .i64 0, .int .i64 0, .int .i64 0, .int .i64 0]
     have hgp := World.grownBy_alloc W (.cells #[.int .i64 0, .int .i64 0, .int .i64 0, .int .i64 0] 45) none
     have hZb : B10 ≤ W.heap.size := by rw [← HB10.out]; exact hG.size
     replace hG := ja hG hgp
     clear hgp
     generalize W.alloc (.cells #[.int .i64 0, .int .i64 0, .int .i64 0, .int .i64 0] 45) = W2 at *
     generalize W.heap.size = gZ at *
     refine hK.out _ _ (fun _ => HK2.out _ hG) ?_
     clear hK K
     (try simp only [Act.put, ssA, ssZ, ssS])
     refine jh (listed' := #[true, true, true, true, true, true, true, true, true, true, true, true, true, false, false]) (by kernel_rfl) ?_
     revert hZ
     revert hZb
     revert hG
     revert gZ
     revert cap
     revert g9
     revert gQ
     revert nc
     revert NA
     revert W2
     exact Hr2_6_7_8_12.out
   case hr2_6_7_8_12 =>
    intro W NA nc gQ g9 cap gZ hG hZb hZ
    have z0 := hZ.free 0
    have z1 := hZ.free 1
    have z2 := hZ.free 2
    have z3 := hZ.free 3
    obtain ⟨r0, r1, r2, r3⟩ := j9 hZ
    have HZ : Hid (Blk ((((W.setCell ⟨gZ, 0, none⟩ (.int .i64 d0)).setCell ⟨gZ, 1, none⟩ (.int .i64 d1)).setCell ⟨gZ, 2, none⟩ (.int .i64 d2)).setCell ⟨gZ, 3, none⟩ (.int .i64 T2)) gZ 45 #[.int .i64 d0, .int .i64 d1, .int .i64 d2, .int .i64 T2]) := (((hZ.put 0 _).put 1 _).put 2 _).put 3 _
    have hZw : w10.heap.size ≤ gZ := by rw [HB10.out]; exact hZb
    have HGZ : Hid (w10.grownBy ((((W.setCell ⟨gZ, 0, none⟩ (.int .i64 d0)).setCell ⟨gZ, 1, none⟩ (.int .i64 d1)).setCell ⟨gZ, 2, none⟩ (.int .i64 d2)).setCell ⟨gZ, 3, none⟩ (.int .i64 T2)) none) := jg (p := ⟨gZ, 3, none⟩) (jg (p := ⟨gZ, 2, none⟩) (jg (p := ⟨gZ, 1, none⟩) (jg (p := ⟨gZ, 0, none⟩) hG (.inr hZw) _) (.inr hZw) _) (.inr hZw) _) (.inr hZw) _
    refine je (rs := [13]) (by kernel_rfl) (by simp) ?_
    refine AllLate.cons (o := _) rfl (fun K hK => ?_) AllLate.nil
    go_simp
    refine hK.out _ _ (fun h => Bool.noConfusion (show false = true from h)) ?_
    clear hK K
    (try simp only [Act.put, ssA, ssZ, ssS])
    refine tkA 14 10 (fun h => Bool.noConfusion (show false = true from h)) ?_
    simp only [Act.put, ssA, ssZ, ssS]
    refine qe (by kernel_rfl) ?_ _
    generalize ((((W.setCell ⟨gZ, 0, none⟩ (.int .i64 d0)).setCell ⟨gZ, 1, none⟩ (.int .i64 d1)).setCell ⟨gZ, 2, none⟩ (.int .i64 d2)).setCell ⟨gZ, 3, none⟩ (.int .i64 T2)) = w11 at *
    clear z0 z1 z2 z3 r0 r1 r2 r3 hZ hZb hZw hG HK2 HCL HS2
    have hq3 := (j9 HZ.out).2.2.2
    have hG811 := ja hG89 (ja hg910 HGZ.out)
    have ht3 := (j9 (HT8.out.grown hG811 (by simp))).2.2.2
    have hG11 := ja hG3 (ja hg310 HGZ.out)
    have eD : (T2 - T1 == T2 - T1) = true := by simp
    go_wp2_with fail
    refine (HRD.out _ hG11).mono ?_
    rintro _ w12 ⟨rfl, hg12⟩
    go_wp2_with fail
    go_ret
    exact ⟨rfl, jgx (ja hG11 hg12)⟩
end Go.Proofs.YtbamhgaghngjiaaGreatDoor
