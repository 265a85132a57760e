/- The jjq jlx the law TopTidyScoresTheSame: it answers true whatever numbers come in. Condition: asciiSpace and the powers of ten are Go's own tables, MaxLen holds a number. -/
import Derived.Test.YtbamhgaghngjiaaGreatDoorSxaj
import Derived.Test.YtbamhgaghngjiaaGreatDoorSxay
namespace Go.Proofs.YtbamhgaghngjiaaGreatDoor
open Go.RowKit
set_option linter.unusedVariables false
set_option linter.unusedSimpArgs false

theorem jst {l : List Ent} {p : List Pfx} (h : yh l p = 0) : qd l (jbi l p) = qd l p := by
 funext s t
 unfold qd
 congr 1
 funext q
 exact jr9 h s t q
set_option maxRecDepth 100000 in
set_option maxHeartbeats 32000000 in
theorem jqd (A : Option Addr) (n c : Nat) (w : World) (hin : InX w A n) (hgl : Gl w.heap.size w) (hpp : P10 w.heap.size w) :
 Calls Tryz.prog 6 #[.slice A n c] w fun r w' => r = .returned (.bool true) ∧ Below w.heap.size w w' := by
 obtain ⟨i0, hi0, hz0, hz1, hz2⟩ := info_parts jaa
 obtain ⟨hn, L, hL, hcell⟩ := hin
 have hG0 := World.grownBy_alloc w (.cells #[.slice A n c, .int .i64 0] 25) none
 have sA := SX.start hn hL hcell hG0 (Blk.new w _ _) (Nat.le_refl _)
 have HGL := Lib.hid hgl
 have HPP := Lib.hid hpp
 clear hn hL hcell hgl hpp
 go_enter Tryz.func6, Tryz.ntmps6
 go_wp2_with fail
 generalize w.alloc (.cells #[.slice A n c, .int .i64 0] 25) = W0 at *
 obtain ⟨b, hb⟩ : ∃ b, w.heap.size = b := ⟨_, rfl⟩
 rw [hb] at sA HGL HPP ⊢
 have HB := Lib.hid hb
 obtain ⟨B1, hB1⟩ : ∃ B1, W0.heap.size = B1 := ⟨_, rfl⟩
 have hbB : b < B1 := by rw [← hB1]; exact sA.lt
 have HBB := Lib.hid hbB
 have HRC := Lib.hid (jcq b b L 0 W0 sA (by decide))
 unfold jio at HRC
 rw [hB1] at HRC
 have HBS := Lib.hid hB1
 clear hb hB1 sA hbB
 refine HRC.out.mono ?_
 rintro _ w1 ⟨u, v, rv, mv, C, k1, HR, rfl, hC, hCs, hbeg, hfin, hown, hl6, hp24, hr4, hm5, hk0, hk1, sA1, hg1⟩
 have hG1 : w.grownBy w1 none := jh hG0 hg1 (fun g e => by injection e with e; exact .inr (by have := HB.out; omega))
 have HSZ1 : Hid (B1 ≤ w1.heap.size) := by show _ ≤ _; rw [← HBS.out]; exact hg1.size
 have hs1 := sA1.str
 have HCS := Lib.hid hCs
 clear hG0 hg1 HR HRC sA1 hCs hl6 hp24 hr4 hm5 hown
 go_wp2_with fail
 refine (jct b k1 8 (by decide) w1 hs1 (by omega)).mono ?_
 rintro _ w2 ⟨xv, x, rfl, hx, hxl, hxs, hx0, hs2, hg2⟩
 have hC2 : CstFrom B1 w2 u v rv mv C := ⟨EntsFrom.other hC.ents hg2 HBB.out, PfxsFrom.other hC.pfxs hg2 HBB.out, RulsFrom.other hC.ruls hg2 HBB.out, MulsFrom.other hC.muls hg2 HBB.out⟩
 have hG2 : w.grownBy w2 none := jh hG1 hg2 (fun g e => by injection e with e; exact .inr (by have := HB.out; omega))
 obtain ⟨B2, hB2⟩ : ∃ x, w1.heap.size = x := ⟨_, rfl⟩
 rw [hB2] at hx
 have hsz2 : B2 ≤ w2.heap.size := by rw [← hB2]; exact hg2.size
 have HSZ : Hid (B1 ≤ B2) := by show _ ≤ _; rw [← hB2]; exact HSZ1.out
 clear hG1 hg2 hC hs1 hs2 hB2
 obtain ⟨XA, xc, rfl, hxn, hXA⟩ := hx.shape
 obtain ⟨UA, uc, rfl, _, _⟩ := hC2.ents.shape
 obtain ⟨VA, vc, rfl, _, _⟩ := hC2.pfxs.shape
 obtain ⟨RA, rc, rfl, _, _⟩ := hC2.ruls.shape
 obtain ⟨MA, mc, rfl, _, _⟩ := hC2.muls.shape
 have HFA : Hid (∀ W, w.grownBy W none → Calls Tryz.prog 10 #[] W fun r w' => r = .returned (.bool true) ∧ W.grownBy w' none) := fun W hW => jle b W (HGL.out.quiet hW)
 have HCF : Hid (∀ W, w2.grownBy W none → Calls Tryz.prog 9 #[.agg #[.slice UA C.ents.length uc, .slice VA C.pfxs.length vc, .string C.own, .int .i64 C.beg, .int .i64 C.fin, .slice RA C.ruls.length rc, .slice MA C.muls.length mc, .bool C.byMode]] W fun r w' => r = .returned (.int .i64 (jd3 C)) ∧ W.grownBy w' none) := fun W hW => jbg B1 _ _ _ _ C W (hC2.grown hW) HCS.out
 have hC2' := Lib.hid hC2
 have HTI : Hid (jd3 C = 0 → ∀ W, w2.grownBy W none → Calls Tryz.prog 25 #[.slice UA C.ents.length uc, .slice VA C.pfxs.length vc] W fun r w' => ∃ V, r = .returned (.tuple #[V, .int .i64 0]) ∧ PfxsFrom W.heap.size w' V (jbi C.ents C.pfxs) ∧ W.grownBy w' none) := fun h W hW => by
  refine (jui B1 _ _ C.ents C.pfxs W (hC2'.out.ents.grown hW) HCS.out.ents (hC2'.out.pfxs.grown hW) HCS.out.pfxs).mono ?_
  rintro r w' ⟨V, q, rfl, hq, _, h2, hg⟩
  have ht := (jk3 h).1
  obtain rfl := h2 ht
  exact ⟨V, by rw [ht], hq, hg⟩
 have HS1 : Hid (jd3 C = 0 → ∀ W, w2.grownBy W none → Calls Tryz.prog 13 #[.agg #[.slice UA C.ents.length uc, .slice VA C.pfxs.length vc, .string C.own, .int .i64 C.beg, .int .i64 C.fin, .slice RA C.ruls.length rc, .slice MA C.muls.length mc, .bool C.byMode], .slice XA x.length xc] W fun e w' => e = .returned (.tuple #[joi (qd C.ents C.pfxs) C x, .int .i64 0]) ∧ W.grownBy w' none) := fun h W hW => by
  have hR := zl HCS.out hxs h hx0
  exact jiy B1 b _ _ _ _ C _ x W (hC2'.out.grown hW) HCS.out (jt (hx.grown hW) HSZ.out) hxs hR.E hR.len hR.beg hR.tm (by omega) hR.ok (HPP.out.grown (ja hG2 hW)) hR.nam hR.pts hR.nms
 have HS2 : Hid (jd3 C = 0 → ∀ VD W, w2.grownBy W none → PfxsFrom B1 W VD (jbi C.ents C.pfxs) → Calls Tryz.prog 13 #[.agg #[.slice UA C.ents.length uc, VD, .string C.own, .int .i64 C.beg, .int .i64 C.fin, .slice RA C.ruls.length rc, .slice MA C.muls.length mc, .bool C.byMode], .slice XA x.length xc] W fun e w' => e = .returned (.tuple #[joi (qd C.ents C.pfxs) C x, .int .i64 0]) ∧ W.grownBy w' none) := fun h VD W hW hV => by
  have ht := (jk3 h).1
  have hsub := jkz C.ents C.pfxs
  have ht2 := joo ht hsub
  obtain ⟨D, hD⟩ : ∃ D : Cst, D = { C with pfxs := jbi C.ents C.pfxs } := ⟨_, rfl⟩
  have hDs : CstSm D := by
   rw [hD]
   exact { HCS.out with pfxs := fun x hx => HCS.out.pfxs x (hsub.subset hx) }
  have hDE : jd3 D = 0 := by
   rw [hD]
   unfold jd3 at h ⊢
   obtain ⟨_, h2, h3, h4, h5⟩ := jwe h
   show orL [yh C.ents (jbi C.ents C.pfxs), jef C.own, jav C.beg C.fin, yq C.ruls, zf C.muls] = 0
   rw [ht2, h2, h3, h4, h5]; rfl
  have hR := zl hDs hxs hDE hx0
  have hDF : CstFrom B1 W (.slice UA C.ents.length uc) VD (.slice RA C.ruls.length rc) (.slice MA C.muls.length mc) D := by
   have h9 := hC2'.out.grown hW
   rw [hD]
   exact ⟨h9.ents, hV, h9.ruls, h9.muls⟩
  have hS := jiy B1 b _ _ _ _ D _ x W hDF hDs (jt (hx.grown hW) HSZ.out) hxs hR.E hR.len hR.beg hR.tm (by omega) hR.ok (HPP.out.grown (ja hG2 hW)) hR.nam hR.pts hR.nms
  have hv : joi (qd D.ents D.pfxs) D x = joi (qd C.ents C.pfxs) C x := by
   rw [hD]
   show joi (qd C.ents (jbi C.ents C.pfxs)) { C with pfxs := jbi C.ents C.pfxs } x = _
   rw [jst ht]
   rfl
  rw [hv] at hS
  rw [hD] at hS
  exact hS
 obtain ⟨a0, a1, a2, a3, hsv⟩ : ∃ a0 a1 a2 a3 : Int, joi (qd C.ents C.pfxs) C x = .agg #[.int .i64 a0, .int .i64 a1, .int .i64 a2, .int .i64 a3] := ⟨_, _, _, _, rfl⟩
 rw [hsv] at HS1 HS2
 clear hsv
 generalize jbi C.ents C.pfxs = Q at *
 generalize jd3 C = E at *
 generalize C.own = own at *
 generalize C.beg = bg at *
 generalize C.fin = fn at *
 generalize C.byMode = bm at *
 have hBc := Blk.new w2 33 #[.slice UA C.ents.length uc, .slice VA C.pfxs.length vc, .string own, .int .i64 bg, .int .i64 fn, .slice RA C.ruls.length rc, .slice MA C.muls.length mc, .bool bm]
 have hg3 := World.grownBy_alloc w2 (.cells #[.slice UA C.ents.length uc, .slice VA C.pfxs.length vc, .string own, .int .i64 bg, .int .i64 fn, .slice RA C.ruls.length rc, .slice MA C.muls.length mc, .bool bm] 33) none
 clear hx hxs hx0 hC2 hC2' hbeg hfin hXA
 go_upto_region 3 with fail
 generalize w2.alloc (.cells #[.slice UA C.ents.length uc, .slice VA C.pfxs.length vc, .string own, .int .i64 bg, .int .i64 fn, .slice RA C.ruls.length rc, .slice MA C.muls.length mc, .bool bm] 33) = w3 at *
 obtain ⟨gC, hgC⟩ : ∃ g, w2.heap.size = g := ⟨_, rfl⟩
 rw [hgC] at hBc
 (try rw [hgC])
 obtain ⟨k0, k1c, k2c, k3c, k4c, k5c, k6c, k7c⟩ := hBc.cells8
 clear hgC
 go_wp2_with fail
 refine (HCF.out _ hg3).mono ?_
 rintro _ w4 ⟨rfl, hg4⟩
 have hB4 := hBc.grown hg4 (by simp)
 have hg24 := ja hg3 hg4
 clear k0 k1c k2c k3c k4c k5c k6c k7c hBc hg3 hg4 HCF
 by_cases hE : E = 0
 rotate_left
 ·have e1b : (E == 0) = false := by rw [beq_eq_false_iff_ne]; exact hE
  have e1n : (E != 0) = true := by rw [bne, e1b]; rfl
  have hg04 := ja hG2 hg24
  clear HTI HS1 HS2
  go_wp2_with fail
  refine (HFA.out _ hg04).mono ?_
  rintro _ w5 ⟨rfl, hg5⟩
  go_wp2_with fail
  go_ret
  exact ⟨rfl, jfa (ja hg04 hg5)⟩
 have HT2 := Lib.hid (HTI.out hE)
 have HSA := Lib.hid (HS1.out hE)
 have HSB := Lib.hid (HS2.out hE)
 subst hE
 obtain ⟨k0, k1c, k2c, k3c, k4c, k5c, k6c, k7c⟩ := hB4.cells8
 clear HTI HS1 HS2
 go_wp2_with fail
 refine (HT2.out _ hg24).mono ?_
 rintro _ w5 ⟨V, rfl, hV, hg5⟩
 have hB5 := hB4.grown hg5 (by simp)
 have hg25 := ja hg24 hg5
 have hV5 : PfxsFrom B1 w5 V Q := jt hV (Nat.le_trans HSZ.out (Nat.le_trans hsz2 hg24.size))
 obtain ⟨QA, qc, rfl, _, _⟩ := hV.shape
 obtain ⟨gD, hgD⟩ : ∃ g, w5.heap.size = g := ⟨_, rfl⟩
 have hD := Blk.new w5 33 #[.slice UA C.ents.length uc, .slice QA Q.length qc, .string own, .int .i64 bg, .int .i64 fn, .slice RA C.ruls.length rc, .slice MA C.muls.length mc, .bool bm]
 have hg56 := World.grownBy_alloc w5 (.cells #[.slice UA C.ents.length uc, .slice QA Q.length qc, .string own, .int .i64 bg, .int .i64 fn, .slice RA C.ruls.length rc, .slice MA C.muls.length mc, .bool bm] 33) none
 have hD6 := hD
 rw [hgD] at hD6
 have hB6 := hB5.grown hg56 (by simp)
 have HV6 := Lib.hid (hV5.grown hg56)
 have hg26 := ja hg25 hg56
 clear k0 k1c k2c k3c k4c k5c k6c k7c
 obtain ⟨k0, k1c, k2c, k3c, k4c, k5c, k6c, k7c⟩ := hB5.cells8
 clear hB4 hB5 hV hV5 hD hg25 hg24 hg5 hg56 HT2
 go_upto_region 8 with fail
 (try rw [hgD])
 generalize w5.alloc (.cells #[.slice UA C.ents.length uc, .slice QA Q.length qc, .string own, .int .i64 bg, .int .i64 fn, .slice RA C.ruls.length rc, .slice MA C.muls.length mc, .bool bm] 33) = w6 at *
 clear k0 k1c k2c k3c k4c k5c k6c k7c hgD
 obtain ⟨k0, k1c, k2c, k3c, k4c, k5c, k6c, k7c⟩ := hB6.cells8
 go_wp2_with fail
 refine (HSA.out _ hg26).mono ?_
 rintro _ w7 ⟨rfl, hg7⟩
 have hg27 := ja hg26 hg7
 have hD7 := hD6.grown hg7 (by simp)
 have HV7 := Lib.hid (HV6.out.grown hg7)
 have hA := Blk.new w7 45 #[.int .i64 a0, .int .i64 a1, .int .i64 a2, .int .i64 a3]
 have hgA := World.grownBy_alloc w7 (.cells #[.int .i64 a0, .int .i64 a1, .int .i64 a2, .int .i64 a3] 45) none
 have hD8 := hD7.grown hgA (by simp)
 have HV8 := Lib.hid (HV7.out.grown hgA)
 have hg28 := ja hg27 hgA
 clear k0 k1c k2c k3c k4c k5c k6c k7c hB6 hD6 hD7 hgA hg27 hg26 hg7 HSA HV6 HV7
 go_upto_region 9 with fail
 generalize w7.alloc (.cells #[.int .i64 a0, .int .i64 a1, .int .i64 a2, .int .i64 a3] 45) = w8 at *
 obtain ⟨gA, hgA0⟩ : ∃ g, w7.heap.size = g := ⟨_, rfl⟩
 rw [hgA0] at hA
 (try rw [hgA0])
 clear hgA0
 obtain ⟨k0, k1c, k2c, k3c, k4c, k5c, k6c, k7c⟩ := hD8.cells8
 go_wp2_with fail
 refine (HSB.out _ _ hg28 HV8.out).mono ?_
 rintro _ w9 ⟨rfl, hg9⟩
 have hA9 := hA.grown hg9 (by simp)
 have hg29 := ja hg28 hg9
 have hZ := Blk.new w9 45 #[.int .i64 a0, .int .i64 a1, .int .i64 a2, .int .i64 a3]
 have hgZ := World.grownBy_alloc w9 (.cells #[.int .i64 a0, .int .i64 a1, .int .i64 a2, .int .i64 a3] 45) none
 have hA10 := hA9.grown hgZ (by simp)
 have hG10 := ja hG2 (ja hg29 hgZ)
 clear k0 k1c k2c k3c k4c k5c k6c k7c hD8 hA hA9 hgZ hg28 hg29 hg9 HSB HV8
 go_upto_region 10 with fail
 generalize w9.alloc (.cells #[.int .i64 a0, .int .i64 a1, .int .i64 a2, .int .i64 a3] 45) = w10 at *
 obtain ⟨gZ, hgZ0⟩ : ∃ g, w9.heap.size = g := ⟨_, rfl⟩
 rw [hgZ0] at hZ
 (try rw [hgZ0])
 clear hgZ0
 obtain ⟨x0, x1, x2, x3⟩ := qe hA10
 obtain ⟨y0, y1, y2, y3⟩ := qe hZ
 go_wp2_with fail
 refine (HFA.out _ hG10).mono ?_
 rintro _ w11 ⟨rfl, hg11⟩
 go_wp2_with fail
 go_ret
 exact ⟨rfl, jfa (ja hG10 hg11)⟩
end Go.Proofs.YtbamhgaghngjiaaGreatDoor
