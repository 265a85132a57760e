/- The jm9 jo1 score.Course at minutes, where nothing is wrong. Condition: a right contest of at most 300000, right contacts, fewer than 20. -/
import Derived.Test.YtbamhgaghngjiaaGreatDoorCoau
namespace Go.Proofs.YtbamhgaghngjiaaGreatDoor
open Go.RowKit
set_option linter.unusedVariables false
set_option linter.unusedSimpArgs false

def jnc (c : Cst) (l : List Con) (w : World) (e : Ending) (w' : World) : Prop :=
 ∃ v o, e = .returned (.tuple #[v, .int .i64 0]) ∧ IntsFrom w.heap.size w' v (o ++ [jm8 (j5 c.ents c.pfxs) c l]) ∧ o.length ≤ 10 ∧ w.grownBy w' none
def jhi (v : Value) : Nat := match v with | .slice _ n _ => n | _ => 0
theorem joc (gQ bm base : Nat) (v : Value) (o : List Int) (h1 : gQ < base) (h2 : bm < base) : FrOk (fun W => IntsFrom base W v o ∧ base ≤ W.heap.size) gQ bm :=
 ⟨fun _ _ h hg => ⟨IntsFrom.grown h.1 hg, Nat.le_trans h.2 hg.size⟩, fun _ _ h hg => ⟨IntsFrom.other h.1 hg h1, Nat.le_trans h.2 hg.size⟩, fun _ _ h hg => ⟨IntsFrom.other h.1 hg h2, Nat.le_trans h.2 hg.size⟩⟩
set_option maxRecDepth 100000 in
set_option maxHeartbeats 32000000 in
theorem jnz (base pb : Nat) (u v rv mv : Value) (c : Cst) (xv : Value) (l : List Con) (w : World) (h : CstFrom base w u v rv mv c) (hs : CstSm c) (hx : ConsFrom base w xv l) (hxs : ∀ y ∈ l, zy y) (hR : ScRight c l) (h20 : l.length < 20) (hpp : P10 pb w) (hb0 : 0 ≤ c.beg) (hbz : c.beg < c.fin) (hfin : c.fin ≤ 300000) :
 Calls Tryz.prog 19 #[.agg #[u, v, .string c.own, .int .i64 c.beg, .int .i64 c.fin, rv, mv, .bool c.byMode], xv, .int .i64 60000] w (jnc c l w) := by
 obtain ⟨i0, hi0, hz0, hz1, hz2⟩ := info_parts jdd
 have HO : Hid (∀ W, w.grownBy W none → Calls Tryz.prog 45 #[.agg #[u, v, .string c.own, .int .i64 c.beg, .int .i64 c.fin, rv, mv, .bool c.byMode], xv] W fun e w' => ∃ base2 gS gT bB bW, e = .returned (.tuple #[.pointer (some ⟨gS, 0, none⟩), .int .i64 0]) ∧ ScAt base base2 gS gT bB bW u v rv mv c w' ∧ W.grownBy w' none) := fun W hW => jcf base u v rv mv c xv l W (h.grown hW) hs (hx.grown hW) hxs hR.E hR.len hR.beg
 have HS : Hid (∀ base2 gS gT bB bW W, w.grownBy W none → ScAt base base2 gS gT bB bW u v rv mv c W → Calls Tryz.prog 46 #[.pointer (some ⟨gS, 0, none⟩), xv] W fun e w' => ∃ a b, e = .returned (.tuple #[a, b]) ∧ IntsFrom W.heap.size w' a (qn (yy c l)) ∧ W.grownBy w' none) := fun base2 gS gT bB bW W hW hsc => (je8 base base2 gS gT bB bW u v rv mv c xv l W hsc (hx.grown hW) hR.tm h20 hR.ok (fun y hy => ⟨(hR.nam y hy).m0, (hR.nam y hy).m1⟩)).mono fun e w' ⟨a, b, h1, h2, _, h4⟩ => ⟨a, b, h1, h2, h4⟩
 have hcl := jgn c l
 have hct := jq0 c l
 have hjl := jc6 c l
 have hPb := jcx (xe (j5 c.ents c.pfxs) c.own c.ruls) l (yy c l) hjl hR.pts
 have hMb := jg4 (fun y => j3 (j5 c.ents c.pfxs) c.muls y c.muls.length) l (yy c l) hjl (fun y hy => Nat.le_trans (xg _ _ _ _) (hR.nam y hy).l)
 have hMl := jcu (fun y => j3 (j5 c.ents c.pfxs) c.muls y c.muls.length) l (yy c l) hjl (fun y hy => Nat.le_trans (xg _ _ _ _) (hR.nam y hy).l)
 have HADD : Hid (∀ (base2 gS gT bB bW : Nat) (w0 : World), w.grownBy w0 none → ScAt base base2 gS gT bB bW u v rv mv c w0 → ∀ (F : World → Prop) (y : Con) (hy : y ∈ l) (gQ bm n : Nat) (ct pt : Int) (L : List (List UInt8 × Int)) (W : World), FrOk F gQ bm → F W → w0.grownBy W none → w0.heap.size ≤ gQ → w0.heap.size ≤ bm → SumAt gS gQ bm n ct pt L W → 0 ≤ ct ∧ ct ≤ 100000 → 0 ≤ pt ∧ pt ≤ 100000000 → n ≤ 100000 → (∀ q ∈ L, 0 ≤ q.2 ∧ q.2 ≤ 100000) → Calls Tryz.prog 61 #[.pointer (some ⟨gQ, 0, none⟩), .agg #[.int .i64 y.tm, .int .i64 y.mode, .string y.band, .string y.call, .int .i64 y.sent, .int .i64 y.heard, .string y.gave, .string y.got], .int .i64 1] W (AddF F gS gQ bm (n + (j3 (j5 c.ents c.pfxs) c.muls y c.muls.length).length) (ct + 1) (pt + xe (j5 c.ents c.pfxs) c.own c.ruls y) (ja2 L (j3 (j5 c.ents c.pfxs) c.muls y c.muls.length) (j3 (j5 c.ents c.pfxs) c.muls y c.muls.length).length) w0)) := fun base2 gS gT bB bW w0 hw0 hsc F y hy gQ bm n ct pt L W hF hFw hW h1 h2 h3 h4 h5 h6 h7 => jsm F base base2 gS gT bB bW u v rv mv c y pb gQ bm n ct pt L w0 W hF hFw hsc (hR.ok y hy) (hpp.grown hw0) (hR.nam y hy) hW h1 h2 h3 h4 h5 h6 h7 (hR.pts y hy) (hR.nms y hy)
 have HNL : Hid (∀ y ∈ l, (j3 (j5 c.ents c.pfxs) c.muls y c.muls.length).length ≤ 10) := fun y hy => Nat.le_trans (xg _ _ _ _) (hR.nam y hy).l
 have HSC : Hid (∀ base2 gS gT bB bW gQ bm n ct pt L W, ScAt base base2 gS gT bB bW u v rv mv c W → SumAt gS gQ bm n ct pt L W → 0 ≤ ct ∧ ct ≤ 1000000 → 0 ≤ pt ∧ pt ≤ 1000000000 → L.length ≤ 1000000 → Calls Tryz.prog 62 #[.pointer (some ⟨gQ, 0, none⟩)] W fun e w' => e = .returned (.agg #[.int .i64 ct, .int .i64 pt, .int .i64 (L.length : Int), .int .i64 (jb2 c.muls pt (L.length : Int))]) ∧ W.grownBy w' none) := fun base2 gS gT bB bW gQ bm n ct pt L W h1 h2 h3 h4 h5 => ji0 base base2 gS gT bB bW u v rv mv c gQ bm n ct pt L W h1 h2 h3 h4 h5
 obtain ⟨P, hP⟩ : ∃ P : Ending → World → Prop, jnc c l w = P := ⟨_, rfl⟩
 have HP : Hid (∀ r w' v o, r = .returned (.tuple #[v, .int .i64 0]) → IntsFrom w.heap.size w' v (o ++ [jm8 (j5 c.ents c.pfxs) c l]) → o.length ≤ 10 → w.grownBy w' none → P r w') := fun r w' v o h1 h2 h3 h4 => by rw [← hP]; exact ⟨v, o, h1, h2, h3, h4⟩
 rw [hP]
 unfold jm8 at HP
 obtain ⟨PP, hPP⟩ : ∃ f, xe (j5 c.ents c.pfxs) c.own c.ruls = f := ⟨_, rfl⟩
 obtain ⟨NN, hNN⟩ : ∃ f : Con → List Nm, (fun y => j3 (j5 c.ents c.pfxs) c.muls y c.muls.length) = f := ⟨_, rfl⟩
 have hNN2 : ∀ y, j3 (j5 c.ents c.pfxs) c.muls y c.muls.length = NN y := fun y => by rw [← hNN]
 simp only [hPP, hNN2] at HADD HNL HP hPb hMb hMl ⊢
 have HPB := Lib.hid hPb
 have HMB := Lib.hid hMb
 have HML := Lib.hid hMl
 have HJL := Lib.hid hjl
 have HCT := Lib.hid hct
 clear hP hPP hNN hNN2 hPb hMb hMl hjl hct
 obtain ⟨UA, uc, rfl, _, _⟩ := h.ents.shape
 obtain ⟨VA, vc, rfl, _, _⟩ := h.pfxs.shape
 obtain ⟨RA, rc, rfl, _, _⟩ := h.ruls.shape
 obtain ⟨MA, mc, rfl, _, _⟩ := h.muls.shape
 obtain ⟨XA, xc, rfl, _, hXA⟩ := hx.shape
 have HX := Lib.hid hx
 have HXA := Lib.hid hXA
 clear h hs hx hxs hR hXA hpp
 generalize c.own = own at *
 generalize c.beg = bg at *
 generalize c.fin = fn at *
 generalize c.byMode = bm0 at *
 have hB := Blk.new w 33 #[.slice UA c.ents.length uc, .slice VA c.pfxs.length vc, .string own, .int .i64 bg, .int .i64 fn, .slice RA c.ruls.length rc, .slice MA c.muls.length mc, .bool bm0]
 have hgB := World.grownBy_alloc w (.cells #[.slice UA c.ents.length uc, .slice VA c.pfxs.length vc, .string own, .int .i64 bg, .int .i64 fn, .slice RA c.ruls.length rc, .slice MA c.muls.length mc, .bool bm0] 33) none
 have hfd : ∀ (w : World) (a b c d : Int), (Instr.field 45 (.agg #[.int .i64 a, .int .i64 b, .int .i64 c, .int .i64 d]) 3).run Tryz.prog w = .ok (.int .i64 d) w := fun _ _ _ _ _ => by kernel_rfl
 go_enter Tryz.func19, Tryz.ntmps19
 go_upto_region 1 with fail
 generalize w.alloc (.cells #[.slice UA c.ents.length uc, .slice VA c.pfxs.length vc, .string own, .int .i64 bg, .int .i64 fn, .slice RA c.ruls.length rc, .slice MA c.muls.length mc, .bool bm0] 33) = w0 at *
 obtain ⟨gC, hgC⟩ : ∃ g, w.heap.size = g := ⟨_, rfl⟩
 have HGC := Lib.hid hgC
 rw [hgC] at hB
 (try rw [hgC])
 clear hgC
 obtain ⟨k0, k1, k2, k3, k4, k5, k6, k7⟩ := qh hB
 go_wp2_with fail
 refine (HO.out _ hgB).mono ?_
 rintro _ w1 ⟨base2, gS, gT, bB, bW, rfl, hS1, hg1⟩
 have hG1 := ja hgB hg1
 have HS1 := Lib.hid (HS.out _ _ _ _ _ _ hG1 hS1)
 have hB1 := hB.grown hg1 (by simp)
 clear k0 k1 k2 k3 k4 k5 k6 k7 HO HS hB hgB hg1
 obtain ⟨k0, k1, k2, k3, k4, k5, k6, k7⟩ := qh hB1
 have hzo : qu 60000 60000 86400000 = false := by decide
 obtain ⟨N, hN⟩ : ∃ N : Nat, (N : Int) = (fn - bg + 59999) / 60000 := ⟨((fn - bg + 59999) / 60000).toNat, by omega⟩
 have wN : IntKind.i64.wrap ((fn - bg + 60000 - 1).tdiv 60000) = (N : Int) := by
  rw [Int.tdiv_eq_ediv_of_nonneg (by omega), hN]
  have : fn - bg + 60000 - 1 = fn - bg + 59999 := by omega
  rw [this]
  exact IntWalk.i64_in _ ⟨by omega, by omega⟩
 have hN6 : N ≤ 6 := by omega
 have hN1 : 1 ≤ N := by omega
 have HNE := Lib.hid hN
 clear hN
 go_wp2_with fail
 refine (qd _ _ _ _).mono ?_
 rintro _ _ ⟨rfl, rfl⟩
 rw [hzo]
 go_wp2_with fail
 refine HS1.out.mono ?_
 rintro _ w2 ⟨jv, dv, rfl, hj, hg2⟩
 have hG2 := ja hG1 hg2
 have hB2 := hB1.grown hg2 (by simp)
 have HSA := Lib.hid (hS1.grown hg2)
 obtain ⟨LN, hLN⟩ : ∃ z, (yy c l).length = z := ⟨_, rfl⟩
 have hjsN : (qn (yy c l)).length = LN := by unfold qn; rw [List.length_map, hLN]
 obtain ⟨JA, jc, rfl, _, hJA⟩ := hj.shape
 have hjcap : LN ≤ jc := by
  have := jb9 hj
  omega
 rw [hjsN] at hj hJA
 (try rw [hjsN])
 have HJ := Lib.hid hj
 have HJN := Lib.hid hjsN
 have HLN := Lib.hid hLN
 obtain ⟨CL, hCL⟩ : ∃ z, yy c l = z := ⟨_, rfl⟩
 rw [hCL] at HJ HJN HLN HP HPB HMB HML HJL HCT hjsN
 rw [hCL] at hLN hcl
 rw [hLN] at hcl
 obtain ⟨gJ, hgJ⟩ : ∃ gJ, 0 < LN → JA = some ⟨gJ, 0, none⟩ := by
  by_cases h0 : 0 < LN
  ·obtain ⟨g, e, _⟩ := hJA h0
   exact ⟨g, fun _ => e⟩
  exact ⟨0, fun h => absurd h h0⟩
 have HJC : Hid (∀ (W : World) (m : Nat) (hm : m < CL.length), w2.grownBy W none → W.cell? ⟨gJ, m, none⟩ = some (.int .i64 (CL[m] : Int))) := fun W m hm hW => by
  have hlen : CL.length = LN := HLN.out
  have e := hgJ (by omega)
  have h9 := HJ.out
  rw [e] at h9
  have q := IntsFrom.at_ (g := gJ) (c := jc) (l := qn CL) (by rw [HJN.out]; exact IntsFrom.grown h9 hW) m (by have := HJN.out; omega)
  have hnk2 : (qn CL)[m]'(by have := HJN.out; omega) = ((CL[m] : Nat) : Int) := by simp [qn]
  rw [hnk2] at q
  exact q
 clear hj hJA hLN hjsN hCL HS1 hg2 hS1 hB1 k0 k1 k2 k3 k4 k5 k6 k7
 go_wp2_with fail
 refine (jpt gS w2).mono ?_
 rintro _ w3 ⟨gQ, bm, rfl, hS3, hQ0, hM0, hg3⟩
 obtain ⟨B3, hB3⟩ : ∃ z, w3.heap.size = z := ⟨_, rfl⟩
 have h33 : B3 ≤ w3.heap.size := by rw [hB3]; exact Nat.le_refl _
 have hQ3 : gQ < B3 := by rw [← hB3]; exact hS3.blk.lt
 have hM3 : bm < B3 := by rw [← hB3]; exact hS3.map.lt
 have h23 : w2.heap.size ≤ B3 := by rw [← hB3]; exact hg3.size
 have HCE : Hid (∀ W, w2.grownBy W none → W.cell? ⟨gC, 3, none⟩ = some (.int .i64 bg) ∧ W.cell? ⟨gC, 4, none⟩ = some (.int .i64 fn)) := fun W hW => by
  obtain ⟨_, _, _, q3, q4, _⟩ := qh (hB2.grown hW (by simp))
  exact ⟨q3, q4⟩
 clear hB3 hB2
 have hHWS : w.heap.size ≤ w2.heap.size := hG2.size
 go_wp2_with fail
 go_loopw [12, 15, 53] (fun cv ov iv wr => ∃ (k m n r : Nat) (A : Option Addr) (cc : Nat) (o : List Int), k ≤ N ∧ iv = .int .i64 k ∧ m + r = LN ∧ cv = .slice A r cc ∧ r ≤ cc ∧ (0 < r → A = some ⟨gJ, m, none⟩) ∧ IntsFrom B3 wr ov o ∧ o.length = k ∧ SumAt gS gQ bm n (m : Int) (yr PP l CL m) (x9 NN l CL m) wr ∧ n ≤ 10 * m ∧ (0 < k → ∃ o', o = o' ++ [jb2 c.muls (yr PP l CL m) ((x9 NN l CL m).length : Int)]) ∧ (k = N → m = LN) ∧ w2.grownBy wr none ∧ B3 ≤ wr.heap.size) (fun _ _ iv _ => N - (intOf iv).toNat)
 case atStart => exact ⟨0, 0, 0, LN, JA, jc, [], by omega, rfl, by omega, rfl, hjcap, hgJ, IntsFrom.nil _ _, rfl, hS3, by omega, fun h => absurd h (by omega), fun h => absurd h (by omega), hg3, h33⟩
 case round =>
  clear hS3 hg3
  obtain ⟨k, m, n, r, A, cc, o, hk, rfl, hmr, rfl, hrc, hA, hO, hok, hS, hn10, hlast, hkm, hg, hBz⟩ := hrel
  obtain ⟨A2, c2, rfl, _, _⟩ := hO.shape
  obtain ⟨LO, hLO⟩ : ∃ LO, o.length = LO := ⟨_, rfl⟩
  have HLO := Lib.hid hLO
  rw [hLO] at hO hok
  (try rw [hLO])
  have HOK := Lib.hid hok
  clear hok
  by_cases hlt : k < N
  ·have hki : (k : Int) < (N : Int) := by omega
   obtain ⟨c3, c4⟩ := HCE.out wr hg
   have wk : IntKind.i64.wrap (((k : Int) + 1) * 60000) = ((k : Int) + 1) * 60000 := IntWalk.i64_in _ ⟨by omega, by omega⟩
   have wk2 : IntKind.i64.wrap (bg + ((k : Int) + 1) * 60000) = bg + ((k : Int) + 1) * 60000 := IntWalk.i64_in _ ⟨by omega, by omega⟩
   have hEN : k + 1 = N → min (bg + ((k : Int) + 1) * 60000) fn = fn := fun h => by
    have := HNE.out
    omega
   clear hlast hkm hLO
   go_wp2_with fail
   obtain ⟨E, hE⟩ : ∃ E, min (bg + ((k : Int) + 1) * 60000) fn = E := ⟨_, rfl⟩
   rw [hE] at hEN
   (try rw [hE])
   have HEN := Lib.hid hEN
   clear hE hEN wk wk2 c3 c4
   rename World => wo
   go_loopw [12] (fun cv wr => ∃ (m n r : Nat) (A : Option Addr) (cc : Nat), m + r = LN ∧ cv = .slice A r cc ∧ r ≤ cc ∧ (0 < r → A = some ⟨gJ, m, none⟩) ∧ IntsFrom B3 wr (.slice A2 LO c2) o ∧ SumAt gS gQ bm n (m : Int) (yr PP l CL m) (x9 NN l CL m) wr ∧ n ≤ 10 * m ∧ w2.grownBy wr none ∧ B3 ≤ wr.heap.size) (fun cv _ => jhi cv)
   case atStart => exact ⟨m, n, r, A, cc, hmr, rfl, hrc, hA, hO, hS, hn10, hg, hBz⟩
   case round =>
    clear hmr hrc hA hO hS hn10 hg hBz
    obtain ⟨m, n, r, A, cc, hmr, rfl, hrc, hA, hO, hS, hn10, hg, hBz⟩ := hrel
    have hLL : CL.length = LN := HLN.out
    have HLL := Lib.hid hLL
    have HMR := Lib.hid hmr
    clear hLL hmr
    by_cases hr : r = 0
    ·subst hr
     have hmr := HMR.out
     have hmN : k + 1 = N → m = LN := fun _ => by have := HMR.out; omega
     have hpb := HPB.out m (by have := HLL.out; omega)
     have hml : (x9 NN l CL m).length ≤ 10 * m := HML.out m (by have := HLL.out; omega)
     have HSC9 := Lib.hid (HSC.out _ _ _ _ _ gQ bm n (m : Int) _ _ wr (HSA.out.grown hg) hS ⟨by omega, by omega⟩ ⟨hpb.1, by omega⟩ (by omega))
     have HMN := Lib.hid hmN
     clear hmN hpb hml
     generalize hTT : jb2 c.muls (yr PP l CL m) ((x9 NN l CL m).length : Int) = TT at *
     have HTT := Lib.hid hTT
     clear hTT
     go_wp2_with fail
     refine HSC9.out.mono ?_
     rintro _ w8 ⟨rfl, hg8⟩
     have hS8 := hS.quiet hg8
     have hO8 := IntsFrom.grown hO hg8
     have hownR : w8.ownsRow B3 3 1 (.slice A2 LO c2) LO (o.map (Value.int .i64)) := by
      have h := hO8
      unfold IntsFrom at h
      rw [HLO.out] at h
      exact h
     have HOR := Lib.hid hownR
     have hg28 := ja hg hg8
     have hwg : B3 ≤ w8.heap.size := Nat.le_trans hBz hg8.size
     have hLO6 : LO ≤ 6 := by have := HOK.out; omega
     clear hownR hO8 hS hO hg8 HSC9 hBz hmr
     go_wp2_with (at_builtin; refine wpList_append_own _ rfl _ _ 22 rfl B3 3 i0 _ 1 8 Tryz.underlying22 hi0 hz0 hz1 hz2 rfl (by decide) _ LO _ rfl (World.ownsRow.alloc HOR.out _) ⟨_, 0, none⟩ 1 1 [.int .i64 TT] rfl rfl (qw _ TT _) (j6 TT) (by unfold maxLen; omega) (by omega) (by simp; omega) ?_; intro v' w9 hownB hgrB _)
     have hown9 : IntsFrom B3 w9 v' (o ++ [TT]) := by
      unfold IntsFrom
      rw [List.map_append, List.length_append, HLO.out]
      simpa using hownB
     have hgA := World.grownBy_alloc w8 (.cells #[.int .i64 TT] 3) none
     have hSA8 := hS8.quiet hgA
     have hS9 : SumAt gS gQ bm n (m : Int) (yr PP l CL m) (x9 NN l CL m) w9 := ⟨hSA8.blk.grown hgrB (fun e => by have := (HOR.out.lt _ e.symm).1; omega), hSA8.map.kept hgrB (fun e => by have := (HOR.out.lt _ e.symm).1; omega), hSA8.ne⟩
     have hg29 : w2.grownBy w9 none := jk (ja hg28 hgA) hgrB (fun g e => .inr (by have := (HOR.out.lt g e).1; omega))
     have hwz : B3 ≤ w9.heap.size := by have := hgrB.size; have := hgA.size; omega
     go_wp2_with fail
     go_roundw
     case rel => exact ⟨k + 1, m, n, 0, A, cc, o ++ [TT], by omega, by go_num, HMR.out, rfl, hrc, hA, hown9, (by have := HOK.out; rw [List.length_append, HLO.out]; simp; omega), hS9, hn10, (by intro _; exact ⟨o, by rw [HTT.out]⟩), HMN.out, hg29, hwz⟩
     case measure => simp [intOf]; omega
    have hr1 : (0 : Int) < (r : Int) := by omega
    have hmC : m < CL.length := by have := HLL.out; have := HMR.out; omega
    obtain rfl := hA (by omega)
    have q := HJC.out wr m hmC hg
    have hj := HJL.out CL[m] (List.getElem_mem hmC)
    have hjd : CL.getD m 0 = CL[m] := by simp [hmC]
    have hp1 : yr PP l CL (m + 1) = yr PP l CL m + PP (jcn l CL[m]) := by rw [← hjd]; rfl
    have hm1 : x9 NN l CL (m + 1) = ja2 (x9 NN l CL m) (NN (jcn l CL[m])) (NN (jcn l CL[m])).length := by rw [← hjd]; rfl
    have htm := HCT.out CL[m] (List.getElem_mem hmC)
    rw [jan l _ hj] at hp1 hm1 htm
    have hpb := HPB.out m (by have := HLL.out; omega)
    have hmb := HMB.out m (by omega)
    obtain ⟨gx, rfl, _, _⟩ := HXA.out (by omega)
    obtain ⟨q0, q1, q2, q3, q4, q5, q6, q7⟩ := (HX.out.grown (ja hG2 hg)).at_ CL[m] hj
    have hmem := List.getElem_mem hj
    have hnl := HNL.out _ hmem
    have hmB : m < 20 := by have := HMR.out; omega
    have HA := Lib.hid (HADD.out base2 gS gT bB bW w2 hG2 HSA.out (fun W => IntsFrom B3 W (.slice A2 LO c2) o ∧ B3 ≤ W.heap.size) _ hmem gQ bm n (m : Int) _ _ wr (joc gQ bm B3 _ o hQ3 hM3) ⟨hO, hBz⟩ hg hQ0 hM0 hS ⟨by omega, by omega⟩ ⟨hpb.1, by omega⟩ (by omega) (fun z hz => by have := hmb z hz; omega))
    have HP1 := Lib.hid hp1
    have HM1 := Lib.hid hm1
    have hj' : (CL[m] : Int) < (l.length : Int) := by omega
    unfold jb3 at htm
    rw [decide_eq_true_eq] at htm
    clear hp1 hm1 hmem hpb hmb hjd hmB
    generalize CL[m] = j at *
    generalize l[j].tm = Tm at *
    generalize l[j].mode = Mo at *
    generalize l[j].band = BD at *
    generalize l[j].call = CA at *
    generalize l[j].sent = SE at *
    generalize l[j].heard = HE at *
    generalize l[j].gave = GA at *
    generalize l[j].got = GO at *
    by_cases ht : Tm < E
    ·clear hS hO
     go_wp2_with fail
     refine HA.out.mono ?_
     rintro _ w5 ⟨rfl, hS5, hg5, hO5, hz5⟩
     rw [← HP1.out, ← HM1.out] at hS5
     have hm1' : min (1 : Int) (r : Int) = 1 := by omega
     have h1r : (1 : Int) ≤ (r : Int) := by omega
     by_cases hc1 : cc = 1
     ·subst hc1
      go_wp2_with fail
      go_roundw
      case rel =>
       exact ⟨m + 1, _, 0, _, _, (by have := HMR.out; omega), rfl, by omega, fun h => absurd h (by omega), hO5, hS5, by omega, hg5, hz5⟩
      case measure => simp [jhi]; omega
     go_wp2_with fail
     go_roundw
     case rel => exact ⟨m + 1, _, r - 1, _, _, (by have := HMR.out; omega), rfl, by omega, fun _ => rfl, hO5, hS5, by omega, hg5, hz5⟩
     case measure => simp [jhi]; omega
    clear HA HP1 HM1 hnl
    have hmr := HMR.out
    have hmN : k + 1 = N → m = LN := fun h => absurd (HEN.out h) (by omega)
    have hpb := HPB.out m (by have := HLL.out; omega)
    have hml : (x9 NN l CL m).length ≤ 10 * m := HML.out m (by have := HLL.out; omega)
    have HSC9 := Lib.hid (HSC.out _ _ _ _ _ gQ bm n (m : Int) _ _ wr (HSA.out.grown hg) hS ⟨by omega, by omega⟩ ⟨hpb.1, by omega⟩ (by omega))
    have HMN := Lib.hid hmN
    clear hmN hpb hml
    generalize hTT : jb2 c.muls (yr PP l CL m) ((x9 NN l CL m).length : Int) = TT at *
    have HTT := Lib.hid hTT
    clear hTT
    go_wp2_with fail
    refine HSC9.out.mono ?_
    rintro _ w8 ⟨rfl, hg8⟩
    have hS8 := hS.quiet hg8
    have hO8 := IntsFrom.grown hO hg8
    have hownR : w8.ownsRow B3 3 1 (.slice A2 LO c2) LO (o.map (Value.int .i64)) := by
     have h := hO8
     unfold IntsFrom at h
     rw [HLO.out] at h
     exact h
    have HOR := Lib.hid hownR
    have hg28 := ja hg hg8
    have hwg : B3 ≤ w8.heap.size := Nat.le_trans hBz hg8.size
    have hLO6 : LO ≤ 6 := by have := HOK.out; omega
    clear hownR hO8 hS hO hg8 HSC9 hBz hmr
    go_wp2_with (at_builtin; refine wpList_append_own _ rfl _ _ 22 rfl B3 3 i0 _ 1 8 Tryz.underlying22 hi0 hz0 hz1 hz2 rfl (by decide) _ LO _ rfl (World.ownsRow.alloc HOR.out _) ⟨_, 0, none⟩ 1 1 [.int .i64 TT] rfl rfl (qw _ TT _) (j6 TT) (by unfold maxLen; omega) (by omega) (by simp; omega) ?_; intro v' w9 hownB hgrB _)
    have hown9 : IntsFrom B3 w9 v' (o ++ [TT]) := by
     unfold IntsFrom
     rw [List.map_append, List.length_append, HLO.out]
     simpa using hownB
    have hgA := World.grownBy_alloc w8 (.cells #[.int .i64 TT] 3) none
    have hSA8 := hS8.quiet hgA
    have hS9 : SumAt gS gQ bm n (m : Int) (yr PP l CL m) (x9 NN l CL m) w9 := ⟨hSA8.blk.grown hgrB (fun e => by have := (HOR.out.lt _ e.symm).1; omega), hSA8.map.kept hgrB (fun e => by have := (HOR.out.lt _ e.symm).1; omega), hSA8.ne⟩
    have hg29 : w2.grownBy w9 none := jk (ja hg28 hgA) hgrB (fun g e => .inr (by have := (HOR.out.lt g e).1; omega))
    have hwz : B3 ≤ w9.heap.size := by have := hgrB.size; have := hgA.size; omega
    go_wp2_with fail
    go_roundw
    case rel => exact ⟨k + 1, m, n, r, _, cc, o ++ [TT], by omega, by go_num, HMR.out, rfl, hrc, fun _ => rfl, hown9, (by have := HOK.out; rw [List.length_append, HLO.out]; simp; omega), hS9, hn10, (by intro _; exact ⟨o, by rw [HTT.out]⟩), HMN.out, hg29, hwz⟩
    case measure => simp [intOf]; omega
  have hki : ¬ (k : Int) < (N : Int) := by omega
  obtain rfl : k = N := by omega
  obtain rfl := hkm rfl
  obtain ⟨o', ho'⟩ := hlast (by omega)
  subst ho'
  have hol : o'.length ≤ 10 := by
   have := HOK.out
   rw [List.length_append] at hLO
   simp at hLO
   omega
  have hOw : IntsFrom w.heap.size wr (.slice A2 LO c2) (o' ++ [jb2 c.muls (yr PP l CL m) ((x9 NN l CL m).length : Int)]) := jq hO (by omega)
  clear hS hO hlast hkm
  go_wp2_with fail
  rw [HLN.out] at HP
  have hG9 := ja hG2 hg
  first
  | exact HP.out _ _ _ _ rfl hOw hol hG9
  | (go_ret2; exact HP.out _ _ _ _ rfl hOw hol hG9)
end Go.Proofs.YtbamhgaghngjiaaGreatDoor
