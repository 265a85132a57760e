/- Parts of a proof: ScSumOf, ScScoreOf, ScOf, ScoreOf, ScBd, FndBd, OfT, ScRight, ScPerm. Conditions: as each statement says. -/
import Derived.Test.YtbamhgaghngjiaaGreatDoorCoat
namespace Go.Proofs.YtbamhgaghngjiaaGreatDoor
open Go.RowKit
set_option linter.unusedVariables false
set_option linter.unusedSimpArgs false

def yr (P : Con → Int) (l : List Con) (js : List Nat) : Nat → Int
 | 0 => 0
 | k + 1 => yr P l js k + P (jcn l (js.getD k 0))
def x9 (N : Con → List Nm) (l : List Con) (js : List Nat) : Nat → List (List UInt8 × Int)
 | 0 => []
 | k + 1 => ja2 (x9 N l js k) (N (jcn l (js.getD k 0))) (N (jcn l (js.getD k 0))).length
theorem jcx (P : Con → Int) (l : List Con) (js : List Nat) (hj : ∀ j ∈ js, j < l.length) (hP : ∀ y ∈ l, 0 ≤ P y ∧ P y ≤ 1000) : ∀ k : Nat, k ≤ js.length → 0 ≤ yr P l js k ∧ yr P l js k ≤ 1000 * k
 | 0, _ => ⟨Int.le_refl _, by simp [yr]⟩
 | k + 1, h => by
   have ih := jcx P l js hj hP k (by omega)
   have hlt : k < js.length := by omega
   have e : js.getD k 0 = js[k] := by simp [hlt]
   have hl := hj js[k] (List.getElem_mem hlt)
   have hp := hP l[js[k]] (List.getElem_mem hl)
   unfold yr
   rw [e, jan l _ hl]
   omega
theorem jg4 (N : Con → List Nm) (l : List Con) (js : List Nat) (hj : ∀ j ∈ js, j < l.length) (hN : ∀ y ∈ l, (N y).length ≤ 10) : ∀ k : Nat, k ≤ js.length → ∀ q ∈ x9 N l js k, 0 ≤ q.2 ∧ q.2 ≤ 10 * k
 | 0, _, q, hq => by cases hq
 | k + 1, h, q, hq => by
   have ih := jg4 N l js hj hN k (by omega)
   have hlt : k < js.length := by omega
   have e : js.getD k 0 = js[k] := by simp [hlt]
   have hl := hj js[k] (List.getElem_mem hlt)
   have hp := hN l[js[k]] (List.getElem_mem hl)
   unfold x9 at hq
   rw [e, jan l _ hl] at hq
   have := jgg (B := 10 * k) (by omega) ih (N l[js[k]]) (N l[js[k]]).length q hq
   omega
def jjd (gS : Nat) (js : List Nat) (pt : Int) (L : List (List UInt8 × Int)) (w : World) (e : Ending) (w' : World) : Prop :=
 ∃ gQ bm n, e = .returned (.pointer (some ⟨gQ, 0, none⟩)) ∧ SumAt gS gQ bm n (js.length : Int) pt L w' ∧ w.grownBy w' none
set_option maxRecDepth 100000 in
set_option maxHeartbeats 16000000 in
theorem jps (base base2 gS gT bB bW jb pb : Nat) (u v rv mv : Value) (c : Cst) (xv jv : Value) (l : List Con) (js : List Nat) (w : World) (h : ScAt base base2 gS gT bB bW u v rv mv c w) (hx : ConsFrom base w xv l) (hj : IntsFrom jb w jv (qn js)) (hjl : ∀ j ∈ js, j < l.length) (hjn : js.length ≤ 100) (hk : ∀ y ∈ l, ScOk c y) (hpp : P10 pb w) (hn : ∀ y ∈ l, NamOk c y) (hP : ∀ y ∈ l, 0 ≤ xe (j5 c.ents c.pfxs) c.own c.ruls y ∧ xe (j5 c.ents c.pfxs) c.own c.ruls y ≤ 1000) (hns : ∀ y ∈ l, ∀ q ∈ j3 (j5 c.ents c.pfxs) c.muls y c.muls.length, jp8 q) :
 Calls Tryz.prog 67 #[.pointer (some ⟨gS, 0, none⟩), xv, jv] w (jjd gS js (yr (xe (j5 c.ents c.pfxs) c.own c.ruls) l js js.length) (x9 (fun y => j3 (j5 c.ents c.pfxs) c.muls y c.muls.length) l js js.length) w) := by
 obtain ⟨XA, xc, rfl, _, hXA⟩ := hx.shape
 have hjsN : (qn js).length = js.length := by unfold qn; rw [List.length_map]
 obtain ⟨JA, jc, rfl, _, hJA⟩ := hj.shape
 rw [hjsN] at hj hJA
 (try rw [hjsN])
 have HX := Lib.hid hx
 have HXA := Lib.hid hXA
 have HJ := Lib.hid hj
 have HJA := Lib.hid hJA
 have HJN := Lib.hid hjsN
 have HJL := Lib.hid hjl
 have hPb := jcx (xe (j5 c.ents c.pfxs) c.own c.ruls) l js hjl hP
 have hMb := jg4 (fun y => j3 (j5 c.ents c.pfxs) c.muls y c.muls.length) l js hjl (fun y hy => Nat.le_trans (xg _ _ _ _) (hn y hy).l)
 have HPB := Lib.hid hPb
 have HMB := Lib.hid hMb
 have HADD : Hid (∀ (y : Con) (hy : y ∈ l) (gQ bm n : Nat) (ct pt : Int) (L : List (List UInt8 × Int)) (W : World), w.grownBy W none → w.heap.size ≤ gQ → w.heap.size ≤ bm → SumAt gS gQ bm n ct pt L W → 0 ≤ ct ∧ ct ≤ 100000 → 0 ≤ pt ∧ pt ≤ 100000000 → n ≤ 100000 → (∀ q ∈ L, 0 ≤ q.2 ∧ q.2 ≤ 100000) → Calls Tryz.prog 61 #[.pointer (some ⟨gQ, 0, none⟩), .agg #[.int .i64 y.tm, .int .i64 y.mode, .string y.band, .string y.call, .int .i64 y.sent, .int .i64 y.heard, .string y.gave, .string y.got], .int .i64 1] W (AddPost gS gQ bm (n + (j3 (j5 c.ents c.pfxs) c.muls y c.muls.length).length) (ct + 1) (pt + xe (j5 c.ents c.pfxs) c.own c.ruls y) (ja2 L (j3 (j5 c.ents c.pfxs) c.muls y c.muls.length) (j3 (j5 c.ents c.pfxs) c.muls y c.muls.length).length) w)) := fun y hy gQ bm n ct pt L W hW h1 h2 h3 h4 h5 h6 h7 => js3 base base2 gS gT bB bW u v rv mv c y pb gQ bm n ct pt L w W h (hk y hy) hpp (hn y hy) hW h1 h2 h3 h4 h5 h6 h7 (hP y hy) (hns y hy)
 have HNL : Hid (∀ y ∈ l, (j3 (j5 c.ents c.pfxs) c.muls y c.muls.length).length ≤ 10) := fun y hy => Nat.le_trans (xg _ _ _ _) (hn y hy).l
 obtain ⟨PP, hPP⟩ : ∃ f, xe (j5 c.ents c.pfxs) c.own c.ruls = f := ⟨_, rfl⟩
 obtain ⟨NN, hNN⟩ : ∃ f : Con → List Nm, (fun y => j3 (j5 c.ents c.pfxs) c.muls y c.muls.length) = f := ⟨_, rfl⟩
 have hNN2 : ∀ y, j3 (j5 c.ents c.pfxs) c.muls y c.muls.length = NN y := fun y => by rw [← hNN]
 simp only [hPP, hNN2] at HADD HNL HPB HMB ⊢
 clear h hx hj hjl hk hpp hn hP hns hXA hJA hPb hMb hPP hNN hNN2 hjsN
 go_enter Tryz.func67, Tryz.ntmps67
 go_wp2_with fail
 refine (jpt gS w).mono ?_
 rintro _ w1 ⟨gQ, bm, rfl, hS1, hQ0, hM0, hg1⟩
 go_wp2_with fail
 go_loopw [14] (fun iv wr => ∃ k n : Nat, k ≤ js.length ∧ iv = .int .i64 k ∧ SumAt gS gQ bm n (k : Int) (yr PP l js k) (x9 NN l js k) wr ∧ n ≤ 10 * k ∧ w.grownBy wr none) (fun iv _ => js.length - (intOf iv).toNat)
 case atStart => exact ⟨0, 0, by omega, rfl, hS1, by omega, hg1⟩
 case round =>
  clear hS1 hg1
  obtain ⟨k, n, hk, rfl, hS, hnk, hg⟩ := hrel
  by_cases hlt : k < js.length
  ·have hki : (k : Int) < (js.length : Int) := by omega
   obtain ⟨g, rfl, _, _⟩ := HJA.out (by omega)
   have q := IntsFrom.at_ (g := g) (c := jc) (l := qn js) (by rw [HJN.out]; exact IntsFrom.grown HJ.out hg) k (by have := HJN.out; omega)
   have hnk2 : (qn js)[k]'(by have := HJN.out; omega) = ((js[k] : Nat) : Int) := by simp [qn]
   rw [hnk2] at q
   have hj := HJL.out js[k] (List.getElem_mem hlt)
   have hjd : js.getD k 0 = js[k] := by simp [hlt]
   have hp1 : yr PP l js (k + 1) = yr PP l js k + PP (jcn l js[k]) := by rw [← hjd]; rfl
   have hm1 : x9 NN l js (k + 1) = ja2 (x9 NN l js k) (NN (jcn l js[k])) (NN (jcn l js[k])).length := by rw [← hjd]; rfl
   rw [jan l _ hj] at hp1 hm1
   have hpb := HPB.out k (by omega)
   have hmb := HMB.out k (by omega)
   obtain ⟨gx, rfl, _, _⟩ := HXA.out (by omega)
   obtain ⟨q0, q1, q2, q3, q4, q5, q6, q7⟩ := (HX.out.grown hg).at_ js[k] hj
   have hmem := List.getElem_mem hj
   have hnl := HNL.out _ hmem
   have HA := Lib.hid (HADD.out _ hmem gQ bm n (k : Int) _ _ wr hg hQ0 hM0 hS ⟨by omega, by omega⟩ ⟨hpb.1, by omega⟩ (by omega) (fun z hz => by have := hmb z hz; omega))
   have HP1 := Lib.hid hp1
   have HM1 := Lib.hid hm1
   have hj' : (js[k] : Int) < (l.length : Int) := by omega
   clear hS hp1 hm1 hmem hpb hmb hnk2 hjd
   generalize js[k] = j at *
   generalize l[j].tm = Tm at *
   generalize l[j].mode = Mo at *
   generalize l[j].band = BD at *
   generalize l[j].call = CL at *
   generalize l[j].sent = SE at *
   generalize l[j].heard = HE at *
   generalize l[j].gave = GA at *
   generalize l[j].got = GO at *
   go_wp2_with fail
   refine HA.out.mono ?_
   rintro _ w5 ⟨rfl, hS5, hg5⟩
   rw [← HP1.out, ← HM1.out] at hS5
   go_wp2_with fail
   go_roundw
   case rel => exact ⟨k + 1, _, by omega, by go_num, hS5, by omega, hg5⟩
   case measure => simp [intOf]; omega
  have hki : ¬ (k : Int) < (js.length : Int) := by omega
  obtain rfl : k = js.length := by omega
  go_wp2_with fail
  go_ret
  exact ⟨gQ, bm, n, rfl, hS, hg⟩
theorem jd6 (bm : Bool) (l : List Con) (js : List Nat) : ∀ k, k ≤ js.length → ∀ j ∈ (jmy bm l js k).1, j ∈ js
 | 0, _, j, h => by cases h
 | k + 1, hk, j, h => by
   have hlt : k < js.length := by omega
   have e : js.getD k 0 = js[k] := by simp [hlt]
   unfold jmy at h
   split at h
   ·exact jd6 bm l js k (by omega) j h
   rcases List.mem_append.1 h with h | h
   ·exact jd6 bm l js k (by omega) j h
   rw [List.mem_singleton.1 h, e]; exact List.getElem_mem hlt
theorem jqd (L : List (List UInt8 × Int)) (q : List UInt8) (d : Int) : (jfc L q d).length ≤ L.length + 1 := by
 have hk := congrArg List.length (jev L q d)
 rw [List.length_map] at hk
 split at hk
 ·rw [hk, List.length_map]; omega
 rw [hk, List.length_append, List.length_map]; simp
theorem jhy (L : List (List UInt8 × Int)) (ns : List Nm) : ∀ k, (ja2 L ns k).length ≤ L.length + k
 | 0 => Nat.le_refl _
 | k + 1 => by
   have h1 := jhy L ns k
   have h2 := jqd (ja2 L ns k) (nmB (ns.getD k (0, ⟨#[]⟩))) 1
   unfold ja2
   omega
theorem jcu (N : Con → List Nm) (l : List Con) (js : List Nat) (hj : ∀ j ∈ js, j < l.length) (hN : ∀ y ∈ l, (N y).length ≤ 10) : ∀ k : Nat, k ≤ js.length → (x9 N l js k).length ≤ 10 * k
 | 0, _ => Nat.le_refl _
 | k + 1, h => by
   have ih := jcu N l js hj hN k (by omega)
   have hlt : k < js.length := by omega
   have e : js.getD k 0 = js[k] := by simp [hlt]
   have hl := hj js[k] (List.getElem_mem hlt)
   have hp := hN l[js[k]] (List.getElem_mem hl)
   have h2 := jhy (x9 N l js k) (N l[js[k]]) (N l[js[k]]).length
   unfold x9
   rw [e, jan l _ hl]
   omega
def yy (c : Cst) (l : List Con) : List Nat := (jmy c.byMode l (jg7 c.beg c.fin l) (jg7 c.beg c.fin l).length).1
def jr9 (F : ByteArray → Int → Option Fnd) (c : Cst) (l : List Con) : Value :=
 .agg #[.int .i64 ((yy c l).length : Int), .int .i64 (yr (xe F c.own c.ruls) l (yy c l) (yy c l).length), .int .i64 ((x9 (fun y => j3 F c.muls y c.muls.length) l (yy c l) (yy c l).length).length : Int), .int .i64 (jb2 c.muls (yr (xe F c.own c.ruls) l (yy c l) (yy c l).length) ((x9 (fun y => j3 F c.muls y c.muls.length) l (yy c l) (yy c l).length).length : Int))]
theorem jgn (c : Cst) (l : List Con) : (yy c l).length ≤ l.length := by
 have h1 := jhl c.byMode l (jg7 c.beg c.fin l) (jg7 c.beg c.fin l).length
 have h2 := jk9 c.beg c.fin l
 unfold yy
 omega
theorem jc6 (c : Cst) (l : List Con) : ∀ j ∈ yy c l, j < l.length := fun j hj => joy _ _ _ j (jd6 _ _ _ _ (Nat.le_refl _) j hj)
set_option maxRecDepth 100000 in
set_option maxHeartbeats 16000000 in
theorem jce (base base2 gS gT bB bW pb : Nat) (u v rv mv : Value) (c : Cst) (xv : Value) (l : List Con) (w : World) (h : ScAt base base2 gS gT bB bW u v rv mv c w) (hx : ConsFrom base w xv l) (ht : ∀ y ∈ l, 0 ≤ y.tm ∧ y.tm ≤ 345686399999) (h20 : l.length < 20) (hk : ∀ y ∈ l, ScOk c y) (hpp : P10 pb w) (hn : ∀ y ∈ l, NamOk c y) (hP : ∀ y ∈ l, 0 ≤ xe (j5 c.ents c.pfxs) c.own c.ruls y ∧ xe (j5 c.ents c.pfxs) c.own c.ruls y ≤ 1000) (hns : ∀ y ∈ l, ∀ q ∈ j3 (j5 c.ents c.pfxs) c.muls y c.muls.length, jp8 q) :
 Calls Tryz.prog 50 #[.pointer (some ⟨gS, 0, none⟩), xv] w fun e w' => e = .returned (jr9 (j5 c.ents c.pfxs) c l) ∧ w.grownBy w' none := by
 have HSP : Hid (∀ W, w.grownBy W none → Calls Tryz.prog 46 #[.pointer (some ⟨gS, 0, none⟩), xv] W fun e w' => ∃ a b, e = .returned (.tuple #[a, b]) ∧ IntsFrom W.heap.size w' a (qn (yy c l)) ∧ W.grownBy w' none) := fun W hW => (je8 base base2 gS gT bB bW u v rv mv c xv l W (h.grown hW) (hx.grown hW) ht h20 hk (fun y hy => ⟨(hn y hy).m0, (hn y hy).m1⟩)).mono fun e w' ⟨a, b, h1, h2, _, h4⟩ => ⟨a, b, h1, h2, h4⟩
 have hcl := jgn c l
 have hml := jcu (fun y => j3 (j5 c.ents c.pfxs) c.muls y c.muls.length) l (yy c l) (jc6 c l) (fun y hy => Nat.le_trans (xg _ _ _ _) (hn y hy).l) _ (Nat.le_refl _)
 have hpb := jcx (xe (j5 c.ents c.pfxs) c.own c.ruls) l (yy c l) (jc6 c l) hP _ (Nat.le_refl _)
 have HSU : Hid (∀ jb jv W, w.grownBy W none → IntsFrom jb W jv (qn (yy c l)) → Calls Tryz.prog 67 #[.pointer (some ⟨gS, 0, none⟩), xv, jv] W (jjd gS (yy c l) (yr (xe (j5 c.ents c.pfxs) c.own c.ruls) l (yy c l) (yy c l).length) (x9 (fun y => j3 (j5 c.ents c.pfxs) c.muls y c.muls.length) l (yy c l) (yy c l).length) W)) := fun jb jv W hW hj => jps base base2 gS gT bB bW jb pb u v rv mv c xv jv l (yy c l) W (h.grown hW) (hx.grown hW) hj (jc6 c l) (by omega) hk (hpp.grown hW) hn hP hns
 have HSC : Hid (∀ gQ bm n W, w.grownBy W none → SumAt gS gQ bm n ((yy c l).length : Int) (yr (xe (j5 c.ents c.pfxs) c.own c.ruls) l (yy c l) (yy c l).length) (x9 (fun y => j3 (j5 c.ents c.pfxs) c.muls y c.muls.length) l (yy c l) (yy c l).length) W → Calls Tryz.prog 62 #[.pointer (some ⟨gQ, 0, none⟩)] W fun e w' => e = .returned (jr9 (j5 c.ents c.pfxs) c l) ∧ W.grownBy w' none) := fun gQ bm n W hW hs => ji0 base base2 gS gT bB bW u v rv mv c gQ bm n _ _ _ W (h.grown hW) hs ⟨by omega, by omega⟩ ⟨hpb.1, by omega⟩ (by omega)
 unfold jjd at HSU
 unfold jr9 at HSC ⊢
 generalize yr (xe (j5 c.ents c.pfxs) c.own c.ruls) l (yy c l) (yy c l).length = PT at *
 generalize x9 (fun y => j3 (j5 c.ents c.pfxs) c.muls y c.muls.length) l (yy c l) (yy c l).length = MP at *
 generalize jb2 c.muls PT (MP.length : Int) = TT at *
 generalize yy c l = CL at *
 generalize (MP.length : Int) = ML at *
 obtain ⟨XA, xc, rfl, _, _⟩ := hx.shape
 have hR := Blk.new w 45 #[.int .i64 0, .int .i64 0, .int .i64 0, .int .i64 0]
 have hgR := World.grownBy_alloc w (.cells #[.int .i64 0, .int .i64 0, .int .i64 0, .int .i64 0] 45) none
 clear h hx ht hk hpp hn hP hns hcl hml hpb
 go_enter Tryz.func50, Tryz.ntmps50
 go_upto_region 1 with fail
 generalize w.alloc (.cells #[.int .i64 0, .int .i64 0, .int .i64 0, .int .i64 0] 45) = w0 at *
 obtain ⟨gR, hgR0⟩ : ∃ g, w.heap.size = g := ⟨_, rfl⟩
 rw [hgR0] at hR
 (try rw [hgR0])
 have hRw : w.heap.size ≤ gR := by omega
 clear hgR0
 go_wp2_with fail
 refine (HSP.out _ hgR).mono ?_
 rintro _ w1 ⟨a, b, rfl, ha, hg1⟩
 have hG1 := ja hgR hg1
 go_wp2_with fail
 refine (HSU.out _ _ _ hG1 ha).mono ?_
 rintro _ w2 ⟨gQ, bm, n, rfl, hS, hg2⟩
 have hG2 := ja hG1 hg2
 have HS := Lib.hid (HSC.out gQ bm n _ hG2 hS)
 clear hS
 go_wp2_with fail
 refine HS.out.mono ?_
 rintro _ w3 ⟨rfl, hg3⟩
 have hG3 := ja hG2 hg3
 have hR3 := ((hR.grown hg1 (by simp)).grown hg2 (by simp)).grown hg3 (by simp)
 obtain ⟨r0, r1, r2, r3⟩ := j9 hR3
 have z0 := hR3.free 0
 have z1 := hR3.free 1
 have z2 := hR3.free 2
 have z3 := hR3.free 3
 have HP : Hid (Blk ((((w3.setCell ⟨gR, 0, none⟩ (.int .i64 (CL.length : Int))).setCell ⟨gR, 1, none⟩ (.int .i64 PT)).setCell ⟨gR, 2, none⟩ (.int .i64 ML)).setCell ⟨gR, 3, none⟩ (.int .i64 TT)) gR 45 #[.int .i64 (CL.length : Int), .int .i64 PT, .int .i64 ML, .int .i64 TT]) := (((hR3.put 0 _).put 1 _).put 2 _).put 3 _
 have hPG : w.grownBy ((((w3.setCell ⟨gR, 0, none⟩ (.int .i64 (CL.length : Int))).setCell ⟨gR, 1, none⟩ (.int .i64 PT)).setCell ⟨gR, 2, none⟩ (.int .i64 ML)).setCell ⟨gR, 3, none⟩ (.int .i64 TT)) none := jg (p := ⟨gR, 3, none⟩) (jg (p := ⟨gR, 2, none⟩) (jg (p := ⟨gR, 1, none⟩) (jg (p := ⟨gR, 0, none⟩) hG3 (.inr hRw) _) (.inr hRw) _) (.inr hRw) _) (.inr hRw) _
 clear HSP HSU HSC HS ha hR hR3
 go_wp2_with fail
 obtain ⟨e0, e1, e2, e3⟩ := j9 HP.out
 refine bodyPost_ret (v := .agg #[.int .i64 (CL.length : Int), .int .i64 PT, .int .i64 ML, .int .i64 TT]) (by simp [results, Tryz.results50, go_sem, e0, e1, e2, e3]) rfl ?_
 exact ⟨rfl, hPG⟩
set_option maxRecDepth 100000 in
set_option maxHeartbeats 16000000 in
theorem jcf (base : Nat) (u v rv mv : Value) (c : Cst) (xv : Value) (l : List Con) (w : World) (h : CstFrom base w u v rv mv c) (hs : CstSm c) (hx : ConsFrom base w xv l) (hxs : ∀ y ∈ l, zy y) (hE : jed c l = 0) (hlen : c.pfxs.length ≤ 2000) (hbs : ∀ x ∈ c.pfxs, x.beg.size ≤ 14) :
 Calls Tryz.prog 45 #[.agg #[u, v, .string c.own, .int .i64 c.beg, .int .i64 c.fin, rv, mv, .bool c.byMode], xv] w fun e w' => ∃ base2 gS gT bB bW, e = .returned (.tuple #[.pointer (some ⟨gS, 0, none⟩), .int .i64 0]) ∧ ScAt base base2 gS gT bB bW u v rv mv c w' ∧ w.grownBy w' none := by
 have HB : Hid (∀ W, w.grownBy W none → Calls Tryz.prog 48 #[.agg #[u, v, .string c.own, .int .i64 c.beg, .int .i64 c.fin, rv, mv, .bool c.byMode], xv] W fun r w' => r = .returned (.int .i64 0) ∧ W.grownBy w' none) := fun W hW => by
  have h1 := jgj base u v rv mv c xv l W (h.grown hW) hs (hx.grown hW) hxs
  rw [hE] at h1
  exact h1
 have HN : Hid (∀ W, w.grownBy W none → Calls Tryz.prog 92 #[.agg #[u, v, .string c.own, .int .i64 c.beg, .int .i64 c.fin, rv, mv, .bool c.byMode]] W (jd9 base u v rv mv c W)) := fun W hW => jik base u v rv mv c W (h.grown hW) hlen hbs
 unfold jd9 at HN
 obtain ⟨P, hP⟩ : ∃ P : Ending → World → Prop, (fun e w' => ∃ base2 gS gT bB bW, e = .returned (.tuple #[.pointer (some ⟨gS, 0, none⟩), .int .i64 0]) ∧ ScAt base base2 gS gT bB bW u v rv mv c w' ∧ w.grownBy w' none) = P := ⟨_, rfl⟩
 have HP : Hid (∀ base2 gS gT bB bW w', ScAt base base2 gS gT bB bW u v rv mv c w' → w.grownBy w' none → P (.returned (.tuple #[.pointer (some ⟨gS, 0, none⟩), .int .i64 0])) w') := fun base2 gS gT bB bW w' h1 h2 => by rw [← hP]; exact ⟨base2, gS, gT, bB, bW, rfl, h1, h2⟩
 rw [hP]
 obtain ⟨UA, uc, rfl, _, _⟩ := h.ents.shape
 obtain ⟨VA, vc, rfl, _, _⟩ := h.pfxs.shape
 obtain ⟨RA, rc, rfl, _, _⟩ := h.ruls.shape
 obtain ⟨MA, mc, rfl, _, _⟩ := h.muls.shape
 obtain ⟨XA, xc, rfl, _, _⟩ := hx.shape
 have hB := Blk.new w 33 #[.slice UA c.ents.length uc, .slice VA c.pfxs.length vc, .string c.own, .int .i64 c.beg, .int .i64 c.fin, .slice RA c.ruls.length rc, .slice MA c.muls.length mc, .bool c.byMode]
 have hgB := World.grownBy_alloc w (.cells #[.slice UA c.ents.length uc, .slice VA c.pfxs.length vc, .string c.own, .int .i64 c.beg, .int .i64 c.fin, .slice RA c.ruls.length rc, .slice MA c.muls.length mc, .bool c.byMode] 33) none
 clear h hs hx hxs hE hlen hbs hP
 go_enter Tryz.func45, Tryz.ntmps45
 go_upto_region 1 with fail
 generalize w.alloc (.cells #[.slice UA c.ents.length uc, .slice VA c.pfxs.length vc, .string c.own, .int .i64 c.beg, .int .i64 c.fin, .slice RA c.ruls.length rc, .slice MA c.muls.length mc, .bool c.byMode] 33) = w0 at *
 generalize w.heap.size = gC at *
 obtain ⟨k0, k1, k2, k3, k4, k5, k6, k7⟩ := qh hB
 go_wp2_with fail
 refine (HB.out _ hgB).mono ?_
 rintro _ w1 ⟨rfl, hg1⟩
 have hB1 := hB.grown hg1 (by simp)
 have hG1 := ja hgB hg1
 clear k0 k1 k2 k3 k4 k5 k6 k7
 obtain ⟨k0, k1, k2, k3, k4, k5, k6, k7⟩ := qh hB1
 go_wp2_with fail
 refine (HN.out _ hG1).mono ?_
 rintro _ w2 ⟨base2, gS, gT, bB, bW, rfl, hS, _, hg2⟩
 have HR := Lib.hid (HP.out base2 gS gT bB bW w2 hS (ja hG1 hg2))
 go_wp2_with fail
 exact HR.out
set_option maxRecDepth 100000 in
set_option maxHeartbeats 16000000 in
theorem jll (base pb : Nat) (u v rv mv : Value) (c : Cst) (xv : Value) (l : List Con) (w : World) (h : CstFrom base w u v rv mv c) (hs : CstSm c) (hx : ConsFrom base w xv l) (hxs : ∀ y ∈ l, zy y) (hE : jed c l = 0) (hlen : c.pfxs.length ≤ 2000) (hbs : ∀ x ∈ c.pfxs, x.beg.size ≤ 14) (ht : ∀ y ∈ l, 0 ≤ y.tm ∧ y.tm ≤ 345686399999) (h20 : l.length < 20) (hk : ∀ y ∈ l, ScOk c y) (hpp : P10 pb w) (hn : ∀ y ∈ l, NamOk c y) (hP : ∀ y ∈ l, 0 ≤ xe (j5 c.ents c.pfxs) c.own c.ruls y ∧ xe (j5 c.ents c.pfxs) c.own c.ruls y ≤ 1000) (hns : ∀ y ∈ l, ∀ q ∈ j3 (j5 c.ents c.pfxs) c.muls y c.muls.length, jp8 q) :
 Calls Tryz.prog 13 #[.agg #[u, v, .string c.own, .int .i64 c.beg, .int .i64 c.fin, rv, mv, .bool c.byMode], xv] w fun e w' => e = .returned (.tuple #[jr9 (j5 c.ents c.pfxs) c l, .int .i64 0]) ∧ w.grownBy w' none := by
 have HO : Hid (∀ W, w.grownBy W none → Calls Tryz.prog 45 #[.agg #[u, v, .string c.own, .int .i64 c.beg, .int .i64 c.fin, rv, mv, .bool c.byMode], xv] W fun e w' => ∃ base2 gS gT bB bW, e = .returned (.tuple #[.pointer (some ⟨gS, 0, none⟩), .int .i64 0]) ∧ ScAt base base2 gS gT bB bW u v rv mv c w' ∧ W.grownBy w' none) := fun W hW => jcf base u v rv mv c xv l W (h.grown hW) hs (hx.grown hW) hxs hE hlen hbs
 have HS : Hid (∀ base2 gS gT bB bW W, w.grownBy W none → ScAt base base2 gS gT bB bW u v rv mv c W → Calls Tryz.prog 50 #[.pointer (some ⟨gS, 0, none⟩), xv] W fun e w' => e = .returned (jr9 (j5 c.ents c.pfxs) c l) ∧ W.grownBy w' none) := fun base2 gS gT bB bW W hW hsc => jce base base2 gS gT bB bW pb u v rv mv c xv l W hsc (hx.grown hW) ht h20 hk (hpp.grown hW) hn hP hns
 obtain ⟨a0, a1, a2, a3, hsv⟩ : ∃ a0 a1 a2 a3 : Int, jr9 (j5 c.ents c.pfxs) c l = .agg #[.int .i64 a0, .int .i64 a1, .int .i64 a2, .int .i64 a3] := ⟨_, _, _, _, rfl⟩
 rw [hsv] at HS ⊢
 obtain ⟨UA, uc, rfl, _, _⟩ := h.ents.shape
 obtain ⟨VA, vc, rfl, _, _⟩ := h.pfxs.shape
 obtain ⟨RA, rc, rfl, _, _⟩ := h.ruls.shape
 obtain ⟨MA, mc, rfl, _, _⟩ := h.muls.shape
 obtain ⟨XA, xc, rfl, _, _⟩ := hx.shape
 have hB := Blk.new w 33 #[.slice UA c.ents.length uc, .slice VA c.pfxs.length vc, .string c.own, .int .i64 c.beg, .int .i64 c.fin, .slice RA c.ruls.length rc, .slice MA c.muls.length mc, .bool c.byMode]
 have hgB := World.grownBy_alloc w (.cells #[.slice UA c.ents.length uc, .slice VA c.pfxs.length vc, .string c.own, .int .i64 c.beg, .int .i64 c.fin, .slice RA c.ruls.length rc, .slice MA c.muls.length mc, .bool c.byMode] 33) none
 have hR := Blk.new (w.alloc (.cells #[.slice UA c.ents.length uc, .slice VA c.pfxs.length vc, .string c.own, .int .i64 c.beg, .int .i64 c.fin, .slice RA c.ruls.length rc, .slice MA c.muls.length mc, .bool c.byMode] 33)) 45 #[.int .i64 0, .int .i64 0, .int .i64 0, .int .i64 0]
 have hgR := World.grownBy_alloc (w.alloc (.cells #[.slice UA c.ents.length uc, .slice VA c.pfxs.length vc, .string c.own, .int .i64 c.beg, .int .i64 c.fin, .slice RA c.ruls.length rc, .slice MA c.muls.length mc, .bool c.byMode] 33)) (.cells #[.int .i64 0, .int .i64 0, .int .i64 0, .int .i64 0] 45) none
 have hB2 := hB.grown hgR (by simp)
 have hgA := ja hgB hgR
 have e1 : (w.alloc (.cells #[.slice UA c.ents.length uc, .slice VA c.pfxs.length vc, .string c.own, .int .i64 c.beg, .int .i64 c.fin, .slice RA c.ruls.length rc, .slice MA c.muls.length mc, .bool c.byMode] 33)).heap.size = w.heap.size + 1 := by simp
 rw [e1] at hR
 clear h hs hx hxs hE hlen hbs ht hk hpp hn hP hns hsv hB hgB hgR
 go_enter Tryz.func13, Tryz.ntmps13
 go_upto_region 1 with fail
 (try rw [e1])
 clear e1
 generalize (w.alloc (.cells #[.slice UA c.ents.length uc, .slice VA c.pfxs.length vc, .string c.own, .int .i64 c.beg, .int .i64 c.fin, .slice RA c.ruls.length rc, .slice MA c.muls.length mc, .bool c.byMode] 33)).alloc (.cells #[.int .i64 0, .int .i64 0, .int .i64 0, .int .i64 0] 45) = w0 at *
 obtain ⟨gC, hgC⟩ : ∃ g, w.heap.size = g := ⟨_, rfl⟩
 rw [hgC] at hB2 hR
 (try rw [hgC])
 obtain ⟨k0, k1, k2, k3, k4, k5, k6, k7⟩ := qh hB2
 go_wp2_with fail
 refine (HO.out _ hgA).mono ?_
 rintro _ w1 ⟨base2, gS, gT, bB, bW, rfl, hS1, hg1⟩
 have hG1 := ja hgA hg1
 have HS1 := Lib.hid (HS.out _ _ _ _ _ _ hG1 hS1)
 clear k0 k1 k2 k3 k4 k5 k6 k7 hS1
 go_wp2_with fail
 refine HS1.out.mono ?_
 rintro _ w3 ⟨rfl, hg3⟩
 have hG3 := ja hG1 hg3
 have hR3 := (hR.grown hg1 (by simp)).grown hg3 (by simp)
 obtain ⟨r0, r1, r2, r3⟩ := j9 hR3
 have z0 := hR3.free 0
 have z1 := hR3.free 1
 have z2 := hR3.free 2
 have z3 := hR3.free 3
 have HP : Hid (Blk ((((w3.setCell ⟨gC + 1, 0, none⟩ (.int .i64 a0)).setCell ⟨gC + 1, 1, none⟩ (.int .i64 a1)).setCell ⟨gC + 1, 2, none⟩ (.int .i64 a2)).setCell ⟨gC + 1, 3, none⟩ (.int .i64 a3)) (gC + 1) 45 #[.int .i64 a0, .int .i64 a1, .int .i64 a2, .int .i64 a3]) := (((hR3.put 0 _).put 1 _).put 2 _).put 3 _
 have hRw2 : w.heap.size ≤ gC + 1 := by omega
 have hPG : w.grownBy ((((w3.setCell ⟨gC + 1, 0, none⟩ (.int .i64 a0)).setCell ⟨gC + 1, 1, none⟩ (.int .i64 a1)).setCell ⟨gC + 1, 2, none⟩ (.int .i64 a2)).setCell ⟨gC + 1, 3, none⟩ (.int .i64 a3)) none := jg (p := ⟨gC + 1, 3, none⟩) (jg (p := ⟨gC + 1, 2, none⟩) (jg (p := ⟨gC + 1, 1, none⟩) (jg (p := ⟨gC + 1, 0, none⟩) hG3 (.inr hRw2) _) (.inr hRw2) _) (.inr hRw2) _) (.inr hRw2) _
 clear HO HS HS1 hR hR3 hB2
 go_wp2_with fail
 obtain ⟨e0, e1, e2, e3⟩ := j9 HP.out
 refine bodyPost_ret (v := .tuple #[.agg #[.int .i64 a0, .int .i64 a1, .int .i64 a2, .int .i64 a3], .int .i64 0]) (by simp [results, Tryz.results13, go_sem, e0, e1, e2, e3]) rfl ?_
 exact ⟨rfl, hPG⟩
end Go.Proofs.YtbamhgaghngjiaaGreatDoor
namespace Go.Proofs.YtbamhgaghngjiaaGreatDoor
set_option linter.unusedVariables false

theorem jmr {r : Rul} (h : jb0 r = 0) : 0 ≤ r.points ∧ r.points ≤ 1000 := by
 unfold jb0 at h
 split at h
 ·omega
 split at h
 ·omega
 split at h
 ·omega
 split at h
 ·omega
 rename_i h4
 unfold qu at h4
 simp at h4
 omega
theorem jv2 (F : ByteArray → Int → Option Fnd) (own : ByteArray) {rs : List Rul} (h : yj rs = 0) (x : Con) : 0 ≤ xe F own rs x ∧ xe F own rs x ≤ 1000 := by
 have hs : ∀ r ∈ rs, jb0 r = 0 := by
  unfold yj at h
  split at h
  ·omega
  exact jkn jb0 h
 unfold xe
 split
 ·rename_i h0
  rcases jlj F own x rs with hn | ⟨_, h1⟩
  ·omega
  have hl : (ja3 F own rs x).toNat < rs.length := by omega
  have e : rs.getD (ja3 F own rs x).toNat ⟨0, 0, ⟨#[]⟩, 0⟩ = rs[(ja3 F own rs x).toNat] := by simp [hl]
  rw [e]
  exact jmr (hs _ (List.getElem_mem hl))
 omega
theorem jts {l : List Ent} {p : List Pfx} (h : jah l p = 0) {x : Pfx} (hx : x ∈ p) : 0 ≤ (jgw l x).2.1 ∧ (jgw l x).2.1 ≤ 1000000 ∧ 0 ≤ (jgw l x).2.2 ∧ (jgw l x).2.2 ≤ 1000000 ∧ (jgw l x).1 ∈ l.map (·.key) := by
 have hR := jpu h
 have hE : xj l = 0 := by
  unfold jah at h
  by_cases he : xj l = 0
  ·exact he
  rw [if_pos he] at h; exact absurd h he
 have hT := (jd2 hE).times
 have hP := hR.pfx x hx
 obtain ⟨e, he⟩ := Option.isSome_iff_exists.1 hP.has
 have hm := (jen he).1
 have hd : jhs l x.ent = e := by unfold jhs; rw [he]; rfl
 obtain ⟨_, _, c0, c1, z0, z1⟩ := hT e hm
 have hz0 := hP.z0
 have hz1 := hP.z1
 unfold jgw jtt
 rw [hd]
 refine ⟨by show 0 ≤ e.cont; omega, by show e.cont ≤ _; omega, ?_, ?_, List.mem_map.2 ⟨e, hm, rfl⟩⟩
 ·show 0 ≤ (if x.zone ≠ 0 then x.zone else e.zone)
  split <;> omega
 show (if x.zone ≠ 0 then x.zone else e.zone) ≤ _
 split <;> omega
theorem jn9 {l : List Ent} {p : List Pfx} {s : ByteArray} {t : Int} {q : ByteArray × Nat × Int × ByteArray} {f : Fnd} (h : jgv l p s t q = some f) : ∃ x ∈ p, f = jgw l x := by
 unfold jgv at h
 split at h
 ·rename_i x hx
  injection h with h
  exact ⟨x, List.mem_of_find?_eq_some hx, h.symm⟩
 unfold jle at h
 split at h
 ·cases h
 split at h
 ·cases h
 obtain ⟨x, hx, rfl⟩ := Option.map_eq_some_iff.1 h
 exact ⟨x, List.mem_of_getElem? hx, rfl⟩
theorem jn8 {l : List Ent} {p : List Pfx} (h : jah l p = 0) {s : ByteArray} {t : Int} {f : Fnd} (hf : j5 l p s t = some f) : 0 ≤ f.2.1 ∧ f.2.1 ≤ 1000000 ∧ 0 ≤ f.2.2 ∧ f.2.2 ≤ 1000000 ∧ f.1 ∈ l.map (·.key) := by
 unfold j5 at hf
 cases hq : jo s with
 | none => rw [hq] at hf; cases hf
 | some q =>
   rw [hq] at hf
   obtain ⟨x, hx, rfl⟩ := jn9 (show jgv l p s t q = some f from hf)
   exact jts h hx
theorem jrv {c : Cst} {x : Con} (h : jah c.ents c.pfxs = 0) (hm : 1 ≤ x.mode ∧ x.mode ≤ 3) (hs : ∀ e ∈ c.ents, e.key.size ≤ 1000) (hl : c.muls.length ≤ 10) : NamOk c x := by
 refine ⟨by omega, by omega, fun f hf => ?_, fun f hf => ?_, hl⟩
 ·have := jn8 h hf
  exact ⟨this.1, this.2.1, this.2.2.1, this.2.2.2.1⟩
 obtain ⟨e, he, hk⟩ := List.mem_map.1 (jn8 h hf).2.2.2.2
 rw [← hk]
 exact hs e he
end Go.Proofs.YtbamhgaghngjiaaGreatDoor
namespace Go.Proofs.YtbamhgaghngjiaaGreatDoor
open Go.RowKit
set_option linter.unusedVariables false
set_option linter.unusedSimpArgs false

theorem TabRight.beg {l : List Ent} {p : List Pfx} (h : TabRight l p) : ∀ x ∈ p, x.beg.size ≤ 14 := fun x hx => by
 cases hw : x.whole with
 | false => have := h.size x hx hw; omega
 | true =>
   have hf := (h.pfx x hx).form
   unfold jjs at hf
   rw [hw] at hf
   simp only [if_true, Bool.not_eq_false'] at hf
   by_cases h1 : 14 < x.beg.size
   ·unfold jo at hf
    rw [if_pos h1] at hf
    simp at hf
   omega
theorem jjp {y : Con} (h : zq y = 0) : (0 ≤ y.tm ∧ y.tm ≤ 345686399999) ∧ (1 ≤ y.mode ∧ y.mode ≤ 3) ∧ xl y.call = true := by
 unfold zq at h
 by_cases h1 : qu y.tm 0 345686399999 = true
 ·rw [if_pos h1] at h; omega
 rw [if_neg h1] at h
 by_cases h2 : qu y.mode 1 3 = true
 ·rw [if_pos h2] at h; omega
 rw [if_neg h2] at h
 by_cases h3 : jaq y.band.data.toList = false
 ·rw [if_pos h3] at h; omega
 rw [if_neg h3] at h
 by_cases h4 : xl y.call = false
 ·rw [if_pos h4] at h; omega
 refine ⟨?_, ?_, by simpa using h4⟩
 ·unfold qu at h1; simp at h1; omega
 unfold qu at h2; simp at h2; omega
theorem jgr {l : List Con} (h : qm l = 0) : l.length ≤ 2000 ∧ ∀ y ∈ l, zq y = 0 := by
 unfold qm at h
 split at h
 ·omega
 exact ⟨by omega, jkn zq h⟩
theorem jvv {a b c d e : Int} (h : orL [a, b, c, d, e] = 0) : a = 0 ∧ b = 0 ∧ c = 0 ∧ d = 0 ∧ e = 0 := by
 by_cases h1 : a = 0 <;> by_cases h2 : b = 0 <;> by_cases h3 : c = 0 <;> by_cases h4 : d = 0 <;> by_cases h5 : e = 0 <;> simp [orL, h1, h2, h3, h4, h5] at h ⊢
theorem jsn {c : Cst} (h : jfw c = 0) : jah c.ents c.pfxs = 0 ∧ jdx c.own = 0 ∧ jaj c.beg c.fin = 0 ∧ yj c.ruls = 0 ∧ zj c.muls = 0 := jvv h
theorem jos (a : ByteArray) (bb bm : Bool) (BD IM : ByteArray) : (jsr a bb bm BD IM).size ≤ a.size + BD.size + IM.size + 2 := by
 have hs : ∀ t : ByteArray, ((⟨#[32]⟩ : ByteArray) ++ t).size = 1 + t.size := fun t => by rw [ByteArray.size_append]; rfl
 unfold jsr
 split
 ·show 0 ≤ _; omega
 cases bb <;> cases bm <;> simp only [if_true, if_false, Bool.false_eq_true, ByteArray.size_append, hs] <;> omega
theorem jmn (s : ByteArray) : (jr0 s).size ≤ 100 := by
 unfold jr0
 cases hq : jo s with
 | none => show 0 ≤ _; omega
 | some q =>
   have := (jbo hq).1
   show (q.1.extract 0 (q.2.1 + 1)).size ≤ _
   rw [ByteArray.size_extract]; omega
theorem jor {F : ByteArray → Int → Option Fnd} {x : Con} (hg : x.got.size ≤ 1000) (hf : ∀ f, F x.call x.tm = some f → f.1.size ≤ 1000 ∧ f.2.1 ≤ 1000000 ∧ f.2.2 ≤ 1000000) (m : Int) : (jt1 F x m).size ≤ 1000 := by
 unfold jt1
 split
 ·have := jmn x.call; omega
 split
 ·exact hg
 cases hq : F x.call x.tm with
 | none => show 0 ≤ _; omega
 | some f =>
   obtain ⟨h1, h2, h3⟩ := hf f hq
   have i1 := jbm (t := f.2.1) (by omega)
   have i2 := jbm (t := f.2.2) (by omega)
   show (if m = 1 then f.1 else if m = 2 then itZ f.2.2 else itZ f.2.1).size ≤ _
   split
   ·exact h1
   split <;> omega
theorem jf6 {F : ByteArray → Int → Option Fnd} {ms : List Mul} {x : Con} : ∀ (n : Nat) (q : Nat × ByteArray), q ∈ j3 F ms x n → q.1 < n ∧ ∃ m, q.2 = je2 F x m
 | 0, q, h => by cases h
 | n + 1, q, h => by
   unfold j3 at h
   rcases List.mem_append.1 h with h | h
   ·obtain ⟨h1, h2⟩ := jf6 n q h
    exact ⟨by omega, h2⟩
   split at h
   ·cases h
   rw [List.mem_singleton] at h
   subst h
   exact ⟨by show n < n + 1; omega, _, rfl⟩
structure ScRight (c : Cst) (l : List Con) : Prop where
 E : jed c l = 0
 len : c.pfxs.length ≤ 2000
 beg : ∀ x ∈ c.pfxs, x.beg.size ≤ 14
 tm : ∀ y ∈ l, 0 ≤ y.tm ∧ y.tm ≤ 345686399999
 ok : ∀ y ∈ l, ScOk c y
 nam : ∀ y ∈ l, NamOk c y
 pts : ∀ y ∈ l, 0 ≤ xe (j5 c.ents c.pfxs) c.own c.ruls y ∧ xe (j5 c.ents c.pfxs) c.own c.ruls y ≤ 1000
 nms : ∀ y ∈ l, ∀ q ∈ j3 (j5 c.ents c.pfxs) c.muls y c.muls.length, jp8 q
theorem jag {c : Cst} {l : List Con} (hs : CstSm c) (hxs : ∀ y ∈ l, zy y) (hC : jfw c = 0) (hX : qm l = 0) : ScRight c l := by
 obtain ⟨ht, ho, hti, hr, hm⟩ := jsn hC
 obtain ⟨hl, hcon⟩ := jgr hX
 have hR := jpu ht
 have hml : c.muls.length ≤ 10 := by
  unfold zj at hm
  split at hm
  ·omega
  omega
 have hown : xl c.own = true := by
  unfold jdx at ho
  split at ho
  ·assumption
  omega
 have hke : ∀ e ∈ c.ents, e.key.size ≤ 1000 := fun e he => by
  have hk := (hR.ok.ents.times e he).2.1
  unfold jaq at hk
  simp only [Bool.and_eq_true, decide_eq_true_eq] at hk
  rw [zw]; omega
 have hN : ∀ y ∈ l, NamOk c y := fun y hy => jrv ht (jjp (hcon y hy)).2.1 hke hml
 refine ⟨?_, hR.ok.len, hR.beg, fun y hy => (jjp (hcon y hy)).1, fun y hy => ⟨hR, hown, (jjp (hcon y hy)).2.2, hs.own, hs.asc, hxs y hy⟩, hN, fun y hy => jv2 _ _ hr y, ?_⟩
 ·unfold jed; rw [if_pos hC]; exact hX
 intro y hy q hq
 obtain ⟨h1, m, h2⟩ := jf6 _ _ hq
 obtain ⟨hb, hc, _, _, hgt⟩ := hxs y hy
 have hn := hN y hy
 have h0 := jor (F := j5 c.ents c.pfxs) (x := y) hgt (fun f hf => ⟨hn.s f hf, (hn.z f hf).2.1, (hn.z f hf).2.2.2⟩) m.what
 have hi := jbm (t := y.mode) (by have := hn.m1; omega)
 have hz := jos (jt1 (j5 c.ents c.pfxs) y m.what) m.byBand m.byMode y.band (itZ y.mode)
 rw [← jot] at hz
 refine ⟨by omega, ?_⟩
 rw [h2]; omega
end Go.Proofs.YtbamhgaghngjiaaGreatDoor
namespace Go.Proofs.YtbamhgaghngjiaaGreatDoor
open Go.RowKit Go.Sort Go.Shelf
set_option linter.unusedVariables false

theorem jpo (l : List Con) (m : Nat) (h : l.length = m + 1) (d : Array (Fin (m + 1))) : (jm7 l m h d).toList.Perm d.toList := by
 have hw : SWO (ltOf (tmF l m h)) := by
  refine ⟨fun x => ?_, fun x y z h1 h2 => ?_, fun x y z h1 h2 => ?_⟩
  ·unfold ltOf tmF
   rw [decide_eq_false_iff_not]
   omega
  ·unfold ltOf tmF at *
   rw [decide_eq_true_eq] at *
   omega
  unfold ltOf tmF at *
  rw [decide_eq_false_iff_not] at *
  omega
 have hp := (insertionSort_holds hw d 0 d.size (Nat.zero_le _) (Nat.le_refl _)).1
 unfold jm7
 generalize Sort.insertionSort (ltOf (tmF l m h)) d 0 d.size = d2 at *
 have h1 := hp.2.2
 have h0 : d2.size = d.size := hp.1
 have e : d2.extract 0 d.size = d2 := by rw [← h0]; exact Array.extract_size
 rw [e, Array.extract_size] at h1
 exact h1
theorem joz (a z : Int) (l : List Con) : (jg7 a z l).Perm (inN a z l l.length) := by
 cases l with
 | nil => exact List.Perm.refl _
 | cons y r =>
   rw [jbc]
   have h1 := (jpo (y :: r) r.length rfl (jl3 (r.length + 1) (inN a z (y :: r) (r.length + 1))).toArray).map fun x => x.val
   rw [List.toList_toArray, jd3 (r.length + 1) _ (jib a z (y :: r) (r.length + 1))] at h1
   exact h1
theorem jjt (a z : Int) (l : List Con) : ∀ k, ∀ j ∈ inN a z l k, jb3 a z (jcn l j).tm = true
 | 0, j, h => by cases h
 | k + 1, j, h => by
   unfold inN at h
   split at h
   ·rename_i hh
    rcases List.mem_append.1 h with h | h
    ·exact jjt a z l k j h
    rw [List.mem_singleton.1 h]; exact hh
   exact jjt a z l k j h
theorem jq0 (c : Cst) (l : List Con) : ∀ j ∈ yy c l, jb3 c.beg c.fin (jcn l j).tm = true := fun j hj =>
 jjt _ _ l _ j ((joz c.beg c.fin l).mem_iff.1 (jd6 _ _ _ _ (Nat.le_refl _) j hj))
def jm8 (F : ByteArray → Int → Option Fnd) (c : Cst) (l : List Con) : Int := jb2 c.muls (yr (xe F c.own c.ruls) l (yy c l) (yy c l).length) ((x9 (fun y => j3 F c.muls y c.muls.length) l (yy c l) (yy c l).length).length : Int)
theorem jd4 (F : ByteArray → Int → Option Fnd) (c : Cst) (l : List Con) : ∃ a0 a1 a2 : Int, jr9 F c l = .agg #[.int .i64 a0, .int .i64 a1, .int .i64 a2, .int .i64 (jm8 F c l)] := ⟨_, _, _, rfl⟩
theorem jsi (ms : List Mul) {p n : Int} (hp : 0 ≤ p ∧ p ≤ 100000) (hn : 0 ≤ n ∧ n ≤ 1000) : 0 ≤ jb2 ms p n ∧ jb2 ms p n ≤ 100000000 := by
 unfold jb2
 split
 ·have h1 := Int.mul_le_mul hp.2 hn.2 hn.1 (by decide)
  exact ⟨Int.mul_nonneg hp.1 hn.1, by omega⟩
 omega
theorem juu {c : Cst} {l : List Con} (hR : ScRight c l) (h20 : l.length < 20) (k : Nat) (hk : k ≤ (yy c l).length) : 0 ≤ jb2 c.muls (yr (xe (j5 c.ents c.pfxs) c.own c.ruls) l (yy c l) k) ((x9 (fun y => j3 (j5 c.ents c.pfxs) c.muls y c.muls.length) l (yy c l) k).length : Int) ∧ jb2 c.muls (yr (xe (j5 c.ents c.pfxs) c.own c.ruls) l (yy c l) k) ((x9 (fun y => j3 (j5 c.ents c.pfxs) c.muls y c.muls.length) l (yy c l) k).length : Int) ≤ 100000000 := by
 have hl := jgn c l
 have h1 := jcx _ l (yy c l) (jc6 c l) hR.pts k hk
 have h2 := jcu (fun y => j3 (j5 c.ents c.pfxs) c.muls y c.muls.length) l (yy c l) (jc6 c l) (fun y hy => Nat.le_trans (xg _ _ _ _) (hR.nam y hy).l) k hk
 refine jsi _ ⟨h1.1, by omega⟩ ⟨by omega, by omega⟩
theorem jhn {c : Cst} {l : List Con} (hR : ScRight c l) (h20 : l.length < 20) : 0 ≤ jm8 (j5 c.ents c.pfxs) c l ∧ jm8 (j5 c.ents c.pfxs) c l ≤ 100000000 := juu hR h20 _ (Nat.le_refl _)
end Go.Proofs.YtbamhgaghngjiaaGreatDoor
