/- Parts of a proof: ScSumOf, ScScoreOf, ScOf, ScoreOf, ScBd, FndBd, OfT, ScRight, ScPerm, ScPart, Facts, CardBase. Conditions: as each statement says. -/
import Derived.Test.YtbamhgaghngjiaaGreatDoorSxav
import Derived.Test.YtbamhgaghngjiaaGreatDoorCards
import Derived.Test.YtbamhgaghngjiaaGreatDoorTie
import Derived.LaidMore
import Derived.Stop.Joined
import Derived.Stop.LaidErr
import Derived.HandedShaped
import Derived.Shelf.Vars
import Derived.PinnedBridge
import Derived.SevenTiedAt
namespace Go.Proofs.YtbamhgaghngjiaaGreatDoor
open Go.RowKit
set_option linter.unusedVariables false
set_option linter.unusedSimpArgs false

def jdr (P : Con → Int) (l : List Con) (js : List Nat) : Nat → Int
 | 0 => 0
 | k + 1 => jdr P l js k + P (yi l (js.getD k 0))
def jag (N : Con → List Nm) (l : List Con) (js : List Nat) : Nat → List (List UInt8 × Int)
 | 0 => []
 | k + 1 => jas (jag N l js k) (N (yi l (js.getD k 0))) (N (yi l (js.getD k 0))).length
theorem jjd (P : Con → Int) (l : List Con) (js : List Nat) (hj : ∀ j ∈ js, j < l.length) (hP : ∀ y ∈ l, 0 ≤ P y ∧ P y ≤ 1000) : ∀ k : Nat, k ≤ js.length → 0 ≤ jdr P l js k ∧ jdr P l js k ≤ 1000 * k
 | 0, _ => ⟨Int.le_refl _, by simp [jdr]⟩
 | k + 1, h => by
   have ih := jjd P l js hj hP k (by omega)
   have hlt : k < js.length := by omega
   have e : js.getD k 0 = js[k] := by simp [hlt]
   have hl := hj js[k] (List.getElem_mem hlt)
   have hp := hP l[js[k]] (List.getElem_mem hl)
   unfold jdr
   rw [e, zi l _ hl]
   omega
theorem jn6 (N : Con → List Nm) (l : List Con) (js : List Nat) (hj : ∀ j ∈ js, j < l.length) (hN : ∀ y ∈ l, (N y).length ≤ 10) : ∀ k : Nat, k ≤ js.length → ∀ q ∈ jag N l js k, 0 ≤ q.2 ∧ q.2 ≤ 10 * k
 | 0, _, q, hq => by cases hq
 | k + 1, h, q, hq => by
   have ih := jn6 N l js hj hN k (by omega)
   have hlt : k < js.length := by omega
   have e : js.getD k 0 = js[k] := by simp [hlt]
   have hl := hj js[k] (List.getElem_mem hlt)
   have hp := hN l[js[k]] (List.getElem_mem hl)
   unfold jag at hq
   rw [e, zi l _ hl] at hq
   have := jjp (B := 10 * k) (by omega) ih (N l[js[k]]) (N l[js[k]]).length q hq
   omega
def jng (gS : Nat) (js : List Nat) (pt : Int) (L : List (List UInt8 × Int)) (w : World) (e : Ending) (w' : World) : Prop :=
 ∃ gQ bm n, e = .returned (.pointer (some ⟨gQ, 0, none⟩)) ∧ SumAt gS gQ bm n (js.length : Int) pt L w' ∧ w.grownBy w' none
set_option maxRecDepth 100000 in
set_option maxHeartbeats 16000000 in
theorem jrr (base base2 gS gT bB bW jb pb : Nat) (u v rv mv : Value) (c : Cst) (xv jv : Value) (l : List Con) (js : List Nat) (w : World) (h : ScAt base base2 gS gT bB bW u v rv mv c w) (hx : ConsFrom base w xv l) (hj : IntsFrom jb w jv (j2 js)) (hjl : ∀ j ∈ js, j < l.length) (hjn : js.length ≤ 100) (hk : ∀ y ∈ l, ScOk c y) (hpp : P10 pb w) (hn : ∀ y ∈ l, NamOk c y) (hP : ∀ y ∈ l, 0 ≤ xu (qd c.ents c.pfxs) c.own c.ruls y ∧ xu (qd c.ents c.pfxs) c.own c.ruls y ≤ 1000) (hns : ∀ y ∈ l, ∀ q ∈ j8 (qd c.ents c.pfxs) c.muls y c.muls.length, jpg q) :
 Calls Tryz.prog 67 #[.pointer (some ⟨gS, 0, none⟩), xv, jv] w (jng gS js (jdr (xu (qd c.ents c.pfxs) c.own c.ruls) l js js.length) (jag (fun y => j8 (qd c.ents c.pfxs) c.muls y c.muls.length) l js js.length) w) := by
 obtain ⟨XA, xc, rfl, _, hXA⟩ := hx.shape
 have hjsN : (j2 js).length = js.length := by unfold j2; rw [List.length_map]
 obtain ⟨JA, jc, rfl, _, hJA⟩ := hj.shape
 rw [hjsN] at hj hJA
 (try rw [hjsN])
 have HX := Lib.hid hx
 have HXA := Lib.hid hXA
 have HJ := Lib.hid hj
 have HJA := Lib.hid hJA
 have HJN := Lib.hid hjsN
 have HJL := Lib.hid hjl
 have hPb := jjd (xu (qd c.ents c.pfxs) c.own c.ruls) l js hjl hP
 have hMb := jn6 (fun y => j8 (qd c.ents c.pfxs) c.muls y c.muls.length) l js hjl (fun y hy => Nat.le_trans (zo _ _ _ _) (hn y hy).l)
 have HPB := Lib.hid hPb
 have HMB := Lib.hid hMb
 have HADD : Hid (∀ (y : Con) (hy : y ∈ l) (gQ bm n : Nat) (ct pt : Int) (L : List (List UInt8 × Int)) (W : World), w.grownBy W none → w.heap.size ≤ gQ → w.heap.size ≤ bm → SumAt gS gQ bm n ct pt L W → 0 ≤ ct ∧ ct ≤ 100000 → 0 ≤ pt ∧ pt ≤ 100000000 → n ≤ 100000 → (∀ q ∈ L, 0 ≤ q.2 ∧ q.2 ≤ 100000) → Calls Tryz.prog 61 #[.pointer (some ⟨gQ, 0, none⟩), .agg #[.int .i64 y.tm, .int .i64 y.mode, .string y.band, .string y.call, .int .i64 y.sent, .int .i64 y.heard, .string y.gave, .string y.got], .int .i64 1] W (AddPost gS gQ bm (n + (j8 (qd c.ents c.pfxs) c.muls y c.muls.length).length) (ct + 1) (pt + xu (qd c.ents c.pfxs) c.own c.ruls y) (jas L (j8 (qd c.ents c.pfxs) c.muls y c.muls.length) (j8 (qd c.ents c.pfxs) c.muls y c.muls.length).length) w)) := fun y hy gQ bm n ct pt L W hW h1 h2 h3 h4 h5 h6 h7 => jwh base base2 gS gT bB bW u v rv mv c y pb gQ bm n ct pt L w W h (hk y hy) hpp (hn y hy) hW h1 h2 h3 h4 h5 h6 h7 (hP y hy) (hns y hy)
 have HNL : Hid (∀ y ∈ l, (j8 (qd c.ents c.pfxs) c.muls y c.muls.length).length ≤ 10) := fun y hy => Nat.le_trans (zo _ _ _ _) (hn y hy).l
 obtain ⟨PP, hPP⟩ : ∃ f, xu (qd c.ents c.pfxs) c.own c.ruls = f := ⟨_, rfl⟩
 obtain ⟨NN, hNN⟩ : ∃ f : Con → List Nm, (fun y => j8 (qd c.ents c.pfxs) c.muls y c.muls.length) = f := ⟨_, rfl⟩
 have hNN2 : ∀ y, j8 (qd c.ents c.pfxs) c.muls y c.muls.length = NN y := fun y => by rw [← hNN]
 simp only [hPP, hNN2] at HADD HNL HPB HMB ⊢
 clear h hx hj hjl hk hpp hn hP hns hXA hJA hPb hMb hPP hNN hNN2 hjsN
 go_enter Tryz.func67, Tryz.ntmps67
 go_wp2_with fail
 refine (jxz gS w).mono ?_
 rintro _ w1 ⟨gQ, bm, rfl, hS1, hQ0, hM0, hg1⟩
 go_wp2_with fail
 go_loopw [14] (fun iv wr => ∃ k n : Nat, k ≤ js.length ∧ iv = .int .i64 k ∧ SumAt gS gQ bm n (k : Int) (jdr PP l js k) (jag NN l js k) wr ∧ n ≤ 10 * k ∧ w.grownBy wr none) (fun iv _ => js.length - (intOf iv).toNat)
 case atStart => exact ⟨0, 0, by omega, rfl, hS1, by omega, hg1⟩
 case round =>
  clear hS1 hg1
  obtain ⟨k, n, hk, rfl, hS, hnk, hg⟩ := hrel
  by_cases hlt : k < js.length
  ·have hki : (k : Int) < (js.length : Int) := by omega
   obtain ⟨g, rfl, _, _⟩ := HJA.out (by omega)
   have q := IntsFrom.at_ (g := g) (c := jc) (l := j2 js) (by rw [HJN.out]; exact IntsFrom.grown HJ.out hg) k (by have := HJN.out; omega)
   have hnk2 : (j2 js)[k]'(by have := HJN.out; omega) = ((js[k] : Nat) : Int) := by simp [j2]
   rw [hnk2] at q
   have hj := HJL.out js[k] (List.getElem_mem hlt)
   have hjd : js.getD k 0 = js[k] := by simp [hlt]
   have hp1 : jdr PP l js (k + 1) = jdr PP l js k + PP (yi l js[k]) := by rw [← hjd]; rfl
   have hm1 : jag NN l js (k + 1) = jas (jag NN l js k) (NN (yi l js[k])) (NN (yi l js[k])).length := by rw [← hjd]; rfl
   rw [zi l _ hj] at hp1 hm1
   have hpb := HPB.out k (by omega)
   have hmb := HMB.out k (by omega)
   obtain ⟨gx, rfl, _, _⟩ := HXA.out (by omega)
   obtain ⟨q0, q1, q2, q3, q4, q5, q6, q7⟩ := (HX.out.grown hg).at_ js[k] hj
   have hmem := List.getElem_mem hj
   have hnl := HNL.out _ hmem
   have HA := Lib.hid (HADD.out _ hmem gQ bm n (k : Int) _ _ wr hg hQ0 hM0 hS ⟨by omega, by omega⟩ ⟨hpb.1, by omega⟩ (by omega) (fun z hz => by have := hmb z hz; omega))
   have HP1 := Lib.hid hp1
   have HM1 := Lib.hid hm1
   have hj' : (js[k] : Int) < (l.length : Int) := by omega
   clear hS hp1 hm1 hmem hpb hmb hnk2 hjd
   generalize js[k] = j at *
   generalize l[j].tm = Tm at *
   generalize l[j].mode = Mo at *
   generalize l[j].band = BD at *
   generalize l[j].call = CL at *
   generalize l[j].sent = SE at *
   generalize l[j].heard = HE at *
   generalize l[j].gave = GA at *
   generalize l[j].got = GO at *
   go_wp2_with fail
   refine HA.out.mono ?_
   rintro _ w5 ⟨rfl, hS5, hg5⟩
   rw [← HP1.out, ← HM1.out] at hS5
   go_wp2_with fail
   go_roundw
   case rel => exact ⟨k + 1, _, by omega, by go_num, hS5, by omega, hg5⟩
   case measure => simp [intOf]; omega
  have hki : ¬ (k : Int) < (js.length : Int) := by omega
  obtain rfl : k = js.length := by omega
  go_wp2_with fail
  go_ret
  exact ⟨gQ, bm, n, rfl, hS, hg⟩
theorem jjh (bm : Bool) (l : List Con) (js : List Nat) : ∀ k, k ≤ js.length → ∀ j ∈ (jgp bm l js k).1, j ∈ js
 | 0, _, j, h => by cases h
 | k + 1, hk, j, h => by
   have hlt : k < js.length := by omega
   have e : js.getD k 0 = js[k] := by simp [hlt]
   unfold jgp at h
   split at h
   ·exact jjh bm l js k (by omega) j h
   rcases List.mem_append.1 h with h | h
   ·exact jjh bm l js k (by omega) j h
   rw [List.mem_singleton.1 h, e]; exact List.getElem_mem hlt
theorem jve (L : List (List UInt8 × Int)) (q : List UInt8) (d : Int) : (je0 L q d).length ≤ L.length + 1 := by
 have hk := congrArg List.length (jfk L q d)
 rw [List.length_map] at hk
 split at hk
 ·rw [hk, List.length_map]; omega
 rw [hk, List.length_append, List.length_map]; simp
theorem jk9 (L : List (List UInt8 × Int)) (ns : List Nm) : ∀ k, (jas L ns k).length ≤ L.length + k
 | 0 => Nat.le_refl _
 | k + 1 => by
   have h1 := jk9 L ns k
   have h2 := jve (jas L ns k) (nmB (ns.getD k (0, ⟨#[]⟩))) 1
   unfold jas
   omega
theorem jjz (N : Con → List Nm) (l : List Con) (js : List Nat) (hj : ∀ j ∈ js, j < l.length) (hN : ∀ y ∈ l, (N y).length ≤ 10) : ∀ k : Nat, k ≤ js.length → (jag N l js k).length ≤ 10 * k
 | 0, _ => Nat.le_refl _
 | k + 1, h => by
   have ih := jjz N l js hj hN k (by omega)
   have hlt : k < js.length := by omega
   have e : js.getD k 0 = js[k] := by simp [hlt]
   have hl := hj js[k] (List.getElem_mem hlt)
   have hp := hN l[js[k]] (List.getElem_mem hl)
   have h2 := jk9 (jag N l js k) (N l[js[k]]) (N l[js[k]]).length
   unfold jag
   rw [e, zi l _ hl]
   omega
def jah (c : Cst) (l : List Con) : List Nat := (jgp c.byMode l (jgn c.beg c.fin l) (jgn c.beg c.fin l).length).1
def joi (F : ByteArray → Int → Option Fnd) (c : Cst) (l : List Con) : Value :=
 .agg #[.int .i64 ((jah c l).length : Int), .int .i64 (jdr (xu F c.own c.ruls) l (jah c l) (jah c l).length), .int .i64 ((jag (fun y => j8 F c.muls y c.muls.length) l (jah c l) (jah c l).length).length : Int), .int .i64 (jq8 c.muls (jdr (xu F c.own c.ruls) l (jah c l) (jah c l).length) ((jag (fun y => j8 F c.muls y c.muls.length) l (jah c l) (jah c l).length).length : Int))]
theorem ju1 (c : Cst) (l : List Con) : (jah c l).length ≤ l.length := by
 have h1 := ji9 c.byMode l (jgn c.beg c.fin l) (jgn c.beg c.fin l).length
 have h2 := job c.beg c.fin l
 unfold jah
 omega
theorem jh8 (c : Cst) (l : List Con) : ∀ j ∈ jah c l, j < l.length := fun j hj => jsf _ _ _ j (jjh _ _ _ _ (Nat.le_refl _) j hj)
set_option maxRecDepth 100000 in
set_option maxHeartbeats 16000000 in
theorem jnr (base base2 gS gT bB bW pb : Nat) (u v rv mv : Value) (c : Cst) (xv : Value) (l : List Con) (w : World) (h : ScAt base base2 gS gT bB bW u v rv mv c w) (hx : ConsFrom base w xv l) (ht : ∀ y ∈ l, 0 ≤ y.tm ∧ y.tm ≤ 345686399999) (h20 : l.length < 20) (hk : ∀ y ∈ l, ScOk c y) (hpp : P10 pb w) (hn : ∀ y ∈ l, NamOk c y) (hP : ∀ y ∈ l, 0 ≤ xu (qd c.ents c.pfxs) c.own c.ruls y ∧ xu (qd c.ents c.pfxs) c.own c.ruls y ≤ 1000) (hns : ∀ y ∈ l, ∀ q ∈ j8 (qd c.ents c.pfxs) c.muls y c.muls.length, jpg q) :
 Calls Tryz.prog 50 #[.pointer (some ⟨gS, 0, none⟩), xv] w fun e w' => e = .returned (joi (qd c.ents c.pfxs) c l) ∧ w.grownBy w' none := by
 have HSP : Hid (∀ W, w.grownBy W none → Calls Tryz.prog 46 #[.pointer (some ⟨gS, 0, none⟩), xv] W fun e w' => ∃ a b, e = .returned (.tuple #[a, b]) ∧ IntsFrom W.heap.size w' a (j2 (jah c l)) ∧ W.grownBy w' none) := fun W hW => (jf9 base base2 gS gT bB bW u v rv mv c xv l W (h.grown hW) (hx.grown hW) ht h20 hk (fun y hy => ⟨(hn y hy).m0, (hn y hy).m1⟩)).mono fun e w' ⟨a, b, h1, h2, _, h4⟩ => ⟨a, b, h1, h2, h4⟩
 have hcl := ju1 c l
 have hml := jjz (fun y => j8 (qd c.ents c.pfxs) c.muls y c.muls.length) l (jah c l) (jh8 c l) (fun y hy => Nat.le_trans (zo _ _ _ _) (hn y hy).l) _ (Nat.le_refl _)
 have hpb := jjd (xu (qd c.ents c.pfxs) c.own c.ruls) l (jah c l) (jh8 c l) hP _ (Nat.le_refl _)
 have HSU : Hid (∀ jb jv W, w.grownBy W none → IntsFrom jb W jv (j2 (jah c l)) → Calls Tryz.prog 67 #[.pointer (some ⟨gS, 0, none⟩), xv, jv] W (jng gS (jah c l) (jdr (xu (qd c.ents c.pfxs) c.own c.ruls) l (jah c l) (jah c l).length) (jag (fun y => j8 (qd c.ents c.pfxs) c.muls y c.muls.length) l (jah c l) (jah c l).length) W)) := fun jb jv W hW hj => jrr base base2 gS gT bB bW jb pb u v rv mv c xv jv l (jah c l) W (h.grown hW) (hx.grown hW) hj (jh8 c l) (by omega) hk (hpp.grown hW) hn hP hns
 have HSC : Hid (∀ gQ bm n W, w.grownBy W none → SumAt gS gQ bm n ((jah c l).length : Int) (jdr (xu (qd c.ents c.pfxs) c.own c.ruls) l (jah c l) (jah c l).length) (jag (fun y => j8 (qd c.ents c.pfxs) c.muls y c.muls.length) l (jah c l) (jah c l).length) W → Calls Tryz.prog 62 #[.pointer (some ⟨gQ, 0, none⟩)] W fun e w' => e = .returned (joi (qd c.ents c.pfxs) c l) ∧ W.grownBy w' none) := fun gQ bm n W hW hs => jrc base base2 gS gT bB bW u v rv mv c gQ bm n _ _ _ W (h.grown hW) hs ⟨by omega, by omega⟩ ⟨hpb.1, by omega⟩ (by omega)
 unfold jng at HSU
 unfold joi at HSC ⊢
 generalize jdr (xu (qd c.ents c.pfxs) c.own c.ruls) l (jah c l) (jah c l).length = PT at *
 generalize jag (fun y => j8 (qd c.ents c.pfxs) c.muls y c.muls.length) l (jah c l) (jah c l).length = MP at *
 generalize jq8 c.muls PT (MP.length : Int) = TT at *
 generalize jah c l = CL at *
 generalize (MP.length : Int) = ML at *
 obtain ⟨XA, xc, rfl, _, _⟩ := hx.shape
 have hR := Blk.new w 45 #[.int .i64 0, .int .i64 0, .int .i64 0, .int .i64 0]
 have hgR := World.grownBy_alloc w (.cells #[.int .i64 0, .int .i64 0, .int .i64 0, .int .i64 0] 45) none
 clear h hx ht hk hpp hn hP hns hcl hml hpb
 go_enter Tryz.func50, Tryz.ntmps50
 go_upto_region 1 with fail
 generalize w.alloc (.cells #[.int .i64 0, .int .i64 0, .int .i64 0, .int .i64 0] 45) = w0 at *
 obtain ⟨gR, hgR0⟩ : ∃ g, w.heap.size = g := ⟨_, rfl⟩
 rw [hgR0] at hR
 (try rw [hgR0])
 have hRw : w.heap.size ≤ gR := by omega
 clear hgR0
 go_wp2_with fail
 refine (HSP.out _ hgR).mono ?_
 rintro _ w1 ⟨a, b, rfl, ha, hg1⟩
 have hG1 := ja hgR hg1
 go_wp2_with fail
 refine (HSU.out _ _ _ hG1 ha).mono ?_
 rintro _ w2 ⟨gQ, bm, n, rfl, hS, hg2⟩
 have hG2 := ja hG1 hg2
 have HS := Lib.hid (HSC.out gQ bm n _ hG2 hS)
 clear hS
 go_wp2_with fail
 refine HS.out.mono ?_
 rintro _ w3 ⟨rfl, hg3⟩
 have hG3 := ja hG2 hg3
 have hR3 := ((hR.grown hg1 (by simp)).grown hg2 (by simp)).grown hg3 (by simp)
 obtain ⟨r0, r1, r2, r3⟩ := qe hR3
 have z0 := hR3.free 0
 have z1 := hR3.free 1
 have z2 := hR3.free 2
 have z3 := hR3.free 3
 have HP : Hid (Blk ((((w3.setCell ⟨gR, 0, none⟩ (.int .i64 (CL.length : Int))).setCell ⟨gR, 1, none⟩ (.int .i64 PT)).setCell ⟨gR, 2, none⟩ (.int .i64 ML)).setCell ⟨gR, 3, none⟩ (.int .i64 TT)) gR 45 #[.int .i64 (CL.length : Int), .int .i64 PT, .int .i64 ML, .int .i64 TT]) := (((hR3.put 0 _).put 1 _).put 2 _).put 3 _
 have hPG : w.grownBy ((((w3.setCell ⟨gR, 0, none⟩ (.int .i64 (CL.length : Int))).setCell ⟨gR, 1, none⟩ (.int .i64 PT)).setCell ⟨gR, 2, none⟩ (.int .i64 ML)).setCell ⟨gR, 3, none⟩ (.int .i64 TT)) none := jg (p := ⟨gR, 3, none⟩) (jg (p := ⟨gR, 2, none⟩) (jg (p := ⟨gR, 1, none⟩) (jg (p := ⟨gR, 0, none⟩) hG3 (.inr hRw) _) (.inr hRw) _) (.inr hRw) _) (.inr hRw) _
 clear HSP HSU HSC HS ha hR hR3
 go_wp2_with fail
 obtain ⟨e0, e1, e2, e3⟩ := qe HP.out
 refine bodyPost_ret (v := .agg #[.int .i64 (CL.length : Int), .int .i64 PT, .int .i64 ML, .int .i64 TT]) (by simp [results, Tryz.results50, go_sem, e0, e1, e2, e3]) rfl ?_
 exact ⟨rfl, hPG⟩
set_option maxRecDepth 100000 in
set_option maxHeartbeats 16000000 in
theorem jgh (base : Nat) (u v rv mv : Value) (c : Cst) (xv : Value) (l : List Con) (w : World) (h : CstFrom base w u v rv mv c) (hs : CstSm c) (hx : ConsFrom base w xv l) (hxs : ∀ y ∈ l, jbk y) (hE : zu c l = 0) (hlen : c.pfxs.length ≤ 2000) (hbs : ∀ x ∈ c.pfxs, x.beg.size ≤ 14) :
 Calls Tryz.prog 45 #[.agg #[u, v, .string c.own, .int .i64 c.beg, .int .i64 c.fin, rv, mv, .bool c.byMode], xv] w fun e w' => ∃ base2 gS gT bB bW, e = .returned (.tuple #[.pointer (some ⟨gS, 0, none⟩), .int .i64 0]) ∧ ScAt base base2 gS gT bB bW u v rv mv c w' ∧ w.grownBy w' none := by
 have HB : Hid (∀ W, w.grownBy W none → Calls Tryz.prog 48 #[.agg #[u, v, .string c.own, .int .i64 c.beg, .int .i64 c.fin, rv, mv, .bool c.byMode], xv] W fun r w' => r = .returned (.int .i64 0) ∧ W.grownBy w' none) := fun W hW => by
  have h1 := jdg base u v rv mv c xv l W (h.grown hW) hs (hx.grown hW) hxs
  rw [hE] at h1
  exact h1
 have HN : Hid (∀ W, w.grownBy W none → Calls Tryz.prog 92 #[.agg #[u, v, .string c.own, .int .i64 c.beg, .int .i64 c.fin, rv, mv, .bool c.byMode]] W (jf2 base u v rv mv c W)) := fun W hW => jlg base u v rv mv c W (h.grown hW) hlen hbs
 unfold jf2 at HN
 obtain ⟨P, hP⟩ : ∃ P : Ending → World → Prop, (fun e w' => ∃ base2 gS gT bB bW, e = .returned (.tuple #[.pointer (some ⟨gS, 0, none⟩), .int .i64 0]) ∧ ScAt base base2 gS gT bB bW u v rv mv c w' ∧ w.grownBy w' none) = P := ⟨_, rfl⟩
 have HP : Hid (∀ base2 gS gT bB bW w', ScAt base base2 gS gT bB bW u v rv mv c w' → w.grownBy w' none → P (.returned (.tuple #[.pointer (some ⟨gS, 0, none⟩), .int .i64 0])) w') := fun base2 gS gT bB bW w' h1 h2 => by rw [← hP]; exact ⟨base2, gS, gT, bB, bW, rfl, h1, h2⟩
 rw [hP]
 obtain ⟨UA, uc, rfl, _, _⟩ := h.ents.shape
 obtain ⟨VA, vc, rfl, _, _⟩ := h.pfxs.shape
 obtain ⟨RA, rc, rfl, _, _⟩ := h.ruls.shape
 obtain ⟨MA, mc, rfl, _, _⟩ := h.muls.shape
 obtain ⟨XA, xc, rfl, _, _⟩ := hx.shape
 have hB := Blk.new w 33 #[.slice UA c.ents.length uc, .slice VA c.pfxs.length vc, .string c.own, .int .i64 c.beg, .int .i64 c.fin, .slice RA c.ruls.length rc, .slice MA c.muls.length mc, .bool c.byMode]
 have hgB := World.grownBy_alloc w (.cells #[.slice UA c.ents.length uc, .slice VA c.pfxs.length vc, .string c.own, .int .i64 c.beg, .int .i64 c.fin, .slice RA c.ruls.length rc, .slice MA c.muls.length mc, .bool c.byMode] 33) none
 clear h hs hx hxs hE hlen hbs hP
 go_enter Tryz.func45, Tryz.ntmps45
 go_upto_region 1 with fail
 generalize w.alloc (.cells #[.slice UA c.ents.length uc, .slice VA c.pfxs.length vc, .string c.own, .int .i64 c.beg, .int .i64 c.fin, .slice RA c.ruls.length rc, .slice MA c.muls.length mc, .bool c.byMode] 33) = w0 at *
 generalize w.heap.size = gC at *
 obtain ⟨k0, k1, k2, k3, k4, k5, k6, k7⟩ := qz hB
 go_wp2_with fail
 refine (HB.out _ hgB).mono ?_
 rintro _ w1 ⟨rfl, hg1⟩
 have hB1 := hB.grown hg1 (by simp)
 have hG1 := ja hgB hg1
 clear k0 k1 k2 k3 k4 k5 k6 k7
 obtain ⟨k0, k1, k2, k3, k4, k5, k6, k7⟩ := qz hB1
 go_wp2_with fail
 refine (HN.out _ hG1).mono ?_
 rintro _ w2 ⟨base2, gS, gT, bB, bW, rfl, hS, _, hg2⟩
 have HR := Lib.hid (HP.out base2 gS gT bB bW w2 hS (ja hG1 hg2))
 go_wp2_with fail
 exact HR.out
set_option maxRecDepth 100000 in
set_option maxHeartbeats 16000000 in
theorem jiy (base pb : Nat) (u v rv mv : Value) (c : Cst) (xv : Value) (l : List Con) (w : World) (h : CstFrom base w u v rv mv c) (hs : CstSm c) (hx : ConsFrom base w xv l) (hxs : ∀ y ∈ l, jbk y) (hE : zu c l = 0) (hlen : c.pfxs.length ≤ 2000) (hbs : ∀ x ∈ c.pfxs, x.beg.size ≤ 14) (ht : ∀ y ∈ l, 0 ≤ y.tm ∧ y.tm ≤ 345686399999) (h20 : l.length < 20) (hk : ∀ y ∈ l, ScOk c y) (hpp : P10 pb w) (hn : ∀ y ∈ l, NamOk c y) (hP : ∀ y ∈ l, 0 ≤ xu (qd c.ents c.pfxs) c.own c.ruls y ∧ xu (qd c.ents c.pfxs) c.own c.ruls y ≤ 1000) (hns : ∀ y ∈ l, ∀ q ∈ j8 (qd c.ents c.pfxs) c.muls y c.muls.length, jpg q) :
 Calls Tryz.prog 13 #[.agg #[u, v, .string c.own, .int .i64 c.beg, .int .i64 c.fin, rv, mv, .bool c.byMode], xv] w fun e w' => e = .returned (.tuple #[joi (qd c.ents c.pfxs) c l, .int .i64 0]) ∧ w.grownBy w' none := by
 have HO : Hid (∀ W, w.grownBy W none → Calls Tryz.prog 45 #[.agg #[u, v, .string c.own, .int .i64 c.beg, .int .i64 c.fin, rv, mv, .bool c.byMode], xv] W fun e w' => ∃ base2 gS gT bB bW, e = .returned (.tuple #[.pointer (some ⟨gS, 0, none⟩), .int .i64 0]) ∧ ScAt base base2 gS gT bB bW u v rv mv c w' ∧ W.grownBy w' none) := fun W hW => jgh base u v rv mv c xv l W (h.grown hW) hs (hx.grown hW) hxs hE hlen hbs
 have HS : Hid (∀ base2 gS gT bB bW W, w.grownBy W none → ScAt base base2 gS gT bB bW u v rv mv c W → Calls Tryz.prog 50 #[.pointer (some ⟨gS, 0, none⟩), xv] W fun e w' => e = .returned (joi (qd c.ents c.pfxs) c l) ∧ W.grownBy w' none) := fun base2 gS gT bB bW W hW hsc => jnr base base2 gS gT bB bW pb u v rv mv c xv l W hsc (hx.grown hW) ht h20 hk (hpp.grown hW) hn hP hns
 obtain ⟨a0, a1, a2, a3, hsv⟩ : ∃ a0 a1 a2 a3 : Int, joi (qd c.ents c.pfxs) c l = .agg #[.int .i64 a0, .int .i64 a1, .int .i64 a2, .int .i64 a3] := ⟨_, _, _, _, rfl⟩
 rw [hsv] at HS ⊢
 obtain ⟨UA, uc, rfl, _, _⟩ := h.ents.shape
 obtain ⟨VA, vc, rfl, _, _⟩ := h.pfxs.shape
 obtain ⟨RA, rc, rfl, _, _⟩ := h.ruls.shape
 obtain ⟨MA, mc, rfl, _, _⟩ := h.muls.shape
 obtain ⟨XA, xc, rfl, _, _⟩ := hx.shape
 have hB := Blk.new w 33 #[.slice UA c.ents.length uc, .slice VA c.pfxs.length vc, .string c.own, .int .i64 c.beg, .int .i64 c.fin, .slice RA c.ruls.length rc, .slice MA c.muls.length mc, .bool c.byMode]
 have hgB := World.grownBy_alloc w (.cells #[.slice UA c.ents.length uc, .slice VA c.pfxs.length vc, .string c.own, .int .i64 c.beg, .int .i64 c.fin, .slice RA c.ruls.length rc, .slice MA c.muls.length mc, .bool c.byMode] 33) none
 have hR := Blk.new (w.alloc (.cells #[.slice UA c.ents.length uc, .slice VA c.pfxs.length vc, .string c.own, .int .i64 c.beg, .int .i64 c.fin, .slice RA c.ruls.length rc, .slice MA c.muls.length mc, .bool c.byMode] 33)) 45 #[.int .i64 0, .int .i64 0, .int .i64 0, .int .i64 0]
 have hgR := World.grownBy_alloc (w.alloc (.cells #[.slice UA c.ents.length uc, .slice VA c.pfxs.length vc, .string c.own, .int .i64 c.beg, .int .i64 c.fin, .slice RA c.ruls.length rc, .slice MA c.muls.length mc, .bool c.byMode] 33)) (.cells #[.int .i64 0, .int .i64 0, .int .i64 0, .int .i64 0] 45) none
 have hB2 := hB.grown hgR (by simp)
 have hgA := ja hgB hgR
 have e1 : (w.alloc (.cells #[.slice UA c.ents.length uc, .slice VA c.pfxs.length vc, .string c.own, .int .i64 c.beg, .int .i64 c.fin, .slice RA c.ruls.length rc, .slice MA c.muls.length mc, .bool c.byMode] 33)).heap.size = w.heap.size + 1 := by simp
 rw [e1] at hR
 clear h hs hx hxs hE hlen hbs ht hk hpp hn hP hns hsv hB hgB hgR
 go_enter Tryz.func13, Tryz.ntmps13
 go_upto_region 1 with fail
 (try rw [e1])
 clear e1
 generalize (w.alloc (.cells #[.slice UA c.ents.length uc, .slice VA c.pfxs.length vc, .string c.own, .int .i64 c.beg, .int .i64 c.fin, .slice RA c.ruls.length rc, .slice MA c.muls.length mc, .bool c.byMode] 33)).alloc (.cells #[.int .i64 0, .int .i64 0, .int .i64 0, .int .i64 0] 45) = w0 at *
 obtain ⟨gC, hgC⟩ : ∃ g, w.heap.size = g := ⟨_, rfl⟩
 rw [hgC] at hB2 hR
 (try rw [hgC])
 obtain ⟨k0, k1, k2, k3, k4, k5, k6, k7⟩ := qz hB2
 go_wp2_with fail
 refine (HO.out _ hgA).mono ?_
 rintro _ w1 ⟨base2, gS, gT, bB, bW, rfl, hS1, hg1⟩
 have hG1 := ja hgA hg1
 have HS1 := Lib.hid (HS.out _ _ _ _ _ _ hG1 hS1)
 clear k0 k1 k2 k3 k4 k5 k6 k7 hS1
 go_wp2_with fail
 refine HS1.out.mono ?_
 rintro _ w3 ⟨rfl, hg3⟩
 have hG3 := ja hG1 hg3
 have hR3 := (hR.grown hg1 (by simp)).grown hg3 (by simp)
 obtain ⟨r0, r1, r2, r3⟩ := qe hR3
 have z0 := hR3.free 0
 have z1 := hR3.free 1
 have z2 := hR3.free 2
 have z3 := hR3.free 3
 have HP : Hid (Blk ((((w3.setCell ⟨gC + 1, 0, none⟩ (.int .i64 a0)).setCell ⟨gC + 1, 1, none⟩ (.int .i64 a1)).setCell ⟨gC + 1, 2, none⟩ (.int .i64 a2)).setCell ⟨gC + 1, 3, none⟩ (.int .i64 a3)) (gC + 1) 45 #[.int .i64 a0, .int .i64 a1, .int .i64 a2, .int .i64 a3]) := (((hR3.put 0 _).put 1 _).put 2 _).put 3 _
 have hRw2 : w.heap.size ≤ gC + 1 := by omega
 have hPG : w.grownBy ((((w3.setCell ⟨gC + 1, 0, none⟩ (.int .i64 a0)).setCell ⟨gC + 1, 1, none⟩ (.int .i64 a1)).setCell ⟨gC + 1, 2, none⟩ (.int .i64 a2)).setCell ⟨gC + 1, 3, none⟩ (.int .i64 a3)) none := jg (p := ⟨gC + 1, 3, none⟩) (jg (p := ⟨gC + 1, 2, none⟩) (jg (p := ⟨gC + 1, 1, none⟩) (jg (p := ⟨gC + 1, 0, none⟩) hG3 (.inr hRw2) _) (.inr hRw2) _) (.inr hRw2) _) (.inr hRw2) _
 clear HO HS HS1 hR hR3 hB2
 go_wp2_with fail
 obtain ⟨e0, e1, e2, e3⟩ := qe HP.out
 refine bodyPost_ret (v := .tuple #[.agg #[.int .i64 a0, .int .i64 a1, .int .i64 a2, .int .i64 a3], .int .i64 0]) (by simp [results, Tryz.results13, go_sem, e0, e1, e2, e3]) rfl ?_
 exact ⟨rfl, hPG⟩
end Go.Proofs.YtbamhgaghngjiaaGreatDoor
namespace Go.Proofs.YtbamhgaghngjiaaGreatDoor
set_option linter.unusedVariables false

theorem jpi {r : Rul} (h : jch r = 0) : 0 ≤ r.points ∧ r.points ≤ 1000 := by
 unfold jch at h
 split at h
 ·omega
 split at h
 ·omega
 split at h
 ·omega
 split at h
 ·omega
 rename_i h4
 unfold qy at h4
 simp at h4
 omega
theorem jyk (F : ByteArray → Int → Option Fnd) (own : ByteArray) {rs : List Rul} (h : yq rs = 0) (x : Con) : 0 ≤ xu F own rs x ∧ xu F own rs x ≤ 1000 := by
 have hs : ∀ r ∈ rs, jch r = 0 := by
  unfold yq at h
  split at h
  ·omega
  exact jm2 jch h
 unfold xu
 split
 ·rename_i h0
  rcases joj F own x rs with hn | ⟨_, h1⟩
  ·omega
  have hl : (jbj F own rs x).toNat < rs.length := by omega
  have e : rs.getD (jbj F own rs x).toNat ⟨0, 0, ⟨#[]⟩, 0⟩ = rs[(jbj F own rs x).toNat] := by simp [hl]
  rw [e]
  exact jpi (hs _ (List.getElem_mem hl))
 omega
theorem jxp {l : List Ent} {p : List Pfx} (h : yh l p = 0) {x : Pfx} (hx : x ∈ p) : 0 ≤ (jcd l x).2.1 ∧ (jcd l x).2.1 ≤ 1000000 ∧ 0 ≤ (jcd l x).2.2 ∧ (jcd l x).2.2 ≤ 1000000 ∧ (jcd l x).1 ∈ l.map (·.key) := by
 have hR := ja7 h
 have hE : xk l = 0 := by
  unfold yh at h
  by_cases he : xk l = 0
  ·exact he
  rw [if_pos he] at h; exact absurd h he
 have hT := (je4 hE).times
 have hP := hR.pfx x hx
 obtain ⟨e, he⟩ := Option.isSome_iff_exists.1 hP.has
 have hm := (jf5 he).1
 have hd : jjs l x.ent = e := by unfold jjs; rw [he]; rfl
 obtain ⟨_, _, c0, c1, z0, z1⟩ := hT e hm
 have hz0 := hP.z0
 have hz1 := hP.z1
 unfold jcd jwo
 rw [hd]
 refine ⟨by show 0 ≤ e.cont; omega, by show e.cont ≤ _; omega, ?_, ?_, List.mem_map.2 ⟨e, hm, rfl⟩⟩
 ·show 0 ≤ (if x.zone ≠ 0 then x.zone else e.zone)
  split <;> omega
 show (if x.zone ≠ 0 then x.zone else e.zone) ≤ _
 split <;> omega
theorem jsc {l : List Ent} {p : List Pfx} {s : ByteArray} {t : Int} {q : ByteArray × Nat × Int × ByteArray} {f : Fnd} (h : jdl l p s t q = some f) : ∃ x ∈ p, f = jcd l x := by
 unfold jdl at h
 split at h
 ·rename_i x hx
  injection h with h
  exact ⟨x, List.mem_of_find?_eq_some hx, h.symm⟩
 unfold jd2 at h
 split at h
 ·cases h
 split at h
 ·cases h
 obtain ⟨x, hx, rfl⟩ := Option.map_eq_some_iff.1 h
 exact ⟨x, List.mem_of_getElem? hx, rfl⟩
theorem jnc {l : List Ent} {p : List Pfx} (h : yh l p = 0) {s : ByteArray} {t : Int} {f : Fnd} (hf : qd l p s t = some f) : 0 ≤ f.2.1 ∧ f.2.1 ≤ 1000000 ∧ 0 ≤ f.2.2 ∧ f.2.2 ≤ 1000000 ∧ f.1 ∈ l.map (·.key) := by
 unfold qd at hf
 cases hq : jo s with
 | none => rw [hq] at hf; cases hf
 | some q =>
   rw [hq] at hf
   obtain ⟨x, hx, rfl⟩ := jsc (show jdl l p s t q = some f from hf)
   exact jxp h hx
theorem jvi {c : Cst} {x : Con} (h : yh c.ents c.pfxs = 0) (hm : 1 ≤ x.mode ∧ x.mode ≤ 3) (hs : ∀ e ∈ c.ents, e.key.size ≤ 1000) (hl : c.muls.length ≤ 10) : NamOk c x := by
 refine ⟨by omega, by omega, fun f hf => ?_, fun f hf => ?_, hl⟩
 ·have := jnc h hf
  exact ⟨this.1, this.2.1, this.2.2.1, this.2.2.2.1⟩
 obtain ⟨e, he, hk⟩ := List.mem_map.1 (jnc h hf).2.2.2.2
 rw [← hk]
 exact hs e he
end Go.Proofs.YtbamhgaghngjiaaGreatDoor
namespace Go.Proofs.YtbamhgaghngjiaaGreatDoor
open Go.RowKit
set_option linter.unusedVariables false
set_option linter.unusedSimpArgs false

theorem TabRight.beg {l : List Ent} {p : List Pfx} (h : TabRight l p) : ∀ x ∈ p, x.beg.size ≤ 14 := fun x hx => by
 cases hw : x.whole with
 | false => have := h.size x hx hw; omega
 | true =>
   have hf := (h.pfx x hx).form
   unfold jma at hf
   rw [hw] at hf
   simp only [if_true, Bool.not_eq_false'] at hf
   by_cases h1 : 14 < x.beg.size
   ·unfold jo at hf
    rw [if_pos h1] at hf
    simp at hf
   omega
def ofE (l : List Ent) (p : List Pfx) (s : ByteArray) (t : Int) : Int := if yh l p ≠ 0 then yh l p else if xi s = false then 3 else jyc t
def jwc (l : List Ent) (p : List Pfx) (s : ByteArray) (t : Int) (w : World) (r : Ending) (w' : World) : Prop :=
 ∃ O : Option Fnd, r = .returned (.tuple #[.agg #[.string (O.getD qm).1, .int .i64 (O.getD qm).2.1, .int .i64 (O.getD qm).2.2], .bool O.isSome, .int .i64 (ofE l p s t)]) ∧ (ofE l p s t ≠ 0 → O = none) ∧ (ofE l p s t = 0 → yh l p = 0 ∧ ∀ q, jo s = some q → O = jdl l p s t q) ∧ w.grownBy w' none
theorem jdz (base : Nat) (u v : Value) (l : List Ent) (p : List Pfx) (w : World) (hu : EntsFrom base w u l) (hv : PfxsFrom base w v p) (hR : TabRight l p) :
 Calls Tryz.prog 55 #[u, v] w (jf4 base u v l p w) := jg2 base u v l p w hu hv hR.ok.len hR.beg
set_option maxRecDepth 100000 in
set_option maxHeartbeats 4000000 in
theorem jyu (base : Nat) (u v : Value) (l : List Ent) (p : List Pfx) (s : ByteArray) (t : Int) (w : World) (hu : EntsFrom base w u l) (hsl : ∀ e ∈ l, jhz e) (hv : PfxsFrom base w v p) (hsm : ∀ x ∈ p, jls x) (hs : s.size ≤ 1000) (ha : Ascii s) :
 Calls Tryz.prog 15 #[u, v, .string s, .int .i64 t] w (jwc l p s t w) := by
 have hR := Blk.new w 53 #[.string ⟨#[]⟩, .int .i64 0, .int .i64 0]
 have hg0 := World.grownBy_alloc w (.cells #[.string ⟨#[]⟩, .int .i64 0, .int .i64 0] 53) none
 have HU := Lib.hid hu
 have HV := Lib.hid hv
 have HCT : Hid (∀ W, w.grownBy W none → Calls Tryz.prog 52 #[u, v] W fun r w' => r = .returned (.int .i64 (yh l p)) ∧ W.grownBy w' none) := fun W hW => jam base u v l p W (hu.grown hW) hsl (hv.grown hW) hsm
 have HIC : Hid (∀ W, Calls Tryz.prog 53 #[.string s] W fun e w' => e = .returned (.bool (xi s)) ∧ W.grownBy w' none) := fun W => jd7 s W (by omega) ha
 obtain ⟨gR, hgR⟩ : ∃ x, w.heap.size = x := ⟨_, rfl⟩
 have HgR := Lib.hid hgR
 rw [hgR] at hR
 have HFIN : Hid (∀ (W : World) (K : ByteArray) (C Z : Int) (F : Bool), Blk W gR 53 #[.string ⟨#[]⟩, .int .i64 0, .int .i64 0] → w.grownBy W none →
  (((W.setCell ⟨gR, 0, none⟩ (.string K)).setCell ⟨gR, 1, none⟩ (.int .i64 C)).setCell ⟨gR, 2, none⟩ (.int .i64 Z)).cell? ⟨gR, 0, none⟩ = some (.string K) ∧ (((W.setCell ⟨gR, 0, none⟩ (.string K)).setCell ⟨gR, 1, none⟩ (.int .i64 C)).setCell ⟨gR, 2, none⟩ (.int .i64 Z)).cell? ⟨gR, 1, none⟩ = some (.int .i64 C) ∧ (((W.setCell ⟨gR, 0, none⟩ (.string K)).setCell ⟨gR, 1, none⟩ (.int .i64 C)).setCell ⟨gR, 2, none⟩ (.int .i64 Z)).cell? ⟨gR, 2, none⟩ = some (.int .i64 Z) ∧ w.grownBy (((W.setCell ⟨gR, 0, none⟩ (.string K)).setCell ⟨gR, 1, none⟩ (.int .i64 C)).setCell ⟨gR, 2, none⟩ (.int .i64 Z)) none) := fun W K C Z F hW hgW => by
  have hf := ((Blk.put hW 0 (.string K)).put 1 (.int .i64 C)).put 2 (.int .i64 Z)
  simp only [List.setIfInBounds_toArray, List.set_cons_zero, List.set_cons_succ] at hf
  have hle : w.heap.size ≤ gR := by omega
  exact ⟨hf.cell 0, hf.cell 1, hf.cell 2, jg (p := ⟨gR, 2, none⟩) (jg (p := ⟨gR, 1, none⟩) (jg (p := ⟨gR, 0, none⟩) hgW (.inr hle) (.string K)) (.inr hle) (.int .i64 C)) (.inr hle) (.int .i64 Z)⟩
 obtain ⟨E, hE⟩ : ∃ E, yh l p = E := ⟨_, rfl⟩
 have HE := Lib.hid hE
 rw [hE] at HCT
 have HAS := Lib.hid ha
 clear hu hv hgR hE ha
 go_enter Tryz.func15, Tryz.ntmps15
 go_upto_region 1 with fail
 generalize w.alloc (.cells #[.string ⟨#[]⟩, .int .i64 0, .int .i64 0] 53) = w1 at *
 rw [HgR.out]
 go_wp2_with fail
 refine (HCT.out _ hg0).mono ?_
 rintro _ w2 ⟨rfl, hg2⟩
 have hgw := ja hg0 hg2
 have hR2 := hR.grown hg2 (by simp)
 clear hR hg0 hg2
 have r0 := Blk.cell (g := gR) hR2 0
 have r1 := Blk.cell (g := gR) hR2 1
 have r2 := Blk.cell (g := gR) hR2 2
 have rf := Blk.free (g := gR) hR2
 simp only [geA, geZ, geS] at r0 r1 r2
 by_cases hE0 : E = 0
 ·subst hE0
  clear r0 r1 r2 rf
  go_wp2_with fail
  refine (HIC.out _).mono ?_
  rintro _ w3 ⟨rfl, hg3⟩
  have hR3 := Blk.grown (g := gR) hR2 hg3 (by simp)
  have hgw3 := ja hgw hg3
  have r0 := Blk.cell (g := gR) hR3 0
  have r1 := Blk.cell (g := gR) hR3 1
  have r2 := Blk.cell (g := gR) hR3 2
  have rf := Blk.free (g := gR) hR3
  simp only [geA, geZ, geS] at r0 r1 r2
  cases hic : xi s
  ·have HOE : Hid (ofE l p s t = 3) := by show _ = _; unfold ofE; rw [HE.out, hic]; simp
   obtain ⟨e0, e1, e2, e3⟩ := HFIN.out w3 ⟨#[]⟩ 0 0 false hR3 hgw3
   clear hic
   go_wp2_with fail
   refine bodyPost_ret (v := .tuple #[.agg #[.string ⟨#[]⟩, .int .i64 0, .int .i64 0], .bool false, .int .i64 3]) (by simp [results, Tryz.results15, go_sem, e0, e1, e2]) rfl ?_
   exact ⟨none, by rw [HOE.out]; rfl, fun _ => rfl, fun h => by rw [HOE.out] at h; simp at h, e3⟩
  have HIS := Lib.hid hic
  clear hic
  go_wp2_with fail
  refine (jeu t _).mono ?_
  rintro _ _ ⟨rfl, rfl⟩
  rcases jc7 t 0 345686399999 with ⟨hm, m0, m1⟩ | ⟨hm, m0⟩
  ·rw [jae m0 m1]
   have HOE : Hid (ofE l p s t = 0) := by show _ = _; unfold ofE; rw [HE.out, HIS.out]; simp [jyc, hm]
   have hRT := ja7 HE.out
   obtain ⟨q, hq⟩ := Option.isSome_iff_exists.1 (show (jo s).isSome = true from HIS.out)
   obtain ⟨O, hO⟩ : ∃ O, jdl l p s t q = O := ⟨_, rfl⟩
   have HFD : Hid (∀ base2 gT bB bW W, TabFull base base2 gT bB bW u v l p W → Calls Tryz.prog 56 #[.pointer (some ⟨gT, 0, none⟩), .string s, .int .i64 t] W fun r w' => r = .returned (.tuple #[.agg #[.string (O.getD qm).1, .int .i64 (O.getD qm).2.1, .int .i64 (O.getD qm).2.2], .bool O.isSome]) ∧ W.grownBy w' none) := fun base2 gT bB bW W h => by
    have := jtj base base2 gT bB bW u v l p s t q W h hRT hs HAS.out hq
    rw [hO] at this
    exact this
   have HTO : Hid (Calls Tryz.prog 55 #[u, v] w3 (jf4 base u v l p w3)) := jdz base u v l p w3 (HU.out.grown hgw3) (HV.out.grown hgw3) hRT
   have HQ := Lib.hid hq
   have HO := Lib.hid hO
   clear hm m0 m1 hRT hq hO r0 r1 r2 rf
   go_wp2_with fail
   refine HTO.out.mono ?_
   rintro _ w4 ⟨base2, gT, bB, bW, rfl, hTF, _, hg4⟩
   have HTF := Lib.hid hTF
   clear hTF
   go_wp2_with fail
   refine (HFD.out _ _ _ _ _ HTF.out).mono ?_
   rintro _ w5 ⟨rfl, hg5⟩
   have hX := Blk.new w5 53 #[.string (O.getD qm).1, .int .i64 (O.getD qm).2.1, .int .i64 (O.getD qm).2.2]
   have hR5 := Blk.alloc (g := gR) (Blk.grown (g := gR) hR3 (ja hg4 hg5) (by simp)) (.cells #[.string (O.getD qm).1, .int .i64 (O.getD qm).2.1, .int .i64 (O.getD qm).2.2] 53)
   have hgF := jd (ja hgw3 (ja hg4 hg5)) (.cells #[.string (O.getD qm).1, .int .i64 (O.getD qm).2.1, .int .i64 (O.getD qm).2.2] 53)
   have HF0 : Hid (∀ K C Z, (O.getD qm) = (K, C, Z) → True) := fun _ _ _ _ => trivial
   have HPO : Hid (∀ w', w.grownBy w' none → jwc l p s t w (.returned (.tuple #[.agg #[.string (O.getD qm).1, .int .i64 (O.getD qm).2.1, .int .i64 (O.getD qm).2.2], .bool O.isSome, .int .i64 0])) w') := fun w' hg => ⟨O, by rw [HOE.out], fun h => absurd HOE.out h, fun _ => ⟨HE.out, fun q' hq' => by rw [HQ.out] at hq'; injection hq' with hq'; rw [← hq']; exact HO.out.symm⟩, hg⟩
   generalize (O.getD qm).1 = K at *
   generalize (O.getD qm).2.1 = C at *
   generalize (O.getD qm).2.2 = Z at *
   generalize O.isSome = FS at *
   go_upto_region 9 with fail
   generalize w5.alloc (.cells #[.string K, .int .i64 C, .int .i64 Z] 53) = w6 at *
   generalize w5.heap.size = gX at *
   have x0 := Blk.cell hX 0
   have x1 := Blk.cell hX 1
   have x2 := Blk.cell hX 2
   have r0 := Blk.cell (g := gR) hR5 0
   have r1 := Blk.cell (g := gR) hR5 1
   have r2 := Blk.cell (g := gR) hR5 2
   have rf := Blk.free (g := gR) hR5
   simp only [geA, geZ, geS] at x0 x1 x2 r0 r1 r2
   obtain ⟨e0, e1, e2, e3⟩ := HFIN.out w6 K C Z true hR5 hgF
   go_wp2_with fail
   refine bodyPost_ret (v := .tuple #[.agg #[.string K, .int .i64 C, .int .i64 Z], .bool FS, .int .i64 0]) (by simp [results, Tryz.results15, go_sem, e0, e1, e2]) rfl ?_
   exact HPO.out _ e3
  rw [xr m0]
  have HOE : Hid (ofE l p s t = 1) := by show _ = _; unfold ofE; rw [HE.out, HIS.out]; simp [jyc, hm]
  obtain ⟨e0, e1, e2, e3⟩ := HFIN.out w3 ⟨#[]⟩ 0 0 false hR3 hgw3
  clear hm m0
  go_wp2_with fail
  refine bodyPost_ret (v := .tuple #[.agg #[.string ⟨#[]⟩, .int .i64 0, .int .i64 0], .bool false, .int .i64 1]) (by simp [results, Tryz.results15, go_sem, e0, e1, e2]) rfl ?_
  exact ⟨none, by rw [HOE.out]; rfl, fun _ => rfl, fun h => by rw [HOE.out] at h; simp at h, e3⟩
 have hE1 : (E != 0) = true := by simpa using hE0
 have HOE : Hid (ofE l p s t = E) := by show _ = _; unfold ofE; rw [HE.out, if_pos hE0]
 have HE0 := Lib.hid hE0
 obtain ⟨e0, e1, e2, e3⟩ := HFIN.out w2 ⟨#[]⟩ 0 0 false hR2 hgw
 clear hE0
 go_wp2_with fail
 refine bodyPost_ret (v := .tuple #[.agg #[.string ⟨#[]⟩, .int .i64 0, .int .i64 0], .bool false, .int .i64 E]) (by simp [results, Tryz.results15, go_sem, e0, e1, e2]) rfl ?_
 exact ⟨none, by rw [HOE.out]; rfl, fun _ => rfl, fun h => absurd (HOE.out.symm.trans h) HE0.out, e3⟩
theorem jiu {y : Con} (h : jau y = 0) : (0 ≤ y.tm ∧ y.tm ≤ 345686399999) ∧ (1 ≤ y.mode ∧ y.mode ≤ 3) ∧ xi y.call = true := by
 unfold jau at h
 by_cases h1 : qy y.tm 0 345686399999 = true
 ·rw [if_pos h1] at h; omega
 rw [if_neg h1] at h
 by_cases h2 : qy y.mode 1 3 = true
 ·rw [if_pos h2] at h; omega
 rw [if_neg h2] at h
 by_cases h3 : jaz y.band.data.toList = false
 ·rw [if_pos h3] at h; omega
 rw [if_neg h3] at h
 by_cases h4 : xi y.call = false
 ·rw [if_pos h4] at h; omega
 refine ⟨?_, ?_, by simpa using h4⟩
 ·unfold qy at h1; simp at h1; omega
 unfold qy at h2; simp at h2; omega
theorem jsy {l : List Con} (h : qt l = 0) : l.length ≤ 2000 ∧ ∀ y ∈ l, jau y = 0 := by
 unfold qt at h
 split at h
 ·omega
 exact ⟨by omega, jm2 jau h⟩
theorem jwe {a b c d e : Int} (h : orL [a, b, c, d, e] = 0) : a = 0 ∧ b = 0 ∧ c = 0 ∧ d = 0 ∧ e = 0 := by
 by_cases h1 : a = 0 <;> by_cases h2 : b = 0 <;> by_cases h3 : c = 0 <;> by_cases h4 : d = 0 <;> by_cases h5 : e = 0 <;> simp [orL, h1, h2, h3, h4, h5] at h ⊢
theorem jk3 {c : Cst} (h : jd3 c = 0) : yh c.ents c.pfxs = 0 ∧ jef c.own = 0 ∧ jav c.beg c.fin = 0 ∧ yq c.ruls = 0 ∧ zf c.muls = 0 := jwe h
theorem jr5 (a : ByteArray) (bb bm : Bool) (BD IM : ByteArray) : (jv8 a bb bm BD IM).size ≤ a.size + BD.size + IM.size + 2 := by
 have hs : ∀ t : ByteArray, ((⟨#[32]⟩ : ByteArray) ++ t).size = 1 + t.size := fun t => by rw [ByteArray.size_append]; rfl
 unfold jv8
 split
 ·show 0 ≤ _; omega
 cases bb <;> cases bm <;> simp only [if_true, if_false, Bool.false_eq_true, ByteArray.size_append, hs] <;> omega
theorem jp9 (s : ByteArray) : (jue s).size ≤ 100 := by
 unfold jue
 cases hq : jo s with
 | none => show 0 ≤ _; omega
 | some q =>
   have := (jcf hq).1
   show (q.1.extract 0 (q.2.1 + 1)).size ≤ _
   rw [ByteArray.size_extract]; omega
theorem jrp {F : ByteArray → Int → Option Fnd} {x : Con} (hg : x.got.size ≤ 1000) (hf : ∀ f, F x.call x.tm = some f → f.1.size ≤ 1000 ∧ f.2.1 ≤ 1000000 ∧ f.2.2 ≤ 1000000) (m : Int) : (jv4 F x m).size ≤ 1000 := by
 unfold jv4
 split
 ·have := jp9 x.call; omega
 split
 ·exact hg
 cases hq : F x.call x.tm with
 | none => show 0 ≤ _; omega
 | some f =>
   obtain ⟨h1, h2, h3⟩ := hf f hq
   have i1 := jb5 (t := f.2.1) (by omega)
   have i2 := jb5 (t := f.2.2) (by omega)
   show (if m = 1 then f.1 else if m = 2 then itZ f.2.2 else itZ f.2.1).size ≤ _
   split
   ·exact h1
   split <;> omega
theorem jht {F : ByteArray → Int → Option Fnd} {ms : List Mul} {x : Con} : ∀ (n : Nat) (q : Nat × ByteArray), q ∈ j8 F ms x n → q.1 < n ∧ ∃ m, q.2 = jda F x m
 | 0, q, h => by cases h
 | n + 1, q, h => by
   unfold j8 at h
   rcases List.mem_append.1 h with h | h
   ·obtain ⟨h1, h2⟩ := jht n q h
    exact ⟨by omega, h2⟩
   split at h
   ·cases h
   rw [List.mem_singleton] at h
   subst h
   exact ⟨by show n < n + 1; omega, _, rfl⟩
structure ScRight (c : Cst) (l : List Con) : Prop where
 E : zu c l = 0
 len : c.pfxs.length ≤ 2000
 beg : ∀ x ∈ c.pfxs, x.beg.size ≤ 14
 tm : ∀ y ∈ l, 0 ≤ y.tm ∧ y.tm ≤ 345686399999
 ok : ∀ y ∈ l, ScOk c y
 nam : ∀ y ∈ l, NamOk c y
 pts : ∀ y ∈ l, 0 ≤ xu (qd c.ents c.pfxs) c.own c.ruls y ∧ xu (qd c.ents c.pfxs) c.own c.ruls y ≤ 1000
 nms : ∀ y ∈ l, ∀ q ∈ j8 (qd c.ents c.pfxs) c.muls y c.muls.length, jpg q
theorem zl {c : Cst} {l : List Con} (hs : CstSm c) (hxs : ∀ y ∈ l, jbk y) (hC : jd3 c = 0) (hX : qt l = 0) : ScRight c l := by
 obtain ⟨ht, ho, hti, hr, hm⟩ := jk3 hC
 obtain ⟨hl, hcon⟩ := jsy hX
 have hR := ja7 ht
 have hml : c.muls.length ≤ 10 := by
  unfold zf at hm
  split at hm
  ·omega
  omega
 have hown : xi c.own = true := by
  unfold jef at ho
  split at ho
  ·assumption
  omega
 have hke : ∀ e ∈ c.ents, e.key.size ≤ 1000 := fun e he => by
  have hk := (hR.ok.ents.times e he).2.1
  unfold jaz at hk
  simp only [Bool.and_eq_true, decide_eq_true_eq] at hk
  rw [zg]; omega
 have hN : ∀ y ∈ l, NamOk c y := fun y hy => jvi ht (jiu (hcon y hy)).2.1 hke hml
 refine ⟨?_, hR.ok.len, hR.beg, fun y hy => (jiu (hcon y hy)).1, fun y hy => ⟨hR, hown, (jiu (hcon y hy)).2.2, hs.own, hs.asc, hxs y hy⟩, hN, fun y hy => jyk _ _ hr y, ?_⟩
 ·unfold zu; rw [if_pos hC]; exact hX
 intro y hy q hq
 obtain ⟨h1, m, h2⟩ := jht _ _ hq
 obtain ⟨hb, hc, _, _, hgt⟩ := hxs y hy
 have hn := hN y hy
 have h0 := jrp (F := qd c.ents c.pfxs) (x := y) hgt (fun f hf => ⟨hn.s f hf, (hn.z f hf).2.1, (hn.z f hf).2.2.2⟩) m.what
 have hi := jb5 (t := y.mode) (by have := hn.m1; omega)
 have hz := jr5 (jv4 (qd c.ents c.pfxs) y m.what) m.byBand m.byMode y.band (itZ y.mode)
 rw [← jrj] at hz
 refine ⟨by omega, ?_⟩
 rw [h2]; omega
end Go.Proofs.YtbamhgaghngjiaaGreatDoor
namespace Go.Proofs.YtbamhgaghngjiaaGreatDoor
open Go.RowKit Go.Sort Go.Shelf
set_option linter.unusedVariables false

theorem jq9 (l : List Con) (m : Nat) (h : l.length = m + 1) (d : Array (Fin (m + 1))) : (jqt l m h d).toList.Perm d.toList := by
 have hw : SWO (ltOf (tmF l m h)) := by
  refine ⟨fun x => ?_, fun x y z h1 h2 => ?_, fun x y z h1 h2 => ?_⟩
  ·unfold ltOf tmF
   rw [decide_eq_false_iff_not]
   omega
  ·unfold ltOf tmF at *
   rw [decide_eq_true_eq] at *
   omega
  unfold ltOf tmF at *
  rw [decide_eq_false_iff_not] at *
  omega
 have hp := (insertionSort_holds hw d 0 d.size (Nat.zero_le _) (Nat.le_refl _)).1
 unfold jqt
 generalize Sort.insertionSort (ltOf (tmF l m h)) d 0 d.size = d2 at *
 have h1 := hp.2.2
 have h0 : d2.size = d.size := hp.1
 have e : d2.extract 0 d.size = d2 := by rw [← h0]; exact Array.extract_size
 rw [e, Array.extract_size] at h1
 exact h1
theorem jsp (a z : Int) (l : List Con) : (jgn a z l).Perm (inN a z l l.length) := by
 cases l with
 | nil => exact List.Perm.refl _
 | cons y r =>
   rw [jbx]
   have h1 := (jq9 (y :: r) r.length rfl (jpm (r.length + 1) (inN a z (y :: r) (r.length + 1))).toArray).map fun x => x.val
   rw [List.toList_toArray, je8 (r.length + 1) _ (jhc a z (y :: r) (r.length + 1))] at h1
   exact h1
end Go.Proofs.YtbamhgaghngjiaaGreatDoor
namespace Go.Proofs.YtbamhgaghngjiaaGreatDoor
open Go.RowKit
set_option linter.unusedVariables false

theorem jkp (bm : Bool) (l : List Con) (js : List Nat) : ∀ k, k ≤ js.length → ((jgp bm l js k).1 ++ (jgp bm l js k).2).Perm (js.take k)
 | 0, _ => by simp [jgp]
 | k + 1, h => by
   have ih := jkp bm l js k (by omega)
   have hk : k < js.length := by omega
   have e : js.getD k 0 = js[k] := by simp [hk]
   rw [List.take_succ_eq_append_getElem hk]
   unfold jgp
   rw [e]
   split
   ·show ((jgp bm l js k).1 ++ ((jgp bm l js k).2 ++ [js[k]])).Perm _
    rw [← List.append_assoc]
    exact ih.append_right _
   show (((jgp bm l js k).1 ++ [js[k]]) ++ (jgp bm l js k).2).Perm _
   refine List.Perm.trans ?_ (ih.append_right [js[k]])
   rw [List.append_assoc, List.append_assoc]
   exact List.Perm.append_left _ List.perm_append_comm
theorem jf3 (a z : Int) (l : List Con) : ∀ k, (inN a z l k).Nodup
 | 0 => List.Pairwise.nil
 | k + 1 => by
   unfold inN
   split
   ·rw [List.nodup_append]
    refine ⟨jf3 a z l k, by simp, fun x hx y hy => ?_⟩
    have := jhc a z l k x hx
    rw [List.mem_singleton] at hy
    omega
   exact jf3 a z l k
theorem jth (a z : Int) (l : List Con) : ∀ k j, j ∈ inN a z l k ↔ j < k ∧ ja0 a z (yi l j).tm = true
 | 0, j => by simp [inN]
 | k + 1, j => by
   have ih := jth a z l k j
   unfold inN
   split
   ·rename_i h
    rw [List.mem_append, List.mem_singleton, ih]
    constructor
    ·rintro (⟨h1, h2⟩ | rfl)
     ·exact ⟨by omega, h2⟩
     exact ⟨by omega, h⟩
    rintro ⟨h1, h2⟩
    by_cases e : j = k
    ·exact .inr e
    exact .inl ⟨by omega, h2⟩
   rename_i h
   rw [ih]
   constructor
   ·rintro ⟨h1, h2⟩
    exact ⟨by omega, h2⟩
   rintro ⟨h1, h2⟩
   refine ⟨?_, h2⟩
   by_cases e : j = k
   ·subst e; exact absurd h2 h
   omega
def joq (c : Cst) (l : List Con) : List Nat := (jgp c.byMode l (jgn c.beg c.fin l) (jgn c.beg c.fin l).length).2
theorem jkf (c : Cst) (l : List Con) : (jah c l ++ joq c l).Perm (inN c.beg c.fin l l.length) := by
 have h := jkp c.byMode l (jgn c.beg c.fin l) _ (Nat.le_refl _)
 rw [List.take_length] at h
 exact h.trans (jsp _ _ _)
theorem jvu (c : Cst) (l : List Con) : (jah c l).length + (joq c l).length = (inN c.beg c.fin l l.length).length := by
 have := (jkf c l).length_eq
 rwa [List.length_append] at this
theorem jw2 (c : Cst) (l : List Con) (i : Nat) : i ∈ jah c l ↔ i < l.length ∧ ja0 c.beg c.fin (yi l i).tm = true ∧ i ∉ joq c l := by
 have hp := jkf c l
 have hn := hp.nodup_iff.2 (jf3 c.beg c.fin l l.length)
 rw [List.nodup_append] at hn
 have hm := (jth c.beg c.fin l l.length i)
 constructor
 ·intro h
  obtain ⟨h1, h2⟩ := hm.1 (hp.mem_iff.1 (List.mem_append_left _ h))
  exact ⟨h1, h2, fun hd => hn.2.2 i h i hd rfl⟩
 rintro ⟨h1, h2, h3⟩
 rcases List.mem_append.1 (hp.mem_iff.2 (hm.2 ⟨h1, h2⟩)) with h | h
 ·exact h
 exact absurd h h3
theorem js5 (L : List (List UInt8 × Int)) (q : List UInt8) (d : Int) (x : List UInt8) : x ∈ (je0 L q d).map (·.1) ↔ x ∈ L.map (·.1) ∨ x = q := by
 induction L with
 | nil => simp [je0]
 | cons p r ih =>
   unfold je0
   split
   ·rename_i h
    simp only [List.map_cons, List.mem_cons]
    constructor
    ·rintro (h1 | h1)
     ·exact .inr h1
     exact .inl (.inr h1)
    rintro ((h1 | h1) | h1)
    ·exact .inl (h1.trans h)
    ·exact .inr h1
    exact .inl h1
   simp only [List.map_cons, List.mem_cons, ih]
   constructor
   ·rintro (h1 | h1 | h1)
    ·exact .inl (.inl h1)
    ·exact .inl (.inr h1)
    exact .inr h1
   rintro ((h1 | h1) | h1)
   ·exact .inl h1
   ·exact .inr (.inl h1)
   exact .inr (.inr h1)
theorem jhi (L : List (List UInt8 × Int)) (hL : (L.map (·.1)).Nodup) (ns : List Nm) : ∀ k, k ≤ ns.length → ((jas L ns k).map (·.1)).Nodup ∧ ∀ x, x ∈ (jas L ns k).map (·.1) ↔ x ∈ L.map (·.1) ∨ ∃ q ∈ ns.take k, nmB q = x
 | 0, _ => ⟨hL, fun x => by simp [jas]⟩
 | k + 1, h => by
   obtain ⟨h1, h2⟩ := jhi L hL ns k (by omega)
   have hk : k < ns.length := by omega
   rw [jha L ns k hk]
   refine ⟨jlr h1 _ _, fun x => ?_⟩
   rw [js5, h2, List.take_succ_eq_append_getElem hk]
   constructor
   ·rintro ((h3 | ⟨q, hq, rfl⟩) | rfl)
    ·exact .inl h3
    ·exact .inr ⟨q, List.mem_append_left _ hq, rfl⟩
    exact .inr ⟨_, List.mem_append_right _ (List.mem_singleton.2 rfl), rfl⟩
   rintro (h3 | ⟨q, hq, rfl⟩)
   ·exact .inl (.inl h3)
   rcases List.mem_append.1 hq with hq | hq
   ·exact .inl (.inr ⟨q, hq, rfl⟩)
   rw [List.mem_singleton.1 hq]; exact .inr rfl
theorem jho (N : Con → List Nm) (l : List Con) (js : List Nat) : ∀ k, k ≤ js.length → ((jag N l js k).map (·.1)).Nodup ∧ ∀ x, x ∈ (jag N l js k).map (·.1) ↔ ∃ j ∈ js.take k, ∃ q ∈ N (yi l j), nmB q = x
 | 0, _ => ⟨List.Pairwise.nil, fun x => by simp [jag]⟩
 | k + 1, h => by
   obtain ⟨h1, h2⟩ := jho N l js k (by omega)
   have hk : k < js.length := by omega
   have e : js.getD k 0 = js[k] := by simp [hk]
   obtain ⟨h3, h4⟩ := jhi _ h1 (N (yi l (js.getD k 0))) _ (Nat.le_refl _)
   refine ⟨h3, fun x => ?_⟩
   show x ∈ (jas (jag N l js k) (N (yi l (js.getD k 0))) (N (yi l (js.getD k 0))).length).map (·.1) ↔ _
   rw [h4, h2, List.take_length, e, List.take_succ_eq_append_getElem hk]
   constructor
   ·rintro (⟨j, hj, h5⟩ | h5)
    ·exact ⟨j, List.mem_append_left _ hj, h5⟩
    exact ⟨_, List.mem_append_right _ (List.mem_singleton.2 rfl), h5⟩
   rintro ⟨j, hj, h5⟩
   rcases List.mem_append.1 hj with hj | hj
   ·exact .inl ⟨j, hj, h5⟩
   rw [List.mem_singleton.1 hj] at h5; exact .inr h5
set_option maxRecDepth 100000 in
set_option maxHeartbeats 2000000 in
theorem jle (b : Nat) (w : World) (hgl : Gl b w) : Calls Tryz.prog 10 #[] w fun r w' => r = .returned (.bool true) ∧ w.grownBy w' none := by
 have HGL := Lib.hid hgl
 clear hgl
 go_enter Tryz.func10, Tryz.ntmps10
 go_wp2_with fail
 refine (jnm _).mono ?_
 rintro _ w1 ⟨rfl, hg1⟩
 go_wp2_with fail
 have hB := Blk.new w1 87 #[.string ⟨#[111, 104, 50, 97, 98, 99]⟩, .string ⟨#[111, 104, 50]⟩, .string ⟨#[97, 98, 99]⟩, .int .i64 2, .string ⟨#[52]⟩]
 have hG := jd hg1 (.cells #[.string ⟨#[111, 104, 50, 97, 98, 99]⟩, .string ⟨#[111, 104, 50]⟩, .string ⟨#[97, 98, 99]⟩, .int .i64 2, .string ⟨#[52]⟩] 87)
 clear hg1
 generalize w1.alloc (.cells #[.string ⟨#[111, 104, 50, 97, 98, 99]⟩, .string ⟨#[111, 104, 50]⟩, .string ⟨#[97, 98, 99]⟩, .int .i64 2, .string ⟨#[52]⟩] 87) = W at *
 refine (jjw _).mono ?_
 rintro _ _ ⟨rfl, rfl⟩
 go_wp2_with fail
 refine (jmf b _ (HGL.out.quiet hG)).mono ?_
 rintro _ w2 ⟨rfl, hg⟩
 replace hB := hB.grown hg (by simp)
 replace hG := ja hG hg
 clear hg
 go_wp2_with fail
 refine (jpy _).mono ?_
 rintro _ w3 ⟨rfl, hg⟩
 replace hB := hB.grown hg (by simp)
 replace hG := ja hG hg
 have c1 : w3.cell? ⟨w1.heap.size, 1, none⟩ = some (.string ⟨#[111, 104, 50]⟩) := hB.cell 1
 clear hg
 go_wp2_with fail
 go_ret
 exact ⟨rfl, hG⟩
end Go.Proofs.YtbamhgaghngjiaaGreatDoor
namespace Go.Proofs.YtbamhgaghngjiaaGreatDoor
open Go.ChangeShapes Go.WideShapes Go.ChangeAt Go.RowKit
set_option linter.unusedVariables false

theorem jq3 : ownKnob Tryz.prog.godebug = none := by kernel_rfl
theorem jga : laidOutB Tryz.prog = true := by kernel_rfl
theorem jek {H : Type} {enc : TypeId × Value → H} {a : Assume} {C : Checked} {os : Os} {f : FuncId} {fn : Func} {s : ChangeSpec} {conds : List PathCond} {apart fresh handsOn again : Bool} {X : World → Array Value → Prop}
 (hX : ∀ (w w' : World) (args : Array Value), w.heap = w'.heap → X w args → X w' args)
 (own : ownKnob C.prog.godebug = none) (started : os.Started) (noInit : C.prog.inits.idxOf? f = none) (hfn : C.prog.funcs[f]? = some fn)
 (witness : ∃ (w : World) (tape : Tape) (i : Input), w.os = os ∧ (w.forCall tape i).Shaped C.prog ∧ i.vars = [] ∧ Input.okWide C.prog (w.forCall tape i) .any w.heap.size f i ∧
  ((s.pre enc C.prog fn conds apart (w.forCall tape i).memory i.args ∧ X (w.forCall tape i).memory i.args) ∧ sizedMet enc C.prog fn (OpenSpec.ofChange s) apart (w.forCall tape i).memory i.args) ∧ a.holds C.prog (lone (Frame.enter C.prog f i.args .normal) [] (w.forCall tape i)))
 (contract : ∀ (W : World) (base : Nat) (args : Array Value) (ds gs : List (DataW H)) (before : List MemPlace),
  (∀ (j : Nat) t v, fn.params[j]? = some t → args[j]? = some v → Value.okWide C.prog W .any base t v) →
  DataW.Whole enc C.prog fn.params.toList s.vars apart W args.toList ds gs before → X W args → W.ShapedOpen C.prog →
  Calls C.prog f args W fun e W' => ∃ v, e = .returned v ∧ s.post enc C.prog fn apart fresh handsOn again W args v W') :
 ReturnsInHanded a C os f .any (fun w args => (s.pre enc C.prog fn conds apart w args ∧ X w args) ∧ sizedMet enc C.prog fn (OpenSpec.ofChange s) apart w args) (s.post enc C.prog fn apart fresh handsOn again) := by
 refine returnsInHanded_of_calls own started noInit witness ?_
 intro w tape i _ hsh _ hok hpre hholds
 obtain ⟨_, _, _, fn', hfn', _, _, _, _, hval⟩ := hok
 have e : fn' = fn := Option.some.inj (hfn'.symm.trans hfn)
 subst e
 obtain ⟨⟨⟨ds, gs, before, hw, hc⟩, hx⟩, hz⟩ := hpre
 have hw' := DataW.Whole.of_heap (w' := w.forCall tape i) (by rfl) hw
 refine (contract (w.forCall tape i) w.heap.size i.args ds gs before hval hw' (hX _ _ _ (by rfl) hx) hsh).mono fun e W' ⟨v, he, hp⟩ => ?_
 subst he
 exact ChangeSpec.post_blind hp
theorem jbl {P : Program} {w : World} {l : List (String × DataW Unit)} (fuel M : Nat) (h : (DataW.laidRun P w fuel (l.map (·.1))).map (·.1) = some l)
 (hn : (DataW.laidRun P w fuel (l.map (·.1))).map (fun x => nodupBits M x.2 0) = some true)
 (hr : (DataW.laidRun P w fuel (l.map (·.1))).map (fun x => laidRowsB P w x.2) = some true) : laidMet P l w := by
 cases hx : DataW.laidRun P w fuel (l.map (·.1)) with
 | none => simp [hx] at h
 | some x =>
   obtain ⟨l', ps⟩ := x
   simp only [hx, Option.map_some, Option.some.injEq] at h hr hn
   subst h
   exact laidMet_of_run fuel hx (decide_eq_true (nodupBits_sound hn).1) hr
def jyy : DataW Unit → Array Value
 | .agg ds => (ds.map fun d => match d with | .lit (.int k n) => Value.int k n | _ => .bool false).toArray
 | _ => #[]
noncomputable def startW (os : Os) : World :=
 let w0 := World.doorLaid Tryz.prog 200 os
 { w0 with heap := w0.heap.modify 1 fun
  | .cells _ t fr => .cells (jyy Go.Pinned.utf8First) t fr
  | o => o }
theorem jrk {W : World} (h : W.ShapedOpen Tryz.prog) : ∃ m, W.cell? ⟨0, 0, none⟩ = some (.int .i64 m) :=
 cell_of_shapedOpen_int (t := 3) (zero := #[.int .i64 0]) h (of_decide_eq_true (by kernel_rfl)) (by kernel_rfl) (by kernel_rfl) (by kernel_rfl) (by kernel_rfl) Tryz.underlying3
theorem jyo : (Rows.laid_strings_asciiSpace : DataW Unit) = Lib.tabData .u8 Lib.asciiSpaceTab := by kernel_rfl
theorem jow {W : World} {rest : List (String × DataW Unit)} (h : laidMet Tryz.prog (("strings.asciiSpace", Rows.laid_strings_asciiSpace) :: rest) W) : Lib.TabIs Tryz.prog W "strings.asciiSpace" .u8 Lib.asciiSpaceTab := by
 rw [jyo] at h
 exact Lib.tabIs_of_head (g := 3) (t := 263) (e := 5) (n := 256) (by kernel_rfl) (by kernel_rfl) Tryz.underlying263 Tryz.underlying5 (by kernel_rfl) (by kernel_rfl) h
theorem jok {W : World} (h1 : ∃ m, W.cell? ⟨0, 0, none⟩ = some (.int .i64 m)) (h2 : Lib.TabIs Tryz.prog W "strings.asciiSpace" .u8 Lib.asciiSpaceTab) : Gl W.heap.size W := by
 obtain ⟨m, hm⟩ := h1
 have hc := h2.cell (g := 3) (by kernel_rfl) 0 (by rw [Lib.asciiSpaceTab_length]; decide)
 exact ⟨⟨m, hm⟩, h2, World.block_lt_of_cell? W _ hm, World.block_lt_of_cell? W _ hc, Nat.le_refl _⟩
end Go.Proofs.YtbamhgaghngjiaaGreatDoor
