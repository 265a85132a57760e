/- Parts of a proof: ScScore, ScAdd. Conditions: as each statement says. -/
import Derived.Test.YtbamhgaghngjiaaGreatDoorCoas
namespace Go.Proofs.YtbamhgaghngjiaaGreatDoor
open Go.RowKit
set_option linter.unusedVariables false
set_option linter.unusedSimpArgs false

def jb2 (ms : List Mul) (pt n : Int) : Int := if 0 < ms.length then pt * n else pt
set_option maxRecDepth 100000 in
set_option maxHeartbeats 16000000 in
theorem ji0 (base base2 gS gT bB bW : Nat) (u v rv mv : Value) (c : Cst) (gQ bm n : Nat) (ct pt : Int) (L : List (List UInt8 × Int)) (w : World) (h : ScAt base base2 gS gT bB bW u v rv mv c w) (hq : SumAt gS gQ bm n ct pt L w) (hc : 0 ≤ ct ∧ ct ≤ 1000000) (hp : 0 ≤ pt ∧ pt ≤ 1000000000) (hL : L.length ≤ 1000000) :
 Calls Tryz.prog 62 #[.pointer (some ⟨gQ, 0, none⟩)] w fun e w' => e = .returned (.agg #[.int .i64 ct, .int .i64 pt, .int .i64 (L.length : Int), .int .i64 (jb2 c.muls pt (L.length : Int))]) ∧ w.grownBy w' none := by
 obtain ⟨MA, mc, hmv, hml, _⟩ := h.cst.muls.shape
 subst hmv
 have HS := Lib.hid h.blk
 have HLEN : Hid (∀ W, w.grownBy W none → ∀ ty, (Builtin.len_ #[181] ty #[.map (some bm)]).run Tryz.prog W = .ok (.int .i64 (L.length : Int)) W) := fun W hW ty => (hq.map.quiet hW).len ty
 have HTOT : Hid (jb2 c.muls pt (L.length : Int) = if 0 < c.muls.length then pt * (L.length : Int) else pt) := rfl
 obtain ⟨TT, hTT⟩ : ∃ x, jb2 c.muls pt (L.length : Int) = x := ⟨_, rfl⟩
 rw [hTT] at HTOT ⊢
 clear hTT
 have hQ := hq.blk
 obtain ⟨NL, hNL⟩ : ∃ x, L.length = x := ⟨_, rfl⟩
 rw [hNL] at HLEN HTOT hL ⊢
 obtain ⟨mn, hmn⟩ : ∃ x, c.muls.length = x := ⟨_, rfl⟩
 rw [hmn] at HTOT HS
 (try rw [hmn] at hml)
 generalize c.own = own at *
 generalize c.beg = bg at *
 generalize c.fin = fn at *
 generalize c.byMode = bmo at *
 have hR := Blk.new w 45 #[.int .i64 0, .int .i64 0, .int .i64 0, .int .i64 0]
 have hgR := World.grownBy_alloc w (.cells #[.int .i64 0, .int .i64 0, .int .i64 0, .int .i64 0] 45) none
 have hQ2 := hQ.grown hgR (by simp)
 clear h hq hQ hNL hmn
 go_enter Tryz.func62, Tryz.ntmps62
 go_upto_region 1 with fail
 generalize w.alloc (.cells #[.int .i64 0, .int .i64 0, .int .i64 0, .int .i64 0] 45) = w0 at *
 obtain ⟨gR, hgR0⟩ : ∃ g, w.heap.size = g := ⟨_, rfl⟩
 rw [hgR0] at hR
 (try rw [hgR0])
 have HGR := Lib.hid hgR0
 clear hgR0
 obtain ⟨k0, k1, k2, k3⟩ := j9 hQ2
 have HKC : Hid (∀ V, w0.grownBy V none → V.cell? ⟨gQ, 1, none⟩ = some (.int .i64 ct) ∧ V.cell? ⟨gQ, 2, none⟩ = some (.int .i64 pt) ∧ V.cell? ⟨gQ, 3, none⟩ = some (.map (some bm)) ∧ V.cell? ⟨gQ, 0, none⟩ = some (.pointer (some ⟨gS, 0, none⟩))) := fun V hV => ⟨hV.cell k1 (by simp), hV.cell k2 (by simp), hV.cell k3 (by simp), hV.cell k0 (by simp)⟩
 clear k0 k1 k2 k3 hQ2
 refine jx [19] (fun V => V.cell? ⟨gQ, 1, none⟩ = some (.int .i64 ct) ∧ V.cell? ⟨gQ, 2, none⟩ = some (.int .i64 pt) ∧ V.cell? ⟨gQ, 3, none⟩ = some (.map (some bm)) ∧ V.cell? ⟨gQ, 0, none⟩ = some (.pointer (some ⟨gS, 0, none⟩))) (by kernel_rfl) ?_
 have hG : w0.grownBy w0.drew none := jn (jf _ _)
 generalize w0.drew = W at *
 revert hG
 revert W
 refine' qf ?h12_18 ?k12_18
 case' k12_18 =>
  intro H12_18
  refine' qf ?h12 ?k12
 case' k12 =>
  intro H12
  refine' qf ?h18 ?k18
 case' k18 => intro H18
 case k18 =>
  intro W hG
  refine tkA 0 4 (fun _ => HKC.out _ hG) ?_
  simp only [Act.put, ssA, ssZ, ssS]
  refine tkA 1 5 (fun _ => HKC.out _ hG) ?_
  simp only [Act.put, ssA, ssZ, ssS]
  refine tkA 2 6 (fun _ => HKC.out _ hG) ?_
  simp only [Act.put, ssA, ssZ, ssS]
  refine tkL 3 7 (HKC.out _ hG) ?_
  simp only [Act.put, ssA, ssZ, ssS]
  refine tkA 4 8 (fun _ => HKC.out _ hG) ?_
  simp only [Act.put, ssA, ssZ, ssS]
  refine tkA 5 9 (fun _ => HKC.out _ hG) ?_
  simp only [Act.put, ssA, ssZ, ssS]
  refine tkA 6 10 (fun _ => HKC.out _ hG) ?_
  simp only [Act.put, ssA, ssZ, ssS]
  refine tkL 7 11 (HKC.out _ hG) ?_
  simp only [Act.put, ssA, ssZ, ssS]
  refine tkA 8 12 (fun _ => HKC.out _ hG) ?_
  simp only [Act.put, ssA, ssZ, ssS]
  refine tkA 9 13 (fun _ => HKC.out _ hG) ?_
  simp only [Act.put, ssA, ssZ, ssS]
  refine tkA 10 14 (fun _ => HKC.out _ hG) ?_
  simp only [Act.put, ssA, ssZ, ssS]
  refine tkL 11 15 (HKC.out _ hG) ?_
  simp only [Act.put, ssA, ssZ, ssS]
  refine tkA 13 17 (fun _ => HKC.out _ hG) ?_
  simp only [Act.put, ssA, ssZ, ssS]
  refine tkA 14 18 (fun _ => HKC.out _ hG) ?_
  simp only [Act.put, ssA, ssZ, ssS]
  refine tkA 15 19 (fun _ => HKC.out _ hG) ?_
  simp only [Act.put, ssA, ssZ, ssS]
  refine tkL 16 20 (HKC.out _ hG) ?_
  simp only [Act.put, ssA, ssZ, ssS]
  refine je (rs := [12, 18]) (by kernel_rfl) (by simp) ?_
  refine AllLate.cons (o := _) rfl (fun K hK => ?n2) (AllLate.cons (o := _) rfl (fun K hK => ?n1) AllLate.nil)
  case n2 =>
   have hln := HLEN.out W (ja hgR hG)
   go_simp
   clear hln
   refine hK.out _ _ (fun _ => HKC.out _ hG) ?_
   clear hK K
   (try simp only [Act.put, ssA, ssZ, ssS])
   refine jh (listed' := #[true, true, true, true, true, true, true, true, true, true, true, true, true, true, true, true, true, false, false, false]) (by kernel_rfl) ?_
   revert hG
   revert W
   exact H12.out
  case n1 =>
   go_simp
   have hF := Blk.new W 45 #[.int .i64 0, .int .i64 0, .int .i64 0, .int .i64 0]
   have hFl := hG.size
   replace hG := jd hG (.cells #[.int .i64 0, .int .i64 0, .int .i64 0, .int .i64 0] 45)
   generalize W.alloc (.cells #[.int .i64 0, .int .i64 0, .int .i64 0, .int .i64 0] 45) = W2 at *
   generalize W.heap.size = gF at *
   refine hK.out _ _ (fun _ => HKC.out _ hG) ?_
   clear hK K
   (try simp only [Act.put, ssA, ssZ, ssS])
   refine jh (listed' := #[true, true, true, true, true, true, true, true, true, true, true, true, false, true, true, true, true, false, true, false]) (by kernel_rfl) ?_
   revert hF
   revert hFl
   revert hG
   revert gF
   revert W2
   exact H18.out
 case h18 =>
  intro W gF hG hFl hF
  refine je (rs := [12]) (by kernel_rfl) (by simp) ?_
  refine AllLate.cons (o := _) rfl (fun K hK => ?n3) AllLate.nil
  case n3 =>
   have hln := HLEN.out W (ja hgR hG)
   go_simp
   clear hln
   refine hK.out _ _ (fun _ => HKC.out _ hG) ?_
   clear hK K
   (try simp only [Act.put, ssA, ssZ, ssS])
   refine tkA 17 21 (fun _ => HKC.out _ hG) ?_
   simp only [Act.put, ssA, ssZ, ssS]
   refine jh (listed' := #[true, true, true, true, true, true, true, true, true, true, true, true, true, true, true, true, true, true, true, false]) (by kernel_rfl) ?_
   revert hF
   revert hFl
   revert hG
   revert gF
   revert W
   exact H12_18.out
 case h12 =>
  intro W hG
  refine tkA 17 21 (fun _ => HKC.out _ hG) ?_
  simp only [Act.put, ssA, ssZ, ssS]
  refine je (rs := [18]) (by kernel_rfl) (by simp) ?_
  refine AllLate.cons (o := _) rfl (fun K hK => ?n4) AllLate.nil
  case n4 =>
   go_simp
   have hF := Blk.new W 45 #[.int .i64 0, .int .i64 0, .int .i64 0, .int .i64 0]
   have hFl := hG.size
   replace hG := jd hG (.cells #[.int .i64 0, .int .i64 0, .int .i64 0, .int .i64 0] 45)
   generalize W.alloc (.cells #[.int .i64 0, .int .i64 0, .int .i64 0, .int .i64 0] 45) = W2 at *
   generalize W.heap.size = gF at *
   refine hK.out _ _ (fun _ => HKC.out _ hG) ?_
   clear hK K
   (try simp only [Act.put, ssA, ssZ, ssS])
   refine jh (listed' := #[true, true, true, true, true, true, true, true, true, true, true, true, true, true, true, true, true, true, true, false]) (by kernel_rfl) ?_
   revert hF
   revert hFl
   revert hG
   revert gF
   revert W2
   exact H12_18.out
 case h12_18 =>
  intro W gF hG hFl hF
  obtain ⟨k0, k1, k2, k3⟩ := j9 hF
  have f0 := hF.free 0
  have f1 := hF.free 1
  have f2 := hF.free 2
  have f3 := hF.free 3
  have hF2 : Blk ((((W.setCell ⟨gF, 0, none⟩ (.int .i64 ct)).setCell ⟨gF, 1, none⟩ (.int .i64 pt)).setCell ⟨gF, 2, none⟩ (.int .i64 (NL : Int))).setCell ⟨gF, 3, none⟩ (.int .i64 pt)) gF 45 #[.int .i64 ct, .int .i64 pt, .int .i64 (NL : Int), .int .i64 pt] := (((hF.put 0 _).put 1 _).put 2 _).put 3 _
  have hG2 : w0.grownBy ((((W.setCell ⟨gF, 0, none⟩ (.int .i64 ct)).setCell ⟨gF, 1, none⟩ (.int .i64 pt)).setCell ⟨gF, 2, none⟩ (.int .i64 (NL : Int))).setCell ⟨gF, 3, none⟩ (.int .i64 pt)) none := jg (p := ⟨gF, 3, none⟩) (jg (p := ⟨gF, 2, none⟩) (jg (p := ⟨gF, 1, none⟩) (jg (p := ⟨gF, 0, none⟩) hG (.inr hFl) _) (.inr hFl) _) (.inr hFl) _) (.inr hFl) _
  refine je (rs := [19]) (by kernel_rfl) (by simp) ?_
  refine AllLate.cons (o := _) rfl (fun K hK => ?_) AllLate.nil
  go_simp
  refine hK.out _ _ (fun h => Bool.noConfusion (show false = true from h)) ?_
  clear hK K
  (try simp only [Act.put, ssA, ssZ, ssS])
  refine qe (by kernel_rfl) ?_ _
  generalize (((W.setCell ⟨gF, 0, none⟩ (.int .i64 ct)).setCell ⟨gF, 1, none⟩ (.int .i64 pt)).setCell ⟨gF, 2, none⟩ (.int .i64 (NL : Int))).setCell ⟨gF, 3, none⟩ (.int .i64 pt) = w3 at *
  clear k0 k1 k2 k3 f0 f1 f2 f3 hF hG
  have q0 := (HKC.out _ hG2).2.2.2
  have hG3 := ja hgR hG2
  have hs3 := HS.out.grown hG3 (by simp)
  have s6 := hs3.cell 6
  simp only [geA, geZ, geS] at s6
  have hR3 := hR.grown hG2 (by simp)
  have hRl := hR.lt
  have hRF : gR ≠ gF := by omega
  have hFw : w.heap.size ≤ gF := by have := HGR.out; omega
  have hRw : w.heap.size ≤ gR := by have := HGR.out; omega
  obtain ⟨m0, m1, m2, m3⟩ := j9 hF2
  have y3 := hF2.free 3
  clear HKC HLEN hs3 hG2 hgR hR
  by_cases hz : 0 < mn
  ·have hzi : (0 : Int) < (mn : Int) := by omega
   have HT2 : Hid (TT = pt * (NL : Int)) := by show _ = _; rw [HTOT.out, if_pos hz]
   have hm0 : 0 ≤ pt * (NL : Int) := Int.mul_nonneg hp.1 (by omega)
   have hm1 : pt * (NL : Int) ≤ 1000000000 * 1000000 := Int.mul_le_mul hp.2 (by omega) (by omega) (by omega)
   have hwr : IntKind.i64.wrap (pt * (NL : Int)) = pt * (NL : Int) := IntWalk.i64_in _ ⟨by omega, by omega⟩
   have hF4 : Blk (w3.setCell ⟨gF, 3, none⟩ (.int .i64 (pt * (NL : Int)))) gF 45 #[.int .i64 ct, .int .i64 pt, .int .i64 (NL : Int), .int .i64 (pt * (NL : Int))] := hF2.put 3 _
   have hG4 : w.grownBy (w3.setCell ⟨gF, 3, none⟩ (.int .i64 (pt * (NL : Int)))) none := jg (p := ⟨gF, 3, none⟩) hG3 (.inr hFw) _
   have hR4 := hR3.far (p := ⟨gF, 3, none⟩) (by simpa using hRF) (.int .i64 (pt * (NL : Int)))
   go_upto_region 4 with fail
   generalize pt * (NL : Int) = PN at *
   generalize w3.setCell ⟨gF, 3, none⟩ (.int .i64 PN) = w4 at *
   clear m0 m1 m2 m3 y3 hF2 hG3 hR3 q0 s6
   obtain ⟨n0, n1, n2, n3⟩ := j9 hF4
   obtain ⟨r0, r1, r2, r3⟩ := j9 hR4
   have z0 := hR4.free 0
   have z1 := hR4.free 1
   have z2 := hR4.free 2
   have z3 := hR4.free 3
   have HP : Hid (Blk ((((w4.setCell ⟨gR, 0, none⟩ (.int .i64 ct)).setCell ⟨gR, 1, none⟩ (.int .i64 pt)).setCell ⟨gR, 2, none⟩ (.int .i64 (NL : Int))).setCell ⟨gR, 3, none⟩ (.int .i64 PN)) gR 45 #[.int .i64 ct, .int .i64 pt, .int .i64 (NL : Int), .int .i64 PN]) := (((hR4.put 0 _).put 1 _).put 2 _).put 3 _
   have hPG : w.grownBy ((((w4.setCell ⟨gR, 0, none⟩ (.int .i64 ct)).setCell ⟨gR, 1, none⟩ (.int .i64 pt)).setCell ⟨gR, 2, none⟩ (.int .i64 (NL : Int))).setCell ⟨gR, 3, none⟩ (.int .i64 PN)) none := jg (p := ⟨gR, 3, none⟩) (jg (p := ⟨gR, 2, none⟩) (jg (p := ⟨gR, 1, none⟩) (jg (p := ⟨gR, 0, none⟩) hG4 (.inr hRw) _) (.inr hRw) _) (.inr hRw) _) (.inr hRw) _
   go_wp2_with fail
   obtain ⟨e0, e1, e2, e3⟩ := j9 HP.out
   refine bodyPost_ret (v := .agg #[.int .i64 ct, .int .i64 pt, .int .i64 (NL : Int), .int .i64 PN]) (by simp [results, Tryz.results62, go_sem, e0, e1, e2, e3]) rfl ?_
   exact ⟨by rw [HT2.out], hPG⟩
  have hzi : ¬ (0 : Int) < (mn : Int) := by omega
  have HT2 : Hid (TT = pt) := by show _ = _; rw [HTOT.out, if_neg hz]
  clear m0 m1 m2 m3
  obtain ⟨n0, n1, n2, n3⟩ := j9 hF2
  obtain ⟨r0, r1, r2, r3⟩ := j9 hR3
  have z0 := hR3.free 0
  have z1 := hR3.free 1
  have z2 := hR3.free 2
  have z3 := hR3.free 3
  have HP : Hid (Blk ((((w3.setCell ⟨gR, 0, none⟩ (.int .i64 ct)).setCell ⟨gR, 1, none⟩ (.int .i64 pt)).setCell ⟨gR, 2, none⟩ (.int .i64 (NL : Int))).setCell ⟨gR, 3, none⟩ (.int .i64 pt)) gR 45 #[.int .i64 ct, .int .i64 pt, .int .i64 (NL : Int), .int .i64 pt]) := (((hR3.put 0 _).put 1 _).put 2 _).put 3 _
  have hPG : w.grownBy ((((w3.setCell ⟨gR, 0, none⟩ (.int .i64 ct)).setCell ⟨gR, 1, none⟩ (.int .i64 pt)).setCell ⟨gR, 2, none⟩ (.int .i64 (NL : Int))).setCell ⟨gR, 3, none⟩ (.int .i64 pt)) none := jg (p := ⟨gR, 3, none⟩) (jg (p := ⟨gR, 2, none⟩) (jg (p := ⟨gR, 1, none⟩) (jg (p := ⟨gR, 0, none⟩) hG3 (.inr hRw) _) (.inr hRw) _) (.inr hRw) _) (.inr hRw) _
  go_wp2_with fail
  obtain ⟨e0, e1, e2, e3⟩ := j9 HP.out
  refine bodyPost_ret (v := .agg #[.int .i64 ct, .int .i64 pt, .int .i64 (NL : Int), .int .i64 pt]) (by simp [results, Tryz.results62, go_sem, e0, e1, e2, e3]) rfl ?_
  exact ⟨by rw [HT2.out], hPG⟩
def ja2 (L : List (List UInt8 × Int)) (ns : List Nm) : Nat → List (List UInt8 × Int)
 | 0 => L
 | k + 1 => jfc (ja2 L ns k) (nmB (ns.getD k (0, ⟨#[]⟩))) 1
theorem jlu (L : List (List UInt8 × Int)) (ns : List Nm) (k : Nat) (h : k < ns.length) : ja2 L ns (k + 1) = jfc (ja2 L ns k) (nmB ns[k]) 1 := by
 have : ns.getD k (0, ⟨#[]⟩) = ns[k] := by simp [h]
 rw [← this]; rfl
theorem jgg {L : List (List UInt8 × Int)} {B : Int} (hB : 0 ≤ B) (h : ∀ q ∈ L, 0 ≤ q.2 ∧ q.2 ≤ B) (ns : List Nm) : ∀ k : Nat, ∀ q ∈ ja2 L ns k, 0 ≤ q.2 ∧ q.2 ≤ B + k
 | 0, q, hq => by have := h q hq; omega
 | k + 1, q, hq => by
   have := js2 (d := 1) (by omega) (jgg hB h ns k) (by omega) (nmB (ns.getD k (0, ⟨#[]⟩))) q hq
   omega
structure AddPost (gS gQ bm n : Nat) (ct pt : Int) (L : List (List UInt8 × Int)) (w0 : World) (e : Ending) (w' : World) : Prop where
 e : e = .returned (.tuple #[])
 s : SumAt gS gQ bm n ct pt L w'
 g : w0.grownBy w' none
structure AddF (F : World → Prop) (gS gQ bm n : Nat) (ct pt : Int) (L : List (List UInt8 × Int)) (w0 : World) (e : Ending) (w' : World) : Prop where
 e : e = .returned (.tuple #[])
 s : SumAt gS gQ bm n ct pt L w'
 g : w0.grownBy w' none
 f : F w'
structure FrOk (F : World → Prop) (gQ bm : Nat) : Prop where
 q : ∀ W W', F W → W.grownBy W' none → F W'
 a : ∀ W W', F W → W.grownBy W' (some gQ) → F W'
 b : ∀ W W', F W → W.grownBy W' (some bm) → F W'
set_option maxRecDepth 100000 in
set_option maxHeartbeats 32000000 in
theorem jsm (F : World → Prop) (base base2 gS gT bB bW : Nat) (u v rv mv : Value) (c : Cst) (x : Con) (pb : Nat) (gQ bm n : Nat) (ct pt : Int) (L : List (List UInt8 × Int)) (w0 w : World) (hFr : FrOk F gQ bm) (hFw : F w) (h : ScAt base base2 gS gT bB bW u v rv mv c w0) (hk : ScOk c x) (hpp : P10 pb w0) (hn : NamOk c x) (hg : w0.grownBy w none) (hQ0 : w0.heap.size ≤ gQ) (hM0 : w0.heap.size ≤ bm) (hq : SumAt gS gQ bm n ct pt L w) (hc : 0 ≤ ct ∧ ct ≤ 100000) (hpt : 0 ≤ pt ∧ pt ≤ 100000000) (hnn : n ≤ 100000) (hL : ∀ q ∈ L, 0 ≤ q.2 ∧ q.2 ≤ 100000) (hP : 0 ≤ xe (j5 c.ents c.pfxs) c.own c.ruls x ∧ xe (j5 c.ents c.pfxs) c.own c.ruls x ≤ 1000) (hns : ∀ q ∈ j3 (j5 c.ents c.pfxs) c.muls x c.muls.length, jp8 q) :
 Calls Tryz.prog 61 #[.pointer (some ⟨gQ, 0, none⟩), .agg #[.int .i64 x.tm, .int .i64 x.mode, .string x.band, .string x.call, .int .i64 x.sent, .int .i64 x.heard, .string x.gave, .string x.got], .int .i64 1] w (AddF F gS gQ bm (n + (j3 (j5 c.ents c.pfxs) c.muls x c.muls.length).length) (ct + 1) (pt + xe (j5 c.ents c.pfxs) c.own c.ruls x) (ja2 L (j3 (j5 c.ents c.pfxs) c.muls x c.muls.length) (j3 (j5 c.ents c.pfxs) c.muls x c.muls.length).length) w0) := by
 have HPT : Hid (∀ W, w0.grownBy W none → Calls Tryz.prog 68 #[.pointer (some ⟨gS, 0, none⟩), .agg #[.int .i64 x.tm, .int .i64 x.mode, .string x.band, .string x.call, .int .i64 x.sent, .int .i64 x.heard, .string x.gave, .string x.got]] W fun e w' => e = .returned (.int .i64 (xe (j5 c.ents c.pfxs) c.own c.ruls x)) ∧ W.grownBy w' none) := fun W hW => jmm base base2 gS gT bB bW u v rv mv c x W (h.grown hW) hk
 have HNM : Hid (∀ W, w0.grownBy W none → Calls Tryz.prog 64 #[.pointer (some ⟨gS, 0, none⟩), .agg #[.int .i64 x.tm, .int .i64 x.mode, .string x.band, .string x.call, .int .i64 x.sent, .int .i64 x.heard, .string x.gave, .string x.got]] W fun e w' => ∃ o, e = .returned o ∧ NamsFrom W.heap.size w' o (j3 (j5 c.ents c.pfxs) c.muls x c.muls.length) ∧ W.grownBy w' none) := fun W hW => jou base base2 gS gT bB bW u v rv mv c x pb W (h.grown hW) hk (hpp.grown hW) hn
 have hnl : (j3 (j5 c.ents c.pfxs) c.muls x c.muls.length).length ≤ 10 := Nat.le_trans (xg _ _ _ _) hn.l
 generalize j3 (j5 c.ents c.pfxs) c.muls x c.muls.length = ns at *
 generalize xe (j5 c.ents c.pfxs) c.own c.ruls x = PT at *
 obtain ⟨P0, P1⟩ := hP
 obtain ⟨c0, c1⟩ := hc
 obtain ⟨t0, t1⟩ := hpt
 have wr1 : IntKind.i64.wrap PT = PT := IntWalk.i64_in _ ⟨by omega, by omega⟩
 have wr2 : IntKind.i64.wrap (pt + PT) = pt + PT := IntWalk.i64_in _ ⟨by omega, by omega⟩
 have HNS := Lib.hid hns
 have HL := Lib.hid hL
 have hQ := hq.blk
 have hM := hq.map
 have hne := hq.ne
 generalize x.tm = Tm at *
 generalize x.mode = Mo at *
 generalize x.band = BD at *
 generalize x.call = CL at *
 generalize x.sent = SE at *
 generalize x.heard = HE at *
 generalize x.gave = GA at *
 generalize x.got = GO at *
 have hX := Blk.new w 50 #[.int .i64 Tm, .int .i64 Mo, .string BD, .string CL, .int .i64 SE, .int .i64 HE, .string GA, .string GO]
 have hgX := World.grownBy_alloc w (.cells #[.int .i64 Tm, .int .i64 Mo, .string BD, .string CL, .int .i64 SE, .int .i64 HE, .string GA, .string GO] 50) none
 have hQ1 := hQ.grown hgX (by simp)
 have hM1 := hM.quiet hgX
 have hgA := ja hg hgX
 have fA := hFr.q _ _ hFw hgX
 have HFR := Lib.hid hFr
 clear hFr hFw
 have hXQ : gQ ≠ w.heap.size := by have := hQ.lt; omega
 have hXM : bm ≠ w.heap.size := by have := hM.lt; omega
 clear h hk hpp hn hq hQ hM hgX hns hL hg
 go_enter Tryz.func61, Tryz.ntmps61
 go_upto_region 1 with fail
 generalize w.alloc (.cells #[.int .i64 Tm, .int .i64 Mo, .string BD, .string CL, .int .i64 SE, .int .i64 HE, .string GA, .string GO] 50) = w1 at *
 generalize w.heap.size = gX at *
 obtain ⟨k0, k1, k2, k3⟩ := j9 hQ1
 have y1 := hQ1.free 1
 have hQ2 : Blk (w1.setCell ⟨gQ, 1, none⟩ (.int .i64 (ct + 1))) gQ 183 #[.pointer (some ⟨gS, 0, none⟩), .int .i64 (ct + 1), .int .i64 pt, .map (some bm)] := hQ1.put 1 _
 have hgq : w1.grownBy (w1.setCell ⟨gQ, 1, none⟩ (.int .i64 (ct + 1))) (some gQ) := jg (p := ⟨gQ, 1, none⟩) (jf _ _) (.inl rfl) _
 have hX2 := hX.grown hgq (by simpa using (Ne.symm hXQ))
 have hM2 := hM1.kept hgq (by simpa using (Ne.symm hne))
 have hg2 : w0.grownBy (w1.setCell ⟨gQ, 1, none⟩ (.int .i64 (ct + 1))) none := jk hgA hgq (fun g e => by injection e with e; exact .inr (by omega))
 have frB := HFR.out.a _ _ fA hgq
 clear fA
 go_upto_region 2 with fail
 generalize w1.setCell ⟨gQ, 1, none⟩ (.int .i64 (ct + 1)) = w2 at *
 clear k0 k1 k2 k3 y1 hQ1 hgq hX hM1 hgA
 obtain ⟨k0, k1, k2, k3⟩ := j9 hQ2
 obtain ⟨x0, x1, x2, x3, x4, x5, x6, x7⟩ := qh hX2
 have HKC : Hid (∀ V, w2.grownBy V none → V.cell? ⟨gQ, 2, none⟩ = some (.int .i64 pt) ∧ V.cell? ⟨gQ, 0, none⟩ = some (.pointer (some ⟨gS, 0, none⟩)) ∧ V.cell? ⟨gX, 0, none⟩ = some (.int .i64 Tm) ∧ V.cell? ⟨gX, 1, none⟩ = some (.int .i64 Mo) ∧ V.cell? ⟨gX, 2, none⟩ = some (.string BD) ∧ V.cell? ⟨gX, 3, none⟩ = some (.string CL) ∧ V.cell? ⟨gX, 4, none⟩ = some (.int .i64 SE) ∧ V.cell? ⟨gX, 5, none⟩ = some (.int .i64 HE) ∧ V.cell? ⟨gX, 6, none⟩ = some (.string GA) ∧ V.cell? ⟨gX, 7, none⟩ = some (.string GO)) := fun V hV => ⟨hV.cell k2 (by simp), hV.cell k0 (by simp), hV.cell x0 (by simp), hV.cell x1 (by simp), hV.cell x2 (by simp), hV.cell x3 (by simp), hV.cell x4 (by simp), hV.cell x5 (by simp), hV.cell x6 (by simp), hV.cell x7 (by simp)⟩
 have HQ2 := Lib.hid hQ2
 have HM2 := Lib.hid hM2
 have HX2 := Lib.hid hX2
 clear k0 k1 k2 k3 x0 x1 x2 x3 x4 x5 x6 x7 hQ2 hM2 hX2
 refine jx [15] (fun V => V.cell? ⟨gQ, 2, none⟩ = some (.int .i64 pt) ∧ V.cell? ⟨gQ, 0, none⟩ = some (.pointer (some ⟨gS, 0, none⟩)) ∧ V.cell? ⟨gX, 0, none⟩ = some (.int .i64 Tm) ∧ V.cell? ⟨gX, 1, none⟩ = some (.int .i64 Mo) ∧ V.cell? ⟨gX, 2, none⟩ = some (.string BD) ∧ V.cell? ⟨gX, 3, none⟩ = some (.string CL) ∧ V.cell? ⟨gX, 4, none⟩ = some (.int .i64 SE) ∧ V.cell? ⟨gX, 5, none⟩ = some (.int .i64 HE) ∧ V.cell? ⟨gX, 6, none⟩ = some (.string GA) ∧ V.cell? ⟨gX, 7, none⟩ = some (.string GO)) (by kernel_rfl) ?_
 have hG : w2.grownBy w2.drew none := jn (jf _ _)
 generalize w2.drew = W at *
 revert hG
 revert W
 refine' qf ?h10 ?k10
 case' k10 => intro H10
 case k10 =>
  intro W hG
  refine tkA 0 16 (fun _ => HKC.out _ hG) ?_
  simp only [Act.put, ssA, ssZ, ssS]
  refine tkA 1 17 (fun _ => HKC.out _ hG) ?_
  simp only [Act.put, ssA, ssZ, ssS]
  refine tkA 2 18 (fun _ => HKC.out _ hG) ?_
  simp only [Act.put, ssA, ssZ, ssS]
  refine tkL 3 19 (HKC.out _ hG) ?_
  simp only [Act.put, ssA, ssZ, ssS]
  refine tkA 4 20 (fun _ => HKC.out _ hG) ?_
  simp only [Act.put, ssA, ssZ, ssS]
  refine tkA 5 21 (fun _ => HKC.out _ hG) ?_
  simp only [Act.put, ssA, ssZ, ssS]
  refine tkA 6 22 (fun _ => HKC.out _ hG) ?_
  simp only [Act.put, ssA, ssZ, ssS]
  refine tkA 7 23 (fun _ => HKC.out _ hG) ?_
  simp only [Act.put, ssA, ssZ, ssS]
  refine tkL 8 24 (HKC.out _ hG) ?_
  simp only [Act.put, ssA, ssZ, ssS]
  refine tkL 9 25 (HKC.out _ hG) ?_
  simp only [Act.put, ssA, ssZ, ssS]
  refine je (rs := [10]) (by kernel_rfl) (by simp) ?_
  refine AllLate.cons (o := _) rfl (fun K hK => ?n1) AllLate.nil
  case n1 =>
   go_simp
   (go_at_call 68; refine (HPT.out _ (ja hg2 hG)).mono ?_; rintro _ W2 ⟨rfl, hgp⟩)
   replace hG := ja hG hgp
   clear hgp
   refine hK.out _ _ (fun _ => HKC.out _ hG) ?_
   clear hK K
   (try simp only [Act.put, ssA, ssZ, ssS])
   refine jh (listed' := #[true, true, true, true, true, true, true, true, true, true, true, false, false, false, false, false]) (by kernel_rfl) ?_
   revert hG
   revert W2
   exact H10.out
 case h10 =>
  intro W hG
  refine tkA 11 27 (fun _ => HKC.out _ hG) ?_
  simp only [Act.put, ssA, ssZ, ssS]
  refine tkA 12 28 (fun _ => HKC.out _ hG) ?_
  simp only [Act.put, ssA, ssZ, ssS]
  refine tkA 13 29 (fun _ => HKC.out _ hG) ?_
  simp only [Act.put, ssA, ssZ, ssS]
  refine tkA 14 30 (fun _ => HKC.out _ hG) ?_
  simp only [Act.put, ssA, ssZ, ssS]
  have z2 := (HKC.out _ hG).1
  have f2 := (HQ2.out.grown hG (by simp)).free 2
  have hQ3 : Blk (W.setCell ⟨gQ, 2, none⟩ (.int .i64 (pt + PT))) gQ 183 #[.pointer (some ⟨gS, 0, none⟩), .int .i64 (ct + 1), .int .i64 (pt + PT), .map (some bm)] := (HQ2.out.grown hG (by simp)).put 2 _
  have hgq3 : W.grownBy (W.setCell ⟨gQ, 2, none⟩ (.int .i64 (pt + PT))) (some gQ) := jg (p := ⟨gQ, 2, none⟩) (jf _ _) (.inl rfl) _
  refine je (rs := [15]) (by kernel_rfl) (by simp) ?_
  refine AllLate.cons (o := _) rfl (fun K hK => ?_) AllLate.nil
  go_simp
  refine hK.out _ _ (fun h => Bool.noConfusion (show false = true from h)) ?_
  clear hK K
  (try simp only [Act.put, ssA, ssZ, ssS])
  refine qe (by kernel_rfl) ?_ _
  generalize W.setCell ⟨gQ, 2, none⟩ (.int .i64 (pt + PT)) = w3 at *
  have hX3 := (HX2.out.grown hG (by simp)).grown hgq3 (by simpa using (Ne.symm hXQ))
  have hM3 := (HM2.out.quiet hG).kept hgq3 (by simpa using (Ne.symm hne))
  have hg3 : w0.grownBy w3 none := jk (ja hg2 hG) hgq3 (fun g e => by injection e with e; exact .inr (by omega))
  have frC := HFR.out.a _ _ (HFR.out.q _ _ frB hG) hgq3
  clear frB
  clear HKC HQ2 HM2 HX2 hG hgq3 z2 f2 HPT hg2
  go_upto_region 3 with fail
  obtain ⟨k0, k1, k2, k3⟩ := j9 hQ3
  obtain ⟨x0, x1, x2, x3, x4, x5, x6, x7⟩ := qh hX3
  have HKC : Hid (∀ V, w3.grownBy V none → V.cell? ⟨gQ, 0, none⟩ = some (.pointer (some ⟨gS, 0, none⟩)) ∧ V.cell? ⟨gX, 0, none⟩ = some (.int .i64 Tm) ∧ V.cell? ⟨gX, 1, none⟩ = some (.int .i64 Mo) ∧ V.cell? ⟨gX, 2, none⟩ = some (.string BD) ∧ V.cell? ⟨gX, 3, none⟩ = some (.string CL) ∧ V.cell? ⟨gX, 4, none⟩ = some (.int .i64 SE) ∧ V.cell? ⟨gX, 5, none⟩ = some (.int .i64 HE) ∧ V.cell? ⟨gX, 6, none⟩ = some (.string GA) ∧ V.cell? ⟨gX, 7, none⟩ = some (.string GO)) := fun V hV => ⟨hV.cell k0 (by simp), hV.cell x0 (by simp), hV.cell x1 (by simp), hV.cell x2 (by simp), hV.cell x3 (by simp), hV.cell x4 (by simp), hV.cell x5 (by simp), hV.cell x6 (by simp), hV.cell x7 (by simp)⟩
  have hQ3l := hQ3.lt
  have hM3l := hM3.lt
  have HQ3 := Lib.hid hQ3
  have HM3 := Lib.hid hM3
  clear k0 k1 k2 k3 x0 x1 x2 x3 x4 x5 x6 x7 hQ3 hM3 hX3
  refine jx [] (fun V => V.cell? ⟨gQ, 0, none⟩ = some (.pointer (some ⟨gS, 0, none⟩)) ∧ V.cell? ⟨gX, 0, none⟩ = some (.int .i64 Tm) ∧ V.cell? ⟨gX, 1, none⟩ = some (.int .i64 Mo) ∧ V.cell? ⟨gX, 2, none⟩ = some (.string BD) ∧ V.cell? ⟨gX, 3, none⟩ = some (.string CL) ∧ V.cell? ⟨gX, 4, none⟩ = some (.int .i64 SE) ∧ V.cell? ⟨gX, 5, none⟩ = some (.int .i64 HE) ∧ V.cell? ⟨gX, 6, none⟩ = some (.string GA) ∧ V.cell? ⟨gX, 7, none⟩ = some (.string GO)) (by kernel_rfl) ?_
  have hG : w3.grownBy w3.drew none := jn (jf _ _)
  generalize w3.drew = W at *
  have hGs := hG.size
  revert hGs
  revert hG
  revert W
  refine' qf ?h5_6 ?k5_6
  case' k5_6 =>
   intro H5_6
   refine' qf ?h5 ?k5
  case' k5 => intro H5
  case k5 =>
   intro W hG hGs
   refine tkA 0 31 (fun _ => HKC.out _ hG) ?_
   simp only [Act.put, ssA, ssZ, ssS]
   refine tkA 1 32 (fun _ => HKC.out _ hG) ?_
   simp only [Act.put, ssA, ssZ, ssS]
   refine tkA 2 33 (fun _ => HKC.out _ hG) ?_
   simp only [Act.put, ssA, ssZ, ssS]
   refine tkL 3 34 (HKC.out _ hG) ?_
   simp only [Act.put, ssA, ssZ, ssS]
   refine tkL 4 35 (HKC.out _ hG) ?_
   simp only [Act.put, ssA, ssZ, ssS]
   refine tkA 7 38 (fun _ => HKC.out _ hG) ?_
   simp only [Act.put, ssA, ssZ, ssS]
   refine je (rs := [5]) (by kernel_rfl) (by simp) ?_
   refine AllLate.cons (o := _) rfl (fun K hK => ?n1) AllLate.nil
   case n1 =>
    go_simp
    (go_at_call 64; refine (HNM.out _ (ja hg3 hG)).mono ?_; rintro _ W2 ⟨ov, rfl, hO, hgp⟩)
    obtain ⟨NA, nc, rfl, -, -⟩ := hO.shape
    replace hG := ja hG hgp
    have hOb : w3.heap.size ≤ W.heap.size := (show w3.heap.size ≤ W.heap.size from by have := hGs; omega)
    replace hO := jq hO hOb
    clear hOb hGs
    have hGs := hG.size
    clear hgp
    refine hK.out _ _ (fun _ => HKC.out _ hG) ?_
    clear hK K
    (try simp only [Act.put, ssA, ssZ, ssS])
    refine jh (listed' := #[true, true, true, true, true, true, false, true]) (by kernel_rfl) ?_
    revert hO
    revert hGs
    revert hG
    revert nc
    revert NA
    revert W2
    exact H5.out
  case h5 =>
   intro W NA nc hG hGs hO
   refine je (rs := [6]) (by kernel_rfl) (by simp) ?_
   refine AllLate.cons (o := _) rfl (fun K hK => ?n2) AllLate.nil
   case n2 =>
    go_simp
    refine hK.out _ _ (fun _ => HKC.out _ hG) ?_
    clear hK K
    (try simp only [Act.put, ssA, ssZ, ssS])
    refine jh (listed' := #[true, true, true, true, true, true, true, true]) (by kernel_rfl) ?_
    revert hO
    revert hGs
    revert hG
    revert nc
    revert NA
    revert W
    exact H5_6.out
  case h5_6 =>
   intro W NA nc hG hGs hO
   refine qe (by kernel_rfl) ?_ _
   have hQ4 := HQ3.out.grown hG (by simp)
   have hM4 := HM3.out.quiet hG
   have hg4 := ja hg3 hG
   have frD := HFR.out.q _ _ frC hG
   clear frC
   obtain ⟨NL, hNL⟩ : ∃ z, ns.length = z := ⟨_, rfl⟩
   have HNL := Lib.hid hNL
   rw [hNL] at hO hnl
   (try rw [hNL])
   clear hNL HKC HQ3 HM3 HNM hG
   have HO : Hid (NamsFrom w3.heap.size W (.slice NA NL nc) ns) := by
    show World.ownsRow _ _ _ _ _ ns.length _
    rw [HNL.out]
    exact hO
   clear hO
   obtain ⟨H3, hH3⟩ : ∃ z, w3.heap.size = z := ⟨_, rfl⟩
   rw [hH3] at HO hGs
   have hQl : gQ < H3 := by rw [← hH3]; exact hQ3l
   have hMl : bm < H3 := by rw [← hH3]; exact hM3l
   have h03 : w0.heap.size ≤ H3 := by rw [← hH3]; exact hg3.size
   clear hH3
   go_wp2_with fail
   go_loopw [38] (fun iv wr => ∃ k : Nat, k ≤ NL ∧ iv = .int .i64 k ∧ SumAt gS gQ bm (n + k) (ct + 1) (pt + PT) (ja2 L ns k) wr ∧ Hid (NamsFrom H3 wr (.slice NA NL nc) ns) ∧ H3 ≤ wr.heap.size ∧ w0.grownBy wr none ∧ F wr) (fun iv _ => NL - (intOf iv).toNat)
   case atStart => exact ⟨0, by omega, rfl, ⟨hQ4, hM4, hne⟩, HO, hGs, hg4, frD⟩
   case round =>
    clear hQ4 hM4 HO hGs hg4 frD
    obtain ⟨k, hk, rfl, hS, HO, hGs, hg4, frE⟩ := hrel
    by_cases hlt : k < NL
    ·have hki : (k : Int) < (NL : Int) := by omega
     obtain ⟨A9, c9, h0, -, hA9⟩ := HO.out.shape
     injection h0 with h1 h2 h3
     subst h1
     subst h3
     obtain ⟨g, rfl, -, -⟩ := hA9 (by omega)
     clear h2 hA9
     have hkn : k < ns.length := by rw [HNL.out]; exact hlt
     have hrow : NamsFrom H3 wr (.slice (some ⟨g, 0, none⟩) ns.length nc) ns := by rw [HNL.out]; exact HO.out
     obtain ⟨q0, q1⟩ := hrow.at_ k hkn
     have hok := HNS.out ns[k] (List.getElem_mem hkn)
     have hst := jlu L ns k hkn
     have hvb := juw (l := ja2 L ns k) (B := 100000 + k) (by omega) (jgg (by omega) HL.out ns k) (nmB ns[k])
     clear hrow
     obtain ⟨QQ, hQQ⟩ : ∃ z, ns[k] = z := ⟨_, rfl⟩
     rw [hQQ] at q0 q1 hok hst hvb
     clear hQQ
     obtain ⟨kk, T⟩ := QQ
     (try dsimp only at q0 q1)
     generalize ja2 L ns k = LK at *
     have HQK := Lib.hid hok
     have HST := Lib.hid hst
     clear hok hst
     obtain ⟨v0b, v1b⟩ := hvb
     have wr3 : IntKind.i64.wrap (jbj LK (nmB (kk, T)) + 1) = jbj LK (nmB (kk, T)) + 1 := IntWalk.i64_in _ ⟨by omega, by omega⟩
     have hwf : (Lit.int .i64 (jbj LK (nmB (kk, T)) + 1)).wf = true := jvo (by omega) (by omega)
     have hN := Blk.new wr 119 #[.int .i64 (kk : Int), .string T]
     have hgN := World.grownBy_alloc wr (.cells #[.int .i64 (kk : Int), .string T] 119) none
     have hS5 := hS.quiet hgN
     have hNM : bm ≠ wr.heap.size := by omega
     have hNQ : gQ ≠ wr.heap.size := by omega
     have hg5 := ja hg4 hgN
     have frG := HFR.out.q _ _ frE hgN
     clear frE
     have HO5 := Lib.hid (HO.out.grown hgN)
     have hsz5 := hgN.size
     clear hS HO hgN hg4
     go_upto_region 6 with fail
     generalize wr.alloc (.cells #[.int .i64 (kk : Int), .string T] 119) = w5 at *
     generalize wr.heap.size = gN at *
     have k3 := (j9 hS5.blk).2.2.2
     have n0 := hN.cell 0
     have n1 := hN.cell 1
     simp only [geA, geZ, geS] at n0 n1
     have hm5 := hS5.map
     have HB5 := Lib.hid hS5.blk
     have HN5 := Lib.hid hN
     clear q0 q1 hS5 hN
     refine jx [10] (fun V => V.cell? ⟨gQ, 3, none⟩ = some (.map (some bm)) ∧ V.cell? ⟨gN, 0, none⟩ = some (.int .i64 (kk : Int)) ∧ V.cell? ⟨gN, 1, none⟩ = some (.string T)) (by kernel_rfl) ?_
     have hG : w5.grownBy w5.drew (some bm) := jn (jf _ _)
     have hM : MapNm w5.drew bm (n + k) LK := hm5
     replace k3 : w5.drew.cell? ⟨gQ, 3, none⟩ = some (.map (some bm)) := k3
     replace n0 : w5.drew.cell? ⟨gN, 0, none⟩ = some (.int .i64 (kk : Int)) := n0
     replace n1 : w5.drew.cell? ⟨gN, 1, none⟩ = some (.string T) := n1
     generalize w5.drew = W at *
     revert hM
     revert hG
     revert n1
     revert n0
     revert k3
     revert W
     refine' qf ?hy5_8 ?ky5_8
     case' ky5_8 =>
      intro Hy5_8
      refine' qf ?hy5 ?ky5
     case' ky5 =>
      intro Hy5
      refine' qf ?hy8 ?ky8
     case' ky8 => intro Hy8
     case ky8 =>
      intro W k3 n0 n1 hG hM
      refine tkA 0 42 (fun _ => ⟨k3, n0, n1⟩) ?_
      simp only [Act.put, ssA, ssZ, ssS]
      refine tkA 1 43 (fun _ => ⟨k3, n0, n1⟩) ?_
      simp only [Act.put, ssA, ssZ, ssS]
      refine tkA 2 44 (fun _ => ⟨k3, n0, n1⟩) ?_
      simp only [Act.put, ssA, ssZ, ssS]
      refine tkL 3 45 (⟨k3, n0, n1⟩) ?_
      simp only [Act.put, ssA, ssZ, ssS]
      refine tkL 4 46 (⟨k3, n0, n1⟩) ?_
      simp only [Act.put, ssA, ssZ, ssS]
      refine tkA 6 48 (fun _ => ⟨k3, n0, n1⟩) ?_
      simp only [Act.put, ssA, ssZ, ssS]
      refine je (rs := [5, 8]) (by kernel_rfl) (by simp) ?_
      refine AllLate.cons (o := _) rfl (fun K hK => ?n2) (AllLate.cons (o := _) rfl (fun K hK => ?n1) AllLate.nil)
      case n2 =>
       have hlk := hM.look (kk, T) HQK.out
       unfold nmV at hlk
       dsimp only at hlk
       go_simp
       clear hlk
       refine hK.out _ _ (fun _ => ⟨k3, n0, n1⟩) ?_
       clear hK K
       (try simp only [Act.put, ssA, ssZ, ssS])
       refine jh (listed' := #[true, true, true, true, true, true, true, false, false, false, false]) (by kernel_rfl) ?_
       revert hM
       revert hG
       revert n1
       revert n0
       revert k3
       revert W
       exact Hy5.out
      case n1 =>
       obtain ⟨v0, st, W2, hE, hgE, hlk1, hST⟩ := hM.entry (by omega) (kk, T) HQK.out
       unfold nmV at hE hlk1
       dsimp only at hE hlk1
       have hSW : ∀ d : Int, (Lit.int .i64 (jbj LK (nmB (kk, T)) + d)).wf = true → ∃ w9, (Instr.entryStore 181 (.map (some bm)) (goInt st) (.int .i64 (jbj LK (nmB (kk, T)) + d))).run Tryz.prog W2 = .ok () w9 ∧ MapNm w9 bm (n + k + 1) (jfc LK (nmB (kk, T)) d) ∧ w5.grownBy w9 (some bm) := fun d hd => by obtain ⟨w9, a, b, c⟩ := hST d hd; exact ⟨w9, a, b, ja hG c⟩
       go_simp
       replace k3 := hgE.cell k3 (by simpa using hne)
       replace n0 := hgE.cell n0 (by simpa using Ne.symm hNM)
       replace n1 := hgE.cell n1 (by simpa using Ne.symm hNM)
       replace hG := ja hG hgE
       clear hE hgE hM hST
       refine hK.out _ _ (fun _ => ⟨k3, n0, n1⟩) ?_
       clear hK K
       (try simp only [Act.put, ssA, ssZ, ssS])
       refine jh (listed' := #[true, true, true, true, true, false, true, false, true, false, false]) (by kernel_rfl) ?_
       revert hSW
       revert hlk1
       revert hG
       revert n1
       revert n0
       revert k3
       revert st
       revert v0
       revert W2
       exact Hy8.out
     case hy8 =>
      intro W v0 st k3 n0 n1 hG hlk1 hSW
      refine tkA 9 51 (fun _ => ⟨k3, n0, n1⟩) ?_
      simp only [Act.put, ssA, ssZ, ssS]
      refine je (rs := [5]) (by kernel_rfl) (by simp) ?_
      refine AllLate.cons (o := _) rfl (fun K hK => ?n3) AllLate.nil
      case n3 =>
       have hlk := hlk1
       go_simp
       clear hlk
       refine hK.out _ _ (fun _ => ⟨k3, n0, n1⟩) ?_
       clear hK K
       (try simp only [Act.put, ssA, ssZ, ssS])
       refine tkA 7 49 (fun _ => ⟨k3, n0, n1⟩) ?_
       simp only [Act.put, ssA, ssZ, ssS]
       refine jh (listed' := #[true, true, true, true, true, true, true, true, true, true, false]) (by kernel_rfl) ?_
       revert hSW
       revert hlk1
       revert hG
       revert n1
       revert n0
       revert k3
       revert st
       revert v0
       revert W
       exact Hy5_8.out
     case hy5 =>
      intro W k3 n0 n1 hG hM
      refine tkA 7 49 (fun _ => ⟨k3, n0, n1⟩) ?_
      simp only [Act.put, ssA, ssZ, ssS]
      refine je (rs := [8]) (by kernel_rfl) (by simp) ?_
      refine AllLate.cons (o := _) rfl (fun K hK => ?n4) AllLate.nil
      case n4 =>
       obtain ⟨v0, st, W2, hE, hgE, hlk1, hST⟩ := hM.entry (by omega) (kk, T) HQK.out
       unfold nmV at hE hlk1
       dsimp only at hE hlk1
       have hSW : ∀ d : Int, (Lit.int .i64 (jbj LK (nmB (kk, T)) + d)).wf = true → ∃ w9, (Instr.entryStore 181 (.map (some bm)) (goInt st) (.int .i64 (jbj LK (nmB (kk, T)) + d))).run Tryz.prog W2 = .ok () w9 ∧ MapNm w9 bm (n + k + 1) (jfc LK (nmB (kk, T)) d) ∧ w5.grownBy w9 (some bm) := fun d hd => by obtain ⟨w9, a, b, c⟩ := hST d hd; exact ⟨w9, a, b, ja hG c⟩
       go_simp
       replace k3 := hgE.cell k3 (by simpa using hne)
       replace n0 := hgE.cell n0 (by simpa using Ne.symm hNM)
       replace n1 := hgE.cell n1 (by simpa using Ne.symm hNM)
       replace hG := ja hG hgE
       clear hE hgE hM hST
       refine hK.out _ _ (fun _ => ⟨k3, n0, n1⟩) ?_
       clear hK K
       (try simp only [Act.put, ssA, ssZ, ssS])
       refine tkA 9 51 (fun _ => ⟨k3, n0, n1⟩) ?_
       simp only [Act.put, ssA, ssZ, ssS]
       refine jh (listed' := #[true, true, true, true, true, true, true, true, true, true, false]) (by kernel_rfl) ?_
       revert hSW
       revert hlk1
       revert hG
       revert n1
       revert n0
       revert k3
       revert st
       revert v0
       revert W2
       exact Hy5_8.out
     case hy5_8 =>
      intro W v0 st k3 n0 n1 hG hlk1 hSW
      obtain ⟨w9, hrun, hm9, hg9⟩ := hSW 1 hwf
      replace hrun : (Instr.entryStore 181 (.map (some bm)) (.int .i64 (st : Int)) (.int .i64 (jbj LK (nmB (kk, T)) + 1))).run Tryz.prog W = .ok () w9 := hrun
      refine je (rs := [10]) (by kernel_rfl) (by simp) ?_
      refine AllLate.cons (o := _) rfl (fun K hK => ?_) AllLate.nil
      go_simp
      refine hK.out _ _ (fun h => Bool.noConfusion (show false = true from h)) ?_
      clear hK K
      (try simp only [Act.put, ssA, ssZ, ssS])
      refine qe (by kernel_rfl) ?_ _
      have hB9 := HB5.out.grown hg9 (by simpa using hne)
      have hN9 := HN5.out.grown hg9 (by simpa using Ne.symm hNM)
      have HO9 : Hid (NamsFrom H3 w9 (.slice (some ⟨g, 0, none⟩) NL nc) ns) := jy HO5.out hg9 hMl
      have hg09 : w0.grownBy w9 none := jk hg5 hg9 (fun g e => by injection e with e; exact .inr (by omega))
      have frI := HFR.out.b _ _ frG hg9
      clear frG
      have hsz9 : H3 ≤ w9.heap.size := by have := hg9.size; omega
      clear k3 n0 n1 hG hlk1 hSW hrun hg9 HB5 HN5 HO5 hg5
      have hz0 : ¬ (jbj LK (nmB (kk, T)) + 1 = 0) := by omega
      have hz1 : (jbj LK (nmB (kk, T)) + 1 == 0) = false := by rw [beq_eq_false_iff_ne]; exact hz0
      have hz2 : decide (jbj LK (nmB (kk, T)) + 1 = 0) = false := by rw [decide_eq_false_iff_not]; exact hz0
      have kq3 := (j9 hB9).2.2.2
      have nn0 := hN9.cell 0
      have nn1 := hN9.cell 1
      simp only [geA, geZ, geS] at nn0 nn1
      have HKC7 : Hid (∀ V, w9.grownBy V none → V.cell? ⟨gQ, 3, none⟩ = some (.map (some bm)) ∧ V.cell? ⟨gN, 0, none⟩ = some (.int .i64 (kk : Int)) ∧ V.cell? ⟨gN, 1, none⟩ = some (.string T)) := fun V hV => ⟨hV.cell kq3 (by simp), hV.cell nn0 (by simp), hV.cell nn1 (by simp)⟩
      have HB9 := Lib.hid hB9
      have HM9 := Lib.hid hm9
      clear kq3 nn0 nn1 hB9 hN9 hm9
      go_upto_region 7 with fail
      refine jx [] (fun V => V.cell? ⟨gQ, 3, none⟩ = some (.map (some bm)) ∧ V.cell? ⟨gN, 0, none⟩ = some (.int .i64 (kk : Int)) ∧ V.cell? ⟨gN, 1, none⟩ = some (.string T)) (by kernel_rfl) ?_
      have hG : w9.grownBy w9.drew none := jn (jf _ _)
      generalize w9.drew = W at *
      revert hG
      revert W
      refine' qf ?hx5 ?kx5
      case' kx5 => intro Hx5
      case kx5 =>
       intro W hG
       refine tkA 0 52 (fun _ => HKC7.out _ hG) ?_
       simp only [Act.put, ssA, ssZ, ssS]
       refine tkA 1 53 (fun _ => HKC7.out _ hG) ?_
       simp only [Act.put, ssA, ssZ, ssS]
       refine tkA 2 54 (fun _ => HKC7.out _ hG) ?_
       simp only [Act.put, ssA, ssZ, ssS]
       refine tkL 3 55 (HKC7.out _ hG) ?_
       simp only [Act.put, ssA, ssZ, ssS]
       refine tkL 4 56 (HKC7.out _ hG) ?_
       simp only [Act.put, ssA, ssZ, ssS]
       refine je (rs := [5]) (by kernel_rfl) (by simp) ?_
       refine AllLate.cons (o := _) rfl (fun K hK => ?n1) AllLate.nil
       case n1 =>
        have hlk := (HM9.out.quiet hG).look (kk, T) HQK.out
        rw [jho, if_pos rfl] at hlk
        unfold nmV at hlk
        dsimp only at hlk
        go_simp
        clear hlk
        refine hK.out _ _ (fun _ => HKC7.out _ hG) ?_
        clear hK K
        (try simp only [Act.put, ssA, ssZ, ssS])
        refine jh (listed' := #[true, true, true, true, true, true, false]) (by kernel_rfl) ?_
        revert hG
        revert W
        exact Hx5.out
      case hx5 =>
       intro W hG
       refine tkA 6 58 (fun _ => HKC7.out _ hG) ?_
       simp only [Act.put, ssA, ssZ, ssS]
       refine qe (by kernel_rfl) ?_ _
       have hBe := HB9.out.grown hG (by simp)
       have hMe : MapNm W bm (n + (k + 1)) (ja2 L ns (k + 1)) := by rw [HST.out]; exact HM9.out.quiet hG
       have hOe := Lib.hid (HO9.out.grown hG)
       have hge := ja hg09 hG
       have frK := HFR.out.q _ _ frI hG
       clear frI
       have hse : H3 ≤ W.heap.size := by have := hG.size; omega
       clear HB9 HM9 HKC7 HO9 hg09 hG
       go_wp2_with fail
       go_roundw
       case rel => exact ⟨k + 1, by omega, by go_num, ⟨hBe, hMe, hne⟩, hOe, hse, hge, frK⟩
       case measure => simp [intOf]; omega
    have hki : ¬ (k : Int) < (NL : Int) := by omega
    obtain rfl : k = NL := by omega
    go_wp2_with fail
    go_end0
    exact ⟨rfl, by rw [HNL.out]; exact hS, hg4, frE⟩
theorem js3 (base base2 gS gT bB bW : Nat) (u v rv mv : Value) (c : Cst) (x : Con) (pb : Nat) (gQ bm n : Nat) (ct pt : Int) (L : List (List UInt8 × Int)) (w0 w : World) (h : ScAt base base2 gS gT bB bW u v rv mv c w0) (hk : ScOk c x) (hpp : P10 pb w0) (hn : NamOk c x) (hg : w0.grownBy w none) (hQ0 : w0.heap.size ≤ gQ) (hM0 : w0.heap.size ≤ bm) (hq : SumAt gS gQ bm n ct pt L w) (hc : 0 ≤ ct ∧ ct ≤ 100000) (hpt : 0 ≤ pt ∧ pt ≤ 100000000) (hnn : n ≤ 100000) (hL : ∀ q ∈ L, 0 ≤ q.2 ∧ q.2 ≤ 100000) (hP : 0 ≤ xe (j5 c.ents c.pfxs) c.own c.ruls x ∧ xe (j5 c.ents c.pfxs) c.own c.ruls x ≤ 1000) (hns : ∀ q ∈ j3 (j5 c.ents c.pfxs) c.muls x c.muls.length, jp8 q) :
 Calls Tryz.prog 61 #[.pointer (some ⟨gQ, 0, none⟩), .agg #[.int .i64 x.tm, .int .i64 x.mode, .string x.band, .string x.call, .int .i64 x.sent, .int .i64 x.heard, .string x.gave, .string x.got], .int .i64 1] w (AddPost gS gQ bm (n + (j3 (j5 c.ents c.pfxs) c.muls x c.muls.length).length) (ct + 1) (pt + xe (j5 c.ents c.pfxs) c.own c.ruls x) (ja2 L (j3 (j5 c.ents c.pfxs) c.muls x c.muls.length) (j3 (j5 c.ents c.pfxs) c.muls x c.muls.length).length) w0) :=
 (jsm (fun _ => True) base base2 gS gT bB bW u v rv mv c x pb gQ bm n ct pt L w0 w ⟨fun _ _ _ _ => trivial, fun _ _ _ _ => trivial, fun _ _ _ _ => trivial⟩ trivial h hk hpp hn hg hQ0 hM0 hq hc hpt hnn hL hP hns).mono fun _ _ ⟨h1, h2, h3, _⟩ => ⟨h1, h2, h3⟩
end Go.Proofs.YtbamhgaghngjiaaGreatDoor
