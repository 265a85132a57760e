/- Parts of a proof: ScW, ScRule, ScName. Conditions: as each statement says. -/
import Derived.Test.YtbamhgaghngjiaaGreatDoorCoap
namespace Go.Proofs.YtbamhgaghngjiaaGreatDoor
open Go.RowKit
set_option linter.unusedVariables false
set_option linter.unusedSimpArgs false

structure ScAt (base base2 gS gT bB bW : Nat) (u v rv mv : Value) (c : Cst) (W : World) : Prop where
 blk : Blk W gS 185 #[u, v, .string c.own, .int .i64 c.beg, .int .i64 c.fin, rv, mv, .bool c.byMode, .pointer (some ⟨gT, 0, none⟩)]
 cst : CstFrom base W u v rv mv c
 tab : TabFull base base2 gT bB bW u v c.ents c.pfxs W
theorem ScAt.grown {base base2 gS gT bB bW : Nat} {u v rv mv : Value} {c : Cst} {W W' : World} (h : ScAt base base2 gS gT bB bW u v rv mv c W) (hg : W.grownBy W' none) : ScAt base base2 gS gT bB bW u v rv mv c W' := ⟨h.blk.grown hg (by simp), h.cst.grown hg, h.tab.grown hg⟩
structure ScOk (c : Cst) (x : Con) : Prop where
 tab : TabRight c.ents c.pfxs
 own : (jo c.own).isSome = true
 call : (jo x.call).isSome = true
 own1 : c.own.size ≤ 1000
 own2 : Ascii c.own
 con : zy x
def ju7 (o : Option Fnd) : Value := .tuple #[.agg #[.string (o.getD x8).1, .int .i64 (o.getD x8).2.1, .int .i64 (o.getD x8).2.2], .bool o.isSome]
theorem qt {a b : Bool} (h : a = b) : Ending.returned (.bool a) = .returned (.bool b) := by rw [h]
theorem jn6 {base base2 gS gT bB bW : Nat} {u v rv mv : Value} {c : Cst} {W : World} (h : ScAt base base2 gS gT bB bW u v rv mv c W) (ht : TabRight c.ents c.pfxs) (s : ByteArray) (t : Int) (hs : s.size ≤ 1000) (ha : Ascii s) (hp : (jo s).isSome = true) :
 Calls Tryz.prog 56 #[.pointer (some ⟨gT, 0, none⟩), .string s, .int .i64 t] W fun r w' => r = .returned (ju7 (j5 c.ents c.pfxs s t)) ∧ W.grownBy w' none := by
 obtain ⟨q, hq⟩ := Option.isSome_iff_exists.1 hp
 have h1 := jtr base base2 gT bB bW u v c.ents c.pfxs s t q W h.tab ht hs ha hq
 have e : j5 c.ents c.pfxs s t = jgv c.ents c.pfxs s t q := by unfold j5; rw [hq]; rfl
 rw [e]
 exact h1
def jo9 (S1 S2 : Bool) (A1 A2 : ByteArray) (B1 B2 Z1 Z2 rel : Int) : Bool :=
 if rel = 0 then true
 else if (S1 && S2) = false then rel == 5
 else if rel = 1 then A1.toList == A2.toList else if rel = 2 then Z1 == Z2 else if rel = 3 then B1 == B2 else if rel = 4 then B1 != B2 else false
theorem juf (a b : Option Fnd) (rel : Int) : jue a b rel = jo9 a.isSome b.isSome (a.getD x8).1 (b.getD x8).1 (a.getD x8).2.1 (b.getD x8).2.1 (a.getD x8).2.2 (b.getD x8).2.2 rel := by
 cases a <;> cases b <;> simp [jue, jo9]
set_option maxRecDepth 100000 in
set_option maxHeartbeats 16000000 in
theorem jrr (base base2 gS gT bB bW : Nat) (u v rv mv : Value) (c : Cst) (x : Con) (rel : Int) (w : World) (h : ScAt base base2 gS gT bB bW u v rv mv c w) (hk : ScOk c x) :
 Calls Tryz.prog 177 #[.pointer (some ⟨gS, 0, none⟩), .agg #[.int .i64 x.tm, .int .i64 x.mode, .string x.band, .string x.call, .int .i64 x.sent, .int .i64 x.heard, .string x.gave, .string x.got], .int .i64 rel] w fun r w' => r = .returned (.bool (jue (j5 c.ents c.pfxs c.own x.tm) (j5 c.ents c.pfxs x.call x.tm) rel)) ∧ w.grownBy w' none := by
 rw [juf]
 have HF1 : Hid (∀ W, w.grownBy W none → Calls Tryz.prog 56 #[.pointer (some ⟨gT, 0, none⟩), .string c.own, .int .i64 x.tm] W fun r w' => r = .returned (ju7 (j5 c.ents c.pfxs c.own x.tm)) ∧ W.grownBy w' none) := fun W hW => jn6 (h.grown hW) hk.tab _ _ hk.own1 hk.own2 hk.own
 have HF2 : Hid (∀ W, w.grownBy W none → Calls Tryz.prog 56 #[.pointer (some ⟨gT, 0, none⟩), .string x.call, .int .i64 x.tm] W fun r w' => r = .returned (ju7 (j5 c.ents c.pfxs x.call x.tm)) ∧ W.grownBy w' none) := fun W hW => jn6 (h.grown hW) hk.tab _ _ hk.con.2.1 hk.con.2.2.1 hk.call
 unfold ju7 at HF1 HF2
 have hb := h.blk
 have s2 := hb.cell 2
 have s8 := hb.cell 8
 simp only [geA, geZ, geS] at s2 s8
 generalize j5 c.ents c.pfxs c.own x.tm = o1 at *
 generalize j5 c.ents c.pfxs x.call x.tm = o2 at *
 obtain ⟨A1, hA1⟩ : ∃ z, (o1.getD x8).1 = z := ⟨_, rfl⟩
 obtain ⟨B1, hB1⟩ : ∃ z, (o1.getD x8).2.1 = z := ⟨_, rfl⟩
 obtain ⟨Z1, hZ1⟩ : ∃ z, (o1.getD x8).2.2 = z := ⟨_, rfl⟩
 obtain ⟨S1, hS1⟩ : ∃ z, o1.isSome = z := ⟨_, rfl⟩
 obtain ⟨A2, hA2⟩ : ∃ z, (o2.getD x8).1 = z := ⟨_, rfl⟩
 obtain ⟨B2, hB2⟩ : ∃ z, (o2.getD x8).2.1 = z := ⟨_, rfl⟩
 obtain ⟨Z2, hZ2⟩ : ∃ z, (o2.getD x8).2.2 = z := ⟨_, rfl⟩
 obtain ⟨S2, hS2⟩ : ∃ z, o2.isSome = z := ⟨_, rfl⟩
 rw [hA1, hB1, hZ1, hS1] at HF1 ⊢
 rw [hA2, hB2, hZ2, hS2] at HF2 ⊢
 clear hA1 hB1 hZ1 hS1 hA2 hB2 hZ2 hS2
 obtain ⟨R, hR⟩ : ∃ z, jo9 S1 S2 A1 A2 B1 B2 Z1 Z2 rel = z := ⟨_, rfl⟩
 rw [hR]
 have HRQ := Lib.hid hR
 clear hR
 generalize c.own = own at *
 generalize x.tm = Tm at *
 generalize x.mode = Mo at *
 generalize x.band = BD at *
 generalize x.call = CL at *
 generalize x.sent = SE at *
 generalize x.heard = HE at *
 generalize x.gave = GA at *
 generalize x.got = GO at *
 have hX := Blk.new w 50 #[.int .i64 Tm, .int .i64 Mo, .string BD, .string CL, .int .i64 SE, .int .i64 HE, .string GA, .string GO]
 have hgX := World.grownBy_alloc w (.cells #[.int .i64 Tm, .int .i64 Mo, .string BD, .string CL, .int .i64 SE, .int .i64 HE, .string GA, .string GO] 50) none
 have s2a := hgX.cell s2 (by simp)
 have s8a := hgX.cell s8 (by simp)
 clear h hk hb s2 s8 o1 o2
 go_enter Tryz.func177, Tryz.ntmps177
 go_upto_region 1 with fail
 generalize w.alloc (.cells #[.int .i64 Tm, .int .i64 Mo, .string BD, .string CL, .int .i64 SE, .int .i64 HE, .string GA, .string GO] 50) = w0 at *
 generalize w.heap.size = gX at *
 have x0 := hX.cell 0
 have x3 := hX.cell 3
 simp only [geA, geZ, geS] at x0 x3
 by_cases h0 : rel = 0
 ·have HR : Hid (R = true) := by show _ = _; rw [← HRQ.out]; unfold jo9; rw [if_pos h0]
  clear HRQ
  subst h0
  go_wp2_with fail
  go_ret
  exact ⟨qt HR.out.symm, hgX⟩
 have HRL : Hid (R = if (S1 && S2) = false then rel == 5 else if rel = 1 then A1.toList == A2.toList else if rel = 2 then Z1 == Z2 else if rel = 3 then B1 == B2 else if rel = 4 then B1 != B2 else false) := by show _ = _; rw [← HRQ.out]; unfold jo9; rw [if_neg h0]
 clear HRQ
 have HKC : Hid (∀ V, w0.grownBy V none → V.cell? ⟨gS, 8, none⟩ = some (.pointer (some ⟨gT, 0, none⟩)) ∧ V.cell? ⟨gS, 2, none⟩ = some (.string own) ∧ V.cell? ⟨gX, 0, none⟩ = some (.int .i64 Tm) ∧ V.cell? ⟨gX, 3, none⟩ = some (.string CL)) := fun V hV => ⟨hV.cell s8a (by simp), hV.cell s2a (by simp), hV.cell x0 (by simp), hV.cell x3 (by simp)⟩
 clear s2a s8a x0 x3 hX
 go_upto_region 3 with fail
 have HG0 : Hid (w0.grownBy w0 none) := jf _ _
 have HKC2 : Hid (∀ V, w0.grownBy V none → V.cell? ⟨gS, 8, none⟩ = some (.pointer (some ⟨gT, 0, none⟩)) ∧ V.cell? ⟨gS, 2, none⟩ = some (.string own) ∧ V.cell? ⟨gX, 0, none⟩ = some (.int .i64 Tm)) := fun V hV => ⟨(HKC.out V hV).1, (HKC.out V hV).2.1, (HKC.out V hV).2.2.1⟩
 refine jx [16] (fun V => V.cell? ⟨gS, 8, none⟩ = some (.pointer (some ⟨gT, 0, none⟩)) ∧ V.cell? ⟨gS, 2, none⟩ = some (.string own) ∧ V.cell? ⟨gX, 0, none⟩ = some (.int .i64 Tm)) (by kernel_rfl) ?_
 have hG : w0.grownBy w0.drew none := jn (jf _ _)
 generalize w0.drew = W at *
 revert hG
 revert W
 refine' qf ?h11_15 ?k11_15
 case' k11_15 =>
  intro H11_15
  refine' qf ?h11 ?k11
 case' k11 =>
  intro H11
  refine' qf ?h15 ?k15
 case' k15 => intro H15
 case k15 =>
  intro W hG
  refine tkA 0 14 (fun _ => HKC2.out _ hG) ?_
  simp only [Act.put, ssA, ssZ, ssS]
  refine tkA 1 15 (fun _ => HKC2.out _ hG) ?_
  simp only [Act.put, ssA, ssZ, ssS]
  refine tkA 2 16 (fun _ => HKC2.out _ hG) ?_
  simp only [Act.put, ssA, ssZ, ssS]
  refine tkL 3 17 (HKC2.out _ hG) ?_
  simp only [Act.put, ssA, ssZ, ssS]
  refine tkA 4 18 (fun _ => HKC2.out _ hG) ?_
  simp only [Act.put, ssA, ssZ, ssS]
  refine tkA 5 19 (fun _ => HKC2.out _ hG) ?_
  simp only [Act.put, ssA, ssZ, ssS]
  refine tkA 6 20 (fun _ => HKC2.out _ hG) ?_
  simp only [Act.put, ssA, ssZ, ssS]
  refine tkA 7 21 (fun _ => HKC2.out _ hG) ?_
  simp only [Act.put, ssA, ssZ, ssS]
  refine tkL 8 22 (HKC2.out _ hG) ?_
  simp only [Act.put, ssA, ssZ, ssS]
  refine tkA 9 23 (fun _ => HKC2.out _ hG) ?_
  simp only [Act.put, ssA, ssZ, ssS]
  refine tkL 10 24 (HKC2.out _ hG) ?_
  simp only [Act.put, ssA, ssZ, ssS]
  refine je (rs := [11, 15]) (by kernel_rfl) (by simp) ?_
  refine AllLate.cons (o := _) rfl (fun K hK => ?n2) (AllLate.cons (o := _) rfl (fun K hK => ?n1) AllLate.nil)
  case n2 =>
   go_simp
   (go_at_call 56; refine (HF1.out _ (ja hgX (ja HG0.out hG))).mono ?_; rintro _ W2 ⟨rfl, hg2⟩)
   replace hG := ja hG hg2
   clear hg2
   refine hK.out _ _ (fun _ => HKC2.out _ hG) ?_
   clear hK K
   (try simp only [Act.put, ssA, ssZ, ssS])
   refine jh (listed' := #[true, true, true, true, true, true, true, true, true, true, true, true, false, false, false, false, false, false]) (by kernel_rfl) ?_
   revert hG
   revert W2
   exact H11.out
  case n1 =>
   go_simp
   have hF := Blk.new W 53 #[.string ⟨#[]⟩, .int .i64 0, .int .i64 0]
   have hFl := hG.size
   replace hG := jd hG (.cells #[.string ⟨#[]⟩, .int .i64 0, .int .i64 0] 53)
   generalize W.alloc (.cells #[.string ⟨#[]⟩, .int .i64 0, .int .i64 0] 53) = W2 at *
   generalize W.heap.size = gF at *
   refine hK.out _ _ (fun _ => HKC2.out _ hG) ?_
   clear hK K
   (try simp only [Act.put, ssA, ssZ, ssS])
   refine jh (listed' := #[true, true, true, true, true, true, true, true, true, true, true, false, false, false, false, true, false, false]) (by kernel_rfl) ?_
   revert hF
   revert hFl
   revert hG
   revert gF
   revert W2
   exact H15.out
 case h15 =>
  intro W gF hG hFl hF
  refine je (rs := [11]) (by kernel_rfl) (by simp) ?_
  refine AllLate.cons (o := _) rfl (fun K hK => ?n3) AllLate.nil
  case n3 =>
   go_simp
   (go_at_call 56; refine (HF1.out _ (ja hgX (ja HG0.out hG))).mono ?_; rintro _ W2 ⟨rfl, hg2⟩)
   replace hG := ja hG hg2
   replace hF := Blk.grown hF hg2 (by simp)
   clear hg2
   refine hK.out _ _ (fun _ => HKC2.out _ hG) ?_
   clear hK K
   (try simp only [Act.put, ssA, ssZ, ssS])
   refine tkA 12 13 (fun _ => HKC2.out _ hG) ?_
   simp only [Act.put, ssA, ssZ, ssS]
   refine tkA 13 26 (fun _ => HKC2.out _ hG) ?_
   simp only [Act.put, ssA, ssZ, ssS]
   refine tkA 14 27 (fun _ => HKC2.out _ hG) ?_
   simp only [Act.put, ssA, ssZ, ssS]
   refine jh (listed' := #[true, true, true, true, true, true, true, true, true, true, true, true, true, true, true, true, false, false]) (by kernel_rfl) ?_
   revert hF
   revert hFl
   revert hG
   revert gF
   revert W2
   exact H11_15.out
 case h11 =>
  intro W hG
  refine tkA 12 13 (fun _ => HKC2.out _ hG) ?_
  simp only [Act.put, ssA, ssZ, ssS]
  refine tkA 13 26 (fun _ => HKC2.out _ hG) ?_
  simp only [Act.put, ssA, ssZ, ssS]
  refine tkA 14 27 (fun _ => HKC2.out _ hG) ?_
  simp only [Act.put, ssA, ssZ, ssS]
  refine je (rs := [15]) (by kernel_rfl) (by simp) ?_
  refine AllLate.cons (o := _) rfl (fun K hK => ?n4) AllLate.nil
  case n4 =>
   go_simp
   have hF := Blk.new W 53 #[.string ⟨#[]⟩, .int .i64 0, .int .i64 0]
   have hFl := hG.size
   replace hG := jd hG (.cells #[.string ⟨#[]⟩, .int .i64 0, .int .i64 0] 53)
   generalize W.alloc (.cells #[.string ⟨#[]⟩, .int .i64 0, .int .i64 0] 53) = W2 at *
   generalize W.heap.size = gF at *
   refine hK.out _ _ (fun _ => HKC2.out _ hG) ?_
   clear hK K
   (try simp only [Act.put, ssA, ssZ, ssS])
   refine jh (listed' := #[true, true, true, true, true, true, true, true, true, true, true, true, true, true, true, true, false, false]) (by kernel_rfl) ?_
   revert hF
   revert hFl
   revert hG
   revert gF
   revert W2
   exact H11_15.out
 case h11_15 =>
  intro W gF hG hFl hF
  have k0 := hF.cell 0
  have k1 := hF.cell 1
  have k2 := hF.cell 2
  simp only [geA, geZ, geS] at k0 k1 k2
  have f0 := hF.free 0
  have f1 := hF.free 1
  have f2 := hF.free 2
  have hF2 : Blk (((W.setCell ⟨gF, 0, none⟩ (.string A1)).setCell ⟨gF, 1, none⟩ (.int .i64 B1)).setCell ⟨gF, 2, none⟩ (.int .i64 Z1)) gF 53 #[.string A1, .int .i64 B1, .int .i64 Z1] := ((hF.put 0 _).put 1 _).put 2 _
  have hG2 : w0.grownBy (((W.setCell ⟨gF, 0, none⟩ (.string A1)).setCell ⟨gF, 1, none⟩ (.int .i64 B1)).setCell ⟨gF, 2, none⟩ (.int .i64 Z1)) none := jg (p := ⟨gF, 2, none⟩) (jg (p := ⟨gF, 1, none⟩) (jg (p := ⟨gF, 0, none⟩) hG (.inr hFl) _) (.inr hFl) _) (.inr hFl) _
  refine je (rs := [16]) (by kernel_rfl) (by simp) ?_
  refine AllLate.cons (o := _) rfl (fun K hK => ?_) AllLate.nil
  go_simp
  refine hK.out _ _ (fun h => Bool.noConfusion (show false = true from h)) ?_
  clear hK K
  (try simp only [Act.put, ssA, ssZ, ssS])
  refine tkA 17 8 (fun h => Bool.noConfusion (show false = true from h)) ?_
  simp only [Act.put, ssA, ssZ, ssS]
  refine qe (by kernel_rfl) ?_ _
  generalize ((W.setCell ⟨gF, 0, none⟩ (.string A1)).setCell ⟨gF, 1, none⟩ (.int .i64 B1)).setCell ⟨gF, 2, none⟩ (.int .i64 Z1) = w3 at *
  generalize gF = gF1 at *
  clear k0 k1 k2 f0 f1 f2 hF hG hFl
  clear HKC2 HG0
  have HB1 := Lib.hid hF2
  have HG0 := Lib.hid hG2
  clear hF2 hG2
  have HKC2 : Hid (∀ V, w3.grownBy V none → V.cell? ⟨gS, 8, none⟩ = some (.pointer (some ⟨gT, 0, none⟩)) ∧ V.cell? ⟨gX, 3, none⟩ = some (.string CL) ∧ V.cell? ⟨gX, 0, none⟩ = some (.int .i64 Tm)) := fun V hV => ⟨(HKC.out V (ja HG0.out hV)).1, (HKC.out V (ja HG0.out hV)).2.2.2, (HKC.out V (ja HG0.out hV)).2.2.1⟩
  go_upto_region 4 with fail
  refine jx [13] (fun V => V.cell? ⟨gS, 8, none⟩ = some (.pointer (some ⟨gT, 0, none⟩)) ∧ V.cell? ⟨gX, 3, none⟩ = some (.string CL) ∧ V.cell? ⟨gX, 0, none⟩ = some (.int .i64 Tm)) (by kernel_rfl) ?_
  have hG : w3.grownBy w3.drew none := jn (jf _ _)
  generalize w3.drew = W at *
  revert hG
  revert W
  refine' qf ?h8_12 ?k8_12
  case' k8_12 =>
   intro H8_12
   refine' qf ?h8 ?k8
  case' k8 =>
   intro H8
   refine' qf ?h12 ?k12
  case' k12 => intro H12
  case k12 =>
   intro W hG
   refine tkA 0 29 (fun _ => HKC2.out _ hG) ?_
   simp only [Act.put, ssA, ssZ, ssS]
   refine tkA 1 30 (fun _ => HKC2.out _ hG) ?_
   simp only [Act.put, ssA, ssZ, ssS]
   refine tkA 2 31 (fun _ => HKC2.out _ hG) ?_
   simp only [Act.put, ssA, ssZ, ssS]
   refine tkL 3 32 (HKC2.out _ hG) ?_
   simp only [Act.put, ssA, ssZ, ssS]
   refine tkA 4 33 (fun _ => HKC2.out _ hG) ?_
   simp only [Act.put, ssA, ssZ, ssS]
   refine tkL 5 34 (HKC2.out _ hG) ?_
   simp only [Act.put, ssA, ssZ, ssS]
   refine tkA 6 35 (fun _ => HKC2.out _ hG) ?_
   simp only [Act.put, ssA, ssZ, ssS]
   refine tkL 7 36 (HKC2.out _ hG) ?_
   simp only [Act.put, ssA, ssZ, ssS]
   refine je (rs := [8, 12]) (by kernel_rfl) (by simp) ?_
   refine AllLate.cons (o := _) rfl (fun K hK => ?n2) (AllLate.cons (o := _) rfl (fun K hK => ?n1) AllLate.nil)
   case n2 =>
    go_simp
    (go_at_call 56; refine (HF2.out _ (ja hgX (ja HG0.out hG))).mono ?_; rintro _ W2 ⟨rfl, hg2⟩)
    replace hG := ja hG hg2
    clear hg2
    refine hK.out _ _ (fun _ => HKC2.out _ hG) ?_
    clear hK K
    (try simp only [Act.put, ssA, ssZ, ssS])
    refine jh (listed' := #[true, true, true, true, true, true, true, true, true, false, false, false, false, false, false]) (by kernel_rfl) ?_
    revert hG
    revert W2
    exact H8.out
   case n1 =>
    go_simp
    have hF := Blk.new W 53 #[.string ⟨#[]⟩, .int .i64 0, .int .i64 0]
    have hFl := hG.size
    replace hG := jd hG (.cells #[.string ⟨#[]⟩, .int .i64 0, .int .i64 0] 53)
    generalize W.alloc (.cells #[.string ⟨#[]⟩, .int .i64 0, .int .i64 0] 53) = W2 at *
    generalize W.heap.size = gF at *
    refine hK.out _ _ (fun _ => HKC2.out _ hG) ?_
    clear hK K
    (try simp only [Act.put, ssA, ssZ, ssS])
    refine jh (listed' := #[true, true, true, true, true, true, true, true, false, false, false, false, true, false, false]) (by kernel_rfl) ?_
    revert hF
    revert hFl
    revert hG
    revert gF
    revert W2
    exact H12.out
  case h12 =>
   intro W gF hG hFl hF
   refine je (rs := [8]) (by kernel_rfl) (by simp) ?_
   refine AllLate.cons (o := _) rfl (fun K hK => ?n3) AllLate.nil
   case n3 =>
    go_simp
    (go_at_call 56; refine (HF2.out _ (ja hgX (ja HG0.out hG))).mono ?_; rintro _ W2 ⟨rfl, hg2⟩)
    replace hG := ja hG hg2
    replace hF := Blk.grown hF hg2 (by simp)
    clear hg2
    refine hK.out _ _ (fun _ => HKC2.out _ hG) ?_
    clear hK K
    (try simp only [Act.put, ssA, ssZ, ssS])
    refine tkA 9 28 (fun _ => HKC2.out _ hG) ?_
    simp only [Act.put, ssA, ssZ, ssS]
    refine tkA 10 38 (fun _ => HKC2.out _ hG) ?_
    simp only [Act.put, ssA, ssZ, ssS]
    refine tkA 11 39 (fun _ => HKC2.out _ hG) ?_
    simp only [Act.put, ssA, ssZ, ssS]
    refine jh (listed' := #[true, true, true, true, true, true, true, true, true, true, true, true, true, false, false]) (by kernel_rfl) ?_
    revert hF
    revert hFl
    revert hG
    revert gF
    revert W2
    exact H8_12.out
  case h8 =>
   intro W hG
   refine tkA 9 28 (fun _ => HKC2.out _ hG) ?_
   simp only [Act.put, ssA, ssZ, ssS]
   refine tkA 10 38 (fun _ => HKC2.out _ hG) ?_
   simp only [Act.put, ssA, ssZ, ssS]
   refine tkA 11 39 (fun _ => HKC2.out _ hG) ?_
   simp only [Act.put, ssA, ssZ, ssS]
   refine je (rs := [12]) (by kernel_rfl) (by simp) ?_
   refine AllLate.cons (o := _) rfl (fun K hK => ?n4) AllLate.nil
   case n4 =>
    go_simp
    have hF := Blk.new W 53 #[.string ⟨#[]⟩, .int .i64 0, .int .i64 0]
    have hFl := hG.size
    replace hG := jd hG (.cells #[.string ⟨#[]⟩, .int .i64 0, .int .i64 0] 53)
    generalize W.alloc (.cells #[.string ⟨#[]⟩, .int .i64 0, .int .i64 0] 53) = W2 at *
    generalize W.heap.size = gF at *
    refine hK.out _ _ (fun _ => HKC2.out _ hG) ?_
    clear hK K
    (try simp only [Act.put, ssA, ssZ, ssS])
    refine jh (listed' := #[true, true, true, true, true, true, true, true, true, true, true, true, true, false, false]) (by kernel_rfl) ?_
    revert hF
    revert hFl
    revert hG
    revert gF
    revert W2
    exact H8_12.out
  case h8_12 =>
   intro W gF hG hFl hF
   have k0 := hF.cell 0
   have k1 := hF.cell 1
   have k2 := hF.cell 2
   simp only [geA, geZ, geS] at k0 k1 k2
   have f0 := hF.free 0
   have f1 := hF.free 1
   have f2 := hF.free 2
   have hF2 : Blk (((W.setCell ⟨gF, 0, none⟩ (.string A2)).setCell ⟨gF, 1, none⟩ (.int .i64 B2)).setCell ⟨gF, 2, none⟩ (.int .i64 Z2)) gF 53 #[.string A2, .int .i64 B2, .int .i64 Z2] := ((hF.put 0 _).put 1 _).put 2 _
   have hG2 : w3.grownBy (((W.setCell ⟨gF, 0, none⟩ (.string A2)).setCell ⟨gF, 1, none⟩ (.int .i64 B2)).setCell ⟨gF, 2, none⟩ (.int .i64 Z2)) none := jg (p := ⟨gF, 2, none⟩) (jg (p := ⟨gF, 1, none⟩) (jg (p := ⟨gF, 0, none⟩) hG (.inr hFl) _) (.inr hFl) _) (.inr hFl) _
   refine je (rs := [13]) (by kernel_rfl) (by simp) ?_
   refine AllLate.cons (o := _) rfl (fun K hK => ?_) AllLate.nil
   go_simp
   refine hK.out _ _ (fun h => Bool.noConfusion (show false = true from h)) ?_
   clear hK K
   (try simp only [Act.put, ssA, ssZ, ssS])
   refine tkA 14 10 (fun h => Bool.noConfusion (show false = true from h)) ?_
   simp only [Act.put, ssA, ssZ, ssS]
   refine qe (by kernel_rfl) ?_ _
   generalize ((W.setCell ⟨gF, 0, none⟩ (.string A2)).setCell ⟨gF, 1, none⟩ (.int .i64 B2)).setCell ⟨gF, 2, none⟩ (.int .i64 Z2) = w4 at *
   generalize gF = gF2 at *
   clear k0 k1 k2 f0 f1 f2 hF hG hFl
   have hB1 := HB1.out.grown hG2 (by simp)
   have hG4 := ja hgX (ja HG0.out hG2)
   have a0 := hB1.cell 0
   have a1 := hB1.cell 1
   have a2 := hB1.cell 2
   have b0 := hF2.cell 0
   have b1 := hF2.cell 1
   have b2 := hF2.cell 2
   simp only [geA, geZ, geS] at a0 a1 a2 b0 b1 b2
   clear HKC HKC2 HG0 hG2 hgX HF1 HF2 HB1 hB1 hF2
   cases S1
   ·have HR : Hid (R = (rel == 5)) := by show _ = _; rw [HRL.out]; simp
    clear HRL
    go_wp2_with fail
    go_ret
    exact ⟨qt HR.out.symm, hG4⟩
   cases S2
   ·have HR : Hid (R = (rel == 5)) := by show _ = _; rw [HRL.out]; simp
    clear HRL
    go_wp2_with fail
    go_ret
    exact ⟨qt HR.out.symm, hG4⟩
   have HRL2 : Hid (R = if rel = 1 then A1.toList == A2.toList else if rel = 2 then Z1 == Z2 else if rel = 3 then B1 == B2 else if rel = 4 then B1 != B2 else false) := by show _ = _; rw [HRL.out]; simp
   clear HRL
   by_cases r1 : rel = 1
   ·have HR : Hid (R = (A1.toList == A2.toList)) := by show _ = _; rw [HRL2.out]; simp [r1]
    clear HRL2
    subst r1
    go_wp2_with fail
    go_ret
    exact ⟨qt HR.out.symm, hG4⟩
   by_cases r2 : rel = 2
   ·have HR : Hid (R = (Z1 == Z2)) := by show _ = _; rw [HRL2.out]; simp [r2]
    clear HRL2
    subst r2
    go_wp2_with fail
    go_ret
    exact ⟨qt HR.out.symm, hG4⟩
   by_cases r3 : rel = 3
   ·have HR : Hid (R = (B1 == B2)) := by show _ = _; rw [HRL2.out]; simp [r3]
    clear HRL2
    subst r3
    go_wp2_with fail
    go_ret
    exact ⟨qt HR.out.symm, hG4⟩
   by_cases r4 : rel = 4
   ·have HR : Hid (R = (B1 != B2)) := by show _ = _; rw [HRL2.out]; simp [r4]
    clear HRL2
    subst r4
    go_wp2_with fail
    go_ret
    exact ⟨qt HR.out.symm, hG4⟩
   have HR : Hid (R = false) := by show _ = _; rw [HRL2.out]; simp [r1, r2, r3, r4]
   clear HRL2
   go_wp2_with fail
   go_ret
   exact ⟨qt HR.out.symm, hG4⟩
theorem qh {w : World} {g : Nat} {t : TypeId} {a0 a1 a2 a3 a4 a5 a6 a7 : Value} (h : Blk w g t #[a0, a1, a2, a3, a4, a5, a6, a7]) : w.cell? ⟨g, 0, none⟩ = some a0 ∧ w.cell? ⟨g, 1, none⟩ = some a1 ∧ w.cell? ⟨g, 2, none⟩ = some a2 ∧ w.cell? ⟨g, 3, none⟩ = some a3 ∧ w.cell? ⟨g, 4, none⟩ = some a4 ∧ w.cell? ⟨g, 5, none⟩ = some a5 ∧ w.cell? ⟨g, 6, none⟩ = some a6 ∧ w.cell? ⟨g, 7, none⟩ = some a7 := ⟨h.cell 0, h.cell 1, h.cell 2, h.cell 3, h.cell 4, h.cell 5, h.cell 6, h.cell 7⟩
theorem j9 {w : World} {g : Nat} {t : TypeId} {a0 a1 a2 a3 : Value} (h : Blk w g t #[a0, a1, a2, a3]) : w.cell? ⟨g, 0, none⟩ = some a0 ∧ w.cell? ⟨g, 1, none⟩ = some a1 ∧ w.cell? ⟨g, 2, none⟩ = some a2 ∧ w.cell? ⟨g, 3, none⟩ = some a3 := ⟨h.cell 0, h.cell 1, h.cell 2, h.cell 3⟩
set_option maxRecDepth 100000 in
set_option maxHeartbeats 16000000 in
theorem jpe (base base2 gS gT bB bW : Nat) (u v rv mv : Value) (c : Cst) (x : Con) (gX gB : Nat) (r : Rul) (w : World) (h : ScAt base base2 gS gT bB bW u v rv mv c w) (hk : ScOk c x) (hX : Blk w gX 50 #[.int .i64 x.tm, .int .i64 x.mode, .string x.band, .string x.call, .int .i64 x.sent, .int .i64 x.heard, .string x.gave, .string x.got]) (hB : Blk w gB 94 #[.pointer (some ⟨gS, 0, none⟩)]) :
 Calls Tryz.prog 176 #[.agg #[.int .i64 r.rel, .int .i64 r.mode, .string r.band, .int .i64 r.points], .pointer (some ⟨gX, 0, none⟩), .pointer (some ⟨gB, 0, none⟩)] w fun e w' => e = .returned (.bool (jh8 (j5 c.ents c.pfxs) c.own x r)) ∧ w.grownBy w' none := by
 have HL : Hid (∀ W, w.grownBy W none → Calls Tryz.prog 177 #[.pointer (some ⟨gS, 0, none⟩), .agg #[.int .i64 x.tm, .int .i64 x.mode, .string x.band, .string x.call, .int .i64 x.sent, .int .i64 x.heard, .string x.gave, .string x.got], .int .i64 r.rel] W fun e w' => e = .returned (.bool (jue ((j5 c.ents c.pfxs) c.own x.tm) ((j5 c.ents c.pfxs) x.call x.tm) r.rel)) ∧ W.grownBy w' none) := fun W hW => jrr base base2 gS gT bB bW u v rv mv c x r.rel W (h.grown hW) hk
 have HQ : Hid (jh8 (j5 c.ents c.pfxs) c.own x r = ((r.mode == 0 || r.mode == x.mode) && ((r.band.toList == [] || r.band.toList == x.band.toList) && jue ((j5 c.ents c.pfxs) c.own x.tm) ((j5 c.ents c.pfxs) x.call x.tm) r.rel))) := rfl
 generalize jh8 (j5 c.ents c.pfxs) c.own x r = R at *
 generalize jue ((j5 c.ents c.pfxs) c.own x.tm) ((j5 c.ents c.pfxs) x.call x.tm) r.rel = RB at *
 generalize x.tm = Tm at *
 generalize x.mode = Mo at *
 generalize x.band = BD at *
 generalize x.call = CL at *
 generalize x.sent = SE at *
 generalize x.heard = HE at *
 generalize x.gave = GA at *
 generalize x.got = GO at *
 generalize r.rel = RL at *
 generalize r.mode = RM at *
 generalize r.band = RD at *
 generalize r.points = RP at *
 obtain ⟨Q1, hQ1⟩ : ∃ z, (RM == 0) = z := ⟨_, rfl⟩
 obtain ⟨Q2, hQ2⟩ : ∃ z, (RM == Mo) = z := ⟨_, rfl⟩
 obtain ⟨Q3, hQ3⟩ : ∃ z, (RD.toList == []) = z := ⟨_, rfl⟩
 obtain ⟨Q4, hQ4⟩ : ∃ z, (RD.toList == BD.toList) = z := ⟨_, rfl⟩
 rw [hQ1, hQ2, hQ3, hQ4] at HQ
 have hR := Blk.new w 77 #[.int .i64 RL, .int .i64 RM, .string RD, .int .i64 RP]
 have hgA := World.grownBy_alloc w (.cells #[.int .i64 RL, .int .i64 RM, .string RD, .int .i64 RP] 77) none
 have hXa := hX.grown hgA (by simp)
 have hBa := hB.grown hgA (by simp)
 clear h hk hX hB
 go_enter Tryz.func176, Tryz.ntmps176
 go_upto_region 1 with fail
 generalize w.alloc (.cells #[.int .i64 RL, .int .i64 RM, .string RD, .int .i64 RP] 77) = w0 at *
 generalize w.heap.size = gR at *
 obtain ⟨x0, x1, x2, x3, x4, x5, x6, x7⟩ := qh hXa
 obtain ⟨r0, r1, r2, r3⟩ := j9 hR
 have b0 := hBa.cell 0
 simp only [geA, geZ, geS] at b0
 clear hXa hBa hR
 cases Q1
 ·skip
  cases Q2
  ·skip
   cases Q3
   ·skip
    cases Q4
    ·skip
     have HR : Hid (R = false) := by show _ = _; rw [HQ.out]; simp
     clear HQ HL
     go_wp2_with fail
     go_ret
     exact ⟨qt HR.out.symm, hgA⟩
    skip
    have HR : Hid (R = false) := by show _ = _; rw [HQ.out]; simp
    clear HQ HL
    go_wp2_with fail
    go_ret
    exact ⟨qt HR.out.symm, hgA⟩
   skip
   cases Q4
   ·skip
    have HR : Hid (R = false) := by show _ = _; rw [HQ.out]; simp
    clear HQ HL
    go_wp2_with fail
    go_ret
    exact ⟨qt HR.out.symm, hgA⟩
   skip
   have HR : Hid (R = false) := by show _ = _; rw [HQ.out]; simp
   clear HQ HL
   go_wp2_with fail
   go_ret
   exact ⟨qt HR.out.symm, hgA⟩
  skip
  cases Q3
  ·skip
   cases Q4
   ·skip
    have HR : Hid (R = false) := by show _ = _; rw [HQ.out]; simp
    clear HQ HL
    go_wp2_with fail
    go_ret
    exact ⟨qt HR.out.symm, hgA⟩
   skip
   have HR : Hid (R = RB) := by show _ = _; rw [HQ.out]; simp
   clear HQ
   go_wp2_with fail
   refine (HL.out _ hgA).mono ?_
   rintro _ w1 ⟨rfl, hg1⟩
   go_wp2_with fail
   go_ret
   exact ⟨qt HR.out.symm, ja hgA hg1⟩
  skip
  cases Q4
  ·skip
   have HR : Hid (R = RB) := by show _ = _; rw [HQ.out]; simp
   clear HQ
   go_wp2_with fail
   refine (HL.out _ hgA).mono ?_
   rintro _ w1 ⟨rfl, hg1⟩
   go_wp2_with fail
   go_ret
   exact ⟨qt HR.out.symm, ja hgA hg1⟩
  skip
  have HR : Hid (R = RB) := by show _ = _; rw [HQ.out]; simp
  clear HQ
  go_wp2_with fail
  refine (HL.out _ hgA).mono ?_
  rintro _ w1 ⟨rfl, hg1⟩
  go_wp2_with fail
  go_ret
  exact ⟨qt HR.out.symm, ja hgA hg1⟩
 skip
 cases Q2
 ·skip
  cases Q3
  ·skip
   cases Q4
   ·skip
    have HR : Hid (R = false) := by show _ = _; rw [HQ.out]; simp
    clear HQ HL
    go_wp2_with fail
    go_ret
    exact ⟨qt HR.out.symm, hgA⟩
   skip
   have HR : Hid (R = RB) := by show _ = _; rw [HQ.out]; simp
   clear HQ
   go_wp2_with fail
   refine (HL.out _ hgA).mono ?_
   rintro _ w1 ⟨rfl, hg1⟩
   go_wp2_with fail
   go_ret
   exact ⟨qt HR.out.symm, ja hgA hg1⟩
  skip
  cases Q4
  ·skip
   have HR : Hid (R = RB) := by show _ = _; rw [HQ.out]; simp
   clear HQ
   go_wp2_with fail
   refine (HL.out _ hgA).mono ?_
   rintro _ w1 ⟨rfl, hg1⟩
   go_wp2_with fail
   go_ret
   exact ⟨qt HR.out.symm, ja hgA hg1⟩
  skip
  have HR : Hid (R = RB) := by show _ = _; rw [HQ.out]; simp
  clear HQ
  go_wp2_with fail
  refine (HL.out _ hgA).mono ?_
  rintro _ w1 ⟨rfl, hg1⟩
  go_wp2_with fail
  go_ret
  exact ⟨qt HR.out.symm, ja hgA hg1⟩
 skip
 cases Q3
 ·skip
  cases Q4
  ·skip
   have HR : Hid (R = false) := by show _ = _; rw [HQ.out]; simp
   clear HQ HL
   go_wp2_with fail
   go_ret
   exact ⟨qt HR.out.symm, hgA⟩
  skip
  have HR : Hid (R = RB) := by show _ = _; rw [HQ.out]; simp
  clear HQ
  go_wp2_with fail
  refine (HL.out _ hgA).mono ?_
  rintro _ w1 ⟨rfl, hg1⟩
  go_wp2_with fail
  go_ret
  exact ⟨qt HR.out.symm, ja hgA hg1⟩
 skip
 cases Q4
 ·skip
  have HR : Hid (R = RB) := by show _ = _; rw [HQ.out]; simp
  clear HQ
  go_wp2_with fail
  refine (HL.out _ hgA).mono ?_
  rintro _ w1 ⟨rfl, hg1⟩
  go_wp2_with fail
  go_ret
  exact ⟨qt HR.out.symm, ja hgA hg1⟩
 skip
 have HR : Hid (R = RB) := by show _ = _; rw [HQ.out]; simp
 clear HQ
 go_wp2_with fail
 refine (HL.out _ hgA).mono ?_
 rintro _ w1 ⟨rfl, hg1⟩
 go_wp2_with fail
 go_ret
 exact ⟨qt HR.out.symm, ja hgA hg1⟩
set_option maxRecDepth 100000 in
set_option maxHeartbeats 16000000 in
theorem jl9 (base base2 gS gT bB bW : Nat) (u v rv mv : Value) (c : Cst) (x : Con) (gX gB : Nat) (w : World) (h : ScAt base base2 gS gT bB bW u v rv mv c w) (hk : ScOk c x) (hX : Blk w gX 50 #[.int .i64 x.tm, .int .i64 x.mode, .string x.band, .string x.call, .int .i64 x.sent, .int .i64 x.heard, .string x.gave, .string x.got]) (hB : Blk w gB 94 #[.pointer (some ⟨gS, 0, none⟩)]) :
 Calls Tryz.prog 175 #[rv, .func (.func 176) #[] #[.pointer (some ⟨gX, 0, none⟩), .pointer (some ⟨gB, 0, none⟩)]] w fun e w' => e = .returned (.int .i64 (ja3 (j5 c.ents c.pfxs) c.own c.ruls x)) ∧ w.grownBy w' none := by
 have HR := Lib.hid h.cst.ruls
 obtain ⟨A, ca, hrv, hla, hA⟩ := HR.out.shape
 have HC : Hid (∀ (r : Rul) W, w.grownBy W none → Calls Tryz.prog 176 #[.agg #[.int .i64 r.rel, .int .i64 r.mode, .string r.band, .int .i64 r.points], .pointer (some ⟨gX, 0, none⟩), .pointer (some ⟨gB, 0, none⟩)] W fun e w' => e = .returned (.bool (jh8 (j5 c.ents c.pfxs) c.own x r)) ∧ W.grownBy w' none) := fun r W hW => jpe base base2 gS gT bB bW u v rv mv c x gX gB r W (h.grown hW) hk (hX.grown hW (by simp)) (hB.grown hW (by simp))
 subst hrv
 have HA := Lib.hid hA
 have HE : Hid (ja3 (j5 c.ents c.pfxs) c.own c.ruls x = zo (j5 c.ents c.pfxs) c.own x (c.ruls.drop 0) 0) := rfl
 have HST : Hid (∀ k (hk : k < c.ruls.length), zo (j5 c.ents c.pfxs) c.own x (c.ruls.drop k) k = if jh8 (j5 c.ents c.pfxs) c.own x c.ruls[k] then (k : Int) else zo (j5 c.ents c.pfxs) c.own x (c.ruls.drop (k + 1)) (k + 1)) := fun k hk => jkj _ _ _ _ k hk
 have HEN : Hid (zo (j5 c.ents c.pfxs) c.own x (c.ruls.drop c.ruls.length) c.ruls.length = -1) := jms _ _ _ _ _
 generalize ja3 (j5 c.ents c.pfxs) c.own c.ruls x = I at *
 generalize j5 c.ents c.pfxs = FF at *
 clear h hk hX hB hA
 go_enter Tryz.func175, Tryz.ntmps175
 go_wp2_with fail
 go_loopw [8] (fun i wr => ∃ k : Nat, k ≤ c.ruls.length ∧ i = .int .i64 k ∧ Hid (I = zo FF c.own x (c.ruls.drop k) k) ∧ w.grownBy wr none) (fun i _ => c.ruls.length - (intOf i).toNat)
 case atStart => exact ⟨0, by omega, rfl, HE, jf _ _⟩
 case round =>
  obtain ⟨k, hk, rfl, HN, hgr⟩ := hrel
  clear HE
  by_cases hlt : k < c.ruls.length
  ·have hkl : (k : Int) < (c.ruls.length : Int) := by omega
   obtain ⟨g, rfl, _, _⟩ := HA.out (by omega)
   obtain ⟨c0, c1, c2, c3⟩ := (HR.out.grown hgr).at_ k hlt
   have HC1 := Lib.hid (HC.out c.ruls[k] wr hgr)
   have hst := HST.out k hlt
   rw [← HN.out] at hst
   generalize jh8 FF c.own x c.ruls[k] = FB at *
   generalize c.ruls[k].rel = RL at *
   generalize c.ruls[k].mode = RM at *
   generalize c.ruls[k].band = RD at *
   generalize c.ruls[k].points = RP at *
   have HS := Lib.hid hst
   clear hst
   go_wp2_with fail
   refine HC1.out.mono ?_
   rintro _ w1 ⟨rfl, hg⟩
   clear c0 c1 c2 c3 HC1
   cases FB
   ·have HS2 : Hid (I = zo FF c.own x (c.ruls.drop (k + 1)) (k + 1)) := HS.out
    go_wp2_with fail
    go_roundw
    case rel => exact ⟨k + 1, by omega, by go_num, HS2, ja hgr hg⟩
    case measure => simp [intOf]; omega
   have HS2 : Hid (I = (k : Int)) := HS.out
   go_wp2_with fail
   go_ret
   exact ⟨by rw [HS2.out]; rfl, ja hgr hg⟩
  have hkl : ¬ (k : Int) < (c.ruls.length : Int) := by omega
  have HS2 : Hid (I = -1) := by show _ = _; rw [HN.out, show k = c.ruls.length by omega, HEN.out]
  go_wp2_with fail
  go_ret
  exact ⟨by rw [HS2.out]; rfl, hgr⟩
set_option maxRecDepth 100000 in
set_option maxHeartbeats 16000000 in
theorem jr4 (base base2 gS gT bB bW : Nat) (u v rv mv : Value) (c : Cst) (x : Con) (w : World) (h : ScAt base base2 gS gT bB bW u v rv mv c w) (hk : ScOk c x) :
 Calls Tryz.prog 119 #[.pointer (some ⟨gS, 0, none⟩), .agg #[.int .i64 x.tm, .int .i64 x.mode, .string x.band, .string x.call, .int .i64 x.sent, .int .i64 x.heard, .string x.gave, .string x.got]] w fun e w' => e = .returned (.int .i64 (ja3 (j5 c.ents c.pfxs) c.own c.ruls x)) ∧ w.grownBy w' none := by
 have hB := Blk.new w 94 #[.pointer (some ⟨gS, 0, none⟩)]
 have hgB := World.grownBy_alloc w (.cells #[.pointer (some ⟨gS, 0, none⟩)] 94) none
 have hX := Blk.new (w.alloc (.cells #[.pointer (some ⟨gS, 0, none⟩)] 94)) 50 #[.int .i64 x.tm, .int .i64 x.mode, .string x.band, .string x.call, .int .i64 x.sent, .int .i64 x.heard, .string x.gave, .string x.got]
 have hgX := World.grownBy_alloc (w.alloc (.cells #[.pointer (some ⟨gS, 0, none⟩)] 94)) (.cells #[.int .i64 x.tm, .int .i64 x.mode, .string x.band, .string x.call, .int .i64 x.sent, .int .i64 x.heard, .string x.gave, .string x.got] 50) none
 have hBX := hB.grown hgX (by simp)
 have hgA := ja hgB hgX
 have hs := (h.grown hgA).blk
 have s5 := hs.cell 5
 simp only [geA, geZ, geS] at s5
 have HI := Lib.hid (jl9 base base2 gS gT bB bW u v rv mv c x _ _ _ (h.grown hgA) hk hX hBX)
 generalize ja3 (j5 c.ents c.pfxs) c.own c.ruls x = I at *
 have b0 := hBX.cell 0
 simp only [geA, geZ, geS] at b0
 clear h hk hs hB hX hBX hgB hgX
 go_enter Tryz.func119, Tryz.ntmps119
 go_upto_region 1 with fail
 have e1 : (w.alloc (.cells #[.pointer (some ⟨gS, 0, none⟩)] 94)).heap.size = w.heap.size + 1 := by simp
 rw [e1] at HI
 (try rw [e1])
 clear e1
 generalize (w.alloc (.cells #[.pointer (some ⟨gS, 0, none⟩)] 94)).alloc (.cells #[.int .i64 x.tm, .int .i64 x.mode, .string x.band, .string x.call, .int .i64 x.sent, .int .i64 x.heard, .string x.gave, .string x.got] 50) = w0 at *
 generalize w.heap.size = gB at *
 go_wp2_with fail
 refine HI.out.mono ?_
 rintro _ w1 ⟨rfl, hg1⟩
 go_wp2_with fail
 go_ret
 exact ⟨rfl, ja hgA hg1⟩
set_option maxRecDepth 100000 in
set_option maxHeartbeats 16000000 in
theorem jmm (base base2 gS gT bB bW : Nat) (u v rv mv : Value) (c : Cst) (x : Con) (w : World) (h : ScAt base base2 gS gT bB bW u v rv mv c w) (hk : ScOk c x) :
 Calls Tryz.prog 68 #[.pointer (some ⟨gS, 0, none⟩), .agg #[.int .i64 x.tm, .int .i64 x.mode, .string x.band, .string x.call, .int .i64 x.sent, .int .i64 x.heard, .string x.gave, .string x.got]] w fun e w' => e = .returned (.int .i64 (xe (j5 c.ents c.pfxs) c.own c.ruls x)) ∧ w.grownBy w' none := by
 have hX := Blk.new w 50 #[.int .i64 x.tm, .int .i64 x.mode, .string x.band, .string x.call, .int .i64 x.sent, .int .i64 x.heard, .string x.gave, .string x.got]
 have hgX := World.grownBy_alloc w (.cells #[.int .i64 x.tm, .int .i64 x.mode, .string x.band, .string x.call, .int .i64 x.sent, .int .i64 x.heard, .string x.gave, .string x.got] 50) none
 have HI : Hid (∀ W, w.grownBy W none → Calls Tryz.prog 119 #[.pointer (some ⟨gS, 0, none⟩), .agg #[.int .i64 x.tm, .int .i64 x.mode, .string x.band, .string x.call, .int .i64 x.sent, .int .i64 x.heard, .string x.gave, .string x.got]] W fun e w' => e = .returned (.int .i64 (ja3 (j5 c.ents c.pfxs) c.own c.ruls x)) ∧ W.grownBy w' none) := fun W hW => jr4 base base2 gS gT bB bW u v rv mv c x W (h.grown hW) hk
 have hbd := jlj (j5 c.ents c.pfxs) c.own x c.ruls
 have HP : Hid (xe (j5 c.ents c.pfxs) c.own c.ruls x = if 0 ≤ ja3 (j5 c.ents c.pfxs) c.own c.ruls x then (c.ruls.getD (ja3 (j5 c.ents c.pfxs) c.own c.ruls x).toNat ⟨0, 0, ⟨#[]⟩, 0⟩).points else 0) := rfl
 generalize xe (j5 c.ents c.pfxs) c.own c.ruls x = R at *
 generalize ja3 (j5 c.ents c.pfxs) c.own c.ruls x = I at *
 have HR := Lib.hid h.cst.ruls
 obtain ⟨A, ca, hrv, hla, hA⟩ := HR.out.shape
 have hs := h.blk
 have HBK := Lib.hid hs
 subst hrv
 generalize c.own = own at *
 generalize x.tm = Tm at *
 generalize x.mode = Mo at *
 generalize x.band = BD at *
 generalize x.call = CL at *
 generalize x.sent = SE at *
 generalize x.heard = HE at *
 generalize x.gave = GA at *
 generalize x.got = GO at *
 clear h hk hs
 go_enter Tryz.func68, Tryz.ntmps68
 go_upto_region 1 with fail
 generalize w.alloc (.cells #[.int .i64 Tm, .int .i64 Mo, .string BD, .string CL, .int .i64 SE, .int .i64 HE, .string GA, .string GO] 50) = w0 at *
 generalize w.heap.size = gX at *
 obtain ⟨x0, x1, x2, x3, x4, x5, x6, x7⟩ := qh hX
 go_wp2_with fail
 refine (HI.out _ hgX).mono ?_
 rintro _ w1 ⟨rfl, hg1⟩
 have hG := ja hgX hg1
 clear x0 x1 x2 x3 x4 x5 x6 x7
 rcases hbd with hn | ⟨h0, h1⟩
 ·have HR2 : Hid (R = 0) := by show _ = _; rw [HP.out, hn]; rfl
  subst hn
  go_wp2_with fail
  go_ret
  exact ⟨by rw [HR2.out]; rfl, hG⟩
 obtain ⟨i, rfl⟩ := Int.eq_ofNat_of_zero_le h0
 have hi : i < c.ruls.length := by omega
 have HR2 : Hid (R = c.ruls[i].points) := by
  show _ = _
  rw [HP.out, if_pos h0]
  simp [hi]
 obtain ⟨g, rfl, _, _⟩ := hA (by omega)
 obtain ⟨q0, q1, q2, q3⟩ := (HR.out.grown hG).at_ i hi
 generalize c.ruls[i].points = RP at *
 have s5 := (HBK.out.grown hG (by simp)).cell 5
 simp only [geA, geZ, geS] at s5
 clear q0 q1 q2
 go_wp2_with fail
 go_ret
 exact ⟨by rw [HR2.out]; rfl, hG⟩
theorem jka (s : ByteArray) (w : World) (hs : s.size ≤ 1000) (ha : Ascii s) (hp : (jo s).isSome = true) :
 ∃ (t : ByteArray) (k : Nat) (kd : Int) (ad : ByteArray), jo s = some (t, k, kd, ad) ∧ Calls Tryz.prog 85 #[.string s] w fun r w' => r = .returned (.tuple #[.agg #[.string t, .string (t.extract 0 (k + 1)), .string (t.extract (k + 1) t.size), .int .i64 kd, .string ad], .bool true]) ∧ w.grownBy w' none := by
 obtain ⟨q, hq⟩ := Option.isSome_iff_exists.1 hp
 obtain ⟨t, k, kd, ad⟩ := q
 refine ⟨t, k, kd, ad, hq, (jbd s w (by omega) ha).mono ?_⟩
 rintro r w' ⟨hg, h⟩
 rcases h with ⟨h1, _⟩ | ⟨t', k', kd', ad', h1, h2⟩
 ·rw [hq] at h1; cases h1
 rw [hq] at h1
 simp only [Option.some.injEq, Prod.mk.injEq] at h1
 obtain ⟨rfl, rfl, rfl, rfl⟩ := h1
 exact ⟨h2, hg⟩
set_option maxRecDepth 100000 in
theorem jlv (s : ByteArray) (w : World) (hs : s.size ≤ 1000) (ha : Ascii s) (hp : (jo s).isSome = true) :
 Calls Tryz.prog 118 #[.string s] w fun r w' => r = .returned (.string (jgh s)) ∧ w.grownBy w' none := by
 obtain ⟨t, k, kd, ad, hq, hc⟩ := jka s w hs ha hp
 have hb : jgh s = t := by unfold jgh; rw [hq]
 rw [hb]
 have HC := Lib.hid hc
 generalize t.extract 0 (k + 1) = T1 at *
 generalize t.extract (k + 1) t.size = T2 at *
 clear hq hc hb hs ha hp
 go_enter Tryz.func118, Tryz.ntmps118
 go_wp2_with fail
 refine HC.out.mono ?_
 rintro _ w1 ⟨rfl, hg⟩
 go_wp2_with fail
 go_ret
 exact ⟨rfl, jd hg _⟩
set_option maxRecDepth 100000 in
set_option maxHeartbeats 16000000 in
theorem jm3 (base base2 gS gT bB bW : Nat) (u v rv mv : Value) (c : Cst) (x : Con) (w : World) (h : ScAt base base2 gS gT bB bW u v rv mv c w) (hk : ScOk c x) :
 Calls Tryz.prog 66 #[.pointer (some ⟨gS, 0, none⟩), .agg #[.int .i64 x.tm, .int .i64 x.mode, .string x.band, .string x.call, .int .i64 x.sent, .int .i64 x.heard, .string x.gave, .string x.got]] w fun e w' => e = .returned (.agg #[.string (jv8 c.byMode x).1, .string (jv8 c.byMode x).2.1, .int .i64 (jv8 c.byMode x).2.2]) ∧ w.grownBy w' none := by
 have HBO : Hid (∀ W, Calls Tryz.prog 118 #[.string x.call] W fun r w' => r = .returned (.string (jgh x.call)) ∧ W.grownBy w' none) := fun W => jlv x.call W hk.con.2.1 hk.con.2.2.1 hk.call
 have e1 : jv8 c.byMode x = (jgh x.call, x.band, if c.byMode then x.mode else 0) := rfl
 rw [e1]
 clear e1
 have hX := Blk.new w 50 #[.int .i64 x.tm, .int .i64 x.mode, .string x.band, .string x.call, .int .i64 x.sent, .int .i64 x.heard, .string x.gave, .string x.got]
 have hgX := World.grownBy_alloc w (.cells #[.int .i64 x.tm, .int .i64 x.mode, .string x.band, .string x.call, .int .i64 x.sent, .int .i64 x.heard, .string x.gave, .string x.got] 50) none
 have hR := Blk.new (w.alloc (.cells #[.int .i64 x.tm, .int .i64 x.mode, .string x.band, .string x.call, .int .i64 x.sent, .int .i64 x.heard, .string x.gave, .string x.got] 50)) 127 #[.string ⟨#[]⟩, .string ⟨#[]⟩, .int .i64 0]
 have hgR := World.grownBy_alloc (w.alloc (.cells #[.int .i64 x.tm, .int .i64 x.mode, .string x.band, .string x.call, .int .i64 x.sent, .int .i64 x.heard, .string x.gave, .string x.got] 50)) (.cells #[.string ⟨#[]⟩, .string ⟨#[]⟩, .int .i64 0] 127) none
 have hX2 := hX.grown hgR (by simp)
 have hgA := ja hgX hgR
 have hs := (h.grown hgA).blk
 have s7 := hs.cell 7
 simp only [geA, geZ, geS] at s7
 generalize jgh x.call = BC at *
 generalize c.byMode = bm at *
 generalize x.tm = Tm at *
 generalize x.mode = Mo at *
 generalize x.band = BD at *
 generalize x.call = CL at *
 generalize x.sent = SE at *
 generalize x.heard = HE at *
 generalize x.gave = GA at *
 generalize x.got = GO at *
 dsimp only
 obtain ⟨M, hM⟩ : ∃ m, (if bm = true then Mo else 0) = m := ⟨_, rfl⟩
 rw [hM]
 have HM := Lib.hid hM
 clear h hk hs hX hgX hgR hM
 go_enter Tryz.func66, Tryz.ntmps66
 go_upto_region 1 with fail
 have e1 : (w.alloc (.cells #[.int .i64 Tm, .int .i64 Mo, .string BD, .string CL, .int .i64 SE, .int .i64 HE, .string GA, .string GO] 50)).heap.size = w.heap.size + 1 := by simp
 rw [e1] at hR
 (try rw [e1])
 clear e1
 generalize (w.alloc (.cells #[.int .i64 Tm, .int .i64 Mo, .string BD, .string CL, .int .i64 SE, .int .i64 HE, .string GA, .string GO] 50)).alloc (.cells #[.string ⟨#[]⟩, .string ⟨#[]⟩, .int .i64 0] 127) = w0 at *
 obtain ⟨gX, hgX⟩ : ∃ g, w.heap.size = g := ⟨_, rfl⟩
 rw [hgX] at hR hX2
 (try rw [hgX])
 have HGX := Lib.hid hgX
 clear hgX
 obtain ⟨x0, x1, x2, x3, x4, x5, x6, x7⟩ := qh hX2
 have HKC : Hid (∀ V, w0.grownBy V none → V.cell? ⟨gX, 3, none⟩ = some (.string CL) ∧ V.cell? ⟨gX, 2, none⟩ = some (.string BD)) := fun V hV => ⟨hV.cell x3 (by simp), hV.cell x2 (by simp)⟩
 clear x0 x2 x3 x4 x5 x6 x7
 refine jx [7] (fun V => V.cell? ⟨gX, 3, none⟩ = some (.string CL) ∧ V.cell? ⟨gX, 2, none⟩ = some (.string BD)) (by kernel_rfl) ?_
 have hG : w0.grownBy w0.drew none := jn (jf _ _)
 generalize w0.drew = W at *
 revert hG
 revert W
 refine' qf ?h2_6 ?k2_6
 case' k2_6 =>
  intro H2_6
  refine' qf ?h2 ?k2
 case' k2 =>
  intro H2
  refine' qf ?h6 ?k6
 case' k6 => intro H6
 case k6 =>
  intro W hG
  refine tkA 0 6 (fun _ => HKC.out _ hG) ?_
  simp only [Act.put, ssA, ssZ, ssS]
  refine tkL 1 7 (HKC.out _ hG) ?_
  simp only [Act.put, ssA, ssZ, ssS]
  refine tkA 3 9 (fun _ => HKC.out _ hG) ?_
  simp only [Act.put, ssA, ssZ, ssS]
  refine tkL 4 10 (HKC.out _ hG) ?_
  simp only [Act.put, ssA, ssZ, ssS]
  refine je (rs := [2, 6]) (by kernel_rfl) (by simp) ?_
  refine AllLate.cons (o := _) rfl (fun K hK => ?n2) (AllLate.cons (o := _) rfl (fun K hK => ?n1) AllLate.nil)
  case n2 =>
   go_simp
   (go_at_call 118; refine (HBO.out _).mono ?_; rintro _ W2 ⟨rfl, hg2⟩)
   replace hG := ja hG hg2
   clear hg2
   refine hK.out _ _ (fun _ => HKC.out _ hG) ?_
   clear hK K
   (try simp only [Act.put, ssA, ssZ, ssS])
   refine jh (listed' := #[true, true, true, true, true, false, false, false]) (by kernel_rfl) ?_
   revert hG
   revert W2
   exact H2.out
  case n1 =>
   go_simp
   have hF := Blk.new W 127 #[.string ⟨#[]⟩, .string ⟨#[]⟩, .int .i64 0]
   have hFl := hG.size
   replace hG := jd hG (.cells #[.string ⟨#[]⟩, .string ⟨#[]⟩, .int .i64 0] 127)
   generalize W.alloc (.cells #[.string ⟨#[]⟩, .string ⟨#[]⟩, .int .i64 0] 127) = W2 at *
   generalize W.heap.size = gF at *
   refine hK.out _ _ (fun _ => HKC.out _ hG) ?_
   clear hK K
   (try simp only [Act.put, ssA, ssZ, ssS])
   refine jh (listed' := #[true, true, false, true, true, false, true, false]) (by kernel_rfl) ?_
   revert hF
   revert hFl
   revert hG
   revert gF
   revert W2
   exact H6.out
 case h6 =>
  intro W gF hG hFl hF
  refine je (rs := [2]) (by kernel_rfl) (by simp) ?_
  refine AllLate.cons (o := _) rfl (fun K hK => ?n3) AllLate.nil
  case n3 =>
   go_simp
   (go_at_call 118; refine (HBO.out _).mono ?_; rintro _ W2 ⟨rfl, hg2⟩)
   replace hG := ja hG hg2
   replace hF := Blk.grown hF hg2 (by simp)
   clear hg2
   refine hK.out _ _ (fun _ => HKC.out _ hG) ?_
   clear hK K
   (try simp only [Act.put, ssA, ssZ, ssS])
   refine tkA 5 11 (fun _ => HKC.out _ hG) ?_
   simp only [Act.put, ssA, ssZ, ssS]
   refine jh (listed' := #[true, true, true, true, true, true, true, false]) (by kernel_rfl) ?_
   revert hF
   revert hFl
   revert hG
   revert gF
   revert W2
   exact H2_6.out
 case h2 =>
  intro W hG
  refine tkA 5 11 (fun _ => HKC.out _ hG) ?_
  simp only [Act.put, ssA, ssZ, ssS]
  refine je (rs := [6]) (by kernel_rfl) (by simp) ?_
  refine AllLate.cons (o := _) rfl (fun K hK => ?n4) AllLate.nil
  case n4 =>
   go_simp
   have hF := Blk.new W 127 #[.string ⟨#[]⟩, .string ⟨#[]⟩, .int .i64 0]
   have hFl := hG.size
   replace hG := jd hG (.cells #[.string ⟨#[]⟩, .string ⟨#[]⟩, .int .i64 0] 127)
   generalize W.alloc (.cells #[.string ⟨#[]⟩, .string ⟨#[]⟩, .int .i64 0] 127) = W2 at *
   generalize W.heap.size = gF at *
   refine hK.out _ _ (fun _ => HKC.out _ hG) ?_
   clear hK K
   (try simp only [Act.put, ssA, ssZ, ssS])
   refine jh (listed' := #[true, true, true, true, true, true, true, false]) (by kernel_rfl) ?_
   revert hF
   revert hFl
   revert hG
   revert gF
   revert W2
   exact H2_6.out
 case h2_6 =>
  intro W gF hG hFl hF
  have k0 := hF.cell 0
  have k1 := hF.cell 1
  have k2 := hF.cell 2
  simp only [geA, geZ, geS] at k0 k1 k2
  have f0 := hF.free 0
  have f1 := hF.free 1
  have f2 := hF.free 2
  have hF2 : Blk (((W.setCell ⟨gF, 0, none⟩ (.string BC)).setCell ⟨gF, 1, none⟩ (.string BD)).setCell ⟨gF, 2, none⟩ (.int .i64 0)) gF 127 #[.string BC, .string BD, .int .i64 0] := ((hF.put 0 _).put 1 _).put 2 _
  have hG2 : w0.grownBy (((W.setCell ⟨gF, 0, none⟩ (.string BC)).setCell ⟨gF, 1, none⟩ (.string BD)).setCell ⟨gF, 2, none⟩ (.int .i64 0)) none := jg (p := ⟨gF, 2, none⟩) (jg (p := ⟨gF, 1, none⟩) (jg (p := ⟨gF, 0, none⟩) hG (.inr hFl) _) (.inr hFl) _) (.inr hFl) _
  refine je (rs := [7]) (by kernel_rfl) (by simp) ?_
  refine AllLate.cons (o := _) rfl (fun K hK => ?_) AllLate.nil
  go_simp
  refine hK.out _ _ (fun h => Bool.noConfusion (show false = true from h)) ?_
  clear hK K
  (try simp only [Act.put, ssA, ssZ, ssS])
  refine qe (by kernel_rfl) ?_ _
  generalize ((W.setCell ⟨gF, 0, none⟩ (.string BC)).setCell ⟨gF, 1, none⟩ (.string BD)).setCell ⟨gF, 2, none⟩ (.int .i64 0) = w3 at *
  clear k0 k1 k2 f0 f1 f2 hF hG HKC
  have s7a := hG2.cell s7 (by simp)
  have x1a := hG2.cell x1 (by simp)
  have hRr := hR.grown hG2 (by simp)
  have hG3 := ja hgA hG2
  have hFS : w.heap.size ≤ gF := by have := hgA.size; omega
  have hRl := hR.lt
  have hRF : gX + 1 ≠ gF := by omega
  have hRb : w.heap.size ≤ gX + 1 := by have := HGX.out; omega
  clear s7 x1 hR hG2 hgA
  cases bm
  ·skip
   obtain rfl : M = 0 := HM.out.symm
   have m0 := hF2.cell 0
   have m1 := hF2.cell 1
   have m2 := hF2.cell 2
   have r0 := hRr.cell 0
   have r1 := hRr.cell 1
   have r2 := hRr.cell 2
   have y0 := hRr.free 0
   have y1 := hRr.free 1
   have y2 := hRr.free 2
   simp only [geA, geZ, geS] at m0 m1 m2 r0 r1 r2
   have hP : Blk (((w3.setCell ⟨gX + 1, 0, none⟩ (.string BC)).setCell ⟨gX + 1, 1, none⟩ (.string BD)).setCell ⟨gX + 1, 2, none⟩ (.int .i64 0)) (gX + 1) 127 #[.string BC, .string BD, .int .i64 0] := ((hRr.put 0 _).put 1 _).put 2 _
   have hPG : w.grownBy (((w3.setCell ⟨gX + 1, 0, none⟩ (.string BC)).setCell ⟨gX + 1, 1, none⟩ (.string BD)).setCell ⟨gX + 1, 2, none⟩ (.int .i64 0)) none := jg (p := ⟨gX + 1, 2, none⟩) (jg (p := ⟨gX + 1, 1, none⟩) (jg (p := ⟨gX + 1, 0, none⟩) hG3 (.inr hRb) _) (.inr hRb) _) (.inr hRb) _
   have HP := Lib.hid hP
   clear hP
   go_wp2_with fail
   have e0 := HP.out.cell 0
   have e1 := HP.out.cell 1
   have e2 := HP.out.cell 2
   simp only [geA, geZ, geS] at e0 e1 e2
   refine bodyPost_ret (v := .agg #[.string BC, .string BD, .int .i64 0]) (by simp [results, Tryz.results66, go_sem, e0, e1, e2]) rfl ?_
   exact ⟨rfl, hPG⟩
  skip
  obtain rfl : M = Mo := HM.out.symm
  have m2 := hF2.cell 2
  have g2 := hF2.free 2
  simp only [geA, geZ, geS] at m2
  have hF4 : Blk (w3.setCell ⟨gF, 2, none⟩ (.int .i64 M)) gF 127 #[.string BC, .string BD, .int .i64 M] := hF2.put 2 _
  have hG4 : w.grownBy (w3.setCell ⟨gF, 2, none⟩ (.int .i64 M)) none := jg (p := ⟨gF, 2, none⟩) hG3 (.inr hFS) _
  have hR4 := hRr.far (p := ⟨gF, 2, none⟩) (by simpa using hRF) (.int .i64 M)
  go_upto_region 4 with fail
  generalize w3.setCell ⟨gF, 2, none⟩ (.int .i64 M) = w4 at *
  clear m2 g2 hF2 hG3 hRr
  have m0 := hF4.cell 0
  have m1 := hF4.cell 1
  have m2 := hF4.cell 2
  have r0 := hR4.cell 0
  have r1 := hR4.cell 1
  have r2 := hR4.cell 2
  have y0 := hR4.free 0
  have y1 := hR4.free 1
  have y2 := hR4.free 2
  simp only [geA, geZ, geS] at m0 m1 m2 r0 r1 r2
  have hP : Blk (((w4.setCell ⟨gX + 1, 0, none⟩ (.string BC)).setCell ⟨gX + 1, 1, none⟩ (.string BD)).setCell ⟨gX + 1, 2, none⟩ (.int .i64 M)) (gX + 1) 127 #[.string BC, .string BD, .int .i64 M] := ((hR4.put 0 _).put 1 _).put 2 _
  have hPG : w.grownBy (((w4.setCell ⟨gX + 1, 0, none⟩ (.string BC)).setCell ⟨gX + 1, 1, none⟩ (.string BD)).setCell ⟨gX + 1, 2, none⟩ (.int .i64 M)) none := jg (p := ⟨gX + 1, 2, none⟩) (jg (p := ⟨gX + 1, 1, none⟩) (jg (p := ⟨gX + 1, 0, none⟩) hG4 (.inr hRb) _) (.inr hRb) _) (.inr hRb) _
  have HP := Lib.hid hP
  clear hP
  go_wp2_with fail
  have e0 := HP.out.cell 0
  have e1 := HP.out.cell 1
  have e2 := HP.out.cell 2
  simp only [geA, geZ, geS] at e0 e1 e2
  refine bodyPost_ret (v := .agg #[.string BC, .string BD, .int .i64 M]) (by simp [results, Tryz.results66, go_sem, e0, e1, e2]) rfl ?_
  exact ⟨rfl, hPG⟩
end Go.Proofs.YtbamhgaghngjiaaGreatDoor
