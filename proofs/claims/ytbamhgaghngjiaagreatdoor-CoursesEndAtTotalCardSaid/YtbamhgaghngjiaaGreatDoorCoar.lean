/- Parts of a proof: ScNam, ScNams, WkMap, MapS, NmMap, InsC, ScSort. Conditions: as each statement says. -/
import Derived.Test.YtbamhgaghngjiaaGreatDoorCoaq
import Derived.Maps.RangeWalk
import Derived.StringKeys
import Derived.WideKeyEntry
import Derived.Sort.LotA
namespace Go.Proofs.YtbamhgaghngjiaaGreatDoor
open Go.RowKit
set_option linter.unusedVariables false
set_option linter.unusedSimpArgs false

def jsr (a : ByteArray) (bb bm : Bool) (BD IM : ByteArray) : ByteArray :=
 if a.size = 0 then ⟨#[]⟩
 else
  let b := if bb then a ++ (⟨#[32]⟩ ++ BD) else a
  if bm then b ++ (⟨#[32]⟩ ++ IM) else b
theorem jot (F : ByteArray → Int → Option Fnd) (x : Con) (m : Mul) : je2 F x m = jsr (jt1 F x m.what) m.byBand m.byMode x.band (itZ x.mode) := rfl
theorem size_0 {a : ByteArray} : a.size = 0 ↔ (a.toList == []) = true := by
 rw [jky, List.isEmpty_iff]
 constructor
 ·intro h
  have h2 : a.data.toList.length = 0 := by rw [Array.length_toList]; exact h
  exact List.eq_nil_of_length_eq_zero h2
 intro h
 show a.data.size = 0
 rw [← Array.length_toList, h]; rfl
theorem jf5 {a : ByteArray} (bb bm : Bool) (BD IM : ByteArray) (h : (a.toList == []) = true) : jsr a bb bm BD IM = ⟨#[]⟩ := by
 unfold jsr
 rw [if_pos (size_0.2 h)]
theorem jij {a : ByteArray} (bb bm : Bool) (BD IM : ByteArray) (h : (a.toList == []) = false) : jsr a bb bm BD IM = (if bm then (if bb then a ++ (⟨#[32]⟩ ++ BD) else a) ++ (⟨#[32]⟩ ++ IM) else (if bb then a ++ (⟨#[32]⟩ ++ BD) else a)) := by
 unfold jsr
 rw [if_neg (fun h2 => by rw [size_0.1 h2] at h; cases h)]
theorem jbm {t : Int} (h : t ≤ 1000000000000) : (itZ t).size ≤ 13 := by
 have hdl : (itZ t).size = Lib.nDigits t.toNat := by
  unfold itZ
  rw [size_len']
  show (Lib.decDigits t.toNat).toArray.toList.length = _
  rw [List.toList_toArray, Lib.decDigits_length]
 have e : (10 : Nat) ^ 13 = 10000000000000 := by decide
 have := je1 12 t.toNat (by rw [e]; omega)
 omega
def jru (what : Int) (PF GO A : ByteArray) (B Z : Int) (S : Bool) : ByteArray :=
 if what = 4 then PF else if what = 5 then GO else if S = false then ⟨#[]⟩ else if what = 1 then A else if what = 2 then itZ Z else itZ B
theorem jvr (F : ByteArray → Int → Option Fnd) (x : Con) (what : Int) (t : ByteArray) (k : Nat) (kd : Int) (ad : ByteArray) (hq : jo x.call = some (t, k, kd, ad)) :
 jt1 F x what = jru what (t.extract 0 (k + 1)) x.got ((F x.call x.tm).getD x8).1 ((F x.call x.tm).getD x8).2.1 ((F x.call x.tm).getD x8).2.2 (F x.call x.tm).isSome := by
 unfold jt1 jru jr0
 rw [hq]
 cases F x.call x.tm <;> rfl
set_option maxRecDepth 100000 in
set_option maxHeartbeats 32000000 in
theorem jmg (base base2 gS gT bB bW : Nat) (u v rv mv : Value) (c : Cst) (x : Con) (m : Mul) (pb : Nat) (w : World) (h : ScAt base base2 gS gT bB bW u v rv mv c w) (hk : ScOk c x) (hp : P10 pb w) (hm0 : 0 ≤ x.mode) (hm1 : x.mode ≤ 1000) (hz : ∀ f, j5 c.ents c.pfxs x.call x.tm = some f → 0 ≤ f.2.1 ∧ f.2.1 ≤ 1000000 ∧ 0 ≤ f.2.2 ∧ f.2.2 ≤ 1000000) (hzs : ∀ f, j5 c.ents c.pfxs x.call x.tm = some f → f.1.size ≤ 1000) :
 Calls Tryz.prog 116 #[.pointer (some ⟨gS, 0, none⟩), .agg #[.int .i64 x.tm, .int .i64 x.mode, .string x.band, .string x.call, .int .i64 x.sent, .int .i64 x.heard, .string x.gave, .string x.got], .agg #[.int .i64 m.what, .bool m.byBand, .bool m.byMode]] w fun e w' => e = .returned (.string (je2 (j5 c.ents c.pfxs) x m)) ∧ w.grownBy w' none := by
 obtain ⟨T, k, kd, ad, hq, _⟩ := jka x.call w hk.con.2.1 hk.con.2.2.1 hk.call
 rw [jot, jvr _ _ _ T k kd ad hq]
 have HPT : Hid (∀ W, Calls Tryz.prog 85 #[.string x.call] W fun r w' => r = .returned (.tuple #[.agg #[.string T, .string (T.extract 0 (k + 1)), .string (T.extract (k + 1) T.size), .int .i64 kd, .string ad], .bool true]) ∧ W.grownBy w' none) := fun W => by
  obtain ⟨T2, k2, kd2, ad2, hq2, hc⟩ := jka x.call W hk.con.2.1 hk.con.2.2.1 hk.call
  rw [hq] at hq2
  simp only [Option.some.injEq, Prod.mk.injEq] at hq2
  obtain ⟨rfl, rfl, rfl, rfl⟩ := hq2
  exact hc
 have HF1 : Hid (∀ W, w.grownBy W none → Calls Tryz.prog 56 #[.pointer (some ⟨gT, 0, none⟩), .string x.call, .int .i64 x.tm] W fun r w' => r = .returned (ju7 (j5 c.ents c.pfxs x.call x.tm)) ∧ W.grownBy w' none) := fun W hW => jn6 (h.grown hW) hk.tab _ _ hk.con.2.1 hk.con.2.2.1 hk.call
 unfold ju7 at HF1
 have hzz : 0 ≤ ((j5 c.ents c.pfxs x.call x.tm).getD x8).2.1 ∧ ((j5 c.ents c.pfxs x.call x.tm).getD x8).2.1 ≤ 1000000 ∧ 0 ≤ ((j5 c.ents c.pfxs x.call x.tm).getD x8).2.2 ∧ ((j5 c.ents c.pfxs x.call x.tm).getD x8).2.2 ≤ 1000000 := by
  cases hf : j5 c.ents c.pfxs x.call x.tm with
  | none => simp [x8]
  | some f => exact hz f hf
 have hsA : ((j5 c.ents c.pfxs x.call x.tm).getD x8).1.size ≤ 1000 := by
  cases hf : j5 c.ents c.pfxs x.call x.tm with
  | none => exact Nat.zero_le _
  | some f => exact hzs f hf
 have hsB : x.band.size ≤ 1000 := hk.con.1
 have hsG : x.got.size ≤ 1000 := hk.con.2.2.2.2
 have hsP : (T.extract 0 (k + 1)).size ≤ 1000 := by have h1 : T.size ≤ 100 := (jbo hq).1; rw [ByteArray.size_extract]; omega
 have hsM := jbm (show x.mode ≤ 1000000000000 by omega)
 have hb := h.blk
 have s8 := hb.cell 8
 simp only [geA, geZ, geS] at s8
 generalize j5 c.ents c.pfxs x.call x.tm = o1 at *
 obtain ⟨A1, hA1⟩ : ∃ z, (o1.getD x8).1 = z := ⟨_, rfl⟩
 obtain ⟨B1, hB1⟩ : ∃ z, (o1.getD x8).2.1 = z := ⟨_, rfl⟩
 obtain ⟨Z1, hZ1⟩ : ∃ z, (o1.getD x8).2.2 = z := ⟨_, rfl⟩
 obtain ⟨S1, hS1⟩ : ∃ z, o1.isSome = z := ⟨_, rfl⟩
 rw [hA1, hB1, hZ1, hS1] at HF1 ⊢
 rw [hB1, hZ1] at hzz
 rw [hA1] at hsA
 obtain ⟨z0, z1, z2, z3⟩ := hzz
 have HIB : Hid (∀ W, w.grownBy W none → Calls Tryz.prog 174 #[.int .i64 B1] W fun e w' => e = .returned (.string (itZ B1)) ∧ W.grownBy w' none) := fun W hW => jeu pb B1 W z0 (by omega) (hp.grown hW)
 have HIZ : Hid (∀ W, w.grownBy W none → Calls Tryz.prog 174 #[.int .i64 Z1] W fun e w' => e = .returned (.string (itZ Z1)) ∧ W.grownBy w' none) := fun W hW => jeu pb Z1 W z2 (by omega) (hp.grown hW)
 have HIM : Hid (∀ W, w.grownBy W none → Calls Tryz.prog 174 #[.int .i64 x.mode] W fun e w' => e = .returned (.string (itZ x.mode)) ∧ W.grownBy w' none) := fun W hW => jeu pb x.mode W hm0 (by omega) (hp.grown hW)
 have hsZ := jbm (show Z1 ≤ 1000000000000 by omega)
 have hsC := jbm (show B1 ≤ 1000000000000 by omega)
 generalize T.extract 0 (k + 1) = PF at *
 generalize T.extract (k + 1) T.size = PS at *
 have HN0 : Hid (jru m.what PF x.got A1 B1 Z1 S1 = if m.what = 4 then PF else if m.what = 5 then x.got else if S1 = false then ⟨#[]⟩ else if m.what = 1 then A1 else if m.what = 2 then itZ Z1 else itZ B1) := rfl
 generalize jru m.what PF x.got A1 B1 Z1 S1 = N0 at *
 generalize itZ x.mode = IM at *
 generalize itZ Z1 = IZ at *
 generalize itZ B1 = IB at *
 obtain ⟨R, hR⟩ : ∃ z, jsr N0 m.byBand m.byMode x.band IM = z := ⟨_, rfl⟩
 rw [hR]
 have HRQ := Lib.hid hR
 clear hR hA1 hB1 hZ1 hS1 hq hz hm0 hm1 hp z0 z1 z2 z3 hzs
 generalize x.tm = Tm at *
 generalize x.mode = Mo at *
 generalize x.band = BD at *
 generalize x.call = CL at *
 generalize x.sent = SE at *
 generalize x.heard = HE at *
 generalize x.gave = GA at *
 generalize x.got = GO at *
 generalize m.what = wh at *
 generalize m.byBand = bb at *
 generalize m.byMode = bm at *
 have hX := Blk.new w 50 #[.int .i64 Tm, .int .i64 Mo, .string BD, .string CL, .int .i64 SE, .int .i64 HE, .string GA, .string GO]
 have hgX := World.grownBy_alloc w (.cells #[.int .i64 Tm, .int .i64 Mo, .string BD, .string CL, .int .i64 SE, .int .i64 HE, .string GA, .string GO] 50) none
 have hM := Blk.new (w.alloc (.cells #[.int .i64 Tm, .int .i64 Mo, .string BD, .string CL, .int .i64 SE, .int .i64 HE, .string GA, .string GO] 50)) 38 #[.int .i64 wh, .bool bb, .bool bm]
 have hgM := World.grownBy_alloc (w.alloc (.cells #[.int .i64 Tm, .int .i64 Mo, .string BD, .string CL, .int .i64 SE, .int .i64 HE, .string GA, .string GO] 50)) (.cells #[.int .i64 wh, .bool bb, .bool bm] 38) none
 have hX2 := hX.grown hgM (by simp)
 have hgA := ja hgX hgM
 have s8a := hgA.cell s8 (by simp)
 clear h hk hb hX hgX hgM s8 o1
 go_enter Tryz.func116, Tryz.ntmps116
 go_upto_region 2 with fail
 have e1 : (w.alloc (.cells #[.int .i64 Tm, .int .i64 Mo, .string BD, .string CL, .int .i64 SE, .int .i64 HE, .string GA, .string GO] 50)).heap.size = w.heap.size + 1 := by simp
 rw [e1] at hM
 (try rw [e1])
 clear e1
 generalize (w.alloc (.cells #[.int .i64 Tm, .int .i64 Mo, .string BD, .string CL, .int .i64 SE, .int .i64 HE, .string GA, .string GO] 50)).alloc (.cells #[.int .i64 wh, .bool bb, .bool bm] 38) = w0 at *
 obtain ⟨gX, hgX⟩ : ∃ g, w.heap.size = g := ⟨_, rfl⟩
 rw [hgX] at hM hX2
 (try rw [hgX])
 clear hgX
 obtain ⟨x0, x1, x2, x3, x4, x5, x6, x7⟩ := qh hX2
 have m0 := hM.cell 0
 have m1 := hM.cell 1
 have m2 := hM.cell 2
 simp only [geA, geZ, geS] at m0 m1 m2
 have HKC : Hid (∀ V, w0.grownBy V none → V.cell? ⟨gS, 8, none⟩ = some (.pointer (some ⟨gT, 0, none⟩)) ∧ V.cell? ⟨gX, 3, none⟩ = some (.string CL) ∧ V.cell? ⟨gX, 0, none⟩ = some (.int .i64 Tm)) := fun V hV => ⟨hV.cell s8a (by simp), hV.cell x3 (by simp), hV.cell x0 (by simp)⟩
 have HX := Lib.hid hX2
 have HM := Lib.hid hM
 clear x0 x1 x2 x3 x4 x5 x6 x7 m0 m1 m2 hX2 hM s8a
 refine jx [13] (fun V => V.cell? ⟨gS, 8, none⟩ = some (.pointer (some ⟨gT, 0, none⟩)) ∧ V.cell? ⟨gX, 3, none⟩ = some (.string CL) ∧ V.cell? ⟨gX, 0, none⟩ = some (.int .i64 Tm)) (by kernel_rfl) ?_
 have hG : w0.grownBy w0.drew none := jn (jf _ _)
 generalize w0.drew = W at *
 revert hG
 revert W
 refine' qf ?h8_12 ?k8_12
 case' k8_12 =>
  intro H8_12
  refine' qf ?h8 ?k8
 case' k8 =>
  intro H8
  refine' qf ?h12 ?k12
 case' k12 => intro H12
 case k12 =>
  intro W hG
  refine tkA 0 13 (fun _ => HKC.out _ hG) ?_
  simp only [Act.put, ssA, ssZ, ssS]
  refine tkA 1 14 (fun _ => HKC.out _ hG) ?_
  simp only [Act.put, ssA, ssZ, ssS]
  refine tkA 2 15 (fun _ => HKC.out _ hG) ?_
  simp only [Act.put, ssA, ssZ, ssS]
  refine tkL 3 16 (HKC.out _ hG) ?_
  simp only [Act.put, ssA, ssZ, ssS]
  refine tkA 4 17 (fun _ => HKC.out _ hG) ?_
  simp only [Act.put, ssA, ssZ, ssS]
  refine tkL 5 18 (HKC.out _ hG) ?_
  simp only [Act.put, ssA, ssZ, ssS]
  refine tkA 6 19 (fun _ => HKC.out _ hG) ?_
  simp only [Act.put, ssA, ssZ, ssS]
  refine tkL 7 20 (HKC.out _ hG) ?_
  simp only [Act.put, ssA, ssZ, ssS]
  refine je (rs := [8, 12]) (by kernel_rfl) (by simp) ?_
  refine AllLate.cons (o := _) rfl (fun K hK => ?n2) (AllLate.cons (o := _) rfl (fun K hK => ?n1) AllLate.nil)
  case n2 =>
   go_simp
   (go_at_call 56; refine (HF1.out _ (ja hgA hG)).mono ?_; rintro _ W2 ⟨rfl, hg2⟩)
   replace hG := ja hG hg2
   clear hg2
   refine hK.out _ _ (fun _ => HKC.out _ hG) ?_
   clear hK K
   (try simp only [Act.put, ssA, ssZ, ssS])
   refine jh (listed' := #[true, true, true, true, true, true, true, true, true, false, false, false, false, false, false]) (by kernel_rfl) ?_
   revert hG
   revert W2
   exact H8.out
  case n1 =>
   go_simp
   have hF := Blk.new W 53 #[.string ⟨#[]⟩, .int .i64 0, .int .i64 0]
   have hFl := hG.size
   replace hG := jd hG (.cells #[.string ⟨#[]⟩, .int .i64 0, .int .i64 0] 53)
   generalize W.alloc (.cells #[.string ⟨#[]⟩, .int .i64 0, .int .i64 0] 53) = W2 at *
   generalize W.heap.size = gF at *
   refine hK.out _ _ (fun _ => HKC.out _ hG) ?_
   clear hK K
   (try simp only [Act.put, ssA, ssZ, ssS])
   refine jh (listed' := #[true, true, true, true, true, true, true, true, false, false, false, false, true, false, false]) (by kernel_rfl) ?_
   revert hF
   revert hFl
   revert hG
   revert gF
   revert W2
   exact H12.out
 case h12 =>
  intro W gF hG hFl hF
  refine je (rs := [8]) (by kernel_rfl) (by simp) ?_
  refine AllLate.cons (o := _) rfl (fun K hK => ?n3) AllLate.nil
  case n3 =>
   go_simp
   (go_at_call 56; refine (HF1.out _ (ja hgA hG)).mono ?_; rintro _ W2 ⟨rfl, hg2⟩)
   replace hG := ja hG hg2
   replace hF := Blk.grown hF hg2 (by simp)
   clear hg2
   refine hK.out _ _ (fun _ => HKC.out _ hG) ?_
   clear hK K
   (try simp only [Act.put, ssA, ssZ, ssS])
   refine tkA 9 12 (fun _ => HKC.out _ hG) ?_
   simp only [Act.put, ssA, ssZ, ssS]
   refine tkA 10 22 (fun _ => HKC.out _ hG) ?_
   simp only [Act.put, ssA, ssZ, ssS]
   refine tkA 11 23 (fun _ => HKC.out _ hG) ?_
   simp only [Act.put, ssA, ssZ, ssS]
   refine jh (listed' := #[true, true, true, true, true, true, true, true, true, true, true, true, true, false, false]) (by kernel_rfl) ?_
   revert hF
   revert hFl
   revert hG
   revert gF
   revert W2
   exact H8_12.out
 case h8 =>
  intro W hG
  refine tkA 9 12 (fun _ => HKC.out _ hG) ?_
  simp only [Act.put, ssA, ssZ, ssS]
  refine tkA 10 22 (fun _ => HKC.out _ hG) ?_
  simp only [Act.put, ssA, ssZ, ssS]
  refine tkA 11 23 (fun _ => HKC.out _ hG) ?_
  simp only [Act.put, ssA, ssZ, ssS]
  refine je (rs := [12]) (by kernel_rfl) (by simp) ?_
  refine AllLate.cons (o := _) rfl (fun K hK => ?n4) AllLate.nil
  case n4 =>
   go_simp
   have hF := Blk.new W 53 #[.string ⟨#[]⟩, .int .i64 0, .int .i64 0]
   have hFl := hG.size
   replace hG := jd hG (.cells #[.string ⟨#[]⟩, .int .i64 0, .int .i64 0] 53)
   generalize W.alloc (.cells #[.string ⟨#[]⟩, .int .i64 0, .int .i64 0] 53) = W2 at *
   generalize W.heap.size = gF at *
   refine hK.out _ _ (fun _ => HKC.out _ hG) ?_
   clear hK K
   (try simp only [Act.put, ssA, ssZ, ssS])
   refine jh (listed' := #[true, true, true, true, true, true, true, true, true, true, true, true, true, false, false]) (by kernel_rfl) ?_
   revert hF
   revert hFl
   revert hG
   revert gF
   revert W2
   exact H8_12.out
 case h8_12 =>
  intro W gF hG hFl hF
  have k0 := hF.cell 0
  have k1 := hF.cell 1
  have k2 := hF.cell 2
  simp only [geA, geZ, geS] at k0 k1 k2
  have f0 := hF.free 0
  have f1 := hF.free 1
  have f2 := hF.free 2
  have hF2 : Blk (((W.setCell ⟨gF, 0, none⟩ (.string A1)).setCell ⟨gF, 1, none⟩ (.int .i64 B1)).setCell ⟨gF, 2, none⟩ (.int .i64 Z1)) gF 53 #[.string A1, .int .i64 B1, .int .i64 Z1] := ((hF.put 0 _).put 1 _).put 2 _
  have hG2 : w0.grownBy (((W.setCell ⟨gF, 0, none⟩ (.string A1)).setCell ⟨gF, 1, none⟩ (.int .i64 B1)).setCell ⟨gF, 2, none⟩ (.int .i64 Z1)) none := jg (p := ⟨gF, 2, none⟩) (jg (p := ⟨gF, 1, none⟩) (jg (p := ⟨gF, 0, none⟩) hG (.inr hFl) _) (.inr hFl) _) (.inr hFl) _
  refine je (rs := [13]) (by kernel_rfl) (by simp) ?_
  refine AllLate.cons (o := _) rfl (fun K hK => ?_) AllLate.nil
  go_simp
  refine hK.out _ _ (fun h => Bool.noConfusion (show false = true from h)) ?_
  clear hK K
  (try simp only [Act.put, ssA, ssZ, ssS])
  refine tkA 14 9 (fun h => Bool.noConfusion (show false = true from h)) ?_
  simp only [Act.put, ssA, ssZ, ssS]
  refine qe (by kernel_rfl) ?_ _
  generalize ((W.setCell ⟨gF, 0, none⟩ (.string A1)).setCell ⟨gF, 1, none⟩ (.int .i64 B1)).setCell ⟨gF, 2, none⟩ (.int .i64 Z1) = w3 at *
  clear k0 k1 k2 f0 f1 f2 hF hG HKC hFl HF1
  have x3w := (HX.out.grown hG2 (by simp)).cell 3
  simp only [geA, geZ, geS] at x3w
  go_wp2_with fail
  refine (HPT.out _).mono ?_
  rintro _ w4 ⟨rfl, hg4⟩
  clear x3w
  have hP := Blk.new w4 87 #[.string T, .string PF, .string PS, .int .i64 kd, .string ad]
  have hg5 := World.grownBy_alloc w4 (.cells #[.string T, .string PF, .string PS, .int .i64 kd, .string ad] 87) none
  have hg35 := ja hg4 hg5
  have hg05 := ja hG2 hg35
  have hF5 := hF2.grown hg35 (by simp)
  have hX5 := HX.out.grown hg05 (by simp)
  have hM5 := HM.out.grown hg05 (by simp)
  have hGa := ja hgA hg05
  go_upto_region 5 with fail
  generalize w4.alloc (.cells #[.string T, .string PF, .string PS, .int .i64 kd, .string ad] 87) = w5 at *
  generalize w4.heap.size = gP at *
  clear hG2 hg4 hg5 hg35 hg05 hF2 HX HM hgA HPT
  obtain ⟨x0, x1, x2, x3, x4, x5, x6, x7⟩ := qh hX5
  have m0 := hM5.cell 0
  have m1 := hM5.cell 1
  have m2 := hM5.cell 2
  have a0 := hF5.cell 0
  have a1 := hF5.cell 1
  have a2 := hF5.cell 2
  have p1 := hP.cell 1
  simp only [geA, geZ, geS] at m0 m1 m2 a0 a1 a2 p1
  clear hP hF5
  by_cases w4e : wh = 4
  ·have HN : Hid (N0 = PF) := by show _ = _; rw [HN0.out, if_pos w4e]
   clear HN0 HIB HIZ
   subst w4e
   cases hE : (PF.toList == [])
   ·skip
    have HR : Hid (R = (if bm then (if bb then PF ++ (⟨#[32]⟩ ++ BD) else PF) ++ (⟨#[32]⟩ ++ IM) else (if bb then PF ++ (⟨#[32]⟩ ++ BD) else PF))) := by show _ = _; rw [← HRQ.out, HN.out]; exact jij _ _ _ _ hE
    clear HRQ HN
    have sz1 : (⟨#[32]⟩ : ByteArray).size + BD.size ≤ 9223372036854775807 := by show 1 + BD.size ≤ _; omega
    have sz2 : PF.size + ((⟨#[32]⟩ : ByteArray) ++ BD).size ≤ 9223372036854775807 := by rw [ByteArray.size_append]; show PF.size + (1 + BD.size) ≤ _; omega
    have sz3 : (⟨#[32]⟩ : ByteArray).size + IM.size ≤ 9223372036854775807 := by show 1 + IM.size ≤ _; omega
    have sz4 : PF.size + ((⟨#[32]⟩ : ByteArray) ++ IM).size ≤ 9223372036854775807 := by rw [ByteArray.size_append]; show PF.size + (1 + IM.size) ≤ _; omega
    have sz5 : (PF ++ ((⟨#[32]⟩ : ByteArray) ++ BD)).size + ((⟨#[32]⟩ : ByteArray) ++ IM).size ≤ 9223372036854775807 := by rw [ByteArray.size_append, ByteArray.size_append, ByteArray.size_append]; show PF.size + (1 + BD.size) + (1 + IM.size) ≤ _; omega
    cases bb
    ·skip
     cases bm
     ·skip
      go_wp2_with fail
      go_ret
      exact ⟨by rw [HR.out]; rfl, hGa⟩
     skip
     go_wp2_with fail
     refine (HIM.out _ hGa).mono ?_
     rintro _ w9 ⟨rfl, hg9⟩
     go_wp2_with fail
     go_ret
     exact ⟨by rw [HR.out]; rfl, ja hGa hg9⟩
    skip
    cases bm
    ·skip
     go_wp2_with fail
     go_ret
     exact ⟨by rw [HR.out]; rfl, hGa⟩
    skip
    go_wp2_with fail
    refine (HIM.out _ hGa).mono ?_
    rintro _ w9 ⟨rfl, hg9⟩
    go_wp2_with fail
    go_ret
    exact ⟨by rw [HR.out]; rfl, ja hGa hg9⟩
   have HR : Hid (R = ⟨#[]⟩) := by show _ = _; rw [← HRQ.out, HN.out]; exact jf5 _ _ _ _ hE
   clear HRQ HN
   go_wp2_with fail
   go_ret
   exact ⟨by rw [HR.out]; rfl, hGa⟩
  by_cases w5e : wh = 5
  ·have HN : Hid (N0 = GO) := by show _ = _; rw [HN0.out, if_neg w4e, if_pos w5e]
   clear HN0 HIB HIZ w4e
   subst w5e
   cases hE : (GO.toList == [])
   ·skip
    have HR : Hid (R = (if bm then (if bb then GO ++ (⟨#[32]⟩ ++ BD) else GO) ++ (⟨#[32]⟩ ++ IM) else (if bb then GO ++ (⟨#[32]⟩ ++ BD) else GO))) := by show _ = _; rw [← HRQ.out, HN.out]; exact jij _ _ _ _ hE
    clear HRQ HN
    have sz1 : (⟨#[32]⟩ : ByteArray).size + BD.size ≤ 9223372036854775807 := by show 1 + BD.size ≤ _; omega
    have sz2 : GO.size + ((⟨#[32]⟩ : ByteArray) ++ BD).size ≤ 9223372036854775807 := by rw [ByteArray.size_append]; show GO.size + (1 + BD.size) ≤ _; omega
    have sz3 : (⟨#[32]⟩ : ByteArray).size + IM.size ≤ 9223372036854775807 := by show 1 + IM.size ≤ _; omega
    have sz4 : GO.size + ((⟨#[32]⟩ : ByteArray) ++ IM).size ≤ 9223372036854775807 := by rw [ByteArray.size_append]; show GO.size + (1 + IM.size) ≤ _; omega
    have sz5 : (GO ++ ((⟨#[32]⟩ : ByteArray) ++ BD)).size + ((⟨#[32]⟩ : ByteArray) ++ IM).size ≤ 9223372036854775807 := by rw [ByteArray.size_append, ByteArray.size_append, ByteArray.size_append]; show GO.size + (1 + BD.size) + (1 + IM.size) ≤ _; omega
    cases bb
    ·skip
     cases bm
     ·skip
      go_wp2_with fail
      go_ret
      exact ⟨by rw [HR.out]; rfl, hGa⟩
     skip
     go_wp2_with fail
     refine (HIM.out _ hGa).mono ?_
     rintro _ w9 ⟨rfl, hg9⟩
     go_wp2_with fail
     go_ret
     exact ⟨by rw [HR.out]; rfl, ja hGa hg9⟩
    skip
    cases bm
    ·skip
     go_wp2_with fail
     go_ret
     exact ⟨by rw [HR.out]; rfl, hGa⟩
    skip
    go_wp2_with fail
    refine (HIM.out _ hGa).mono ?_
    rintro _ w9 ⟨rfl, hg9⟩
    go_wp2_with fail
    go_ret
    exact ⟨by rw [HR.out]; rfl, ja hGa hg9⟩
   have HR : Hid (R = ⟨#[]⟩) := by show _ = _; rw [← HRQ.out, HN.out]; exact jf5 _ _ _ _ hE
   clear HRQ HN
   go_wp2_with fail
   go_ret
   exact ⟨by rw [HR.out]; rfl, hGa⟩
  cases S1
  ·have HR : Hid (R = ⟨#[]⟩) := by show _ = _; rw [← HRQ.out, HN0.out, if_neg w4e, if_neg w5e, if_pos (show (false : Bool) = false from rfl)]; exact jf5 _ _ _ _ (size_0.1 rfl)
   clear HN0 HIB HIZ HRQ HIM
   go_wp2_with fail
   go_ret
   exact ⟨by rw [HR.out]; rfl, hGa⟩
  by_cases w1e : wh = 1
  ·have HN : Hid (N0 = A1) := by show _ = _; rw [HN0.out, if_neg w4e, if_neg w5e, if_neg (show ¬ (true = false) by decide), if_pos w1e]
   clear HN0 HIB HIZ w4e w5e
   subst w1e
   cases hE : (A1.toList == [])
   ·skip
    have HR : Hid (R = (if bm then (if bb then A1 ++ (⟨#[32]⟩ ++ BD) else A1) ++ (⟨#[32]⟩ ++ IM) else (if bb then A1 ++ (⟨#[32]⟩ ++ BD) else A1))) := by show _ = _; rw [← HRQ.out, HN.out]; exact jij _ _ _ _ hE
    clear HRQ HN
    have sz1 : (⟨#[32]⟩ : ByteArray).size + BD.size ≤ 9223372036854775807 := by show 1 + BD.size ≤ _; omega
    have sz2 : A1.size + ((⟨#[32]⟩ : ByteArray) ++ BD).size ≤ 9223372036854775807 := by rw [ByteArray.size_append]; show A1.size + (1 + BD.size) ≤ _; omega
    have sz3 : (⟨#[32]⟩ : ByteArray).size + IM.size ≤ 9223372036854775807 := by show 1 + IM.size ≤ _; omega
    have sz4 : A1.size + ((⟨#[32]⟩ : ByteArray) ++ IM).size ≤ 9223372036854775807 := by rw [ByteArray.size_append]; show A1.size + (1 + IM.size) ≤ _; omega
    have sz5 : (A1 ++ ((⟨#[32]⟩ : ByteArray) ++ BD)).size + ((⟨#[32]⟩ : ByteArray) ++ IM).size ≤ 9223372036854775807 := by rw [ByteArray.size_append, ByteArray.size_append, ByteArray.size_append]; show A1.size + (1 + BD.size) + (1 + IM.size) ≤ _; omega
    cases bb
    ·skip
     cases bm
     ·skip
      go_wp2_with fail
      go_ret
      exact ⟨by rw [HR.out]; rfl, hGa⟩
     skip
     go_wp2_with fail
     refine (HIM.out _ hGa).mono ?_
     rintro _ w9 ⟨rfl, hg9⟩
     go_wp2_with fail
     go_ret
     exact ⟨by rw [HR.out]; rfl, ja hGa hg9⟩
    skip
    cases bm
    ·skip
     go_wp2_with fail
     go_ret
     exact ⟨by rw [HR.out]; rfl, hGa⟩
    skip
    go_wp2_with fail
    refine (HIM.out _ hGa).mono ?_
    rintro _ w9 ⟨rfl, hg9⟩
    go_wp2_with fail
    go_ret
    exact ⟨by rw [HR.out]; rfl, ja hGa hg9⟩
   have HR : Hid (R = ⟨#[]⟩) := by show _ = _; rw [← HRQ.out, HN.out]; exact jf5 _ _ _ _ hE
   clear HRQ HN
   go_wp2_with fail
   go_ret
   exact ⟨by rw [HR.out]; rfl, hGa⟩
  by_cases w2e : wh = 2
  ·have HN : Hid (N0 = IZ) := by show _ = _; rw [HN0.out, if_neg w4e, if_neg w5e, if_neg (show ¬ (true = false) by decide), if_neg w1e, if_pos w2e]
   clear HN0 HIB w4e w5e w1e
   subst w2e
   go_wp2_with fail
   refine (HIZ.out _ hGa).mono ?_
   rintro _ w6 ⟨rfl, hg6⟩
   have hX6 := hX5.grown hg6 (by simp)
   have hM6 := hM5.grown hg6 (by simp)
   have hGb := ja hGa hg6
   clear x0 x1 x2 x3 x4 x5 x6 x7 m0 m1 m2 a0 a1 a2 p1
   obtain ⟨x0, x1, x2, x3, x4, x5, x6, x7⟩ := qh hX6
   have m0 := hM6.cell 0
   have m1 := hM6.cell 1
   have m2 := hM6.cell 2
   simp only [geA, geZ, geS] at m0 m1 m2
   clear HIZ
   cases hE : (IZ.toList == [])
   ·skip
    have HR : Hid (R = (if bm then (if bb then IZ ++ (⟨#[32]⟩ ++ BD) else IZ) ++ (⟨#[32]⟩ ++ IM) else (if bb then IZ ++ (⟨#[32]⟩ ++ BD) else IZ))) := by show _ = _; rw [← HRQ.out, HN.out]; exact jij _ _ _ _ hE
    clear HRQ HN
    have sz1 : (⟨#[32]⟩ : ByteArray).size + BD.size ≤ 9223372036854775807 := by show 1 + BD.size ≤ _; omega
    have sz2 : IZ.size + ((⟨#[32]⟩ : ByteArray) ++ BD).size ≤ 9223372036854775807 := by rw [ByteArray.size_append]; show IZ.size + (1 + BD.size) ≤ _; omega
    have sz3 : (⟨#[32]⟩ : ByteArray).size + IM.size ≤ 9223372036854775807 := by show 1 + IM.size ≤ _; omega
    have sz4 : IZ.size + ((⟨#[32]⟩ : ByteArray) ++ IM).size ≤ 9223372036854775807 := by rw [ByteArray.size_append]; show IZ.size + (1 + IM.size) ≤ _; omega
    have sz5 : (IZ ++ ((⟨#[32]⟩ : ByteArray) ++ BD)).size + ((⟨#[32]⟩ : ByteArray) ++ IM).size ≤ 9223372036854775807 := by rw [ByteArray.size_append, ByteArray.size_append, ByteArray.size_append]; show IZ.size + (1 + BD.size) + (1 + IM.size) ≤ _; omega
    cases bb
    ·skip
     cases bm
     ·skip
      go_wp2_with fail
      go_ret
      exact ⟨by rw [HR.out]; rfl, hGb⟩
     skip
     go_wp2_with fail
     refine (HIM.out _ hGb).mono ?_
     rintro _ w9 ⟨rfl, hg9⟩
     go_wp2_with fail
     go_ret
     exact ⟨by rw [HR.out]; rfl, ja hGb hg9⟩
    skip
    cases bm
    ·skip
     go_wp2_with fail
     go_ret
     exact ⟨by rw [HR.out]; rfl, hGb⟩
    skip
    go_wp2_with fail
    refine (HIM.out _ hGb).mono ?_
    rintro _ w9 ⟨rfl, hg9⟩
    go_wp2_with fail
    go_ret
    exact ⟨by rw [HR.out]; rfl, ja hGb hg9⟩
   have HR : Hid (R = ⟨#[]⟩) := by show _ = _; rw [← HRQ.out, HN.out]; exact jf5 _ _ _ _ hE
   clear HRQ HN
   go_wp2_with fail
   go_ret
   exact ⟨by rw [HR.out]; rfl, hGb⟩
  have HN : Hid (N0 = IB) := by show _ = _; rw [HN0.out, if_neg w4e, if_neg w5e, if_neg (show ¬ (true = false) by decide), if_neg w1e, if_neg w2e]
  clear HN0 HIZ
  go_wp2_with fail
  refine (HIB.out _ hGa).mono ?_
  rintro _ w6 ⟨rfl, hg6⟩
  have hX6 := hX5.grown hg6 (by simp)
  have hM6 := hM5.grown hg6 (by simp)
  have hGb := ja hGa hg6
  clear x0 x1 x2 x3 x4 x5 x6 x7 m0 m1 m2 a0 a1 a2 p1
  obtain ⟨x0, x1, x2, x3, x4, x5, x6, x7⟩ := qh hX6
  have m0 := hM6.cell 0
  have m1 := hM6.cell 1
  have m2 := hM6.cell 2
  simp only [geA, geZ, geS] at m0 m1 m2
  clear HIB
  cases hE : (IB.toList == [])
  ·skip
   have HR : Hid (R = (if bm then (if bb then IB ++ (⟨#[32]⟩ ++ BD) else IB) ++ (⟨#[32]⟩ ++ IM) else (if bb then IB ++ (⟨#[32]⟩ ++ BD) else IB))) := by show _ = _; rw [← HRQ.out, HN.out]; exact jij _ _ _ _ hE
   clear HRQ HN
   have sz1 : (⟨#[32]⟩ : ByteArray).size + BD.size ≤ 9223372036854775807 := by show 1 + BD.size ≤ _; omega
   have sz2 : IB.size + ((⟨#[32]⟩ : ByteArray) ++ BD).size ≤ 9223372036854775807 := by rw [ByteArray.size_append]; show IB.size + (1 + BD.size) ≤ _; omega
   have sz3 : (⟨#[32]⟩ : ByteArray).size + IM.size ≤ 9223372036854775807 := by show 1 + IM.size ≤ _; omega
   have sz4 : IB.size + ((⟨#[32]⟩ : ByteArray) ++ IM).size ≤ 9223372036854775807 := by rw [ByteArray.size_append]; show IB.size + (1 + IM.size) ≤ _; omega
   have sz5 : (IB ++ ((⟨#[32]⟩ : ByteArray) ++ BD)).size + ((⟨#[32]⟩ : ByteArray) ++ IM).size ≤ 9223372036854775807 := by rw [ByteArray.size_append, ByteArray.size_append, ByteArray.size_append]; show IB.size + (1 + BD.size) + (1 + IM.size) ≤ _; omega
   cases bb
   ·skip
    cases bm
    ·skip
     go_wp2_with fail
     go_ret
     exact ⟨by rw [HR.out]; rfl, hGb⟩
    skip
    go_wp2_with fail
    refine (HIM.out _ hGb).mono ?_
    rintro _ w9 ⟨rfl, hg9⟩
    go_wp2_with fail
    go_ret
    exact ⟨by rw [HR.out]; rfl, ja hGb hg9⟩
   skip
   cases bm
   ·skip
    go_wp2_with fail
    go_ret
    exact ⟨by rw [HR.out]; rfl, hGb⟩
   skip
   go_wp2_with fail
   refine (HIM.out _ hGb).mono ?_
   rintro _ w9 ⟨rfl, hg9⟩
   go_wp2_with fail
   go_ret
   exact ⟨by rw [HR.out]; rfl, ja hGb hg9⟩
  have HR : Hid (R = ⟨#[]⟩) := by show _ = _; rw [← HRQ.out, HN.out]; exact jf5 _ _ _ _ hE
  clear HRQ HN
  go_wp2_with fail
  go_ret
  exact ⟨by rw [HR.out]; rfl, hGb⟩
def jwj (q : Nat × ByteArray) : List Value := [.int .i64 (q.1 : Int), .string q.2]
def NamsFrom (base : Nat) (w : World) (v : Value) (l : List (Nat × ByteArray)) : Prop := w.ownsRow base 119 2 v l.length (l.flatMap jwj)
theorem NamsFrom.grown {base : Nat} {w w' : World} {v : Value} {l : List (Nat × ByteArray)} (h : NamsFrom base w v l) (hg : w.grownBy w' none) : NamsFrom base w' v l := j7 h hg
theorem NamsFrom.nil (base : Nat) (w : World) : NamsFrom base w (.slice none 0 0) [] := World.ownsRow_nil _ _ _ _
theorem NamsFrom.shape {base : Nat} {w : World} {v : Value} {l : List (Nat × ByteArray)} (h : NamsFrom base w v l) :
 ∃ A c, v = .slice A l.length c ∧ l.length ≤ 9223372036854775807 ∧ (0 < l.length → ∃ g, A = some ⟨g, 0, none⟩ ∧ base ≤ g ∧ g < w.heap.size) := j1 h
theorem NamsFrom.at_ {base : Nat} {w : World} {g c : Nat} {l : List (Nat × ByteArray)} (h : NamsFrom base w (.slice (some ⟨g, 0, none⟩) l.length c) l) (k : Nat) (hk : k < l.length) :
 w.cell? ⟨g, k * 2, none⟩ = some (.int .i64 (l[k].1 : Int)) ∧ w.cell? ⟨g, k * 2 + 1, none⟩ = some (.string l[k].2) := by
 have hf := jb7 jwj 2 (fun _ => rfl) l k
 have h0 := hf 0 hk (by decide)
 rw [Nat.add_zero] at h0
 refine ⟨?_, ?_⟩
 ·rw [World.ownsRow.cellAt h _ (by omega), h0]; rfl
 rw [World.ownsRow.cellAt h _ (by omega), hf 1 hk (by decide)]; rfl
theorem jt2 : (Tryz.prog.info? 119).map (fun i => (i.zero, i.size, i.bytes)) = some (some (.agg #[.int .i64 0, .string ⟨#[]⟩]), 2, 24) := by kernel_rfl
theorem jrw (a : Int) (b : ByteArray) : ∀ u ∈ [Value.int .i64 a, .string b], u.oneCell' = true := by
 intro u hu; simp at hu; rcases hu with rfl | rfl <;> rfl
structure NamOk (c : Cst) (x : Con) : Prop where
 m0 : 0 ≤ x.mode
 m1 : x.mode ≤ 1000
 z : ∀ f, j5 c.ents c.pfxs x.call x.tm = some f → 0 ≤ f.2.1 ∧ f.2.1 ≤ 1000000 ∧ 0 ≤ f.2.2 ∧ f.2.2 ≤ 1000000
 s : ∀ f, j5 c.ents c.pfxs x.call x.tm = some f → f.1.size ≤ 1000
 l : c.muls.length ≤ 10
theorem xg (F : ByteArray → Int → Option Fnd) (ms : List Mul) (x : Con) : ∀ k, (j3 F ms x k).length ≤ k
 | 0 => Nat.le_refl _
 | k + 1 => by
   have := xg F ms x k
   unfold j3
   rw [List.length_append]
   split
   ·simp; omega
   simp; omega
set_option maxRecDepth 100000 in
set_option maxHeartbeats 16000000 in
theorem jou (base base2 gS gT bB bW : Nat) (u v rv mv : Value) (c : Cst) (x : Con) (pb : Nat) (w : World) (h : ScAt base base2 gS gT bB bW u v rv mv c w) (hk : ScOk c x) (hp : P10 pb w) (hn : NamOk c x) :
 Calls Tryz.prog 64 #[.pointer (some ⟨gS, 0, none⟩), .agg #[.int .i64 x.tm, .int .i64 x.mode, .string x.band, .string x.call, .int .i64 x.sent, .int .i64 x.heard, .string x.gave, .string x.got]] w fun e w' => ∃ o, e = .returned o ∧ NamsFrom w.heap.size w' o (j3 (j5 c.ents c.pfxs) c.muls x c.muls.length) ∧ w.grownBy w' none := by
 obtain ⟨i0, hi0, hz0, hz1, hz2⟩ := info_parts jt2
 have hml := hn.l
 have HM := Lib.hid h.cst.muls
 obtain ⟨A, ca, hmv, hla, hA⟩ := HM.out.shape
 have HA := Lib.hid hA
 have HN : Hid (∀ (m : Mul) W, w.grownBy W none → Calls Tryz.prog 116 #[.pointer (some ⟨gS, 0, none⟩), .agg #[.int .i64 x.tm, .int .i64 x.mode, .string x.band, .string x.call, .int .i64 x.sent, .int .i64 x.heard, .string x.gave, .string x.got], .agg #[.int .i64 m.what, .bool m.byBand, .bool m.byMode]] W fun e w' => e = .returned (.string (je2 (j5 c.ents c.pfxs) x m)) ∧ W.grownBy w' none) := fun m W hW => jmg base base2 gS gT bB bW u v rv mv c x m pb W (h.grown hW) hk (hp.grown hW) hn.m0 hn.m1 hn.z hn.s
 subst hmv
 have HS := Lib.hid h.blk
 generalize c.own = own at *
 have HST : Hid (∀ k (hk : k < c.muls.length), j3 (j5 c.ents c.pfxs) c.muls x (k + 1) = j3 (j5 c.ents c.pfxs) c.muls x k ++ (if (je2 (j5 c.ents c.pfxs) x c.muls[k]).size = 0 then [] else [(k, je2 (j5 c.ents c.pfxs) x c.muls[k])])) := fun k hk => jj6 _ _ _ k hk
 have HLN : Hid (∀ k, (j3 (j5 c.ents c.pfxs) c.muls x k).length ≤ k) := fun k => xg _ _ _ k
 have HU0 : Hid (j3 (j5 c.ents c.pfxs) c.muls x 0 = []) := rfl
 obtain ⟨NU, hNU⟩ : ∃ f, j3 (j5 c.ents c.pfxs) c.muls x = f := ⟨_, rfl⟩
 obtain ⟨NO, hNO⟩ : ∃ f, je2 (j5 c.ents c.pfxs) x = f := ⟨_, rfl⟩
 rw [hNU, hNO] at HST
 rw [hNU] at HLN HU0 ⊢
 rw [hNO] at HN
 clear hNU hNO
 generalize x.tm = Tm at *
 generalize x.mode = Mo at *
 generalize x.band = BD at *
 generalize x.call = CL at *
 generalize x.sent = SE at *
 generalize x.heard = HE at *
 generalize x.gave = GA at *
 generalize x.got = GO at *
 have hX := Blk.new w 50 #[.int .i64 Tm, .int .i64 Mo, .string BD, .string CL, .int .i64 SE, .int .i64 HE, .string GA, .string GO]
 have hgX := World.grownBy_alloc w (.cells #[.int .i64 Tm, .int .i64 Mo, .string BD, .string CL, .int .i64 SE, .int .i64 HE, .string GA, .string GO] 50) none
 obtain ⟨B, hB⟩ : ∃ b, w.heap.size = b := ⟨_, rfl⟩
 have HB := Lib.hid hB
 rw [hB] at hX ⊢
 clear h hk hp hn hA hB
 go_enter Tryz.func64, Tryz.ntmps64
 go_upto_region 2 with fail
 generalize w.alloc (.cells #[.int .i64 Tm, .int .i64 Mo, .string BD, .string CL, .int .i64 SE, .int .i64 HE, .string GA, .string GO] 50) = w0 at *
 (try rw [HB.out])
 have s6 := (HS.out.grown hgX (by simp)).cell 6
 simp only [geA, geZ, geS] at s6
 go_wp2_with fail
 clear s6
 go_loopw [5, 15] (fun ov kv wr => ∃ k : Nat, k ≤ c.muls.length ∧ kv = .int .i64 k ∧ Hid (NamsFrom (B + 1) wr ov (NU k)) ∧ Blk wr B 50 #[.int .i64 Tm, .int .i64 Mo, .string BD, .string CL, .int .i64 SE, .int .i64 HE, .string GA, .string GO] ∧ w.grownBy wr none) (fun _ kv _ => c.muls.length - (intOf kv).toNat)
 case atStart => exact ⟨0, by omega, rfl, (show NamsFrom _ _ _ _ by rw [HU0.out]; exact NamsFrom.nil _ _), hX, hgX⟩
 case round =>
  obtain ⟨k, hk, rfl, HO, hXr, hg⟩ := hrel
  clear hX hgX
  obtain ⟨A2, c2, rfl, _, hA2⟩ := HO.out.shape
  have hLOk := HLN.out k
  obtain ⟨LO, hLO⟩ : ∃ LO, (NU k).length = LO := ⟨_, rfl⟩
  have HLO := Lib.hid hLO
  rw [hLO] at HO hLOk
  (try rw [hLO])
  clear hLO hA2
  by_cases hlt : k < c.muls.length
  ·have hki : (k : Int) < (c.muls.length : Int) := by omega
   obtain ⟨g, rfl, _, _⟩ := HA.out (by omega)
   obtain ⟨q0, q1, q2⟩ := (HM.out.grown hg).at_ k hlt
   have hst := HST.out k hlt
   have HN1 := Lib.hid (HN.out c.muls[k])
   generalize c.muls[k].what = wh at *
   generalize c.muls[k].byBand = bb at *
   generalize c.muls[k].byMode = bm at *
   generalize NO c.muls[k] = T at *
   have HST2 := Lib.hid hst
   have hMb := Blk.new wr 38 #[.int .i64 wh, .bool bb, .bool bm]
   have hgM := World.grownBy_alloc wr (.cells #[.int .i64 wh, .bool bb, .bool bm] 38) none
   have hXm := hXr.grown hgM (by simp)
   clear hst
   go_upto_region 5 with fail
   generalize wr.alloc (.cells #[.int .i64 wh, .bool bb, .bool bm] 38) = w5 at *
   generalize wr.heap.size = gM at *
   obtain ⟨x0, x1, x2, x3, x4, x5, x6, x7⟩ := qh hXm
   have m0 := hMb.cell 0
   have m1 := hMb.cell 1
   have m2 := hMb.cell 2
   simp only [geA, geZ, geS] at m0 m1 m2
   have hg5 := ja hg hgM
   go_wp2_with fail
   refine (HN1.out _ hg5).mono ?_
   rintro _ w6 ⟨rfl, hg6⟩
   have hg06 := ja hg5 hg6
   have hX6 := hXm.grown hg6 (by simp)
   have HO6 := Lib.hid (HO.out.grown (ja hgM hg6))
   clear x0 x1 x2 x3 x4 x5 x6 x7 m0 m1 m2 q0 q1 q2 hXm hMb hgM hg5 hg6 HN1 hXr hg
   cases hE : (T.toList == [])
   ·have HS2 : Hid (NU (k + 1) = NU k ++ [(k, T)]) := by
     show _ = _
     rw [HST2.out, if_neg (fun h2 => by rw [size_0.1 h2] at hE; cases hE)]
    have hownR : w6.ownsRow (B + 1) 119 2 (.slice A2 LO c2) LO ((NU k).flatMap jwj) := by
     have h := HO6.out
     unfold NamsFrom at h
     rw [HLO.out] at h
     exact h
    have HOR := Lib.hid hownR
    have hwg := hX6.lt
    clear hownR
    have hEn : (T.toList != []) = true := by rw [bne, hE]; rfl
    go_wp2_with (at_builtin; refine wpList_append_own _ rfl _ _ 116 rfl (B + 1) 119 i0 _ 2 24 Tryz.underlying116 hi0 hz0 hz1 hz2 rfl (by decide) _ LO _ rfl (World.ownsRow.alloc HOR.out _) ⟨_, 0, none⟩ 1 1 [.int .i64 k, .string T] rfl rfl (World.news_of_block (Blk.new _ _ _)) (jrw _ _) (by unfold maxLen; omega) (by omega) (by simp; omega) ?_; intro v' w7 hownB hgrB _)
    have hown7 : NamsFrom (B + 1) w7 v' (NU (k + 1)) := by
     rw [HS2.out]
     unfold NamsFrom
     rw [List.flatMap_append, List.length_append, HLO.out]
     exact hownB
    have hG7 : w.grownBy w7 none := jk (jd hg06 _) hgrB (fun g e => .inr (by have := (HOR.out.lt g e).1; have := HB.out; omega))
    have hX7 := (hX6.alloc (.cells #[.int .i64 k, .string T] 119)).grown hgrB (fun e => by have := (HOR.out.lt _ e.symm).1; omega)
    go_wp2_with fail
    go_roundw
    case rel => exact ⟨k + 1, by omega, by go_num, hown7, hX7, hG7⟩
    case measure => simp [intOf]; omega
   have HS2 : Hid (NU (k + 1) = NU k) := by
    show _ = _
    rw [HST2.out, if_pos (size_0.2 hE), List.append_nil]
   have hEn : (T.toList != []) = false := by rw [bne, hE]; rfl
   go_wp2_with fail
   go_roundw
   case rel => exact ⟨k + 1, by omega, by go_num, (show NamsFrom _ _ _ _ by rw [HS2.out]; exact HO6.out), hX6, hg06⟩
   case measure => simp [intOf]; omega
  have hki : ¬ (k : Int) < (c.muls.length : Int) := by omega
  obtain rfl : k = c.muls.length := by omega
  go_wp2_with fail
  go_ret
  exact ⟨_, rfl, jq HO.out (show B ≤ B + 1 by omega), hg⟩
def jv7 (a b : ByteArray) (m : Int) : Lit := .string (keyBytes [.string a.data.toList, .string b.data.toList, .int .i64 m])
def jvt (k : Int) (t : ByteArray) : Lit := .string (keyBytes [.int .i64 k, .string t.data.toList])
theorem jp4 : laidOutB Tryz.prog = true := by kernel_rfl
theorem wkLaw : Maps.Keyed Tryz.prog 127 := Maps.Keyed.of_law (deep_law_laid jp4 (m := 3) (by omega) (of_decide_eq_true (by kernel_rfl)) (by kernel_rfl) (by rw [Tryz.underlying127]))
theorem jvs : Maps.Keyed Tryz.prog 119 := Maps.Keyed.of_law (deep_law_laid jp4 (m := 2) (by omega) (of_decide_eq_true (by kernel_rfl)) (by kernel_rfl) (by rw [Tryz.underlying119]))
theorem jsx : ∃ n, Tryz.prog.types.size = n + 1 := ⟨Tryz.prog.types.size - 1, by have : 0 < Tryz.prog.types.size := of_decide_eq_true (by kernel_rfl); omega⟩
theorem jv9 : Tryz.prog.keyType 127 = true := by kernel_rfl
theorem jvu : Tryz.prog.keyType 119 = true := by kernel_rfl
theorem jp3 : Tryz.prog.cellsOf 127 = 3 := by kernel_rfl
theorem jov : Tryz.prog.cellsOf 119 = 2 := by kernel_rfl
theorem ji2 : Tryz.prog.cellsOf 9 = 1 := by kernel_rfl
theorem jic : Tryz.prog.cellsOf 3 = 1 := by kernel_rfl
set_option maxRecDepth 100000 in
theorem jwu (a b : ByteArray) (m : Int) (ha : a.size ≤ 1000000) (hb : b.size ≤ 1000000) (hm : -1000000000000 ≤ m ∧ m ≤ 1000000000000) : keyOf Tryz.prog 127 (.agg #[.string a, .string b, .int .i64 m]) = some (jv7 a b m) := by
 obtain ⟨n, hn⟩ := jsx
 have hw : (Lit.int .i64 m).wf = true := WalkArith.wf_i64 ⟨by omega, by omega⟩
 have h1 : a.size ≤ maxLen := by unfold maxLen; omega
 have h2 : b.size ≤ maxLen := by unfold maxLen; omega
 unfold keyOf
 simp only [Tryz.underlying127]
 rw [if_pos (by simp [jv9, Value.formed, Tryz.underlying127, jp3]), hn]
 unfold Program.keyLits
 simp only [Tryz.underlying127, Value.cells]
 rw [if_pos (by rw [jp3]; exact ⟨rfl, by kernel_rfl⟩)]
 have hn2 : ∃ q, n = q + 1 := ⟨n - 1, by have : 1 < Tryz.prog.types.size := of_decide_eq_true (by kernel_rfl); omega⟩
 obtain ⟨q, rfl⟩ := hn2
 simp [ji2, jic, Program.keyLits, Tryz.underlying9, Tryz.underlying3, hw, h1, h2, jv7]
set_option maxRecDepth 100000 in
theorem jwn (k : Int) (t : ByteArray) (ht : t.size ≤ 1000000) (hk : -1000000000000 ≤ k ∧ k ≤ 1000000000000) : keyOf Tryz.prog 119 (.agg #[.int .i64 k, .string t]) = some (jvt k t) := by
 obtain ⟨n, hn⟩ := jsx
 have hw : (Lit.int .i64 k).wf = true := WalkArith.wf_i64 ⟨by omega, by omega⟩
 have h1 : t.size ≤ maxLen := by unfold maxLen; omega
 unfold keyOf
 simp only [Tryz.underlying119]
 rw [if_pos (by simp [jvu, Value.formed, Tryz.underlying119, jov]), hn]
 unfold Program.keyLits
 simp only [Tryz.underlying119, Value.cells]
 rw [if_pos (by rw [jov]; exact ⟨rfl, by kernel_rfl⟩)]
 have hn2 : ∃ q, n = q + 1 := ⟨n - 1, by have : 1 < Tryz.prog.types.size := of_decide_eq_true (by kernel_rfl); omega⟩
 obtain ⟨q, rfl⟩ := hn2
 simp [ji2, jic, Program.keyLits, Tryz.underlying9, Tryz.underlying3, hw, h1, jvt]
def jbj (l : List (List UInt8 × Int)) (k : List UInt8) : Int := match l with
 | [] => 0
 | p :: r => if p.1 = k then p.2 else jbj r k
def jk2 (l : List (List UInt8 × Int)) (k : List UInt8) : Bool := l.any fun p => decide (p.1 = k)
def jfc (l : List (List UInt8 × Int)) (k : List UInt8) (d : Int) : List (List UInt8 × Int) := match l with
 | [] => [(k, d)]
 | p :: r => if p.1 = k then (k, p.2 + d) :: r else p :: jfc r k d
theorem jho (l : List (List UInt8 × Int)) (k : List UInt8) (d : Int) (j : List UInt8) : jbj (jfc l k d) j = jbj l j + if j = k then d else 0 := by
 induction l with
 | nil =>
   by_cases h : k = j
   ·subst h; simp [jfc, jbj]
   simp [jfc, jbj, h, Ne.symm h]
 | cons p r ih =>
   unfold jfc
   by_cases h : p.1 = k
   ·rw [if_pos h]
    by_cases h2 : k = j
    ·subst h2; simp [jbj, h]
    have : p.1 ≠ j := fun e => h2 (h.symm.trans e)
    simp [jbj, h2, this, Ne.symm h2]
   rw [if_neg h]
   by_cases h2 : p.1 = j
   ·have : j ≠ k := fun e => h (h2.trans e)
    simp [jbj, h2, this]
   simp only [jbj, if_neg h2]; exact ih
theorem jri (l : List (List UInt8 × Int)) (k : List UInt8) (d : Int) (j : List UInt8) : jk2 (jfc l k d) j = (jk2 l j || decide (k = j)) := by
 induction l with
 | nil => simp [jfc, jk2]
 | cons p r ih =>
   unfold jfc
   by_cases h : p.1 = k
   ·rw [if_pos h]
    unfold jk2
    rw [List.any_cons, List.any_cons, h]
    cases decide (k = j) <;> simp
   rw [if_neg h]
   unfold jk2 at ih ⊢
   rw [List.any_cons, ih, List.any_cons, Bool.or_assoc]
theorem jev (l : List (List UInt8 × Int)) (k : List UInt8) (d : Int) : (jfc l k d).map (·.1) = if jk2 l k then l.map (·.1) else l.map (·.1) ++ [k] := by
 induction l with
 | nil => simp [jfc, jk2]
 | cons p r ih =>
   unfold jfc
   by_cases h : p.1 = k
   ·rw [if_pos h]; simp [jk2, h]
   rw [if_neg h, List.map_cons, ih]
   have : jk2 (p :: r) k = jk2 r k := by simp [jk2, h]
   rw [this]
   split <;> simp
theorem jrj (l : List (List UInt8 × Int)) (k : List UInt8) : jk2 l k = true ↔ k ∈ l.map (·.1) := by
 simp [jk2, List.any_eq_true]
theorem jow {l : List (List UInt8 × Int)} (h : (l.map (·.1)).Nodup) (k : List UInt8) (d : Int) : ((jfc l k d).map (·.1)).Nodup := by
 rw [jev]
 split
 ·exact h
 rename_i hn
 rw [List.nodup_append]
 refine ⟨h, by simp, fun a ha b hb => ?_⟩
 simp only [List.mem_singleton] at hb
 subst hb
 intro e
 subst e
 exact hn ((jrj _ _).2 ha)
theorem jvo {n : Int} (h0 : -9223372036854775808 ≤ n) (h1 : n ≤ 9223372036854775807) : (Lit.int .i64 n).wf = true := by
 simp [Lit.wf, IntKind.min, IntKind.max, IntKind.signed, IntKind.bits]
 omega
theorem juw {l : List (List UInt8 × Int)} {B : Int} (h0 : 0 ≤ B) (h : ∀ p ∈ l, 0 ≤ p.2 ∧ p.2 ≤ B) (k : List UInt8) : 0 ≤ jbj l k ∧ jbj l k ≤ B := by
 induction l with
 | nil => exact ⟨by simp [jbj], by simpa [jbj] using h0⟩
 | cons p r ih =>
   unfold jbj
   split
   ·exact h p (by simp)
   exact ih (fun q hq => h q (by simp [hq]))
theorem js2 {l : List (List UInt8 × Int)} {B d : Int} (hd : 0 ≤ d) (h : ∀ p ∈ l, 0 ≤ p.2 ∧ p.2 ≤ B) (hB : 0 ≤ B) (k : List UInt8) : ∀ p ∈ jfc l k d, 0 ≤ p.2 ∧ p.2 ≤ B + d := by
 induction l with
 | nil => intro p hp; simp [jfc] at hp; subst hp; exact ⟨hd, by show d ≤ B + d; omega⟩
 | cons q r ih =>
   intro p hp
   unfold jfc at hp
   split at hp
   ·rcases List.mem_cons.1 hp with rfl | hp
    ·have := h q (by simp); exact ⟨by show 0 ≤ q.2 + d; omega, by show q.2 + d ≤ B + d; omega⟩
    have := h p (by simp [hp]); omega
   rcases List.mem_cons.1 hp with rfl | hp
   ·have := h p (by simp); omega
   exact ih (fun q hq => h q (by simp [hq])) p hp
end Go.Proofs.YtbamhgaghngjiaaGreatDoor
namespace Go.Proofs.YtbamhgaghngjiaaGreatDoor
open Go.RowKit
open Go.WideElems Go.ChangeMaps Go.MapKept
set_option linter.unusedVariables false
set_option linter.unusedSimpArgs false

abbrev Nm := Nat × ByteArray
def jp8 (q : Nm) : Prop := q.1 ≤ 1000000 ∧ q.2.size ≤ 1000000
def nmB (q : Nm) : List UInt8 := keyBytes [.int .i64 (q.1 : Int), .string q.2.data.toList]
def nmV (q : Nm) : Value := .agg #[.int .i64 (q.1 : Int), .string q.2]
theorem jj7 (q : Nm) (h : jp8 q) : keyOf Tryz.prog 119 (nmV q) = some (.string (nmB q)) := jwn q.1 q.2 h.2 ⟨by omega, by have := h.1; omega⟩
def MapNm (w : World) (bm n : Nat) (l : List (List UInt8 × Int)) : Prop :=
 ∃ D : DataW Unit, w.ownsMap Tryz.prog 119 (plainElem Tryz.prog 3) bm n D ∧ Maps.Tidy D ∧ (∀ k, D.atKey (.string k) (.lit (.int .i64 0)) = .lit (.int .i64 (jbj l k))) ∧
   (∀ k, Maps.has D (.string k) = jk2 l k) ∧ Maps.size D = l.length ∧ (l.map (·.1)).Nodup
theorem MapNm.lt {w : World} {bm n : Nat} {l : List (List UInt8 × Int)} (h : MapNm w bm n l) : bm < w.heap.size := by obtain ⟨D, h1, _⟩ := h; exact h1.lt
theorem MapNm.made (w : World) : MapNm (w.alloc (.map #[] 0)) w.heap.size 0 [] :=
 ⟨_, World.ownsMap_made w _ _ _, Maps.tidy_empty, fun c => rfl, fun c => rfl, rfl, by simp⟩
theorem MapNm.kept {w w' : World} {bm n : Nat} {l : List (List UInt8 × Int)} (h : MapNm w bm n l) {row : Option Nat} (hg : w.grownBy w' row) (hr : some bm ≠ row) : MapNm w' bm n l := by
 obtain ⟨D, h1, h2⟩ := h
 exact ⟨D, h1.kept hg hr, h2⟩
theorem MapNm.quiet {w w' : World} {bm n : Nat} {l : List (List UInt8 × Int)} (h : MapNm w bm n l) (hg : w.grownBy w' none) : MapNm w' bm n l := h.kept hg (by simp)
theorem MapNm.look {w : World} {bm n : Nat} {l : List (List UInt8 × Int)} (h : MapNm w bm n l) (q : Nm) (hq : jp8 q) :
 (Instr.lookup 181 (.map (some bm)) (nmV q) false).run Tryz.prog w = .ok (.int .i64 (jbj l (nmB q))) w := by
 obtain ⟨D, h1, h2, h3, h4, h5, h6⟩ := h
 obtain ⟨c, hrun, hat, hwc⟩ := h1.lookup_int jvs Tryz.underlying181 Tryz.underlying3 (by kernel_rfl) (jj7 q hq)
 rw [h3] at hat
 simp only [DataW.lit.injEq, Lit.int.injEq, true_and] at hat
 rw [hat]
 exact hrun
theorem MapNm.put {w : World} {bm n : Nat} {l : List (List UInt8 × Int)} (h : MapNm w bm n l) (hn : n ≤ 1000000) (q : Nm) (hq : jp8 q) (d : Int) (hd : (Lit.int .i64 (jbj l (nmB q) + d)).wf = true) :
 ∃ w', (Instr.mapUpdate 181 (.map (some bm)) (nmV q) (.int .i64 (jbj l (nmB q) + d))).run Tryz.prog w = .ok () w' ∧ MapNm w' bm (n + 1) (jfc l (nmB q) d) ∧ w.grownBy w' (some bm) := by
 obtain ⟨D, h1, h2, h3, h4, h5, h6⟩ := h
 obtain ⟨w', hrun, ho, hg⟩ := h1.update jvs Tryz.underlying181 (by unfold maxLen; omega) (jj7 q hq) (plainElem_int Tryz.underlying3 hd)
 refine ⟨w', hrun, ⟨_, ho, h2.put (by trivial) _, fun c => ?_, fun c => ?_, ?_, jow h6 _ _⟩, hg⟩
 ·rw [jho]
  by_cases e : c = nmB q
  ·subst e
   rw [if_pos rfl, Maps.atKey_put_same h2.isMap (k := .string (nmB q)) (by trivial)]
  rw [if_neg e, Maps.atKey_put_other (by intro h; injection h with h; exact e h), h3 c, Int.add_zero]
 ·rw [jri]
  by_cases e : nmB q = c
  ·subst e
   rw [Maps.has_put_same h2.isMap (k := .string (nmB q)) (by trivial)]
   simp
  rw [Maps.has_put_other (by intro h; injection h with h; exact e h.symm), h4 c]
  simp [e]
 rw [Maps.size_put h2, h4, h5]
 have hk := congrArg List.length (jev l (nmB q) d)
 rw [List.length_map] at hk
 split <;> rename_i hh <;> rw [hk] <;> simp [hh]
theorem MapNm.len {w : World} {bm n : Nat} {l : List (List UInt8 × Int)} (h : MapNm w bm n l) (ty : TypeId) : (Builtin.len_ #[181] ty #[.map (some bm)]).run Tryz.prog w = .ok (.int .i64 (l.length : Int)) w := by
 obtain ⟨D, h1, h2, h3, h4, h5, h6⟩ := h
 have := h1.len Tryz.underlying181 ty
 rw [h5] at this
 exact this
theorem jfp (w : World) (b : Nat) (x y : Obj) : setBlock (setBlock w b x) b y = setBlock w b y := by
 unfold setBlock
 congr 1
 apply Array.ext_getElem?
 intro i
 simp only [Array.getElem?_setIfInBounds, Array.size_setIfInBounds]
 split <;> simp_all
theorem nmKL : Go.WideMaps.KeyLaw Tryz.prog 119 := deep_law_laid jp4 (m := 2) (by omega) (of_decide_eq_true (by kernel_rfl)) (by kernel_rfl) (by rw [Tryz.underlying119])
set_option maxHeartbeats 2000000 in
theorem MapNm.entry {w : World} {bm n : Nat} {l : List (List UInt8 × Int)} (h : MapNm w bm n l) (hn : n ≤ 1000000) (q : Nm) (hq : jp8 q) :
 ∃ (v0 : Value) (st : Nat) (w1 : World), (Instr.mapEntry 181 (.map (some bm)) (nmV q)).run Tryz.prog w = .ok (.tuple #[v0, goInt st]) w1 ∧ w.grownBy w1 (some bm) ∧
   (Instr.lookup 181 (.map (some bm)) (nmV q) false).run Tryz.prog w1 = .ok (.int .i64 (jbj l (nmB q))) w1 ∧
   ∀ d : Int, (Lit.int .i64 (jbj l (nmB q) + d)).wf = true → ∃ w3, (Instr.entryStore 181 (.map (some bm)) (goInt st) (.int .i64 (jbj l (nmB q) + d))).run Tryz.prog w1 = .ok () w3 ∧ MapNm w3 bm (n + 1) (jfc l (nmB q) d) ∧ w.grownBy w3 (some bm) := by
 have hkey := jj7 q hq
 have hz : ∀ u : World, (zeroValue 3).run Tryz.prog u = .ok (.int .i64 0) u := fun u => by kernel_rfl
 have ht := Tryz.underlying181
 have h' := h
 have hlk := h.look q hq
 obtain ⟨D, hown, hrest⟩ := h'
 obtain ⟨es, clock, hb, F, hs, rfl⟩ := hown
 obtain ⟨v0, st, es1, clock1, hE, hcase, hS⟩ := entry_then_store nmKL ht hz hb F hkey
 have hgw : ∀ o, w.grownBy (setBlock w bm o) (some bm) := fun o => ⟨rfl, rfl, rfl, by simp [setBlock], fun i _ hi => Go.ChangeMaps.heap_setBlock_other hb _ (fun e => hi (by rw [e]))⟩
 refine ⟨v0, st, setBlock w bm (.map es1 clock1), hE, hgw _, ?_, fun d hd => ?_⟩
 ·rcases nmKL.find w hkey es.toList F.keys with ⟨h1, h2⟩ | ⟨j, e0, h1, h2, h3⟩
  ·have hE2 := hE
   simp [Instr.mapEntry, run_underlying ht, MapKept.run_getObj_map hb, nmKL.check w false hkey, h1, hz, MapKept.run_setObj_map _ hb, Result.andThen] at hE2
   have hv0 : jbj l (nmB q) = 0 := by
    have hlk2 := hlk
    simp [Instr.lookup, run_underlying ht, MapKept.run_getObj_map hb, nmKL.check w es.isEmpty hkey, h1, hz, Result.andThen] at hlk2
    exact hlk2.symm
   have hw0 : (Lit.int .i64 (jbj l (nmB q) + 0)).wf = true := by rw [hv0]; rfl
   obtain ⟨w', hrun2, hm, hg⟩ := h.put hn q hq 0 hw0
   rw [hv0] at hrun2
   simp [Instr.mapUpdate, run_underlying ht, MapKept.run_getObj_map hb, nmKL.check w false hkey, h1, MapKept.run_setObj_map _ hb, Result.andThen] at hrun2
   have h9 := hm.look q hq
   rw [jho, if_pos rfl, Int.add_zero] at h9
   rw [← hE2.2, hrun2]
   exact h9
  have hj : es[j]? = some e0 := by simpa using h2
  have hE2 := hE
  simp [Instr.mapEntry, run_underlying ht, MapKept.run_getObj_map hb, nmKL.check w false hkey, h1, hj, h3, nmKL.stays w hkey, MapKept.run_setObj_map _ hb, Result.andThen] at hE2
  have hsame : es.modify j (fun e => { key := nmV q, val := e.val, born := e.born }) = es := by
   apply Array.ext'
   rw [Array.toList_modify, modify_eq_set _ _ _ _ h2]
   have : ({ key := nmV q, val := e0.val, born := e0.born } : MapEntry) = e0 := by rw [← h3]
   rw [this]
   exact set_self _ _ _ h2
  have hheap : w.heap.setIfInBounds bm (.map es clock) = w.heap := by
   apply Array.ext_getElem?
   intro i
   rw [Array.getElem?_setIfInBounds]
   split
   ·rename_i e
    subst e
    split
    ·exact hb.symm
    rename_i h5
    have := (Array.getElem?_eq_some_iff.1 hb).1
    exact absurd this h5
   rfl
  rw [← hE2.2, hsame, hheap]
  exact hlk
 obtain ⟨es', clock', hrun, hupd⟩ := hS (setBlock w bm (.map es1 clock1)) (.int .i64 (jbj l (nmB q) + d)) (Go.ChangeMaps.heap_setBlock_same hb _)
 obtain ⟨w', hrun2, hm, hg⟩ := h.put hn q hq d hd
 rw [hupd] at hrun2
 injection hrun2 with _ hw
 subst hw
 rw [jfp] at hrun
 exact ⟨_, hrun, hm, hg⟩
end Go.Proofs.YtbamhgaghngjiaaGreatDoor
namespace Go.Proofs
open Go.Shelf
def Tryz.insCmp_ren : Go.Shelf.Ren := ⟨fun | 20 => 218 | n => n, fun | 24 => 3 | 22 => 22 | 3 => 3 | 25 => 74 | 4 => 4 | 0 => 0 | n => n, fun | n => n⟩
theorem Tryz.insCmp : Go.Proofs.SlLaysF.n20 Tryz.prog Tryz.insCmp_ren := {
 mixed := by kernel_rfl
 f20 := ⟨Tryz.f218.name, by decide, Tryz.func218.trans (congrArg some (by kernel_rfl))⟩
 t0 := Tryz.underlying0
 a0 := Tryz.isAgg0
 z0 := Tryz.sizeOf0
 v0 := Tryz.zeroValue0
 t3 := Tryz.underlying3
 a3 := Tryz.isAgg3
 z3 := Tryz.sizeOf3
 v3 := Tryz.zeroValue3
 t4 := Tryz.underlying4
 a4 := Tryz.isAgg4
 z4 := Tryz.sizeOf4
 v4 := Tryz.zeroValue4
 t22 := Tryz.underlying22
 a22 := Tryz.isAgg22
 z22 := Tryz.sizeOf22
 v22 := Tryz.zeroValue22
 a24 := Tryz.isAgg3
 z24 := Tryz.sizeOf3
 t25 := Tryz.underlying74
 a25 := Tryz.isAgg74
 z25 := Tryz.sizeOf74
 v25 := Tryz.zeroValue74 }
end Go.Proofs
namespace Go.Proofs.YtbamhgaghngjiaaGreatDoor
open Go.RowKit Go.Sort Go.Shelf
set_option linter.unusedVariables false
set_option linter.unusedSimpArgs false

set_option maxHeartbeats 2000000 in
theorem jvy (base gB : Nat) (A : Option Addr) (c : Nat) (l : List Con) (W : World) (hX : ConsFrom base W (.slice A l.length c) l) (hB : W.cell? ⟨gB, 0, none⟩ = some (.slice A l.length c)) (ht : ∀ y ∈ l, 0 ≤ y.tm ∧ y.tm ≤ 345686399999) (a b : Nat) (ha : a < l.length) (hb : b < l.length) :
 Calls Tryz.prog 153 #[.int .i64 (a : Int), .int .i64 (b : Int), .pointer (some ⟨gB, 0, none⟩)] W fun e w' => e = .returned (.int .i64 (l[a].tm - l[b].tm)) ∧ ∃ q, w' = W.drewN q := by
 obtain ⟨A', c', h0, _, hA⟩ := hX.shape
 injection h0 with h1 _ _
 subst h1
 obtain ⟨g, rfl, _, _⟩ := hA (by omega)
 obtain ⟨qa, _⟩ := hX.at_ a ha
 obtain ⟨qb, _⟩ := hX.at_ b hb
 obtain ⟨ta0, ta1⟩ := ht _ (List.getElem_mem ha)
 obtain ⟨tb0, tb1⟩ := ht _ (List.getElem_mem hb)
 have ha' : (a : Int) < (l.length : Int) := by omega
 have hb' : (b : Int) < (l.length : Int) := by omega
 generalize l[a].tm = ta at *
 generalize l[b].tm = tb at *
 clear hX ht hA
 go_enter Tryz.func153, Tryz.ntmps153
 go_wp2
 go_quiet (fail)
 go_wp2
 go_ret
 exact ⟨rfl, nq, rfl⟩
section
variable {α : Type} [Inhabited α]
theorem jgy {enc : α → Value} {w : World} {g m : Nat} {os : Array Obj} (d : Array α) : w.grownBy (sortWorld enc w g 0 m d os) (some g) := by
 refine ⟨rfl, rfl, rfl, by simp [sortWorld], fun k hk hne => ?_⟩
 unfold sortWorld
 rw [heap_grow_old _ _ (by simpa using hk)]
 have : g ≠ k := fun e => hne (by rw [e])
 simp [putRow, mapBlock, Sort.ahead, Array.getElem?_modify, this]
theorem jeq {enc : α → Value} {w : World} {g n : Nat} (d : Array α) : w.grownBy ((putRow enc w g 0 d).drewN n) (some g) := by
 refine ⟨rfl, rfl, rfl, by simp [putRow, mapBlock, World.drewN], fun k hk hne => ?_⟩
 have : g ≠ k := fun e => hne (by rw [e])
 simp [putRow, mapBlock, World.drewN, Array.getElem?_modify, this]
theorem jio {enc : α → Value} (f : α → Int) (he : ∀ x, enc x = .int .i64 (f x)) (d : Array α) (c : Array Value) : putCells enc 0 d c = putCells (Value.int .i64) 0 (d.map f) c := by
 unfold putCells
 congr 1
 funext k x
 rw [Array.size_map]
 split
 ·rename_i h
  have hk : k - 0 < d.size := by omega
  rw [he, getElem!_pos d _ hk, getElem!_pos (d.map f) _ (by rw [Array.size_map]; exact hk), Array.getElem_map]
 rfl
end
def jhr (m : Nat) (x : Fin (m + 1)) : Value := .int .i64 (x.val : Int)
def tmF (l : List Con) (m : Nat) (h : l.length = m + 1) (x y : Fin (m + 1)) : Int := (l[x.val]'(by omega)).tm - (l[y.val]'(by omega)).tm
def jm7 (l : List Con) (m : Nat) (h : l.length = m + 1) (d : Array (Fin (m + 1))) : Array (Fin (m + 1)) := Sort.insertionSort (ltOf (tmF l m h)) d 0 d.size
theorem jc0 (l : List Con) (m : Nat) (h : l.length = m + 1) (d : Array (Fin (m + 1))) : (jm7 l m h d).size = d.size := by
 have hw : SWO (ltOf (tmF l m h)) := by
  refine ⟨fun x => ?_, fun x y z h1 h2 => ?_, fun x y z h1 h2 => ?_⟩
  ·unfold ltOf tmF
   rw [decide_eq_false_iff_not]
   omega
  ·unfold ltOf tmF at *
   rw [decide_eq_true_eq] at *
   omega
  unfold ltOf tmF at *
  rw [decide_eq_false_iff_not] at *
  omega
 exact (insertionSort_holds hw d 0 d.size (Nat.zero_le _) (Nat.le_refl _)).1.1
theorem jju (base base2 gB m : Nat) (A : Option Addr) (c : Nat) (l : List Con) (hl : l.length = m + 1) (g c2 : Nat) (d : Array (Fin (m + 1))) (w : World) (hX : ConsFrom base w (.slice A l.length c) l) (hXb : ∀ k, A = some ⟨k, 0, none⟩ → k ≠ g) (hB : w.cell? ⟨gB, 0, none⟩ = some (.slice A l.length c)) (hBg : gB ≠ g) (ht : ∀ y ∈ l, 0 ≤ y.tm ∧ y.tm ≤ 345686399999) (hd : w.ownsRow base2 3 1 (.slice (some ⟨g, 0, none⟩) d.size c2) d.size (d.toList.map (jhr m))) (h20 : d.size < 20) :
 Calls Tryz.prog 218 #[.slice (some ⟨g, 0, none⟩) d.size c2, .int .i64 (0 : Nat), .int .i64 d.size, .func (.func 153) #[] #[.pointer (some ⟨gB, 0, none⟩)]] w fun e w' => e = .returned (.tuple #[]) ∧ w'.ownsRow base2 3 1 (.slice (some ⟨g, 0, none⟩) d.size c2) d.size ((jm7 l m hl d).toList.map (jhr m)) ∧ w.grownBy w' (some g) := by
 have hH : Holds (jhr m) w g 0 d := by
  intro j hj
  have hf := World.ownsRow.frozenAt hd j
  refine ⟨?_, by simpa using hf⟩
  have hc := World.ownsRow.cellAt hd j (by omega)
  rw [Nat.zero_add, hc, getElem!_pos d j hj]
  simp [hj]
 have hcmp : CmpReads Tryz.prog 153 #[.pointer (some ⟨gB, 0, none⟩)] (jhr m) (tmF l m hl) g 0 d.size w := by
  intro mm os dk hs x y
  have hg := jgy (enc := jhr m) (w := w) (g := g) (m := mm) (os := os) dk
  have hX2 : ConsFrom base (sortWorld (jhr m) w g 0 mm dk os) (.slice A l.length c) l := by
   refine World.ownsRow.kept hX hg ?_
   cases hA : (Value.slice A l.length c).ownBlock with
   | none => exact .inl rfl
   | some k =>
     refine .inr fun e => ?_
     injection e with e
     obtain ⟨A', c', h0, _, hA'⟩ := hX.shape
     injection h0 with h1 _ _
     subst h1
     obtain ⟨k', rfl, _, _⟩ := hA' (by omega)
     simp [Value.ownBlock] at hA
     exact hXb k' rfl (by omega)
  exact jvy base gB A c l _ hX2 (hg.cell hB (by simpa using hBg)) ht x.val y.val (by omega) (by omega)
 have eg : ∀ args w, (callFunc 153 args).run Tryz.prog w = .ok (.enter 153 args) w := enters_of Tryz.func153 (by kernel_rfl) rfl
 have hcon := Any.insertionSortCmpFunc_one Tryz.insCmp (jhr m) (fun _ => rfl) (tmF l m hl) 153 #[.pointer (some ⟨gB, 0, none⟩)] g 0 c2 0 d.size d w eg hcmp hH (Nat.zero_le _) (Nat.le_refl _) (by omega)
 refine Calls.mono hcon ?_
 rintro r w' ⟨rfl, n, rfl⟩
 have hsz := jc0 l m hl d
 refine ⟨rfl, ?_, jeq _⟩
 show ((putRow (jhr m) w g 0 (jm7 l m hl d)).drewN n).ownsRow _ _ _ _ _ _
 generalize jm7 l m hl d = d' at *
 rcases hd.2 with ⟨h0, _⟩ | ⟨g', cap, cur, h0, hb, hg, hnc, hm, hs, htk⟩
 ·cases h0
 injection h0 with e1 _ e3
 injection e1 with e1
 injection e1 with e1
 subst e1; subst e3
 refine ⟨by simp [hsz], .inr ⟨g, c2, putCells (jhr m) 0 d' cur, rfl, hb, ?_, hnc, hm, by simp [putCells, hs], ?_⟩⟩
 ·show (putRow (jhr m) w g 0 d').heap[g]? = _
  unfold putRow mapBlock
  simp [Array.getElem?_modify, hg, onCells]
 rw [jio (enc := jhr m) (fun x : Fin (m + 1) => (x.val : Int)) (fun _ => rfl), Nat.mul_one, ← hsz]
 have := take_putCellsI cur (d'.toList.map fun x : Fin (m + 1) => (x.val : Int)) (by rw [List.length_map]; simp; omega)
 rw [List.length_map, List.map_map] at this
 have e : (d'.toList.map fun x : Fin (m + 1) => (x.val : Int)).toArray = d'.map fun x : Fin (m + 1) => (x.val : Int) := by
  apply Array.ext'
  simp
 rw [e] at this
 have h9 : jhr m = (Value.int .i64 ∘ fun x : Fin (m + 1) => (x.val : Int)) := rfl
 rw [h9]
 simpa using this
set_option maxHeartbeats 2000000 in
theorem jmz (base base2 gB m : Nat) (A : Option Addr) (c : Nat) (l : List Con) (hl : l.length = m + 1) (g c2 : Nat) (d : Array (Fin (m + 1))) (w : World) (hX : ConsFrom base w (.slice A l.length c) l) (hXb : ∀ k, A = some ⟨k, 0, none⟩ → k ≠ g) (hB : w.cell? ⟨gB, 0, none⟩ = some (.slice A l.length c)) (hBg : gB ≠ g) (ht : ∀ y ∈ l, 0 ≤ y.tm ∧ y.tm ≤ 345686399999) (hd : w.ownsRow base2 3 1 (.slice (some ⟨g, 0, none⟩) d.size c2) d.size (d.toList.map (jhr m))) (h20 : d.size < 20) :
 Calls Tryz.prog 152 #[.slice (some ⟨g, 0, none⟩) d.size c2, .func (.func 153) #[] #[.pointer (some ⟨gB, 0, none⟩)]] w fun e w' => e = .returned (.tuple #[]) ∧ w'.ownsRow base2 3 1 (.slice (some ⟨g, 0, none⟩) d.size c2) d.size ((jm7 l m hl d).toList.map (jhr m)) ∧ w.grownBy w' (some g) := by
 have HI := Lib.hid (jju base base2 gB m A c l hl g c2 d w hX hXb hB hBg ht hd h20)
 obtain ⟨P, hP⟩ : ∃ P : Ending → World → Prop, (fun e w' => e = .returned (.tuple #[]) ∧ w'.ownsRow base2 3 1 (.slice (some ⟨g, 0, none⟩) d.size c2) d.size ((jm7 l m hl d).toList.map (jhr m)) ∧ w.grownBy w' (some g)) = P := ⟨_, rfl⟩
 have HP : Hid (∀ e w', P e w' → e = .returned (.tuple #[])) := fun e w' h => by rw [← hP] at h; exact h.1
 rw [hP] at HI ⊢
 clear hX hXb hB hBg ht hd hP
 generalize d.size = n at *
 have hst : Hid (Calls Tryz.prog 197 #[.slice (some ⟨g, 0, none⟩) n c2, .int .i64 (n : Int), .func (.func 153) #[] #[.pointer (some ⟨gB, 0, none⟩)]] w P) := by
  show Calls _ _ _ _ _
  have h1 : ¬ (20 : Int) ≤ (n : Int) := by omega
  have h2 : ¬ (20 : Int) < (n : Int) := by omega
  go_enter Tryz.func197, Tryz.ntmps197
  go_wp2_with fail
  go_loopw [7, 8] (fun av bv wr => av = .int .i64 0 ∧ bv = .int .i64 20 ∧ wr = w) (fun _ _ _ => 0)
  case atStart => exact ⟨rfl, rfl, rfl⟩
  case round =>
   obtain ⟨rfl, rfl, rfl⟩ := hrel
   go_wp2_with fail
   refine HI.out.mono ?_
   rintro r w1 hp
   obtain rfl := HP.out _ _ hp
   go_wp2_with fail
   go_loopw [6] (fun sv wr => sv = .int .i64 20 ∧ Hid (P (.returned (.tuple #[])) wr)) (fun _ _ => 0)
   case atStart => exact ⟨rfl, hp⟩
   case round =>
    obtain ⟨rfl, hp2⟩ := hrel
    go_wp2_with fail
    go_end0
    exact hp2.out
 clear HI
 go_enter Tryz.func152, Tryz.ntmps152
 go_wp2_with fail
 refine hst.out.mono ?_
 rintro r w1 hp
 obtain rfl := HP.out _ _ hp
 go_wp2_with fail
 go_end0
 exact hp
end Go.Proofs.YtbamhgaghngjiaaGreatDoor
