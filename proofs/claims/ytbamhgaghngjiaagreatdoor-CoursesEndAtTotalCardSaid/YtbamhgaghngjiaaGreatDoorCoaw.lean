/- Parts of a proof: Clon, Would. Conditions: as each statement says. -/
import Derived.Lib.SliceRun
import Derived.Test.YtbamhgaghngjiaaGreatDoorCoau
import Derived.Test.YtbamhgaghngjiaaGreatDoorCoaj
namespace Go.Proofs.YtbamhgaghngjiaaGreatDoor
open Go.RowKit
set_option linter.unusedVariables false
set_option linter.unusedSimpArgs false

theorem ConsFrom.nil (base : Nat) (w : World) : ConsFrom base w (.slice none 0 0) [] := World.ownsRow_nil _ _ _ _
theorem ConsFrom.one {W : World} {g : Nat} {y : Con} (h : Blk W g 50 #[.int .i64 y.tm, .int .i64 y.mode, .string y.band, .string y.call, .int .i64 y.sent, .int .i64 y.heard, .string y.gave, .string y.got]) : ConsFrom g W (.slice (some ⟨g, 0, none⟩) 1 1) [y] :=
 ⟨rfl, .inr ⟨g, 1, _, rfl, Nat.le_refl _, h, Nat.le_refl _, by unfold maxLen; omega, rfl, rfl⟩⟩
theorem jn1 (l : List Con) : ∀ u ∈ l.flatMap ja6, u.oneCell' = true := fun u hu => by
 obtain ⟨y, _, hy⟩ := List.mem_flatMap.1 hu
 unfold ja6 at hy
 simp only [List.mem_cons, List.not_mem_nil, or_false] at hy
 rcases hy with rfl | rfl | rfl | rfl | rfl | rfl | rfl | rfl <;> rfl
theorem add0 (g j : Nat) : (⟨g, 0, none⟩ : Addr).add j = ⟨g, j, none⟩ := by simp only [Addr.add, Nat.zero_add]; split <;> simp_all
theorem jq7 (l : List Con) : (l.flatMap ja6).length = l.length * 8 := zc ja6 8 (fun _ => rfl) l
set_option maxRecDepth 100000 in
set_option maxHeartbeats 8000000 in
theorem jh2 (base : Nat) (v : Value) (l : List Con) (w : World) (hl : ConsFrom base w v l) (hn : l.length ≤ 2000) :
 Calls Tryz.prog 21 #[v] w fun e w' => ∃ u, e = .returned u ∧ ConsFrom w.heap.size w' u l ∧ w.grownBy w' none := by
 obtain ⟨i0, hi0, hz0, hz1, hz2⟩ := info_parts jgq
 have hnl := fun (W : World) (a : Option Addr) (n c : Nat) => Lib.run_eql_slice_nil (P := Tryz.prog) W 35 50 a n c 0 0 Tryz.underlying35
 rcases hl.2 with ⟨rfl, h2⟩ | ⟨g, cap, cur, rfl, hb, hg, hnc, hm, hs, ht⟩
 ·have hnil : l = [] := List.eq_nil_of_length_eq_zero h2
  subst hnil
  go_enter Tryz.func21, Tryz.ntmps21
  go_wp2_with fail
  go_ret
  exact ⟨_, rfl, ConsFrom.nil _ _, jf _ _⟩
 have hE := Blk.new w 50 #[]
 have hgE := World.grownBy_alloc w (.cells #[] 50) none
 have HL := Lib.hid (hl.grown hgE)
 have hE2 : World.ownsRow (w.alloc (.cells #[] 50)) w.heap.size 50 8 (.slice (some ⟨w.heap.size, 0, none⟩) 0 0) 0 [] := ⟨rfl, .inr ⟨w.heap.size, 0, #[], rfl, Nat.le_refl _, hE, Nat.le_refl _, by unfold maxLen; omega, rfl, rfl⟩⟩
 have HE2 := Lib.hid hE2
 obtain ⟨xs, hxs⟩ : ∃ xs, l.flatMap ja6 = xs := ⟨_, rfl⟩
 have hxl : xs.length = l.length * 8 := by rw [← hxs]; exact jq7 l
 have hones : ∀ u ∈ xs, u.oneCell' = true := by rw [← hxs]; exact jn1 l
 have hat : ∀ j u, xs[j]? = some u → (w.alloc (.cells #[] 50)).cell? ((⟨g, 0, none⟩ : Addr).add j) = some u := fun j u hu => by
  have hj : j < l.length * 8 := by
   have := (List.getElem?_eq_some_iff.1 hu).1
   omega
  rw [add0, World.ownsRow.cellAt HL.out j hj, hxs, hu]
 have HAT := Lib.hid hat
 have HXL := Lib.hid hxl
 have HON := Lib.hid hones
 obtain ⟨LN, hLN⟩ : ∃ z, l.length = z := ⟨_, rfl⟩
 have HP : Hid (∀ u w', World.ownsRow w' w.heap.size 50 8 u (0 + LN) ([] ++ xs) → ConsFrom w.heap.size w' u l) := fun u w' h => by
  show World.ownsRow _ _ _ _ _ l.length (l.flatMap ja6)
  rw [hxs, hLN]
  simpa using h
 rw [hLN] at HXL hn ⊢
 clear hl hb hg hnc hm hs ht hE hE2 hxs hxl hones hat hLN
 go_enter Tryz.func21, Tryz.ntmps21
 go_wp2_with (at_builtin; refine wpList_append_own _ rfl _ _ 35 rfl w.heap.size 50 i0 _ 8 96 Tryz.underlying35 hi0 hz0 hz1 hz2 rfl (by decide) _ 0 _ rfl HE2.out ⟨g, 0, none⟩ LN cap xs rfl HXL.out HAT.out HON.out (by unfold maxLen; omega) (by omega) (by simp) ?_; intro v' w9 hownB hgrB _)
 have hg9 : w.grownBy w9 none := jk hgE hgrB (fun g e => by injection e with e; exact .inr (Nat.le_of_eq e))
 go_wp2_with fail
 go_ret
 exact ⟨_, rfl, HP.out _ _ hownB, hg9⟩
theorem jek (a b e f : Int) (c d g h : ByteArray) : ∀ u ∈ [Value.int .i64 a, .int .i64 b, .string c, .string d, .int .i64 e, .int .i64 f, .string g, .string h], u.oneCell' = true := by
 simp [Value.oneCell']
set_option maxRecDepth 100000 in
set_option maxHeartbeats 32000000 in
theorem jsk (base pb : Nat) (u v rv mv : Value) (c : Cst) (xv : Value) (l : List Con) (y : Con) (w : World) (h : CstFrom base w u v rv mv c) (hs : CstSm c) (hx : ConsFrom base w xv l) (hxs : ∀ y ∈ l, zy y) (hbs : base ≤ w.heap.size) (hR : ScRight c l) (hR2 : ScRight c (l ++ [y])) (h20 : l.length < 19) (hye : qm [y] = 0) (hys : zy y) (hpp : P10 pb w) :
 Calls Tryz.prog 20 #[.agg #[u, v, .string c.own, .int .i64 c.beg, .int .i64 c.fin, rv, mv, .bool c.byMode], xv, .agg #[.int .i64 y.tm, .int .i64 y.mode, .string y.band, .string y.call, .int .i64 y.sent, .int .i64 y.heard, .string y.gave, .string y.got]] w fun e w' => e = .returned (.tuple #[.int .i64 (jm8 (j5 c.ents c.pfxs) c (l ++ [y]) - jm8 (j5 c.ents c.pfxs) c l), .int .i64 0]) ∧ w.grownBy w' none := by
 obtain ⟨i0, hi, hz0, hz1, hz2⟩ := info_parts jgq
 have HO : Hid (∀ W, w.grownBy W none → Calls Tryz.prog 45 #[.agg #[u, v, .string c.own, .int .i64 c.beg, .int .i64 c.fin, rv, mv, .bool c.byMode], xv] W fun e w' => ∃ base2 gS gT bB bW, e = .returned (.tuple #[.pointer (some ⟨gS, 0, none⟩), .int .i64 0]) ∧ ScAt base base2 gS gT bB bW u v rv mv c w' ∧ W.grownBy w' none) := fun W hW => jcf base u v rv mv c xv l W (h.grown hW) hs (hx.grown hW) hxs hR.E hR.len hR.beg
 have HS : Hid (∀ base2 gS gT bB bW W, w.grownBy W none → ScAt base base2 gS gT bB bW u v rv mv c W → Calls Tryz.prog 50 #[.pointer (some ⟨gS, 0, none⟩), xv] W fun e w' => e = .returned (jr9 (j5 c.ents c.pfxs) c l) ∧ W.grownBy w' none) := fun base2 gS gT bB bW W hW hsc => jce base base2 gS gT bB bW pb u v rv mv c xv l W hsc (hx.grown hW) hR.tm (by omega) hR.ok (hpp.grown hW) hR.nam hR.pts hR.nms
 have HS2 : Hid (∀ base2 gS gT bB bW uv W, w.grownBy W none → ScAt base base2 gS gT bB bW u v rv mv c W → ConsFrom w.heap.size W uv (l ++ [y]) → Calls Tryz.prog 50 #[.pointer (some ⟨gS, 0, none⟩), uv] W fun e w' => e = .returned (jr9 (j5 c.ents c.pfxs) c (l ++ [y])) ∧ W.grownBy w' none) := fun base2 gS gT bB bW uv W hW hsc hu => jce base base2 gS gT bB bW pb u v rv mv c uv (l ++ [y]) W hsc (jq hu hbs) hR2.tm (by simp; omega) hR2.ok (hpp.grown hW) hR2.nam hR2.pts hR2.nms
 have HCC : Hid (∀ g W, Blk W g 50 #[.int .i64 y.tm, .int .i64 y.mode, .string y.band, .string y.call, .int .i64 y.sent, .int .i64 y.heard, .string y.gave, .string y.got] → Calls Tryz.prog 63 #[.slice (some ⟨g, 0, none⟩) 1 1] W fun r w' => r = .returned (.int .i64 0) ∧ W.grownBy w' none) := fun g W hb => by
  have h9 := jab g _ [y] W (ConsFrom.one hb) (fun z hz => by rw [List.mem_singleton.1 hz]; exact hys)
  rw [hye] at h9
  exact h9
 have HCL : Hid (∀ W, w.grownBy W none → Calls Tryz.prog 21 #[xv] W fun e w' => ∃ u, e = .returned u ∧ ConsFrom W.heap.size w' u l ∧ W.grownBy w' none) := fun W hW => jh2 base _ l W (hx.grown hW) (by omega)
 have HAP : Hid (∀ (W : World) (B g cap : Nat), World.ownsRow W B 50 8 (.slice (some ⟨g, 0, none⟩) (l.length + 1) cap) (l.length + 1) (l.flatMap ja6 ++ [.int .i64 y.tm, .int .i64 y.mode, .string y.band, .string y.call, .int .i64 y.sent, .int .i64 y.heard, .string y.gave, .string y.got]) → ConsFrom B W (.slice (some ⟨g, 0, none⟩) (l.length + 1) cap) (l ++ [y])) := fun W B g cap h9 => by
  show World.ownsRow W B 50 8 _ (l ++ [y]).length ((l ++ [y]).flatMap ja6)
  rw [List.length_append, List.flatMap_append]
  simpa [ja6] using h9
 have hb1 := jhn hR (by omega)
 have hb2 := jhn hR2 (by simp; omega)
 obtain ⟨a0, a1, a2, ea⟩ := jd4 (j5 c.ents c.pfxs) c l
 obtain ⟨d0, d1, d2, ed⟩ := jd4 (j5 c.ents c.pfxs) c (l ++ [y])
 rw [ea] at HS
 rw [ed] at HS2
 generalize jm8 (j5 c.ents c.pfxs) c l = T1 at *
 generalize jm8 (j5 c.ents c.pfxs) c (l ++ [y]) = T2 at *
 obtain ⟨p0, p1⟩ := hb1
 obtain ⟨p2, p3⟩ := hb2
 obtain ⟨UA, uc, rfl, _, _⟩ := h.ents.shape
 obtain ⟨VA, vc, rfl, _, _⟩ := h.pfxs.shape
 obtain ⟨RA, rc, rfl, _, _⟩ := h.ruls.shape
 obtain ⟨MA, mc, rfl, _, _⟩ := h.muls.shape
 obtain ⟨XA, xc, rfl, _, _⟩ := hx.shape
 clear h hs hx hxs hR hR2 hpp hye hys ea ed
 generalize c.own = own at *
 generalize c.beg = bg at *
 generalize c.fin = fn at *
 generalize c.byMode = bm0 at *
 generalize y.tm = Tm at *
 generalize y.mode = Mo at *
 generalize y.band = BD at *
 generalize y.call = CA at *
 generalize y.sent = SE at *
 generalize y.heard = HE at *
 generalize y.gave = GA at *
 generalize y.got = GO at *
 have hB := Blk.new w 33 #[.slice UA c.ents.length uc, .slice VA c.pfxs.length vc, .string own, .int .i64 bg, .int .i64 fn, .slice RA c.ruls.length rc, .slice MA c.muls.length mc, .bool bm0]
 have hgB := World.grownBy_alloc w (.cells #[.slice UA c.ents.length uc, .slice VA c.pfxs.length vc, .string own, .int .i64 bg, .int .i64 fn, .slice RA c.ruls.length rc, .slice MA c.muls.length mc, .bool bm0] 33) none
 have hY := Blk.new (w.alloc (.cells #[.slice UA c.ents.length uc, .slice VA c.pfxs.length vc, .string own, .int .i64 bg, .int .i64 fn, .slice RA c.ruls.length rc, .slice MA c.muls.length mc, .bool bm0] 33)) 50 #[.int .i64 Tm, .int .i64 Mo, .string BD, .string CA, .int .i64 SE, .int .i64 HE, .string GA, .string GO]
 have hgY := World.grownBy_alloc (w.alloc (.cells #[.slice UA c.ents.length uc, .slice VA c.pfxs.length vc, .string own, .int .i64 bg, .int .i64 fn, .slice RA c.ruls.length rc, .slice MA c.muls.length mc, .bool bm0] 33)) (.cells #[.int .i64 Tm, .int .i64 Mo, .string BD, .string CA, .int .i64 SE, .int .i64 HE, .string GA, .string GO] 50) none
 have e1 : (w.alloc (.cells #[.slice UA c.ents.length uc, .slice VA c.pfxs.length vc, .string own, .int .i64 bg, .int .i64 fn, .slice RA c.ruls.length rc, .slice MA c.muls.length mc, .bool bm0] 33)).heap.size = w.heap.size + 1 := by simp
 rw [e1] at hY
 have hB0 := hB.grown hgY (by simp)
 have hg0 := ja hgB hgY
 clear hB hgB hgY
 have hfd : ∀ (w : World) (a b c d : Int), (Instr.field 45 (.agg #[.int .i64 a, .int .i64 b, .int .i64 c, .int .i64 d]) 3).run Tryz.prog w = .ok (.int .i64 d) w := fun _ _ _ _ _ => by kernel_rfl
 go_enter Tryz.func20, Tryz.ntmps20
 go_upto_region 1 with fail
 (try rw [e1])
 clear e1
 generalize (w.alloc (.cells #[.slice UA c.ents.length uc, .slice VA c.pfxs.length vc, .string own, .int .i64 bg, .int .i64 fn, .slice RA c.ruls.length rc, .slice MA c.muls.length mc, .bool bm0] 33)).alloc (.cells #[.int .i64 Tm, .int .i64 Mo, .string BD, .string CA, .int .i64 SE, .int .i64 HE, .string GA, .string GO] 50) = w0 at *
 obtain ⟨gC, hgC⟩ : ∃ g, w.heap.size = g := ⟨_, rfl⟩
 have HGC := Lib.hid hgC
 rw [hgC] at hB0 hY
 (try rw [hgC])
 clear hgC
 obtain ⟨k0, k1, k2, k3, k4, k5, k6, k7⟩ := qh hB0
 go_wp2_with fail
 refine (HO.out _ hg0).mono ?_
 rintro _ w1 ⟨base2, gS, gT, bB, bW, rfl, hS1, hg1⟩
 have hG1 := ja hg0 hg1
 have hY1 := hY.grown hg1 (by simp)
 have HSA := Lib.hid hS1
 clear k0 k1 k2 k3 k4 k5 k6 k7 HO hB0 hY hg0 hg1 hS1
 obtain ⟨y0, y1, y2, y3, y4, y5, y6, y7⟩ := qh hY1
 have hQ := Blk.new w1 50 #[.int .i64 Tm, .int .i64 Mo, .string BD, .string CA, .int .i64 SE, .int .i64 HE, .string GA, .string GO]
 have hgQ := World.grownBy_alloc w1 (.cells #[.int .i64 Tm, .int .i64 Mo, .string BD, .string CA, .int .i64 SE, .int .i64 HE, .string GA, .string GO] 50) none
 go_wp2_with fail
 refine (HCC.out _ _ hQ).mono ?_
 rintro _ w2 ⟨rfl, hg2⟩
 have hg12 := ja hgQ hg2
 have hG2 := ja hG1 hg12
 have hY2 := hY1.grown hg12 (by simp)
 have HSA2 := Lib.hid (HSA.out.grown hg12)
 clear y0 y1 y2 y3 y4 y5 y6 y7 hQ hgQ hg2 hg12 hG1 hY1 HSA HCC
 go_upto_region 7 with fail
 obtain ⟨y0, y1, y2, y3, y4, y5, y6, y7⟩ := qh hY2
 have HKC : Hid (∀ V, w2.grownBy V none → V.cell? ⟨gC + 1, 0, none⟩ = some (.int .i64 Tm) ∧ V.cell? ⟨gC + 1, 1, none⟩ = some (.int .i64 Mo) ∧ V.cell? ⟨gC + 1, 2, none⟩ = some (.string BD) ∧ V.cell? ⟨gC + 1, 3, none⟩ = some (.string CA) ∧ V.cell? ⟨gC + 1, 4, none⟩ = some (.int .i64 SE) ∧ V.cell? ⟨gC + 1, 5, none⟩ = some (.int .i64 HE) ∧ V.cell? ⟨gC + 1, 6, none⟩ = some (.string GA) ∧ V.cell? ⟨gC + 1, 7, none⟩ = some (.string GO)) := fun V hV => ⟨hV.cell y0 (by simp), hV.cell y1 (by simp), hV.cell y2 (by simp), hV.cell y3 (by simp), hV.cell y4 (by simp), hV.cell y5 (by simp), hV.cell y6 (by simp), hV.cell y7 (by simp)⟩
 obtain ⟨B2, hB2⟩ : ∃ z, w2.heap.size = z := ⟨_, rfl⟩
 have hwB : w.heap.size ≤ B2 := by rw [← hB2]; exact hG2.size
 have HWB := Lib.hid hwB
 have HB2 := Lib.hid hB2
 clear y0 y1 y2 y3 y4 y5 y6 y7 hY2 hwB hB2
 refine jx [] (fun V => V.cell? ⟨gC + 1, 0, none⟩ = some (.int .i64 Tm) ∧ V.cell? ⟨gC + 1, 1, none⟩ = some (.int .i64 Mo) ∧ V.cell? ⟨gC + 1, 2, none⟩ = some (.string BD) ∧ V.cell? ⟨gC + 1, 3, none⟩ = some (.string CA) ∧ V.cell? ⟨gC + 1, 4, none⟩ = some (.int .i64 SE) ∧ V.cell? ⟨gC + 1, 5, none⟩ = some (.int .i64 HE) ∧ V.cell? ⟨gC + 1, 6, none⟩ = some (.string GA) ∧ V.cell? ⟨gC + 1, 7, none⟩ = some (.string GO)) (by kernel_rfl) ?_
 have hG : w2.grownBy w2.drew none := jn (jf _ _)
 generalize w2.drew = W at *
 revert hG
 revert W
 refine' qf ?h1_3 ?k1_3
 case' k1_3 =>
  intro H1_3
  refine' qf ?h1 ?k1
 case' k1 =>
  intro H1
  refine' qf ?h3 ?k3
 case' k3 => intro H3
 case k3 =>
  intro W hG
  refine tkA 0 27 (fun _ => HKC.out _ hG) ?_
  simp only [Act.put, ssA, ssZ, ssS]
  refine tkL 2 29 (HKC.out _ hG) ?_
  simp only [Act.put, ssA, ssZ, ssS]
  refine je (rs := [1, 3]) (by kernel_rfl) (by simp) ?_
  refine AllLate.cons (o := _) rfl (fun K hK => ?n2) (AllLate.cons (o := _) rfl (fun K hK => ?n1) AllLate.nil)
  case n2 =>
   go_simp
   (go_at_call 21; refine (HCL.out _ (ja hG2 hG)).mono ?_; rintro _ W2 ⟨ov, rfl, hO, hgp⟩)
   obtain ⟨NA, nc, rfl, -, -⟩ := hO.shape
   have hOb : B2 ≤ W.heap.size := by rw [← HB2.out]; exact hG.size
   replace hO := jq hO hOb
   clear hOb
   replace hG := ja hG hgp
   clear hgp
   refine hK.out _ _ (fun _ => HKC.out _ hG) ?_
   clear hK K
   (try simp only [Act.put, ssA, ssZ, ssS])
   refine jh (listed' := #[true, true, true, false, false, false]) (by kernel_rfl) ?_
   revert hO
   revert hG
   revert nc
   revert NA
   revert W2
   exact H1.out
  case n1 =>
   go_simp
   have hQ := Blk.new W 50 #[.int .i64 Tm, .int .i64 Mo, .string BD, .string CA, .int .i64 SE, .int .i64 HE, .string GA, .string GO]
   have hgp := World.grownBy_alloc W (.cells #[.int .i64 Tm, .int .i64 Mo, .string BD, .string CA, .int .i64 SE, .int .i64 HE, .string GA, .string GO] 50) none
   replace hG := ja hG hgp
   clear hgp
   generalize W.alloc (.cells #[.int .i64 Tm, .int .i64 Mo, .string BD, .string CA, .int .i64 SE, .int .i64 HE, .string GA, .string GO] 50) = W2 at *
   generalize W.heap.size = gQ at *
   refine hK.out _ _ (fun _ => HKC.out _ hG) ?_
   clear hK K
   (try simp only [Act.put, ssA, ssZ, ssS])
   refine jh (listed' := #[true, false, true, true, false, false]) (by kernel_rfl) ?_
   revert hQ
   revert hG
   revert gQ
   revert W2
   exact H3.out
 case h3 =>
  intro W gQ hG hQ
  refine je (rs := [1]) (by kernel_rfl) (by simp) ?_
  refine AllLate.cons (o := _) rfl (fun K hK => ?n3) AllLate.nil
  case n3 =>
   go_simp
   (go_at_call 21; refine (HCL.out _ (ja hG2 hG)).mono ?_; rintro _ W2 ⟨ov, rfl, hO, hgp⟩)
   obtain ⟨NA, nc, rfl, -, -⟩ := hO.shape
   have hOb : B2 ≤ W.heap.size := by rw [← HB2.out]; exact hG.size
   replace hO := jq hO hOb
   clear hOb
   replace hG := ja hG hgp
   replace hQ := hQ.grown hgp (by simp)
   clear hgp
   refine hK.out _ _ (fun _ => HKC.out _ hG) ?_
   clear hK K
   (try simp only [Act.put, ssA, ssZ, ssS])
   refine jh (listed' := #[true, true, true, true, false, false]) (by kernel_rfl) ?_
   revert hQ
   revert hO
   revert hG
   revert gQ
   revert nc
   revert NA
   revert W2
   exact H1_3.out
 case h1 =>
  intro W NA nc hG hO
  refine je (rs := [3]) (by kernel_rfl) (by simp) ?_
  refine AllLate.cons (o := _) rfl (fun K hK => ?n4) AllLate.nil
  case n4 =>
   go_simp
   have hQ := Blk.new W 50 #[.int .i64 Tm, .int .i64 Mo, .string BD, .string CA, .int .i64 SE, .int .i64 HE, .string GA, .string GO]
   have hgp := World.grownBy_alloc W (.cells #[.int .i64 Tm, .int .i64 Mo, .string BD, .string CA, .int .i64 SE, .int .i64 HE, .string GA, .string GO] 50) none
   replace hO := ConsFrom.grown hO hgp
   replace hG := ja hG hgp
   clear hgp
   generalize W.alloc (.cells #[.int .i64 Tm, .int .i64 Mo, .string BD, .string CA, .int .i64 SE, .int .i64 HE, .string GA, .string GO] 50) = W2 at *
   generalize W.heap.size = gQ at *
   refine hK.out _ _ (fun _ => HKC.out _ hG) ?_
   clear hK K
   (try simp only [Act.put, ssA, ssZ, ssS])
   refine jh (listed' := #[true, true, true, true, false, false]) (by kernel_rfl) ?_
   revert hQ
   revert hO
   revert hG
   revert gQ
   revert nc
   revert NA
   revert W2
   exact H1_3.out
 case h1_3 =>
  intro W NA nc gQ hG hO hQ
  refine je (rs := [4]) (by kernel_rfl) (by simp) ?_
  refine AllLate.cons (o := _) rfl (fun K hK => ?_) AllLate.nil
  have hsz : B2 ≤ W.heap.size := by rw [← HB2.out]; exact hG.size
  have hRO : World.ownsRow W B2 50 8 (.slice NA l.length nc) l.length (l.flatMap ja6) := hO
  refine step_append_lies _ (by rfl) (.tmp 28) (.tmp 30) 35 (by rfl) B2 50 i0 _ 8 96 Tryz.underlying35 hi hz0 hz1 hz2 rfl (by decide) _ _ _ (by rfl) hRO ⟨gQ, 0, none⟩ 1 1 [.int .i64 Tm, .int .i64 Mo, .string BD, .string CA, .int .i64 SE, .int .i64 HE, .string GA, .string GO] (by rfl) rfl (World.news_of_block hQ) (jek Tm Mo SE HE BD CA GA GO) (by decide) (by unfold maxLen; omega) (by omega) hsz _ rfl ?_
  intro g9 cap w9 hown9 hg9 hat hglt
  have hG9 : w2.grownBy w9 none := jk hG hg9 (fun g e => .inr (by have := (World.ownsRow.lt hRO g e).1; have := HB2.out; omega))
  refine hK.out _ _ (fun _ => HKC.out _ hG9) ?_
  clear hK K
  (try simp only [Act.put, ssA, ssZ, ssS])
  refine tkA 5 11 (fun _ => HKC.out _ hG9) ?_
  simp only [Act.put, ssA, ssZ, ssS]
  refine qe (by kernel_rfl) ?_ _
  have HU9 := Lib.hid (jq (HAP.out w9 B2 g9 cap hown9) HWB.out)
  have hGw := ja hG2 hG9
  have HSA9 := HSA2.out.grown hG9
  clear hO hQ hRO hown9 hg9 hat hsz HKC HCL
  go_wp2_with fail
  refine (HS2.out _ _ _ _ _ _ _ hGw HSA9 HU9.out).mono ?_
  rintro _ w10 ⟨rfl, hg10⟩
  have hGx := ja hGw hg10
  have HSA10 := HSA9.grown hg10
  go_wp2_with fail
  refine (HS.out _ _ _ _ _ _ hGx HSA10).mono ?_
  rintro _ w11 ⟨rfl, hg11⟩
  have hGy := ja hGx hg11
  go_wp2_with fail
  go_ret2
  exact ⟨rfl, hGy⟩
end Go.Proofs.YtbamhgaghngjiaaGreatDoor
