/- The jm9 jo1 the stream's RightContest, told exactly. Condition: the stream has handed out at most 10^8 numbers. -/
import Derived.Test.YtbamhgaghngjiaaGreatDoorCoai
namespace Go.Proofs.YtbamhgaghngjiaaGreatDoor
open Go.RowKit
set_option linter.unusedVariables false
set_option linter.unusedSimpArgs false

theorem jui : (Tryz.prog.info? 77).map (fun i => (i.zero, i.size, i.bytes)) = some (some (.agg #[.int .i64 0, .int .i64 0, .string ⟨#[]⟩, .int .i64 0]), 4, 40) := by kernel_rfl
theorem jtz : (Tryz.prog.info? 38).map (fun i => (i.zero, i.size, i.bytes)) = some (some (.agg #[.int .i64 0, .bool false, .bool false]), 3, 16) := by kernel_rfl
theorem jr3 (a b : Int) (c : ByteArray) (d : Int) : ∀ u ∈ [Value.int .i64 a, .int .i64 b, .string c, .int .i64 d], u.oneCell' = true := by
 intro u hu; simp at hu; rcases hu with rfl | rfl | rfl | rfl <;> rfl
theorem jrt (a : Int) (b c : Bool) : ∀ u ∈ [Value.int .i64 a, .bool b, .bool c], u.oneCell' = true := by
 intro u hu; simp at hu; rcases hu with rfl | rfl | rfl <;> rfl
theorem juj {base : Nat} {w : World} {g n c : Nat} {l : List Rul} (hn : n = l.length) (A B : Int) (C : ByteArray) (D : Int) (h : w.ownsRow base 77 4 (.slice (some ⟨g, 0, none⟩) (n + 1) c) (n + 1) (l.flatMap jwc ++ [.int .i64 A, .int .i64 B, .string C, .int .i64 D])) : RulsFrom base w (.slice (some ⟨g, 0, none⟩) (n + 1) c) (l ++ [⟨A, B, C, D⟩]) := by
 unfold RulsFrom
 rw [List.length_append, List.flatMap_append, ← hn]
 exact h
theorem jt0 {base : Nat} {w : World} {g n c : Nat} {l : List Mul} (hn : n = l.length) (A : Int) (B C : Bool) (h : w.ownsRow base 38 3 (.slice (some ⟨g, 0, none⟩) (n + 1) c) (n + 1) (l.flatMap jwb ++ [.int .i64 A, .bool B, .bool C])) : MulsFrom base w (.slice (some ⟨g, 0, none⟩) (n + 1) c) (l ++ [⟨A, B, C⟩]) := by
 unfold MulsFrom
 rw [List.length_append, List.flatMap_append, ← hn]
 exact h
theorem jbh {W W' : World} {e e' : TypeId} {base base' size size' n n' : Nat} {v v' : Value} {xs xs' : List Value} (h : W.ownsRow base e size v n xs) (h' : W.ownsRow base' e' size' v' n' xs') (he : e ≠ e') (hg : W.grownBy W' v'.ownBlock) : W'.ownsRow base e size v n xs := by
 refine h.kept hg ?_
 rcases h.2 with ⟨rfl, _⟩ | ⟨g, cap, cur, rfl, _, hh, _⟩
 ·exact .inl rfl
 refine .inr fun e2 => ?_
 rcases h'.2 with ⟨rfl, _⟩ | ⟨g', cap', cur', rfl, _, hh', _⟩
 ·simp [Value.ownBlock] at e2
 simp only [Value.ownBlock, Option.some.injEq] at e2
 subst e2
 rw [hh] at hh'
 injection hh' with hh'
 injection hh' with _ h2 _
 exact he h2
theorem jck {W W' : World} {X : Nat} {t e : TypeId} {cs : Array Value} {base size n : Nat} {v : Value} {xs : List Value} (hb : Blk W X t cs) (h : W.ownsRow base e size v n xs) (he : e ≠ t) (hg : W.grownBy W' v.ownBlock) : Blk W' X t cs := by
 refine hb.grown hg fun e2 => ?_
 rcases h.2 with ⟨rfl, _⟩ | ⟨g, cap, cur, rfl, _, hh, _⟩
 ·simp [Value.ownBlock] at e2
 simp only [Value.ownBlock, Option.some.injEq] at e2
 subst e2
 unfold Blk at hb
 rw [hb] at hh
 injection hh with hh
 injection hh with _ h2 _
 exact he h2.symm
theorem Blk.cells8 {w : World} {g : Nat} {t : TypeId} {a0 a1 a2 a3 a4 a5 a6 a7 : Value} (h : Blk w g t #[a0, a1, a2, a3, a4, a5, a6, a7]) : w.cell? ⟨g, 0, none⟩ = some a0 ∧ w.cell? ⟨g, 1, none⟩ = some a1 ∧ w.cell? ⟨g, 2, none⟩ = some a2 ∧ w.cell? ⟨g, 3, none⟩ = some a3 ∧ w.cell? ⟨g, 4, none⟩ = some a4 ∧ w.cell? ⟨g, 5, none⟩ = some a5 ∧ w.cell? ⟨g, 6, none⟩ = some a6 ∧ w.cell? ⟨g, 7, none⟩ = some a7 := ⟨h.cell 0, h.cell 1, h.cell 2, h.cell 3, h.cell 4, h.cell 5, h.cell 6, h.cell 7⟩
def jr2 (L : List Int) (k : Nat) : Rul := ⟨jbe L k 0 5, zm L (k + 1) [0, 0, 1, 2], jcg L (k + 2) [⟨#[]⟩, ⟨#[]⟩, ⟨#[98, 50, 48]⟩, ⟨#[98, 52, 48]⟩], zm L (k + 3) [0, 1, 2, 3, 10]⟩
def jkk (L : List Int) (k n : Nat) : List Rul := (List.range n).map fun j => jr2 L (k + 4 * j)
def jgu (L : List Int) (k : Nat) (n : Int) : Bool := decide (qx L k n = 0)
def yk (L : List Int) (k : Nat) : Nat → List Mul × Nat
 | 0 => ([], k)
 | j + 1 => if jgu L (yk L k j).2 2 then ((yk L k j).1 ++ [⟨(j : Int) + 1, jgu L ((yk L k j).2 + 1) 2, jgu L ((yk L k j).2 + 2) 3⟩], (yk L k j).2 + 3) else ((yk L k j).1, (yk L k j).2 + 1)
theorem jmt (L : List Int) (k n : Nat) : jkk L k (n + 1) = jkk L k n ++ [jr2 L (k + 4 * n)] := by
 unfold jkk
 rw [List.range_succ, List.map_append]; rfl
theorem jii (L : List Int) (k : Nat) : ∀ j, (yk L k j).1.length ≤ j ∧ k ≤ (yk L k j).2 ∧ (yk L k j).2 ≤ k + 3 * j
 | 0 => ⟨Nat.le_refl _, Nat.le_refl _, Nat.le_refl _⟩
 | j + 1 => by
   obtain ⟨h1, h2, h3⟩ := jii L k j
   unfold yk
   split
   ·simp only [List.length_append, List.length_cons, List.length_nil]; omega
   simp only []; omega
def jkg (L : List Int) (k : Nat) : Cst × Nat :=
 let o := rcF L 6 k
 let t := jfn L (o.2 + 3)
 let n := (jbe L t.2.2 0 4).toNat
 let m := yk L (t.2.2 + 1 + 4 * n) 5
 (⟨t.1, t.2.1, o.1, zm L o.2 [0, 20], zm L (o.2 + 1) [400, 200000, 300000], jkk L (t.2.2 + 1) n, m.1, jgu L (o.2 + 2) 2⟩, m.2)
theorem jv6 (L : List Int) (k : Nat) : (jr2 L k).band.size ≤ 3 := by
 have h := je9 L (k + 2) (xs := [⟨#[]⟩, ⟨#[]⟩, ⟨#[98, 50, 48]⟩, ⟨#[98, 52, 48]⟩]) (by decide)
 have h2 : ∀ x ∈ ([⟨#[]⟩, ⟨#[]⟩, ⟨#[98, 50, 48]⟩, ⟨#[98, 52, 48]⟩] : List ByteArray), x.size ≤ 3 := by decide
 exact h2 _ h
def jku (base b : Nat) (L : List Int) (k : Nat) (w : World) (e : Ending) (w' : World) : Prop :=
 ∃ (u v rv mv : Value) (c : Cst) (k' : Nat), Hid (jkg L k = (c, k')) ∧ e = .returned (.agg #[u, v, .string c.own, .int .i64 c.beg, .int .i64 c.fin, rv, mv, .bool c.byMode]) ∧ CstFrom w.heap.size w' u v rv mv c ∧ CstSm c ∧ (c.beg = 0 ∨ c.beg = 20) ∧ (c.fin = 400 ∨ c.fin = 200000 ∨ c.fin = 300000) ∧ (jo c.own).isSome = true ∧ c.ents.length ≤ 6 ∧ c.pfxs.length ≤ 24 ∧ c.ruls.length ≤ 4 ∧ c.muls.length ≤ 5 ∧ k ≤ k' ∧ k' ≤ k + 300 ∧ SX base w' b L k' ∧ w.grownBy w' (some b)
set_option maxRecDepth 100000 in
set_option maxHeartbeats 64000000 in
theorem jfm (base b : Nat) (L : List Int) (k : Nat) (w : World) (hs : SX base w b L k) (hk : k ≤ 100000000) :
 Calls Tryz.prog 7 #[.pointer (some ⟨b, 0, none⟩)] w (jku base b L k w) := by
 obtain ⟨i0, hi, hz0, hz1, hz2⟩ := info_parts jui
 obtain ⟨j0, hj, hy0, hy1, hy2⟩ := info_parts jtz
 have hbl := hs.lt
 have hbb := hs.base
 have HBB := Lib.hid hbb
 obtain ⟨B, hB⟩ : ∃ B, w.heap.size = B := ⟨_, rfl⟩
 have HB := Lib.hid hB
 have hres := Blk.new w 33 #[.slice none 0 0, .slice none 0 0, .string ⟨#[]⟩, .int .i64 0, .int .i64 0, .slice none 0 0, .slice none 0 0, .bool false]
 have hgA := World.grownBy_alloc w (.cells #[.slice none 0 0, .slice none 0 0, .string ⟨#[]⟩, .int .i64 0, .int .i64 0, .slice none 0 0, .slice none 0 0, .bool false] 33) (some b)
 have hs0 := hs.alloc (.cells #[.slice none 0 0, .slice none 0 0, .string ⟨#[]⟩, .int .i64 0, .int .i64 0, .slice none 0 0, .slice none 0 0, .bool false] 33)
 go_enter Tryz.func7, Tryz.ntmps7
 go_upto_region 1 with fail
 generalize w.alloc (.cells #[.slice none 0 0, .slice none 0 0, .string ⟨#[]⟩, .int .i64 0, .int .i64 0, .slice none 0 0, .slice none 0 0, .bool false] 33) = w0 at *
 rw [hB] at hres hbl
 (try rw [hB])
 clear hB hs hbb
 go_wp2_with fail
 refine (jkh base b L k _ hs0 (by omega)).mono ?_
 rintro _ w1 ⟨own, k1, HOWN, rfl, hown1, hown2, hown3, hk1, hk2, hs1, hg1⟩
 have HOS : Hid (own.size ≤ 30 ∧ Ascii own ∧ (jo own).isSome = true) := ⟨hown1, hown2, hown3⟩
 have hG1 := ja hgA hg1
 have hres1 := hres.grown hg1 (by simpa using (by omega : B ≠ b))
 clear hs0 hg1 hgA hres hown1 hown2 hown3
 go_wp2_with fail
 refine (jbp base b L _ _ 2 2 [0, 20] _ hs1 rfl (by omega) rfl (by decide) (by decide)).mono ?_
 rintro _ w2 ⟨bg, hbg, HBG, rfl, hs2, hg2⟩
 have HBG2 := Lib.hid hbg
 have hG2 := ja hG1 hg2
 have hres2 := hres1.grown hg2 (by simpa using (by omega : B ≠ b))
 clear hs1 hg2 hG1 hres1 hbg
 go_wp2_with fail
 refine (jbp base b L _ _ 3 3 [400, 200000, 300000] _ hs2 rfl (by omega) rfl (by decide) (by decide)).mono ?_
 rintro _ w3 ⟨fn, hfn, HFN, rfl, hs3, hg3⟩
 have HFN2 := Lib.hid hfn
 have hG3 := ja hG2 hg3
 have hres3 := hres2.grown hg3 (by simpa using (by omega : B ≠ b))
 clear hs2 hg3 hG2 hres2 hfn
 go_wp2_with fail
 refine (jac base b L _ 2 _ hs3 (by omega) (by decide) (by decide)).mono ?_
 rintro _ w4 ⟨bm, HBM, rfl, hs4, hg4⟩
 have hG4 := ja hG3 hg4
 have hres4 := hres3.grown hg4 (by simpa using (by omega : B ≠ b))
 clear hs3 hg4 hG3 hres3
 go_upto_region 2 with fail
 have hC := Blk.new w4 33 #[.slice none 0 0, .slice none 0 0, .string own, .int .i64 bg, .int .i64 fn, .slice none 0 0, .slice none 0 0, .bool bm]
 have hs5 := hs4.alloc (.cells #[.slice none 0 0, .slice none 0 0, .string own, .int .i64 bg, .int .i64 fn, .slice none 0 0, .slice none 0 0, .bool bm] 33)
 have hres5 := hres4.alloc (.cells #[.slice none 0 0, .slice none 0 0, .string own, .int .i64 bg, .int .i64 fn, .slice none 0 0, .slice none 0 0, .bool bm] 33)
 have hG5 := jd hG4 (.cells #[.slice none 0 0, .slice none 0 0, .string own, .int .i64 bg, .int .i64 fn, .slice none 0 0, .slice none 0 0, .bool bm] 33)
 have hwC : B < w4.heap.size := hres4.lt
 generalize w4.alloc (.cells #[.slice none 0 0, .slice none 0 0, .string own, .int .i64 bg, .int .i64 fn, .slice none 0 0, .slice none 0 0, .bool bm] 33) = w5 at *
 obtain ⟨gC, hgC⟩ : ∃ g, w4.heap.size = g := ⟨_, rfl⟩
 rw [hgC] at hC hwC ⊢
 have hCl := hC.lt
 have hbC : b ≠ gC := by have := hs4.lt; omega
 have HBC := Lib.hid hbC
 clear hs4 hG4 hres4 hgC
 go_wp2_with fail
 refine (jix base b L _ _ hs5 (by omega)).mono ?_
 rintro _ w6 ⟨u, v, l, q, k6, HRT, rfl, hu, hv, hl1, hl6, hp24, hAE, hAP, hk60, hk61, hs6, hg6⟩
 obtain ⟨UA, uc, rfl, hul, _⟩ := hu.shape
 obtain ⟨VA, vc, rfl, hvl, _⟩ := hv.shape
 have hG6 := ja hG5 hg6
 have hC6 := hC.grown hg6 (by simpa using hbC.symm)
 have hres6 := hres5.grown hg6 (by simpa using (by omega : B ≠ b))
 have HES := Lib.hid (jtq hAE)
 have HPS := Lib.hid (jt9 hAP (jki HRT.out))
 have HLN : Hid (l.length ≤ 6 ∧ q.length ≤ 24) := ⟨hl6, hp24⟩
 obtain ⟨H5, hH5⟩ : ∃ x, w5.heap.size = x := ⟨_, rfl⟩
 rw [hH5] at hu hv hCl
 have k0 := hC6.cell 0
 have k1 := hC6.cell 1
 have f0 := hC6.free 0
 have f1 := hC6.free 1
 simp only [geA, geZ, geS] at k0 k1
 have hsz6 : H5 ≤ w6.heap.size := by rw [← hH5]; exact hg6.size
 have hb5 : b < H5 := by rw [← hH5]; exact hs5.lt
 clear hs5 hg6 hG5 hC hres5 hAE hAP hl1 hl6 hp24 hH5
 go_upto_region 3 with fail
 have hC7 : Blk ((w6.setCell ⟨gC, 0, none⟩ (.slice UA l.length uc)).setCell ⟨gC, 1, none⟩ (.slice VA q.length vc)) gC 33 #[.slice UA l.length uc, .slice VA q.length vc, .string own, .int .i64 bg, .int .i64 fn, .slice none 0 0, .slice none 0 0, .bool bm] := (hC6.put 0 _).put 1 _
 have hg7 : w6.grownBy ((w6.setCell ⟨gC, 0, none⟩ (.slice UA l.length uc)).setCell ⟨gC, 1, none⟩ (.slice VA q.length vc)) (some gC) := jg (p := ⟨gC, 1, none⟩) (jg (p := ⟨gC, 0, none⟩) (jf _ _) (.inl rfl) _) (.inl rfl) _
 generalize (w6.setCell ⟨gC, 0, none⟩ (.slice UA l.length uc)).setCell ⟨gC, 1, none⟩ (.slice VA q.length vc) = w7 at *
 generalize Value.slice UA l.length uc = UV at *
 generalize Value.slice VA q.length vc = VV at *
 have hu7 := EntsFrom.other hu hg7 hCl
 have hv7 := PfxsFrom.other hv hg7 hCl
 have hres7 := hres6.grown hg7 (by simpa using (by omega : B ≠ gC))
 have hs7 := hs6.grown hg7 (fun g e => by injection e with e; subst e; exact ⟨hbC.symm, by have := HBB.out; omega⟩)
 have hG7 : w.grownBy w7 (some b) := jk hG6 hg7 (fun g e => by injection e with e; exact .inr (by have := HB.out; omega))
 have hsz7 : H5 ≤ w7.heap.size := by have := hg7.size; omega
 clear hC6 hg7 hu hv hres6 hs6 hG6 k0 k1 f0 f1 hsz6 hul hvl
 go_wp2_with fail
 refine (jat base b L k6 0 4 _ hs7 (by omega) (by decide) (by decide) (by decide)).mono ?_
 rintro _ w8 ⟨nz, hn0, hn4, HN, rfl, hs8, hg8⟩
 obtain ⟨N, rfl⟩ := Int.eq_ofNat_of_zero_le hn0
 have hC8 := hC7.grown hg8 (by simpa using hbC.symm)
 have hu8 := EntsFrom.other hu7 hg8 hb5
 have hv8 := PfxsFrom.other hv7 hg8 hb5
 have hres8 := hres7.grown hg8 (by simpa using (by omega : B ≠ b))
 have hG8 := ja hG7 hg8
 have hsz8 : H5 ≤ w8.heap.size := by have := hg8.size; omega
 clear hC7 hu7 hv7 hres7 hG7 hs7 hg8 hsz7
 go_wp2_with fail
 go_loopw [26] (fun iv wr => ∃ (j : Nat) (rv : Value) (RL : List Rul), j ≤ N ∧ iv = .int .i64 j ∧ Hid (jkk L (k6 + 1) j = RL) ∧ Hid (RL.length = j) ∧ RulsFrom H5 wr rv RL ∧ Blk wr gC 33 #[UV, VV, .string own, .int .i64 bg, .int .i64 fn, rv, .slice none 0 0, .bool bm] ∧ EntsFrom H5 wr UV l ∧ PfxsFrom H5 wr VV q ∧ Blk wr B 33 #[.slice none 0 0, .slice none 0 0, .string ⟨#[]⟩, .int .i64 0, .int .i64 0, .slice none 0 0, .slice none 0 0, .bool false] ∧ H5 ≤ wr.heap.size ∧ SX base wr b L (k6 + 1 + 4 * j) ∧ w.grownBy wr (some b)) (fun iv _ => N - (intOf iv).toNat)
 case atStart => exact ⟨0, _, [], by omega, rfl, (show _ = _ from rfl), (show _ = _ from rfl), World.ownsRow_nil _ _ _ _, hC8, hu8, hv8, hres8, hsz8, hs8, hG8⟩
 case round =>
  obtain ⟨j, rv, RL, hjN, rfl, HRL, HRN, hR, hC, hu, hv, hres, hsz, hsj, hG0⟩ := hrel
  clear hC8 hu8 hv8 hres8 hs8 hG8 hsz8
  obtain ⟨RA, rc, rfl, hrl, hRA⟩ := hR.shape
  rw [HRN.out] at hR hC
  (try rw [HRN.out])
  by_cases hlt : j < N
  ·have hji : (j : Int) < (N : Int) := by omega
   obtain ⟨KK, hKK⟩ : ∃ x, k6 + 1 + 4 * j = x := ⟨_, rfl⟩
   rw [hKK] at hsj
   have HKK := Lib.hid hKK
   have hKb : KK ≤ 100001000 := by omega
   have k5 := hC.cell 5
   simp only [geA, geZ, geS] at k5
   have HKC : Hid (∀ V, wr.grownBy V (some b) → V.cell? ⟨gC, 5, none⟩ = some (.slice RA j rc)) := fun V hV => hV.cell k5 (by simpa using HBC.out.symm)
   have HR := Lib.hid hR
   have HC := Lib.hid hC
   have HU := Lib.hid hu
   have HV := Lib.hid hv
   have HRES := Lib.hid hres
   have HSZ := Lib.hid hsz
   have HG0 := Lib.hid hG0
   clear hR hC hu hv hres hsz hG0 k5 hKK hrl hRA
   go_upto_region 5 with fail
   refine jx [17] (fun V => V.cell? ⟨gC, 5, none⟩ = some (.slice RA j rc)) (by kernel_rfl) ?_
   have hS := hsj.drew
   have hG : wr.grownBy wr.drew (some b) := jn (jf _ _)
   generalize wr.drew = W at *
   revert hG
   revert hS
   revert W
   refine' qf ?h3_5_6_8_9_11_12 ?k3_5_6_8_9_11_12
   case' k3_5_6_8_9_11_12 =>
    intro H3_5_6_8_9_11_12
    refine' qf ?h3_5_6_8_9_11 ?k3_5_6_8_9_11
   case' k3_5_6_8_9_11 =>
    intro H3_5_6_8_9_11
    refine' qf ?h3_5_6_8_9 ?k3_5_6_8_9
   case' k3_5_6_8_9 =>
    intro H3_5_6_8_9
    refine' qf ?h3_5_6_8_11 ?k3_5_6_8_11
   case' k3_5_6_8_11 =>
    intro H3_5_6_8_11
    refine' qf ?h3_5_6_8 ?k3_5_6_8
   case' k3_5_6_8 =>
    intro H3_5_6_8
    refine' qf ?h3_5_6_11 ?k3_5_6_11
   case' k3_5_6_11 =>
    intro H3_5_6_11
    refine' qf ?h3_5_8_11 ?k3_5_8_11
   case' k3_5_8_11 =>
    intro H3_5_8_11
    refine' qf ?h3_5_6 ?k3_5_6
   case' k3_5_6 =>
    intro H3_5_6
    refine' qf ?h3_5_8 ?k3_5_8
   case' k3_5_8 =>
    intro H3_5_8
    refine' qf ?h3_5_11 ?k3_5_11
   case' k3_5_11 =>
    intro H3_5_11
    refine' qf ?h3_8_11 ?k3_8_11
   case' k3_8_11 =>
    intro H3_8_11
    refine' qf ?h5_8_11 ?k5_8_11
   case' k5_8_11 =>
    intro H5_8_11
    refine' qf ?h3_5 ?k3_5
   case' k3_5 =>
    intro H3_5
    refine' qf ?h3_8 ?k3_8
   case' k3_8 =>
    intro H3_8
    refine' qf ?h3_11 ?k3_11
   case' k3_11 =>
    intro H3_11
    refine' qf ?h5_8 ?k5_8
   case' k5_8 =>
    intro H5_8
    refine' qf ?h5_11 ?k5_11
   case' k5_11 =>
    intro H5_11
    refine' qf ?h8_11 ?k8_11
   case' k8_11 =>
    intro H8_11
    refine' qf ?h3 ?k3
   case' k3 =>
    intro H3
    refine' qf ?h5 ?k5
   case' k5 =>
    intro H5
    refine' qf ?h8 ?k8
   case' k8 =>
    intro H8
    refine' qf ?h11 ?k11
   case' k11 => intro H11
   case k11 =>
    intro W hS hG
    refine tkA 0 28 (fun _ => HKC.out _ hG) ?_
    simp only [Act.put, ssA, ssZ, ssS]
    refine tkL 1 29 (HKC.out _ hG) ?_
    simp only [Act.put, ssA, ssZ, ssS]
    refine tkA 2 30 (fun _ => HKC.out _ hG) ?_
    simp only [Act.put, ssA, ssZ, ssS]
    refine tkA 4 32 (fun _ => HKC.out _ hG) ?_
    simp only [Act.put, ssA, ssZ, ssS]
    refine tkA 7 35 (fun _ => HKC.out _ hG) ?_
    simp only [Act.put, ssA, ssZ, ssS]
    refine tkA 10 38 (fun _ => HKC.out _ hG) ?_
    simp only [Act.put, ssA, ssZ, ssS]
    refine je (rs := [3, 5, 8, 11]) (by kernel_rfl) (by simp) ?_
    refine AllLate.cons (o := _) rfl (fun K hK => ?n4) (AllLate.cons (o := _) rfl (fun K hK => ?n3) (AllLate.cons (o := _) rfl (fun K hK => ?n2) (AllLate.cons (o := _) rfl (fun K hK => ?n1) AllLate.nil)))
    case n4 =>
     go_simp
     (go_at_call 30; refine (jat base b L (KK) 0 5 _ hS (by omega) (by decide) (by decide) (by decide)).mono ?_; rintro _ W2 ⟨r0, -, -, HR0, rfl, hS2, hg2⟩)
     replace hG := ja hG hg2
     clear hS
     have hS := hS2
     clear hS2 hg2
     refine hK.out _ _ (fun _ => HKC.out _ hG) ?_
     clear hK K
     (try simp only [Act.put, ssA, ssZ, ssS])
     refine jh (listed' := #[true, true, true, true, true, false, false, true, false, false, true, false, false, false, false, false, false, false]) (by kernel_rfl) ?_
     revert hG
     revert hS
     revert HR0
     revert r0
     revert W2
     exact H3.out
    case n3 =>
     go_simp
     have hLa := Blk.new W 3 #[.int .i64 0, .int .i64 0, .int .i64 1, .int .i64 2]
     have hLab : W.heap.size ≠ b := by have := hS.lt; omega
     replace hS := hS.alloc (.cells #[.int .i64 0, .int .i64 0, .int .i64 1, .int .i64 2] 3)
     replace hG := jd hG (.cells #[.int .i64 0, .int .i64 0, .int .i64 1, .int .i64 2] 3)
     generalize W.alloc (.cells #[.int .i64 0, .int .i64 0, .int .i64 1, .int .i64 2] 3) = W2 at *
     generalize W.heap.size = gA at *
     refine hK.out _ _ (fun _ => HKC.out _ hG) ?_
     clear hK K
     (try simp only [Act.put, ssA, ssZ, ssS])
     refine jh (listed' := #[true, true, true, false, true, true, false, true, false, false, true, false, false, false, false, false, false, false]) (by kernel_rfl) ?_
     revert hLab
     revert hLa
     revert hG
     revert hS
     revert gA
     revert W2
     exact H5.out
    case n2 =>
     go_simp
     have hLb := Blk.new W 9 #[.string ⟨#[]⟩, .string ⟨#[]⟩, .string ⟨#[98, 50, 48]⟩, .string ⟨#[98, 52, 48]⟩]
     have hLbb : W.heap.size ≠ b := by have := hS.lt; omega
     replace hS := hS.alloc (.cells #[.string ⟨#[]⟩, .string ⟨#[]⟩, .string ⟨#[98, 50, 48]⟩, .string ⟨#[98, 52, 48]⟩] 9)
     replace hG := jd hG (.cells #[.string ⟨#[]⟩, .string ⟨#[]⟩, .string ⟨#[98, 50, 48]⟩, .string ⟨#[98, 52, 48]⟩] 9)
     generalize W.alloc (.cells #[.string ⟨#[]⟩, .string ⟨#[]⟩, .string ⟨#[98, 50, 48]⟩, .string ⟨#[98, 52, 48]⟩] 9) = W2 at *
     generalize W.heap.size = gB at *
     refine hK.out _ _ (fun _ => HKC.out _ hG) ?_
     clear hK K
     (try simp only [Act.put, ssA, ssZ, ssS])
     refine jh (listed' := #[true, true, true, false, true, false, false, true, true, false, true, false, false, false, false, false, false, false]) (by kernel_rfl) ?_
     revert hLbb
     revert hLb
     revert hG
     revert hS
     revert gB
     revert W2
     exact H8.out
    case n1 =>
     go_simp
     have hLc := Blk.new W 3 #[.int .i64 0, .int .i64 1, .int .i64 2, .int .i64 3, .int .i64 10]
     have hLcb : W.heap.size ≠ b := by have := hS.lt; omega
     replace hS := hS.alloc (.cells #[.int .i64 0, .int .i64 1, .int .i64 2, .int .i64 3, .int .i64 10] 3)
     replace hG := jd hG (.cells #[.int .i64 0, .int .i64 1, .int .i64 2, .int .i64 3, .int .i64 10] 3)
     generalize W.alloc (.cells #[.int .i64 0, .int .i64 1, .int .i64 2, .int .i64 3, .int .i64 10] 3) = W2 at *
     generalize W.heap.size = gD at *
     refine hK.out _ _ (fun _ => HKC.out _ hG) ?_
     clear hK K
     (try simp only [Act.put, ssA, ssZ, ssS])
     refine jh (listed' := #[true, true, true, false, true, false, false, true, false, false, true, true, false, false, false, false, false, false]) (by kernel_rfl) ?_
     revert hLcb
     revert hLc
     revert hG
     revert hS
     revert gD
     revert W2
     exact H11.out
   case h11 =>
    intro W gD hS hG hLc hLcb
    refine je (rs := [3, 5, 8]) (by kernel_rfl) (by simp) ?_
    refine AllLate.cons (o := _) rfl (fun K hK => ?n7) (AllLate.cons (o := _) rfl (fun K hK => ?n6) (AllLate.cons (o := _) rfl (fun K hK => ?n5) AllLate.nil))
    case n7 =>
     go_simp
     (go_at_call 30; refine (jat base b L (KK) 0 5 _ hS (by omega) (by decide) (by decide) (by decide)).mono ?_; rintro _ W2 ⟨r0, -, -, HR0, rfl, hS2, hg2⟩)
     replace hG := ja hG hg2
     replace hLc := Blk.grown hLc hg2 (by simpa using hLcb)
     clear hS
     have hS := hS2
     clear hS2 hg2
     refine hK.out _ _ (fun _ => HKC.out _ hG) ?_
     clear hK K
     (try simp only [Act.put, ssA, ssZ, ssS])
     refine jh (listed' := #[true, true, true, true, true, false, false, true, false, false, true, true, false, false, false, false, false, false]) (by kernel_rfl) ?_
     revert hLcb
     revert hLc
     revert hG
     revert hS
     revert gD
     revert HR0
     revert r0
     revert W2
     exact H3_11.out
    case n6 =>
     go_simp
     have hLa := Blk.new W 3 #[.int .i64 0, .int .i64 0, .int .i64 1, .int .i64 2]
     have hLab : W.heap.size ≠ b := by have := hS.lt; omega
     replace hS := hS.alloc (.cells #[.int .i64 0, .int .i64 0, .int .i64 1, .int .i64 2] 3)
     replace hLc := Blk.alloc hLc (.cells #[.int .i64 0, .int .i64 0, .int .i64 1, .int .i64 2] 3)
     replace hG := jd hG (.cells #[.int .i64 0, .int .i64 0, .int .i64 1, .int .i64 2] 3)
     generalize W.alloc (.cells #[.int .i64 0, .int .i64 0, .int .i64 1, .int .i64 2] 3) = W2 at *
     generalize W.heap.size = gA at *
     refine hK.out _ _ (fun _ => HKC.out _ hG) ?_
     clear hK K
     (try simp only [Act.put, ssA, ssZ, ssS])
     refine jh (listed' := #[true, true, true, false, true, true, false, true, false, false, true, true, false, false, false, false, false, false]) (by kernel_rfl) ?_
     revert hLcb
     revert hLc
     revert hLab
     revert hLa
     revert hG
     revert hS
     revert gD
     revert gA
     revert W2
     exact H5_11.out
    case n5 =>
     go_simp
     have hLb := Blk.new W 9 #[.string ⟨#[]⟩, .string ⟨#[]⟩, .string ⟨#[98, 50, 48]⟩, .string ⟨#[98, 52, 48]⟩]
     have hLbb : W.heap.size ≠ b := by have := hS.lt; omega
     replace hS := hS.alloc (.cells #[.string ⟨#[]⟩, .string ⟨#[]⟩, .string ⟨#[98, 50, 48]⟩, .string ⟨#[98, 52, 48]⟩] 9)
     replace hLc := Blk.alloc hLc (.cells #[.string ⟨#[]⟩, .string ⟨#[]⟩, .string ⟨#[98, 50, 48]⟩, .string ⟨#[98, 52, 48]⟩] 9)
     replace hG := jd hG (.cells #[.string ⟨#[]⟩, .string ⟨#[]⟩, .string ⟨#[98, 50, 48]⟩, .string ⟨#[98, 52, 48]⟩] 9)
     generalize W.alloc (.cells #[.string ⟨#[]⟩, .string ⟨#[]⟩, .string ⟨#[98, 50, 48]⟩, .string ⟨#[98, 52, 48]⟩] 9) = W2 at *
     generalize W.heap.size = gB at *
     refine hK.out _ _ (fun _ => HKC.out _ hG) ?_
     clear hK K
     (try simp only [Act.put, ssA, ssZ, ssS])
     refine jh (listed' := #[true, true, true, false, true, false, false, true, true, false, true, true, false, false, false, false, false, false]) (by kernel_rfl) ?_
     revert hLcb
     revert hLc
     revert hLbb
     revert hLb
     revert hG
     revert hS
     revert gD
     revert gB
     revert W2
     exact H8_11.out
   case h8 =>
    intro W gB hS hG hLb hLbb
    refine je (rs := [3, 5, 11]) (by kernel_rfl) (by simp) ?_
    refine AllLate.cons (o := _) rfl (fun K hK => ?n10) (AllLate.cons (o := _) rfl (fun K hK => ?n9) (AllLate.cons (o := _) rfl (fun K hK => ?n8) AllLate.nil))
    case n10 =>
     go_simp
     (go_at_call 30; refine (jat base b L (KK) 0 5 _ hS (by omega) (by decide) (by decide) (by decide)).mono ?_; rintro _ W2 ⟨r0, -, -, HR0, rfl, hS2, hg2⟩)
     replace hG := ja hG hg2
     replace hLb := Blk.grown hLb hg2 (by simpa using hLbb)
     clear hS
     have hS := hS2
     clear hS2 hg2
     refine hK.out _ _ (fun _ => HKC.out _ hG) ?_
     clear hK K
     (try simp only [Act.put, ssA, ssZ, ssS])
     refine jh (listed' := #[true, true, true, true, true, false, false, true, true, false, true, false, false, false, false, false, false, false]) (by kernel_rfl) ?_
     revert hLbb
     revert hLb
     revert hG
     revert hS
     revert gB
     revert HR0
     revert r0
     revert W2
     exact H3_8.out
    case n9 =>
     go_simp
     have hLa := Blk.new W 3 #[.int .i64 0, .int .i64 0, .int .i64 1, .int .i64 2]
     have hLab : W.heap.size ≠ b := by have := hS.lt; omega
     replace hS := hS.alloc (.cells #[.int .i64 0, .int .i64 0, .int .i64 1, .int .i64 2] 3)
     replace hLb := Blk.alloc hLb (.cells #[.int .i64 0, .int .i64 0, .int .i64 1, .int .i64 2] 3)
     replace hG := jd hG (.cells #[.int .i64 0, .int .i64 0, .int .i64 1, .int .i64 2] 3)
     generalize W.alloc (.cells #[.int .i64 0, .int .i64 0, .int .i64 1, .int .i64 2] 3) = W2 at *
     generalize W.heap.size = gA at *
     refine hK.out _ _ (fun _ => HKC.out _ hG) ?_
     clear hK K
     (try simp only [Act.put, ssA, ssZ, ssS])
     refine jh (listed' := #[true, true, true, false, true, true, false, true, true, false, true, false, false, false, false, false, false, false]) (by kernel_rfl) ?_
     revert hLbb
     revert hLb
     revert hLab
     revert hLa
     revert hG
     revert hS
     revert gB
     revert gA
     revert W2
     exact H5_8.out
    case n8 =>
     go_simp
     have hLc := Blk.new W 3 #[.int .i64 0, .int .i64 1, .int .i64 2, .int .i64 3, .int .i64 10]
     have hLcb : W.heap.size ≠ b := by have := hS.lt; omega
     replace hS := hS.alloc (.cells #[.int .i64 0, .int .i64 1, .int .i64 2, .int .i64 3, .int .i64 10] 3)
     replace hLb := Blk.alloc hLb (.cells #[.int .i64 0, .int .i64 1, .int .i64 2, .int .i64 3, .int .i64 10] 3)
     replace hG := jd hG (.cells #[.int .i64 0, .int .i64 1, .int .i64 2, .int .i64 3, .int .i64 10] 3)
     generalize W.alloc (.cells #[.int .i64 0, .int .i64 1, .int .i64 2, .int .i64 3, .int .i64 10] 3) = W2 at *
     generalize W.heap.size = gD at *
     refine hK.out _ _ (fun _ => HKC.out _ hG) ?_
     clear hK K
     (try simp only [Act.put, ssA, ssZ, ssS])
     refine jh (listed' := #[true, true, true, false, true, false, false, true, true, false, true, true, false, false, false, false, false, false]) (by kernel_rfl) ?_
     revert hLcb
     revert hLc
     revert hLbb
     revert hLb
     revert hG
     revert hS
     revert gD
     revert gB
     revert W2
     exact H8_11.out
   case h5 =>
    intro W gA hS hG hLa hLab
    refine je (rs := [3, 8, 11]) (by kernel_rfl) (by simp) ?_
    refine AllLate.cons (o := _) rfl (fun K hK => ?n13) (AllLate.cons (o := _) rfl (fun K hK => ?n12) (AllLate.cons (o := _) rfl (fun K hK => ?n11) AllLate.nil))
    case n13 =>
     go_simp
     (go_at_call 30; refine (jat base b L (KK) 0 5 _ hS (by omega) (by decide) (by decide) (by decide)).mono ?_; rintro _ W2 ⟨r0, -, -, HR0, rfl, hS2, hg2⟩)
     replace hG := ja hG hg2
     replace hLa := Blk.grown hLa hg2 (by simpa using hLab)
     clear hS
     have hS := hS2
     clear hS2 hg2
     refine hK.out _ _ (fun _ => HKC.out _ hG) ?_
     clear hK K
     (try simp only [Act.put, ssA, ssZ, ssS])
     refine jh (listed' := #[true, true, true, true, true, true, false, true, false, false, true, false, false, false, false, false, false, false]) (by kernel_rfl) ?_
     revert hLab
     revert hLa
     revert hG
     revert hS
     revert gA
     revert HR0
     revert r0
     revert W2
     exact H3_5.out
    case n12 =>
     go_simp
     have hLb := Blk.new W 9 #[.string ⟨#[]⟩, .string ⟨#[]⟩, .string ⟨#[98, 50, 48]⟩, .string ⟨#[98, 52, 48]⟩]
     have hLbb : W.heap.size ≠ b := by have := hS.lt; omega
     replace hS := hS.alloc (.cells #[.string ⟨#[]⟩, .string ⟨#[]⟩, .string ⟨#[98, 50, 48]⟩, .string ⟨#[98, 52, 48]⟩] 9)
     replace hLa := Blk.alloc hLa (.cells #[.string ⟨#[]⟩, .string ⟨#[]⟩, .string ⟨#[98, 50, 48]⟩, .string ⟨#[98, 52, 48]⟩] 9)
     replace hG := jd hG (.cells #[.string ⟨#[]⟩, .string ⟨#[]⟩, .string ⟨#[98, 50, 48]⟩, .string ⟨#[98, 52, 48]⟩] 9)
     generalize W.alloc (.cells #[.string ⟨#[]⟩, .string ⟨#[]⟩, .string ⟨#[98, 50, 48]⟩, .string ⟨#[98, 52, 48]⟩] 9) = W2 at *
     generalize W.heap.size = gB at *
     refine hK.out _ _ (fun _ => HKC.out _ hG) ?_
     clear hK K
     (try simp only [Act.put, ssA, ssZ, ssS])
     refine jh (listed' := #[true, true, true, false, true, true, false, true, true, false, true, false, false, false, false, false, false, false]) (by kernel_rfl) ?_
     revert hLbb
     revert hLb
     revert hLab
     revert hLa
     revert hG
     revert hS
     revert gB
     revert gA
     revert W2
     exact H5_8.out
    case n11 =>
     go_simp
     have hLc := Blk.new W 3 #[.int .i64 0, .int .i64 1, .int .i64 2, .int .i64 3, .int .i64 10]
     have hLcb : W.heap.size ≠ b := by have := hS.lt; omega
     replace hS := hS.alloc (.cells #[.int .i64 0, .int .i64 1, .int .i64 2, .int .i64 3, .int .i64 10] 3)
     replace hLa := Blk.alloc hLa (.cells #[.int .i64 0, .int .i64 1, .int .i64 2, .int .i64 3, .int .i64 10] 3)
     replace hG := jd hG (.cells #[.int .i64 0, .int .i64 1, .int .i64 2, .int .i64 3, .int .i64 10] 3)
     generalize W.alloc (.cells #[.int .i64 0, .int .i64 1, .int .i64 2, .int .i64 3, .int .i64 10] 3) = W2 at *
     generalize W.heap.size = gD at *
     refine hK.out _ _ (fun _ => HKC.out _ hG) ?_
     clear hK K
     (try simp only [Act.put, ssA, ssZ, ssS])
     refine jh (listed' := #[true, true, true, false, true, true, false, true, false, false, true, true, false, false, false, false, false, false]) (by kernel_rfl) ?_
     revert hLcb
     revert hLc
     revert hLab
     revert hLa
     revert hG
     revert hS
     revert gD
     revert gA
     revert W2
     exact H5_11.out
   case h3 =>
    intro W r0 HR0 hS hG
    refine je (rs := [5, 8, 11]) (by kernel_rfl) (by simp) ?_
    refine AllLate.cons (o := _) rfl (fun K hK => ?n16) (AllLate.cons (o := _) rfl (fun K hK => ?n15) (AllLate.cons (o := _) rfl (fun K hK => ?n14) AllLate.nil))
    case n16 =>
     go_simp
     have hLa := Blk.new W 3 #[.int .i64 0, .int .i64 0, .int .i64 1, .int .i64 2]
     have hLab : W.heap.size ≠ b := by have := hS.lt; omega
     replace hS := hS.alloc (.cells #[.int .i64 0, .int .i64 0, .int .i64 1, .int .i64 2] 3)
     replace hG := jd hG (.cells #[.int .i64 0, .int .i64 0, .int .i64 1, .int .i64 2] 3)
     generalize W.alloc (.cells #[.int .i64 0, .int .i64 0, .int .i64 1, .int .i64 2] 3) = W2 at *
     generalize W.heap.size = gA at *
     refine hK.out _ _ (fun _ => HKC.out _ hG) ?_
     clear hK K
     (try simp only [Act.put, ssA, ssZ, ssS])
     refine jh (listed' := #[true, true, true, true, true, true, false, true, false, false, true, false, false, false, false, false, false, false]) (by kernel_rfl) ?_
     revert hLab
     revert hLa
     revert hG
     revert hS
     revert gA
     revert HR0
     revert r0
     revert W2
     exact H3_5.out
    case n15 =>
     go_simp
     have hLb := Blk.new W 9 #[.string ⟨#[]⟩, .string ⟨#[]⟩, .string ⟨#[98, 50, 48]⟩, .string ⟨#[98, 52, 48]⟩]
     have hLbb : W.heap.size ≠ b := by have := hS.lt; omega
     replace hS := hS.alloc (.cells #[.string ⟨#[]⟩, .string ⟨#[]⟩, .string ⟨#[98, 50, 48]⟩, .string ⟨#[98, 52, 48]⟩] 9)
     replace hG := jd hG (.cells #[.string ⟨#[]⟩, .string ⟨#[]⟩, .string ⟨#[98, 50, 48]⟩, .string ⟨#[98, 52, 48]⟩] 9)
     generalize W.alloc (.cells #[.string ⟨#[]⟩, .string ⟨#[]⟩, .string ⟨#[98, 50, 48]⟩, .string ⟨#[98, 52, 48]⟩] 9) = W2 at *
     generalize W.heap.size = gB at *
     refine hK.out _ _ (fun _ => HKC.out _ hG) ?_
     clear hK K
     (try simp only [Act.put, ssA, ssZ, ssS])
     refine jh (listed' := #[true, true, true, true, true, false, false, true, true, false, true, false, false, false, false, false, false, false]) (by kernel_rfl) ?_
     revert hLbb
     revert hLb
     revert hG
     revert hS
     revert gB
     revert HR0
     revert r0
     revert W2
     exact H3_8.out
    case n14 =>
     go_simp
     have hLc := Blk.new W 3 #[.int .i64 0, .int .i64 1, .int .i64 2, .int .i64 3, .int .i64 10]
     have hLcb : W.heap.size ≠ b := by have := hS.lt; omega
     replace hS := hS.alloc (.cells #[.int .i64 0, .int .i64 1, .int .i64 2, .int .i64 3, .int .i64 10] 3)
     replace hG := jd hG (.cells #[.int .i64 0, .int .i64 1, .int .i64 2, .int .i64 3, .int .i64 10] 3)
     generalize W.alloc (.cells #[.int .i64 0, .int .i64 1, .int .i64 2, .int .i64 3, .int .i64 10] 3) = W2 at *
     generalize W.heap.size = gD at *
     refine hK.out _ _ (fun _ => HKC.out _ hG) ?_
     clear hK K
     (try simp only [Act.put, ssA, ssZ, ssS])
     refine jh (listed' := #[true, true, true, true, true, false, false, true, false, false, true, true, false, false, false, false, false, false]) (by kernel_rfl) ?_
     revert hLcb
     revert hLc
     revert hG
     revert hS
     revert gD
     revert HR0
     revert r0
     revert W2
     exact H3_11.out
   case h8_11 =>
    intro W gB gD hS hG hLb hLbb hLc hLcb
    refine je (rs := [3, 5]) (by kernel_rfl) (by simp) ?_
    refine AllLate.cons (o := _) rfl (fun K hK => ?n18) (AllLate.cons (o := _) rfl (fun K hK => ?n17) AllLate.nil)
    case n18 =>
     go_simp
     (go_at_call 30; refine (jat base b L (KK) 0 5 _ hS (by omega) (by decide) (by decide) (by decide)).mono ?_; rintro _ W2 ⟨r0, -, -, HR0, rfl, hS2, hg2⟩)
     replace hG := ja hG hg2
     replace hLb := Blk.grown hLb hg2 (by simpa using hLbb)
     replace hLc := Blk.grown hLc hg2 (by simpa using hLcb)
     clear hS
     have hS := hS2
     clear hS2 hg2
     refine hK.out _ _ (fun _ => HKC.out _ hG) ?_
     clear hK K
     (try simp only [Act.put, ssA, ssZ, ssS])
     refine jh (listed' := #[true, true, true, true, true, false, false, true, true, false, true, true, false, false, false, false, false, false]) (by kernel_rfl) ?_
     revert hLcb
     revert hLc
     revert hLbb
     revert hLb
     revert hG
     revert hS
     revert gD
     revert gB
     revert HR0
     revert r0
     revert W2
     exact H3_8_11.out
    case n17 =>
     go_simp
     have hLa := Blk.new W 3 #[.int .i64 0, .int .i64 0, .int .i64 1, .int .i64 2]
     have hLab : W.heap.size ≠ b := by have := hS.lt; omega
     replace hS := hS.alloc (.cells #[.int .i64 0, .int .i64 0, .int .i64 1, .int .i64 2] 3)
     replace hLb := Blk.alloc hLb (.cells #[.int .i64 0, .int .i64 0, .int .i64 1, .int .i64 2] 3)
     replace hLc := Blk.alloc hLc (.cells #[.int .i64 0, .int .i64 0, .int .i64 1, .int .i64 2] 3)
     replace hG := jd hG (.cells #[.int .i64 0, .int .i64 0, .int .i64 1, .int .i64 2] 3)
     generalize W.alloc (.cells #[.int .i64 0, .int .i64 0, .int .i64 1, .int .i64 2] 3) = W2 at *
     generalize W.heap.size = gA at *
     refine hK.out _ _ (fun _ => HKC.out _ hG) ?_
     clear hK K
     (try simp only [Act.put, ssA, ssZ, ssS])
     refine jh (listed' := #[true, true, true, false, true, true, false, true, true, false, true, true, false, false, false, false, false, false]) (by kernel_rfl) ?_
     revert hLcb
     revert hLc
     revert hLbb
     revert hLb
     revert hLab
     revert hLa
     revert hG
     revert hS
     revert gD
     revert gB
     revert gA
     revert W2
     exact H5_8_11.out
   case h5_11 =>
    intro W gA gD hS hG hLa hLab hLc hLcb
    refine je (rs := [3, 8]) (by kernel_rfl) (by simp) ?_
    refine AllLate.cons (o := _) rfl (fun K hK => ?n20) (AllLate.cons (o := _) rfl (fun K hK => ?n19) AllLate.nil)
    case n20 =>
     go_simp
     (go_at_call 30; refine (jat base b L (KK) 0 5 _ hS (by omega) (by decide) (by decide) (by decide)).mono ?_; rintro _ W2 ⟨r0, -, -, HR0, rfl, hS2, hg2⟩)
     replace hG := ja hG hg2
     replace hLa := Blk.grown hLa hg2 (by simpa using hLab)
     replace hLc := Blk.grown hLc hg2 (by simpa using hLcb)
     clear hS
     have hS := hS2
     clear hS2 hg2
     refine hK.out _ _ (fun _ => HKC.out _ hG) ?_
     clear hK K
     (try simp only [Act.put, ssA, ssZ, ssS])
     refine jh (listed' := #[true, true, true, true, true, true, false, true, false, false, true, true, false, false, false, false, false, false]) (by kernel_rfl) ?_
     revert hLcb
     revert hLc
     revert hLab
     revert hLa
     revert hG
     revert hS
     revert gD
     revert gA
     revert HR0
     revert r0
     revert W2
     exact H3_5_11.out
    case n19 =>
     go_simp
     have hLb := Blk.new W 9 #[.string ⟨#[]⟩, .string ⟨#[]⟩, .string ⟨#[98, 50, 48]⟩, .string ⟨#[98, 52, 48]⟩]
     have hLbb : W.heap.size ≠ b := by have := hS.lt; omega
     replace hS := hS.alloc (.cells #[.string ⟨#[]⟩, .string ⟨#[]⟩, .string ⟨#[98, 50, 48]⟩, .string ⟨#[98, 52, 48]⟩] 9)
     replace hLa := Blk.alloc hLa (.cells #[.string ⟨#[]⟩, .string ⟨#[]⟩, .string ⟨#[98, 50, 48]⟩, .string ⟨#[98, 52, 48]⟩] 9)
     replace hLc := Blk.alloc hLc (.cells #[.string ⟨#[]⟩, .string ⟨#[]⟩, .string ⟨#[98, 50, 48]⟩, .string ⟨#[98, 52, 48]⟩] 9)
     replace hG := jd hG (.cells #[.string ⟨#[]⟩, .string ⟨#[]⟩, .string ⟨#[98, 50, 48]⟩, .string ⟨#[98, 52, 48]⟩] 9)
     generalize W.alloc (.cells #[.string ⟨#[]⟩, .string ⟨#[]⟩, .string ⟨#[98, 50, 48]⟩, .string ⟨#[98, 52, 48]⟩] 9) = W2 at *
     generalize W.heap.size = gB at *
     refine hK.out _ _ (fun _ => HKC.out _ hG) ?_
     clear hK K
     (try simp only [Act.put, ssA, ssZ, ssS])
     refine jh (listed' := #[true, true, true, false, true, true, false, true, true, false, true, true, false, false, false, false, false, false]) (by kernel_rfl) ?_
     revert hLcb
     revert hLc
     revert hLbb
     revert hLb
     revert hLab
     revert hLa
     revert hG
     revert hS
     revert gD
     revert gB
     revert gA
     revert W2
     exact H5_8_11.out
   case h5_8 =>
    intro W gA gB hS hG hLa hLab hLb hLbb
    refine je (rs := [3, 11]) (by kernel_rfl) (by simp) ?_
    refine AllLate.cons (o := _) rfl (fun K hK => ?n22) (AllLate.cons (o := _) rfl (fun K hK => ?n21) AllLate.nil)
    case n22 =>
     go_simp
     (go_at_call 30; refine (jat base b L (KK) 0 5 _ hS (by omega) (by decide) (by decide) (by decide)).mono ?_; rintro _ W2 ⟨r0, -, -, HR0, rfl, hS2, hg2⟩)
     replace hG := ja hG hg2
     replace hLa := Blk.grown hLa hg2 (by simpa using hLab)
     replace hLb := Blk.grown hLb hg2 (by simpa using hLbb)
     clear hS
     have hS := hS2
     clear hS2 hg2
     refine hK.out _ _ (fun _ => HKC.out _ hG) ?_
     clear hK K
     (try simp only [Act.put, ssA, ssZ, ssS])
     refine jh (listed' := #[true, true, true, true, true, true, false, true, true, false, true, false, false, false, false, false, false, false]) (by kernel_rfl) ?_
     revert hLbb
     revert hLb
     revert hLab
     revert hLa
     revert hG
     revert hS
     revert gB
     revert gA
     revert HR0
     revert r0
     revert W2
     exact H3_5_8.out
    case n21 =>
     go_simp
     have hLc := Blk.new W 3 #[.int .i64 0, .int .i64 1, .int .i64 2, .int .i64 3, .int .i64 10]
     have hLcb : W.heap.size ≠ b := by have := hS.lt; omega
     replace hS := hS.alloc (.cells #[.int .i64 0, .int .i64 1, .int .i64 2, .int .i64 3, .int .i64 10] 3)
     replace hLa := Blk.alloc hLa (.cells #[.int .i64 0, .int .i64 1, .int .i64 2, .int .i64 3, .int .i64 10] 3)
     replace hLb := Blk.alloc hLb (.cells #[.int .i64 0, .int .i64 1, .int .i64 2, .int .i64 3, .int .i64 10] 3)
     replace hG := jd hG (.cells #[.int .i64 0, .int .i64 1, .int .i64 2, .int .i64 3, .int .i64 10] 3)
     generalize W.alloc (.cells #[.int .i64 0, .int .i64 1, .int .i64 2, .int .i64 3, .int .i64 10] 3) = W2 at *
     generalize W.heap.size = gD at *
     refine hK.out _ _ (fun _ => HKC.out _ hG) ?_
     clear hK K
     (try simp only [Act.put, ssA, ssZ, ssS])
     refine jh (listed' := #[true, true, true, false, true, true, false, true, true, false, true, true, false, false, false, false, false, false]) (by kernel_rfl) ?_
     revert hLcb
     revert hLc
     revert hLbb
     revert hLb
     revert hLab
     revert hLa
     revert hG
     revert hS
     revert gD
     revert gB
     revert gA
     revert W2
     exact H5_8_11.out
   case h3_11 =>
    intro W r0 HR0 gD hS hG hLc hLcb
    refine je (rs := [5, 8]) (by kernel_rfl) (by simp) ?_
    refine AllLate.cons (o := _) rfl (fun K hK => ?n24) (AllLate.cons (o := _) rfl (fun K hK => ?n23) AllLate.nil)
    case n24 =>
     go_simp
     have hLa := Blk.new W 3 #[.int .i64 0, .int .i64 0, .int .i64 1, .int .i64 2]
     have hLab : W.heap.size ≠ b := by have := hS.lt; omega
     replace hS := hS.alloc (.cells #[.int .i64 0, .int .i64 0, .int .i64 1, .int .i64 2] 3)
     replace hLc := Blk.alloc hLc (.cells #[.int .i64 0, .int .i64 0, .int .i64 1, .int .i64 2] 3)
     replace hG := jd hG (.cells #[.int .i64 0, .int .i64 0, .int .i64 1, .int .i64 2] 3)
     generalize W.alloc (.cells #[.int .i64 0, .int .i64 0, .int .i64 1, .int .i64 2] 3) = W2 at *
     generalize W.heap.size = gA at *
     refine hK.out _ _ (fun _ => HKC.out _ hG) ?_
     clear hK K
     (try simp only [Act.put, ssA, ssZ, ssS])
     refine jh (listed' := #[true, true, true, true, true, true, false, true, false, false, true, true, false, false, false, false, false, false]) (by kernel_rfl) ?_
     revert hLcb
     revert hLc
     revert hLab
     revert hLa
     revert hG
     revert hS
     revert gD
     revert gA
     revert HR0
     revert r0
     revert W2
     exact H3_5_11.out
    case n23 =>
     go_simp
     have hLb := Blk.new W 9 #[.string ⟨#[]⟩, .string ⟨#[]⟩, .string ⟨#[98, 50, 48]⟩, .string ⟨#[98, 52, 48]⟩]
     have hLbb : W.heap.size ≠ b := by have := hS.lt; omega
     replace hS := hS.alloc (.cells #[.string ⟨#[]⟩, .string ⟨#[]⟩, .string ⟨#[98, 50, 48]⟩, .string ⟨#[98, 52, 48]⟩] 9)
     replace hLc := Blk.alloc hLc (.cells #[.string ⟨#[]⟩, .string ⟨#[]⟩, .string ⟨#[98, 50, 48]⟩, .string ⟨#[98, 52, 48]⟩] 9)
     replace hG := jd hG (.cells #[.string ⟨#[]⟩, .string ⟨#[]⟩, .string ⟨#[98, 50, 48]⟩, .string ⟨#[98, 52, 48]⟩] 9)
     generalize W.alloc (.cells #[.string ⟨#[]⟩, .string ⟨#[]⟩, .string ⟨#[98, 50, 48]⟩, .string ⟨#[98, 52, 48]⟩] 9) = W2 at *
     generalize W.heap.size = gB at *
     refine hK.out _ _ (fun _ => HKC.out _ hG) ?_
     clear hK K
     (try simp only [Act.put, ssA, ssZ, ssS])
     refine jh (listed' := #[true, true, true, true, true, false, false, true, true, false, true, true, false, false, false, false, false, false]) (by kernel_rfl) ?_
     revert hLcb
     revert hLc
     revert hLbb
     revert hLb
     revert hG
     revert hS
     revert gD
     revert gB
     revert HR0
     revert r0
     revert W2
     exact H3_8_11.out
   case h3_8 =>
    intro W r0 HR0 gB hS hG hLb hLbb
    refine je (rs := [5, 11]) (by kernel_rfl) (by simp) ?_
    refine AllLate.cons (o := _) rfl (fun K hK => ?n26) (AllLate.cons (o := _) rfl (fun K hK => ?n25) AllLate.nil)
    case n26 =>
     go_simp
     have hLa := Blk.new W 3 #[.int .i64 0, .int .i64 0, .int .i64 1, .int .i64 2]
     have hLab : W.heap.size ≠ b := by have := hS.lt; omega
     replace hS := hS.alloc (.cells #[.int .i64 0, .int .i64 0, .int .i64 1, .int .i64 2] 3)
     replace hLb := Blk.alloc hLb (.cells #[.int .i64 0, .int .i64 0, .int .i64 1, .int .i64 2] 3)
     replace hG := jd hG (.cells #[.int .i64 0, .int .i64 0, .int .i64 1, .int .i64 2] 3)
     generalize W.alloc (.cells #[.int .i64 0, .int .i64 0, .int .i64 1, .int .i64 2] 3) = W2 at *
     generalize W.heap.size = gA at *
     refine hK.out _ _ (fun _ => HKC.out _ hG) ?_
     clear hK K
     (try simp only [Act.put, ssA, ssZ, ssS])
     refine jh (listed' := #[true, true, true, true, true, true, false, true, true, false, true, false, false, false, false, false, false, false]) (by kernel_rfl) ?_
     revert hLbb
     revert hLb
     revert hLab
     revert hLa
     revert hG
     revert hS
     revert gB
     revert gA
     revert HR0
     revert r0
     revert W2
     exact H3_5_8.out
    case n25 =>
     go_simp
     have hLc := Blk.new W 3 #[.int .i64 0, .int .i64 1, .int .i64 2, .int .i64 3, .int .i64 10]
     have hLcb : W.heap.size ≠ b := by have := hS.lt; omega
     replace hS := hS.alloc (.cells #[.int .i64 0, .int .i64 1, .int .i64 2, .int .i64 3, .int .i64 10] 3)
     replace hLb := Blk.alloc hLb (.cells #[.int .i64 0, .int .i64 1, .int .i64 2, .int .i64 3, .int .i64 10] 3)
     replace hG := jd hG (.cells #[.int .i64 0, .int .i64 1, .int .i64 2, .int .i64 3, .int .i64 10] 3)
     generalize W.alloc (.cells #[.int .i64 0, .int .i64 1, .int .i64 2, .int .i64 3, .int .i64 10] 3) = W2 at *
     generalize W.heap.size = gD at *
     refine hK.out _ _ (fun _ => HKC.out _ hG) ?_
     clear hK K
     (try simp only [Act.put, ssA, ssZ, ssS])
     refine jh (listed' := #[true, true, true, true, true, false, false, true, true, false, true, true, false, false, false, false, false, false]) (by kernel_rfl) ?_
     revert hLcb
     revert hLc
     revert hLbb
     revert hLb
     revert hG
     revert hS
     revert gD
     revert gB
     revert HR0
     revert r0
     revert W2
     exact H3_8_11.out
   case h3_5 =>
    intro W r0 HR0 gA hS hG hLa hLab
    refine je (rs := [6, 8, 11]) (by kernel_rfl) (by simp) ?_
    refine AllLate.cons (o := _) rfl (fun K hK => ?n29) (AllLate.cons (o := _) rfl (fun K hK => ?n28) (AllLate.cons (o := _) rfl (fun K hK => ?n27) AllLate.nil))
    case n29 =>
     go_simp
     (go_at_call 27; refine (jae base b L (KK + 1) gA 4 4 [0, 0, 1, 2] _ hS (by omega) hLa hLab rfl (by decide) (by decide)).mono ?_; rintro _ W2 ⟨p1, -, HP1, rfl, hS2, hg2⟩)
     replace hG := ja hG hg2
     replace hLa := Blk.grown hLa hg2 (by simpa using hLab)
     clear hS
     have hS := hS2
     clear hS2 hg2
     refine hK.out _ _ (fun _ => HKC.out _ hG) ?_
     clear hK K
     (try simp only [Act.put, ssA, ssZ, ssS])
     refine jh (listed' := #[true, true, true, true, true, true, true, true, false, false, true, false, false, false, false, false, false, false]) (by kernel_rfl) ?_
     revert hLab
     revert hLa
     revert hG
     revert hS
     revert gA
     revert HP1
     revert p1
     revert HR0
     revert r0
     revert W2
     exact H3_5_6.out
    case n28 =>
     go_simp
     have hLb := Blk.new W 9 #[.string ⟨#[]⟩, .string ⟨#[]⟩, .string ⟨#[98, 50, 48]⟩, .string ⟨#[98, 52, 48]⟩]
     have hLbb : W.heap.size ≠ b := by have := hS.lt; omega
     replace hS := hS.alloc (.cells #[.string ⟨#[]⟩, .string ⟨#[]⟩, .string ⟨#[98, 50, 48]⟩, .string ⟨#[98, 52, 48]⟩] 9)
     replace hLa := Blk.alloc hLa (.cells #[.string ⟨#[]⟩, .string ⟨#[]⟩, .string ⟨#[98, 50, 48]⟩, .string ⟨#[98, 52, 48]⟩] 9)
     replace hG := jd hG (.cells #[.string ⟨#[]⟩, .string ⟨#[]⟩, .string ⟨#[98, 50, 48]⟩, .string ⟨#[98, 52, 48]⟩] 9)
     generalize W.alloc (.cells #[.string ⟨#[]⟩, .string ⟨#[]⟩, .string ⟨#[98, 50, 48]⟩, .string ⟨#[98, 52, 48]⟩] 9) = W2 at *
     generalize W.heap.size = gB at *
     refine hK.out _ _ (fun _ => HKC.out _ hG) ?_
     clear hK K
     (try simp only [Act.put, ssA, ssZ, ssS])
     refine jh (listed' := #[true, true, true, true, true, true, false, true, true, false, true, false, false, false, false, false, false, false]) (by kernel_rfl) ?_
     revert hLbb
     revert hLb
     revert hLab
     revert hLa
     revert hG
     revert hS
     revert gB
     revert gA
     revert HR0
     revert r0
     revert W2
     exact H3_5_8.out
    case n27 =>
     go_simp
     have hLc := Blk.new W 3 #[.int .i64 0, .int .i64 1, .int .i64 2, .int .i64 3, .int .i64 10]
     have hLcb : W.heap.size ≠ b := by have := hS.lt; omega
     replace hS := hS.alloc (.cells #[.int .i64 0, .int .i64 1, .int .i64 2, .int .i64 3, .int .i64 10] 3)
     replace hLa := Blk.alloc hLa (.cells #[.int .i64 0, .int .i64 1, .int .i64 2, .int .i64 3, .int .i64 10] 3)
     replace hG := jd hG (.cells #[.int .i64 0, .int .i64 1, .int .i64 2, .int .i64 3, .int .i64 10] 3)
     generalize W.alloc (.cells #[.int .i64 0, .int .i64 1, .int .i64 2, .int .i64 3, .int .i64 10] 3) = W2 at *
     generalize W.heap.size = gD at *
     refine hK.out _ _ (fun _ => HKC.out _ hG) ?_
     clear hK K
     (try simp only [Act.put, ssA, ssZ, ssS])
     refine jh (listed' := #[true, true, true, true, true, true, false, true, false, false, true, true, false, false, false, false, false, false]) (by kernel_rfl) ?_
     revert hLcb
     revert hLc
     revert hLab
     revert hLa
     revert hG
     revert hS
     revert gD
     revert gA
     revert HR0
     revert r0
     revert W2
     exact H3_5_11.out
   case h5_8_11 =>
    intro W gA gB gD hS hG hLa hLab hLb hLbb hLc hLcb
    refine je (rs := [3]) (by kernel_rfl) (by simp) ?_
    refine AllLate.cons (o := _) rfl (fun K hK => ?n30) AllLate.nil
    case n30 =>
     go_simp
     (go_at_call 30; refine (jat base b L (KK) 0 5 _ hS (by omega) (by decide) (by decide) (by decide)).mono ?_; rintro _ W2 ⟨r0, -, -, HR0, rfl, hS2, hg2⟩)
     replace hG := ja hG hg2
     replace hLa := Blk.grown hLa hg2 (by simpa using hLab)
     replace hLb := Blk.grown hLb hg2 (by simpa using hLbb)
     replace hLc := Blk.grown hLc hg2 (by simpa using hLcb)
     clear hS
     have hS := hS2
     clear hS2 hg2
     refine hK.out _ _ (fun _ => HKC.out _ hG) ?_
     clear hK K
     (try simp only [Act.put, ssA, ssZ, ssS])
     refine jh (listed' := #[true, true, true, true, true, true, false, true, true, false, true, true, false, false, false, false, false, false]) (by kernel_rfl) ?_
     revert hLcb
     revert hLc
     revert hLbb
     revert hLb
     revert hLab
     revert hLa
     revert hG
     revert hS
     revert gD
     revert gB
     revert gA
     revert HR0
     revert r0
     revert W2
     exact H3_5_8_11.out
   case h3_8_11 =>
    intro W r0 HR0 gB gD hS hG hLb hLbb hLc hLcb
    refine je (rs := [5]) (by kernel_rfl) (by simp) ?_
    refine AllLate.cons (o := _) rfl (fun K hK => ?n31) AllLate.nil
    case n31 =>
     go_simp
     have hLa := Blk.new W 3 #[.int .i64 0, .int .i64 0, .int .i64 1, .int .i64 2]
     have hLab : W.heap.size ≠ b := by have := hS.lt; omega
     replace hS := hS.alloc (.cells #[.int .i64 0, .int .i64 0, .int .i64 1, .int .i64 2] 3)
     replace hLb := Blk.alloc hLb (.cells #[.int .i64 0, .int .i64 0, .int .i64 1, .int .i64 2] 3)
     replace hLc := Blk.alloc hLc (.cells #[.int .i64 0, .int .i64 0, .int .i64 1, .int .i64 2] 3)
     replace hG := jd hG (.cells #[.int .i64 0, .int .i64 0, .int .i64 1, .int .i64 2] 3)
     generalize W.alloc (.cells #[.int .i64 0, .int .i64 0, .int .i64 1, .int .i64 2] 3) = W2 at *
     generalize W.heap.size = gA at *
     refine hK.out _ _ (fun _ => HKC.out _ hG) ?_
     clear hK K
     (try simp only [Act.put, ssA, ssZ, ssS])
     refine jh (listed' := #[true, true, true, true, true, true, false, true, true, false, true, true, false, false, false, false, false, false]) (by kernel_rfl) ?_
     revert hLcb
     revert hLc
     revert hLbb
     revert hLb
     revert hLab
     revert hLa
     revert hG
     revert hS
     revert gD
     revert gB
     revert gA
     revert HR0
     revert r0
     revert W2
     exact H3_5_8_11.out
   case h3_5_11 =>
    intro W r0 HR0 gA gD hS hG hLa hLab hLc hLcb
    refine je (rs := [6, 8]) (by kernel_rfl) (by simp) ?_
    refine AllLate.cons (o := _) rfl (fun K hK => ?n33) (AllLate.cons (o := _) rfl (fun K hK => ?n32) AllLate.nil)
    case n33 =>
     go_simp
     (go_at_call 27; refine (jae base b L (KK + 1) gA 4 4 [0, 0, 1, 2] _ hS (by omega) hLa hLab rfl (by decide) (by decide)).mono ?_; rintro _ W2 ⟨p1, -, HP1, rfl, hS2, hg2⟩)
     replace hG := ja hG hg2
     replace hLa := Blk.grown hLa hg2 (by simpa using hLab)
     replace hLc := Blk.grown hLc hg2 (by simpa using hLcb)
     clear hS
     have hS := hS2
     clear hS2 hg2
     refine hK.out _ _ (fun _ => HKC.out _ hG) ?_
     clear hK K
     (try simp only [Act.put, ssA, ssZ, ssS])
     refine jh (listed' := #[true, true, true, true, true, true, true, true, false, false, true, true, false, false, false, false, false, false]) (by kernel_rfl) ?_
     revert hLcb
     revert hLc
     revert hLab
     revert hLa
     revert hG
     revert hS
     revert gD
     revert gA
     revert HP1
     revert p1
     revert HR0
     revert r0
     revert W2
     exact H3_5_6_11.out
    case n32 =>
     go_simp
     have hLb := Blk.new W 9 #[.string ⟨#[]⟩, .string ⟨#[]⟩, .string ⟨#[98, 50, 48]⟩, .string ⟨#[98, 52, 48]⟩]
     have hLbb : W.heap.size ≠ b := by have := hS.lt; omega
     replace hS := hS.alloc (.cells #[.string ⟨#[]⟩, .string ⟨#[]⟩, .string ⟨#[98, 50, 48]⟩, .string ⟨#[98, 52, 48]⟩] 9)
     replace hLa := Blk.alloc hLa (.cells #[.string ⟨#[]⟩, .string ⟨#[]⟩, .string ⟨#[98, 50, 48]⟩, .string ⟨#[98, 52, 48]⟩] 9)
     replace hLc := Blk.alloc hLc (.cells #[.string ⟨#[]⟩, .string ⟨#[]⟩, .string ⟨#[98, 50, 48]⟩, .string ⟨#[98, 52, 48]⟩] 9)
     replace hG := jd hG (.cells #[.string ⟨#[]⟩, .string ⟨#[]⟩, .string ⟨#[98, 50, 48]⟩, .string ⟨#[98, 52, 48]⟩] 9)
     generalize W.alloc (.cells #[.string ⟨#[]⟩, .string ⟨#[]⟩, .string ⟨#[98, 50, 48]⟩, .string ⟨#[98, 52, 48]⟩] 9) = W2 at *
     generalize W.heap.size = gB at *
     refine hK.out _ _ (fun _ => HKC.out _ hG) ?_
     clear hK K
     (try simp only [Act.put, ssA, ssZ, ssS])
     refine jh (listed' := #[true, true, true, true, true, true, false, true, true, false, true, true, false, false, false, false, false, false]) (by kernel_rfl) ?_
     revert hLcb
     revert hLc
     revert hLbb
     revert hLb
     revert hLab
     revert hLa
     revert hG
     revert hS
     revert gD
     revert gB
     revert gA
     revert HR0
     revert r0
     revert W2
     exact H3_5_8_11.out
   case h3_5_8 =>
    intro W r0 HR0 gA gB hS hG hLa hLab hLb hLbb
    refine je (rs := [6, 11]) (by kernel_rfl) (by simp) ?_
    refine AllLate.cons (o := _) rfl (fun K hK => ?n35) (AllLate.cons (o := _) rfl (fun K hK => ?n34) AllLate.nil)
    case n35 =>
     go_simp
     (go_at_call 27; refine (jae base b L (KK + 1) gA 4 4 [0, 0, 1, 2] _ hS (by omega) hLa hLab rfl (by decide) (by decide)).mono ?_; rintro _ W2 ⟨p1, -, HP1, rfl, hS2, hg2⟩)
     replace hG := ja hG hg2
     replace hLa := Blk.grown hLa hg2 (by simpa using hLab)
     replace hLb := Blk.grown hLb hg2 (by simpa using hLbb)
     clear hS
     have hS := hS2
     clear hS2 hg2
     refine hK.out _ _ (fun _ => HKC.out _ hG) ?_
     clear hK K
     (try simp only [Act.put, ssA, ssZ, ssS])
     refine jh (listed' := #[true, true, true, true, true, true, true, true, true, false, true, false, false, false, false, false, false, false]) (by kernel_rfl) ?_
     revert hLbb
     revert hLb
     revert hLab
     revert hLa
     revert hG
     revert hS
     revert gB
     revert gA
     revert HP1
     revert p1
     revert HR0
     revert r0
     revert W2
     exact H3_5_6_8.out
    case n34 =>
     go_simp
     have hLc := Blk.new W 3 #[.int .i64 0, .int .i64 1, .int .i64 2, .int .i64 3, .int .i64 10]
     have hLcb : W.heap.size ≠ b := by have := hS.lt; omega
     replace hS := hS.alloc (.cells #[.int .i64 0, .int .i64 1, .int .i64 2, .int .i64 3, .int .i64 10] 3)
     replace hLa := Blk.alloc hLa (.cells #[.int .i64 0, .int .i64 1, .int .i64 2, .int .i64 3, .int .i64 10] 3)
     replace hLb := Blk.alloc hLb (.cells #[.int .i64 0, .int .i64 1, .int .i64 2, .int .i64 3, .int .i64 10] 3)
     replace hG := jd hG (.cells #[.int .i64 0, .int .i64 1, .int .i64 2, .int .i64 3, .int .i64 10] 3)
     generalize W.alloc (.cells #[.int .i64 0, .int .i64 1, .int .i64 2, .int .i64 3, .int .i64 10] 3) = W2 at *
     generalize W.heap.size = gD at *
     refine hK.out _ _ (fun _ => HKC.out _ hG) ?_
     clear hK K
     (try simp only [Act.put, ssA, ssZ, ssS])
     refine jh (listed' := #[true, true, true, true, true, true, false, true, true, false, true, true, false, false, false, false, false, false]) (by kernel_rfl) ?_
     revert hLcb
     revert hLc
     revert hLbb
     revert hLb
     revert hLab
     revert hLa
     revert hG
     revert hS
     revert gD
     revert gB
     revert gA
     revert HR0
     revert r0
     revert W2
     exact H3_5_8_11.out
   case h3_5_6 =>
    intro W r0 HR0 p1 HP1 gA hS hG hLa hLab
    refine je (rs := [8, 11]) (by kernel_rfl) (by simp) ?_
    refine AllLate.cons (o := _) rfl (fun K hK => ?n37) (AllLate.cons (o := _) rfl (fun K hK => ?n36) AllLate.nil)
    case n37 =>
     go_simp
     have hLb := Blk.new W 9 #[.string ⟨#[]⟩, .string ⟨#[]⟩, .string ⟨#[98, 50, 48]⟩, .string ⟨#[98, 52, 48]⟩]
     have hLbb : W.heap.size ≠ b := by have := hS.lt; omega
     replace hS := hS.alloc (.cells #[.string ⟨#[]⟩, .string ⟨#[]⟩, .string ⟨#[98, 50, 48]⟩, .string ⟨#[98, 52, 48]⟩] 9)
     replace hLa := Blk.alloc hLa (.cells #[.string ⟨#[]⟩, .string ⟨#[]⟩, .string ⟨#[98, 50, 48]⟩, .string ⟨#[98, 52, 48]⟩] 9)
     replace hG := jd hG (.cells #[.string ⟨#[]⟩, .string ⟨#[]⟩, .string ⟨#[98, 50, 48]⟩, .string ⟨#[98, 52, 48]⟩] 9)
     generalize W.alloc (.cells #[.string ⟨#[]⟩, .string ⟨#[]⟩, .string ⟨#[98, 50, 48]⟩, .string ⟨#[98, 52, 48]⟩] 9) = W2 at *
     generalize W.heap.size = gB at *
     refine hK.out _ _ (fun _ => HKC.out _ hG) ?_
     clear hK K
     (try simp only [Act.put, ssA, ssZ, ssS])
     refine jh (listed' := #[true, true, true, true, true, true, true, true, true, false, true, false, false, false, false, false, false, false]) (by kernel_rfl) ?_
     revert hLbb
     revert hLb
     revert hLab
     revert hLa
     revert hG
     revert hS
     revert gB
     revert gA
     revert HP1
     revert p1
     revert HR0
     revert r0
     revert W2
     exact H3_5_6_8.out
    case n36 =>
     go_simp
     have hLc := Blk.new W 3 #[.int .i64 0, .int .i64 1, .int .i64 2, .int .i64 3, .int .i64 10]
     have hLcb : W.heap.size ≠ b := by have := hS.lt; omega
     replace hS := hS.alloc (.cells #[.int .i64 0, .int .i64 1, .int .i64 2, .int .i64 3, .int .i64 10] 3)
     replace hLa := Blk.alloc hLa (.cells #[.int .i64 0, .int .i64 1, .int .i64 2, .int .i64 3, .int .i64 10] 3)
     replace hG := jd hG (.cells #[.int .i64 0, .int .i64 1, .int .i64 2, .int .i64 3, .int .i64 10] 3)
     generalize W.alloc (.cells #[.int .i64 0, .int .i64 1, .int .i64 2, .int .i64 3, .int .i64 10] 3) = W2 at *
     generalize W.heap.size = gD at *
     refine hK.out _ _ (fun _ => HKC.out _ hG) ?_
     clear hK K
     (try simp only [Act.put, ssA, ssZ, ssS])
     refine jh (listed' := #[true, true, true, true, true, true, true, true, false, false, true, true, false, false, false, false, false, false]) (by kernel_rfl) ?_
     revert hLcb
     revert hLc
     revert hLab
     revert hLa
     revert hG
     revert hS
     revert gD
     revert gA
     revert HP1
     revert p1
     revert HR0
     revert r0
     revert W2
     exact H3_5_6_11.out
   case h3_5_8_11 =>
    intro W r0 HR0 gA gB gD hS hG hLa hLab hLb hLbb hLc hLcb
    refine je (rs := [6]) (by kernel_rfl) (by simp) ?_
    refine AllLate.cons (o := _) rfl (fun K hK => ?n38) AllLate.nil
    case n38 =>
     go_simp
     (go_at_call 27; refine (jae base b L (KK + 1) gA 4 4 [0, 0, 1, 2] _ hS (by omega) hLa hLab rfl (by decide) (by decide)).mono ?_; rintro _ W2 ⟨p1, -, HP1, rfl, hS2, hg2⟩)
     replace hG := ja hG hg2
     replace hLa := Blk.grown hLa hg2 (by simpa using hLab)
     replace hLb := Blk.grown hLb hg2 (by simpa using hLbb)
     replace hLc := Blk.grown hLc hg2 (by simpa using hLcb)
     clear hS
     have hS := hS2
     clear hS2 hg2
     refine hK.out _ _ (fun _ => HKC.out _ hG) ?_
     clear hK K
     (try simp only [Act.put, ssA, ssZ, ssS])
     refine jh (listed' := #[true, true, true, true, true, true, true, true, true, false, true, true, false, false, false, false, false, false]) (by kernel_rfl) ?_
     revert hLcb
     revert hLc
     revert hLbb
     revert hLb
     revert hLab
     revert hLa
     revert hG
     revert hS
     revert gD
     revert gB
     revert gA
     revert HP1
     revert p1
     revert HR0
     revert r0
     revert W2
     exact H3_5_6_8_11.out
   case h3_5_6_11 =>
    intro W r0 HR0 p1 HP1 gA gD hS hG hLa hLab hLc hLcb
    refine je (rs := [8]) (by kernel_rfl) (by simp) ?_
    refine AllLate.cons (o := _) rfl (fun K hK => ?n39) AllLate.nil
    case n39 =>
     go_simp
     have hLb := Blk.new W 9 #[.string ⟨#[]⟩, .string ⟨#[]⟩, .string ⟨#[98, 50, 48]⟩, .string ⟨#[98, 52, 48]⟩]
     have hLbb : W.heap.size ≠ b := by have := hS.lt; omega
     replace hS := hS.alloc (.cells #[.string ⟨#[]⟩, .string ⟨#[]⟩, .string ⟨#[98, 50, 48]⟩, .string ⟨#[98, 52, 48]⟩] 9)
     replace hLa := Blk.alloc hLa (.cells #[.string ⟨#[]⟩, .string ⟨#[]⟩, .string ⟨#[98, 50, 48]⟩, .string ⟨#[98, 52, 48]⟩] 9)
     replace hLc := Blk.alloc hLc (.cells #[.string ⟨#[]⟩, .string ⟨#[]⟩, .string ⟨#[98, 50, 48]⟩, .string ⟨#[98, 52, 48]⟩] 9)
     replace hG := jd hG (.cells #[.string ⟨#[]⟩, .string ⟨#[]⟩, .string ⟨#[98, 50, 48]⟩, .string ⟨#[98, 52, 48]⟩] 9)
     generalize W.alloc (.cells #[.string ⟨#[]⟩, .string ⟨#[]⟩, .string ⟨#[98, 50, 48]⟩, .string ⟨#[98, 52, 48]⟩] 9) = W2 at *
     generalize W.heap.size = gB at *
     refine hK.out _ _ (fun _ => HKC.out _ hG) ?_
     clear hK K
     (try simp only [Act.put, ssA, ssZ, ssS])
     refine jh (listed' := #[true, true, true, true, true, true, true, true, true, false, true, true, false, false, false, false, false, false]) (by kernel_rfl) ?_
     revert hLcb
     revert hLc
     revert hLbb
     revert hLb
     revert hLab
     revert hLa
     revert hG
     revert hS
     revert gD
     revert gB
     revert gA
     revert HP1
     revert p1
     revert HR0
     revert r0
     revert W2
     exact H3_5_6_8_11.out
   case h3_5_6_8 =>
    intro W r0 HR0 p1 HP1 gA gB hS hG hLa hLab hLb hLbb
    refine je (rs := [9, 11]) (by kernel_rfl) (by simp) ?_
    refine AllLate.cons (o := _) rfl (fun K hK => ?n41) (AllLate.cons (o := _) rfl (fun K hK => ?n40) AllLate.nil)
    case n41 =>
     go_simp
     (go_at_call 31; refine (jsv base b L (KK + 1 + 1) gB 4 4 [⟨#[]⟩, ⟨#[]⟩, ⟨#[98, 50, 48]⟩, ⟨#[98, 52, 48]⟩] _ hS (by omega) hLb hLbb rfl (by decide) (by decide)).mono ?_; rintro _ W2 ⟨s2, -, HS2, rfl, hS2, hg2⟩)
     replace hG := ja hG hg2
     replace hLa := Blk.grown hLa hg2 (by simpa using hLab)
     replace hLb := Blk.grown hLb hg2 (by simpa using hLbb)
     clear hS
     have hS := hS2
     clear hS2 hg2
     refine hK.out _ _ (fun _ => HKC.out _ hG) ?_
     clear hK K
     (try simp only [Act.put, ssA, ssZ, ssS])
     refine jh (listed' := #[true, true, true, true, true, true, true, true, true, true, true, false, false, false, false, false, false, false]) (by kernel_rfl) ?_
     revert hLbb
     revert hLb
     revert hLab
     revert hLa
     revert hG
     revert hS
     revert gB
     revert gA
     revert HS2
     revert s2
     revert HP1
     revert p1
     revert HR0
     revert r0
     revert W2
     exact H3_5_6_8_9.out
    case n40 =>
     go_simp
     have hLc := Blk.new W 3 #[.int .i64 0, .int .i64 1, .int .i64 2, .int .i64 3, .int .i64 10]
     have hLcb : W.heap.size ≠ b := by have := hS.lt; omega
     replace hS := hS.alloc (.cells #[.int .i64 0, .int .i64 1, .int .i64 2, .int .i64 3, .int .i64 10] 3)
     replace hLa := Blk.alloc hLa (.cells #[.int .i64 0, .int .i64 1, .int .i64 2, .int .i64 3, .int .i64 10] 3)
     replace hLb := Blk.alloc hLb (.cells #[.int .i64 0, .int .i64 1, .int .i64 2, .int .i64 3, .int .i64 10] 3)
     replace hG := jd hG (.cells #[.int .i64 0, .int .i64 1, .int .i64 2, .int .i64 3, .int .i64 10] 3)
     generalize W.alloc (.cells #[.int .i64 0, .int .i64 1, .int .i64 2, .int .i64 3, .int .i64 10] 3) = W2 at *
     generalize W.heap.size = gD at *
     refine hK.out _ _ (fun _ => HKC.out _ hG) ?_
     clear hK K
     (try simp only [Act.put, ssA, ssZ, ssS])
     refine jh (listed' := #[true, true, true, true, true, true, true, true, true, false, true, true, false, false, false, false, false, false]) (by kernel_rfl) ?_
     revert hLcb
     revert hLc
     revert hLbb
     revert hLb
     revert hLab
     revert hLa
     revert hG
     revert hS
     revert gD
     revert gB
     revert gA
     revert HP1
     revert p1
     revert HR0
     revert r0
     revert W2
     exact H3_5_6_8_11.out
   case h3_5_6_8_11 =>
    intro W r0 HR0 p1 HP1 gA gB gD hS hG hLa hLab hLb hLbb hLc hLcb
    refine je (rs := [9]) (by kernel_rfl) (by simp) ?_
    refine AllLate.cons (o := _) rfl (fun K hK => ?n42) AllLate.nil
    case n42 =>
     go_simp
     (go_at_call 31; refine (jsv base b L (KK + 1 + 1) gB 4 4 [⟨#[]⟩, ⟨#[]⟩, ⟨#[98, 50, 48]⟩, ⟨#[98, 52, 48]⟩] _ hS (by omega) hLb hLbb rfl (by decide) (by decide)).mono ?_; rintro _ W2 ⟨s2, -, HS2, rfl, hS2, hg2⟩)
     replace hG := ja hG hg2
     replace hLa := Blk.grown hLa hg2 (by simpa using hLab)
     replace hLb := Blk.grown hLb hg2 (by simpa using hLbb)
     replace hLc := Blk.grown hLc hg2 (by simpa using hLcb)
     clear hS
     have hS := hS2
     clear hS2 hg2
     refine hK.out _ _ (fun _ => HKC.out _ hG) ?_
     clear hK K
     (try simp only [Act.put, ssA, ssZ, ssS])
     refine jh (listed' := #[true, true, true, true, true, true, true, true, true, true, true, true, false, false, false, false, false, false]) (by kernel_rfl) ?_
     revert hLcb
     revert hLc
     revert hLbb
     revert hLb
     revert hLab
     revert hLa
     revert hG
     revert hS
     revert gD
     revert gB
     revert gA
     revert HS2
     revert s2
     revert HP1
     revert p1
     revert HR0
     revert r0
     revert W2
     exact H3_5_6_8_9_11.out
   case h3_5_6_8_9 =>
    intro W r0 HR0 p1 HP1 s2 HS2 gA gB hS hG hLa hLab hLb hLbb
    refine je (rs := [11]) (by kernel_rfl) (by simp) ?_
    refine AllLate.cons (o := _) rfl (fun K hK => ?n43) AllLate.nil
    case n43 =>
     go_simp
     have hLc := Blk.new W 3 #[.int .i64 0, .int .i64 1, .int .i64 2, .int .i64 3, .int .i64 10]
     have hLcb : W.heap.size ≠ b := by have := hS.lt; omega
     replace hS := hS.alloc (.cells #[.int .i64 0, .int .i64 1, .int .i64 2, .int .i64 3, .int .i64 10] 3)
     replace hLa := Blk.alloc hLa (.cells #[.int .i64 0, .int .i64 1, .int .i64 2, .int .i64 3, .int .i64 10] 3)
     replace hLb := Blk.alloc hLb (.cells #[.int .i64 0, .int .i64 1, .int .i64 2, .int .i64 3, .int .i64 10] 3)
     replace hG := jd hG (.cells #[.int .i64 0, .int .i64 1, .int .i64 2, .int .i64 3, .int .i64 10] 3)
     generalize W.alloc (.cells #[.int .i64 0, .int .i64 1, .int .i64 2, .int .i64 3, .int .i64 10] 3) = W2 at *
     generalize W.heap.size = gD at *
     refine hK.out _ _ (fun _ => HKC.out _ hG) ?_
     clear hK K
     (try simp only [Act.put, ssA, ssZ, ssS])
     refine jh (listed' := #[true, true, true, true, true, true, true, true, true, true, true, true, false, false, false, false, false, false]) (by kernel_rfl) ?_
     revert hLcb
     revert hLc
     revert hLbb
     revert hLb
     revert hLab
     revert hLa
     revert hG
     revert hS
     revert gD
     revert gB
     revert gA
     revert HS2
     revert s2
     revert HP1
     revert p1
     revert HR0
     revert r0
     revert W2
     exact H3_5_6_8_9_11.out
   case h3_5_6_8_9_11 =>
    intro W r0 HR0 p1 HP1 s2 HS2 gA gB gD hS hG hLa hLab hLb hLbb hLc hLcb
    refine je (rs := [12]) (by kernel_rfl) (by simp) ?_
    refine AllLate.cons (o := _) rfl (fun K hK => ?n44) AllLate.nil
    case n44 =>
     go_simp
     (go_at_call 27; refine (jae base b L (KK + 1 + 1 + 1) gD 5 5 [0, 1, 2, 3, 10] _ hS (by omega) hLc hLcb rfl (by decide) (by decide)).mono ?_; rintro _ W2 ⟨p3, -, HP3, rfl, hS2, hg2⟩)
     replace hG := ja hG hg2
     replace hLa := Blk.grown hLa hg2 (by simpa using hLab)
     replace hLb := Blk.grown hLb hg2 (by simpa using hLbb)
     replace hLc := Blk.grown hLc hg2 (by simpa using hLcb)
     clear hS
     have hS := hS2
     clear hS2 hg2
     refine hK.out _ _ (fun _ => HKC.out _ hG) ?_
     clear hK K
     (try simp only [Act.put, ssA, ssZ, ssS])
     refine jh (listed' := #[true, true, true, true, true, true, true, true, true, true, true, true, true, false, false, false, false, false]) (by kernel_rfl) ?_
     revert hLcb
     revert hLc
     revert hLbb
     revert hLb
     revert hLab
     revert hLa
     revert hG
     revert hS
     revert gD
     revert gB
     revert gA
     revert HP3
     revert p3
     revert HS2
     revert s2
     revert HP1
     revert p1
     revert HR0
     revert r0
     revert W2
     exact H3_5_6_8_9_11_12.out
   case h3_5_6_8_9_11_12 =>
    intro W r0 HR0 p1 HP1 s2 HS2 p3 HP3 gA gB gD hS hG hLa hLab hLb hLbb hLc hLcb
    clear hLa hLb hLc hLab hLbb hLcb
    refine tkA 13 41 (fun _ => HKC.out _ hG) ?_
    simp only [Act.put, ssA, ssZ, ssS]
    refine je (rs := [14]) (by kernel_rfl) (by simp) ?_
    refine AllLate.cons (o := _) rfl (fun K hK => ?_) AllLate.nil
    go_simp
    have hE := Blk.new W 77 #[.int .i64 r0, .int .i64 p1, .string s2, .int .i64 p3]
    replace hS := hS.alloc (.cells #[.int .i64 r0, .int .i64 p1, .string s2, .int .i64 p3] 77)
    replace hG := jd hG (.cells #[.int .i64 r0, .int .i64 p1, .string s2, .int .i64 p3] 77)
    generalize W.alloc (.cells #[.int .i64 r0, .int .i64 p1, .string s2, .int .i64 p3] 77) = WM at *
    generalize W.heap.size = gE at *
    refine hK.out _ _ (fun _ => HKC.out _ hG) ?_
    clear hK K
    (try simp only [Act.put, ssA, ssZ, ssS])
    refine je (rs := [15]) (by kernel_rfl) (by simp) ?_
    refine AllLate.cons (o := _) rfl (fun K hK => ?_) AllLate.nil
    have hRM := RulsFrom.other HR.out hG hb5
    have hCM := HC.out.grown hG (by simpa using HBC.out.symm)
    have hUM := EntsFrom.other HU.out hG hb5
    have hVM := PfxsFrom.other HV.out hG hb5
    have hresM := HRES.out.grown hG (by simpa using (by omega : B ≠ b))
    have hszM : H5 ≤ WM.heap.size := by have := hG.size; have := HSZ.out; omega
    have hRO : World.ownsRow WM H5 77 4 (.slice RA j rc) j (RL.flatMap jwc) := by have h := hRM; unfold RulsFrom at h; rw [HRN.out] at h; exact h
    refine step_append_lies _ (by rfl) (.tmp 29) (.tmp 42) 30 (by rfl) H5 77 i0 _ 4 40 Tryz.underlying30 hi hz0 hz1 hz2 rfl (by decide) _ _ _ (by rfl) hRO ⟨gE, 0, none⟩ 1 1 [.int .i64 r0, .int .i64 p1, .string s2, .int .i64 p3] (by rfl) rfl (World.news_of_block hE) (jr3 r0 p1 s2 p3) (by decide) (by unfold maxLen; omega) (by omega) hszM _ rfl ?_
    intro g9 cap w9 hown9 hg9 hat hglt
    have hrow := hRO.lt
    have hC9 := jck hCM hRO (by decide) hg9
    have hU9 := jbh hUM hRO (by decide) hg9
    have hV9 := jbh hVM hRO (by decide) hg9
    have hres9 := jck hresM hRO (by decide) hg9
    have k59 := hC9.cell 5
    simp only [geA, geZ, geS] at k59
    refine hK.out _ _ (fun _ => k59) ?_
    clear hK K
    (try simp only [Act.put, ssA, ssZ, ssS])
    refine tkA 16 44 (fun _ => k59) ?_
    simp only [Act.put, ssA, ssZ, ssS]
    have f59 := hC9.free 5
    refine je (rs := [17]) (by kernel_rfl) (by simp) ?_
    refine AllLate.cons (o := _) rfl (fun K hK => ?_) AllLate.nil
    go_simp
    refine hK.out _ _ (fun h => Bool.noConfusion (show false = true from h)) ?_
    clear hK K
    (try simp only [Act.put, ssA, ssZ, ssS])
    refine qe (by kernel_rfl) ?_ _
    go_wp2_with fail
    have hput := hC9.put 5 (.slice (some ⟨g9, 0, none⟩) (j + 1) cap)
    have hgP : w9.grownBy (w9.setCell ⟨gC, 5, none⟩ (.slice (some ⟨g9, 0, none⟩) (j + 1) cap)) (some gC) := jg (p := ⟨gC, 5, none⟩) (jf _ _) (.inl rfl) _
    have hRule : jr2 L KK = ⟨r0, p1, s2, p3⟩ := by
     show (⟨jbe L KK 0 5, zm L (KK + 1) [0, 0, 1, 2], jcg L (KK + 1 + 1) [⟨#[]⟩, ⟨#[]⟩, ⟨#[98, 50, 48]⟩, ⟨#[98, 52, 48]⟩], zm L (KK + 1 + 1 + 1) [0, 1, 2, 3, 10]⟩ : Rul) = _
     rw [HR0.out, HP1.out, HS2.out, HP3.out]
    have HRL2 : Hid (jkk L (k6 + 1) (j + 1) = RL ++ [⟨r0, p1, s2, p3⟩]) := by show _ = _; rw [jmt, HRL.out, HKK.out, hRule]
    have hRn := RulsFrom.other (juj HRN.out.symm r0 p1 s2 p3 hown9) hgP hCl
    have hG9 : w.grownBy w9 (some b) := jk (ja HG0.out hG) hg9 (fun g e => .inr (by have := (hrow g e).1; have := HB.out; omega))
    have hS9 := hS.grown hg9 (fun g e => by have := (hrow g e).1; have := HBB.out; omega)
    have hSP := hS9.grown hgP (fun g e => by injection e with e; subst e; exact ⟨HBC.out.symm, by have := HBB.out; omega⟩)
    have hGP : w.grownBy _ (some b) := jk hG9 hgP (fun g e => by injection e with e; exact .inr (by have := HB.out; omega))
    have hszP : H5 ≤ (w9.setCell ⟨gC, 5, none⟩ (.slice (some ⟨g9, 0, none⟩) (j + 1) cap)).heap.size := by have := hgP.size; have := hg9.size; omega
    go_roundw
    case rel => exact ⟨j + 1, _, _, by omega, by go_num, HRL2, (show _ = _ by rw [List.length_append, HRN.out]; rfl), hRn, hput, EntsFrom.other hU9 hgP hCl, PfxsFrom.other hV9 hgP hCl, hres9.grown hgP (by simpa using (by omega : B ≠ gC)), hszP, hSP.cst (by have := HKK.out; omega), hGP⟩
    case measure => simp [intOf]; omega
  have hji : ¬ (j : Int) < (N : Int) := by omega
  have hNN : N = j := by omega
  have HN2 : Hid (jbe L k6 0 4 = (j : Int)) := by show _ = _; rw [HN.out, hNN]
  have hj4 : j ≤ 4 := by omega
  obtain ⟨RV, hRV⟩ : ∃ x, Value.slice RA j rc = x := ⟨_, rfl⟩
  rw [hRV] at hR hC
  clear hlt hjN hNN HN hrl hRA
  obtain ⟨K2, hK2⟩ : ∃ x, k6 + 1 + 4 * j = x := ⟨_, rfl⟩
  rw [hK2] at hsj
  have HK2 := Lib.hid hK2
  have hK2b : K2 ≤ k + 268 := by omega
  clear hRV hK2
  go_wp2_with fail
  go_loopw [4] (fun iv wr => ∃ (i : Nat) (MV : Value) (ML : List Mul) (kk : Nat), i ≤ 5 ∧ iv = .int .i64 ((i : Int) + 1) ∧ Hid (yk L K2 i = (ML, kk)) ∧ Hid (kk ≤ K2 + 3 * i ∧ ML.length ≤ i) ∧ MulsFrom H5 wr MV ML ∧ Blk wr gC 33 #[UV, VV, .string own, .int .i64 bg, .int .i64 fn, RV, MV, .bool bm] ∧ RulsFrom H5 wr RV RL ∧ EntsFrom H5 wr UV l ∧ PfxsFrom H5 wr VV q ∧ Blk wr B 33 #[.slice none 0 0, .slice none 0 0, .string ⟨#[]⟩, .int .i64 0, .int .i64 0, .slice none 0 0, .slice none 0 0, .bool false] ∧ H5 ≤ wr.heap.size ∧ SX base wr b L kk ∧ w.grownBy wr (some b)) (fun iv _ => 6 - (intOf iv).toNat)
  case atStart => exact ⟨0, _, [], K2, by omega, rfl, (show _ = _ from rfl), (show _ ∧ _ from ⟨by omega, by simp⟩), World.ownsRow_nil _ _ _ _, hC, hR, hu, hv, hres, hsz, hsj, hG0⟩
  case round =>
   clear hC hR hu hv hres hsz hsj hG0
   obtain ⟨i, MV, ML, kk, hi5, rfl, HM, HMB, hM, hC, hR, hu, hv, hres, hsz, hsj, hG0⟩ := hrel
   have hkkb : kk ≤ 100001000 := by have := HMB.out.1; omega
   by_cases hlt : i < 5
   ·have hji : (i : Int) + 1 ≤ 5 := by omega
    go_wp2_with fail
    refine (jac base b L kk 2 _ hsj (by omega) (by decide) (by decide)).mono ?_
    rintro _ w9 ⟨fl, HFL, rfl, hs9, hg9⟩
    have HM9 := Lib.hid (MulsFrom.other hM hg9 hb5)
    have HC9 := Lib.hid (hC.grown hg9 (by simpa using HBC.out.symm))
    have HR9 := Lib.hid (RulsFrom.other hR hg9 hb5)
    have HU9 := Lib.hid (EntsFrom.other hu hg9 hb5)
    have HV9 := Lib.hid (PfxsFrom.other hv hg9 hb5)
    have HRES9 := Lib.hid (hres.grown hg9 (by simpa using (by omega : B ≠ b)))
    have HSZ9 : Hid (H5 ≤ w9.heap.size) := by show _ ≤ _; have := hg9.size; omega
    have HG9 := Lib.hid (ja hG0 hg9)
    clear hM hC hR hu hv hres hsz hG0 hsj hg9
    cases fl
    ·have HM2 : Hid (yk L K2 (i + 1) = (ML, kk + 1)) := by
      show _ = _
      unfold yk
      rw [HM.out, show jgu L (ML, kk).2 2 = false from HFL.out]; rfl
     go_wp2_with fail
     go_roundw
     case rel => exact ⟨i + 1, MV, ML, kk + 1, by omega, by go_num, HM2, (show _ ∧ _ from ⟨by have := HMB.out.1; omega, by have := HMB.out.2; omega⟩), HM9.out, HC9.out, HR9.out, HU9.out, HV9.out, HRES9.out, HSZ9.out, hs9, HG9.out⟩
     case measure => simp [intOf]; omega
    obtain ⟨MA, mc, hMV, hml, hMA⟩ := HM9.out.shape
    subst hMV
    obtain ⟨MN, hMN⟩ : ∃ x, ML.length = x := ⟨_, rfl⟩
    have HMN := Lib.hid hMN
    rw [hMN] at HM9 HC9
    (try rw [hMN])
    have hMNb : MN ≤ 5 := by have := HMB.out.2; omega
    have k6c := HC9.out.cell 6
    simp only [geA, geZ, geS] at k6c
    have HKC : Hid (∀ V, w9.grownBy V (some b) → V.cell? ⟨gC, 6, none⟩ = some (.slice MA MN mc)) := fun V hV => hV.cell k6c (by simpa using HBC.out.symm)
    clear hml hMA hMN k6c
    go_upto_region 11 with fail
    refine jx [11] (fun V => V.cell? ⟨gC, 6, none⟩ = some (.slice MA MN mc)) (by kernel_rfl) ?_
    have hS := hs9.drew
    have hG : w9.grownBy w9.drew (some b) := jn (jf _ _)
    generalize w9.drew = W at *
    revert hG
    revert hS
    revert W
    refine' qf ?h4_6 ?k4_6
    case' k4_6 =>
     intro H4_6
     refine' qf ?h4 ?k4
    case' k4 => intro H4
    case k4 =>
     intro W hS hG
     refine tkA 0 52 (fun _ => HKC.out _ hG) ?_
     simp only [Act.put, ssA, ssZ, ssS]
     refine tkL 1 53 (HKC.out _ hG) ?_
     simp only [Act.put, ssA, ssZ, ssS]
     refine tkA 2 54 (fun _ => HKC.out _ hG) ?_
     simp only [Act.put, ssA, ssZ, ssS]
     refine tkA 3 55 (fun _ => HKC.out _ hG) ?_
     simp only [Act.put, ssA, ssZ, ssS]
     refine tkA 5 57 (fun _ => HKC.out _ hG) ?_
     simp only [Act.put, ssA, ssZ, ssS]
     refine je (rs := [4]) (by kernel_rfl) (by simp) ?_
     refine AllLate.cons (o := _) rfl (fun K hK => ?n1) AllLate.nil
     case n1 =>
      go_simp
      (go_at_call 28; refine (jac base b L (kk + 1) 2 _ hS (by omega) (by decide) (by decide)).mono ?_; rintro _ W2 ⟨f1, HF1, rfl, hS2, hg2⟩)
      replace hG := ja hG hg2
      clear hS
      have hS := hS2
      clear hS2 hg2
      refine hK.out _ _ (fun _ => HKC.out _ hG) ?_
      clear hK K
      (try simp only [Act.put, ssA, ssZ, ssS])
      refine jh (listed' := #[true, true, true, true, true, true, false, false, false, false, false, false]) (by kernel_rfl) ?_
      revert hG
      revert hS
      revert HF1
      revert f1
      revert W2
      exact H4.out
    case h4 =>
     intro W f1 HF1 hS hG
     refine je (rs := [6]) (by kernel_rfl) (by simp) ?_
     refine AllLate.cons (o := _) rfl (fun K hK => ?n2) AllLate.nil
     case n2 =>
      go_simp
      (go_at_call 28; refine (jac base b L (kk + 1 + 1) 3 _ hS (by omega) (by decide) (by decide)).mono ?_; rintro _ W2 ⟨f2, HF2, rfl, hS2, hg2⟩)
      replace hG := ja hG hg2
      clear hS
      have hS := hS2
      clear hS2 hg2
      refine hK.out _ _ (fun _ => HKC.out _ hG) ?_
      clear hK K
      (try simp only [Act.put, ssA, ssZ, ssS])
      refine jh (listed' := #[true, true, true, true, true, true, true, false, false, false, false, false]) (by kernel_rfl) ?_
      revert hG
      revert hS
      revert HF2
      revert f2
      revert HF1
      revert f1
      revert W2
      exact H4_6.out
    case h4_6 =>
     intro W f1 HF1 f2 HF2 hS hG
     refine tkA 7 59 (fun _ => HKC.out _ hG) ?_
     simp only [Act.put, ssA, ssZ, ssS]
     refine je (rs := [8]) (by kernel_rfl) (by simp) ?_
     refine AllLate.cons (o := _) rfl (fun K hK => ?_) AllLate.nil
     go_simp
     have hE := Blk.new W 38 #[.int .i64 ((i : Int) + 1), .bool f1, .bool f2]
     replace hS := hS.alloc (.cells #[.int .i64 ((i : Int) + 1), .bool f1, .bool f2] 38)
     replace hG := jd hG (.cells #[.int .i64 ((i : Int) + 1), .bool f1, .bool f2] 38)
     generalize W.alloc (.cells #[.int .i64 ((i : Int) + 1), .bool f1, .bool f2] 38) = WM at *
     generalize W.heap.size = gE at *
     refine hK.out _ _ (fun _ => HKC.out _ hG) ?_
     clear hK K
     (try simp only [Act.put, ssA, ssZ, ssS])
     refine je (rs := [9]) (by kernel_rfl) (by simp) ?_
     refine AllLate.cons (o := _) rfl (fun K hK => ?_) AllLate.nil
     have hMM := MulsFrom.other HM9.out hG hb5
     have hRM := RulsFrom.other HR9.out hG hb5
     have hCM := HC9.out.grown hG (by simpa using HBC.out.symm)
     have hUM := EntsFrom.other HU9.out hG hb5
     have hVM := PfxsFrom.other HV9.out hG hb5
     have hresM := HRES9.out.grown hG (by simpa using (by omega : B ≠ b))
     have hszM : H5 ≤ WM.heap.size := by have := hG.size; have := HSZ9.out; omega
     have hMO : World.ownsRow WM H5 38 3 (.slice MA MN mc) MN (ML.flatMap jwb) := by have h := hMM; unfold MulsFrom at h; rw [HMN.out] at h; exact h
     refine step_append_lies _ (by rfl) (.tmp 53) (.tmp 60) 31 (by rfl) H5 38 j0 _ 3 16 Tryz.underlying31 hj hy0 hy1 hy2 rfl (by decide) _ _ _ (by rfl) hMO ⟨gE, 0, none⟩ 1 1 [.int .i64 ((i : Int) + 1), .bool f1, .bool f2] (by rfl) rfl (World.news_of_block hE) (jrt ((i : Int) + 1) f1 f2) (by decide) (by unfold maxLen; omega) (by omega) hszM _ rfl ?_
     intro g7 cap w7 hown7 hg7 hat hglt
     have hrow := hMO.lt
     have hC7 := jck hCM hMO (by decide) hg7
     have hR7 := jbh (show World.ownsRow _ _ _ _ _ _ _ from hRM) hMO (by decide) hg7
     have hU7 := jbh hUM hMO (by decide) hg7
     have hV7 := jbh hVM hMO (by decide) hg7
     have hres7 := jck hresM hMO (by decide) hg7
     have k67 := hC7.cell 6
     simp only [geA, geZ, geS] at k67
     refine hK.out _ _ (fun _ => k67) ?_
     clear hK K
     (try simp only [Act.put, ssA, ssZ, ssS])
     refine tkA 10 62 (fun _ => k67) ?_
     simp only [Act.put, ssA, ssZ, ssS]
     have f67 := hC7.free 6
     refine je (rs := [11]) (by kernel_rfl) (by simp) ?_
     refine AllLate.cons (o := _) rfl (fun K hK => ?_) AllLate.nil
     go_simp
     refine hK.out _ _ (fun h => Bool.noConfusion (show false = true from h)) ?_
     clear hK K
     (try simp only [Act.put, ssA, ssZ, ssS])
     refine qe (by kernel_rfl) ?_ _
     go_wp2_with fail
     have hput := hC7.put 6 (.slice (some ⟨g7, 0, none⟩) (MN + 1) cap)
     have hgP : w7.grownBy (w7.setCell ⟨gC, 6, none⟩ (.slice (some ⟨g7, 0, none⟩) (MN + 1) cap)) (some gC) := jg (p := ⟨gC, 6, none⟩) (jf _ _) (.inl rfl) _
     have HM2 : Hid (yk L K2 (i + 1) = (ML ++ [⟨(i : Int) + 1, f1, f2⟩], kk + 1 + 1 + 1)) := by
      show _ = _
      have e1 : jgu L (kk + 1) 2 = f1 := HF1.out
      have e2 : jgu L (kk + 2) 3 = f2 := HF2.out
      have e0 : jgu L kk 2 = true := HFL.out
      unfold yk
      simp only [HM.out, e0, e1, e2, if_true]
     have hMn := MulsFrom.other (jt0 HMN.out.symm ((i : Int) + 1) f1 f2 hown7) hgP hCl
     have hG7 : w.grownBy w7 (some b) := jk (ja HG9.out hG) hg7 (fun g e => .inr (by have := (hrow g e).1; have := HB.out; omega))
     have hS7 := hS.grown hg7 (fun g e => by have := (hrow g e).1; have := HBB.out; omega)
     have hSP := hS7.grown hgP (fun g e => by injection e with e; subst e; exact ⟨HBC.out.symm, by have := HBB.out; omega⟩)
     have hGP : w.grownBy _ (some b) := jk hG7 hgP (fun g e => by injection e with e; exact .inr (by have := HB.out; omega))
     have hszP : H5 ≤ (w7.setCell ⟨gC, 6, none⟩ (.slice (some ⟨g7, 0, none⟩) (MN + 1) cap)).heap.size := by have := hgP.size; have := hg7.size; omega
     go_roundw
     case rel => exact ⟨i + 1, _, _, _, by omega, by go_num, HM2, (show _ ∧ _ from ⟨by have := HMB.out.1; omega, by rw [List.length_append]; have := HMB.out.2; simp; omega⟩), hMn, hput, RulsFrom.other hR7 hgP hCl, EntsFrom.other hU7 hgP hCl, PfxsFrom.other hV7 hgP hCl, hres7.grown hgP (by simpa using (by omega : B ≠ gC)), hszP, hSP, hGP⟩
     case measure => simp [intOf]; omega
   have hji : ¬ (i : Int) + 1 ≤ 5 := by omega
   obtain rfl : i = 5 := by omega
   have HEND : Hid (jkg L k = (⟨l, q, own, bg, fn, RL, ML, bm⟩, kk)) := by
    have h1 : jfn L (k1 + 3) = (l, q, k6) := HRT.out
    have h2 : zm L (k1 + 1) [400, 200000, 300000] = fn := HFN.out
    have h3 : jgu L (k1 + 2) 2 = bm := HBM.out
    have h4 : yk L (k6 + 1 + 4 * j) 5 = (ML, kk) := by rw [HK2.out]; exact HM.out
    show _ = _
    simp only [jkg, HOWN.out, h1, HBG.out, h2, HN2.out, Int.toNat_natCast, HRL.out, h4, h3]
   have k0 := hC.cell 0
   have k1c := hC.cell 1
   have k2c := hC.cell 2
   have k3c := hC.cell 3
   have k4c := hC.cell 4
   have k5c := hC.cell 5
   have k6c := hC.cell 6
   have k7c := hC.cell 7
   have z0 := hres.cell 0
   have z1 := hres.cell 1
   have z2 := hres.cell 2
   have z3 := hres.cell 3
   have z4 := hres.cell 4
   have z5 := hres.cell 5
   have z6 := hres.cell 6
   have z7 := hres.cell 7
   have y0 := hres.free 0
   have y1 := hres.free 1
   have y2 := hres.free 2
   have y3 := hres.free 3
   have y4 := hres.free 4
   have y5 := hres.free 5
   have y6 := hres.free 6
   have y7 := hres.free 7
   simp only [geA, geZ, geS] at k0 k1c k2c k3c k4c k5c k6c k7c z0 z1 z2 z3 z4 z5 z6 z7
   obtain ⟨UA2, uc2, hUV2, _, _⟩ := hu.shape
   obtain ⟨VA2, vc2, hVV2, _, _⟩ := hv.shape
   obtain ⟨RA2, rc2, hRV2, _, _⟩ := hR.shape
   obtain ⟨MA2, mc2, hMV2, _, _⟩ := hM.shape
   subst hUV2 hVV2 hRV2 hMV2
   have hput : Blk ((((((((wr.setCell ⟨B, 0, none⟩ (.slice UA2 l.length uc2)).setCell ⟨B, 1, none⟩ (.slice VA2 q.length vc2)).setCell ⟨B, 2, none⟩ (.string own)).setCell ⟨B, 3, none⟩ (.int .i64 bg)).setCell ⟨B, 4, none⟩ (.int .i64 fn)).setCell ⟨B, 5, none⟩ (.slice RA2 RL.length rc2)).setCell ⟨B, 6, none⟩ (.slice MA2 ML.length mc2)).setCell ⟨B, 7, none⟩ (.bool bm)) B 33 #[.slice UA2 l.length uc2, .slice VA2 q.length vc2, .string own, .int .i64 bg, .int .i64 fn, .slice RA2 RL.length rc2, .slice MA2 ML.length mc2, .bool bm] := ((((((((hres.put 0 _).put 1 _).put 2 _).put 3 _).put 4 _).put 5 _).put 6 _).put 7 _)
   have hgP : wr.grownBy ((((((((wr.setCell ⟨B, 0, none⟩ (.slice UA2 l.length uc2)).setCell ⟨B, 1, none⟩ (.slice VA2 q.length vc2)).setCell ⟨B, 2, none⟩ (.string own)).setCell ⟨B, 3, none⟩ (.int .i64 bg)).setCell ⟨B, 4, none⟩ (.int .i64 fn)).setCell ⟨B, 5, none⟩ (.slice RA2 RL.length rc2)).setCell ⟨B, 6, none⟩ (.slice MA2 ML.length mc2)).setCell ⟨B, 7, none⟩ (.bool bm)) (some B) := jg (p := ⟨B, 7, none⟩) (jg (p := ⟨B, 6, none⟩) (jg (p := ⟨B, 5, none⟩) (jg (p := ⟨B, 4, none⟩) (jg (p := ⟨B, 3, none⟩) (jg (p := ⟨B, 2, none⟩) (jg (p := ⟨B, 1, none⟩) (jg (p := ⟨B, 0, none⟩) (jf _ _) (.inl rfl) _) (.inl rfl) _) (.inl rfl) _) (.inl rfl) _) (.inl rfl) _) (.inl rfl) _) (.inl rfl) _) (.inl rfl) _
   have HPUT := Lib.hid hput
   have HGP := Lib.hid hgP
   clear hput hgP
   go_wp2_with fail
   obtain ⟨e0, e1, e2, e3, e4, e5, e6, e7⟩ := HPUT.out.cells8
   refine bodyPost_ret (v := .agg #[.slice UA2 l.length uc2, .slice VA2 q.length vc2, .string own, .int .i64 bg, .int .i64 fn, .slice RA2 RL.length rc2, .slice MA2 ML.length mc2, .bool bm]) (by simp [results, Tryz.results7, go_sem, e0, e1, e2, e3, e4, e5, e6, e7]) rfl ?_
   have hul := EntsFrom.other hu HGP.out (by have := HB.out; omega)
   have hvl := PfxsFrom.other hv HGP.out (by omega)
   have hrl := RulsFrom.other hR HGP.out (by omega)
   have hml := MulsFrom.other hM HGP.out (by omega)
   have hB5 : w.heap.size ≤ H5 := by have := HB.out; omega
   have hSM : ∀ r ∈ RL, jlt r := fun r hr => by
    rw [← HRL.out] at hr
    simp only [jkk, List.mem_map] at hr
    obtain ⟨jj, _, rfl⟩ := hr
    have := jv6 L (k6 + 1 + 4 * jj)
    unfold jlt
    omega
   have hRl : RL.length = j := HRN.out
   have hlo : k ≤ kk := by
    have h := (jii L K2 5).2.1
    rw [HM.out] at h
    have := HK2.out
    have h' : K2 ≤ kk := h
    omega
   have hhi : kk ≤ k + 300 := by have := HMB.out.1; omega
   have hlq := HLN.out
   have hbg := HBG2.out
   have hfn := HFN2.out
   simp only [List.mem_cons, List.not_mem_nil, or_false] at hbg hfn
   exact ⟨_, _, _, _, _, kk, HEND.out, rfl, ⟨jq hul hB5, jq hvl hB5, jq hrl hB5, jq hml hB5⟩, ⟨HES.out, HPS.out, by show own.size ≤ 1000; have := HOS.out.1; omega, HOS.out.2.1, hSM, by show _ ≤ fn; omega, by show fn ≤ _; omega⟩, hbg, hfn, HOS.out.2.2, hlq.1, hlq.2, by show RL.length ≤ 4; omega, by show ML.length ≤ 5; exact HMB.out.2, hlo, hhi, hsj.grown HGP.out (fun g e => by injection e with e; subst e; exact ⟨by omega, by have := HBB.out; omega⟩), jk hG0 HGP.out (fun g e => by injection e with e; exact .inr (by have := HB.out; omega))⟩
end Go.Proofs.YtbamhgaghngjiaaGreatDoor
