/- The walk over the reference's FoundOf. Condition: a table lies in memory; a right call sign. The walk over a table's Find: it is the reference's FoundOf. Condition: a right table with its maps lies in memory; a right call sign. The walk over call.Of. Condition: parts of a size; a string of ASCII bytes. A map from strings to numbers that the program has made, as a list of pairs whose keys differ; sums over it in any order. No condition. Contracts of slices.Sorted over maps.Keys at this translation, as the kit lays them in plain words: each says its own conditions. A map from strings to bools that the program has made, as a list of its keys; slices.Sorted over its keys. No condition. The reference's 'once' at few strings: they in order, each once; what it is made of: slices.Clone, Sort, Compact. Condition: at most 1000 strings. Plain law: strings in order, each once: what slices.Compact leaves of a sorted list. No condition. The walks over a table's near and edges. Condition: a right table with its maps lies in memory. -/
import Derived.Test.YtbpkfkbbkgdlaaaGreatDoorPChkak
import Derived.Test.YtbpkfkbbkgdlaaaGreatDoorPChkal
import Derived.Test.YtbpkfkbbkgdlaaaGreatDoorPChkag
import Derived.Test.YtbpkfkbbkgdlaaaGreatDoorPChkaf
import Derived.Deep.DeepCutAuto
import Derived.Test.YtbpkfkbbkgdlaaaGreatDoorPChkaa
import Derived.Maps.OwnOps
import Derived.Maps.Views
import Derived.Maps.StringElems
import Derived.Maps.RangeWalk
import Derived.StringKeys
import Derived.Shelf.SlIter.Nil
import Derived.Shelf.SortM.Plain
import Derived.Shelf.SortM.SortNone
import Derived.Ground.GgzProg
import Derived.Ground.SlgmProg
import Derived.Test.YtbpkfkbbkgdlaaaGreatDoorProg
import Derived.Sort.KeysCollected
import Derived.Test.YtbpkfkbbkgdlaaaGreatDoorPChkab
import Derived.Sort.OwnSorted
import Derived.Lib.OwnBridge
import Derived.Lib.SlicesCompact
import Derived.Lib.RowBridge
namespace Go.Proofs.YtbpkfkbbkgdlaaaGreatDoor
open Go.RowKit
set_option linter.unusedVariables false
set_option linter.unusedSimpArgs false

abbrev Fnd := ByteArray × Int × Int
def fndX (l : List Ent) (x : Pfx) : Fnd := ((entD l x.ent).key, (entD l x.ent).cont, fndZ l x)
def whlB (l : List Ent) (s : ByteArray) (t : Int) (x : Pfx) : Bool := x.whole && (decide (x.beg = s) && cntB l x t)
def whlOf (l : List Ent) (p : List Pfx) (s : ByteArray) (t : Int) : Option Pfx := p.find? (whlB l s t)
theorem whlOf_step (l : List Ent) (p : List Pfx) (s : ByteArray) (t : Int) (k : Nat) (h : k < p.length) : whlOf l (p.drop k) s t = if whlB l s t p[k] then some p[k] else whlOf l (p.drop (k + 1)) s t := by
 unfold whlOf
 rw [List.drop_eq_getElem_cons h, List.find?_cons]
 by_cases hh : whlB l s t p[k] <;> simp [hh]
/-- What is left of the reference's answer behind the whole prefixes. -/
def restOf (l : List Ent) (p : List Pfx) (t : Int) (q : ByteArray × Nat × Int × ByteArray) : Option Fnd :=
 if q.2.2.1 = 5 ∨ q.2.2.1 = 6 then none
 else if lngTo l p (plcOf q.1 (q.1.extract 0 (q.2.1 + 1)) (q.1.extract (q.2.1 + 1) q.1.size) q.2.2.2 q.2.2.1) t (-1) p.length < 0 then none
 else (p[(lngTo l p (plcOf q.1 (q.1.extract 0 (q.2.1 + 1)) (q.1.extract (q.2.1 + 1) q.1.size) q.2.2.2 q.2.2.1) t (-1) p.length).toNat]?).map (fndX l)
def fndOf (l : List Ent) (p : List Pfx) (s : ByteArray) (t : Int) (q : ByteArray × Nat × Int × ByteArray) : Option Fnd :=
 match whlOf l p s t with
 | some x => some (fndX l x)
 | none => restOf l p t q
def fndZ0 : Fnd := (⟨#[]⟩, 0, 0)
def FndRet (o : Option Fnd) (r : Ending) : Prop := r = .returned (.tuple #[.agg #[.string (o.getD fndZ0).1, .int .i64 (o.getD fndZ0).2.1, .int .i64 (o.getD fndZ0).2.2], .bool o.isSome])
set_option maxRecDepth 100000 in
set_option maxHeartbeats 8000000 in
theorem foundOf_ok (base : Nat) (u v : Value) (l : List Ent) (p : List Pfx) (s : ByteArray) (t : Int) (q : ByteArray × Nat × Int × ByteArray) (w : World) (hl : EntsFrom base w u l) (hbig : l.length ≤ 1000000) (hp : PfxsFrom base w v p) (hpb : p.length ≤ 1000000) (hsm : ∀ x ∈ p, PfxSm x) (hs : s.size ≤ 1000) (ha : Ascii s) (hq : partsOf s = some q) (hqs : q.1.size ≤ 100 ∧ q.2.2.2.size ≤ 100 ∧ q.2.1 < q.1.size) :
 Calls Tryz.prog 22 #[u, v, .string s, .int .i64 t] w fun r w' => FndRet (fndOf l p s t q) r ∧ w.grownBy w' none := by
 have hR := Blk.new w 38 #[.string ⟨#[]⟩, .int .i64 0, .int .i64 0]
 have hg0 := World.grownBy_alloc w (.cells #[.string ⟨#[]⟩, .int .i64 0, .int .i64 0] 38) none
 obtain ⟨A, c, rfl, hlen, hA⟩ := hp.shape
 have HP := Lib.hid hp
 have HL := Lib.hid hl
 have HA := Lib.hid hA
 obtain ⟨O, hO⟩ : ∃ O, fndOf l p s t q = O := ⟨_, rfl⟩
 rw [hO]
 have HO := Lib.hid hO
 obtain ⟨gR, hgR⟩ : ∃ x, w.heap.size = x := ⟨_, rfl⟩
 have HgR := Lib.hid hgR
 rw [hgR] at hR
 have HFIN : Hid (∀ (W : World) (K : ByteArray) (C Z : Int) (F : Bool), Blk W gR 38 #[.string ⟨#[]⟩, .int .i64 0, .int .i64 0] → w.grownBy W none →
  (((W.setCell ⟨gR, 0, none⟩ (.string K)).setCell ⟨gR, 1, none⟩ (.int .i64 C)).setCell ⟨gR, 2, none⟩ (.int .i64 Z)).cell? ⟨gR, 0, none⟩ = some (.string K) ∧ (((W.setCell ⟨gR, 0, none⟩ (.string K)).setCell ⟨gR, 1, none⟩ (.int .i64 C)).setCell ⟨gR, 2, none⟩ (.int .i64 Z)).cell? ⟨gR, 1, none⟩ = some (.int .i64 C) ∧ (((W.setCell ⟨gR, 0, none⟩ (.string K)).setCell ⟨gR, 1, none⟩ (.int .i64 C)).setCell ⟨gR, 2, none⟩ (.int .i64 Z)).cell? ⟨gR, 2, none⟩ = some (.int .i64 Z) ∧ w.grownBy (((W.setCell ⟨gR, 0, none⟩ (.string K)).setCell ⟨gR, 1, none⟩ (.int .i64 C)).setCell ⟨gR, 2, none⟩ (.int .i64 Z)) none) := fun W K C Z F hW hgW => by
  have hf := ((Blk.put hW 0 (.string K)).put 1 (.int .i64 C)).put 2 (.int .i64 Z)
  simp only [List.setIfInBounds_toArray, List.set_cons_zero, List.set_cons_succ] at hf
  have hle : w.heap.size ≤ gR := by omega
  exact ⟨hf.cell 0, hf.cell 1, hf.cell 2, gr_put (p := ⟨gR, 2, none⟩) (gr_put (p := ⟨gR, 1, none⟩) (gr_put (p := ⟨gR, 0, none⟩) hgW (.inr hle) (.string K)) (.inr hle) (.int .i64 C)) (.inr hle) (.int .i64 Z)⟩
 have HW0 : Hid (whlOf l p s t = whlOf l (p.drop 0) s t) := rfl
 have HQ := Lib.hid hq
 have HAS := Lib.hid ha
 clear hl hp hA hO hgR hq ha
 go_enter Tryz.func22, Tryz.ntmps22
 go_upto_region 1 with fail
 generalize w.alloc (.cells #[.string ⟨#[]⟩, .int .i64 0, .int .i64 0] 38) = w1 at *
 rw [HgR.out]
 go_wp2_with fail
 go_loopw [18] (fun iv wr => ∃ k : Nat, k ≤ p.length ∧ iv = .int .i64 k ∧ Hid (whlOf l p s t = whlOf l (p.drop k) s t) ∧ w1.grownBy wr none) (fun iv _ => p.length - (intOf iv).toNat)
 case atStart => exact ⟨0, by omega, rfl, HW0, gr_refl _ _⟩
 case round =>
  obtain ⟨k, hk, rfl, HN, hg⟩ := hrel
  have hRr := hR.grown hg (by simp)
  have hgw := gr_trans hg0 hg
  by_cases hlt : k < p.length
  ·have hki : (k : Int) < (p.length : Int) := by omega
   obtain ⟨g, rfl, _, hgl⟩ := HA.out (by omega)
   obtain ⟨q0, q1, q2, q3, q4, q5⟩ := (HP.out.grown hgw).at_ k hlt
   have hst := whlOf_step l p s t k hlt
   rw [← HN.out, show whlB l s t p[k] = (p[k].whole && (decide (p[k].beg = s) && cntB l p[k] t)) from rfl] at hst
   have HCN : Hid (∀ W, w.grownBy W none → Calls Tryz.prog 69 #[u, .agg #[.string p[k].beg, .string p[k].ent, .int .i64 p[k].a, .int .i64 p[k].z, .bool p[k].whole, .int .i64 p[k].zone], .int .i64 t] W fun r w' => r = .returned (.bool (cntB l p[k] t)) ∧ W.grownBy w' none) := fun W hW => counts_any base u l p[k].beg p[k].ent p[k].a p[k].z p[k].zone t p[k].whole W (HL.out.grown hW) hbig
   have HLD : Hid (∀ W, w.grownBy W none → Calls Tryz.prog 70 #[u, .agg #[.string p[k].beg, .string p[k].ent, .int .i64 p[k].a, .int .i64 p[k].z, .bool p[k].whole, .int .i64 p[k].zone]] W fun r w' => r = .returned (.agg #[.string (fndX l p[k]).1, .int .i64 (fndX l p[k]).2.1, .int .i64 (fndX l p[k]).2.2]) ∧ W.grownBy w' none) := fun W hW => leads_any base u l p[k].beg p[k].ent p[k].a p[k].z p[k].zone p[k].whole W (HL.out.grown hW) hbig
   have HOX : Hid (whlOf l p s t = some p[k] → O = some (fndX l p[k])) := fun h => by rw [← HO.out]; unfold fndOf; rw [h]
   have hgs := hgw.size
   have hglr : g < wr.heap.size := by omega
   generalize cntB l p[k] t = CB at *
   generalize fndX l p[k] = FX at *
   generalize p[k].beg = B at *
   generalize p[k].ent = N at *
   generalize p[k].a = xa at *
   generalize p[k].z = xz at *
   generalize p[k].whole = H at *
   generalize p[k].zone = Z at *
   have HST := Lib.hid hst
   have hB := Blk.new wr 72 #[.string B, .string N, .int .i64 xa, .int .i64 xz, .bool H, .int .i64 Z]
   have hgA := World.grownBy_alloc wr (.cells #[.string B, .string N, .int .i64 xa, .int .i64 xz, .bool H, .int .i64 Z] 72) none
   have hg1 := gr_trans hgw hgA
   have hg11 := gr_trans hg hgA
   have hR1 := hRr.grown hgA (by simp)
   clear hst
   go_upto_region 4 with fail
   generalize wr.alloc (.cells #[.string B, .string N, .int .i64 xa, .int .i64 xz, .bool H, .int .i64 Z] 72) = w2 at *
   generalize wr.heap.size = gX at *
   clear q0 q1 q2 q3 q4 q5
   have x0 := hB.cell 0
   have x1 := hB.cell 1
   have x2 := hB.cell 2
   have x3 := hB.cell 3
   have x4 := hB.cell 4
   have x5 := hB.cell 5
   simp only [List.getElem?_toArray, List.getElem?_cons_zero, List.getElem?_cons_succ] at x0 x1 x2 x3 x4 x5
   cases H
   ·have HR2 : Hid (whlOf l p s t = whlOf l (p.drop (k + 1)) s t) := by show _ = _; rw [HST.out]; simp
    go_wp2_with fail
    go_roundw
    case rel => exact ⟨k + 1, by omega, by go_num, HR2, hg11⟩
    case measure => simp [intOf]; omega
   ·by_cases hbs : B = s
    ·have hbb := str_yes hbs
     have HBS := Lib.hid hbs
     clear hbs
     go_wp2_with fail
     refine (HCN.out _ hg1).mono ?_
     rintro _ w3 ⟨rfl, hg3⟩
     cases CB
     ·have HR2 : Hid (whlOf l p s t = whlOf l (p.drop (k + 1)) s t) := by show _ = _; rw [HST.out]; simp
      go_wp2_with fail
      go_roundw
      case rel => exact ⟨k + 1, by omega, by go_num, HR2, gr_trans hg11 hg3⟩
      case measure => simp [intOf]; omega
     ·have hOX := HOX.out (by rw [HST.out]; simp [HBS.out])
      subst hOX
      have hB3 := Blk.grown hB hg3 (by simp)
      have hR3 := Blk.grown hR1 hg3 (by simp)
      clear x0 x1 x2 x3 x4 x5
      have x0 := Blk.cell hB3 0
      have x1 := Blk.cell hB3 1
      have x2 := Blk.cell hB3 2
      have x3 := Blk.cell hB3 3
      have x4 := Blk.cell hB3 4
      have x5 := Blk.cell hB3 5
      simp only [List.getElem?_toArray, List.getElem?_cons_zero, List.getElem?_cons_succ] at x0 x1 x2 x3 x4 x5
      go_wp2_with fail
      refine (HLD.out _ (gr_trans hg1 hg3)).mono ?_
      rintro _ w4 ⟨rfl, hg4⟩
      have hR4 := Blk.grown hR3 hg4 (by simp)
      have hgF := gr_trans (gr_trans hg1 hg3) hg4
      have r0 := Blk.cell hR4 0
      have r1 := Blk.cell hR4 1
      have r2 := Blk.cell hR4 2
      have rf := Blk.free hR4
      simp only [List.getElem?_toArray, List.getElem?_cons_zero, List.getElem?_cons_succ] at r0 r1 r2
      go_wp2_with fail
      obtain ⟨e0, e1, e2, e3⟩ := HFIN.out w4 FX.1 FX.2.1 FX.2.2 true hR4 hgF
      refine bodyPost_ret (v := .tuple #[.agg #[.string FX.1, .int .i64 FX.2.1, .int .i64 FX.2.2], .bool true]) (by simp [results, Tryz.results22, go_sem, e0, e1, e2]) rfl ?_
      exact ⟨rfl, e3⟩
    ·have hbb := str_no hbs
     have HR2 : Hid (whlOf l p s t = whlOf l (p.drop (k + 1)) s t) := by show _ = _; rw [HST.out]; simp [hbs]
     clear hbs
     go_wp2_with fail
     go_roundw
     case rel => exact ⟨k + 1, by omega, by go_num, HR2, hg11⟩
     case measure => simp [intOf]; omega
  ·obtain rfl : k = p.length := by omega
   have hkl : ¬ (p.length : Int) < (p.length : Int) := by omega
   have hwn : whlOf l p s t = none := by rw [HN.out, List.drop_length]; rfl
   have hor : O = restOf l p t q := by rw [← HO.out]; unfold fndOf; rw [hwn]
   obtain ⟨T0, kk, KD, AD⟩ := q
   obtain ⟨z1, z2, z3⟩ := hqs
   simp only at z1 z2 z3
   have hPA : ∀ W, Calls Tryz.prog 71 #[.string s] W fun r w' => r = .returned (.tuple #[.agg #[.string T0, .string (T0.extract 0 (kk + 1)), .string (T0.extract (kk + 1) T0.size), .int .i64 KD, .string AD], .bool true]) ∧ W.grownBy w' none := fun W => (refParts_any s W (by omega) HAS.out).mono fun r w' ⟨h1, h2⟩ => by
    rcases h2 with ⟨h3, _⟩ | ⟨t', k', kd', ad', h3, h4⟩
    ·rw [HQ.out] at h3; simp at h3
    ·rw [HQ.out] at h3
     simp only [Option.some.injEq, Prod.mk.injEq] at h3
     obtain ⟨rfl, rfl, rfl, rfl⟩ := h3
     exact ⟨h4, h1⟩
   unfold restOf at hor
   simp only at hor
   have y1 : (T0.extract 0 (kk + 1)).size ≤ 100 ∧ 1 ≤ (T0.extract 0 (kk + 1)).size := by rw [ByteArray.size_extract]; omega
   have y2 : (T0.extract (kk + 1) T0.size).size ≤ 100 := by rw [ByteArray.size_extract]; omega
   generalize T0.extract 0 (kk + 1) = PRE at *
   generalize T0.extract (kk + 1) T0.size = SUF at *
   have HPA := Lib.hid hPA
   have HOR := Lib.hid hor
   have HLG : Hid (∀ W PL, w.grownBy W none → plcOf T0 PRE SUF AD KD = PL → Calls Tryz.prog 72 #[u, .slice A p.length c, .string PL, .int .i64 t, .int .i64 (-1)] W fun r w' => r = .returned (.int .i64 (lngTo l p (plcOf T0 PRE SUF AD KD) t (-1) p.length)) ∧ W.grownBy w' none) := fun W PL hW hPL => by
    rw [← hPL]
    exact refLongest_any base u _ l p _ t (-1) W (HL.out.grown hW) hbig (HP.out.grown hW) hpb hsm
   clear hPA hor hwn
   go_wp2_with fail
   refine (HPA.out _).mono ?_
   rintro _ w3 ⟨rfl, hg3⟩
   have hX := Blk.new w3 105 #[.string T0, .string PRE, .string SUF, .int .i64 KD, .string AD]
   have hR4 := (Blk.grown hRr hg3 (by simp)).alloc (.cells #[.string T0, .string PRE, .string SUF, .int .i64 KD, .string AD] 105)
   have hg4 := gr_alloc (gr_trans hgw hg3) (.cells #[.string T0, .string PRE, .string SUF, .int .i64 KD, .string AD] 105)
   go_upto_region 8 with fail
   generalize w3.alloc (.cells #[.string T0, .string PRE, .string SUF, .int .i64 KD, .string AD] 105) = w4 at *
   generalize w3.heap.size = gX at *
   have x0 := Blk.cell hX 0
   have x1 := Blk.cell hX 1
   have x2 := Blk.cell hX 2
   have x3 := Blk.cell hX 3
   have x4 := Blk.cell hX 4
   have r0 := Blk.cell hR4 0
   have r1 := Blk.cell hR4 1
   have r2 := Blk.cell hR4 2
   have rf := Blk.free hR4
   simp only [List.getElem?_toArray, List.getElem?_cons_zero, List.getElem?_cons_succ] at x0 x1 x2 x3 x4 r0 r1 r2
   by_cases hk56 : KD = 5 ∨ KD = 6
   ·have hON : O = none := by rw [HOR.out, if_pos hk56]
    subst hON
    obtain ⟨e0, e1, e2, e3⟩ := HFIN.out w4 ⟨#[]⟩ 0 0 false hR4 hg4
    rcases hk56 with rfl | rfl
    ·go_wp2_with fail
     refine bodyPost_ret (v := .tuple #[.agg #[.string ⟨#[]⟩, .int .i64 0, .int .i64 0], .bool false]) (by simp [results, Tryz.results22, go_sem, e0, e1, e2]) rfl ?_
     exact ⟨rfl, e3⟩
    ·go_wp2_with fail
     refine bodyPost_ret (v := .tuple #[.agg #[.string ⟨#[]⟩, .int .i64 0, .int .i64 0], .bool false]) (by simp [results, Tryz.results22, go_sem, e0, e1, e2]) rfl ?_
     exact ⟨rfl, e3⟩
   ·have HK56 := Lib.hid hk56
    have b5 : (KD == 5) = false := by simp; omega
    have b6 : (KD == 6) = false := by simp; omega
    clear hk56
    by_cases k1 : KD = 1
    ·have hpl : plcOf T0 PRE SUF AD 1 = AD := by unfold plcOf; rw [if_pos rfl]
     subst k1
     have HPL := Lib.hid hpl
     clear hpl b5 b6
     go_wp2_with fail
     have hpl := HPL.out
     refine (HLG.out _ _ hg4 hpl).mono ?_
     rintro _ w5 ⟨rfl, hg5⟩
     have hR5 := Blk.grown (w := w4) hR4 hg5 (by simp)
     have hgF := gr_trans (hg4) hg5
     clear r0 r1 r2 rf
     have r0 := Blk.cell (g := gR) hR5 0
     have r1 := Blk.cell (g := gR) hR5 1
     have r2 := Blk.cell (g := gR) hR5 2
     have rf := Blk.free (g := gR) hR5
     simp only [List.getElem?_toArray, List.getElem?_cons_zero, List.getElem?_cons_succ] at r0 r1 r2
     have HO2 := HOR
     have hbd := lngTo_bd l p (plcOf T0 PRE SUF AD 1) t (-1) p.length
     generalize lngTo l p (plcOf T0 PRE SUF AD 1) t (-1) p.length = LG at *
     by_cases hneg : LG < 0
     ·have hON : O = none := by rw [HO2.out, if_neg HK56.out, if_pos hneg]
      subst hON
      obtain ⟨e0, e1, e2, e3⟩ := HFIN.out w5 ⟨#[]⟩ 0 0 false hR5 hgF
      go_wp2_with fail
      refine bodyPost_ret (v := .tuple #[.agg #[.string ⟨#[]⟩, .int .i64 0, .int .i64 0], .bool false]) (by simp [results, Tryz.results22, go_sem, e0, e1, e2]) rfl ?_
      exact ⟨rfl, e3⟩
     ·obtain ⟨n, rfl⟩ : ∃ n : Nat, LG = n := ⟨LG.toNat, by omega⟩
      have hnl : n < p.length := by omega
      have hOS : O = some (fndX l p[n]) := by rw [HO2.out, if_neg HK56.out, if_neg hneg, Int.toNat_natCast, List.getElem?_eq_getElem hnl]; rfl
      obtain ⟨g, rfl, _, hgl⟩ := HA.out (by omega)
      obtain ⟨q0, q1, q2, q3, q4, q5⟩ := (HP.out.grown hgF).at_ n hnl
      have HLD : Hid (∀ W, w.grownBy W none → Calls Tryz.prog 70 #[u, .agg #[.string p[n].beg, .string p[n].ent, .int .i64 p[n].a, .int .i64 p[n].z, .bool p[n].whole, .int .i64 p[n].zone]] W fun r w' => r = .returned (.agg #[.string (fndX l p[n]).1, .int .i64 (fndX l p[n]).2.1, .int .i64 (fndX l p[n]).2.2]) ∧ W.grownBy w' none) := fun W hW => leads_any base u l p[n].beg p[n].ent p[n].a p[n].z p[n].zone p[n].whole W (HL.out.grown hW) hbig
      have HOS := Lib.hid hOS
      clear hOS
      have n1 : (n : Int) < (p.length : Int) := by omega
      have n0 : (0 : Int) ≤ (n : Int) := by omega
      generalize fndX l p[n] = FX at *
      have hOS2 := HOS.out
      subst hOS2
      generalize p[n].beg = B at *
      generalize p[n].ent = N at *
      generalize p[n].a = xa at *
      generalize p[n].z = xz at *
      generalize p[n].whole = H at *
      generalize p[n].zone = Z at *
      go_wp2_with fail
      refine (HLD.out _ hgF).mono ?_
      rintro _ w6 ⟨rfl, hg6⟩
      have hR6 := Blk.grown (g := gR) hR5 hg6 (by simp)
      clear r0 r1 r2 rf
      have r0 := Blk.cell (g := gR) hR6 0
      have r1 := Blk.cell (g := gR) hR6 1
      have r2 := Blk.cell (g := gR) hR6 2
      have rf := Blk.free (g := gR) hR6
      simp only [List.getElem?_toArray, List.getElem?_cons_zero, List.getElem?_cons_succ] at r0 r1 r2
      obtain ⟨e0, e1, e2, e3⟩ := HFIN.out w6 FX.1 FX.2.1 FX.2.2 true hR6 (gr_trans hgF hg6)
      go_wp2_with fail
      refine bodyPost_ret (v := .tuple #[.agg #[.string FX.1, .int .i64 FX.2.1, .int .i64 FX.2.2], .bool true]) (by simp [results, Tryz.results22, go_sem, e0, e1, e2]) rfl ?_
      exact ⟨rfl, e3⟩
    ·by_cases k2 : KD = 2
     ·obtain ⟨M, hM⟩ : ∃ M, PRE.size - 1 = M := ⟨_, rfl⟩
      have hpl : plcOf T0 PRE SUF AD 2 = PRE.extract 0 M ++ AD ++ SUF := by unfold plcOf; rw [if_neg (by decide), if_pos rfl, hM]
      have e1 : IntKind.i64.wrap ((PRE.size : Int) - 1) = (M : Int) := by rw [IntKind.wrap_i64]; omega
      have e2 : IntKind.i64.wrap (M : Int) = (M : Int) := by rw [IntKind.wrap_i64]; omega
      have m1 : (M : Int) ≤ (PRE.size : Int) := by omega
      have m2 : M ≤ PRE.size := by omega
      have m0 : (0 : Int) ≤ (M : Int) := by omega
      have hs3 : ¬ 9223372036854775807 < M + AD.size := by omega
      have hs4 : ¬ 9223372036854775807 < M + AD.size + SUF.size := by omega
      have HM := Lib.hid hM
      subst k2
      have HPL := Lib.hid hpl
      clear hpl hM b5 b6 k1
      go_wp2_with fail
      refine wp_region_held_drew (S := fun W => W.cell? ⟨gX, 1, none⟩ = some (.string PRE) ∧ W.cell? ⟨gX, 2, none⟩ = some (.string SUF) ∧ W.cell? ⟨gX, 4, none⟩ = some (.string AD)) (by kernel_rfl) ⟨x1, x2, x4⟩ (fun hHeld => ?_)
      refine wpAnyH_take (i := 0) (v := ?_) rfl (by kernel_rfl) (by kernel_rfl) (by kernel_rfl) (fun _ _ _ h => h) (Or.inl ⟨by kernel_rfl, ?_⟩) hHeld ?_
      rotate_left
      ·intro w hSw
       (try dsimp only at hSw)
       obtain ⟨hS0, hS1, hS2⟩ := hSw
       go_simp
       (try with_reducible rfl)
      change wpAnyH _ _ _ _ _ _ _ (Act.put _ (some 59) _) _
      simp only [Act.put, ssA, ssZ, ssS]
      refine wpAnyH_take (i := 1) (v := ?_) rfl (by kernel_rfl) (by kernel_rfl) (by kernel_rfl) (fun _ _ _ h => h) (Or.inl ⟨by kernel_rfl, ?_⟩) hHeld ?_
      rotate_left
      ·intro w hSw
       (try dsimp only at hSw)
       obtain ⟨hS0, hS1, hS2⟩ := hSw
       go_simp
       (try with_reducible rfl)
      change wpAnyH _ _ _ _ _ _ _ (Act.put _ (some 60) _) _
      simp only [Act.put, ssA, ssZ, ssS]
      refine wpAnyH_take (i := 2) (v := ?_) rfl (by kernel_rfl) (by kernel_rfl) (by kernel_rfl) (fun _ _ _ h => h) (Or.inl ⟨by kernel_rfl, ?_⟩) hHeld ?_
      rotate_left
      ·intro w hSw
       (try dsimp only at hSw)
       obtain ⟨hS0, hS1, hS2⟩ := hSw
       go_simp
       (try with_reducible rfl)
      change wpAnyH _ _ _ _ _ _ _ (Act.put _ (some 61) _) _
      simp only [Act.put, ssA, ssZ, ssS]
      refine wpAnyH_take (i := 3) (v := ?_) rfl (by kernel_rfl) (by kernel_rfl) (by kernel_rfl) (fun _ _ _ h => h) (Or.inl ⟨by kernel_rfl, ?_⟩) hHeld ?_
      rotate_left
      ·intro w hSw
       (try dsimp only at hSw)
       obtain ⟨hS0, hS1, hS2⟩ := hSw
       go_simp
       (try with_reducible rfl)
      change wpAnyH _ _ _ _ _ _ _ (Act.put _ (some 62) _) _
      simp only [Act.put, ssA, ssZ, ssS]
      refine wpAnyH_take (i := 4) (v := ?_) rfl (by kernel_rfl) (by kernel_rfl) (by kernel_rfl) (fun _ _ _ h => h) (Or.inl ⟨by kernel_rfl, ?_⟩) hHeld ?_
      rotate_left
      ·intro w hSw
       (try dsimp only at hSw)
       obtain ⟨hS0, hS1, hS2⟩ := hSw
       go_simp
       (try with_reducible rfl)
      change wpAnyH _ _ _ _ _ _ _ (Act.put _ (some 63) _) _
      simp only [Act.put, ssA, ssZ, ssS]
      refine wpAnyH_take (i := 5) (v := ?_) rfl (by kernel_rfl) (by kernel_rfl) (by kernel_rfl) (fun _ _ _ h => h) (Or.inl ⟨by kernel_rfl, ?_⟩) hHeld ?_
      rotate_left
      ·intro w hSw
       (try dsimp only at hSw)
       obtain ⟨hS0, hS1, hS2⟩ := hSw
       go_simp
       (try with_reducible rfl)
      change wpAnyH _ _ _ _ _ _ _ (Act.put _ (some 64) _) _
      simp only [Act.put, ssA, ssZ, ssS]
      refine wpAnyH_take (i := 6) (v := ?_) rfl (by kernel_rfl) (by kernel_rfl) (by kernel_rfl) (fun _ _ _ h => h) (Or.inl ⟨by kernel_rfl, ?_⟩) hHeld ?_
      rotate_left
      ·intro w hSw
       (try dsimp only at hSw)
       obtain ⟨hS0, hS1, hS2⟩ := hSw
       go_simp
       (try with_reducible rfl)
      change wpAnyH _ _ _ _ _ _ _ (Act.put _ (some 65) _) _
      simp only [Act.put, ssA, ssZ, ssS]
      refine wpAnyH_take (i := 7) (v := ?_) rfl (by kernel_rfl) (by kernel_rfl) (by kernel_rfl) (fun _ _ _ h => h) (Or.inl ⟨by kernel_rfl, ?_⟩) hHeld ?_
      rotate_left
      ·intro w hSw
       (try dsimp only at hSw)
       obtain ⟨hS0, hS1, hS2⟩ := hSw
       go_simp
       (try with_reducible rfl)
      change wpAnyH _ _ _ _ _ _ _ (Act.put _ (some 66) _) _
      simp only [Act.put, ssA, ssZ, ssS]
      refine wpAnyH_take (i := 8) (v := ?_) rfl (by kernel_rfl) (by kernel_rfl) (by kernel_rfl) (fun _ _ _ h => h) (Or.inl ⟨by kernel_rfl, ?_⟩) hHeld ?_
      rotate_left
      ·intro w hSw
       (try dsimp only at hSw)
       obtain ⟨hS0, hS1, hS2⟩ := hSw
       go_simp
       (try with_reducible rfl)
      change wpAnyH _ _ _ _ _ _ _ (Act.put _ (some 67) _) _
      simp only [Act.put, ssA, ssZ, ssS]
      refine wpAnyH_take (i := 9) (v := ?_) rfl (by kernel_rfl) (by kernel_rfl) (by kernel_rfl) (fun _ _ _ h => h) (Or.inl ⟨by kernel_rfl, ?_⟩) hHeld ?_
      rotate_left
      ·intro w hSw
       (try dsimp only at hSw)
       obtain ⟨hS0, hS1, hS2⟩ := hSw
       go_simp
       (try with_reducible rfl)
      change wpAnyH _ _ _ _ _ _ _ (Act.put _ (some 68) _) _
      simp only [Act.put, ssA, ssZ, ssS]
      refine wpAnyH_take (i := 10) (v := ?_) rfl (by kernel_rfl) (by kernel_rfl) (by kernel_rfl) (fun _ _ _ h => h) (Or.inl ⟨by kernel_rfl, ?_⟩) hHeld ?_
      rotate_left
      ·intro w hSw
       (try dsimp only at hSw)
       obtain ⟨hS0, hS1, hS2⟩ := hSw
       go_simp
       (try with_reducible rfl)
      change wpAnyH _ _ _ _ _ _ _ (Act.put _ (some 69) _) _
      simp only [Act.put, ssA, ssZ, ssS]
      refine wpAnyH_take (i := 11) (v := ?_) rfl (by kernel_rfl) (by kernel_rfl) (by kernel_rfl) (fun _ _ _ h => h) (Or.inl ⟨by kernel_rfl, ?_⟩) hHeld ?_
      rotate_left
      ·intro w hSw
       (try dsimp only at hSw)
       obtain ⟨hS0, hS1, hS2⟩ := hSw
       go_simp
       (try with_reducible rfl)
      change wpAnyH _ _ _ _ _ _ _ (Act.put _ (some 70) _) _
      simp only [Act.put, ssA, ssZ, ssS]
      refine wpAnyH_take (i := 12) (v := ?_) rfl (by kernel_rfl) (by kernel_rfl) (by kernel_rfl) (fun _ _ _ h => h) (Or.inl ⟨by kernel_rfl, ?_⟩) hHeld ?_
      rotate_left
      ·intro w hSw
       (try dsimp only at hSw)
       obtain ⟨hS0, hS1, hS2⟩ := hSw
       go_simp
       (try with_reducible rfl)
      change wpAnyH _ _ _ _ _ _ _ (Act.put _ (some 71) _) _
      simp only [Act.put, ssA, ssZ, ssS]
      refine wpAnyH_take (i := 13) (v := ?_) rfl (by kernel_rfl) (by kernel_rfl) (by kernel_rfl) (fun _ _ _ h => h) (Or.inl ⟨by kernel_rfl, ?_⟩) hHeld ?_
      rotate_left
      ·intro w hSw
       (try dsimp only at hSw)
       obtain ⟨hS0, hS1, hS2⟩ := hSw
       go_simp
       (try with_reducible rfl)
      change wpAnyH _ _ _ _ _ _ _ (Act.put _ (some 14) _) _
      simp only [Act.put, ssA, ssZ, ssS]
      refine wpAnyH_done (by kernel_rfl) ?_ _
      go_wp2_with fail
      have hpl := HPL.out
      refine (HLG.out _ _ (gr_drew hg4) hpl).mono ?_
      rintro _ w5 ⟨rfl, hg5⟩
      have hR5 := Blk.grown (w := w4.drew) hR4 hg5 (by simp)
      have hgF := gr_trans ((gr_drew hg4)) hg5
      clear r0 r1 r2 rf
      have r0 := Blk.cell (g := gR) hR5 0
      have r1 := Blk.cell (g := gR) hR5 1
      have r2 := Blk.cell (g := gR) hR5 2
      have rf := Blk.free (g := gR) hR5
      simp only [List.getElem?_toArray, List.getElem?_cons_zero, List.getElem?_cons_succ] at r0 r1 r2
      have HO2 := HOR
      have hbd := lngTo_bd l p (plcOf T0 PRE SUF AD 2) t (-1) p.length
      generalize lngTo l p (plcOf T0 PRE SUF AD 2) t (-1) p.length = LG at *
      by_cases hneg : LG < 0
      ·have hON : O = none := by rw [HO2.out, if_neg HK56.out, if_pos hneg]
       subst hON
       obtain ⟨e0, e1, e2, e3⟩ := HFIN.out w5 ⟨#[]⟩ 0 0 false hR5 hgF
       go_wp2_with fail
       refine bodyPost_ret (v := .tuple #[.agg #[.string ⟨#[]⟩, .int .i64 0, .int .i64 0], .bool false]) (by simp [results, Tryz.results22, go_sem, e0, e1, e2]) rfl ?_
       exact ⟨rfl, e3⟩
      ·obtain ⟨n, rfl⟩ : ∃ n : Nat, LG = n := ⟨LG.toNat, by omega⟩
       have hnl : n < p.length := by omega
       have hOS : O = some (fndX l p[n]) := by rw [HO2.out, if_neg HK56.out, if_neg hneg, Int.toNat_natCast, List.getElem?_eq_getElem hnl]; rfl
       obtain ⟨g, rfl, _, hgl⟩ := HA.out (by omega)
       obtain ⟨q0, q1, q2, q3, q4, q5⟩ := (HP.out.grown hgF).at_ n hnl
       have HLD : Hid (∀ W, w.grownBy W none → Calls Tryz.prog 70 #[u, .agg #[.string p[n].beg, .string p[n].ent, .int .i64 p[n].a, .int .i64 p[n].z, .bool p[n].whole, .int .i64 p[n].zone]] W fun r w' => r = .returned (.agg #[.string (fndX l p[n]).1, .int .i64 (fndX l p[n]).2.1, .int .i64 (fndX l p[n]).2.2]) ∧ W.grownBy w' none) := fun W hW => leads_any base u l p[n].beg p[n].ent p[n].a p[n].z p[n].zone p[n].whole W (HL.out.grown hW) hbig
       have HOS := Lib.hid hOS
       clear hOS
       have n1 : (n : Int) < (p.length : Int) := by omega
       have n0 : (0 : Int) ≤ (n : Int) := by omega
       generalize fndX l p[n] = FX at *
       have hOS2 := HOS.out
       subst hOS2
       generalize p[n].beg = B at *
       generalize p[n].ent = N at *
       generalize p[n].a = xa at *
       generalize p[n].z = xz at *
       generalize p[n].whole = H at *
       generalize p[n].zone = Z at *
       go_wp2_with fail
       refine (HLD.out _ hgF).mono ?_
       rintro _ w6 ⟨rfl, hg6⟩
       have hR6 := Blk.grown (g := gR) hR5 hg6 (by simp)
       clear r0 r1 r2 rf
       have r0 := Blk.cell (g := gR) hR6 0
       have r1 := Blk.cell (g := gR) hR6 1
       have r2 := Blk.cell (g := gR) hR6 2
       have rf := Blk.free (g := gR) hR6
       simp only [List.getElem?_toArray, List.getElem?_cons_zero, List.getElem?_cons_succ] at r0 r1 r2
       obtain ⟨e0, e1, e2, e3⟩ := HFIN.out w6 FX.1 FX.2.1 FX.2.2 true hR6 (gr_trans hgF hg6)
       go_wp2_with fail
       refine bodyPost_ret (v := .tuple #[.agg #[.string FX.1, .int .i64 FX.2.1, .int .i64 FX.2.2], .bool true]) (by simp [results, Tryz.results22, go_sem, e0, e1, e2]) rfl ?_
       exact ⟨rfl, e3⟩
     ·have hpl : plcOf T0 PRE SUF AD KD = T0 := by unfold plcOf; rw [if_neg k1, if_neg k2]
      have b1 : (KD == 1) = false := by simpa using k1
      have b2 : (KD == 2) = false := by simpa using k2
      have HPL := Lib.hid hpl
      clear hpl k1 k2
      go_wp2_with fail
      have hpl := HPL.out
      refine (HLG.out _ _ hg4 hpl).mono ?_
      rintro _ w5 ⟨rfl, hg5⟩
      have hR5 := Blk.grown (w := w4) hR4 hg5 (by simp)
      have hgF := gr_trans (hg4) hg5
      clear r0 r1 r2 rf
      have r0 := Blk.cell (g := gR) hR5 0
      have r1 := Blk.cell (g := gR) hR5 1
      have r2 := Blk.cell (g := gR) hR5 2
      have rf := Blk.free (g := gR) hR5
      simp only [List.getElem?_toArray, List.getElem?_cons_zero, List.getElem?_cons_succ] at r0 r1 r2
      have HO2 := HOR
      have hbd := lngTo_bd l p (plcOf T0 PRE SUF AD KD) t (-1) p.length
      generalize lngTo l p (plcOf T0 PRE SUF AD KD) t (-1) p.length = LG at *
      by_cases hneg : LG < 0
      ·have hON : O = none := by rw [HO2.out, if_neg HK56.out, if_pos hneg]
       subst hON
       obtain ⟨e0, e1, e2, e3⟩ := HFIN.out w5 ⟨#[]⟩ 0 0 false hR5 hgF
       go_wp2_with fail
       refine bodyPost_ret (v := .tuple #[.agg #[.string ⟨#[]⟩, .int .i64 0, .int .i64 0], .bool false]) (by simp [results, Tryz.results22, go_sem, e0, e1, e2]) rfl ?_
       exact ⟨rfl, e3⟩
      ·obtain ⟨n, rfl⟩ : ∃ n : Nat, LG = n := ⟨LG.toNat, by omega⟩
       have hnl : n < p.length := by omega
       have hOS : O = some (fndX l p[n]) := by rw [HO2.out, if_neg HK56.out, if_neg hneg, Int.toNat_natCast, List.getElem?_eq_getElem hnl]; rfl
       obtain ⟨g, rfl, _, hgl⟩ := HA.out (by omega)
       obtain ⟨q0, q1, q2, q3, q4, q5⟩ := (HP.out.grown hgF).at_ n hnl
       have HLD : Hid (∀ W, w.grownBy W none → Calls Tryz.prog 70 #[u, .agg #[.string p[n].beg, .string p[n].ent, .int .i64 p[n].a, .int .i64 p[n].z, .bool p[n].whole, .int .i64 p[n].zone]] W fun r w' => r = .returned (.agg #[.string (fndX l p[n]).1, .int .i64 (fndX l p[n]).2.1, .int .i64 (fndX l p[n]).2.2]) ∧ W.grownBy w' none) := fun W hW => leads_any base u l p[n].beg p[n].ent p[n].a p[n].z p[n].zone p[n].whole W (HL.out.grown hW) hbig
       have HOS := Lib.hid hOS
       clear hOS
       have n1 : (n : Int) < (p.length : Int) := by omega
       have n0 : (0 : Int) ≤ (n : Int) := by omega
       generalize fndX l p[n] = FX at *
       have hOS2 := HOS.out
       subst hOS2
       generalize p[n].beg = B at *
       generalize p[n].ent = N at *
       generalize p[n].a = xa at *
       generalize p[n].z = xz at *
       generalize p[n].whole = H at *
       generalize p[n].zone = Z at *
       go_wp2_with fail
       refine (HLD.out _ hgF).mono ?_
       rintro _ w6 ⟨rfl, hg6⟩
       have hR6 := Blk.grown (g := gR) hR5 hg6 (by simp)
       clear r0 r1 r2 rf
       have r0 := Blk.cell (g := gR) hR6 0
       have r1 := Blk.cell (g := gR) hR6 1
       have r2 := Blk.cell (g := gR) hR6 2
       have rf := Blk.free (g := gR) hR6
       simp only [List.getElem?_toArray, List.getElem?_cons_zero, List.getElem?_cons_succ] at r0 r1 r2
       obtain ⟨e0, e1, e2, e3⟩ := HFIN.out w6 FX.1 FX.2.1 FX.2.2 true hR6 (gr_trans hgF hg6)
       go_wp2_with fail
       refine bodyPost_ret (v := .tuple #[.agg #[.string FX.1, .int .i64 FX.2.1, .int .i64 FX.2.2], .bool true]) (by simp [results, Tryz.results22, go_sem, e0, e1, e2]) rfl ?_
       exact ⟨rfl, e3⟩
end Go.Proofs.YtbpkfkbbkgdlaaaGreatDoor

namespace Go.Proofs.YtbpkfkbbkgdlaaaGreatDoor
open Go.RowKit
set_option linter.unusedVariables false
set_option linter.unusedSimpArgs false

theorem TabRight.size {l : List Ent} {p : List Pfx} (h : TabRight l p) : ∀ x ∈ p, x.whole = false → 1 ≤ x.beg.size ∧ x.beg.size ≤ 4 := fun x hx hw => form_size (h.pfx x hx).form hw
theorem entD_key {l : List Ent} {s : ByteArray} (h : (entOf l s).isSome = true) : (entD l s).key = s := by
 obtain ⟨e, he⟩ := Option.isSome_iff_exists.1 h
 unfold entD
 rw [he]
 exact (entOf_mem he).2
theorem find_first {α : Type} (f : α → Bool) : ∀ (l : List α) (i : Nat) (h : i < l.length), f l[i] = true → (∀ j (hj : j < l.length), f l[j] = true → i ≤ j) → l.find? f = some l[i]
 | a :: r, 0, h, hf, _ => by rw [List.find?_cons]; simp at hf; simp [hf]
 | a :: r, i + 1, h, hf, hm => by
   have h0 : f a = false := by
    cases hc : f a with
    | false => rfl
    | true => have := hm 0 (by simp) (by simpa using hc); omega
   rw [List.find?_cons, h0]
   simp only [List.getElem_cons_succ]
   exact find_first f r i (by simpa using h) (by simpa using hf) (fun j hj hfj => by have := hm (j + 1) (by simpa using hj) (by simpa using hfj); omega)
theorem whl_idx (l : List Ent) (p : List Pfx) (s : ByteArray) (t : Int) : (cntI l p t (idxL p true s) < 0 ∧ whlOf l p s t = none) ∨ ∃ (i : Nat) (h : i < p.length), cntI l p t (idxL p true s) = i ∧ whlOf l p s t = some p[i] := by
 have hw : ∀ j (h : j < p.length), whlB l s t p[j] = true ↔ j ∈ idxL p true s ∧ cntB l p[j] t = true := fun j h => by
  unfold whlB
  rw [idxL_mem]
  constructor
  ·intro h1
   simp only [Bool.and_eq_true, decide_eq_true_eq] at h1
   exact ⟨⟨h, h1.1, h1.2.1⟩, h1.2.2⟩
  ·rintro ⟨⟨_, h1, h2⟩, h3⟩
   simp [h1, h2, h3]
 rcases cntI_spec l p t (idxL p true s) (idxL_sorted _ _ _) (fun j hj => (idxL_mem.1 hj).1) with ⟨h1, h2⟩ | ⟨i, hi, hil, h1, h2, h3⟩
 ·refine .inl ⟨by omega, ?_⟩
  unfold whlOf
  rw [List.find?_eq_none]
  intro x hx hc
  obtain ⟨j, hj, rfl⟩ := List.mem_iff_getElem.1 hx
  obtain ⟨q1, q2⟩ := (hw j hj).1 hc
  have := h2 j q1 hj
  rw [q2] at this
  cases this
 ·refine .inr ⟨i, hil, h1, ?_⟩
  unfold whlOf
  exact find_first _ p i hil ((hw i hil).2 ⟨hi, h2⟩) (fun j hj hc => by
   obtain ⟨q1, q2⟩ := (hw j hj).1 hc
   exact h3 j q1 ⟨hj, q2⟩)
theorem foundX_ok (base gT : Nat) (u v : Value) (l : List Ent) (p : List Pfx) (k : Nat) (w : World) (hT : TabAt base gT u v l p w) (hO : TabOk l p) (hlt : k < p.length) :
 Calls Tryz.prog 103 #[.pointer (some ⟨gT, 0, none⟩), .int .i64 k] w fun r w' => r = .returned (.agg #[.string (fndX l p[k]).1, .int .i64 (fndX l p[k]).2.1, .int .i64 (fndX l p[k]).2.2]) ∧ w.grownBy w' none :=
 (found_ok base gT u v l p k w hT hO hlt).mono fun r w' ⟨h1, h2⟩ => ⟨by
  rw [h1]
  show _ = Ending.returned (.agg #[.string (entD l p[k].ent).key, .int .i64 (entD l p[k].ent).cont, .int .i64 (fndZ l p[k])])
  rw [entD_key (hO.has _ (List.getElem_mem hlt))], h2⟩
set_option maxRecDepth 100000 in
set_option maxHeartbeats 16000000 in
theorem find_ok (base base2 gT bB bW : Nat) (u v : Value) (l : List Ent) (p : List Pfx) (s : ByteArray) (t : Int) (q : ByteArray × Nat × Int × ByteArray) (w : World) (hT : TabFull base base2 gT bB bW u v l p w) (hRt : TabRight l p) (hs : s.size ≤ 1000) (ha : Ascii s) (hq : partsOf s = some q) :
 Calls Tryz.prog 57 #[.pointer (some ⟨gT, 0, none⟩), .string s, .int .i64 t] w fun r w' => FndRet (fndOf l p s t q) r ∧ w.grownBy w' none := by
 have hqs := parts_size hq
 have hR := Blk.new w 38 #[.string ⟨#[]⟩, .int .i64 0, .int .i64 0]
 have hg0 := World.grownBy_alloc w (.cells #[.string ⟨#[]⟩, .int .i64 0, .int .i64 0] 38) none
 have HT := Lib.hid hT
 have hO := hRt.ok
 obtain ⟨O, hOO⟩ : ∃ O, fndOf l p s t q = O := ⟨_, rfl⟩
 rw [hOO]
 have HO := Lib.hid hOO
 obtain ⟨gR, hgR⟩ : ∃ x, w.heap.size = x := ⟨_, rfl⟩
 have HgR := Lib.hid hgR
 rw [hgR] at hR
 have HFIN : Hid (∀ (W : World) (K : ByteArray) (C Z : Int) (F : Bool), Blk W gR 38 #[.string ⟨#[]⟩, .int .i64 0, .int .i64 0] → w.grownBy W none →
  (((W.setCell ⟨gR, 0, none⟩ (.string K)).setCell ⟨gR, 1, none⟩ (.int .i64 C)).setCell ⟨gR, 2, none⟩ (.int .i64 Z)).cell? ⟨gR, 0, none⟩ = some (.string K) ∧ (((W.setCell ⟨gR, 0, none⟩ (.string K)).setCell ⟨gR, 1, none⟩ (.int .i64 C)).setCell ⟨gR, 2, none⟩ (.int .i64 Z)).cell? ⟨gR, 1, none⟩ = some (.int .i64 C) ∧ (((W.setCell ⟨gR, 0, none⟩ (.string K)).setCell ⟨gR, 1, none⟩ (.int .i64 C)).setCell ⟨gR, 2, none⟩ (.int .i64 Z)).cell? ⟨gR, 2, none⟩ = some (.int .i64 Z) ∧ w.grownBy (((W.setCell ⟨gR, 0, none⟩ (.string K)).setCell ⟨gR, 1, none⟩ (.int .i64 C)).setCell ⟨gR, 2, none⟩ (.int .i64 Z)) none) := fun W K C Z F hW hgW => by
  have hf := ((Blk.put hW 0 (.string K)).put 1 (.int .i64 C)).put 2 (.int .i64 Z)
  simp only [List.setIfInBounds_toArray, List.set_cons_zero, List.set_cons_succ] at hf
  have hle : w.heap.size ≤ gR := by omega
  exact ⟨hf.cell 0, hf.cell 1, hf.cell 2, gr_put (p := ⟨gR, 2, none⟩) (gr_put (p := ⟨gR, 1, none⟩) (gr_put (p := ⟨gR, 0, none⟩) hgW (.inr hle) (.string K)) (.inr hle) (.int .i64 C)) (.inr hle) (.int .i64 Z)⟩
 have HLD : Hid (∀ (n : Nat) (hn : n < p.length) W, w.grownBy W none → Calls Tryz.prog 103 #[.pointer (some ⟨gT, 0, none⟩), .int .i64 n] W fun r w' => r = .returned (.agg #[.string (fndX l p[n]).1, .int .i64 (fndX l p[n]).2.1, .int .i64 (fndX l p[n]).2.2]) ∧ W.grownBy w' none) := fun n hn W hW => foundX_ok base gT u v l p n W (hT.at_.grown hW) hO hn
 have HCN : Hid (∀ W, w.grownBy W none → ∀ uj, IntsFrom base2 W uj (natI (idxL p true s)) → Calls Tryz.prog 102 #[.pointer (some ⟨gT, 0, none⟩), uj, .int .i64 t] W fun r w' => r = .returned (.int .i64 (cntI l p t (idxL p true s))) ∧ W.grownBy w' none) := fun W hW uj hi => counting_ok base base2 gT u v uj l p _ t W (hT.at_.grown hW) hO hi (fun j hj => (idxL_mem.1 hj).1)
 obtain ⟨nW, hmW⟩ := hT.mW
 obtain ⟨uj, hju, _, hlk⟩ := hmW.look2 s (by omega)
 have hlk1 := hlk _ none hg0 (by simp)
 have HJU := Lib.hid (IntsFrom.grown hju hg0)
 have cW := hg0.cell hT.cW (by simp)
 have hwi := whl_idx l p s t
 obtain ⟨C0, hC0⟩ : ∃ x, cntI l p t (idxL p true s) = x := ⟨_, rfl⟩
 rw [hC0] at hwi HCN
 have HWI := Lib.hid hwi
 have HAS := Lib.hid ha
 have HQ := Lib.hid hq
 have HRT := Lib.hid hRt
 clear hT hOO hgR hlk hmW hju hwi hC0 hq ha hRt hO
 go_enter Tryz.func57, Tryz.ntmps57
 go_upto_region 1 with fail
 generalize w.alloc (.cells #[.string ⟨#[]⟩, .int .i64 0, .int .i64 0] 38) = w1 at *
 rw [HgR.out]
 go_wp2_with fail
 refine (HCN.out _ hg0 _ HJU.out).mono ?_
 rintro _ w2 ⟨rfl, hg2⟩
 have hgw := gr_trans hg0 hg2
 have hRr := hR.grown hg2 (by simp)
 clear hlk1 cW hR hg0
 rcases HWI.out with ⟨hneg, hwn⟩ | ⟨i, hil, rfl, hws⟩
 ·have hneg2 : ¬ (0 : Int) ≤ C0 := by omega
  have hor : O = restOf l p t q := by rw [← HO.out]; unfold fndOf; rw [hwn]
  obtain ⟨T0, kk, KD, AD⟩ := q
  obtain ⟨z1, z2, z3⟩ := hqs
  simp only at z1 z2 z3
  have hPA : ∀ W, Calls Tryz.prog 62 #[.string s] W fun r w' => r = .returned (.tuple #[.agg #[.string T0, .string (T0.extract 0 (kk + 1)), .string (T0.extract (kk + 1) T0.size), .int .i64 KD, .string AD], .bool true]) ∧ W.grownBy w' none := fun W => (parts_any s W (by omega) HAS.out).mono fun r w' ⟨h1, h2⟩ => by
   rcases h2 with ⟨h3, _⟩ | ⟨t', k', kd', ad', h3, h4⟩
   ·rw [HQ.out] at h3; simp at h3
   ·rw [HQ.out] at h3
    simp only [Option.some.injEq, Prod.mk.injEq] at h3
    obtain ⟨rfl, rfl, rfl, rfl⟩ := h3
    exact ⟨h4, h1⟩
  unfold restOf at hor
  simp only at hor
  rw [lngTo_P l p t (-1) _ HRT.out.size] at hor
  rw [show (fun j : Nat => decide ((j : Int) = -1)) = fun _ => false from funext fun j => by rw [decide_eq_false_iff_not]; omega] at hor
  have y1 : (T0.extract 0 (kk + 1)).size ≤ 100 ∧ 1 ≤ (T0.extract 0 (kk + 1)).size := by rw [ByteArray.size_extract]; omega
  have y2 : (T0.extract (kk + 1) T0.size).size ≤ 100 := by rw [ByteArray.size_extract]; omega
  have hLN : ∀ W, w.grownBy W none → Calls Tryz.prog 104 #[.pointer (some ⟨gT, 0, none⟩), .string (plcOf T0 (T0.extract 0 (kk + 1)) (T0.extract (kk + 1) T0.size) AD KD), .int .i64 t, .nilFunc] W fun r w' => r = .returned (.int .i64 (lngP l p t (plcOf T0 (T0.extract 0 (kk + 1)) (T0.extract (kk + 1) T0.size) AD KD) fun _ => false)) ∧ W.grownBy w' none := fun W hW =>
   longest_nil base base2 gT bB bW u v l p _ t W (HT.out.grown hW) HRT.out.ok (by
    unfold plcOf
    split
    ·omega
    ·split
     ·rw [ByteArray.size_append, ByteArray.size_append, ByteArray.size_extract]; omega
     ·omega)
  have hbd := lngTo_bd l p (plcOf T0 (T0.extract 0 (kk + 1)) (T0.extract (kk + 1) T0.size) AD KD) t (-1) p.length
  rw [lngTo_P l p t (-1) _ HRT.out.size, show (fun j : Nat => decide ((j : Int) = -1)) = fun _ => false from funext fun j => by rw [decide_eq_false_iff_not]; omega] at hbd
  have HPO : Hid (∀ W, Calls Tryz.prog 66 #[.agg #[.string T0, .string (T0.extract 0 (kk + 1)), .string (T0.extract (kk + 1) T0.size), .int .i64 KD, .string AD]] W fun r w' => r = .returned (.string (plcOf T0 (T0.extract 0 (kk + 1)) (T0.extract (kk + 1) T0.size) AD KD)) ∧ W.grownBy w' none) := fun W => placeOf_any T0 _ _ AD KD W y1.1 y2 z2 y1.2
  generalize plcOf T0 (T0.extract 0 (kk + 1)) (T0.extract (kk + 1) T0.size) AD KD = PL at *
  generalize lngP l p t PL (fun _ => false) = LG at *
  generalize T0.extract 0 (kk + 1) = PRE at *
  generalize T0.extract (kk + 1) T0.size = SUF at *
  have HPA := Lib.hid hPA
  have HOR := Lib.hid hor
  have HLN := Lib.hid hLN
  have HBD := Lib.hid hbd
  clear hPA hor hLN hwn hneg hbd y1 y2
  go_wp2_with fail
  refine (HPA.out _).mono ?_
  rintro _ w3 ⟨rfl, hg3⟩
  have hX := Blk.new w3 105 #[.string T0, .string PRE, .string SUF, .int .i64 KD, .string AD]
  have hR4 := (Blk.grown hRr hg3 (by simp)).alloc (.cells #[.string T0, .string PRE, .string SUF, .int .i64 KD, .string AD] 105)
  have hg4 := gr_alloc (gr_trans hgw hg3) (.cells #[.string T0, .string PRE, .string SUF, .int .i64 KD, .string AD] 105)
  go_upto_region 5 with fail
  generalize w3.alloc (.cells #[.string T0, .string PRE, .string SUF, .int .i64 KD, .string AD] 105) = w4 at *
  generalize w3.heap.size = gX at *
  have x0 := Blk.cell hX 0
  have x1 := Blk.cell hX 1
  have x2 := Blk.cell hX 2
  have x3 := Blk.cell hX 3
  have x4 := Blk.cell hX 4
  have r0 := Blk.cell hR4 0
  have r1 := Blk.cell hR4 1
  have r2 := Blk.cell hR4 2
  have rf := Blk.free hR4
  simp only [List.getElem?_toArray, List.getElem?_cons_zero, List.getElem?_cons_succ] at x0 x1 x2 x3 x4 r0 r1 r2
  by_cases hk56 : KD = 5 ∨ KD = 6
  ·have hON : O = none := by rw [HOR.out, if_pos hk56]
   subst hON
   obtain ⟨e0, e1, e2, e3⟩ := HFIN.out w4 ⟨#[]⟩ 0 0 false hR4 hg4
   rcases hk56 with rfl | rfl
   ·go_wp2_with fail
    refine bodyPost_ret (v := .tuple #[.agg #[.string ⟨#[]⟩, .int .i64 0, .int .i64 0], .bool false]) (by simp [results, Tryz.results57, go_sem, e0, e1, e2]) rfl ?_
    exact ⟨rfl, e3⟩
   ·go_wp2_with fail
    refine bodyPost_ret (v := .tuple #[.agg #[.string ⟨#[]⟩, .int .i64 0, .int .i64 0], .bool false]) (by simp [results, Tryz.results57, go_sem, e0, e1, e2]) rfl ?_
    exact ⟨rfl, e3⟩
  ·have HK56 := Lib.hid hk56
   have b5 : (KD == 5) = false := by simp; omega
   have b6 : (KD == 6) = false := by simp; omega
   clear hk56
   go_wp2_with fail
   refine (HPO.out _).mono ?_
   rintro _ w5 ⟨rfl, hg5⟩
   have hR5 := Blk.grown (w := w4) hR4 hg5 (by simp)
   have hg45 := gr_trans hg4 hg5
   go_wp2_with fail
   refine (HLN.out _ hg45).mono ?_
   rintro _ w6 ⟨rfl, hg6⟩
   have hR6 := Blk.grown (g := gR) hR5 hg6 (by simp)
   have hgF := gr_trans hg45 hg6
   clear r0 r1 r2 rf x0 x1 x2 x3 x4 b5 b6
   have r0 := Blk.cell (g := gR) hR6 0
   have r1 := Blk.cell (g := gR) hR6 1
   have r2 := Blk.cell (g := gR) hR6 2
   have rf := Blk.free (g := gR) hR6
   simp only [List.getElem?_toArray, List.getElem?_cons_zero, List.getElem?_cons_succ] at r0 r1 r2
   by_cases hneg : LG < 0
   ·have hON : O = none := by rw [HOR.out, if_neg HK56.out, if_pos hneg]
    subst hON
    obtain ⟨e0, e1, e2, e3⟩ := HFIN.out w6 ⟨#[]⟩ 0 0 false hR6 hgF
    go_wp2_with fail
    refine bodyPost_ret (v := .tuple #[.agg #[.string ⟨#[]⟩, .int .i64 0, .int .i64 0], .bool false]) (by simp [results, Tryz.results57, go_sem, e0, e1, e2]) rfl ?_
    exact ⟨rfl, e3⟩
   ·obtain ⟨n, rfl⟩ : ∃ n : Nat, LG = n := ⟨LG.toNat, by have := HBD.out; omega⟩
    have hnl : n < p.length := by have := HBD.out.2; omega
    have hOS : O = some (fndX l p[n]) := by rw [HOR.out, if_neg HK56.out, if_neg hneg, Int.toNat_natCast, List.getElem?_eq_getElem hnl]; rfl
    have HLD1 := Lib.hid (HLD.out n hnl)
    have HOS := Lib.hid hOS
    clear hOS
    generalize fndX l p[n] = FX at *
    have hOS2 := HOS.out
    subst hOS2
    go_wp2_with fail
    refine (HLD1.out _ hgF).mono ?_
    rintro _ w7 ⟨rfl, hg7⟩
    have hR7 := Blk.grown (g := gR) hR6 hg7 (by simp)
    clear r0 r1 r2 rf
    have r0 := Blk.cell (g := gR) hR7 0
    have r1 := Blk.cell (g := gR) hR7 1
    have r2 := Blk.cell (g := gR) hR7 2
    have rf := Blk.free (g := gR) hR7
    simp only [List.getElem?_toArray, List.getElem?_cons_zero, List.getElem?_cons_succ] at r0 r1 r2
    obtain ⟨e0, e1, e2, e3⟩ := HFIN.out w7 FX.1 FX.2.1 FX.2.2 true hR7 (gr_trans hgF hg7)
    go_wp2_with fail
    refine bodyPost_ret (v := .tuple #[.agg #[.string FX.1, .int .i64 FX.2.1, .int .i64 FX.2.2], .bool true]) (by simp [results, Tryz.results57, go_sem, e0, e1, e2]) rfl ?_
    exact ⟨rfl, e3⟩
 ·have hOS : O = some (fndX l p[i]) := by rw [← HO.out]; unfold fndOf; rw [hws]
  have HLD1 := Lib.hid (HLD.out i hil)
  have HOS := Lib.hid hOS
  have hi0 : (0 : Int) ≤ (i : Int) := by omega
  clear hOS hws
  generalize fndX l p[i] = FX at *
  have hOS2 := HOS.out
  subst hOS2
  go_wp2_with fail
  refine (HLD1.out _ hgw).mono ?_
  rintro _ w7 ⟨rfl, hg7⟩
  have hR7 := Blk.grown (g := gR) hRr hg7 (by simp)
  have r0 := Blk.cell (g := gR) hR7 0
  have r1 := Blk.cell (g := gR) hR7 1
  have r2 := Blk.cell (g := gR) hR7 2
  have rf := Blk.free (g := gR) hR7
  simp only [List.getElem?_toArray, List.getElem?_cons_zero, List.getElem?_cons_succ] at r0 r1 r2
  obtain ⟨e0, e1, e2, e3⟩ := HFIN.out w7 FX.1 FX.2.1 FX.2.2 true hR7 (gr_trans hgw hg7)
  go_wp2_with fail
  refine bodyPost_ret (v := .tuple #[.agg #[.string FX.1, .int .i64 FX.2.1, .int .i64 FX.2.2], .bool true]) (by simp [results, Tryz.results57, go_sem, e0, e1, e2]) rfl ?_
  exact ⟨rfl, e3⟩
end Go.Proofs.YtbpkfkbbkgdlaaaGreatDoor

namespace Go.Proofs.YtbpkfkbbkgdlaaaGreatDoor
open Go.RowKit
set_option linter.unusedVariables false
set_option linter.unusedSimpArgs false

theorem TabRight.beg {l : List Ent} {p : List Pfx} (h : TabRight l p) : ∀ x ∈ p, x.beg.size ≤ 14 := fun x hx => by
 cases hw : x.whole with
 | false => have := h.size x hx hw; omega
 | true =>
   have hf := (h.pfx x hx).form
   unfold formB at hf
   rw [hw] at hf
   simp only [if_true, Bool.not_eq_false'] at hf
   by_cases h1 : 14 < x.beg.size
   ·unfold partsOf at hf
    rw [if_pos h1] at hf
    simp at hf
   ·omega
def ofE (l : List Ent) (p : List Pfx) (s : ByteArray) (t : Int) : Int := if tabE l p ≠ 0 then tabE l p else if isCall s = false then 3 else momE t
def OfPost (l : List Ent) (p : List Pfx) (s : ByteArray) (t : Int) (w : World) (r : Ending) (w' : World) : Prop :=
 ∃ O : Option Fnd, r = .returned (.tuple #[.agg #[.string (O.getD fndZ0).1, .int .i64 (O.getD fndZ0).2.1, .int .i64 (O.getD fndZ0).2.2], .bool O.isSome, .int .i64 (ofE l p s t)]) ∧ (ofE l p s t ≠ 0 → O = none) ∧ (ofE l p s t = 0 → tabE l p = 0 ∧ ∀ q, partsOf s = some q → O = fndOf l p s t q) ∧ w.grownBy w' none
theorem tableOf_right (base : Nat) (u v : Value) (l : List Ent) (p : List Pfx) (w : World) (hu : EntsFrom base w u l) (hv : PfxsFrom base w v p) (hR : TabRight l p) :
 Calls Tryz.prog 56 #[u, v] w (TabPost base u v l p w) := tableOf_ok base u v l p w hu hv hR.ok.len hR.beg
set_option maxRecDepth 100000 in
set_option maxHeartbeats 4000000 in
theorem of_any (base : Nat) (u v : Value) (l : List Ent) (p : List Pfx) (s : ByteArray) (t : Int) (w : World) (hu : EntsFrom base w u l) (hsl : ∀ e ∈ l, EntSm e) (hv : PfxsFrom base w v p) (hsm : ∀ x ∈ p, PfxSm x) (hs : s.size ≤ 1000) (ha : Ascii s) :
 Calls Tryz.prog 15 #[u, v, .string s, .int .i64 t] w (OfPost l p s t w) := by
 have hR := Blk.new w 38 #[.string ⟨#[]⟩, .int .i64 0, .int .i64 0]
 have hg0 := World.grownBy_alloc w (.cells #[.string ⟨#[]⟩, .int .i64 0, .int .i64 0] 38) none
 have HU := Lib.hid hu
 have HV := Lib.hid hv
 have HCT : Hid (∀ W, w.grownBy W none → Calls Tryz.prog 14 #[u, v] W fun r w' => r = .returned (.int .i64 (tabE l p)) ∧ W.grownBy w' none) := fun W hW => checkTable_any base u v l p W (hu.grown hW) hsl (hv.grown hW) hsm
 have HIC : Hid (∀ W, Calls Tryz.prog 36 #[.string s] W fun e w' => e = .returned (.bool (isCall s)) ∧ W.grownBy w' none) := fun W => isCall_any s W (by omega) ha
 obtain ⟨gR, hgR⟩ : ∃ x, w.heap.size = x := ⟨_, rfl⟩
 have HgR := Lib.hid hgR
 rw [hgR] at hR
 have HFIN : Hid (∀ (W : World) (K : ByteArray) (C Z : Int) (F : Bool), Blk W gR 38 #[.string ⟨#[]⟩, .int .i64 0, .int .i64 0] → w.grownBy W none →
  (((W.setCell ⟨gR, 0, none⟩ (.string K)).setCell ⟨gR, 1, none⟩ (.int .i64 C)).setCell ⟨gR, 2, none⟩ (.int .i64 Z)).cell? ⟨gR, 0, none⟩ = some (.string K) ∧ (((W.setCell ⟨gR, 0, none⟩ (.string K)).setCell ⟨gR, 1, none⟩ (.int .i64 C)).setCell ⟨gR, 2, none⟩ (.int .i64 Z)).cell? ⟨gR, 1, none⟩ = some (.int .i64 C) ∧ (((W.setCell ⟨gR, 0, none⟩ (.string K)).setCell ⟨gR, 1, none⟩ (.int .i64 C)).setCell ⟨gR, 2, none⟩ (.int .i64 Z)).cell? ⟨gR, 2, none⟩ = some (.int .i64 Z) ∧ w.grownBy (((W.setCell ⟨gR, 0, none⟩ (.string K)).setCell ⟨gR, 1, none⟩ (.int .i64 C)).setCell ⟨gR, 2, none⟩ (.int .i64 Z)) none) := fun W K C Z F hW hgW => by
  have hf := ((Blk.put hW 0 (.string K)).put 1 (.int .i64 C)).put 2 (.int .i64 Z)
  simp only [List.setIfInBounds_toArray, List.set_cons_zero, List.set_cons_succ] at hf
  have hle : w.heap.size ≤ gR := by omega
  exact ⟨hf.cell 0, hf.cell 1, hf.cell 2, gr_put (p := ⟨gR, 2, none⟩) (gr_put (p := ⟨gR, 1, none⟩) (gr_put (p := ⟨gR, 0, none⟩) hgW (.inr hle) (.string K)) (.inr hle) (.int .i64 C)) (.inr hle) (.int .i64 Z)⟩
 obtain ⟨E, hE⟩ : ∃ E, tabE l p = E := ⟨_, rfl⟩
 have HE := Lib.hid hE
 rw [hE] at HCT
 have HAS := Lib.hid ha
 clear hu hv hgR hE ha
 go_enter Tryz.func15, Tryz.ntmps15
 go_upto_region 1 with fail
 generalize w.alloc (.cells #[.string ⟨#[]⟩, .int .i64 0, .int .i64 0] 38) = w1 at *
 rw [HgR.out]
 go_wp2_with fail
 refine (HCT.out _ hg0).mono ?_
 rintro _ w2 ⟨rfl, hg2⟩
 have hgw := gr_trans hg0 hg2
 have hR2 := hR.grown hg2 (by simp)
 clear hR hg0 hg2
 have r0 := Blk.cell (g := gR) hR2 0
 have r1 := Blk.cell (g := gR) hR2 1
 have r2 := Blk.cell (g := gR) hR2 2
 have rf := Blk.free (g := gR) hR2
 simp only [List.getElem?_toArray, List.getElem?_cons_zero, List.getElem?_cons_succ] at r0 r1 r2
 by_cases hE0 : E = 0
 ·subst hE0
  clear r0 r1 r2 rf
  go_wp2_with fail
  refine (HIC.out _).mono ?_
  rintro _ w3 ⟨rfl, hg3⟩
  have hR3 := Blk.grown (g := gR) hR2 hg3 (by simp)
  have hgw3 := gr_trans hgw hg3
  have r0 := Blk.cell (g := gR) hR3 0
  have r1 := Blk.cell (g := gR) hR3 1
  have r2 := Blk.cell (g := gR) hR3 2
  have rf := Blk.free (g := gR) hR3
  simp only [List.getElem?_toArray, List.getElem?_cons_zero, List.getElem?_cons_succ] at r0 r1 r2
  cases hic : isCall s
  ·have HOE : Hid (ofE l p s t = 3) := by show _ = _; unfold ofE; rw [HE.out, hic]; simp
   obtain ⟨e0, e1, e2, e3⟩ := HFIN.out w3 ⟨#[]⟩ 0 0 false hR3 hgw3
   clear hic
   go_wp2_with fail
   refine bodyPost_ret (v := .tuple #[.agg #[.string ⟨#[]⟩, .int .i64 0, .int .i64 0], .bool false, .int .i64 3]) (by simp [results, Tryz.results15, go_sem, e0, e1, e2]) rfl ?_
   exact ⟨none, by rw [HOE.out]; rfl, fun _ => rfl, fun h => by rw [HOE.out] at h; simp at h, e3⟩
  ·have HIS := Lib.hid hic
   clear hic
   go_wp2_with fail
   refine (isMoment_any t _).mono ?_
   rintro _ _ ⟨rfl, rfl⟩
   rcases spanE_cases t 0 345686399999 with ⟨hm, m0, m1⟩ | ⟨hm, m0⟩
   ·rw [outB_no m0 m1]
    have HOE : Hid (ofE l p s t = 0) := by show _ = _; unfold ofE; rw [HE.out, HIS.out]; simp [momE, hm]
    have hRT := tabE_ok HE.out
    obtain ⟨q, hq⟩ := Option.isSome_iff_exists.1 (show (partsOf s).isSome = true from HIS.out)
    obtain ⟨O, hO⟩ : ∃ O, fndOf l p s t q = O := ⟨_, rfl⟩
    have HFD : Hid (∀ base2 gT bB bW W, TabFull base base2 gT bB bW u v l p W → Calls Tryz.prog 57 #[.pointer (some ⟨gT, 0, none⟩), .string s, .int .i64 t] W fun r w' => r = .returned (.tuple #[.agg #[.string (O.getD fndZ0).1, .int .i64 (O.getD fndZ0).2.1, .int .i64 (O.getD fndZ0).2.2], .bool O.isSome]) ∧ W.grownBy w' none) := fun base2 gT bB bW W h => by
     have := find_ok base base2 gT bB bW u v l p s t q W h hRT hs HAS.out hq
     rw [hO] at this
     exact this
    have HTO : Hid (Calls Tryz.prog 56 #[u, v] w3 (TabPost base u v l p w3)) := tableOf_right base u v l p w3 (HU.out.grown hgw3) (HV.out.grown hgw3) hRT
    have HQ := Lib.hid hq
    have HO := Lib.hid hO
    clear hm m0 m1 hRT hq hO r0 r1 r2 rf
    go_wp2_with fail
    refine HTO.out.mono ?_
    rintro _ w4 ⟨base2, gT, bB, bW, rfl, hTF, _, hg4⟩
    have HTF := Lib.hid hTF
    clear hTF
    go_wp2_with fail
    refine (HFD.out _ _ _ _ _ HTF.out).mono ?_
    rintro _ w5 ⟨rfl, hg5⟩
    have hX := Blk.new w5 38 #[.string (O.getD fndZ0).1, .int .i64 (O.getD fndZ0).2.1, .int .i64 (O.getD fndZ0).2.2]
    have hR5 := Blk.alloc (g := gR) (Blk.grown (g := gR) hR3 (gr_trans hg4 hg5) (by simp)) (.cells #[.string (O.getD fndZ0).1, .int .i64 (O.getD fndZ0).2.1, .int .i64 (O.getD fndZ0).2.2] 38)
    have hgF := gr_alloc (gr_trans hgw3 (gr_trans hg4 hg5)) (.cells #[.string (O.getD fndZ0).1, .int .i64 (O.getD fndZ0).2.1, .int .i64 (O.getD fndZ0).2.2] 38)
    have HF0 : Hid (∀ K C Z, (O.getD fndZ0) = (K, C, Z) → True) := fun _ _ _ _ => trivial
    have HPO : Hid (∀ w', w.grownBy w' none → OfPost l p s t w (.returned (.tuple #[.agg #[.string (O.getD fndZ0).1, .int .i64 (O.getD fndZ0).2.1, .int .i64 (O.getD fndZ0).2.2], .bool O.isSome, .int .i64 0])) w') := fun w' hg => ⟨O, by rw [HOE.out], fun h => absurd HOE.out h, fun _ => ⟨HE.out, fun q' hq' => by rw [HQ.out] at hq'; injection hq' with hq'; rw [← hq']; exact HO.out.symm⟩, hg⟩
    generalize (O.getD fndZ0).1 = K at *
    generalize (O.getD fndZ0).2.1 = C at *
    generalize (O.getD fndZ0).2.2 = Z at *
    generalize O.isSome = FS at *
    go_upto_region 9 with fail
    generalize w5.alloc (.cells #[.string K, .int .i64 C, .int .i64 Z] 38) = w6 at *
    generalize w5.heap.size = gX at *
    have x0 := Blk.cell hX 0
    have x1 := Blk.cell hX 1
    have x2 := Blk.cell hX 2
    have r0 := Blk.cell (g := gR) hR5 0
    have r1 := Blk.cell (g := gR) hR5 1
    have r2 := Blk.cell (g := gR) hR5 2
    have rf := Blk.free (g := gR) hR5
    simp only [List.getElem?_toArray, List.getElem?_cons_zero, List.getElem?_cons_succ] at x0 x1 x2 r0 r1 r2
    obtain ⟨e0, e1, e2, e3⟩ := HFIN.out w6 K C Z true hR5 hgF
    go_wp2_with fail
    refine bodyPost_ret (v := .tuple #[.agg #[.string K, .int .i64 C, .int .i64 Z], .bool FS, .int .i64 0]) (by simp [results, Tryz.results15, go_sem, e0, e1, e2]) rfl ?_
    exact HPO.out _ e3
   ·rw [outB_yes m0]
    have HOE : Hid (ofE l p s t = 1) := by show _ = _; unfold ofE; rw [HE.out, HIS.out]; simp [momE, hm]
    obtain ⟨e0, e1, e2, e3⟩ := HFIN.out w3 ⟨#[]⟩ 0 0 false hR3 hgw3
    clear hm m0
    go_wp2_with fail
    refine bodyPost_ret (v := .tuple #[.agg #[.string ⟨#[]⟩, .int .i64 0, .int .i64 0], .bool false, .int .i64 1]) (by simp [results, Tryz.results15, go_sem, e0, e1, e2]) rfl ?_
    exact ⟨none, by rw [HOE.out]; rfl, fun _ => rfl, fun h => by rw [HOE.out] at h; simp at h, e3⟩
 ·have hE1 : (E != 0) = true := by simpa using hE0
  have HOE : Hid (ofE l p s t = E) := by show _ = _; unfold ofE; rw [HE.out, if_pos hE0]
  have HE0 := Lib.hid hE0
  obtain ⟨e0, e1, e2, e3⟩ := HFIN.out w2 ⟨#[]⟩ 0 0 false hR2 hgw
  clear hE0
  go_wp2_with fail
  refine bodyPost_ret (v := .tuple #[.agg #[.string ⟨#[]⟩, .int .i64 0, .int .i64 0], .bool false, .int .i64 E]) (by simp [results, Tryz.results15, go_sem, e0, e1, e2]) rfl ?_
  exact ⟨none, by rw [HOE.out]; rfl, fun _ => rfl, fun h => absurd (HOE.out.symm.trans h) HE0.out, e3⟩
end Go.Proofs.YtbpkfkbbkgdlaaaGreatDoor

namespace Go.Proofs.YtbpkfkbbkgdlaaaGreatDoor
open Go.RowKit
set_option linter.unusedVariables false

theorem strK : Maps.Keyed Tryz.prog 9 := Maps.string_keyed Tryz.underlying9
theorem str_key (s : ByteArray) (h : s.size ≤ 1000000) : keyOf Tryz.prog 9 (.string s) = some (.string s.data.toList) :=
 WideMaps.keyOf_string_mk Tryz.underlying9 (by unfold maxLen; omega)
end Go.Proofs.YtbpkfkbbkgdlaaaGreatDoor

namespace Go.Proofs
open Go.Shelf
def Tryz.keys61_ren : Go.Shelf.Ren := ⟨fun | 7 => 61 | 10 => 110 | n => n, fun | 23 => 98 | 26 => 9 | 3 => 4 | 28 => 102 | 0 => 0 | 27 => 101 | 33 => 74 | 4 => 4 | n => n, fun | n => n⟩
theorem Tryz.keys61 : Go.Proofs.SlLaysZ.n7 Tryz.prog Tryz.keys61_ren := {
 mixed := by kernel_rfl
 f7 := ⟨Tryz.f61.name, by decide, Tryz.func61.trans (congrArg some (by kernel_rfl))⟩
 f10 := ⟨Tryz.f110.name, by decide, Tryz.func110.trans (congrArg some (by kernel_rfl))⟩
 t0 := Tryz.underlying0
 a0 := Tryz.isAgg0
 z0 := Tryz.sizeOf0
 v0 := Tryz.zeroValue0
 t4 := Tryz.underlying4
 a4 := Tryz.isAgg4
 z4 := Tryz.sizeOf4
 v4 := Tryz.zeroValue4
 t23 := Tryz.underlying98
 a23 := Tryz.isAgg98
 z23 := Tryz.sizeOf98
 v23 := Tryz.zeroValue98
 t26 := Tryz.underlying9
 a26 := Tryz.isAgg9
 z26 := Tryz.sizeOf9
 v26 := Tryz.zeroValue9
 t27 := Tryz.underlying101
 a27 := Tryz.isAgg101
 z27 := Tryz.sizeOf101
 v27 := Tryz.zeroValue101
 t28 := Tryz.underlying102
 a28 := Tryz.isAgg102
 z28 := Tryz.sizeOf102
 v28 := Tryz.zeroValue102
 t33 := Tryz.underlying74
 a33 := Tryz.isAgg74
 z33 := Tryz.sizeOf74
 v33 := Tryz.zeroValue74 }
def Tryz.sorted60_ren : Go.Shelf.Ren := ⟨fun | 6 => 60 | 8 => 108 | 9 => 109 | 11 => 158 | 13 => 160 | 12 => 159 | 23 => 196 | 24 => 197 | 14 => 187 | 15 => 188 | 16 => 189 | 17 => 190 | 18 => 191 | 19 => 192 | 20 => 193 | 21 => 194 | 22 => 195 | 25 => 222 | 26 => 223 | 27 => 224 | 28 => 225 | 29 => 226 | 30 => 227 | 31 => 244 | n => n, fun | 26 => 9 | 28 => 102 | 24 => 31 | 0 => 0 | 3 => 3 | 37 => 188 | 48 => 215 | 50 => 217 | 4 => 4 | 40 => 209 | 39 => 208 | 45 => 79 | 5 => 5 | 9 => 9 | 51 => 241 | 55 => 245 | 57 => 263 | 58 => 264 | 33 => 74 | n => n, fun | n => n⟩
theorem Tryz.sorted60 : Go.Proofs.SlLaysZ.n6 Tryz.prog Tryz.sorted60_ren := {
 mixed := by kernel_rfl
 f6 := ⟨Tryz.f60.name, by decide, Tryz.func60.trans (congrArg some (by kernel_rfl))⟩
 f8 := ⟨Tryz.f108.name, by decide, Tryz.func108.trans (congrArg some (by kernel_rfl))⟩
 f11 := ⟨Tryz.f158.name, by decide, Tryz.func158.trans (congrArg some (by kernel_rfl))⟩
 t0 := Tryz.underlying0
 a0 := Tryz.isAgg0
 z0 := Tryz.sizeOf0
 v0 := Tryz.zeroValue0
 t24 := Tryz.underlying31
 a24 := Tryz.isAgg31
 z24 := Tryz.sizeOf31
 v24 := Tryz.zeroValue31
 t26 := Tryz.underlying9
 a26 := Tryz.isAgg9
 z26 := Tryz.sizeOf9
 v26 := Tryz.zeroValue9
 t28 := Tryz.underlying102
 a28 := Tryz.isAgg102
 z28 := Tryz.sizeOf102
 v28 := Tryz.zeroValue102
 i26 := by kernel_rfl }
def Tryz.sort109_ren : Go.Shelf.Ren := ⟨fun | 6 => 109 | 8 => 160 | 9 => 159 | 19 => 196 | 20 => 197 | 21 => 187 | 22 => 188 | 23 => 189 | 24 => 190 | 25 => 191 | 26 => 192 | 27 => 193 | 28 => 194 | 29 => 195 | 36 => 222 | 31 => 223 | 32 => 224 | 37 => 225 | 38 => 226 | 39 => 227 | 41 => 244 | n => n, fun | 27 => 31 | 29 => 9 | 3 => 3 | 32 => 188 | 26 => 31 | 0 => 0 | 44 => 215 | 46 => 217 | 4 => 4 | 36 => 209 | 35 => 208 | 41 => 79 | 5 => 5 | 9 => 9 | 53 => 241 | 57 => 245 | 63 => 263 | 64 => 264 | n => n, fun | n => n⟩
theorem Tryz.sort109 : Go.Proofs.SlLaysM.n6 Tryz.prog Tryz.sort109_ren := {
 mixed := by kernel_rfl
 f6 := ⟨Tryz.f109.name, by decide, Tryz.func109.trans (congrArg some (by kernel_rfl))⟩
 f8 := Tryz.func160.trans (congrArg some (by kernel_rfl))
 f9 := ⟨Tryz.f159.name, by decide, Tryz.func159.trans (congrArg some (by kernel_rfl))⟩
 f19 := Tryz.func196.trans (congrArg some (by kernel_rfl))
 f20 := Tryz.func197.trans (congrArg some (by kernel_rfl))
 f21 := ⟨Tryz.f187.name, by decide, Tryz.func187.trans (congrArg some (by kernel_rfl))⟩
 f22 := ⟨Tryz.f188.name, by decide, Tryz.func188.trans (congrArg some (by kernel_rfl))⟩
 f23 := ⟨Tryz.f189.name, by decide, Tryz.func189.trans (congrArg some (by kernel_rfl))⟩
 f24 := ⟨Tryz.f190.name, by decide, Tryz.func190.trans (congrArg some (by kernel_rfl))⟩
 f25 := ⟨Tryz.f191.name, by decide, Tryz.func191.trans (congrArg some (by kernel_rfl))⟩
 f26 := ⟨Tryz.f192.name, by decide, Tryz.func192.trans (congrArg some (by kernel_rfl))⟩
 f27 := ⟨Tryz.f193.name, by decide, Tryz.func193.trans (congrArg some (by kernel_rfl))⟩
 f28 := ⟨Tryz.f194.name, by decide, Tryz.func194.trans (congrArg some (by kernel_rfl))⟩
 f29 := ⟨Tryz.f195.name, by decide, Tryz.func195.trans (congrArg some (by kernel_rfl))⟩
 f31 := Tryz.func223.trans (congrArg some (by kernel_rfl))
 f32 := Tryz.func224.trans (congrArg some (by kernel_rfl))
 f36 := ⟨Tryz.f222.name, by decide, Tryz.func222.trans (congrArg some (by kernel_rfl))⟩
 f37 := ⟨Tryz.f225.name, by decide, Tryz.func225.trans (congrArg some (by kernel_rfl))⟩
 f38 := ⟨Tryz.f226.name, by decide, Tryz.func226.trans (congrArg some (by kernel_rfl))⟩
 f39 := ⟨Tryz.f227.name, by decide, Tryz.func227.trans (congrArg some (by kernel_rfl))⟩
 f41 := ⟨Tryz.f244.name, by decide, Tryz.func244.trans (congrArg some (by kernel_rfl))⟩
 t0 := Tryz.underlying0
 a0 := Tryz.isAgg0
 z0 := Tryz.sizeOf0
 v0 := Tryz.zeroValue0
 t3 := Tryz.underlying3
 a3 := Tryz.isAgg3
 z3 := Tryz.sizeOf3
 v3 := Tryz.zeroValue3
 t4 := Tryz.underlying4
 a4 := Tryz.isAgg4
 z4 := Tryz.sizeOf4
 v4 := Tryz.zeroValue4
 t5 := Tryz.underlying5
 a5 := Tryz.isAgg5
 z5 := Tryz.sizeOf5
 v5 := Tryz.zeroValue5
 t9 := Tryz.underlying9
 a9 := Tryz.isAgg9
 z9 := Tryz.sizeOf9
 v9 := Tryz.zeroValue9
 t26 := Tryz.underlying31
 a26 := Tryz.isAgg31
 z26 := Tryz.sizeOf31
 v26 := Tryz.zeroValue31
 t27 := Tryz.underlying31
 a27 := Tryz.isAgg31
 z27 := Tryz.sizeOf31
 v27 := Tryz.zeroValue31
 t29 := Tryz.underlying9
 a29 := Tryz.isAgg9
 z29 := Tryz.sizeOf9
 v29 := Tryz.zeroValue9
 t32 := Tryz.underlying188
 a32 := Tryz.isAgg188
 z32 := Tryz.sizeOf188
 v32 := Tryz.zeroValue188
 t35 := Tryz.underlying208
 a35 := Tryz.isAgg208
 z35 := Tryz.sizeOf208
 v35 := Tryz.zeroValue208
 t36 := Tryz.underlying209
 a36 := Tryz.isAgg209
 z36 := Tryz.sizeOf209
 v36 := Tryz.zeroValue209
 t41 := Tryz.underlying79
 a41 := Tryz.isAgg79
 z41 := Tryz.sizeOf79
 v41 := Tryz.zeroValue79
 t44 := Tryz.underlying215
 a44 := Tryz.isAgg215
 z44 := Tryz.sizeOf215
 v44 := Tryz.zeroValue215
 t46 := Tryz.underlying217
 a46 := Tryz.isAgg217
 z46 := Tryz.sizeOf217
 v46 := Tryz.zeroValue217
 t53 := Tryz.underlying241
 a53 := Tryz.isAgg241
 z53 := Tryz.sizeOf241
 v53 := Tryz.zeroValue241
 t57 := Tryz.underlying245
 a57 := Tryz.isAgg245
 z57 := Tryz.sizeOf245
 v57 := Tryz.zeroValue245
 t63 := Tryz.underlying263
 a63 := Tryz.isAgg263
 z63 := Tryz.sizeOf263
 v63 := Tryz.zeroValue263
 t64 := Tryz.underlying264
 a64 := Tryz.isAgg264
 z64 := Tryz.sizeOf264
 v64 := Tryz.zeroValue264 }
open Go.RowKit Go.Maps Go.Sort
theorem Tryz.sorts60 (m : Nat) : AnyZ.SortsIn Tryz.prog Tryz.sorted60_ren Fence.wide m :=
 ⟨fun blk off cap ss W hH hblk hsz => callsIn_wide.2 (AnyM.slices_Sort_string Tryz.sort109 blk off cap ss W hH hblk hsz),
  fun p cap W => callsIn_wide.2 (AnyM.slices_Sort_string_none Tryz.sort109 p cap W)⟩
theorem Tryz.maps_Keys_61 (mb : Option Nat) (W : World) : CallsIn Fence.wide 5 Tryz.prog 61 #[.map mb] W fun e w' => e = .returned (.func (.func 110) #[] #[.pointer (some ⟨W.heap.size, 0, none⟩)]) ∧ w' = W.alloc (.cells #[.map mb] 98) :=
 AnyZ.keys_in Tryz.keys61 Fence.wide 5 trivial rfl mb W
theorem Tryz.slices_Sorted_keys_60_61 {H : Type} (b nn : Nat) (D0 : DataW H) (R : Value → Option (DataW H × List MemPlace)) (w : World) (hown : w.ownsMap Tryz.prog 9 R b nn D0) (hmax : Maps.size D0 ≤ maxLen) (hbytes : Maps.size D0 * 16 ≤ 140737488355328) :
 CallsIn Fence.wide 5 Tryz.prog 60 #[.func (.func 110) #[] #[.pointer (some ⟨w.heap.size, 0, none⟩)]] (w.alloc (.cells #[.map (some b)] 98)) fun e w' => ∃ (v : Value) (ss : List (List UInt8)), e = .returned v ∧ ss.Perm (strKeys D0) ∧
  w'.ownsRow (w.alloc (.cells #[.map (some b)] 98)).heap.size 9 1 v ss.length ((ss.mergeSort (fun x y => decide (x ≤ y))).map encStr) ∧ (v = .slice none 0 0 ↔ ss = []) ∧ Below (w.alloc (.cells #[.map (some b)] 98)).heap.size (w.alloc (.cells #[.map (some b)] 98)) w' := by
 have hbl := hown.lt
 have hseq : SeqGives Fence.wide 2 Tryz.prog 110 #[.pointer (some ⟨w.heap.size, 0, none⟩)] encStr (fun ss => ss.Perm (strKeys D0)) (Maps.size D0) (w.alloc (.cells #[.map (some b)] 98)) :=
  AnyZ.keys_gives (ρ := Tryz.keys61_ren) { Tryz.keys61 with } Fence.wide _ trivial rfl (by omega) w.heap.size b nn D0 _ (by simp) (by simp) (by
   obtain ⟨es, clock, hb, Ft, hs, hD⟩ := hown
   exact ⟨es, clock, (Below.heap_alloc _ _ b hbl).trans hb, Ft, hs, hD⟩)
 exact AnyZ.sorted_in Tryz.sorted60 Fence.wide 5 trivial trivial trivial trivial rfl (by omega) (Tryz.sorts60 _) (enters_of Tryz.func109 (by kernel_rfl) rfl) 110 #[.pointer (some ⟨w.heap.size, 0, none⟩)] trivial (enters_of Tryz.func110 (by kernel_rfl) rfl) _ _ hmax hbytes _ hseq
end Go.Proofs

namespace Go.Proofs.YtbpkfkbbkgdlaaaGreatDoor
open Go.RowKit
set_option linter.unusedVariables false
set_option linter.unusedSimpArgs false

def insK (l : List (List UInt8)) (k : List UInt8) : List (List UInt8) := if k ∈ l then l else l ++ [k]
theorem insK_mem (l : List (List UInt8)) (k j : List UInt8) : j ∈ insK l k ↔ j ∈ l ∨ k = j := by
 unfold insK
 split
 ·rename_i h
  constructor
  ·exact .inl
  ·rintro (h' | rfl)
   ·exact h'
   ·exact h
 ·simp [eq_comm]
theorem insK_nodup {l : List (List UInt8)} (h : l.Nodup) (k : List UInt8) : (insK l k).Nodup := by
 unfold insK
 split
 ·exact h
 ·rename_i hk
  rw [List.nodup_append]
  refine ⟨h, by simp, fun a ha b hb => ?_⟩
  rw [List.mem_singleton.1 hb]
  rintro rfl
  exact hk ha
theorem insK_len (l : List (List UInt8)) (k : List UInt8) : (insK l k).length ≤ l.length + 1 := by
 unfold insK
 split <;> simp
/-- Block bm is a map with just these keys. -/
def MapK (w : World) (bm n : Nat) (l : List (List UInt8)) : Prop :=
 ∃ D : DataW Unit, w.ownsMap Tryz.prog 9 (plainElem Tryz.prog 4) bm n D ∧ Maps.Tidy D ∧ (∀ k, Maps.has D (.string k) = decide (k ∈ l)) ∧ Maps.size D = l.length ∧ l.Nodup
theorem MapK.lt {w : World} {bm n : Nat} {l : List (List UInt8)} (h : MapK w bm n l) : bm < w.heap.size := by obtain ⟨D, h1, _⟩ := h; exact h1.lt
theorem MapK.made (w : World) : MapK (w.alloc (.map #[] 0)) w.heap.size 0 [] :=
 ⟨_, World.ownsMap_made w _ _ _, Maps.tidy_empty, fun c => rfl, rfl, by simp⟩
theorem MapK.kept {w w' : World} {bm n : Nat} {l : List (List UInt8)} (h : MapK w bm n l) {row : Option Nat} (hg : w.grownBy w' row) (hr : some bm ≠ row) : MapK w' bm n l := by
 obtain ⟨D, h1, h2⟩ := h
 exact ⟨D, h1.kept hg hr, h2⟩
theorem MapK.quiet {w w' : World} {bm n : Nat} {l : List (List UInt8)} (h : MapK w bm n l) (hg : w.grownBy w' none) : MapK w' bm n l := h.kept hg (by simp)
theorem MapK.put {w : World} {bm n : Nat} {l : List (List UInt8)} (h : MapK w bm n l) (hn : n ≤ 1000000) (s : ByteArray) (hs : s.size ≤ 1000000) :
 ∃ w', (Instr.mapUpdate 98 (.map (some bm)) (.string s) (.bool true)).run Tryz.prog w = .ok () w' ∧ MapK w' bm (n + 1) (insK l s.data.toList) ∧ w.grownBy w' (some bm) := by
 obtain ⟨D, h1, h2, h4, h5, h6⟩ := h
 obtain ⟨w', hrun, ho, hg⟩ := h1.update strK Tryz.underlying98 (by unfold maxLen; omega) (str_key s hs) (plainElem_bool Tryz.underlying4 true)
 refine ⟨w', hrun, ⟨_, ho, h2.put (by trivial) _, fun c => ?_, ?_, insK_nodup h6 _⟩, hg⟩
 ·by_cases e : s.data.toList = c
  ·subst e
   rw [Maps.has_put_same h2.isMap (k := .string s.data.toList) (by trivial)]
   symm
   rw [decide_eq_true_eq, insK_mem]
   exact .inr rfl
  ·rw [Maps.has_put_other (by intro h; injection h with h; exact e h.symm), h4 c]
   rw [decide_eq_decide, insK_mem]
   exact ⟨.inl, fun h => h.resolve_right e⟩
 ·rw [Maps.size_put h2, h4, h5]
  unfold insK
  by_cases hh : s.data.toList ∈ l <;> simp [hh]
theorem wpList_mapK (w : World) {ops : Array Oper} {rest : List Oper} {o : Oper} {a : Act} {Q : Exit → Act → World → Prop} (hg : o.guard = none) (m x v : Operand) (hop : o.op = Op.mapUpdate 98 m x v)
 (bm n : Nat) (l : List (List UInt8)) (s : ByteArray) (hm : a.eval m = .map (some bm)) (hx : a.eval x = .string s) (hv : a.eval v = .bool true) (h : MapK w bm n l) (hn : n ≤ 1000000) (hs : s.size ≤ 1000000)
 (hK : ∀ w', MapK w' bm (n + 1) (insK l s.data.toList) → w.grownBy w' (some bm) → wpList Tryz.prog ops Q rest (a.put o.dst undef) w') :
 wpList Tryz.prog ops Q (o :: rest) a w := by
 refine wpList_plain hg fun K' hK' => ?_
 obtain ⟨w', hrun, h1, h2⟩ := h.put hn s hs
 unfold Oper.wp
 simp [execOp, hop, hm, hx, hv, hrun, Result.andThen]
 exact hK' _ _ (hK w' h1 h2)
theorem keysB_any (bm : Nat) (w : World) : Calls Tryz.prog 61 #[.map (some bm)] w fun e w' => e = .returned (.func (.func 110) #[] #[.pointer (some ⟨w.heap.size, 0, none⟩)]) ∧ w' = w.alloc (.cells #[.map (some bm)] 98) :=
 (callsIn_wide (n := 5)).1 (Tryz.maps_Keys_61 (some bm) w)
theorem keysB_perm {D : DataW Unit} {w : World} {bm n : Nat} {l : List (List UInt8)} (h : w.ownsMap Tryz.prog 9 (plainElem Tryz.prog 4) bm n D) (h4 : ∀ k, Maps.has D (.string k) = decide (k ∈ l)) (h6 : l.Nodup) : l.Perm (strKeys D) := by
 obtain ⟨es, rfl, hp, _⟩ := h.entries strK
 obtain ⟨es', he, hk⟩ := h.keysOf
 injection he with he
 subst he
 refine perm_strKeys hp (fun p hp' => ?_) h6 (fun x => by rw [h4, decide_eq_true_eq])
 obtain ⟨v, hv⟩ := hk p hp'
 obtain ⟨x, _, hx, _⟩ := Maps.keyOf_str Tryz.underlying9 hv
 exact ⟨x, hx⟩
theorem sortedB_any (bm n : Nat) (l : List (List UInt8)) (w : World) (h : MapK w bm n l) (hl : l.length ≤ 1000000) :
 Calls Tryz.prog 60 #[.func (.func 110) #[] #[.pointer (some ⟨w.heap.size, 0, none⟩)]] (w.alloc (.cells #[.map (some bm)] 98)) fun e w' =>
  ∃ (v : Value) (ss : List (List UInt8)), e = .returned v ∧ ss.Perm l ∧ ss.Pairwise (· ≤ ·) ∧ w'.ownsRow w.heap.size 9 1 v ss.length (ss.map encStr) ∧ w.grownBy w' none := by
 obtain ⟨D, h1, h3, h4, h5, h6⟩ := h
 refine ((callsIn_wide (n := 5)).1 (Tryz.slices_Sorted_keys_60_61 bm n D _ w h1 (by rw [h5]; unfold maxLen; omega) (by rw [h5]; omega))).mono ?_
 rintro e w' ⟨v, ss, rfl, hp, hrow, _, hb⟩
 refine ⟨v, ss.mergeSort (fun x y => decide (x ≤ y)), rfl, ((List.mergeSort_perm _ _).trans hp).trans (keysB_perm h1 h4 h6).symm, ?_, ?_, gr_trans (World.grownBy_alloc w _ none) (gr_of_below hb)⟩
 ·exact (List.pairwise_mergeSort (le := fun x y : List UInt8 => decide (x ≤ y)) (by intro a b c h1 h2; simp only [decide_eq_true_eq] at *; exact List.le_trans h1 h2) (by intro a b; simp only [Bool.or_eq_true, decide_eq_true_eq]; exact List.le_total a b) ss).imp (by intro a b h; simpa using h)
 ·rw [List.length_mergeSort]
  exact ownsRow_low hrow (by simp)
end Go.Proofs.YtbpkfkbbkgdlaaaGreatDoor

namespace Go.Proofs.YtbpkfkbbkgdlaaaGreatDoor
open Go.RowKit Go.Sort
set_option linter.unusedVariables false

/-- Names in a slice, as lists of bytes. -/
def NamesFrom (base : Nat) (w : World) (v : Value) (ks : List (List UInt8)) : Prop := w.ownsRow base 9 1 v ks.length (ks.map encStr)
theorem NamesFrom.grown {base : Nat} {w w' : World} {v : Value} {l : List (List UInt8)} (h : NamesFrom base w v l) (hg : w.grownBy w' none) : NamesFrom base w' v l := ownsRow_grown h hg
theorem NamesFrom.other {base b : Nat} {w w' : World} {v : Value} {l : List (List UInt8)} (h : NamesFrom base w v l) (hg : w.grownBy w' (some b)) (hb : b < base) : NamesFrom base w' v l := ownsRow_other h hg hb
theorem NamesFrom.nil (base : Nat) (w : World) : NamesFrom base w (.slice none 0 0) [] := World.ownsRow_nil _ _ _ _
theorem NamesFrom.shape {base : Nat} {w : World} {v : Value} {l : List (List UInt8)} (h : NamesFrom base w v l) :
 ∃ A c, v = .slice A l.length c ∧ l.length ≤ 9223372036854775807 ∧ (0 < l.length → ∃ g, A = some ⟨g, 0, none⟩ ∧ base ≤ g ∧ g < w.heap.size) := ownsRow_shape h
theorem NamesFrom.at_ {base : Nat} {w : World} {g c : Nat} {l : List (List UInt8)} (h : NamesFrom base w (.slice (some ⟨g, 0, none⟩) l.length c) l) (k : Nat) (hk : k < l.length) : w.cell? ⟨g, k, none⟩ = some (encStr l[k]) := by
 have := World.ownsRow.cellAt h k (by omega)
 rw [this]; simp [hk]
def sortB (l : List (List UInt8)) : List (List UInt8) := l.mergeSort fun x y => decide (x ≤ y)
theorem sortB_len (l : List (List UInt8)) : (sortB l).length = l.length := List.length_mergeSort l
def onceB (l : List (List UInt8)) : List (List UInt8) := Lib.compact (sortB l)
theorem sortS_own (base : Nat) (v : Value) (l : List (List UInt8)) (w : World) (hl : NamesFrom base w v l) (hn : l.length ≤ 1000000000) :
 Calls Tryz.prog 109 #[v] w fun r w' => r = .returned (.tuple #[]) ∧ NamesFrom base w' v (sortB l) ∧ w.grownBy w' v.ownBlock := by
 have h0 := hl
 rcases hl.2 with ⟨rfl, h2⟩ | ⟨g, cap, cur, rfl, hb, hg, hnc, hm, hs, ht⟩
 ·refine (Tryz.slices_Sort_string_none _ _ _).mono ?_
  rintro r w' ⟨rfl, rfl⟩
  have hnil : l = [] := List.eq_nil_of_length_eq_zero h2
  subst hnil
  exact ⟨rfl, by unfold sortB; simp; exact NamesFrom.nil _ _, gr_refl _ _⟩
 ·have hlt : g < w.heap.size := (Array.getElem?_eq_some_iff.1 hg).1
  have hH := holds_of_block (ss := l) hg (by rw [Nat.mul_one] at ht; exact ht)
  refine (Tryz.slices_Sort_string g 0 cap l w hH hlt (by omega)).mono ?_
  rintro r w' ⟨rfl, n, os, rfl⟩
  refine ⟨rfl, ?_, grownBy_sorted _⟩
  have := ownsRow_sorted (n := n) (os := os) (ss := l) (ts := sortB l) (sortB_len l) hb hg hnc hm hs
  unfold NamesFrom
  rw [sortB_len]
  exact this
theorem grownBy_putRowS {w : World} {g n : Nat} (d : Array (List UInt8)) : w.grownBy (putRow encStr (Sort.ahead w n) g 0 d) (some g) := by
 refine ⟨rfl, rfl, rfl, by simp [Sort.ahead], fun k hk hne => ?_⟩
 have : g ≠ k := fun e => hne (by rw [e])
 simp [putRow, mapBlock, Sort.ahead, Array.getElem?_modify, this]
theorem compactS_own (base : Nat) (v : Value) (l : List (List UInt8)) (w : World) (hl : NamesFrom base w v l) (hn : l.length ≤ 1000000000) :
 Calls Tryz.prog 125 #[v] w fun r w' => ∃ u, r = .returned u ∧ NamesFrom base w' u (Lib.compact l) ∧ w.grownBy w' v.ownBlock := by
 have h0 := hl
 have hcl := Lib.compact_length_le l
 rcases hl.2 with ⟨rfl, h2⟩ | ⟨g, cap, cur, rfl, hb, hg, hnc, hm, hs, ht⟩
 ·refine (Tryz.slices_Compact_string_empty none 0 w).mono ?_
  rintro r w' ⟨rfl, rfl⟩
  have hnil : l = [] := List.eq_nil_of_length_eq_zero h2
  subst hnil
  exact ⟨_, rfl, NamesFrom.nil _ _, gr_refl _ _⟩
 ·have hH := holds_of_block (ss := l) hg (by rw [Nat.mul_one] at ht; exact ht)
  refine (Tryz.slices_Compact_string g 0 cap l w hH (by omega) hnc).mono ?_
  rintro r w' ⟨rfl, q, rfl⟩
  refine ⟨_, rfl, ?_, grownBy_putRowS _⟩
  have := Lib.ownsRow_putRow (q := q) (k := (Lib.compact l).length) (ys := Lib.compact l ++ List.replicate (l.length - (Lib.compact l).length) []) h0 (by simp; omega) hcl
  rw [List.take_left] at this
  exact this
theorem cloneS_own (base : Nat) (v : Value) (l : List (List UInt8)) (w : World) (hl : NamesFrom base w v l) (hn : l.length ≤ 1000000000) :
 Calls Tryz.prog 124 #[v] w fun r w' => ∃ u, r = .returned u ∧ NamesFrom w.heap.size w' u l ∧ w.grownBy w' none := by
 have h0 := hl
 rcases hl.2 with ⟨rfl, h2⟩ | ⟨g, cap, cur, rfl, hb, hg, hnc, hm, hs, ht⟩
 ·refine (Tryz.slices_Clone_string_nil _ _ w).mono ?_
  rintro r w' ⟨rfl, rfl⟩
  have hnil : l = [] := List.eq_nil_of_length_eq_zero h2
  subst hnil
  exact ⟨_, rfl, NamesFrom.nil _ _, gr_refl _ _⟩
 ·have hc : ∀ j, j < (l.map fun k => (⟨k.toArray⟩ : ByteArray)).length → w.cell? ⟨g, 0 + j, none⟩ = some (.string ((l.map fun k => (⟨k.toArray⟩ : ByteArray)).getD j ByteArray.empty)) := by
   intro j hj
   have hj' : j < l.length := by simpa using hj
   rw [Nat.zero_add, NamesFrom.at_ h0 j hj']
   simp [hj', encStr]
  refine (Tryz.slices_Clone_string g 0 l.length cap (l.map fun k => (⟨k.toArray⟩ : ByteArray)) w (by simp) (by omega) hc).mono ?_
  rintro r w' ⟨u, rfl, hu, _, hb'⟩
  refine ⟨u, rfl, ?_, gr_of_below hb'⟩
  unfold NamesFrom
  have e : ((l.map fun k => (⟨k.toArray⟩ : ByteArray)).take l.length).map Value.string = l.map encStr := by
   rw [List.take_of_length_le (by simp)]
   simp [encStr]
  rw [e] at hu
  exact hu
set_option maxRecDepth 100000 in
set_option maxHeartbeats 1000000 in
theorem once_any (base : Nat) (v : Value) (l : List (List UInt8)) (w : World) (hl : NamesFrom base w v l) (hn : l.length ≤ 1000) :
 Calls Tryz.prog 73 #[v] w fun r w' => ∃ u, r = .returned u ∧ NamesFrom w.heap.size w' u (onceB l) ∧ w.grownBy w' none := by
 have HL := Lib.hid hl
 clear hl
 go_enter Tryz.func73, Tryz.ntmps73
 go_wp2_with fail
 refine (cloneS_own base v l _ HL.out (by omega)).mono ?_
 rintro _ w1 ⟨u1, rfl, hu1, hg1⟩
 have hlow : ∀ gg, u1.ownBlock = some gg → w.heap.size ≤ gg := fun gg e => (hu1.lt gg e).1
 go_wp2_with fail
 refine (sortS_own w.heap.size u1 l _ hu1 (by omega)).mono ?_
 rintro _ w2 ⟨rfl, hu2, hg2⟩
 have hG2 : w.grownBy w2 none := gr_grown hg1 hg2 (fun g e => .inr (hlow g e))
 clear hg1 hg2 hu1
 go_wp2_with fail
 refine (compactS_own w.heap.size u1 (sortB l) _ hu2 (by rw [sortB_len]; omega)).mono ?_
 rintro _ w3 ⟨u3, rfl, hu3, hg3⟩
 have hG3 : w.grownBy w3 none := gr_grown hG2 hg3 (fun g e => .inr (hlow g e))
 go_wp2_with fail
 go_ret
 exact ⟨u3, rfl, hu3, hG3⟩
end Go.Proofs.YtbpkfkbbkgdlaaaGreatDoor

namespace Go.Proofs.YtbpkfkbbkgdlaaaGreatDoor
open Go.RowKit Go.Sort
set_option linter.unusedVariables false

theorem sortB_sorted (l : List (List UInt8)) : (sortB l).Pairwise (· ≤ ·) := by
 have h := List.pairwise_mergeSort (le := fun x y : List UInt8 => decide (x ≤ y)) (by intro a b c h1 h2; simp only [decide_eq_true_eq] at *; exact List.le_trans h1 h2) (by intro a b; simp only [Bool.or_eq_true, decide_eq_true_eq]; exact List.le_total a b) l
 exact h.imp (by intro a b h; simpa using h)
theorem sortB_mem (l : List (List UInt8)) (x : List UInt8) : x ∈ sortB l ↔ x ∈ l := (List.mergeSort_perm l _).mem_iff
theorem sortB_perm (l : List (List UInt8)) : (sortB l).Perm l := List.mergeSort_perm l _
/-- Two lists in order with the same members, each once, are one. -/
theorem sorted_one {a b : List (List UInt8)} (ha : a.Pairwise (· ≤ ·)) (hb : b.Pairwise (· ≤ ·)) (h : a.Perm b) : a = b :=
 List.Perm.eq_of_pairwise (le := (· ≤ ·)) (fun x y _ _ h1 h2 => List.le_antisymm h1 h2) ha hb h
theorem compB (d : Array (List UInt8)) (hd : ∀ i j, i ≤ j → j < d.size → d[i]! ≤ d[j]!) : ∀ m, m ≤ d.size →
 (Lib.compactUpTo d m).Nodup ∧ (Lib.compactUpTo d m).Pairwise (· ≤ ·) ∧ (∀ x ∈ Lib.compactUpTo d m, ∃ j, j < m ∧ d[j]! = x) ∧ (∀ j, j < m → d[j]! ∈ Lib.compactUpTo d m)
 | 0, _ => by simp [Lib.compactUpTo]
 | m + 1, hm => by
   have ih := compB d hd m (by omega)
   rw [Lib.compactUpTo_succ]
   by_cases hk : Lib.keeps d m = true
   ·rw [if_pos hk]
    have hk' : m = 0 ∨ d[m]! ≠ d[m - 1]! := by simpa [Lib.keeps] using hk
    have hall : ∀ x ∈ Lib.compactUpTo d m, x ≤ d[m]! ∧ x ≠ d[m]! := fun x hx => by
     obtain ⟨j, hj, rfl⟩ := ih.2.2.1 x hx
     have h1 := hd j (m - 1) (by omega) (by omega)
     have h2 := hd (m - 1) m (by omega) (by omega)
     refine ⟨List.le_trans h1 h2, fun e => ?_⟩
     rcases hk' with h | h
     ·omega
     ·rw [e] at h1
      exact h (List.le_antisymm h1 h2)
    refine ⟨List.pairwise_append.2 ⟨ih.1, by simp, ?_⟩, List.pairwise_append.2 ⟨ih.2.1, by simp, ?_⟩, ?_, ?_⟩
    ·intro x hx y hy
     simp only [List.mem_singleton] at hy
     subst hy
     exact (hall x hx).2
    ·intro x hx y hy
     simp only [List.mem_singleton] at hy
     subst hy
     exact (hall x hx).1
    ·intro x hx
     rcases List.mem_append.1 hx with h | h
     ·obtain ⟨j, hj, e⟩ := ih.2.2.1 x h; exact ⟨j, by omega, e⟩
     ·simp only [List.mem_singleton] at h; exact ⟨m, by omega, h.symm⟩
    ·intro j hj
     rcases Nat.lt_or_ge j m with h | h
     ·exact List.mem_append_left _ (ih.2.2.2 j h)
     ·obtain rfl : j = m := by omega
      exact List.mem_append_right _ (by simp)
   ·rw [if_neg hk, List.append_nil]
    have hk' : ¬ (m = 0 ∨ d[m]! ≠ d[m - 1]!) := by simpa [Lib.keeps] using hk
    refine ⟨ih.1, ih.2.1, fun x hx => ?_, fun j hj => ?_⟩
    ·obtain ⟨j, hj, e⟩ := ih.2.2.1 x hx; exact ⟨j, by omega, e⟩
    ·rcases Nat.lt_or_ge j m with h | h
     ·exact ih.2.2.2 j h
     ·obtain rfl : j = m := by omega
      have e : d[j]! = d[j - 1]! := by
       rcases Classical.em (d[j]! = d[j - 1]!) with h | h
       ·exact h
       ·exact absurd (.inr h) hk'
      rw [e]
      exact ih.2.2.2 (j - 1) (by omega)
theorem onceB_props (l : List (List UInt8)) : (onceB l).Nodup ∧ (onceB l).Pairwise (· ≤ ·) ∧ ∀ x, x ∈ onceB l ↔ x ∈ l := by
 have hs := sortB_sorted l
 have hd : ∀ i j, i ≤ j → j < (sortB l).toArray.size → (sortB l).toArray[i]! ≤ (sortB l).toArray[j]! := fun i j hij hj => by
  have hj' : j < (sortB l).length := by simpa using hj
  rw [getElem!_pos (sortB l).toArray i (by simp; omega), getElem!_pos (sortB l).toArray j (by simpa using hj')]
  rcases Nat.lt_or_eq_of_le hij with h | h
  ·simpa using (List.pairwise_iff_getElem.1 hs) i j (by omega) hj' h
  ·subst h; exact List.le_refl _
 have h := compB (sortB l).toArray hd (sortB l).length (by simp)
 refine ⟨h.1, h.2.1, fun x => ⟨fun hx => ?_, fun hx => ?_⟩⟩
 ·obtain ⟨j, hj, e⟩ := h.2.2.1 x hx
  rw [getElem!_pos (sortB l).toArray j (by simpa using hj)] at e
  rw [← sortB_mem l, ← e]
  simp
 ·rw [← sortB_mem l] at hx
  obtain ⟨j, hj, e⟩ := List.getElem_of_mem hx
  have := h.2.2.2 j hj
  rw [getElem!_pos (sortB l).toArray j (by simpa using hj)] at this
  simp [e] at this
  exact this
/-- Each once: in order, they are those of any list with the same members, each once. -/
theorem onceB_keys {l ks : List (List UInt8)} (hn : ks.Nodup) (hm : ∀ x, x ∈ l ↔ x ∈ ks) : onceB l = sortB ks := by
 obtain ⟨h1, h2, h3⟩ := onceB_props l
 refine sorted_one h2 (sortB_sorted ks) ?_
 refine ((List.perm_ext_iff_of_nodup h1 hn).2 fun x => ?_).trans (sortB_perm ks).symm
 rw [h3, hm]
end Go.Proofs.YtbpkfkbbkgdlaaaGreatDoor

namespace Go.Proofs.YtbpkfkbbkgdlaaaGreatDoor
open Go.RowKit
set_option linter.unusedVariables false
set_option linter.unusedSimpArgs false

/-- The prefixes with which a place can begin, with at most so many bytes. -/
def nearL (p : List Pfx) (place : ByteArray) (n : Nat) : List Nat := (List.range n).flatMap fun i => idxL p false (place.extract 0 (i + 1))
theorem nearL_succ (p : List Pfx) (place : ByteArray) (n : Nat) : nearL p place (n + 1) = nearL p place n ++ idxL p false (place.extract 0 (n + 1)) := by
 unfold nearL; rw [List.range_succ, List.flatMap_append]; simp
theorem idxL_len (p : List Pfx) (f : Bool) (s : ByteArray) : (idxL p f s).length ≤ p.length := by
 unfold idxL idxTo
 have h1 := List.length_filter_le (idxC p f s) (List.range p.length)
 rwa [List.length_range] at h1
theorem nearL_len (p : List Pfx) (place : ByteArray) : ∀ n, (nearL p place n).length ≤ n * p.length
 | 0 => by simp [nearL]
 | n + 1 => by
   rw [nearL_succ, List.length_append, Nat.add_mul]
   have := nearL_len p place n
   have := idxL_len p false (place.extract 0 (n + 1))
   omega
theorem natI_cat (a b : List Nat) : natI (a ++ b) = natI a ++ natI b := by unfold natI; simp
theorem natI_len (a : List Nat) : (natI a).length = a.length := by unfold natI; simp
theorem nint_cells {base : Nat} {w : World} {g c : Nat} {l : List Int} (h : IntsFrom base w (.slice (some ⟨g, 0, none⟩) l.length c) l) : ∀ j u, (l.map (Value.int .i64))[j]? = some u → w.cell? ((⟨g, 0, none⟩ : Addr).add j) = some u := by
 intro j u hu
 have hj : j < l.length := by
  have := (List.getElem?_eq_some_iff.1 hu).1
  rwa [List.length_map] at this
 have h1 := IntsFrom.at_ h j hj
 have hadd : (⟨g, 0, none⟩ : Addr).add j = ⟨g, j, none⟩ := by unfold Addr.add; split <;> simp_all
 rw [hadd, h1, ← hu]
 simp [hj]
theorem nint_ones (l : List Int) : ∀ u ∈ l.map (Value.int .i64), u.oneCell' = true := by
 intro u hu
 obtain ⟨x, _, rfl⟩ := List.mem_map.1 hu
 rfl
set_option maxRecDepth 100000 in
set_option maxHeartbeats 8000000 in
theorem tnear_ok (base base2 gT bB bW : Nat) (u v : Value) (l : List Ent) (p : List Pfx) (place : ByteArray) (w : World) (hT : TabFull base base2 gT bB bW u v l p w) (hlen : p.length ≤ 2000) (hpl : place.size ≤ 1000) :
 Calls Tryz.prog 65 #[.pointer (some ⟨gT, 0, none⟩), .string place] w fun r w' => ∃ z, r = .returned z ∧ IntsFrom w.heap.size w' z (natI (nearL p place (min 4 place.size))) ∧ w.grownBy w' none := by
 obtain ⟨i0, hi0, hz0, hz1, hz2⟩ := info_parts intInfo
 have HT := Lib.hid hT
 obtain ⟨M, hM⟩ : ∃ M, min 4 place.size = M := ⟨_, rfl⟩
 have hM4 : M ≤ 4 ∧ M ≤ place.size := by omega
 have hMi : min (4 : Int) (place.size : Int) = (M : Int) := by omega
 rw [hM]
 clear hM hT
 go_enter Tryz.func65, Tryz.ntmps65
 go_wp2_with fail
 go_loopw [5, 6] (fun ov iv wr => ∃ n : Nat, n ≤ M ∧ iv = .int .i64 ((n + 1 : Nat) : Int) ∧ IntsFrom w.heap.size wr ov (natI (nearL p place n)) ∧ w.grownBy wr none) (fun _ iv _ => 5 - (intOf iv).toNat)
 case atStart => exact ⟨0, by omega, rfl, IntsFrom.nil _ _, gr_refl _ _⟩
 case round =>
  obtain ⟨n, hn, rfl, hown, hg⟩ := hrel
  obtain ⟨N, hN⟩ : ∃ N, n + 1 = N := ⟨_, rfl⟩
  rw [hN]
  have HN := Lib.hid hN
  obtain ⟨A2, c2, rfl, hl2, _⟩ := hown.shape
  have hnl := nearL_len p place n
  have hnl2 : (natI (nearL p place n)).length ≤ 8000 := by
   rw [natI_len]
   have : n * p.length ≤ 4 * 2000 := Nat.mul_le_mul (by omega) hlen
   omega
  clear hnl hl2
  by_cases hlt : n < M
  ·have hNM : (N : Int) ≤ (M : Int) := by omega
   have hn1 : (0 : Int) ≤ (N : Int) := by omega
   have hn2 : (N : Int) ≤ (place.size : Int) := by omega
   have hn3 : N ≤ place.size := by omega
   have hnw : IntKind.i64.wrap ((N : Int) + 1) = ((N + 1 : Nat) : Int) := by rw [IntKind.wrap_i64]; omega
   have hes : (place.extract 0 N).size ≤ 1000000 := by rw [ByteArray.size_extract]; omega
   have hTr := HT.out.grown hg
   obtain ⟨nB, hmB⟩ := hTr.mB
   obtain ⟨uj, hju, hjn, hlk⟩ := hmB.look2 (place.extract 0 N) hes
   have hlk1 := hlk wr.drew none (gr_drew (gr_refl _ _)) (by simp)
   have hst : nearL p place (n + 1) = nearL p place n ++ idxL p false (place.extract 0 N) := by rw [nearL_succ, hN]
   have hjl := idxL_len p false (place.extract 0 N)
   have cT := hTr.cB
   have cTd : wr.drew.cell? ⟨gT, 2, none⟩ = some (.map (some bB)) := cT
   generalize hjj : idxL p false (place.extract 0 N) = js at *
   have HST := Lib.hid hst
   have hgT := World.block_lt_of_cell? _ _ cT
   have hszw := hg.size
   have hownD : World.ownsRow wr.drew w.heap.size 3 1 (.slice A2 (natI (nearL p place n)).length c2) (natI (nearL p place n)).length ((natI (nearL p place n)).map (Value.int .i64)) := IntsFrom.grown hown (gr_drew (gr_refl _ _))
   have hgTw : some gT ≠ (Value.slice A2 (natI (nearL p place n)).length c2).ownBlock := fun e => by
    have h1 := (hownD.lt _ e.symm).1
    have h2 : gT < w.heap.size := World.block_lt_of_cell? _ _ HT.out.cB
    omega
   have HOD := Lib.hid hownD
   have HGW := Lib.hid hgTw
   have hgd := gr_drew hg
   by_cases hj0 : js = []
   ·obtain rfl := hjn hj0
    have hnil : Hid (natI (nearL p place (n + 1)) = natI (nearL p place n)) := by show _ = _; rw [HST.out, hj0, List.append_nil]
    have hrel2 : IntsFrom w.heap.size wr.drew (.slice A2 (natI (nearL p place n)).length c2) (natI (nearL p place (n + 1))) := by rw [hnil.out]; exact HOD.out
    have HREL := Lib.hid hrel2
    generalize (natI (nearL p place n)).length = LN at *
    clear hrel2 hju hst hjn hlk hmB hTr hown hownD hgTw hjj hj0
    go_upto_region 5 with fail
    refine wp_region_held_drew (S := fun V => V.cell? ⟨gT, 2, none⟩ = some (.map (some bB))) (by kernel_rfl) cTd (fun hHeld => ?_)
    refine wpAnyH_take (i := 0) (v := ?_) rfl (by kernel_rfl) (by kernel_rfl) (by kernel_rfl) (fun _ _ _ h => h) (Or.inl ⟨by kernel_rfl, ?_⟩) hHeld ?_
    rotate_left
    ·intro w hSw
     (try dsimp only at hSw)
     go_simp
     (try with_reducible rfl)
    change wpAnyH _ _ _ _ _ _ _ (Act.put _ (some 14) _) _
    simp only [Act.put, ssA, ssZ, ssS]
    refine wpAnyH_take (i := 1) (v := ?_) rfl (by kernel_rfl) (by kernel_rfl) (by kernel_rfl) (fun _ _ _ h => h) (Or.inl ⟨by kernel_rfl, ?_⟩) hHeld ?_
    rotate_left
    ·intro w hSw
     (try dsimp only at hSw)
     go_simp
     (try with_reducible rfl)
    change wpAnyH _ _ _ _ _ _ _ (Act.put _ (some 15) _) _
    simp only [Act.put, ssA, ssZ, ssS]
    refine wpAnyH_take (i := 2) (v := ?_) rfl (by kernel_rfl) (by kernel_rfl) (by kernel_rfl) (fun _ _ _ h => h) (Or.inl ⟨by kernel_rfl, ?_⟩) hHeld ?_
    rotate_left
    ·intro w hSw
     (try dsimp only at hSw)
     go_simp
     (try with_reducible rfl)
    change wpAnyH _ _ _ _ _ _ _ (Act.put _ (some 16) _) _
    simp only [Act.put, ssA, ssZ, ssS]
    refine wpAnyH_take (i := 3) (v := ?_) rfl (by kernel_rfl) (by kernel_rfl) (by kernel_rfl) (fun _ _ _ h => h) (Or.inl ⟨by kernel_rfl, ?_⟩) hHeld ?_
    rotate_left
    ·intro w hSw
     (try dsimp only at hSw)
     go_simp
     (try with_reducible rfl)
    change wpAnyH _ _ _ _ _ _ _ (Act.put _ (some 17) _) _
    simp only [Act.put, ssA, ssZ, ssS]
    refine wpAnyH_take (i := 4) (v := ?_) rfl (by kernel_rfl) (by kernel_rfl) (by kernel_rfl) (fun _ _ _ h => h) (Or.inl ⟨by kernel_rfl, ?_⟩) hHeld ?_
    rotate_left
    ·intro w hSw
     (try dsimp only at hSw)
     go_simp
     (try with_reducible rfl)
    change wpAnyH _ _ _ _ _ _ _ (Act.put _ (some 18) _) _
    simp only [Act.put, ssA, ssZ, ssS]
    refine wpAnyH_take (i := 5) (v := ?_) rfl (by kernel_rfl) (by kernel_rfl) (by kernel_rfl) (fun _ _ _ h => h) (Or.inl ⟨by kernel_rfl, ?_⟩) hHeld ?_
    rotate_left
    ·intro w hSw
     (try dsimp only at hSw)
     go_simp
     (try with_reducible rfl)
    change wpAnyH _ _ _ _ _ _ _ (Act.put _ (some 19) _) _
    simp only [Act.put, ssA, ssZ, ssS]
    refine wpAnyH_take (i := 6) (v := ?_) rfl (by kernel_rfl) (by kernel_rfl) (by kernel_rfl) (fun _ _ _ h => h) (Or.inl ⟨by kernel_rfl, ?_⟩) hHeld ?_
    rotate_left
    ·intro w hSw
     (try dsimp only at hSw)
     go_simp
     (try with_reducible rfl)
    change wpAnyH _ _ _ _ _ _ _ (Act.put _ (some 20) _) _
    simp only [Act.put, ssA, ssZ, ssS]
    refine wpAnyH_take (i := 7) (v := ?_) rfl (by kernel_rfl) (by kernel_rfl) (by kernel_rfl) (fun _ _ _ h => h) (Or.inl ⟨by kernel_rfl, ?_⟩) hHeld ?_
    rotate_left
    ·intro w hSw
     (try dsimp only at hSw)
     go_simp
     (try with_reducible rfl)
    change wpAnyH _ _ _ _ _ _ _ (Act.put _ (some 21) _) _
    simp only [Act.put, ssA, ssZ, ssS]
    refine wpAnyH_ready (rs := [8]) (by kernel_rfl) (by simp) ?_
    refine AllReadyH.cons (o := _) rfl (fun K hK => ?_) AllReadyH.nil
    go_simp
    refine hK.out _ _ cTd (fun hHeld8 => ?_)
    clear hK K
    (try simp only [Act.put, ssA, ssZ, ssS])
    refine wpAnyH_ready (rs := [9]) (by kernel_rfl) (by simp) ?_
    refine AllReadyH.cons (o := _) rfl (fun K hK => ?_) AllReadyH.nil
    refine step_append_none (by rfl) (.tmp 14) (.tmp 22) 22 (by rfl) w.heap.size 3 i0 1 Tryz.underlying22 hi0 _ LN _ (by simp [Act.eval]) HOD.out (by simp [Act.eval]) ?_
    refine hK.out _ _ cTd (fun hHeld9 => ?_)
    clear hK K
    (try simp only [Act.put, ssA, ssZ, ssS])
    refine wpAnyH_take (i := 10) (v := ?_) rfl (by kernel_rfl) (by kernel_rfl) (by kernel_rfl) (fun _ _ _ h => h) (Or.inl ⟨by kernel_rfl, ?_⟩) hHeld9 ?_
    rotate_left
    ·intro w hSw
     (try dsimp only at hSw)
     go_simp
     (try with_reducible rfl)
    change wpAnyH _ _ _ _ _ _ _ (Act.put _ (some 5) _) _
    simp only [Act.put, ssA, ssZ, ssS]
    refine wpAnyH_done (by kernel_rfl) ?_ _
    go_wp2_with fail
    go_roundw
    case rel => exact ⟨n + 1, by omega, by rw [HN.out]; first | rfl | go_num, HREL.out, hgd⟩
    case measure => simp [intOf]; omega
   ·obtain ⟨A, c, rfl, hjl2, hjA⟩ := hju.shape
    have hjp : 0 < js.length := List.length_pos_iff.2 hj0
    obtain ⟨gj, rfl, hgjb, _⟩ := hjA (by rw [natI_len]; exact hjp)
    have hcs := nint_cells (IntsFrom.grown hju (gr_drew (gr_refl wr none)))
    rw [natI_len] at hlk1 hju
    have HCS := Lib.hid hcs
    clear hju hst hjn hlk hmB hTr hown hownD hgTw hjj hj0 hjA hjl2 hcs
    go_upto_region 5 with fail
    refine wp_region_held_drew (S := fun V => V.cell? ⟨gT, 2, none⟩ = some (.map (some bB))) (by kernel_rfl) cTd (fun hHeld => ?_)
    refine wpAnyH_take (i := 0) (v := ?_) rfl (by kernel_rfl) (by kernel_rfl) (by kernel_rfl) (fun _ _ _ h => h) (Or.inl ⟨by kernel_rfl, ?_⟩) hHeld ?_
    rotate_left
    ·intro w hSw
     (try dsimp only at hSw)
     go_simp
     (try with_reducible rfl)
    change wpAnyH _ _ _ _ _ _ _ (Act.put _ (some 14) _) _
    simp only [Act.put, ssA, ssZ, ssS]
    refine wpAnyH_take (i := 1) (v := ?_) rfl (by kernel_rfl) (by kernel_rfl) (by kernel_rfl) (fun _ _ _ h => h) (Or.inl ⟨by kernel_rfl, ?_⟩) hHeld ?_
    rotate_left
    ·intro w hSw
     (try dsimp only at hSw)
     go_simp
     (try with_reducible rfl)
    change wpAnyH _ _ _ _ _ _ _ (Act.put _ (some 15) _) _
    simp only [Act.put, ssA, ssZ, ssS]
    refine wpAnyH_take (i := 2) (v := ?_) rfl (by kernel_rfl) (by kernel_rfl) (by kernel_rfl) (fun _ _ _ h => h) (Or.inl ⟨by kernel_rfl, ?_⟩) hHeld ?_
    rotate_left
    ·intro w hSw
     (try dsimp only at hSw)
     go_simp
     (try with_reducible rfl)
    change wpAnyH _ _ _ _ _ _ _ (Act.put _ (some 16) _) _
    simp only [Act.put, ssA, ssZ, ssS]
    refine wpAnyH_take (i := 3) (v := ?_) rfl (by kernel_rfl) (by kernel_rfl) (by kernel_rfl) (fun _ _ _ h => h) (Or.inl ⟨by kernel_rfl, ?_⟩) hHeld ?_
    rotate_left
    ·intro w hSw
     (try dsimp only at hSw)
     go_simp
     (try with_reducible rfl)
    change wpAnyH _ _ _ _ _ _ _ (Act.put _ (some 17) _) _
    simp only [Act.put, ssA, ssZ, ssS]
    refine wpAnyH_take (i := 4) (v := ?_) rfl (by kernel_rfl) (by kernel_rfl) (by kernel_rfl) (fun _ _ _ h => h) (Or.inl ⟨by kernel_rfl, ?_⟩) hHeld ?_
    rotate_left
    ·intro w hSw
     (try dsimp only at hSw)
     go_simp
     (try with_reducible rfl)
    change wpAnyH _ _ _ _ _ _ _ (Act.put _ (some 18) _) _
    simp only [Act.put, ssA, ssZ, ssS]
    refine wpAnyH_take (i := 5) (v := ?_) rfl (by kernel_rfl) (by kernel_rfl) (by kernel_rfl) (fun _ _ _ h => h) (Or.inl ⟨by kernel_rfl, ?_⟩) hHeld ?_
    rotate_left
    ·intro w hSw
     (try dsimp only at hSw)
     go_simp
     (try with_reducible rfl)
    change wpAnyH _ _ _ _ _ _ _ (Act.put _ (some 19) _) _
    simp only [Act.put, ssA, ssZ, ssS]
    refine wpAnyH_take (i := 6) (v := ?_) rfl (by kernel_rfl) (by kernel_rfl) (by kernel_rfl) (fun _ _ _ h => h) (Or.inl ⟨by kernel_rfl, ?_⟩) hHeld ?_
    rotate_left
    ·intro w hSw
     (try dsimp only at hSw)
     go_simp
     (try with_reducible rfl)
    change wpAnyH _ _ _ _ _ _ _ (Act.put _ (some 20) _) _
    simp only [Act.put, ssA, ssZ, ssS]
    refine wpAnyH_take (i := 7) (v := ?_) rfl (by kernel_rfl) (by kernel_rfl) (by kernel_rfl) (fun _ _ _ h => h) (Or.inl ⟨by kernel_rfl, ?_⟩) hHeld ?_
    rotate_left
    ·intro w hSw
     (try dsimp only at hSw)
     go_simp
     (try with_reducible rfl)
    change wpAnyH _ _ _ _ _ _ _ (Act.put _ (some 21) _) _
    simp only [Act.put, ssA, ssZ, ssS]
    refine wpAnyH_ready (rs := [8]) (by kernel_rfl) (by simp) ?_
    refine AllReadyH.cons (o := _) rfl (fun K hK => ?_) AllReadyH.nil
    go_simp
    refine hK.out _ _ cTd (fun hHeld8 => ?_)
    clear hK K
    (try simp only [Act.put, ssA, ssZ, ssS])
    refine wpAnyH_ready (rs := [9]) (by kernel_rfl) (by simp) ?_
    refine AllReadyH.cons (o := _) rfl (fun K hK => ?_) AllReadyH.nil
    refine step_append_lies _ (by rfl) (.tmp 14) (.tmp 22) 22 (by rfl) w.heap.size 3 i0 _ 1 8 Tryz.underlying22 hi0 hz0 hz1 hz2 rfl (by decide) _ _ _ (by simp [Act.eval]) HOD.out ⟨gj, 0, none⟩ js.length c ((natI js).map (Value.int .i64)) (by simp [Act.eval]) (by rw [List.length_map, natI_len, Nat.mul_one]) HCS.out (nint_ones _) hjp (by unfold maxLen; omega) (by omega) (by show _ ≤ wr.heap.size; omega) _ rfl ?_
    intro g9 cap w9 hown9 hg9 hat hglt
    have cT9 : w9.cell? ⟨gT, 2, none⟩ = some (.map (some bB)) := hg9.cell cTd HGW.out
    refine hK.out _ _ cT9 (fun hHeld9 => ?_)
    clear hK K
    (try simp only [Act.put, ssA, ssZ, ssS])
    refine wpAnyH_take (i := 10) (v := ?_) rfl (by kernel_rfl) (by kernel_rfl) (by kernel_rfl) (fun _ _ _ h => h) (Or.inl ⟨by kernel_rfl, ?_⟩) hHeld9 ?_
    rotate_left
    ·intro w hSw
     (try dsimp only at hSw)
     go_simp
     (try with_reducible rfl)
    change wpAnyH _ _ _ _ _ _ _ (Act.put _ (some 5) _) _
    simp only [Act.put, ssA, ssZ, ssS]
    refine wpAnyH_done (by kernel_rfl) ?_ _
    have hown4 : IntsFrom w.heap.size w9 (.slice (some ⟨g9, 0, none⟩) ((natI (nearL p place n)).length + js.length) cap) (natI (nearL p place (n + 1))) := by
     rw [HST.out, natI_cat]
     unfold IntsFrom
     rw [List.map_append, List.length_append, natI_len js]
     exact hown9
    have hG9 : w.grownBy w9 none := gr_grown hgd hg9 (fun g e => .inr (by have := (HOD.out.lt g e).1; omega))
    go_wp2_with fail
    go_roundw
    case rel => exact ⟨n + 1, by omega, by rw [HN.out]; first | rfl | go_num, hown4, hG9⟩
    case measure => simp [intOf]; omega
  ·obtain rfl : n = M := by omega
   have hNM : ¬ (N : Int) ≤ (n : Int) := by omega
   go_wp2_with fail
   go_ret
   exact ⟨_, rfl, hown, hg⟩
theorem int_own {w : World} {g base : Nat} {x : Int} (h : Blk w g 3 #[.int .i64 x]) (hb : base ≤ g) : IntsFrom base w (.slice (some ⟨g, 0, none⟩) 1 1) [x] :=
 ⟨by simp, .inr ⟨g, 1, _, rfl, hb, h, Nat.le_refl _, by unfold maxLen; simp, by simp, rfl⟩⟩
def tmL (l : List Ent) (p : List Pfx) (j : Nat) : List Int := match p[j]? with | none => [] | some x => [tmA l x, tmZ l x]
def betB (a z : Int) (n : Int) : Bool := decide (a < n) && decide (n < z)
/-- The moments between two at which some prefixes begin or end to count. -/
def edgI (l : List Ent) (p : List Pfx) (js : List Nat) (a z : Int) : List Int := js.flatMap fun j => (tmL l p j).filter (betB a z)
theorem edgI_step (l : List Ent) (p : List Pfx) (js : List Nat) (a z : Int) (k : Nat) (h : k < js.length) (hj : js[k] < p.length) : edgI l p (js.take (k + 1)) a z = edgI l p (js.take k) a z ++ [tmA l p[js[k]], tmZ l p[js[k]]].filter (betB a z) := by
 unfold edgI
 rw [List.take_succ_eq_append_getElem h, List.flatMap_append]
 simp [tmL, List.getElem?_eq_getElem hj]
theorem edgI_len (l : List Ent) (p : List Pfx) (a z : Int) : ∀ js : List Nat, (edgI l p js a z).length ≤ 2 * js.length
 | [] => by simp [edgI]
 | j :: r => by
   have ih := edgI_len l p a z r
   unfold edgI at ih ⊢
   rw [List.flatMap_cons, List.length_append, List.length_cons]
   have h1 := List.length_filter_le (betB a z) (tmL l p j)
   have h2 : (tmL l p j).length ≤ 2 := by unfold tmL; split <;> simp
   omega
/-- The edges of some prefixes. -/
def edgL (l : List Ent) (p : List Pfx) (js : List Nat) (a z : Int) : List Int := compI (sortI (a :: edgI l p js a z))
set_option maxRecDepth 100000 in
set_option maxHeartbeats 8000000 in
theorem edges_ok (base base2 gT : Nat) (u v s : Value) (l : List Ent) (p : List Pfx) (js : List Nat) (a z : Int) (w : World) (hT : TabAt base gT u v l p w) (hO : TabOk l p) (hs : IntsFrom base2 w s (natI js)) (hjs : ∀ j ∈ js, j < p.length) (hjn : js.length ≤ 100000) :
 Calls Tryz.prog 63 #[.pointer (some ⟨gT, 0, none⟩), s, .int .i64 a, .int .i64 z] w fun r w' => ∃ y, r = .returned y ∧ IntsFrom w.heap.size w' y (edgL l p js a z) ∧ w.grownBy w' none := by
 obtain ⟨i0, hi0, hz0, hz1, hz2⟩ := info_parts intInfo
 obtain ⟨A, c, rfl, hlen, hA⟩ := hs.shape
 have hml : (natI js).length = js.length := natI_len js
 rw [hml] at hlen hA hs
 have HS := Lib.hid hs
 have HML := Lib.hid hml
 have HA := Lib.hid hA
 have HT := Lib.hid hT
 rw [hml]
 have hg0 := World.grownBy_alloc w (.cells #[.int .i64 a] 3) none
 have hown0 := int_own (Blk.new w 3 #[.int .i64 a]) (Nat.le_refl w.heap.size)
 obtain ⟨RR, hRR⟩ : ∃ RR, edgL l p js a z = RR := ⟨_, rfl⟩
 have HED : Hid (RR = compI (sortI (a :: edgI l p js a z))) := hRR.symm
 rw [hRR]
 clear hRR
 clear hs hA hT hml
 go_enter Tryz.func63, Tryz.ntmps63
 go_upto_region 2 with fail
 generalize w.alloc (.cells #[.int .i64 a] 3) = w1 at *
 obtain ⟨b3, hb3⟩ : ∃ x, w.heap.size = x := ⟨_, rfl⟩
 rw [hb3] at hown0 ⊢
 have HB3 := Lib.hid hb3
 clear hb3
 go_wp2_with fail
 go_loopw [9, 19] (fun ov kv wr => ∃ k : Nat, k ≤ js.length ∧ kv = .int .i64 k ∧ IntsFrom b3 wr ov (a :: edgI l p (js.take k) a z) ∧ w.grownBy wr none) (fun _ kv _ => js.length - (intOf kv).toNat)
 case atStart => exact ⟨0, by omega, rfl, hown0, hg0⟩
 case round =>
  obtain ⟨k, hk, rfl, hown, hg⟩ := hrel
  clear hown0 hg0
  obtain ⟨A2, c2, rfl, _, _⟩ := hown.shape
  generalize hLN : (a :: edgI l p (js.take k) a z).length = LN at *
  have HLN := Lib.hid hLN
  clear hLN
  by_cases hlt : k < js.length
  ·have hki : (k : Int) < (js.length : Int) := by omega
   obtain ⟨gj, rfl, _, hgl⟩ := HA.out (by omega)
   have hat := IntsFrom.at_ (l := natI js) (g := gj) (c := c) (by rw [HML.out]; exact HS.out.grown hg) k (by rw [HML.out]; exact hlt)
   rw [show (natI js)[k]'(by rw [HML.out]; exact hlt) = (js[k] : Int) by simp [natI]] at hat
   have hJp := hjs _ (List.getElem_mem hlt)
   have hst := edgI_step l p js a z k hlt hJp
   have HTM : Hid (∀ W, w.grownBy W none → Calls Tryz.prog 114 #[.pointer (some ⟨gT, 0, none⟩), .int .i64 (js[k] : Int)] W fun r w' => r = .returned (.agg #[.int .i64 (tmA l p[js[k]]), .int .i64 (tmZ l p[js[k]])]) ∧ W.grownBy w' none) := fun W hW => time_ok base gT u v l p js[k] W (HT.out.grown hW) hO hJp
   have hel := edgI_len l p a z (js.take k)
   rw [List.length_take] at hel
   generalize hX : edgI l p (js.take k) a z = X at *
   generalize tmA l p[js[k]] = TA at *
   generalize tmZ l p[js[k]] = TZ at *
   generalize js[k] = J at *
   have HST := Lib.hid hst
   have hXn : X.length ≤ 200000 := by omega
   clear hst hX hel
   go_wp2_with fail
   refine (HTM.out _ hg).mono ?_
   rintro _ w2 ⟨rfl, hg2⟩
   have hgw2 := gr_trans hg hg2
   have hown2 := hown.grown hg2
   have hD := Blk.new w2 70 #[.int .i64 TA, .int .i64 TZ]
   have hgD := World.grownBy_alloc w2 (.cells #[.int .i64 TA, .int .i64 TZ] 70) none
   have hgw3 := gr_trans hgw2 hgD
   have hown3 := hown2.grown hgD
   clear hown hown2 hg2 hat hg
   go_upto_region 6 with fail
   generalize w2.alloc (.cells #[.int .i64 TA, .int .i64 TZ] 70) = w3 at *
   have d0 := hD.cell 0
   have d1 := hD.cell 1
   simp only [List.getElem?_toArray, List.getElem?_cons_zero, List.getElem?_cons_succ] at d0 d1
   have hB := Blk.new w3 3 #[.int .i64 TA, .int .i64 TZ]
   have hgB := World.grownBy_alloc w3 (.cells #[.int .i64 TA, .int .i64 TZ] 3) none
   have hgw4 := gr_trans hgw3 hgB
   have hown4 := hown3.grown hgB
   have hnb : some w3.heap.size ≠ (Value.slice A2 LN c2).ownBlock := fun e => by
    have := (hown3.lt _ e.symm).2
    omega
   clear hown3
   go_upto_region 7 with fail
   generalize w3.alloc (.cells #[.int .i64 TA, .int .i64 TZ] 3) = w4 at *
   generalize w3.heap.size = gB at *
   go_loopw [9, 32] (fun ov mv wi => ∃ m : Nat, m ≤ 2 ∧ mv = .int .i64 m ∧ IntsFrom b3 wi ov (a :: (X ++ ([TA, TZ].take m).filter (betB a z))) ∧ some gB ≠ ov.ownBlock ∧ Blk wi gB 3 #[.int .i64 TA, .int .i64 TZ] ∧ w.grownBy wi none) (fun _ mv _ => 2 - (intOf mv).toNat)
   case atStart => exact ⟨0, by omega, rfl, by simpa using hown4, hnb, hB, hgw4⟩
   case round =>
    obtain ⟨m, hm, rfl, howi, hnbi, hBi, hgi⟩ := hrel
    clear hown4 hnb hB hgw4 hgw3 hgw2 hgB hgD
    by_cases hm2 : m < 2
    ·have hmi : (m : Int) < 2 := by omega
     have hfs := filter_step (betB a z) [TA, TZ] m (by simpa using hm2)
     have hcm : wr.cell? ⟨gB, m, none⟩ = some (.int .i64 ([TA, TZ][m]'(by simpa using hm2))) := by
      rw [hBi.cell m]
      rcases (show m = 0 ∨ m = 1 by omega) with rfl | rfl <;> rfl
     obtain ⟨A4, c4, rfl, _, _⟩ := howi.shape
     have hln : (a :: (X ++ ([TA, TZ].take m).filter (betB a z))).length ≤ 300000 := by
      have h1 := List.length_filter_le (betB a z) ([TA, TZ].take m)
      rw [List.length_take] at h1
      simp only [List.length_cons, List.length_append, List.length_nil] at h1 ⊢
      omega
     generalize hfm : ([TA, TZ].take m).filter (betB a z) = FM at *
     generalize hlm : (a :: (X ++ FM)).length = LM at *
     have HLM := Lib.hid hlm
     clear hlm
     generalize [TA, TZ][m]'(by simpa using hm2) = NN at *
     have HFS := Lib.hid hfs
     have hszi := hgi.size
     have HOWI : Hid (World.ownsRow wr b3 3 1 (.slice A4 LM c4) LM ((a :: (X ++ FM)).map (Value.int .i64))) := by
      show World.ownsRow _ _ _ _ _ _ _
      have := howi
      unfold IntsFrom at this
      rw [HLM.out] at this
      exact this
     clear hfs hfm
     --A(
     by_cases hbt : a < NN ∧ NN < z
     ·obtain ⟨hb1, hb2⟩ := hbt
      have HFN : Hid (([TA, TZ].take (m + 1)).filter (betB a z) = FM ++ [NN]) := by
       show _ = _
       rw [HFS.out, if_pos (by unfold betB; simp [hb1, hb2])]
      go_upto_region 10 with fail
      go_wp2_with (at_builtin; refine wpList_append_lies _ rfl _ _ 22 rfl b3 3 i0 _ 1 8 Tryz.underlying22 hi0 hz0 hz1 hz2 rfl (by decide) _ LM _ rfl (World.ownsRow.alloc HOWI.out _) ⟨_, 0, none⟩ 1 1 [.int .i64 NN] rfl rfl (one_cell _ NN _) (one_oneCell NN) (by decide) (by unfold maxLen; omega) (by omega) (by have := HB3.out; simp; omega) _ rfl ?_; intro g9 cap w9 hown9 hg9 hat9 hgl9)
      have hB9 := (hBi.alloc _).grown hg9 hnbi
      have hG9 : w.grownBy w9 none := gr_grown (gr_alloc hgi _) hg9 (fun g e => .inr (by have := (howi.lt g e).1; have := HB3.out; omega))
      have hnb9 : some gB ≠ (Value.slice (some ⟨g9, 0, none⟩) (LM + 1) cap).ownBlock := fun e => by
       have e2 : gB = g9 := by simpa [Value.ownBlock] using e
       rcases hat9 with h | h
       ·exact hnbi (by rw [e2]; exact h.symm)
       ·have := hBi.lt
        simp at h
        omega
      have hrow9 : IntsFrom b3 w9 (.slice (some ⟨g9, 0, none⟩) (LM + 1) cap) (a :: (X ++ ([TA, TZ].take (m + 1)).filter (betB a z))) := by
       rw [HFN.out]
       unfold IntsFrom
       have hl1 : (a :: (X ++ (FM ++ [NN]))).length = LM + 1 := by have := HLM.out; simp at this ⊢; omega
       rw [hl1]
       simpa using hown9
      go_wp2_with fail
      go_roundw
      case rel => exact ⟨m + 1, by omega, by go_num, hrow9, hnb9, hB9, hG9⟩
      case measure => simp [intOf]; omega
     ·have HFN : Hid (([TA, TZ].take (m + 1)).filter (betB a z) = FM) := by
       show _ = _
       rw [HFS.out, if_neg (by unfold betB; simpa using hbt)]
      have hrow9 : IntsFrom b3 wr (.slice A4 LM c4) (a :: (X ++ ([TA, TZ].take (m + 1)).filter (betB a z))) := by
       rw [HFN.out]
       exact howi
      by_cases hb1 : a < NN
      ·have hb2 : ¬ NN < z := fun h => hbt ⟨hb1, h⟩
       clear hbt
       go_wp2_with fail
       go_roundw
       case rel => exact ⟨m + 1, by omega, by go_num, hrow9, hnbi, hBi, hgi⟩
       case measure => simp [intOf]; omega
      ·clear hbt
       go_wp2_with fail
       go_roundw
       case rel => exact ⟨m + 1, by omega, by go_num, hrow9, hnbi, hBi, hgi⟩
       case measure => simp [intOf]; omega
     --A)
    ·have hmi : ¬ (m : Int) < 2 := by omega
     --A(
     obtain rfl : m = 2 := by omega
     have hrowE := howi
     rw [show (a :: (X ++ ([TA, TZ].take 2).filter (betB a z))) = a :: edgI l p (js.take (k + 1)) a z by rw [HST.out]; rfl] at hrowE
     go_wp2_with fail
     go_roundw
     case rel => exact ⟨k + 1, by omega, by go_num, hrowE, hgi⟩
     case measure => simp [intOf]; omega
     --A)
  ·obtain rfl : k = js.length := by omega
   have hkl : ¬ (js.length : Int) < (js.length : Int) := by omega
   --A(
   rw [List.take_length] at hown
   have hel := edgI_len l p a z js
   have hre := HED.out
   generalize edgI l p js a z = X at *
   have HSO := Lib.hid (sort_own b3 _ (a :: X) wr hown (by simp; omega))
   have hsl : (sortI (a :: X)).length = (a :: X).length := sortI_len _
   generalize sortI (a :: X) = Y at *
   have HRE := Lib.hid hre
   have hrow : ∀ g, (Value.slice A2 LN c2).ownBlock = some g → b3 ≤ g := fun g e => (hown.lt g e).1
   have HRW := Lib.hid hrow
   clear hown hrow hre HED
   go_wp2_with fail
   refine HSO.out.mono ?_
   rintro _ w2 ⟨rfl, hown2, hg2⟩
   have hG2 : w.grownBy w2 none := gr_grown hg hg2 (fun g e => .inr (by have := HRW.out g e; have := HB3.out; omega))
   have HCO := Lib.hid (compact_own b3 _ Y w2 hown2 (by simp at hsl; omega))
   clear hown2 hsl
   go_wp2_with fail
   refine HCO.out.mono ?_
   rintro _ w3 ⟨y, rfl, hown3, hg3⟩
   go_wp2_with fail
   go_ret
   rw [← HB3.out, ← HRE.out] at hown3
   exact ⟨y, rfl, hown3, gr_grown hG2 hg3 (fun g e => .inr (by have := HRW.out g e; have := HB3.out; omega))⟩
   --A)
end Go.Proofs.YtbpkfkbbkgdlaaaGreatDoor
