/- The walk over a table's Find: it is the reference's FoundOf. Condition: a right table with its maps lies in memory; a right call sign. The walks over a table's near and edges. Condition: a right table with its maps lies in memory. When a call sign's entity changes: the edges of the prefixes that can count are enough (plain). No condition. The order of the prefixes of a right table; the one that counts longest, told of elements (plain). No condition. What Tidy leaves tells of all call signs what the table told, and nothing in it overlaps (plain). No condition. The walks over call.Is, call.Distance and call.CheckCalls. Condition: strings of ASCII of at most 100 bytes. -/
import Derived.Test.YtbpkfkbbkgdlaaaGreatDoorPKeepak
import Derived.Test.YtbpkfkbbkgdlaaaGreatDoorPKeepaj
import Derived.Test.YtbpkfkbbkgdlaaaGreatDoorPKeepad
import Derived.Test.YtbpkfkbbkgdlaaaGreatDoorPKeepaa
import Derived.Deep.AppendLies
import Derived.Deep.RegionHeld3
import Derived.StillTailTactics
import Derived.Lib.UnsafeStr
import Derived.Lib.AppendStr
import Derived.Maps.OwnSet
import Derived.Deep.DeepCutAuto
import Derived.Test.YtbpkfkbbkgdlaaaGreatDoorPKeepac
namespace Go.Proofs.YtbpkfkbbkgdlaaaGreatDoor
open Go.RowKit
set_option linter.unusedVariables false
set_option linter.unusedSimpArgs false

theorem TabRight.size {l : List Ent} {p : List Pfx} (h : TabRight l p) : ∀ x ∈ p, x.whole = false → 1 ≤ x.beg.size ∧ x.beg.size ≤ 4 := fun x hx hw => form_size (h.pfx x hx).form hw
theorem entD_key {l : List Ent} {s : ByteArray} (h : (entOf l s).isSome = true) : (entD l s).key = s := by
  obtain ⟨e, he⟩ := Option.isSome_iff_exists.1 h
  unfold entD
  rw [he]
  exact (entOf_mem he).2
theorem find_first {α : Type} (f : α → Bool) : ∀ (l : List α) (i : Nat) (h : i < l.length), f l[i] = true → (∀ j (hj : j < l.length), f l[j] = true → i ≤ j) → l.find? f = some l[i]
  | a :: r, 0, h, hf, _ => by rw [List.find?_cons]; simp at hf; simp [hf]
  | a :: r, i + 1, h, hf, hm => by
    have h0 : f a = false := by
      cases hc : f a with
      | false => rfl
      | true => have := hm 0 (by simp) (by simpa using hc); omega
    rw [List.find?_cons, h0]
    simp only [List.getElem_cons_succ]
    exact find_first f r i (by simpa using h) (by simpa using hf) (fun j hj hfj => by have := hm (j + 1) (by simpa using hj) (by simpa using hfj); omega)
theorem whl_idx (l : List Ent) (p : List Pfx) (s : ByteArray) (t : Int) : (cntI l p t (idxL p true s) < 0 ∧ whlOf l p s t = none) ∨ ∃ (i : Nat) (h : i < p.length), cntI l p t (idxL p true s) = i ∧ whlOf l p s t = some p[i] := by
  have hw : ∀ j (h : j < p.length), whlB l s t p[j] = true ↔ j ∈ idxL p true s ∧ cntB l p[j] t = true := fun j h => by
    unfold whlB
    rw [idxL_mem]
    constructor
    · intro h1
      simp only [Bool.and_eq_true, decide_eq_true_eq] at h1
      exact ⟨⟨h, h1.1, h1.2.1⟩, h1.2.2⟩
    · rintro ⟨⟨_, h1, h2⟩, h3⟩
      simp [h1, h2, h3]
  rcases cntI_spec l p t (idxL p true s) (idxL_sorted _ _ _) (fun j hj => (idxL_mem.1 hj).1) with ⟨h1, h2⟩ | ⟨i, hi, hil, h1, h2, h3⟩
  · refine .inl ⟨by omega, ?_⟩
    unfold whlOf
    rw [List.find?_eq_none]
    intro x hx hc
    obtain ⟨j, hj, rfl⟩ := List.mem_iff_getElem.1 hx
    obtain ⟨q1, q2⟩ := (hw j hj).1 hc
    have := h2 j q1 hj
    rw [q2] at this
    cases this
  · refine .inr ⟨i, hil, h1, ?_⟩
    unfold whlOf
    exact find_first _ p i hil ((hw i hil).2 ⟨hi, h2⟩) (fun j hj hc => by
      obtain ⟨q1, q2⟩ := (hw j hj).1 hc
      exact h3 j q1 ⟨hj, q2⟩)
theorem foundX_ok (base gT : Nat) (u v : Value) (l : List Ent) (p : List Pfx) (k : Nat) (w : World) (hT : TabAt base gT u v l p w) (hO : TabOk l p) (hlt : k < p.length) :
    Calls Tryz.prog 103 #[.pointer (some ⟨gT, 0, none⟩), .int .i64 k] w fun r w' => r = .returned (.agg #[.string (fndX l p[k]).1, .int .i64 (fndX l p[k]).2.1, .int .i64 (fndX l p[k]).2.2]) ∧ w.grownBy w' none :=
  (found_ok base gT u v l p k w hT hO hlt).mono fun r w' ⟨h1, h2⟩ => ⟨by
    rw [h1]
    show _ = Ending.returned (.agg #[.string (entD l p[k].ent).key, .int .i64 (entD l p[k].ent).cont, .int .i64 (fndZ l p[k])])
    rw [entD_key (hO.has _ (List.getElem_mem hlt))], h2⟩
set_option maxRecDepth 100000 in
set_option maxHeartbeats 16000000 in
theorem find_ok (base base2 gT bB bW : Nat) (u v : Value) (l : List Ent) (p : List Pfx) (s : ByteArray) (t : Int) (q : ByteArray × Nat × Int × ByteArray) (w : World) (hT : TabFull base base2 gT bB bW u v l p w) (hRt : TabRight l p) (hs : s.size ≤ 1000) (ha : Ascii s) (hq : partsOf s = some q) :
    Calls Tryz.prog 57 #[.pointer (some ⟨gT, 0, none⟩), .string s, .int .i64 t] w fun r w' => FndRet (fndOf l p s t q) r ∧ w.grownBy w' none := by
  have hqs := parts_size hq
  have hR := Blk.new w 38 #[.string ⟨#[]⟩, .int .i64 0, .int .i64 0]
  have hg0 := World.grownBy_alloc w (.cells #[.string ⟨#[]⟩, .int .i64 0, .int .i64 0] 38) none
  have HT := Lib.hid hT
  have hO := hRt.ok
  obtain ⟨O, hOO⟩ : ∃ O, fndOf l p s t q = O := ⟨_, rfl⟩
  rw [hOO]
  have HO := Lib.hid hOO
  obtain ⟨gR, hgR⟩ : ∃ x, w.heap.size = x := ⟨_, rfl⟩
  have HgR := Lib.hid hgR
  rw [hgR] at hR
  have HFIN : Hid (∀ (W : World) (K : ByteArray) (C Z : Int) (F : Bool), Blk W gR 38 #[.string ⟨#[]⟩, .int .i64 0, .int .i64 0] → w.grownBy W none →
      (((W.setCell ⟨gR, 0, none⟩ (.string K)).setCell ⟨gR, 1, none⟩ (.int .i64 C)).setCell ⟨gR, 2, none⟩ (.int .i64 Z)).cell? ⟨gR, 0, none⟩ = some (.string K) ∧ (((W.setCell ⟨gR, 0, none⟩ (.string K)).setCell ⟨gR, 1, none⟩ (.int .i64 C)).setCell ⟨gR, 2, none⟩ (.int .i64 Z)).cell? ⟨gR, 1, none⟩ = some (.int .i64 C) ∧ (((W.setCell ⟨gR, 0, none⟩ (.string K)).setCell ⟨gR, 1, none⟩ (.int .i64 C)).setCell ⟨gR, 2, none⟩ (.int .i64 Z)).cell? ⟨gR, 2, none⟩ = some (.int .i64 Z) ∧ w.grownBy (((W.setCell ⟨gR, 0, none⟩ (.string K)).setCell ⟨gR, 1, none⟩ (.int .i64 C)).setCell ⟨gR, 2, none⟩ (.int .i64 Z)) none) := fun W K C Z F hW hgW => by
    have hf := ((Blk.put hW 0 (.string K)).put 1 (.int .i64 C)).put 2 (.int .i64 Z)
    simp only [List.setIfInBounds_toArray, List.set_cons_zero, List.set_cons_succ] at hf
    have hle : w.heap.size ≤ gR := by omega
    exact ⟨hf.cell 0, hf.cell 1, hf.cell 2, gr_put (p := ⟨gR, 2, none⟩) (gr_put (p := ⟨gR, 1, none⟩) (gr_put (p := ⟨gR, 0, none⟩) hgW (.inr hle) (.string K)) (.inr hle) (.int .i64 C)) (.inr hle) (.int .i64 Z)⟩
  have HLD : Hid (∀ (n : Nat) (hn : n < p.length) W, w.grownBy W none → Calls Tryz.prog 103 #[.pointer (some ⟨gT, 0, none⟩), .int .i64 n] W fun r w' => r = .returned (.agg #[.string (fndX l p[n]).1, .int .i64 (fndX l p[n]).2.1, .int .i64 (fndX l p[n]).2.2]) ∧ W.grownBy w' none) := fun n hn W hW => foundX_ok base gT u v l p n W (hT.at_.grown hW) hO hn
  have HCN : Hid (∀ W, w.grownBy W none → ∀ uj, IntsFrom base2 W uj (natI (idxL p true s)) → Calls Tryz.prog 102 #[.pointer (some ⟨gT, 0, none⟩), uj, .int .i64 t] W fun r w' => r = .returned (.int .i64 (cntI l p t (idxL p true s))) ∧ W.grownBy w' none) := fun W hW uj hi => counting_ok base base2 gT u v uj l p _ t W (hT.at_.grown hW) hO hi (fun j hj => (idxL_mem.1 hj).1)
  obtain ⟨nW, hmW⟩ := hT.mW
  obtain ⟨uj, hju, _, hlk⟩ := hmW.look2 s (by omega)
  have hlk1 := hlk _ none hg0 (by simp)
  have HJU := Lib.hid (IntsFrom.grown hju hg0)
  have cW := hg0.cell hT.cW (by simp)
  have hwi := whl_idx l p s t
  obtain ⟨C0, hC0⟩ : ∃ x, cntI l p t (idxL p true s) = x := ⟨_, rfl⟩
  rw [hC0] at hwi HCN
  have HWI := Lib.hid hwi
  have HAS := Lib.hid ha
  have HQ := Lib.hid hq
  have HRT := Lib.hid hRt
  clear hT hOO hgR hlk hmW hju hwi hC0 hq ha hRt hO
  go_enter Tryz.func57, Tryz.ntmps57
  go_upto_region 1 with fail
  generalize w.alloc (.cells #[.string ⟨#[]⟩, .int .i64 0, .int .i64 0] 38) = w1 at *
  rw [HgR.out]
  go_wp2_with fail
  refine (HCN.out _ hg0 _ HJU.out).mono ?_
  rintro _ w2 ⟨rfl, hg2⟩
  have hgw := gr_trans hg0 hg2
  have hRr := hR.grown hg2 (by simp)
  clear hlk1 cW hR hg0
  rcases HWI.out with ⟨hneg, hwn⟩ | ⟨i, hil, rfl, hws⟩
  · have hneg2 : ¬ (0 : Int) ≤ C0 := by omega
    have hor : O = restOf l p t q := by rw [← HO.out]; unfold fndOf; rw [hwn]
    obtain ⟨T0, kk, KD, AD⟩ := q
    obtain ⟨z1, z2, z3⟩ := hqs
    simp only at z1 z2 z3
    have hPA : ∀ W, Calls Tryz.prog 62 #[.string s] W fun r w' => r = .returned (.tuple #[.agg #[.string T0, .string (T0.extract 0 (kk + 1)), .string (T0.extract (kk + 1) T0.size), .int .i64 KD, .string AD], .bool true]) ∧ W.grownBy w' none := fun W => (parts_any s W (by omega) HAS.out).mono fun r w' ⟨h1, h2⟩ => by
      rcases h2 with ⟨h3, _⟩ | ⟨t', k', kd', ad', h3, h4⟩
      · rw [HQ.out] at h3; simp at h3
      · rw [HQ.out] at h3
        simp only [Option.some.injEq, Prod.mk.injEq] at h3
        obtain ⟨rfl, rfl, rfl, rfl⟩ := h3
        exact ⟨h4, h1⟩
    unfold restOf at hor
    simp only at hor
    rw [lngTo_P l p t (-1) _ HRT.out.size] at hor
    rw [show (fun j : Nat => decide ((j : Int) = -1)) = fun _ => false from funext fun j => by rw [decide_eq_false_iff_not]; omega] at hor
    have y1 : (T0.extract 0 (kk + 1)).size ≤ 100 ∧ 1 ≤ (T0.extract 0 (kk + 1)).size := by rw [ByteArray.size_extract]; omega
    have y2 : (T0.extract (kk + 1) T0.size).size ≤ 100 := by rw [ByteArray.size_extract]; omega
    have hLN : ∀ W, w.grownBy W none → Calls Tryz.prog 104 #[.pointer (some ⟨gT, 0, none⟩), .string (plcOf T0 (T0.extract 0 (kk + 1)) (T0.extract (kk + 1) T0.size) AD KD), .int .i64 t, .nilFunc] W fun r w' => r = .returned (.int .i64 (lngP l p t (plcOf T0 (T0.extract 0 (kk + 1)) (T0.extract (kk + 1) T0.size) AD KD) fun _ => false)) ∧ W.grownBy w' none := fun W hW =>
      longest_nil base base2 gT bB bW u v l p _ t W (HT.out.grown hW) HRT.out.ok (by
        unfold plcOf
        split
        · omega
        · split
          · rw [ByteArray.size_append, ByteArray.size_append, ByteArray.size_extract]; omega
          · omega)
    have hbd := lngTo_bd l p (plcOf T0 (T0.extract 0 (kk + 1)) (T0.extract (kk + 1) T0.size) AD KD) t (-1) p.length
    rw [lngTo_P l p t (-1) _ HRT.out.size, show (fun j : Nat => decide ((j : Int) = -1)) = fun _ => false from funext fun j => by rw [decide_eq_false_iff_not]; omega] at hbd
    have HPO : Hid (∀ W, Calls Tryz.prog 66 #[.agg #[.string T0, .string (T0.extract 0 (kk + 1)), .string (T0.extract (kk + 1) T0.size), .int .i64 KD, .string AD]] W fun r w' => r = .returned (.string (plcOf T0 (T0.extract 0 (kk + 1)) (T0.extract (kk + 1) T0.size) AD KD)) ∧ W.grownBy w' none) := fun W => placeOf_any T0 _ _ AD KD W y1.1 y2 z2 y1.2
    generalize plcOf T0 (T0.extract 0 (kk + 1)) (T0.extract (kk + 1) T0.size) AD KD = PL at *
    generalize lngP l p t PL (fun _ => false) = LG at *
    generalize T0.extract 0 (kk + 1) = PRE at *
    generalize T0.extract (kk + 1) T0.size = SUF at *
    have HPA := Lib.hid hPA
    have HOR := Lib.hid hor
    have HLN := Lib.hid hLN
    have HBD := Lib.hid hbd
    clear hPA hor hLN hwn hneg hbd y1 y2
    go_wp2_with fail
    refine (HPA.out _).mono ?_
    rintro _ w3 ⟨rfl, hg3⟩
    have hX := Blk.new w3 105 #[.string T0, .string PRE, .string SUF, .int .i64 KD, .string AD]
    have hR4 := (Blk.grown hRr hg3 (by simp)).alloc (.cells #[.string T0, .string PRE, .string SUF, .int .i64 KD, .string AD] 105)
    have hg4 := gr_alloc (gr_trans hgw hg3) (.cells #[.string T0, .string PRE, .string SUF, .int .i64 KD, .string AD] 105)
    go_upto_region 5 with fail
    generalize w3.alloc (.cells #[.string T0, .string PRE, .string SUF, .int .i64 KD, .string AD] 105) = w4 at *
    generalize w3.heap.size = gX at *
    have x0 := Blk.cell hX 0
    have x1 := Blk.cell hX 1
    have x2 := Blk.cell hX 2
    have x3 := Blk.cell hX 3
    have x4 := Blk.cell hX 4
    have r0 := Blk.cell hR4 0
    have r1 := Blk.cell hR4 1
    have r2 := Blk.cell hR4 2
    have rf := Blk.free hR4
    simp only [List.getElem?_toArray, List.getElem?_cons_zero, List.getElem?_cons_succ] at x0 x1 x2 x3 x4 r0 r1 r2
    by_cases hk56 : KD = 5 ∨ KD = 6
    · have hON : O = none := by rw [HOR.out, if_pos hk56]
      subst hON
      obtain ⟨e0, e1, e2, e3⟩ := HFIN.out w4 ⟨#[]⟩ 0 0 false hR4 hg4
      rcases hk56 with rfl | rfl
      · go_wp2_with fail
        refine bodyPost_ret (v := .tuple #[.agg #[.string ⟨#[]⟩, .int .i64 0, .int .i64 0], .bool false]) (by simp [results, Tryz.results57, go_sem, e0, e1, e2]) rfl ?_
        exact ⟨rfl, e3⟩
      · go_wp2_with fail
        refine bodyPost_ret (v := .tuple #[.agg #[.string ⟨#[]⟩, .int .i64 0, .int .i64 0], .bool false]) (by simp [results, Tryz.results57, go_sem, e0, e1, e2]) rfl ?_
        exact ⟨rfl, e3⟩
    · have HK56 := Lib.hid hk56
      have b5 : (KD == 5) = false := by simp; omega
      have b6 : (KD == 6) = false := by simp; omega
      clear hk56
      go_wp2_with fail
      refine (HPO.out _).mono ?_
      rintro _ w5 ⟨rfl, hg5⟩
      have hR5 := Blk.grown (w := w4) hR4 hg5 (by simp)
      have hg45 := gr_trans hg4 hg5
      go_wp2_with fail
      refine (HLN.out _ hg45).mono ?_
      rintro _ w6 ⟨rfl, hg6⟩
      have hR6 := Blk.grown (g := gR) hR5 hg6 (by simp)
      have hgF := gr_trans hg45 hg6
      clear r0 r1 r2 rf x0 x1 x2 x3 x4 b5 b6
      have r0 := Blk.cell (g := gR) hR6 0
      have r1 := Blk.cell (g := gR) hR6 1
      have r2 := Blk.cell (g := gR) hR6 2
      have rf := Blk.free (g := gR) hR6
      simp only [List.getElem?_toArray, List.getElem?_cons_zero, List.getElem?_cons_succ] at r0 r1 r2
      by_cases hneg : LG < 0
      · have hON : O = none := by rw [HOR.out, if_neg HK56.out, if_pos hneg]
        subst hON
        obtain ⟨e0, e1, e2, e3⟩ := HFIN.out w6 ⟨#[]⟩ 0 0 false hR6 hgF
        go_wp2_with fail
        refine bodyPost_ret (v := .tuple #[.agg #[.string ⟨#[]⟩, .int .i64 0, .int .i64 0], .bool false]) (by simp [results, Tryz.results57, go_sem, e0, e1, e2]) rfl ?_
        exact ⟨rfl, e3⟩
      · obtain ⟨n, rfl⟩ : ∃ n : Nat, LG = n := ⟨LG.toNat, by have := HBD.out; omega⟩
        have hnl : n < p.length := by have := HBD.out.2; omega
        have hOS : O = some (fndX l p[n]) := by rw [HOR.out, if_neg HK56.out, if_neg hneg, Int.toNat_natCast, List.getElem?_eq_getElem hnl]; rfl
        have HLD1 := Lib.hid (HLD.out n hnl)
        have HOS := Lib.hid hOS
        clear hOS
        generalize fndX l p[n] = FX at *
        have hOS2 := HOS.out
        subst hOS2
        go_wp2_with fail
        refine (HLD1.out _ hgF).mono ?_
        rintro _ w7 ⟨rfl, hg7⟩
        have hR7 := Blk.grown (g := gR) hR6 hg7 (by simp)
        clear r0 r1 r2 rf
        have r0 := Blk.cell (g := gR) hR7 0
        have r1 := Blk.cell (g := gR) hR7 1
        have r2 := Blk.cell (g := gR) hR7 2
        have rf := Blk.free (g := gR) hR7
        simp only [List.getElem?_toArray, List.getElem?_cons_zero, List.getElem?_cons_succ] at r0 r1 r2
        obtain ⟨e0, e1, e2, e3⟩ := HFIN.out w7 FX.1 FX.2.1 FX.2.2 true hR7 (gr_trans hgF hg7)
        go_wp2_with fail
        refine bodyPost_ret (v := .tuple #[.agg #[.string FX.1, .int .i64 FX.2.1, .int .i64 FX.2.2], .bool true]) (by simp [results, Tryz.results57, go_sem, e0, e1, e2]) rfl ?_
        exact ⟨rfl, e3⟩
  · have hOS : O = some (fndX l p[i]) := by rw [← HO.out]; unfold fndOf; rw [hws]
    have HLD1 := Lib.hid (HLD.out i hil)
    have HOS := Lib.hid hOS
    have hi0 : (0 : Int) ≤ (i : Int) := by omega
    clear hOS hws
    generalize fndX l p[i] = FX at *
    have hOS2 := HOS.out
    subst hOS2
    go_wp2_with fail
    refine (HLD1.out _ hgw).mono ?_
    rintro _ w7 ⟨rfl, hg7⟩
    have hR7 := Blk.grown (g := gR) hRr hg7 (by simp)
    have r0 := Blk.cell (g := gR) hR7 0
    have r1 := Blk.cell (g := gR) hR7 1
    have r2 := Blk.cell (g := gR) hR7 2
    have rf := Blk.free (g := gR) hR7
    simp only [List.getElem?_toArray, List.getElem?_cons_zero, List.getElem?_cons_succ] at r0 r1 r2
    obtain ⟨e0, e1, e2, e3⟩ := HFIN.out w7 FX.1 FX.2.1 FX.2.2 true hR7 (gr_trans hgw hg7)
    go_wp2_with fail
    refine bodyPost_ret (v := .tuple #[.agg #[.string FX.1, .int .i64 FX.2.1, .int .i64 FX.2.2], .bool true]) (by simp [results, Tryz.results57, go_sem, e0, e1, e2]) rfl ?_
    exact ⟨rfl, e3⟩
end Go.Proofs.YtbpkfkbbkgdlaaaGreatDoor

namespace Go.Proofs.YtbpkfkbbkgdlaaaGreatDoor
open Go.RowKit
set_option linter.unusedVariables false
set_option linter.unusedSimpArgs false

/-- The prefixes with which a place can begin, with at most so many bytes. -/
def nearL (p : List Pfx) (place : ByteArray) (n : Nat) : List Nat := (List.range n).flatMap fun i => idxL p false (place.extract 0 (i + 1))
theorem nearL_succ (p : List Pfx) (place : ByteArray) (n : Nat) : nearL p place (n + 1) = nearL p place n ++ idxL p false (place.extract 0 (n + 1)) := by
  unfold nearL; rw [List.range_succ, List.flatMap_append]; simp
theorem idxL_len (p : List Pfx) (f : Bool) (s : ByteArray) : (idxL p f s).length ≤ p.length := by
  unfold idxL idxTo
  have h1 := List.length_filter_le (idxC p f s) (List.range p.length)
  rwa [List.length_range] at h1
theorem nearL_len (p : List Pfx) (place : ByteArray) : ∀ n, (nearL p place n).length ≤ n * p.length
  | 0 => by simp [nearL]
  | n + 1 => by
    rw [nearL_succ, List.length_append, Nat.add_mul]
    have := nearL_len p place n
    have := idxL_len p false (place.extract 0 (n + 1))
    omega
theorem natI_cat (a b : List Nat) : natI (a ++ b) = natI a ++ natI b := by unfold natI; simp
theorem natI_len (a : List Nat) : (natI a).length = a.length := by unfold natI; simp
theorem nint_cells {base : Nat} {w : World} {g c : Nat} {l : List Int} (h : IntsFrom base w (.slice (some ⟨g, 0, none⟩) l.length c) l) : ∀ j u, (l.map (Value.int .i64))[j]? = some u → w.cell? ((⟨g, 0, none⟩ : Addr).add j) = some u := by
  intro j u hu
  have hj : j < l.length := by
    have := (List.getElem?_eq_some_iff.1 hu).1
    rwa [List.length_map] at this
  have h1 := IntsFrom.at_ h j hj
  have hadd : (⟨g, 0, none⟩ : Addr).add j = ⟨g, j, none⟩ := by unfold Addr.add; split <;> simp_all
  rw [hadd, h1, ← hu]
  simp [hj]
theorem nint_ones (l : List Int) : ∀ u ∈ l.map (Value.int .i64), u.oneCell' = true := by
  intro u hu
  obtain ⟨x, _, rfl⟩ := List.mem_map.1 hu
  rfl
set_option maxRecDepth 100000 in
set_option maxHeartbeats 8000000 in
theorem tnear_ok (base base2 gT bB bW : Nat) (u v : Value) (l : List Ent) (p : List Pfx) (place : ByteArray) (w : World) (hT : TabFull base base2 gT bB bW u v l p w) (hlen : p.length ≤ 2000) (hpl : place.size ≤ 1000) :
    Calls Tryz.prog 65 #[.pointer (some ⟨gT, 0, none⟩), .string place] w fun r w' => ∃ z, r = .returned z ∧ IntsFrom w.heap.size w' z (natI (nearL p place (min 4 place.size))) ∧ w.grownBy w' none := by
  obtain ⟨i0, hi0, hz0, hz1, hz2⟩ := info_parts intInfo
  have HT := Lib.hid hT
  obtain ⟨M, hM⟩ : ∃ M, min 4 place.size = M := ⟨_, rfl⟩
  have hM4 : M ≤ 4 ∧ M ≤ place.size := by omega
  have hMi : min (4 : Int) (place.size : Int) = (M : Int) := by omega
  rw [hM]
  clear hM hT
  go_enter Tryz.func65, Tryz.ntmps65
  go_wp2_with fail
  go_loopw [5, 6] (fun ov iv wr => ∃ n : Nat, n ≤ M ∧ iv = .int .i64 ((n + 1 : Nat) : Int) ∧ IntsFrom w.heap.size wr ov (natI (nearL p place n)) ∧ w.grownBy wr none) (fun _ iv _ => 5 - (intOf iv).toNat)
  case atStart => exact ⟨0, by omega, rfl, IntsFrom.nil _ _, gr_refl _ _⟩
  case round =>
    obtain ⟨n, hn, rfl, hown, hg⟩ := hrel
    obtain ⟨N, hN⟩ : ∃ N, n + 1 = N := ⟨_, rfl⟩
    rw [hN]
    have HN := Lib.hid hN
    obtain ⟨A2, c2, rfl, hl2, _⟩ := hown.shape
    have hnl := nearL_len p place n
    have hnl2 : (natI (nearL p place n)).length ≤ 8000 := by
      rw [natI_len]
      have : n * p.length ≤ 4 * 2000 := Nat.mul_le_mul (by omega) hlen
      omega
    clear hnl hl2
    by_cases hlt : n < M
    · have hNM : (N : Int) ≤ (M : Int) := by omega
      have hn1 : (0 : Int) ≤ (N : Int) := by omega
      have hn2 : (N : Int) ≤ (place.size : Int) := by omega
      have hn3 : N ≤ place.size := by omega
      have hnw : IntKind.i64.wrap ((N : Int) + 1) = ((N + 1 : Nat) : Int) := by rw [IntKind.wrap_i64]; omega
      have hes : (place.extract 0 N).size ≤ 1000000 := by rw [ByteArray.size_extract]; omega
      have hTr := HT.out.grown hg
      obtain ⟨nB, hmB⟩ := hTr.mB
      obtain ⟨uj, hju, hjn, hlk⟩ := hmB.look2 (place.extract 0 N) hes
      have hlk1 := hlk wr.drew none (gr_drew (gr_refl _ _)) (by simp)
      have hst : nearL p place (n + 1) = nearL p place n ++ idxL p false (place.extract 0 N) := by rw [nearL_succ, hN]
      have hjl := idxL_len p false (place.extract 0 N)
      have cT := hTr.cB
      have cTd : wr.drew.cell? ⟨gT, 2, none⟩ = some (.map (some bB)) := cT
      generalize hjj : idxL p false (place.extract 0 N) = js at *
      have HST := Lib.hid hst
      have hgT := World.block_lt_of_cell? _ _ cT
      have hszw := hg.size
      have hownD : World.ownsRow wr.drew w.heap.size 3 1 (.slice A2 (natI (nearL p place n)).length c2) (natI (nearL p place n)).length ((natI (nearL p place n)).map (Value.int .i64)) := IntsFrom.grown hown (gr_drew (gr_refl _ _))
      have hgTw : some gT ≠ (Value.slice A2 (natI (nearL p place n)).length c2).ownBlock := fun e => by
        have h1 := (hownD.lt _ e.symm).1
        have h2 : gT < w.heap.size := World.block_lt_of_cell? _ _ HT.out.cB
        omega
      have HOD := Lib.hid hownD
      have HGW := Lib.hid hgTw
      have hgd := gr_drew hg
      by_cases hj0 : js = []
      · obtain rfl := hjn hj0
        have hnil : Hid (natI (nearL p place (n + 1)) = natI (nearL p place n)) := by show _ = _; rw [HST.out, hj0, List.append_nil]
        have hrel2 : IntsFrom w.heap.size wr.drew (.slice A2 (natI (nearL p place n)).length c2) (natI (nearL p place (n + 1))) := by rw [hnil.out]; exact HOD.out
        have HREL := Lib.hid hrel2
        generalize (natI (nearL p place n)).length = LN at *
        clear hrel2 hju hst hjn hlk hmB hTr hown hownD hgTw hjj hj0
        go_upto_region 5 with fail
        refine wp_region_held_drew (S := fun V => V.cell? ⟨gT, 2, none⟩ = some (.map (some bB))) (by kernel_rfl) cTd (fun hHeld => ?_)
        refine wpAnyH_take (i := 0) (v := ?_) rfl (by kernel_rfl) (by kernel_rfl) (by kernel_rfl) (fun _ _ _ h => h) (Or.inl ⟨by kernel_rfl, ?_⟩) hHeld ?_
        rotate_left
        · intro w hSw
          (try dsimp only at hSw)
          go_simp
          (try with_reducible rfl)
        change wpAnyH _ _ _ _ _ _ _ (Act.put _ (some 14) _) _
        simp only [Act.put, List.setIfInBounds_toArray, List.set_cons_zero, List.set_cons_succ]
        refine wpAnyH_take (i := 1) (v := ?_) rfl (by kernel_rfl) (by kernel_rfl) (by kernel_rfl) (fun _ _ _ h => h) (Or.inl ⟨by kernel_rfl, ?_⟩) hHeld ?_
        rotate_left
        · intro w hSw
          (try dsimp only at hSw)
          go_simp
          (try with_reducible rfl)
        change wpAnyH _ _ _ _ _ _ _ (Act.put _ (some 15) _) _
        simp only [Act.put, List.setIfInBounds_toArray, List.set_cons_zero, List.set_cons_succ]
        refine wpAnyH_take (i := 2) (v := ?_) rfl (by kernel_rfl) (by kernel_rfl) (by kernel_rfl) (fun _ _ _ h => h) (Or.inl ⟨by kernel_rfl, ?_⟩) hHeld ?_
        rotate_left
        · intro w hSw
          (try dsimp only at hSw)
          go_simp
          (try with_reducible rfl)
        change wpAnyH _ _ _ _ _ _ _ (Act.put _ (some 16) _) _
        simp only [Act.put, List.setIfInBounds_toArray, List.set_cons_zero, List.set_cons_succ]
        refine wpAnyH_take (i := 3) (v := ?_) rfl (by kernel_rfl) (by kernel_rfl) (by kernel_rfl) (fun _ _ _ h => h) (Or.inl ⟨by kernel_rfl, ?_⟩) hHeld ?_
        rotate_left
        · intro w hSw
          (try dsimp only at hSw)
          go_simp
          (try with_reducible rfl)
        change wpAnyH _ _ _ _ _ _ _ (Act.put _ (some 17) _) _
        simp only [Act.put, List.setIfInBounds_toArray, List.set_cons_zero, List.set_cons_succ]
        refine wpAnyH_take (i := 4) (v := ?_) rfl (by kernel_rfl) (by kernel_rfl) (by kernel_rfl) (fun _ _ _ h => h) (Or.inl ⟨by kernel_rfl, ?_⟩) hHeld ?_
        rotate_left
        · intro w hSw
          (try dsimp only at hSw)
          go_simp
          (try with_reducible rfl)
        change wpAnyH _ _ _ _ _ _ _ (Act.put _ (some 18) _) _
        simp only [Act.put, List.setIfInBounds_toArray, List.set_cons_zero, List.set_cons_succ]
        refine wpAnyH_take (i := 5) (v := ?_) rfl (by kernel_rfl) (by kernel_rfl) (by kernel_rfl) (fun _ _ _ h => h) (Or.inl ⟨by kernel_rfl, ?_⟩) hHeld ?_
        rotate_left
        · intro w hSw
          (try dsimp only at hSw)
          go_simp
          (try with_reducible rfl)
        change wpAnyH _ _ _ _ _ _ _ (Act.put _ (some 19) _) _
        simp only [Act.put, List.setIfInBounds_toArray, List.set_cons_zero, List.set_cons_succ]
        refine wpAnyH_take (i := 6) (v := ?_) rfl (by kernel_rfl) (by kernel_rfl) (by kernel_rfl) (fun _ _ _ h => h) (Or.inl ⟨by kernel_rfl, ?_⟩) hHeld ?_
        rotate_left
        · intro w hSw
          (try dsimp only at hSw)
          go_simp
          (try with_reducible rfl)
        change wpAnyH _ _ _ _ _ _ _ (Act.put _ (some 20) _) _
        simp only [Act.put, List.setIfInBounds_toArray, List.set_cons_zero, List.set_cons_succ]
        refine wpAnyH_take (i := 7) (v := ?_) rfl (by kernel_rfl) (by kernel_rfl) (by kernel_rfl) (fun _ _ _ h => h) (Or.inl ⟨by kernel_rfl, ?_⟩) hHeld ?_
        rotate_left
        · intro w hSw
          (try dsimp only at hSw)
          go_simp
          (try with_reducible rfl)
        change wpAnyH _ _ _ _ _ _ _ (Act.put _ (some 21) _) _
        simp only [Act.put, List.setIfInBounds_toArray, List.set_cons_zero, List.set_cons_succ]
        refine wpAnyH_ready (rs := [8]) (by kernel_rfl) (by simp) ?_
        refine AllReadyH.cons (o := _) rfl (fun K hK => ?_) AllReadyH.nil
        go_simp
        refine hK.out _ _ cTd (fun hHeld8 => ?_)
        clear hK K
        (try simp only [Act.put, List.setIfInBounds_toArray, List.set_cons_zero, List.set_cons_succ])
        refine wpAnyH_ready (rs := [9]) (by kernel_rfl) (by simp) ?_
        refine AllReadyH.cons (o := _) rfl (fun K hK => ?_) AllReadyH.nil
        refine step_append_none (by rfl) (.tmp 14) (.tmp 22) 22 (by rfl) w.heap.size 3 i0 1 Tryz.underlying22 hi0 _ LN _ (by simp [Act.eval]) HOD.out (by simp [Act.eval]) ?_
        refine hK.out _ _ cTd (fun hHeld9 => ?_)
        clear hK K
        (try simp only [Act.put, List.setIfInBounds_toArray, List.set_cons_zero, List.set_cons_succ])
        refine wpAnyH_take (i := 10) (v := ?_) rfl (by kernel_rfl) (by kernel_rfl) (by kernel_rfl) (fun _ _ _ h => h) (Or.inl ⟨by kernel_rfl, ?_⟩) hHeld9 ?_
        rotate_left
        · intro w hSw
          (try dsimp only at hSw)
          go_simp
          (try with_reducible rfl)
        change wpAnyH _ _ _ _ _ _ _ (Act.put _ (some 5) _) _
        simp only [Act.put, List.setIfInBounds_toArray, List.set_cons_zero, List.set_cons_succ]
        refine wpAnyH_done (by kernel_rfl) ?_ _
        go_wp2_with fail
        go_roundw
        case rel => exact ⟨n + 1, by omega, by rw [HN.out]; first | rfl | go_num, HREL.out, hgd⟩
        case measure => simp [intOf]; omega
      · obtain ⟨A, c, rfl, hjl2, hjA⟩ := hju.shape
        have hjp : 0 < js.length := List.length_pos_iff.2 hj0
        obtain ⟨gj, rfl, hgjb, _⟩ := hjA (by rw [natI_len]; exact hjp)
        have hcs := nint_cells (IntsFrom.grown hju (gr_drew (gr_refl wr none)))
        rw [natI_len] at hlk1 hju
        have HCS := Lib.hid hcs
        clear hju hst hjn hlk hmB hTr hown hownD hgTw hjj hj0 hjA hjl2 hcs
        go_upto_region 5 with fail
        refine wp_region_held_drew (S := fun V => V.cell? ⟨gT, 2, none⟩ = some (.map (some bB))) (by kernel_rfl) cTd (fun hHeld => ?_)
        refine wpAnyH_take (i := 0) (v := ?_) rfl (by kernel_rfl) (by kernel_rfl) (by kernel_rfl) (fun _ _ _ h => h) (Or.inl ⟨by kernel_rfl, ?_⟩) hHeld ?_
        rotate_left
        · intro w hSw
          (try dsimp only at hSw)
          go_simp
          (try with_reducible rfl)
        change wpAnyH _ _ _ _ _ _ _ (Act.put _ (some 14) _) _
        simp only [Act.put, List.setIfInBounds_toArray, List.set_cons_zero, List.set_cons_succ]
        refine wpAnyH_take (i := 1) (v := ?_) rfl (by kernel_rfl) (by kernel_rfl) (by kernel_rfl) (fun _ _ _ h => h) (Or.inl ⟨by kernel_rfl, ?_⟩) hHeld ?_
        rotate_left
        · intro w hSw
          (try dsimp only at hSw)
          go_simp
          (try with_reducible rfl)
        change wpAnyH _ _ _ _ _ _ _ (Act.put _ (some 15) _) _
        simp only [Act.put, List.setIfInBounds_toArray, List.set_cons_zero, List.set_cons_succ]
        refine wpAnyH_take (i := 2) (v := ?_) rfl (by kernel_rfl) (by kernel_rfl) (by kernel_rfl) (fun _ _ _ h => h) (Or.inl ⟨by kernel_rfl, ?_⟩) hHeld ?_
        rotate_left
        · intro w hSw
          (try dsimp only at hSw)
          go_simp
          (try with_reducible rfl)
        change wpAnyH _ _ _ _ _ _ _ (Act.put _ (some 16) _) _
        simp only [Act.put, List.setIfInBounds_toArray, List.set_cons_zero, List.set_cons_succ]
        refine wpAnyH_take (i := 3) (v := ?_) rfl (by kernel_rfl) (by kernel_rfl) (by kernel_rfl) (fun _ _ _ h => h) (Or.inl ⟨by kernel_rfl, ?_⟩) hHeld ?_
        rotate_left
        · intro w hSw
          (try dsimp only at hSw)
          go_simp
          (try with_reducible rfl)
        change wpAnyH _ _ _ _ _ _ _ (Act.put _ (some 17) _) _
        simp only [Act.put, List.setIfInBounds_toArray, List.set_cons_zero, List.set_cons_succ]
        refine wpAnyH_take (i := 4) (v := ?_) rfl (by kernel_rfl) (by kernel_rfl) (by kernel_rfl) (fun _ _ _ h => h) (Or.inl ⟨by kernel_rfl, ?_⟩) hHeld ?_
        rotate_left
        · intro w hSw
          (try dsimp only at hSw)
          go_simp
          (try with_reducible rfl)
        change wpAnyH _ _ _ _ _ _ _ (Act.put _ (some 18) _) _
        simp only [Act.put, List.setIfInBounds_toArray, List.set_cons_zero, List.set_cons_succ]
        refine wpAnyH_take (i := 5) (v := ?_) rfl (by kernel_rfl) (by kernel_rfl) (by kernel_rfl) (fun _ _ _ h => h) (Or.inl ⟨by kernel_rfl, ?_⟩) hHeld ?_
        rotate_left
        · intro w hSw
          (try dsimp only at hSw)
          go_simp
          (try with_reducible rfl)
        change wpAnyH _ _ _ _ _ _ _ (Act.put _ (some 19) _) _
        simp only [Act.put, List.setIfInBounds_toArray, List.set_cons_zero, List.set_cons_succ]
        refine wpAnyH_take (i := 6) (v := ?_) rfl (by kernel_rfl) (by kernel_rfl) (by kernel_rfl) (fun _ _ _ h => h) (Or.inl ⟨by kernel_rfl, ?_⟩) hHeld ?_
        rotate_left
        · intro w hSw
          (try dsimp only at hSw)
          go_simp
          (try with_reducible rfl)
        change wpAnyH _ _ _ _ _ _ _ (Act.put _ (some 20) _) _
        simp only [Act.put, List.setIfInBounds_toArray, List.set_cons_zero, List.set_cons_succ]
        refine wpAnyH_take (i := 7) (v := ?_) rfl (by kernel_rfl) (by kernel_rfl) (by kernel_rfl) (fun _ _ _ h => h) (Or.inl ⟨by kernel_rfl, ?_⟩) hHeld ?_
        rotate_left
        · intro w hSw
          (try dsimp only at hSw)
          go_simp
          (try with_reducible rfl)
        change wpAnyH _ _ _ _ _ _ _ (Act.put _ (some 21) _) _
        simp only [Act.put, List.setIfInBounds_toArray, List.set_cons_zero, List.set_cons_succ]
        refine wpAnyH_ready (rs := [8]) (by kernel_rfl) (by simp) ?_
        refine AllReadyH.cons (o := _) rfl (fun K hK => ?_) AllReadyH.nil
        go_simp
        refine hK.out _ _ cTd (fun hHeld8 => ?_)
        clear hK K
        (try simp only [Act.put, List.setIfInBounds_toArray, List.set_cons_zero, List.set_cons_succ])
        refine wpAnyH_ready (rs := [9]) (by kernel_rfl) (by simp) ?_
        refine AllReadyH.cons (o := _) rfl (fun K hK => ?_) AllReadyH.nil
        refine step_append_lies _ (by rfl) (.tmp 14) (.tmp 22) 22 (by rfl) w.heap.size 3 i0 _ 1 8 Tryz.underlying22 hi0 hz0 hz1 hz2 rfl (by decide) _ _ _ (by simp [Act.eval]) HOD.out ⟨gj, 0, none⟩ js.length c ((natI js).map (Value.int .i64)) (by simp [Act.eval]) (by rw [List.length_map, natI_len, Nat.mul_one]) HCS.out (nint_ones _) hjp (by unfold maxLen; omega) (by omega) (by show _ ≤ wr.heap.size; omega) _ rfl ?_
        intro g9 cap w9 hown9 hg9 hat hglt
        have cT9 : w9.cell? ⟨gT, 2, none⟩ = some (.map (some bB)) := hg9.cell cTd HGW.out
        refine hK.out _ _ cT9 (fun hHeld9 => ?_)
        clear hK K
        (try simp only [Act.put, List.setIfInBounds_toArray, List.set_cons_zero, List.set_cons_succ])
        refine wpAnyH_take (i := 10) (v := ?_) rfl (by kernel_rfl) (by kernel_rfl) (by kernel_rfl) (fun _ _ _ h => h) (Or.inl ⟨by kernel_rfl, ?_⟩) hHeld9 ?_
        rotate_left
        · intro w hSw
          (try dsimp only at hSw)
          go_simp
          (try with_reducible rfl)
        change wpAnyH _ _ _ _ _ _ _ (Act.put _ (some 5) _) _
        simp only [Act.put, List.setIfInBounds_toArray, List.set_cons_zero, List.set_cons_succ]
        refine wpAnyH_done (by kernel_rfl) ?_ _
        have hown4 : IntsFrom w.heap.size w9 (.slice (some ⟨g9, 0, none⟩) ((natI (nearL p place n)).length + js.length) cap) (natI (nearL p place (n + 1))) := by
          rw [HST.out, natI_cat]
          unfold IntsFrom
          rw [List.map_append, List.length_append, natI_len js]
          exact hown9
        have hG9 : w.grownBy w9 none := gr_grown hgd hg9 (fun g e => .inr (by have := (HOD.out.lt g e).1; omega))
        go_wp2_with fail
        go_roundw
        case rel => exact ⟨n + 1, by omega, by rw [HN.out]; first | rfl | go_num, hown4, hG9⟩
        case measure => simp [intOf]; omega
    · obtain rfl : n = M := by omega
      have hNM : ¬ (N : Int) ≤ (n : Int) := by omega
      go_wp2_with fail
      go_ret
      exact ⟨_, rfl, hown, hg⟩
theorem int_own {w : World} {g base : Nat} {x : Int} (h : Blk w g 3 #[.int .i64 x]) (hb : base ≤ g) : IntsFrom base w (.slice (some ⟨g, 0, none⟩) 1 1) [x] :=
  ⟨by simp, .inr ⟨g, 1, _, rfl, hb, h, Nat.le_refl _, by unfold maxLen; simp, by simp, rfl⟩⟩
def tmL (l : List Ent) (p : List Pfx) (j : Nat) : List Int := match p[j]? with | none => [] | some x => [tmA l x, tmZ l x]
def betB (a z : Int) (n : Int) : Bool := decide (a < n) && decide (n < z)
/-- The moments between two at which some prefixes begin or end to count. -/
def edgI (l : List Ent) (p : List Pfx) (js : List Nat) (a z : Int) : List Int := js.flatMap fun j => (tmL l p j).filter (betB a z)
theorem edgI_step (l : List Ent) (p : List Pfx) (js : List Nat) (a z : Int) (k : Nat) (h : k < js.length) (hj : js[k] < p.length) : edgI l p (js.take (k + 1)) a z = edgI l p (js.take k) a z ++ [tmA l p[js[k]], tmZ l p[js[k]]].filter (betB a z) := by
  unfold edgI
  rw [List.take_succ_eq_append_getElem h, List.flatMap_append]
  simp [tmL, List.getElem?_eq_getElem hj]
theorem edgI_len (l : List Ent) (p : List Pfx) (a z : Int) : ∀ js : List Nat, (edgI l p js a z).length ≤ 2 * js.length
  | [] => by simp [edgI]
  | j :: r => by
    have ih := edgI_len l p a z r
    unfold edgI at ih ⊢
    rw [List.flatMap_cons, List.length_append, List.length_cons]
    have h1 := List.length_filter_le (betB a z) (tmL l p j)
    have h2 : (tmL l p j).length ≤ 2 := by unfold tmL; split <;> simp
    omega
/-- The edges of some prefixes. -/
def edgL (l : List Ent) (p : List Pfx) (js : List Nat) (a z : Int) : List Int := compI (sortI (a :: edgI l p js a z))
set_option maxRecDepth 100000 in
set_option maxHeartbeats 8000000 in
theorem edges_ok (base base2 gT : Nat) (u v s : Value) (l : List Ent) (p : List Pfx) (js : List Nat) (a z : Int) (w : World) (hT : TabAt base gT u v l p w) (hO : TabOk l p) (hs : IntsFrom base2 w s (natI js)) (hjs : ∀ j ∈ js, j < p.length) (hjn : js.length ≤ 100000) :
    Calls Tryz.prog 63 #[.pointer (some ⟨gT, 0, none⟩), s, .int .i64 a, .int .i64 z] w fun r w' => ∃ y, r = .returned y ∧ IntsFrom w.heap.size w' y (edgL l p js a z) ∧ w.grownBy w' none := by
  obtain ⟨i0, hi0, hz0, hz1, hz2⟩ := info_parts intInfo
  obtain ⟨A, c, rfl, hlen, hA⟩ := hs.shape
  have hml : (natI js).length = js.length := natI_len js
  rw [hml] at hlen hA hs
  have HS := Lib.hid hs
  have HML := Lib.hid hml
  have HA := Lib.hid hA
  have HT := Lib.hid hT
  rw [hml]
  have hg0 := World.grownBy_alloc w (.cells #[.int .i64 a] 3) none
  have hown0 := int_own (Blk.new w 3 #[.int .i64 a]) (Nat.le_refl w.heap.size)
  obtain ⟨RR, hRR⟩ : ∃ RR, edgL l p js a z = RR := ⟨_, rfl⟩
  have HED : Hid (RR = compI (sortI (a :: edgI l p js a z))) := hRR.symm
  rw [hRR]
  clear hRR
  clear hs hA hT hml
  go_enter Tryz.func63, Tryz.ntmps63
  go_upto_region 2 with fail
  generalize w.alloc (.cells #[.int .i64 a] 3) = w1 at *
  obtain ⟨b3, hb3⟩ : ∃ x, w.heap.size = x := ⟨_, rfl⟩
  rw [hb3] at hown0 ⊢
  have HB3 := Lib.hid hb3
  clear hb3
  go_wp2_with fail
  go_loopw [9, 19] (fun ov kv wr => ∃ k : Nat, k ≤ js.length ∧ kv = .int .i64 k ∧ IntsFrom b3 wr ov (a :: edgI l p (js.take k) a z) ∧ w.grownBy wr none) (fun _ kv _ => js.length - (intOf kv).toNat)
  case atStart => exact ⟨0, by omega, rfl, hown0, hg0⟩
  case round =>
    obtain ⟨k, hk, rfl, hown, hg⟩ := hrel
    clear hown0 hg0
    obtain ⟨A2, c2, rfl, _, _⟩ := hown.shape
    generalize hLN : (a :: edgI l p (js.take k) a z).length = LN at *
    have HLN := Lib.hid hLN
    clear hLN
    by_cases hlt : k < js.length
    · have hki : (k : Int) < (js.length : Int) := by omega
      obtain ⟨gj, rfl, _, hgl⟩ := HA.out (by omega)
      have hat := IntsFrom.at_ (l := natI js) (g := gj) (c := c) (by rw [HML.out]; exact HS.out.grown hg) k (by rw [HML.out]; exact hlt)
      rw [show (natI js)[k]'(by rw [HML.out]; exact hlt) = (js[k] : Int) by simp [natI]] at hat
      have hJp := hjs _ (List.getElem_mem hlt)
      have hst := edgI_step l p js a z k hlt hJp
      have HTM : Hid (∀ W, w.grownBy W none → Calls Tryz.prog 114 #[.pointer (some ⟨gT, 0, none⟩), .int .i64 (js[k] : Int)] W fun r w' => r = .returned (.agg #[.int .i64 (tmA l p[js[k]]), .int .i64 (tmZ l p[js[k]])]) ∧ W.grownBy w' none) := fun W hW => time_ok base gT u v l p js[k] W (HT.out.grown hW) hO hJp
      have hel := edgI_len l p a z (js.take k)
      rw [List.length_take] at hel
      generalize hX : edgI l p (js.take k) a z = X at *
      generalize tmA l p[js[k]] = TA at *
      generalize tmZ l p[js[k]] = TZ at *
      generalize js[k] = J at *
      have HST := Lib.hid hst
      have hXn : X.length ≤ 200000 := by omega
      clear hst hX hel
      go_wp2_with fail
      refine (HTM.out _ hg).mono ?_
      rintro _ w2 ⟨rfl, hg2⟩
      have hgw2 := gr_trans hg hg2
      have hown2 := hown.grown hg2
      have hD := Blk.new w2 70 #[.int .i64 TA, .int .i64 TZ]
      have hgD := World.grownBy_alloc w2 (.cells #[.int .i64 TA, .int .i64 TZ] 70) none
      have hgw3 := gr_trans hgw2 hgD
      have hown3 := hown2.grown hgD
      clear hown hown2 hg2 hat hg
      go_upto_region 6 with fail
      generalize w2.alloc (.cells #[.int .i64 TA, .int .i64 TZ] 70) = w3 at *
      have d0 := hD.cell 0
      have d1 := hD.cell 1
      simp only [List.getElem?_toArray, List.getElem?_cons_zero, List.getElem?_cons_succ] at d0 d1
      have hB := Blk.new w3 3 #[.int .i64 TA, .int .i64 TZ]
      have hgB := World.grownBy_alloc w3 (.cells #[.int .i64 TA, .int .i64 TZ] 3) none
      have hgw4 := gr_trans hgw3 hgB
      have hown4 := hown3.grown hgB
      have hnb : some w3.heap.size ≠ (Value.slice A2 LN c2).ownBlock := fun e => by
        have := (hown3.lt _ e.symm).2
        omega
      clear hown3
      go_upto_region 7 with fail
      generalize w3.alloc (.cells #[.int .i64 TA, .int .i64 TZ] 3) = w4 at *
      generalize w3.heap.size = gB at *
      go_loopw [9, 32] (fun ov mv wi => ∃ m : Nat, m ≤ 2 ∧ mv = .int .i64 m ∧ IntsFrom b3 wi ov (a :: (X ++ ([TA, TZ].take m).filter (betB a z))) ∧ some gB ≠ ov.ownBlock ∧ Blk wi gB 3 #[.int .i64 TA, .int .i64 TZ] ∧ w.grownBy wi none) (fun _ mv _ => 2 - (intOf mv).toNat)
      case atStart => exact ⟨0, by omega, rfl, by simpa using hown4, hnb, hB, hgw4⟩
      case round =>
        obtain ⟨m, hm, rfl, howi, hnbi, hBi, hgi⟩ := hrel
        clear hown4 hnb hB hgw4 hgw3 hgw2 hgB hgD
        by_cases hm2 : m < 2
        · have hmi : (m : Int) < 2 := by omega
          have hfs := filter_step (betB a z) [TA, TZ] m (by simpa using hm2)
          have hcm : wr.cell? ⟨gB, m, none⟩ = some (.int .i64 ([TA, TZ][m]'(by simpa using hm2))) := by
            rw [hBi.cell m]
            rcases (show m = 0 ∨ m = 1 by omega) with rfl | rfl <;> rfl
          obtain ⟨A4, c4, rfl, _, _⟩ := howi.shape
          have hln : (a :: (X ++ ([TA, TZ].take m).filter (betB a z))).length ≤ 300000 := by
            have h1 := List.length_filter_le (betB a z) ([TA, TZ].take m)
            rw [List.length_take] at h1
            simp only [List.length_cons, List.length_append, List.length_nil] at h1 ⊢
            omega
          generalize hfm : ([TA, TZ].take m).filter (betB a z) = FM at *
          generalize hlm : (a :: (X ++ FM)).length = LM at *
          have HLM := Lib.hid hlm
          clear hlm
          generalize [TA, TZ][m]'(by simpa using hm2) = NN at *
          have HFS := Lib.hid hfs
          have hszi := hgi.size
          have HOWI : Hid (World.ownsRow wr b3 3 1 (.slice A4 LM c4) LM ((a :: (X ++ FM)).map (Value.int .i64))) := by
            show World.ownsRow _ _ _ _ _ _ _
            have := howi
            unfold IntsFrom at this
            rw [HLM.out] at this
            exact this
          clear hfs hfm
          --A(
          by_cases hbt : a < NN ∧ NN < z
          · obtain ⟨hb1, hb2⟩ := hbt
            have HFN : Hid (([TA, TZ].take (m + 1)).filter (betB a z) = FM ++ [NN]) := by
              show _ = _
              rw [HFS.out, if_pos (by unfold betB; simp [hb1, hb2])]
            go_upto_region 10 with fail
            go_wp2_with (at_builtin; refine wpList_append_lies _ rfl _ _ 22 rfl b3 3 i0 _ 1 8 Tryz.underlying22 hi0 hz0 hz1 hz2 rfl (by decide) _ LM _ rfl (World.ownsRow.alloc HOWI.out _) ⟨_, 0, none⟩ 1 1 [.int .i64 NN] rfl rfl (one_cell _ NN _) (one_oneCell NN) (by decide) (by unfold maxLen; omega) (by omega) (by have := HB3.out; simp; omega) _ rfl ?_; intro g9 cap w9 hown9 hg9 hat9 hgl9)
            have hB9 := (hBi.alloc _).grown hg9 hnbi
            have hG9 : w.grownBy w9 none := gr_grown (gr_alloc hgi _) hg9 (fun g e => .inr (by have := (howi.lt g e).1; have := HB3.out; omega))
            have hnb9 : some gB ≠ (Value.slice (some ⟨g9, 0, none⟩) (LM + 1) cap).ownBlock := fun e => by
              have e2 : gB = g9 := by simpa [Value.ownBlock] using e
              rcases hat9 with h | h
              · exact hnbi (by rw [e2]; exact h.symm)
              · have := hBi.lt
                simp at h
                omega
            have hrow9 : IntsFrom b3 w9 (.slice (some ⟨g9, 0, none⟩) (LM + 1) cap) (a :: (X ++ ([TA, TZ].take (m + 1)).filter (betB a z))) := by
              rw [HFN.out]
              unfold IntsFrom
              have hl1 : (a :: (X ++ (FM ++ [NN]))).length = LM + 1 := by have := HLM.out; simp at this ⊢; omega
              rw [hl1]
              simpa using hown9
            go_wp2_with fail
            go_roundw
            case rel => exact ⟨m + 1, by omega, by go_num, hrow9, hnb9, hB9, hG9⟩
            case measure => simp [intOf]; omega
          · have HFN : Hid (([TA, TZ].take (m + 1)).filter (betB a z) = FM) := by
              show _ = _
              rw [HFS.out, if_neg (by unfold betB; simpa using hbt)]
            have hrow9 : IntsFrom b3 wr (.slice A4 LM c4) (a :: (X ++ ([TA, TZ].take (m + 1)).filter (betB a z))) := by
              rw [HFN.out]
              exact howi
            by_cases hb1 : a < NN
            · have hb2 : ¬ NN < z := fun h => hbt ⟨hb1, h⟩
              clear hbt
              go_wp2_with fail
              go_roundw
              case rel => exact ⟨m + 1, by omega, by go_num, hrow9, hnbi, hBi, hgi⟩
              case measure => simp [intOf]; omega
            · clear hbt
              go_wp2_with fail
              go_roundw
              case rel => exact ⟨m + 1, by omega, by go_num, hrow9, hnbi, hBi, hgi⟩
              case measure => simp [intOf]; omega
          --A)
        · have hmi : ¬ (m : Int) < 2 := by omega
          --A(
          obtain rfl : m = 2 := by omega
          have hrowE := howi
          rw [show (a :: (X ++ ([TA, TZ].take 2).filter (betB a z))) = a :: edgI l p (js.take (k + 1)) a z by rw [HST.out]; rfl] at hrowE
          go_wp2_with fail
          go_roundw
          case rel => exact ⟨k + 1, by omega, by go_num, hrowE, hgi⟩
          case measure => simp [intOf]; omega
          --A)
    · obtain rfl : k = js.length := by omega
      have hkl : ¬ (js.length : Int) < (js.length : Int) := by omega
      --A(
      rw [List.take_length] at hown
      have hel := edgI_len l p a z js
      have hre := HED.out
      generalize edgI l p js a z = X at *
      have HSO := Lib.hid (sort_own b3 _ (a :: X) wr hown (by simp; omega))
      have hsl : (sortI (a :: X)).length = (a :: X).length := sortI_len _
      generalize sortI (a :: X) = Y at *
      have HRE := Lib.hid hre
      have hrow : ∀ g, (Value.slice A2 LN c2).ownBlock = some g → b3 ≤ g := fun g e => (hown.lt g e).1
      have HRW := Lib.hid hrow
      clear hown hrow hre HED
      go_wp2_with fail
      refine HSO.out.mono ?_
      rintro _ w2 ⟨rfl, hown2, hg2⟩
      have hG2 : w.grownBy w2 none := gr_grown hg hg2 (fun g e => .inr (by have := HRW.out g e; have := HB3.out; omega))
      have HCO := Lib.hid (compact_own b3 _ Y w2 hown2 (by simp at hsl; omega))
      clear hown2 hsl
      go_wp2_with fail
      refine HCO.out.mono ?_
      rintro _ w3 ⟨y, rfl, hown3, hg3⟩
      go_wp2_with fail
      go_ret
      rw [← HB3.out, ← HRE.out] at hown3
      exact ⟨y, rfl, hown3, gr_grown hG2 hg3 (fun g e => .inr (by have := HRW.out g e; have := HB3.out; omega))⟩
      --A)
end Go.Proofs.YtbpkfkbbkgdlaaaGreatDoor

namespace Go.Proofs.YtbpkfkbbkgdlaaaGreatDoor
open Go.RowKit
set_option linter.unusedVariables false
set_option linter.unusedSimpArgs false

theorem edgL_mem (l : List Ent) (p : List Pfx) (js : List Nat) (a z x : Int) : x ∈ edgL l p js a z ↔ x = a ∨ ∃ j ∈ js, x ∈ tmL l p j ∧ a < x ∧ x < z := by
  unfold edgL
  rw [(compI_props _ (sortI_sorted _)).2, sortI_mem, List.mem_cons]
  unfold edgI
  simp only [List.mem_flatMap, List.mem_filter, betB, Bool.and_eq_true, decide_eq_true_eq]
theorem cnt_between {l : List Ent} {p : List Pfx} {js : List Nat} {a z : Int} {j : Nat} (hj : j ∈ js) (hlt : j < p.length) {x y : Int} (hx : a ≤ x) (hxy : x ≤ y) (hy : y < z) (h : ∀ e ∈ edgL l p js a z, ¬ (x < e ∧ e ≤ y)) : cntB l p[j] x = cntB l p[j] y := by
  rw [← cntB_tm, ← cntB_tm]
  have h1 : ¬ (x < tmA l p[j] ∧ tmA l p[j] ≤ y) := fun hh => h _ ((edgL_mem _ _ _ _ _ _).2 (.inr ⟨j, hj, by unfold tmL; rw [List.getElem?_eq_getElem hlt]; simp, by omega, by omega⟩)) hh
  have h2 : ¬ (x < tmZ l p[j] ∧ tmZ l p[j] ≤ y) := fun hh => h _ ((edgL_mem _ _ _ _ _ _).2 (.inr ⟨j, hj, by unfold tmL; rw [List.getElem?_eq_getElem hlt]; simp, by omega, by omega⟩)) hh
  unfold hasB
  rw [decide_eq_decide]
  omega
theorem near_mem {p : List Pfx} {place : ByteArray} {j n : Nat} : j ∈ nearL p place n ↔ ∃ i, i < n ∧ ∃ h : j < p.length, p[j].whole = false ∧ p[j].beg = place.extract 0 (i + 1) := by
  unfold nearL
  simp only [List.mem_flatMap, List.mem_range, idxL_mem]
theorem has_near {p : List Pfx} {place : ByteArray} {j : Nat} (h : j < p.length) (hw : p[j].whole = false) (hs : 1 ≤ p[j].beg.size ∧ p[j].beg.size ≤ 4) (hp : Lib.hasPrefix place.data.toList p[j].beg.data.toList = true) : j ∈ nearL p place (min 4 place.size) := by
  obtain ⟨h1, h2⟩ := has_beg.1 hp
  exact near_mem.2 ⟨p[j].beg.size - 1, by omega, h, hw, by rw [show p[j].beg.size - 1 + 1 = p[j].beg.size by omega]; exact h2⟩
end Go.Proofs.YtbpkfkbbkgdlaaaGreatDoor

namespace Go.Proofs.YtbpkfkbbkgdlaaaGreatDoor
open Go.RowKit
set_option linter.unusedVariables false
set_option linter.unusedSimpArgs false

/-- A prefix stands ahead of another one in a right table. -/
def PLt (x y : Pfx) : Prop := x.beg.data.toList < y.beg.data.toList ∨ (x.beg = y.beg ∧ ((x.whole = false ∧ y.whole = true) ∨ (x.whole = y.whole ∧ x.a < y.a)))
def Ahead (x y : Pfx) : Prop := PLt x y ∧ (x.beg = y.beg → x.whole = y.whole → x.z ≤ y.a)
theorem cmpPf_lt {x y : Pfx} : cmpPf x y < 0 ↔ PLt x y := by
  unfold cmpPf PLt
  by_cases h1 : cmpS x.beg y.beg = 0
  · have he := cmpS_0.1 h1
    have hl : ¬ x.beg.data.toList < y.beg.data.toList := by rw [he]; exact List.lt_irrefl _
    rw [if_neg (by simpa using h1)]
    cases hx : x.whole <;> cases hy : y.whole <;> simp [flagI, he, Array.lt_irrefl] <;> omega
  · rw [if_pos h1, cmpS_lt]
    have hne : x.beg ≠ y.beg := fun e => h1 (cmpS_0.2 e)
    simp [hne]
theorem PLt.trans {x y z : Pfx} (h1 : PLt x y) (h2 : PLt y z) : PLt x z := by
  unfold PLt at *
  rcases h1 with h1 | ⟨e1, h1⟩
  · rcases h2 with h2 | ⟨e2, h2⟩
    · exact .inl (List.lt_trans h1 h2)
    · exact .inl (e2 ▸ h1)
  · rcases h2 with h2 | ⟨e2, h2⟩
    · exact .inl (e1 ▸ h2)
    · refine .inr ⟨e1.trans e2, ?_⟩
      rcases h1 with ⟨a1, b1⟩ | ⟨a1, b1⟩ <;> rcases h2 with ⟨a2, b2⟩ | ⟨a2, b2⟩
      · rw [b1] at a2; cases a2
      · exact .inl ⟨a1, a2 ▸ b1⟩
      · exact .inl ⟨a1.trans a2, b2⟩
      · exact .inr ⟨a1.trans a2, by omega⟩
theorem PLt.le {x y : Pfx} (h : PLt x y) : x.beg.data.toList < y.beg.data.toList ∨ x.beg = y.beg := by
  rcases h with h | ⟨h, _⟩
  · exact .inl h
  · exact .inr h
theorem Ahead.trans {x y z : Pfx} (ht : y.a < y.z) (h1 : Ahead x y) (h2 : Ahead y z) : Ahead x z := by
  refine ⟨h1.1.trans h2.1, fun e w => ?_⟩
  have e1 : x.beg = y.beg := by
    rcases h1.1.le with h | h
    · rcases h2.1.le with h' | h'
      · exact absurd (List.lt_trans h h') (by rw [e]; exact List.lt_irrefl _)
      · exact absurd h (by rw [e, h']; exact List.lt_irrefl _)
    · exact h
  have e2 : y.beg = z.beg := e1.symm.trans e
  have w1 : x.whole = y.whole := by
    rcases h1.1 with h | ⟨_, ⟨a, b⟩ | ⟨a, _⟩⟩
    · exact absurd h (by rw [e1]; exact List.lt_irrefl _)
    · rcases h2.1 with h' | ⟨_, ⟨a', b'⟩ | ⟨a', _⟩⟩
      · exact absurd h' (by rw [e2]; exact List.lt_irrefl _)
      · rw [b] at a'; cases a'
      · rw [w, ← a'] 
    · exact a
  have h3 := h1.2 e1 w1
  have h4 := h2.2 e2 (w1.symm.trans w)
  omega
theorem timeB_lt {a z : Int} (h : timeB a z = true) : 0 ≤ a ∧ a < z ∧ z ≤ 345686400000 := by unfold timeB at h; simpa using h
theorem chain_pairwise : ∀ (p : List Pfx), (∀ x ∈ p, x.a < x.z) → (∀ k (hk : k + 1 < p.length), Ahead p[k] p[k + 1]) → p.Pairwise Ahead
  | [], _, _ => List.Pairwise.nil
  | [x], _, _ => List.pairwise_singleton _ _
  | x :: y :: r, ht, h => by
    have ih := chain_pairwise (y :: r) (fun z hz => ht z (List.mem_cons_of_mem _ hz)) (fun k hk => by have := h (k + 1) (by simpa using hk); simpa using this)
    have h0 : Ahead x y := h 0 (by simp)
    refine List.pairwise_cons.2 ⟨fun z hz => ?_, ih⟩
    rcases List.mem_cons.1 hz with rfl | hz
    · exact h0
    · exact h0.trans (ht y (by simp)) ((List.pairwise_cons.1 ih).1 z hz)
theorem TabRight.ahead {l : List Ent} {p : List Pfx} (h : TabRight l p) : p.Pairwise Ahead := by
  refine chain_pairwise p (fun x hx => (timeB_lt (h.pfx x hx).time).2.1) (fun k hk => ?_)
  obtain ⟨h1, h2⟩ := h.next k hk
  exact ⟨cmpPf_lt.1 h1, fun e w => by
    rcases Int.lt_or_le p[k + 1].a p[k].z with h3 | h3
    · exact absurd ⟨e, w, h3⟩ h2
    · exact h3⟩
theorem pfxScan_of {l : List Ent} : ∀ (p : List Pfx) (o : Option Pfx), (∀ x ∈ p, PfxOk l x) → p.Pairwise Ahead → (∀ y, o = some y → ∀ x ∈ p, Ahead y x) → pfxScan l o p = 0
  | [], _, _, _, _ => rfl
  | x :: r, o, hok, hp, ho => by
    have hx := hok x (by simp)
    have hp' := List.pairwise_cons.1 hp
    have h0 : pfxE1 l o x = 0 := by
      unfold pfxE1
      rw [if_neg (by rw [hx.form]; simp), if_neg (by rw [hx.has]; simp), if_neg (by rw [hx.time]; simp), if_neg (by unfold outB; have := hx.z0; have := hx.z1; simp; omega)]
      cases o with
      | none => rfl
      | some y =>
        have ha := ho y rfl x (by simp)
        show (if 0 ≤ cmpPf y x then (7 : Int) else if y.beg = x.beg ∧ y.whole = x.whole ∧ x.a < y.z then 13 else 0) = 0
        rw [if_neg (by have := cmpPf_lt.2 ha.1; omega), if_neg (by
          rintro ⟨e, w, h⟩
          have := ha.2 e w
          omega)]
    unfold pfxScan
    rw [if_pos h0]
    exact pfxScan_of r (some x) (fun y hy => hok y (List.mem_cons_of_mem _ hy)) hp'.2 (fun y hy z hz => by injection hy with hy; subst hy; exact hp'.1 z hz)
/-- What a right table has left when some prefixes are taken out is right. -/
theorem tabE_sub {l : List Ent} {p q : List Pfx} (h : tabE l p = 0) (hs : q.Sublist p) : tabE l q = 0 := by
  have hR := tabE_ok h
  have hl := hs.length_le
  have hlen := hR.ok.len
  have hE : entsE l = 0 := by
    by_cases h0 : entsE l = 0
    · exact h0
    · unfold tabE at h
      rw [if_pos h0] at h
      exact h
  unfold tabE
  rw [if_neg (by simpa using hE), if_neg (by omega)]
  exact pfxScan_of q none (fun x hx => hR.pfx x (hs.subset hx)) (hR.ahead.sublist hs) (fun y hy => by cases hy)
/-- A prefix of some kind counts for a place at a moment. -/
def CanX (l : List Ent) (S : Pfx → Prop) (place : ByteArray) (t : Int) (x : Pfx) : Prop := S x ∧ x.whole = false ∧ cntB l x t = true ∧ Lib.hasPrefix place.data.toList x.beg.data.toList = true
def LeadX (l : List Ent) (S : Pfx → Prop) (place : ByteArray) (t : Int) (x : Pfx) : Prop := CanX l S place t x ∧ ∀ y, CanX l S place t y → y.beg.size ≤ x.beg.size
/-- What a place belongs to at a moment by some prefixes. -/
def LeadF (l : List Ent) (S : Pfx → Prop) (place : ByteArray) (t : Int) (o : Option Fnd) : Prop := (o = none ∧ ∀ x, ¬ CanX l S place t x) ∨ ∃ x, o = some (fndX l x) ∧ LeadX l S place t x
theorem cntB_in {l : List Ent} {x : Pfx} {t : Int} (h : cntB l x t = true) : tmA l x ≤ t ∧ t < tmZ l x ∧ x.a ≤ t ∧ t < x.z := by
  have h2 := h
  rw [← cntB_tm] at h
  unfold hasB at h
  unfold cntB hasB at h2
  simp only [decide_eq_true_eq, Bool.and_eq_true] at h h2
  exact ⟨h.1, h.2, h2.1.1, h2.1.2⟩
theorem has_same {place a b : ByteArray} (h1 : Lib.hasPrefix place.data.toList a.data.toList = true) (h2 : Lib.hasPrefix place.data.toList b.data.toList = true) (h : a.size = b.size) : a = b := by
  rw [(has_beg.1 h1).2, (has_beg.1 h2).2, h]
theorem has_within {place a b : ByteArray} (h1 : Lib.hasPrefix place.data.toList a.data.toList = true) (h2 : Lib.hasPrefix place.data.toList b.data.toList = true) (h : a.size ≤ b.size) : Lib.hasPrefix b.data.toList a.data.toList = true := by
  unfold Lib.hasPrefix at *
  rw [List.isPrefixOf_iff_prefix] at *
  exact List.prefix_of_prefix_length_le h1 h2 (by simpa using h)
theorem has_trans {place a b : ByteArray} (h1 : Lib.hasPrefix place.data.toList b.data.toList = true) (h2 : Lib.hasPrefix b.data.toList a.data.toList = true) : Lib.hasPrefix place.data.toList a.data.toList = true := by
  unfold Lib.hasPrefix at *
  rw [List.isPrefixOf_iff_prefix] at *
  exact h2.trans h1
/-- Two prefixes of a right table that begin alike and count at one moment are one. -/
theorem one_counts {p : List Pfx} (hp : p.Pairwise Ahead) {l : List Ent} {t : Int} {i j : Nat} (hi : i < p.length) (hj : j < p.length) (hb : p[i].beg = p[j].beg) (hw : p[i].whole = p[j].whole) (h1 : cntB l p[i] t = true) (h2 : cntB l p[j] t = true) : i = j := by
  have hA := List.pairwise_iff_getElem.1 hp
  have c1 := cntB_in h1
  have c2 := cntB_in h2
  rcases Nat.lt_trichotomy i j with h | h | h
  · have := (hA i j hi hj h).2 hb hw; omega
  · exact h
  · have := (hA j i hj hi h).2 hb.symm hw.symm; omega
theorem one_countsX {p : List Pfx} (hp : p.Pairwise Ahead) {l : List Ent} {t : Int} {x y : Pfx} (hx : x ∈ p) (hy : y ∈ p) (hb : x.beg = y.beg) (hw : x.whole = y.whole) (h1 : cntB l x t = true) (h2 : cntB l y t = true) : x = y := by
  obtain ⟨i, hi, rfl⟩ := List.mem_iff_getElem.1 hx
  obtain ⟨j, hj, rfl⟩ := List.mem_iff_getElem.1 hy
  have := one_counts hp hi hj hb hw h1 h2
  subst this
  rfl
theorem LeadF.one {l : List Ent} {p : List Pfx} (hp : p.Pairwise Ahead) {S : Pfx → Prop} (hS : ∀ x, S x → x ∈ p) {place : ByteArray} {t : Int} {o o' : Option Fnd} (h : LeadF l S place t o) (h' : LeadF l S place t o') : o = o' := by
  rcases h with ⟨rfl, h⟩ | ⟨x, rfl, hx⟩ <;> rcases h' with ⟨rfl, h'⟩ | ⟨y, rfl, hy⟩
  · rfl
  · exact absurd hy.1 (h y)
  · exact absurd hx.1 (h' x)
  · have a := hx.2 y hy.1
    have b := hy.2 x hx.1
    have e := has_same hx.1.2.2.2 hy.1.2.2.2 (by omega)
    rw [one_countsX hp (hS x hx.1.1) (hS y hy.1.1) e (hx.1.2.1.trans hy.1.2.1.symm) hx.1.2.2.1 hy.1.2.2.1]
/-- What the program's longest says, told of elements. -/
theorem lngP_lead (l : List Ent) (p : List Pfx) (t : Int) (place : ByteArray) (but : Nat → Bool) (hp : ∀ x ∈ p, x.whole = false → 1 ≤ x.beg.size ∧ x.beg.size ≤ 4) :
    (lngP l p t place but = -1 ∧ ∀ x, ¬ CanX l (fun x => ∃ j, ∃ h : j < p.length, p[j] = x ∧ but j = false) place t x) ∨ ∃ (i : Nat) (h : i < p.length), lngP l p t place but = i ∧ but i = false ∧ LeadX l (fun x => ∃ j, ∃ h : j < p.length, p[j] = x ∧ but j = false) place t p[i] := by
  rcases lngP_best l p t place but hp with ⟨h1, h2⟩ | ⟨i, h1, ⟨hi, hb, hw, hc, hx⟩, h3⟩
  · refine .inl ⟨h1, ?_⟩
    rintro x ⟨⟨j, hj, rfl, hb⟩, hw, hc, hx⟩
    exact h2 j ⟨hj, hb, hw, hc, hx⟩
  · refine .inr ⟨i, hi, h1, hb, ⟨⟨i, hi, rfl, hb⟩, hw, hc, hx⟩, ?_⟩
    rintro y ⟨⟨j, hj, rfl, hb'⟩, hw', hc', hx'⟩
    have := h3 j ⟨hj, hb', hw', hc', hx'⟩
    rw [lenN_at p i hi, lenN_at p j hj] at this
    omega
end Go.Proofs.YtbpkfkbbkgdlaaaGreatDoor

namespace Go.Proofs.YtbpkfkbbkgdlaaaGreatDoor
open Go.RowKit
set_option linter.unusedVariables false
set_option linter.unusedSimpArgs false

def sameB (l : List Ent) (p : List Pfx) (k : Int) (x : Pfx) : Bool := decide (0 ≤ k) && match p[k.toNat]? with | none => false | some y => decide (fndX l y = fndX l x)
/-- Nothing would be otherwise without a prefix, where some others are gone. -/
def needX (l : List Ent) (p : List Pfx) (gone : List Bool) (i : Nat) (x : Pfx) : Bool :=
  decide (tmZ l x ≤ tmA l x) || (edgL l p (nearL p x.beg (min 4 x.beg.size)) (tmA l x) (tmZ l x)).all fun t => sameB l p (lngP l p t x.beg (butB (i : Int) gone)) x
def tidB (l : List Ent) (p : List Pfx) (gone : List Bool) (i : Nat) : Bool := match p[i]? with | none => false | some x => !x.whole && needX l p gone i x
def goneTo (l : List Ent) (p : List Pfx) : Nat → List Bool
  | 0 => List.replicate p.length false
  | i + 1 => (goneTo l p i).set i (tidB l p (goneTo l p i) i)
def outTo (l : List Ent) (p : List Pfx) : Nat → List Pfx
  | 0 => []
  | i + 1 => match p[i]? with | none => outTo l p i | some x => if tidB l p (goneTo l p i) i then outTo l p i else outTo l p i ++ [x]
def ovrTo (l : List Ent) (p : List Pfx) : Nat → List Nat
  | 0 => []
  | i + 1 => if tidB l p (List.replicate p.length false) i then ovrTo l p i ++ [i] else ovrTo l p i
theorem tidB_at {l : List Ent} {p : List Pfx} {gone : List Bool} {i : Nat} (h : i < p.length) : tidB l p gone i = (!p[i].whole && needX l p gone i p[i]) := by
  unfold tidB; rw [List.getElem?_eq_getElem h]
theorem outTo_yes {l : List Ent} {p : List Pfx} {i : Nat} (h : i < p.length) (ht : tidB l p (goneTo l p i) i = true) : outTo l p (i + 1) = outTo l p i := by
  show (match p[i]? with | none => _ | some x => _) = _
  rw [List.getElem?_eq_getElem h]
  show (if _ then _ else _) = _
  rw [if_pos ht]
theorem outTo_no {l : List Ent} {p : List Pfx} {i : Nat} (h : i < p.length) (ht : tidB l p (goneTo l p i) i = false) : outTo l p (i + 1) = outTo l p i ++ [p[i]] := by
  show (match p[i]? with | none => _ | some x => _) = _
  rw [List.getElem?_eq_getElem h]
  show (if _ then _ else _) = _
  rw [if_neg (by rw [ht]; simp)]
theorem goneTo_len (l : List Ent) (p : List Pfx) : ∀ k, (goneTo l p k).length = p.length
  | 0 => List.length_replicate
  | k + 1 => by unfold goneTo; rw [List.length_set, goneTo_len l p k]
theorem goneTo_at (l : List Ent) (p : List Pfx) : ∀ k, k ≤ p.length → ∀ j, (goneTo l p k).getD j false = if j < k then tidB l p (goneTo l p j) j else false
  | 0, _, j => by
    unfold goneTo
    rw [if_neg (by omega), List.getD_eq_getElem?_getD, List.getElem?_replicate]
    split <;> rfl
  | k + 1, hk, j => by
    have ih := goneTo_at l p k (by omega) j
    have hl := goneTo_len l p k
    show ((goneTo l p k).set k _).getD j false = _
    rw [List.getD_eq_getElem?_getD]
    by_cases h : k = j
    · subst h
      rw [List.getElem?_set_self (by omega), if_pos (by omega)]
      rfl
    · rw [List.getElem?_set_ne h, ← List.getD_eq_getElem?_getD, ih]
      by_cases h2 : j < k
      · rw [if_pos h2, if_pos (by omega)]
      · rw [if_neg h2, if_neg (by omega)]
theorem PLt.irrefl {x : Pfx} : ¬ PLt x x := by
  rintro (h | ⟨_, ⟨a, b⟩ | ⟨_, h⟩⟩)
  · exact List.lt_irrefl _ h
  · rw [a] at b; cases b
  · omega
theorem ahead_ne {p : List Pfx} (hp : p.Pairwise Ahead) {i j : Nat} (hi : i < p.length) (hj : j < p.length) (h : p[i] = p[j]) : i = j := by
  have hA := List.pairwise_iff_getElem.1 hp
  rcases Nat.lt_trichotomy i j with h1 | h1 | h1
  · have := (hA i j hi hj h1).1; rw [h] at this; exact absurd this PLt.irrefl
  · exact h1
  · have := (hA j i hj hi h1).1; rw [h] at this; exact absurd this PLt.irrefl
/-- What is left behind so many rounds. -/
def KeptS (l : List Ent) (p : List Pfx) (k : Nat) (x : Pfx) : Prop := ∃ j, ∃ h : j < p.length, p[j] = x ∧ (goneTo l p k).getD j false = false
theorem last_edge : ∀ (E : List Int) (t a : Int), a ∈ E → a ≤ t → ∃ e ∈ E, e ≤ t ∧ ∀ x ∈ E, ¬ (e < x ∧ x ≤ t)
  | [], _, _, h, _ => by simp at h
  | y :: E, t, a, h, ha => by
    by_cases hE : ∃ b ∈ E, b ≤ t
    · obtain ⟨b, hb, hbt⟩ := hE
      obtain ⟨e, he, het, hn⟩ := last_edge E t b hb hbt
      by_cases hy : e < y ∧ y ≤ t
      · refine ⟨y, by simp, hy.2, fun x hx hh => ?_⟩
        rcases List.mem_cons.1 hx with rfl | hx
        · omega
        · exact hn x hx ⟨by omega, hh.2⟩
      · refine ⟨e, List.mem_cons_of_mem _ he, het, fun x hx hh => ?_⟩
        rcases List.mem_cons.1 hx with rfl | hx
        · exact hy hh
        · exact hn x hx hh
    · refine ⟨y, by simp, ?_, fun x hx hh => ?_⟩
      · rcases List.mem_cons.1 h with rfl | h
        · exact ha
        · exact absurd ⟨a, h, ha⟩ hE
      · rcases List.mem_cons.1 hx with rfl | hx
        · omega
        · exact hE ⟨x, hx, hh.2⟩
/-- Who leads within a prefix's own time, by what led at the edge ahead. -/
theorem lead_between {l : List Ent} {p : List Pfx} (hR : TabRight l p) {S : Pfx → Prop} (hS : ∀ x, S x → x ∈ p) {place : ByteArray} {a z e t : Int} (hae : a ≤ e) (het : e ≤ t) (htz : t < z)
    (hn : ∀ x ∈ edgL l p (nearL p place (min 4 place.size)) a z, ¬ (e < x ∧ x ≤ t)) (x : Pfx) : CanX l S place e x ↔ CanX l S place t x := by
  have hc : ∀ x, S x → x.whole = false → Lib.hasPrefix place.data.toList x.beg.data.toList = true → cntB l x e = cntB l x t := fun x h1 h2 h3 => by
    obtain ⟨j, hj, rfl⟩ := List.mem_iff_getElem.1 (hS x h1)
    exact cnt_between (has_near hj h2 (hR.size _ (List.getElem_mem hj) h2) h3) hj hae het htz hn
  constructor
  · rintro ⟨h1, h2, h3, h4⟩
    exact ⟨h1, h2, by rw [← hc x h1 h2 h4]; exact h3, h4⟩
  · rintro ⟨h1, h2, h3, h4⟩
    exact ⟨h1, h2, by rw [hc x h1 h2 h4]; exact h3, h4⟩
theorem canX_iff {l : List Ent} {S S' : Pfx → Prop} {place : ByteArray} {t : Int} {x : Pfx} (h : S x ↔ S' x) : CanX l S place t x ↔ CanX l S' place t x := ⟨fun ⟨h1, h2⟩ => ⟨h.1 h1, h2⟩, fun ⟨h1, h2⟩ => ⟨h.2 h1, h2⟩⟩
theorem LeadX.of {l : List Ent} {S S' : Pfx → Prop} {place place' : ByteArray} {t t' : Int} {x : Pfx} (h : LeadX l S place t x) (hc : ∀ y, CanX l S place t y ↔ CanX l S' place' t' y) : LeadX l S' place' t' x :=
  ⟨(hc x).1 h.1, fun y hy => h.2 y ((hc y).2 hy)⟩
theorem LeadF.of {l : List Ent} {S S' : Pfx → Prop} {place place' : ByteArray} {t t' : Int} {o : Option Fnd} (h : LeadF l S place t o) (hc : ∀ y, CanX l S place t y ↔ CanX l S' place' t' y) : LeadF l S' place' t' o := by
  rcases h with ⟨rfl, h⟩ | ⟨x, rfl, hx⟩
  · exact .inl ⟨rfl, fun y hy => h y ((hc y).2 hy)⟩
  · exact .inr ⟨x, rfl, hx.of hc⟩
/-- What 'needless' has seen at an edge. -/
theorem sameB_lead {l : List Ent} {p : List Pfx} (hR : TabRight l p) {t : Int} {place : ByteArray} {but : Nat → Bool} {x : Pfx} (h : sameB l p (lngP l p t place but) x = true) :
    ∃ y, LeadX l (fun x => ∃ j, ∃ h : j < p.length, p[j] = x ∧ but j = false) place t y ∧ fndX l y = fndX l x := by
  unfold sameB at h
  rw [Bool.and_eq_true, decide_eq_true_eq] at h
  rcases lngP_lead l p t place but hR.size with ⟨h1, _⟩ | ⟨i, hi, h1, _, h2⟩
  · omega
  · rw [h1] at h
    refine ⟨p[i], h2, ?_⟩
    have h3 := h.2
    rw [Int.toNat_natCast, List.getElem?_eq_getElem hi] at h3
    simpa using h3
theorem sameB_of {l : List Ent} {p : List Pfx} (hR : TabRight l p) {t : Int} {place : ByteArray} {but : Nat → Bool} {x y : Pfx} (h : LeadX l (fun x => ∃ j, ∃ h : j < p.length, p[j] = x ∧ but j = false) place t y) (hf : fndX l y = fndX l x) : sameB l p (lngP l p t place but) x = true := by
  unfold sameB
  rcases lngP_lead l p t place but hR.size with ⟨_, h1⟩ | ⟨i, hi, h1, _, h2⟩
  · exact absurd h.1 (h1 y)
  · rw [h1, Int.toNat_natCast, List.getElem?_eq_getElem hi]
    have e : fndX l p[i] = fndX l y := by
      have := LeadF.one hR.ahead (S := fun x => ∃ j, ∃ h : j < p.length, p[j] = x ∧ but j = false) (by rintro x ⟨j, hj, rfl, _⟩; exact List.getElem_mem hj) (.inr ⟨_, rfl, h2⟩) (.inr ⟨_, rfl, h⟩)
      exact Option.some.inj this
    simp [e, hf]
theorem butB_iff {i : Nat} {gone : List Bool} {j : Nat} : butB (i : Int) gone j = false ↔ j ≠ i ∧ gone.getD j false = false := by
  unfold butB
  rw [Bool.or_eq_false_iff, decide_eq_false_iff_not]
  constructor
  · rintro ⟨h1, h2⟩; exact ⟨by omega, h2⟩
  · rintro ⟨h1, h2⟩; exact ⟨by omega, h2⟩
/-- A round of Tidy leaves the leads. -/
theorem tidy_round {l : List Ent} {p : List Pfx} (hR : TabRight l p) {k : Nat} (hk : k < p.length) {place : ByteArray} {t : Int} {o : Option Fnd} (h : LeadF l (KeptS l p k) place t o) : LeadF l (KeptS l p (k + 1)) place t o := by
  have hg := goneTo_at l p k (by omega)
  have hg1 := goneTo_at l p (k + 1) (by omega)
  have hkk : (goneTo l p k).getD k false = false := by rw [hg, if_neg (by omega)]
  have hstep : ∀ j, j ≠ k → (goneTo l p (k + 1)).getD j false = (goneTo l p k).getD j false := fun j hj => by
    rw [hg, hg1]
    by_cases h2 : j < k
    · rw [if_pos h2, if_pos (by omega)]
    · rw [if_neg h2, if_neg (by omega)]
  cases ht : tidB l p (goneTo l p k) k with
  | false =>
    have hS : ∀ x, KeptS l p k x ↔ KeptS l p (k + 1) x := fun x => by
      unfold KeptS
      have he : ∀ j, (goneTo l p (k + 1)).getD j false = (goneTo l p k).getD j false := fun j => by
        by_cases hj : j = k
        · subst hj; rw [hkk, hg1, if_pos (by omega), ht]
        · exact hstep j hj
      simp only [he]
    exact h.of fun y => canX_iff (hS y)
  | true =>
    rw [tidB_at hk] at ht
    simp only [Bool.and_eq_true, Bool.not_eq_true'] at ht
    have hS : ∀ x, KeptS l p (k + 1) x ↔ KeptS l p k x ∧ x ≠ p[k] := fun x => by
      constructor
      · rintro ⟨j, hj, rfl, h1⟩
        have hjk : j ≠ k := by
          rintro rfl
          rw [hg1, if_pos (by omega), tidB_at hk, ht.1, ht.2] at h1
          cases h1
        exact ⟨⟨j, hj, rfl, by rw [← hstep j hjk]; exact h1⟩, fun e => hjk (ahead_ne hR.ahead hj hk e)⟩
      · rintro ⟨⟨j, hj, rfl, h1⟩, h2⟩
        have hjk : j ≠ k := by rintro rfl; exact h2 rfl
        exact ⟨j, hj, rfl, by rw [hstep j hjk]; exact h1⟩
    rcases h with ⟨rfl, h⟩ | ⟨y, rfl, hy⟩
    · exact .inl ⟨rfl, fun x hx => h x ⟨((hS x).1 hx.1).1, hx.2⟩⟩
    · by_cases hyk : y = p[k]
      · subst hyk
        have hin := cntB_in hy.1.2.2.1
        have hn := ht.2
        unfold needX at hn
        rw [Bool.or_eq_true, decide_eq_true_eq] at hn
        rcases hn with hn | hn
        · omega
        · rw [List.all_eq_true] at hn
          obtain ⟨e, he, het, hno⟩ := last_edge _ t (tmA l p[k]) ((edgL_mem l p (nearL p p[k].beg (min 4 p[k].beg.size)) (tmA l p[k]) (tmZ l p[k]) _).2 (.inl rfl)) hin.1
          have hea : tmA l p[k] ≤ e := by
            rcases (edgL_mem _ _ _ _ _ _).1 he with rfl | ⟨_, _, _, h1, _⟩ <;> omega
          obtain ⟨m, hm, hf⟩ := sameB_lead hR (hn e he)
          have hS2 : ∀ x, (∃ j, ∃ h : j < p.length, p[j] = x ∧ butB (k : Int) (goneTo l p k) j = false) ↔ KeptS l p (k + 1) x := fun x => by
            rw [hS]
            constructor
            · rintro ⟨j, hj, rfl, h1⟩
              obtain ⟨h2, h3⟩ := butB_iff.1 h1
              exact ⟨⟨j, hj, rfl, h3⟩, fun e => h2 (ahead_ne hR.ahead hj hk e)⟩
            · rintro ⟨⟨j, hj, rfl, h1⟩, h2⟩
              exact ⟨j, hj, rfl, butB_iff.2 ⟨by rintro rfl; exact h2 rfl, h1⟩⟩
          have hm2 : LeadX l (KeptS l p (k + 1)) p[k].beg e m := hm.of fun y => canX_iff (hS2 y)
          have hm3 : LeadX l (KeptS l p (k + 1)) p[k].beg t m := hm2.of fun y => lead_between hR (by rintro x ⟨j, hj, rfl, _⟩; exact List.getElem_mem hj) hea het hin.2.1 hno y
          refine .inr ⟨m, by rw [hf], hm3.of fun y => ?_⟩
          constructor
          · rintro ⟨h1, h2, h3, h4⟩
            exact ⟨h1, h2, h3, has_trans hy.1.2.2.2 h4⟩
          · rintro ⟨h1, h2, h3, h4⟩
            exact ⟨h1, h2, h3, has_within h4 hy.1.2.2.2 (hy.2 y ⟨((hS y).1 h1).1, h2, h3, h4⟩)⟩
      · exact .inr ⟨y, rfl, ⟨(hS y).2 ⟨hy.1.1, hyk⟩, hy.1.2⟩, fun z hz => hy.2 z ⟨((hS z).1 hz.1).1, hz.2⟩⟩
theorem tidy_leads {l : List Ent} {p : List Pfx} (hR : TabRight l p) {place : ByteArray} {t : Int} {o : Option Fnd} (h : LeadF l (fun x => x ∈ p) place t o) : ∀ k, k ≤ p.length → LeadF l (KeptS l p k) place t o
  | 0, _ => h.of fun y => by
    have : y ∈ p ↔ KeptS l p 0 y := by
      rw [List.mem_iff_getElem]
      constructor
      · rintro ⟨j, hj, rfl⟩
        exact ⟨j, hj, rfl, by rw [goneTo_at l p 0 (by omega), if_neg (by omega)]⟩
      · rintro ⟨j, hj, rfl, _⟩
        exact ⟨j, hj, rfl⟩
    exact canX_iff this
  | k + 1, hk => tidy_round hR (by omega) (tidy_leads hR h k (by omega))
theorem outTo_sub (l : List Ent) (p : List Pfx) : ∀ k, k ≤ p.length → (outTo l p k).Sublist (p.take k)
  | 0, _ => by simp [outTo]
  | k + 1, hk => by
    have ih := outTo_sub l p k (by omega)
    rw [List.take_succ_eq_append_getElem (by omega)]
    cases ht : tidB l p (goneTo l p k) k with
    | true => rw [outTo_yes (by omega) ht]; exact ih.trans (List.sublist_append_left _ _)
    | false => rw [outTo_no (by omega) ht]; exact ih.append (List.Sublist.refl _)
theorem outTo_mem (l : List Ent) (p : List Pfx) (x : Pfx) : ∀ k, k ≤ p.length → (x ∈ outTo l p k ↔ ∃ j, ∃ h : j < p.length, j < k ∧ p[j] = x ∧ tidB l p (goneTo l p j) j = false)
  | 0, _ => by simp [outTo]
  | k + 1, hk => by
    have ih := outTo_mem l p x k (by omega)
    cases ht : tidB l p (goneTo l p k) k with
    | true =>
      rw [outTo_yes (by omega) ht, ih]
      constructor
      · rintro ⟨j, h1, h2, h3⟩; exact ⟨j, h1, by omega, h3⟩
      · rintro ⟨j, h1, h2, h3, h4⟩
        refine ⟨j, h1, ?_, h3, h4⟩
        rcases Nat.lt_or_ge j k with h | h
        · exact h
        · obtain rfl : j = k := by omega
          rw [ht] at h4; cases h4
    | false =>
      rw [outTo_no (by omega) ht, List.mem_append, ih]
      constructor
      · rintro (⟨j, h1, h2, h3⟩ | h)
        · exact ⟨j, h1, by omega, h3⟩
        · exact ⟨k, by omega, by omega, (by have := List.mem_singleton.1 h; exact this.symm), ht⟩
      · rintro ⟨j, h1, h2, h3, h4⟩
        rcases Nat.lt_or_ge j k with h | h
        · exact .inl ⟨j, h1, h, h3, h4⟩
        · obtain rfl : j = k := by omega
          exact .inr (by simp [h3])
def tidyL (l : List Ent) (p : List Pfx) : List Pfx := outTo l p p.length
theorem tidyL_sub (l : List Ent) (p : List Pfx) : (tidyL l p).Sublist p := by
  have := outTo_sub l p p.length (Nat.le_refl _)
  rwa [List.take_length] at this
theorem tidyL_mem (l : List Ent) (p : List Pfx) (x : Pfx) : x ∈ tidyL l p ↔ KeptS l p p.length x := by
  unfold tidyL KeptS
  rw [outTo_mem l p x p.length (Nat.le_refl _)]
  constructor
  · rintro ⟨j, h1, h2, h3, h4⟩; exact ⟨j, h1, h3, by rw [goneTo_at l p p.length (Nat.le_refl _), if_pos h2]; exact h4⟩
  · rintro ⟨j, h1, h3, h4⟩
    rw [goneTo_at l p p.length (Nat.le_refl _), if_pos h1] at h4
    exact ⟨j, h1, h1, h3, h4⟩
theorem rest_lead {l : List Ent} {p : List Pfx} (hR : TabRight l p) (t : Int) (q : ByteArray × Nat × Int × ByteArray) (h56 : ¬ (q.2.2.1 = 5 ∨ q.2.2.1 = 6)) : LeadF l (fun x => x ∈ p) (plcOf q.1 (q.1.extract 0 (q.2.1 + 1)) (q.1.extract (q.2.1 + 1) q.1.size) q.2.2.2 q.2.2.1) t (restOf l p t q) := by
  unfold restOf
  rw [if_neg h56, lngTo_P l p t (-1) _ hR.size]
  generalize plcOf q.1 (q.1.extract 0 (q.2.1 + 1)) (q.1.extract (q.2.1 + 1) q.1.size) q.2.2.2 q.2.2.1 = place
  have hS : ∀ x, (∃ j, ∃ h : j < p.length, p[j] = x ∧ decide ((j : Int) = -1) = false) ↔ x ∈ p := fun x => by
    rw [List.mem_iff_getElem]
    constructor
    · rintro ⟨j, h1, h2, _⟩; exact ⟨j, h1, h2⟩
    · rintro ⟨j, h1, h2⟩; exact ⟨j, h1, h2, by rw [decide_eq_false_iff_not]; omega⟩
  rcases lngP_lead l p t place (fun j => decide ((j : Int) = -1)) hR.size with ⟨h1, h2⟩ | ⟨i, hi, h1, _, h2⟩
  · rw [h1, if_pos (by decide)]
    exact .inl ⟨rfl, fun x hx => h2 x ⟨(hS x).2 hx.1, hx.2⟩⟩
  · rw [h1, if_neg (by omega), Int.toNat_natCast, List.getElem?_eq_getElem hi]
    exact .inr ⟨p[i], rfl, h2.of fun y => canX_iff (hS y)⟩
theorem whl_sub {f : Pfx → Bool} : ∀ {p q : List Pfx}, q.Sublist p → (∀ x ∈ p, f x = true → x ∈ q) → p.Nodup → q.find? f = p.find? f
  | _, _, .slnil, _, _ => rfl
  | _, _, .cons a h, hf, hn => by
    have hn' := List.nodup_cons.1 hn
    have ha : f a = false := by
      cases hc : f a with
      | false => rfl
      | true => exact absurd (h.subset (hf a (by simp) hc)) hn'.1
    rw [List.find?_cons, ha]
    exact whl_sub h (fun x hx => hf x (List.mem_cons_of_mem _ hx)) hn'.2
  | _, _, .cons_cons a h, hf, hn => by
    have hn' := List.nodup_cons.1 hn
    rw [List.find?_cons, List.find?_cons]
    cases f a with
    | true => rfl
    | false => exact whl_sub h (fun x hx hfx => by
        rcases List.mem_cons.1 (hf x (List.mem_cons_of_mem _ hx) hfx) with rfl | h2
        · exact absurd hx hn'.1
        · exact h2) hn'.2
theorem ahead_nodup {p : List Pfx} (hp : p.Pairwise Ahead) : p.Nodup := hp.imp fun {a b} h e => by rw [e] at h; exact PLt.irrefl h.1
/-- What is tidied tells what it told before. -/
theorem tidy_same {l : List Ent} {p : List Pfx} (h : tabE l p = 0) (s : ByteArray) (t : Int) (q : ByteArray × Nat × Int × ByteArray) : fndOf l (tidyL l p) s t q = fndOf l p s t q := by
  have hR := tabE_ok h
  have hs := tidyL_sub l p
  have hR' := tabE_ok (tabE_sub h hs)
  have hw : whlOf l (tidyL l p) s t = whlOf l p s t := by
    unfold whlOf
    refine whl_sub hs (fun x hx hf => ?_) (ahead_nodup hR.ahead)
    obtain ⟨j, hj, rfl⟩ := List.mem_iff_getElem.1 hx
    unfold whlB at hf
    rw [Bool.and_eq_true] at hf
    refine (tidyL_mem l p _).2 ⟨j, hj, rfl, ?_⟩
    rw [goneTo_at l p p.length (Nat.le_refl _), if_pos hj, tidB_at hj, hf.1]
    rfl
  unfold fndOf
  rw [hw]
  cases whlOf l p s t with
  | some x => rfl
  | none =>
    show restOf l (tidyL l p) t q = restOf l p t q
    by_cases h56 : q.2.2.1 = 5 ∨ q.2.2.1 = 6
    · unfold restOf
      rw [if_pos h56, if_pos h56]
    · have h1 := tidy_leads hR (rest_lead hR t q h56) p.length (Nat.le_refl _)
      have h2 := rest_lead hR' t q h56
      exact LeadF.one hR'.ahead (S := fun x => x ∈ tidyL l p) (fun x hx => hx) h2 (h1.of fun y => canX_iff (tidyL_mem l p y).symm)
theorem prefix_le : ∀ (a b : List UInt8), a <+: b → a < b ∨ a = b
  | [], [], _ => .inr rfl
  | [], y :: b, _ => .inl (by simp)
  | x :: a, [], h => by simp at h
  | x :: a, y :: b, h => by
    obtain ⟨rfl, h2⟩ := List.cons_prefix_cons.1 h
    rcases prefix_le a b h2 with h3 | h3
    · exact .inl (List.cons_lt_cons_iff.2 (.inr ⟨rfl, h3⟩))
    · exact .inr (by rw [h3])
/-- Nothing overlaps in what is tidied. -/
theorem tidy_none {l : List Ent} {p : List Pfx} (h : tabE l p = 0) (i' : Nat) (hi' : i' < (tidyL l p).length) : tidB l (tidyL l p) (List.replicate (tidyL l p).length false) i' = false := by
  have hR := tabE_ok h
  have hs := tidyL_sub l p
  have hR' := tabE_ok (tabE_sub h hs)
  have hm := fun x => tidyL_mem l p x
  generalize tidyL l p = q at *
  obtain ⟨i, hi, hxi, hgi⟩ := (hm q[i']).1 (List.getElem_mem hi')
  rw [goneTo_at l p p.length (Nat.le_refl _), if_pos hi, tidB_at hi] at hgi
  rw [tidB_at hi']
  cases hw : q[i'].whole with
  | true => rfl
  | false =>
    rw [hxi] at hgi
    rw [hw] at hgi
    generalize hx : q[i'] = x at *
    cases hq : needX l q (List.replicate q.length false) i' x with
    | false => rfl
    | true =>
      exfalso
      have hp : needX l p (goneTo l p i) i x = true := by
        unfold needX at hq ⊢
        rw [Bool.or_eq_true, decide_eq_true_eq] at hq ⊢
        rcases hq with hq | hq
        · exact .inl hq
        · by_cases hid : tmZ l x ≤ tmA l x
          · exact .inl hid
          · refine .inr ?_
            rw [List.all_eq_true] at hq ⊢
            intro e he
            have heb : tmA l x ≤ e ∧ e < tmZ l x := by
              rcases (edgL_mem _ _ _ _ _ _).1 he with rfl | ⟨_, _, _, h1, h2⟩ <;> omega
            obtain ⟨e', he', hee, hno⟩ := last_edge _ e (tmA l x) ((edgL_mem l q (nearL q x.beg (min 4 x.beg.size)) (tmA l x) (tmZ l x) _).2 (.inl rfl)) heb.1
            have hea : tmA l x ≤ e' := by
              rcases (edgL_mem _ _ _ _ _ _).1 he' with rfl | ⟨_, _, _, h1, _⟩ <;> omega
            obtain ⟨m, hmL, hf⟩ := sameB_lead hR' (hq e' he')
            refine sameB_of hR (y := m) ?_ hf
            have h1 := hmL.of (S' := fun x => ∃ j, ∃ h : j < q.length, q[j] = x ∧ butB (i' : Int) (List.replicate q.length false) j = false) (place' := x.beg) (t' := e) fun y => lead_between hR' (by rintro x ⟨j, hj, rfl, _⟩; exact List.getElem_mem hj) hea hee heb.2 hno y
            refine h1.of fun y => ?_
            have hcx : cntB l x e = true := by rw [← cntB_tm]; unfold hasB; rw [decide_eq_true_eq]; exact heb
            have hgon : ∀ j, (goneTo l p i).getD j false = if j < i then tidB l p (goneTo l p j) j else false := goneTo_at l p i (by omega)
            constructor
            · rintro ⟨⟨j', hj', rfl, hb⟩, h2⟩
              obtain ⟨hji, _⟩ := butB_iff.1 hb
              obtain ⟨j, hj, hjx, hjg⟩ := (hm q[j']).1 (List.getElem_mem hj')
              refine ⟨⟨j, hj, hjx, butB_iff.2 ⟨?_, ?_⟩⟩, h2⟩
              · rintro rfl
                exact hji (ahead_ne hR'.ahead hj' hi' (by rw [← hjx, hxi, hx]))
              · rw [hgon]
                by_cases hlt : j < i
                · rw [if_pos hlt]
                  rw [goneTo_at l p p.length (Nat.le_refl _), if_pos hj] at hjg
                  exact hjg
                · rw [if_neg hlt]
            · rintro ⟨⟨j, hj, rfl, hb⟩, h2, h3, h4⟩
              obtain ⟨hji, hjg⟩ := butB_iff.1 hb
              rw [hgon] at hjg
              have hlt : j < i := by
                rcases Nat.lt_trichotomy j i with h5 | h5 | h5
                · exact h5
                · exact absurd h5 hji
                · exfalso
                  have hA := (List.pairwise_iff_getElem.1 hR.ahead i j hi hj h5).1
                  have hpl : p[j].beg.data.toList < x.beg.data.toList ∨ p[j].beg.data.toList = x.beg.data.toList := prefix_le _ _ (by unfold Lib.hasPrefix at h4; exact List.isPrefixOf_iff_prefix.1 h4)
                  have hbe : p[i].beg = p[j].beg := by
                    rcases hA.le with h6 | h6
                    · rw [hxi] at h6
                      rcases hpl with h7 | h7
                      · exact absurd (List.lt_trans h6 h7) (List.lt_irrefl _)
                      · rw [h7] at h6; exact absurd h6 (List.lt_irrefl _)
                    · exact h6
                  have := one_counts hR.ahead hi hj hbe (by rw [hxi, hw, h2]) (by rw [hxi]; exact hcx) h3
                  omega
              rw [if_pos hlt] at hjg
              obtain ⟨j', hj', hjx⟩ := List.mem_iff_getElem.1 ((hm p[j]).2 ⟨j, hj, rfl, by rw [goneTo_at l p p.length (Nat.le_refl _), if_pos hj]; exact hjg⟩)
              refine ⟨⟨j', hj', hjx, butB_iff.2 ⟨?_, ?_⟩⟩, h2, h3, h4⟩
              · rintro rfl
                exact hji (ahead_ne hR.ahead hj hi (by rw [← hjx, hx, hxi]))
              · rw [List.getD_eq_getElem?_getD, List.getElem?_replicate]
                split <;> rfl
      rw [hp] at hgi
      cases hgi
theorem ovr_none {l : List Ent} {p : List Pfx} (h : tabE l p = 0) : ∀ k, k ≤ (tidyL l p).length → ovrTo l (tidyL l p) k = []
  | 0, _ => rfl
  | k + 1, hk => by
    unfold ovrTo
    rw [tidy_none h k (by omega), if_neg (by simp)]
    exact ovr_none h k (by omega)
end Go.Proofs.YtbpkfkbbkgdlaaaGreatDoor

namespace Go.Proofs.YtbpkfkbbkgdlaaaGreatDoor
open Go.RowKit
set_option linter.unusedVariables false
set_option linter.unusedSimpArgs false

def isCall (s : ByteArray) : Bool := (partsOf s).isSome
theorem parts_flat {s : ByteArray} {w w' : World} {e : Ending} (h : PartsPost s w e w') : w.grownBy w' none ∧ ∃ (t0 t1 t2 t4 : ByteArray) (kd : Int), e = .returned (.tuple #[.agg #[.string t0, .string t1, .string t2, .int .i64 kd, .string t4], .bool (isCall s)]) := by
  obtain ⟨hg, ⟨hn, he⟩ | ⟨t, k, kd, ad, hn, he⟩⟩ := h
  · have hb : isCall s = false := by unfold isCall; rw [hn]; rfl
    rw [hb]
    exact ⟨hg, _, _, _, _, _, he⟩
  · have hb : isCall s = true := by unfold isCall; rw [hn]; rfl
    rw [hb]
    exact ⟨hg, _, _, _, _, _, he⟩
set_option maxHeartbeats 1000000 in
theorem isCall_any (s : ByteArray) (w : World) (hs : s.size < 4294967281) (ha : Ascii s) :
    Calls Tryz.prog 36 #[.string s] w fun e w' => e = .returned (.bool (isCall s)) ∧ w.grownBy w' none := by
  have HP := Lib.hid ((parts_any s w hs ha).mono fun e w' h => parts_flat h)
  clear hs ha
  generalize isCall s = B at *
  go_enter Tryz.func36, Tryz.ntmps36
  go_wp2_with fail
  refine HP.out.mono ?_
  rintro _ w1 ⟨hg1, t0, t1, t2, t4, kd, rfl⟩
  have hG := gr_alloc hg1 (.cells #[.string t0, .string t1, .string t2, .int .i64 kd, .string t4] 105)
  go_wp2_with fail
  go_ret
  exact ⟨rfl, hG⟩
end Go.Proofs.YtbpkfkbbkgdlaaaGreatDoor
