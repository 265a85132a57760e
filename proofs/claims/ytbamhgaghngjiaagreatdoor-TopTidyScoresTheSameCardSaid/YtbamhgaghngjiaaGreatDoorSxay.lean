/- The walks jlx call.Tidy and call.Overlaps: what is left out, told exactly. Condition: lists of parts of a size. -/
import Derived.Test.YtbamhgaghngjiaaGreatDoorSxax
namespace Go.Proofs.YtbamhgaghngjiaaGreatDoor
open Go.RowKit
set_option linter.unusedVariables false
set_option linter.unusedSimpArgs false

theorem jtz : (Tryz.prog.info? 4).map (fun i => (i.zero, i.size, i.bytes)) = some (some (.bool false), 1, 1) := by kernel_rfl
theorem juw : (Tryz.prog.info? 134).map (fun i => (i.zero, i.size, i.bytes)) = some (some (.agg #[.string ⟨#[]⟩, .string ⟨#[]⟩, .int .i64 0, .int .i64 0, .bool false, .int .i64 0]), 6, 64) := by kernel_rfl
theorem jk4 (a b : ByteArray) (c d : Int) (h : Bool) (z : Int) : ∀ u ∈ [Value.string a, .string b, .int .i64 c, .int .i64 d, .bool h, .int .i64 z], u.oneCell' = true := by
 intro u hu; simp at hu; rcases hu with rfl | rfl | rfl | rfl | rfl | rfl <;> rfl
theorem PfxsFrom.nil (base : Nat) (w : World) : PfxsFrom base w (.slice none 0 0) [] := World.ownsRow_nil _ _ _ _
theorem jpw {base : Nat} {w : World} {v : Value} {n : Nat} (h : w.ownsRow base 4 1 v n (madeCells #[Value.bool false] (n * 1)).toList) : BoolsFrom base w v (List.replicate n false) := by
 unfold BoolsFrom
 rw [Nat.mul_one, toList_madeCells_one] at h
 rw [List.length_replicate, List.map_replicate]
 exact h
theorem BoolsFrom.stored {base : Nat} {w : World} {g n c : Nat} {l : List Bool} (h : BoolsFrom base w (.slice (some ⟨g, 0, none⟩) n c) l) (hn : n = l.length) (k : Nat) (b : Bool) : BoolsFrom base (w.setCell ⟨g, k, none⟩ (.bool b)) (.slice (some ⟨g, 0, none⟩) n c) (l.set k b) ∧ w.grownBy (w.setCell ⟨g, k, none⟩ (.bool b)) (some g) := by
 unfold BoolsFrom at h ⊢
 rw [← hn] at h
 have hst := World.ownsRow.stored h k (.bool b)
 rw [List.length_set, ← hn, List.map_set]
 exact hst
theorem jr4 {base : Nat} {w : World} {v : Value} {n : Nat} {l : List Pfx} (x : Pfx) (hn : n = l.length) (h : w.ownsRow base 134 6 v (n + 1) (l.flatMap jvj ++ [.string x.beg, .string x.ent, .int .i64 x.a, .int .i64 x.z, .bool x.whole, .int .i64 x.zone])) : PfxsFrom base w v (l ++ [x]) := by
 unfold PfxsFrom
 rw [List.length_append, List.flatMap_append, ← hn]
 exact h
theorem jsz (l : List Ent) (p : List Pfx) (k : Nat) (hk : k ≤ p.length) : (ye l p k).length ≤ k := by
 have := (jgd l p k hk).length_le
 rw [List.length_take] at this
 omega
def ji0 (l : List Ent) (p : List Pfx) (w : World) (r : Ending) (w' : World) : Prop :=
 ∃ (v : Value) (q : List Pfx), r = .returned (.tuple #[v, .int .i64 (yh l p)]) ∧ PfxsFrom w.heap.size w' v q ∧ (yh l p ≠ 0 → q = []) ∧ (yh l p = 0 → q = jbi l p) ∧ w.grownBy w' none
set_option maxRecDepth 100000 in
set_option maxHeartbeats 8000000 in
theorem jui (base : Nat) (u v : Value) (l : List Ent) (p : List Pfx) (w : World) (hu : EntsFrom base w u l) (hsl : ∀ e ∈ l, jhz e) (hv : PfxsFrom base w v p) (hsm : ∀ x ∈ p, jls x) :
 Calls Tryz.prog 25 #[u, v] w (ji0 l p w) := by
 obtain ⟨i0, hi0, hz0, hz1, hz2⟩ := info_parts juw
 obtain ⟨j0, hj0, hy0, hy1, hy2⟩ := info_parts jtz
 have HCT : Hid (∀ W, w.grownBy W none → Calls Tryz.prog 52 #[u, v] W fun r w' => r = .returned (.int .i64 (yh l p)) ∧ W.grownBy w' none) := fun W hW => jam base u v l p W (hu.grown hW) hsl (hv.grown hW) hsm
 have HTO : Hid (yh l p = 0 → ∀ W, w.grownBy W none → Calls Tryz.prog 55 #[u, v] W (jf4 base u v l p W)) := fun h W hW => jdz base u v l p W (hu.grown hW) (hv.grown hW) (ja7 h)
 have HV := Lib.hid hv
 obtain ⟨A, c, rfl, hlen, hA⟩ := hv.shape
 have HA := Lib.hid hA
 obtain ⟨LP, hLP⟩ : ∃ LP, p.length = LP := ⟨_, rfl⟩
 obtain ⟨E, hE⟩ : ∃ E, yh l p = E := ⟨_, rfl⟩
 have HE := Lib.hid hE
 have HLP := Lib.hid hLP
 rw [hE] at HCT
 rw [hLP] at HCT HTO HV hlen ⊢
 clear hu hv hA hE hLP
 go_enter Tryz.func25, Tryz.ntmps25
 go_wp2_with fail
 refine (HCT.out _ (je _ _)).mono ?_
 rintro _ w2 ⟨rfl, hg2⟩
 by_cases hE0 : E = 0
 ·have hR := ja7 (HE.out.trans hE0)
  have hl2 := hR.ok.len
  have hPOST : Hid (∀ V w', PfxsFrom w.heap.size w' V (jbi l p) → w.grownBy w' none → ji0 l p w (.returned (.tuple #[V, .int .i64 0])) w') := fun V w' h hg => ⟨V, _, by rw [HE.out, hE0], h, fun h => absurd (HE.out.trans hE0) h, fun _ => rfl, hg⟩
  have HTO2 := Lib.hid (HTO.out (HE.out.trans hE0))
  rw [HLP.out] at hl2
  subst hE0
  have HRT := Lib.hid hR
  clear hR HTO HCT
  go_wp2_with fail
  refine (HTO2.out _ hg2).mono ?_
  rintro _ w3 ⟨base2, gT, bB, bW, rfl, hTF, _, hg3⟩
  have hG3 := ja hg2 hg3
  have HTF := Lib.hid hTF
  clear hTF hg2 hg3
  go_wp2_with (refine wpList_make_full _ rfl _ _ 132 rfl w3.heap.size 4 j0 _ 1 Tryz.underlying132 hj0 hy0 hy1 .i64 .i64 _ _ LP rfl rfl rfl rfl (by rw [hy2]; omega) (by unfold maxLen; omega) (Nat.le_refl _) ?_; intro w4 hown4 hg4)
  have hBL : BoolsFrom w3.heap.size w4 (.slice (some ⟨w3.heap.size, 0, none⟩) LP LP) (qg l p 0) := by
   show BoolsFrom _ _ _ (List.replicate p.length false)
   rw [HLP.out]
   exact jpw hown4
  have hG4 := ja hG3 hg4
  have HT4 : Hid (∀ W, w4.grownBy W (some w3.heap.size) → TabFull base base2 gT bB bW u (.slice A LP c) l p W ) := fun W hW => by
   have h1 : w3.grownBy W none := jh hg4 hW (fun g e => by injection e with e; exact .inr (by omega))
   exact HTF.out.grown h1
  have HW3 : Hid (w.heap.size ≤ w3.heap.size) := hG3.size
  obtain ⟨b4, hb4⟩ : ∃ x, w4.heap.size = x := ⟨_, rfl⟩
  have HW4 : Hid (w.heap.size ≤ b4) := by show _ ≤ _; rw [← hb4]; exact hG4.size
  have HWB : Hid (w3.heap.size < b4) := by show _ < _; rw [← hb4]; exact (World.ownsRow.lt hBL w3.heap.size rfl).2
  have HB4E := Lib.hid hb4
  generalize w3.heap.size = gB at *
  clear hown4 hG3 hg4 hb4
  go_wp2_with fail
  go_loopw [9, 26] (fun ov kv wr => ∃ k : Nat, k ≤ LP ∧ kv = .int .i64 k ∧ PfxsFrom b4 wr ov (ye l p k) ∧ BoolsFrom gB wr (.slice (some ⟨gB, 0, none⟩) LP LP) (qg l p k) ∧ w4.grownBy wr (some gB)) (fun _ kv _ => LP - (intOf kv).toNat)
  case atStart => exact ⟨0, by omega, rfl, PfxsFrom.nil _ _, hBL, je _ _⟩
  case round =>
   obtain ⟨k, hk, rfl, hown, hbl, hg⟩ := hrel
   obtain ⟨A2, c2, rfl, _, hA2⟩ := hown.shape
   obtain ⟨LO, hLO⟩ : ∃ LO, (ye l p k).length = LO := ⟨_, rfl⟩
   have hLOb : LO ≤ k := by rw [← hLO]; exact jsz l p k (by rw [HLP.out]; exact hk)
   have hgw : w.grownBy wr none := jh hG4 hg (fun g e => by injection e with e; exact .inr (by have := HW3.out; omega))
   clear hBL
   by_cases hlt : k < LP
   ·have hki : (k : Int) < (LP : Int) := by omega
    have hk0 : (0 : Int) ≤ (k : Int) := by omega
    have hkp : k < p.length := by rw [HLP.out]; exact hlt
    obtain ⟨gp, rfl, _, hgl⟩ := HA.out (by rw [HLP.out]; omega)
    have hat := (show PfxsFrom base w (.slice (some ⟨gp, 0, none⟩) p.length c) p from by rw [HLP.out]; exact HV.out).at_ k hkp
    obtain ⟨q0, q1, q2, q3, q4, q5⟩ := hat
    have q0 := hgw.cell q0 (by simp)
    have q1 := hgw.cell q1 (by simp)
    have q2 := hgw.cell q2 (by simp)
    have q3 := hgw.cell q3 (by simp)
    have q4 := hgw.cell q4 (by simp)
    have q5 := hgw.cell q5 (by simp)
    have hgl2 := jb8 l p k
    rw [HLP.out] at hgl2
    have HNX : Hid (∀ W, wr.grownBy W none → Calls Tryz.prog 69 #[.pointer (some ⟨gT, 0, none⟩), .int .i64 k, .slice (some ⟨gB, 0, none⟩) LP LP] W fun r w' => r = .returned (.bool (jlm l p (qg l p k) k p[k])) ∧ W.grownBy w' none) := fun W hW => jmi base base2 gT bB bW u _ l p k gB _ (qg l p k) W (HT4.out W (ja hg (ja3 hW _))) HRT.out hkp (hbl.grown hW) (jb8 l p k)
    have hyes : ∀ b, jog l p (qg l p k) k = b → qg l p (k + 1) = (qg l p k).set k b := fun b h => by rw [← h]; rfl
    have hno : jog l p (qg l p k) k = false → ye l p (k + 1) = ye l p k ++ [p[k]] := jin hkp
    have hye : jog l p (qg l p k) k = true → ye l p (k + 1) = ye l p k := jgl hkp
    rw [jh4 hkp] at hyes hno hye
    have hbc : wr.cell? ⟨gB, k, none⟩ = some (.bool ((qg l p k)[k]'(by omega))) := BoolsFrom.at_ (by rw [hgl2]; exact hbl) k (by omega)
    generalize (qg l p k)[k]'(by omega) = OB at *
    generalize jlm l p (qg l p k) k p[k] = NX at *
    generalize p[k] = x at *
    obtain ⟨XB, XE, XA, XZ, XW, XN⟩ := x
    have HY := Lib.hid hyes
    have HN := Lib.hid hno
    have HE2 := Lib.hid hye
    rw [hLO] at hown
    (try rw [hLO])
    have HLO := Lib.hid hLO
    have HOWN := Lib.hid hown
    have HBL := Lib.hid hbl
    have HGL := Lib.hid hgl2
    have HBI : Hid (∀ W (B : Bool), wr.grownBy W none → BoolsFrom gB (W.setCell ⟨gB, k, none⟩ (.bool B)) (.slice (some ⟨gB, 0, none⟩) LP LP) ((qg l p k).set k B) ∧ W.grownBy (W.setCell ⟨gB, k, none⟩ (.bool B)) (some gB) ∧ w4.grownBy (W.setCell ⟨gB, k, none⟩ (.bool B)) (some gB) ∧ PfxsFrom b4 (W.setCell ⟨gB, k, none⟩ (.bool B)) (.slice A2 LO c2) (ye l p k)) := fun W B hW => by
     have h1 := BoolsFrom.stored (HBL.out.grown hW) HGL.out.symm k B
     refine ⟨h1.1, h1.2, ja (ja hg (ja3 hW _)) h1.2, ?_⟩
     have h2 := HOWN.out.grown hW
     rw [← HLO.out] at h2 ⊢
     exact PfxsFrom.other h2 h1.2 HWB.out
    have HFZ : Hid (∀ W, wr.grownBy W none → W.frozen? ⟨gB, k, none⟩ = false ∧ W.cell? ⟨gB, k, none⟩ = some (.bool OB)) := fun W hW => by
     have h := HBL.out.grown hW
     unfold BoolsFrom at h
     rw [HGL.out] at h
     exact ⟨World.ownsRow.frozenAt h k, hW.cell hbc (by simp)⟩
    clear hyes hno hye hLO hA2 hown hbl hgl2 hbc
    simp only at q0 q1 q2 q3 q4 q5
    have hgA := World.grownBy_alloc wr (.cells #[.string XB, .string XE, .int .i64 XA, .int .i64 XZ, .bool XW, .int .i64 XN] 134) none
    have hX := Blk.new wr 134 #[.string XB, .string XE, .int .i64 XA, .int .i64 XZ, .bool XW, .int .i64 XN]
    go_upto_region 10 with fail
    generalize wr.alloc (.cells #[.string XB, .string XE, .int .i64 XA, .int .i64 XZ, .bool XW, .int .i64 XN] 134) = w5 at *
    obtain ⟨gX, hgX⟩ : ∃ x, wr.heap.size = x := ⟨_, rfl⟩
    have HHW : Hid (gB < gX) := by show _ < _; rw [← hgX]; have := HWB.out; have := hg.size; have := HB4E.out; omega
    rw [hgX] at hX
    (try rw [hgX])
    clear hgX
    have HX := Lib.hid hX
    have x4 := hX.cell 4
    simp only [geA, geZ, geS] at x4
    clear q0 q1 q2 q3 q4 q5 hX
    have HXB : Hid (gX ≠ gB) := by show _ ≠ _; intro e; have h1 := HHW.out; omega
    cases XW
    ·go_wp2_with fail
     refine (HNX.out _ hgA).mono ?_
     rintro _ w6 ⟨rfl, hg5c⟩
     have hgc := ja hgA hg5c
     clear x4
     cases NX
     ·obtain ⟨hfz, hcb⟩ := HFZ.out w6 hgc
      obtain ⟨hb1, hb2, hb3, hb4⟩ := HBI.out w6 false hgc
      have hX7 := Blk.far (HX.out.grown hg5c (by simp)) (p := ⟨gB, k, none⟩) HXB.out (.bool false)
      have hc7 : (w6.setCell ⟨gB, k, none⟩ (.bool false)).cell? ⟨gB, k, none⟩ = some (.bool false) := by
       have h := BoolsFrom.at_ (l := (qg l p k).set k false) (by rw [List.length_set, HGL.out]; exact hb1) k (by rw [List.length_set, HGL.out]; exact hlt)
       simpa using h
      go_upto_region 11 with fail
      generalize w6.setCell ⟨gB, k, none⟩ (.bool false) = w7 at *
      have hrow7 : BoolsFrom gB w7 (.slice (some ⟨gB, 0, none⟩) LP LP) (qg l p (k + 1)) := by rw [HY.out false (by simp)]; exact hb1
      have HR7 := Lib.hid hrow7
      clear hfz hcb hb1 hb2 hrow7
      have y0 := hX7.cell 0
      have y1 := hX7.cell 1
      have y2 := hX7.cell 2
      have y3 := hX7.cell 3
      have y4 := hX7.cell 4
      have y5 := hX7.cell 5
      simp only [geA, geZ, geS] at y0 y1 y2 y3 y4 y5
      have HN2 : Hid (ye l p (k + 1) = ye l p k ++ [⟨XB, XE, XA, XZ, false, XN⟩]) := HN.out (by simp)
      have hw7 : b4 ≤ w7.heap.size := by have := hb3.size; have := HB4E.out; omega
      have hb4' : w7.ownsRow b4 134 6 (.slice A2 LO c2) LO ((ye l p k).flatMap jvj) := by
       have h := hb4
       unfold PfxsFrom at h
       rw [HLO.out] at h
       exact h
      have HB4 := Lib.hid hb4'
      clear hb4 hX7
      go_wp2_with (at_builtin; refine wpList_append_own _ rfl _ _ 27 rfl b4 134 i0 _ 6 64 Tryz.underlying27 hi0 hz0 hz1 hz2 rfl (by decide) _ LO _ rfl (World.ownsRow.alloc HB4.out _) ⟨_, 0, none⟩ 1 1 [.string XB, .string XE, .int .i64 XA, .int .i64 XZ, .bool false, .int .i64 XN] rfl rfl (World.news_of_block (Blk.new _ _ _)) (jk4 _ _ _ _ _ _) (by unfold maxLen; omega) (by omega) (by simp; omega) ?_; intro v' w8 hownB hgrB _)
      have hown8 : PfxsFrom b4 w8 v' (ye l p (k + 1)) := by rw [HN2.out]; exact jr4 ⟨XB, XE, XA, XZ, false, XN⟩ HLO.out.symm hownB
      have hlt8 := fun g e => (HB4.out.lt g e).1
      have hG8 : w4.grownBy w8 (some gB) := jh (jd hb3 _) hgrB (fun g e => .inr (by have := hlt8 g e; have := HB4E.out; omega))
      have hR8 : BoolsFrom gB w8 (.slice (some ⟨gB, 0, none⟩) LP LP) (qg l p (k + 1)) := jaf (B := gB + 1) (World.ownsRow.alloc (show World.ownsRow _ _ _ _ _ _ _ from HR7.out) _) (fun g e => by simp [Value.ownBlock] at e; omega) hgrB (fun g e => by have := hlt8 g e; have := HWB.out; omega)
      go_wp2_with fail
      go_roundw
      case rel => exact ⟨k + 1, by omega, by go_num, hown8, hR8, hG8⟩
      case measure => simp [intOf]; omega
     obtain ⟨hfz, hcb⟩ := HFZ.out w6 hgc
     obtain ⟨hb1, hb2, hb3, hb4⟩ := HBI.out w6 true hgc
     have hX7 := Blk.far (HX.out.grown hg5c (by simp)) (p := ⟨gB, k, none⟩) HXB.out (.bool true)
     have hc7 : (w6.setCell ⟨gB, k, none⟩ (.bool true)).cell? ⟨gB, k, none⟩ = some (.bool true) := by
      have h := BoolsFrom.at_ (l := (qg l p k).set k true) (by rw [List.length_set, HGL.out]; exact hb1) k (by rw [List.length_set, HGL.out]; exact hlt)
      simpa using h
     go_upto_region 11 with fail
     generalize w6.setCell ⟨gB, k, none⟩ (.bool true) = w7 at *
     have hrow7 : BoolsFrom gB w7 (.slice (some ⟨gB, 0, none⟩) LP LP) (qg l p (k + 1)) := by rw [HY.out true (by simp)]; exact hb1
     have HR7 := Lib.hid hrow7
     clear hfz hcb hb1 hb2 hrow7
     have HN2 : Hid (PfxsFrom b4 w7 (.slice A2 LO c2) (ye l p (k + 1))) := by show PfxsFrom _ _ _ _; rw [HE2.out (by simp)]; exact hb4
     clear hb4 hX7
     go_wp2_with fail
     go_roundw
     case rel => exact ⟨k + 1, by omega, by go_num, HN2.out, HR7.out, hb3⟩
     case measure => simp [intOf]; omega
    have hgc := hgA
    have hg5c := je w5 none
    obtain ⟨hfz, hcb⟩ := HFZ.out w5 hgc
    obtain ⟨hb1, hb2, hb3, hb4⟩ := HBI.out w5 false hgc
    have hX7 := Blk.far (HX.out.grown hg5c (by simp)) (p := ⟨gB, k, none⟩) HXB.out (.bool false)
    have hc7 : (w5.setCell ⟨gB, k, none⟩ (.bool false)).cell? ⟨gB, k, none⟩ = some (.bool false) := by
     have h := BoolsFrom.at_ (l := (qg l p k).set k false) (by rw [List.length_set, HGL.out]; exact hb1) k (by rw [List.length_set, HGL.out]; exact hlt)
     simpa using h
    go_upto_region 11 with fail
    generalize w5.setCell ⟨gB, k, none⟩ (.bool false) = w7 at *
    have hrow7 : BoolsFrom gB w7 (.slice (some ⟨gB, 0, none⟩) LP LP) (qg l p (k + 1)) := by rw [HY.out false (by simp)]; exact hb1
    have HR7 := Lib.hid hrow7
    clear hfz hcb hb1 hb2 hrow7
    have y0 := hX7.cell 0
    have y1 := hX7.cell 1
    have y2 := hX7.cell 2
    have y3 := hX7.cell 3
    have y4 := hX7.cell 4
    have y5 := hX7.cell 5
    simp only [geA, geZ, geS] at y0 y1 y2 y3 y4 y5
    have HN2 : Hid (ye l p (k + 1) = ye l p k ++ [⟨XB, XE, XA, XZ, true, XN⟩]) := HN.out (by simp)
    have hw7 : b4 ≤ w7.heap.size := by have := hb3.size; have := HB4E.out; omega
    have hb4' : w7.ownsRow b4 134 6 (.slice A2 LO c2) LO ((ye l p k).flatMap jvj) := by
     have h := hb4
     unfold PfxsFrom at h
     rw [HLO.out] at h
     exact h
    have HB4 := Lib.hid hb4'
    clear hb4 hX7
    go_wp2_with (at_builtin; refine wpList_append_own _ rfl _ _ 27 rfl b4 134 i0 _ 6 64 Tryz.underlying27 hi0 hz0 hz1 hz2 rfl (by decide) _ LO _ rfl (World.ownsRow.alloc HB4.out _) ⟨_, 0, none⟩ 1 1 [.string XB, .string XE, .int .i64 XA, .int .i64 XZ, .bool true, .int .i64 XN] rfl rfl (World.news_of_block (Blk.new _ _ _)) (jk4 _ _ _ _ _ _) (by unfold maxLen; omega) (by omega) (by simp; omega) ?_; intro v' w8 hownB hgrB _)
    have hown8 : PfxsFrom b4 w8 v' (ye l p (k + 1)) := by rw [HN2.out]; exact jr4 ⟨XB, XE, XA, XZ, true, XN⟩ HLO.out.symm hownB
    have hlt8 := fun g e => (HB4.out.lt g e).1
    have hG8 : w4.grownBy w8 (some gB) := jh (jd hb3 _) hgrB (fun g e => .inr (by have := hlt8 g e; have := HB4E.out; omega))
    have hR8 : BoolsFrom gB w8 (.slice (some ⟨gB, 0, none⟩) LP LP) (qg l p (k + 1)) := jaf (B := gB + 1) (World.ownsRow.alloc (show World.ownsRow _ _ _ _ _ _ _ from HR7.out) _) (fun g e => by simp [Value.ownBlock] at e; omega) hgrB (fun g e => by have := hlt8 g e; have := HWB.out; omega)
    go_wp2_with fail
    go_roundw
    case rel => exact ⟨k + 1, by omega, by go_num, hown8, hR8, hG8⟩
    case measure => simp [intOf]; omega
   have hkl : ¬ (k : Int) < (LP : Int) := by omega
   have hkk : k = p.length := by rw [HLP.out]; omega
   have HFIN : Hid (PfxsFrom w.heap.size wr (.slice A2 LO c2) (jbi l p)) := by
    show PfxsFrom _ _ _ (ye l p p.length)
    rw [← hkk, ← hLO]
    exact jt hown HW4.out
   (try rw [hLO])
   clear hown hA2 hkk hLO hbl
   go_wp2_with fail
   go_ret2
   exact hPOST.out _ _ HFIN.out hgw
 have hPOST : Hid (∀ w', w.grownBy w' none → ji0 l p w (.returned (.tuple #[.slice none 0 0, .int .i64 E])) w') := fun w' hg => ⟨_, [], by rw [HE.out], PfxsFrom.nil _ _, fun _ => rfl, fun h => absurd (HE.out.symm.trans h) hE0, hg⟩
 have hE1 : (E == 0) = false := by rw [beq_eq_false_iff_ne]; exact hE0
 clear HTO HCT HE hE0
 go_wp2_with fail
 go_ret2
 exact hPOST.out _ hg2
end Go.Proofs.YtbamhgaghngjiaaGreatDoor
