/- The walk over call.Of. Condition: parts of a size; a string of ASCII bytes. The walk over a table's needless: nothing would be otherwise without a prefix. Condition: a right table with its maps lies in memory, and a row of as many truths. The walks over call.Tidy and call.Overlaps: what is left out, told exactly. Condition: lists of parts of a size. The walks over the stream's CallOf and RightCall: a string of ASCII, at most 30 bytes; a call sign. Condition: the stream has handed out at most 10^10 numbers. -/
import Derived.Test.YtbpkfkbbkgdlaaaGreatDoorPKeepal
import Derived.Deep.DeepCutAuto
import Derived.Deep.RegionHeld
import Derived.Test.YtbpkfkbbkgdlaaaGreatDoorPKeepad
import Derived.Deep.AppendLies
import Derived.Test.YtbpkfkbbkgdlaaaGreatDoorPKeepag
import Derived.Test.YtbpkfkbbkgdlaaaGreatDoorPKeepah
namespace Go.Proofs.YtbpkfkbbkgdlaaaGreatDoor
open Go.RowKit
set_option linter.unusedVariables false
set_option linter.unusedSimpArgs false

theorem TabRight.beg {l : List Ent} {p : List Pfx} (h : TabRight l p) : ∀ x ∈ p, x.beg.size ≤ 14 := fun x hx => by
  cases hw : x.whole with
  | false => have := h.size x hx hw; omega
  | true =>
    have hf := (h.pfx x hx).form
    unfold formB at hf
    rw [hw] at hf
    simp only [if_true, Bool.not_eq_false'] at hf
    by_cases h1 : 14 < x.beg.size
    · unfold partsOf at hf
      rw [if_pos h1] at hf
      simp at hf
    · omega
def ofE (l : List Ent) (p : List Pfx) (s : ByteArray) (t : Int) : Int := if tabE l p ≠ 0 then tabE l p else if isCall s = false then 3 else momE t
def OfPost (l : List Ent) (p : List Pfx) (s : ByteArray) (t : Int) (w : World) (r : Ending) (w' : World) : Prop :=
  ∃ O : Option Fnd, r = .returned (.tuple #[.agg #[.string (O.getD fndZ0).1, .int .i64 (O.getD fndZ0).2.1, .int .i64 (O.getD fndZ0).2.2], .bool O.isSome, .int .i64 (ofE l p s t)]) ∧ (ofE l p s t ≠ 0 → O = none) ∧ (ofE l p s t = 0 → tabE l p = 0 ∧ ∀ q, partsOf s = some q → O = fndOf l p s t q) ∧ w.grownBy w' none
theorem tableOf_right (base : Nat) (u v : Value) (l : List Ent) (p : List Pfx) (w : World) (hu : EntsFrom base w u l) (hv : PfxsFrom base w v p) (hR : TabRight l p) :
    Calls Tryz.prog 56 #[u, v] w (TabPost base u v l p w) := tableOf_ok base u v l p w hu hv hR.ok.len hR.beg
set_option maxRecDepth 100000 in
set_option maxHeartbeats 4000000 in
theorem of_any (base : Nat) (u v : Value) (l : List Ent) (p : List Pfx) (s : ByteArray) (t : Int) (w : World) (hu : EntsFrom base w u l) (hsl : ∀ e ∈ l, EntSm e) (hv : PfxsFrom base w v p) (hsm : ∀ x ∈ p, PfxSm x) (hs : s.size ≤ 1000) (ha : Ascii s) :
    Calls Tryz.prog 15 #[u, v, .string s, .int .i64 t] w (OfPost l p s t w) := by
  have hR := Blk.new w 38 #[.string ⟨#[]⟩, .int .i64 0, .int .i64 0]
  have hg0 := World.grownBy_alloc w (.cells #[.string ⟨#[]⟩, .int .i64 0, .int .i64 0] 38) none
  have HU := Lib.hid hu
  have HV := Lib.hid hv
  have HCT : Hid (∀ W, w.grownBy W none → Calls Tryz.prog 14 #[u, v] W fun r w' => r = .returned (.int .i64 (tabE l p)) ∧ W.grownBy w' none) := fun W hW => checkTable_any base u v l p W (hu.grown hW) hsl (hv.grown hW) hsm
  have HIC : Hid (∀ W, Calls Tryz.prog 36 #[.string s] W fun e w' => e = .returned (.bool (isCall s)) ∧ W.grownBy w' none) := fun W => isCall_any s W (by omega) ha
  obtain ⟨gR, hgR⟩ : ∃ x, w.heap.size = x := ⟨_, rfl⟩
  have HgR := Lib.hid hgR
  rw [hgR] at hR
  have HFIN : Hid (∀ (W : World) (K : ByteArray) (C Z : Int) (F : Bool), Blk W gR 38 #[.string ⟨#[]⟩, .int .i64 0, .int .i64 0] → w.grownBy W none →
      (((W.setCell ⟨gR, 0, none⟩ (.string K)).setCell ⟨gR, 1, none⟩ (.int .i64 C)).setCell ⟨gR, 2, none⟩ (.int .i64 Z)).cell? ⟨gR, 0, none⟩ = some (.string K) ∧ (((W.setCell ⟨gR, 0, none⟩ (.string K)).setCell ⟨gR, 1, none⟩ (.int .i64 C)).setCell ⟨gR, 2, none⟩ (.int .i64 Z)).cell? ⟨gR, 1, none⟩ = some (.int .i64 C) ∧ (((W.setCell ⟨gR, 0, none⟩ (.string K)).setCell ⟨gR, 1, none⟩ (.int .i64 C)).setCell ⟨gR, 2, none⟩ (.int .i64 Z)).cell? ⟨gR, 2, none⟩ = some (.int .i64 Z) ∧ w.grownBy (((W.setCell ⟨gR, 0, none⟩ (.string K)).setCell ⟨gR, 1, none⟩ (.int .i64 C)).setCell ⟨gR, 2, none⟩ (.int .i64 Z)) none) := fun W K C Z F hW hgW => by
    have hf := ((Blk.put hW 0 (.string K)).put 1 (.int .i64 C)).put 2 (.int .i64 Z)
    simp only [List.setIfInBounds_toArray, List.set_cons_zero, List.set_cons_succ] at hf
    have hle : w.heap.size ≤ gR := by omega
    exact ⟨hf.cell 0, hf.cell 1, hf.cell 2, gr_put (p := ⟨gR, 2, none⟩) (gr_put (p := ⟨gR, 1, none⟩) (gr_put (p := ⟨gR, 0, none⟩) hgW (.inr hle) (.string K)) (.inr hle) (.int .i64 C)) (.inr hle) (.int .i64 Z)⟩
  obtain ⟨E, hE⟩ : ∃ E, tabE l p = E := ⟨_, rfl⟩
  have HE := Lib.hid hE
  rw [hE] at HCT
  have HAS := Lib.hid ha
  clear hu hv hgR hE ha
  go_enter Tryz.func15, Tryz.ntmps15
  go_upto_region 1 with fail
  generalize w.alloc (.cells #[.string ⟨#[]⟩, .int .i64 0, .int .i64 0] 38) = w1 at *
  rw [HgR.out]
  go_wp2_with fail
  refine (HCT.out _ hg0).mono ?_
  rintro _ w2 ⟨rfl, hg2⟩
  have hgw := gr_trans hg0 hg2
  have hR2 := hR.grown hg2 (by simp)
  clear hR hg0 hg2
  have r0 := Blk.cell (g := gR) hR2 0
  have r1 := Blk.cell (g := gR) hR2 1
  have r2 := Blk.cell (g := gR) hR2 2
  have rf := Blk.free (g := gR) hR2
  simp only [List.getElem?_toArray, List.getElem?_cons_zero, List.getElem?_cons_succ] at r0 r1 r2
  by_cases hE0 : E = 0
  · subst hE0
    clear r0 r1 r2 rf
    go_wp2_with fail
    refine (HIC.out _).mono ?_
    rintro _ w3 ⟨rfl, hg3⟩
    have hR3 := Blk.grown (g := gR) hR2 hg3 (by simp)
    have hgw3 := gr_trans hgw hg3
    have r0 := Blk.cell (g := gR) hR3 0
    have r1 := Blk.cell (g := gR) hR3 1
    have r2 := Blk.cell (g := gR) hR3 2
    have rf := Blk.free (g := gR) hR3
    simp only [List.getElem?_toArray, List.getElem?_cons_zero, List.getElem?_cons_succ] at r0 r1 r2
    cases hic : isCall s
    · have HOE : Hid (ofE l p s t = 3) := by show _ = _; unfold ofE; rw [HE.out, hic]; simp
      obtain ⟨e0, e1, e2, e3⟩ := HFIN.out w3 ⟨#[]⟩ 0 0 false hR3 hgw3
      clear hic
      go_wp2_with fail
      refine bodyPost_ret (v := .tuple #[.agg #[.string ⟨#[]⟩, .int .i64 0, .int .i64 0], .bool false, .int .i64 3]) (by simp [results, Tryz.results15, go_sem, e0, e1, e2]) rfl ?_
      exact ⟨none, by rw [HOE.out]; rfl, fun _ => rfl, fun h => by rw [HOE.out] at h; simp at h, e3⟩
    · have HIS := Lib.hid hic
      clear hic
      go_wp2_with fail
      refine (isMoment_any t _).mono ?_
      rintro _ _ ⟨rfl, rfl⟩
      rcases spanE_cases t 0 345686399999 with ⟨hm, m0, m1⟩ | ⟨hm, m0⟩
      · rw [outB_no m0 m1]
        have HOE : Hid (ofE l p s t = 0) := by show _ = _; unfold ofE; rw [HE.out, HIS.out]; simp [momE, hm]
        have hRT := tabE_ok HE.out
        obtain ⟨q, hq⟩ := Option.isSome_iff_exists.1 (show (partsOf s).isSome = true from HIS.out)
        obtain ⟨O, hO⟩ : ∃ O, fndOf l p s t q = O := ⟨_, rfl⟩
        have HFD : Hid (∀ base2 gT bB bW W, TabFull base base2 gT bB bW u v l p W → Calls Tryz.prog 57 #[.pointer (some ⟨gT, 0, none⟩), .string s, .int .i64 t] W fun r w' => r = .returned (.tuple #[.agg #[.string (O.getD fndZ0).1, .int .i64 (O.getD fndZ0).2.1, .int .i64 (O.getD fndZ0).2.2], .bool O.isSome]) ∧ W.grownBy w' none) := fun base2 gT bB bW W h => by
          have := find_ok base base2 gT bB bW u v l p s t q W h hRT hs HAS.out hq
          rw [hO] at this
          exact this
        have HTO : Hid (Calls Tryz.prog 56 #[u, v] w3 (TabPost base u v l p w3)) := tableOf_right base u v l p w3 (HU.out.grown hgw3) (HV.out.grown hgw3) hRT
        have HQ := Lib.hid hq
        have HO := Lib.hid hO
        clear hm m0 m1 hRT hq hO r0 r1 r2 rf
        go_wp2_with fail
        refine HTO.out.mono ?_
        rintro _ w4 ⟨base2, gT, bB, bW, rfl, hTF, _, hg4⟩
        have HTF := Lib.hid hTF
        clear hTF
        go_wp2_with fail
        refine (HFD.out _ _ _ _ _ HTF.out).mono ?_
        rintro _ w5 ⟨rfl, hg5⟩
        have hX := Blk.new w5 38 #[.string (O.getD fndZ0).1, .int .i64 (O.getD fndZ0).2.1, .int .i64 (O.getD fndZ0).2.2]
        have hR5 := Blk.alloc (g := gR) (Blk.grown (g := gR) hR3 (gr_trans hg4 hg5) (by simp)) (.cells #[.string (O.getD fndZ0).1, .int .i64 (O.getD fndZ0).2.1, .int .i64 (O.getD fndZ0).2.2] 38)
        have hgF := gr_alloc (gr_trans hgw3 (gr_trans hg4 hg5)) (.cells #[.string (O.getD fndZ0).1, .int .i64 (O.getD fndZ0).2.1, .int .i64 (O.getD fndZ0).2.2] 38)
        have HF0 : Hid (∀ K C Z, (O.getD fndZ0) = (K, C, Z) → True) := fun _ _ _ _ => trivial
        have HPO : Hid (∀ w', w.grownBy w' none → OfPost l p s t w (.returned (.tuple #[.agg #[.string (O.getD fndZ0).1, .int .i64 (O.getD fndZ0).2.1, .int .i64 (O.getD fndZ0).2.2], .bool O.isSome, .int .i64 0])) w') := fun w' hg => ⟨O, by rw [HOE.out], fun h => absurd HOE.out h, fun _ => ⟨HE.out, fun q' hq' => by rw [HQ.out] at hq'; injection hq' with hq'; rw [← hq']; exact HO.out.symm⟩, hg⟩
        generalize (O.getD fndZ0).1 = K at *
        generalize (O.getD fndZ0).2.1 = C at *
        generalize (O.getD fndZ0).2.2 = Z at *
        generalize O.isSome = FS at *
        go_upto_region 9 with fail
        generalize w5.alloc (.cells #[.string K, .int .i64 C, .int .i64 Z] 38) = w6 at *
        generalize w5.heap.size = gX at *
        have x0 := Blk.cell hX 0
        have x1 := Blk.cell hX 1
        have x2 := Blk.cell hX 2
        have r0 := Blk.cell (g := gR) hR5 0
        have r1 := Blk.cell (g := gR) hR5 1
        have r2 := Blk.cell (g := gR) hR5 2
        have rf := Blk.free (g := gR) hR5
        simp only [List.getElem?_toArray, List.getElem?_cons_zero, List.getElem?_cons_succ] at x0 x1 x2 r0 r1 r2
        obtain ⟨e0, e1, e2, e3⟩ := HFIN.out w6 K C Z true hR5 hgF
        go_wp2_with fail
        refine bodyPost_ret (v := .tuple #[.agg #[.string K, .int .i64 C, .int .i64 Z], .bool FS, .int .i64 0]) (by simp [results, Tryz.results15, go_sem, e0, e1, e2]) rfl ?_
        exact HPO.out _ e3
      · rw [outB_yes m0]
        have HOE : Hid (ofE l p s t = 1) := by show _ = _; unfold ofE; rw [HE.out, HIS.out]; simp [momE, hm]
        obtain ⟨e0, e1, e2, e3⟩ := HFIN.out w3 ⟨#[]⟩ 0 0 false hR3 hgw3
        clear hm m0
        go_wp2_with fail
        refine bodyPost_ret (v := .tuple #[.agg #[.string ⟨#[]⟩, .int .i64 0, .int .i64 0], .bool false, .int .i64 1]) (by simp [results, Tryz.results15, go_sem, e0, e1, e2]) rfl ?_
        exact ⟨none, by rw [HOE.out]; rfl, fun _ => rfl, fun h => by rw [HOE.out] at h; simp at h, e3⟩
  · have hE1 : (E != 0) = true := by simpa using hE0
    have HOE : Hid (ofE l p s t = E) := by show _ = _; unfold ofE; rw [HE.out, if_pos hE0]
    have HE0 := Lib.hid hE0
    obtain ⟨e0, e1, e2, e3⟩ := HFIN.out w2 ⟨#[]⟩ 0 0 false hR2 hgw
    clear hE0
    go_wp2_with fail
    refine bodyPost_ret (v := .tuple #[.agg #[.string ⟨#[]⟩, .int .i64 0, .int .i64 0], .bool false, .int .i64 E]) (by simp [results, Tryz.results15, go_sem, e0, e1, e2]) rfl ?_
    exact ⟨none, by rw [HOE.out]; rfl, fun _ => rfl, fun h => absurd (HOE.out.symm.trans h) HE0.out, e3⟩
end Go.Proofs.YtbpkfkbbkgdlaaaGreatDoor

namespace Go.Proofs.YtbpkfkbbkgdlaaaGreatDoor
open Go.RowKit
set_option linter.unusedVariables false
set_option linter.unusedSimpArgs false

theorem neqFnd (a b : ByteArray) (c d e f : Int) (w : World) : (binOp .neq 38 (.agg #[.string a, .int .i64 c, .int .i64 e]) (.agg #[.string b, .int .i64 d, .int .i64 f])).run Tryz.prog w = .ok (.bool (!(decide (a = b) && (c == d && e == f)))) w := by
  by_cases h1 : a = b
  · subst h1
    by_cases h2 : c = d
    · subst h2
      by_cases h3 : e = f
      · subst h3
        go_simp
      · have h3' : (e == f) = false := by rw [beq_eq_false_iff_ne]; exact h3
        go_simp
    · have h2' : (c == d) = false := by rw [beq_eq_false_iff_ne]; exact h2
      go_simp
  · have h1' := str_no h1
    go_simp
theorem all_step {α : Type} (f : α → Bool) (E : List α) (k : Nat) (h : k < E.length) : (E.drop k).all f = (f E[k] && (E.drop (k + 1)).all f) := by
  rw [List.drop_eq_getElem_cons h, List.all_cons]
set_option maxRecDepth 100000 in
set_option maxHeartbeats 16000000 in
theorem needless_ok (base base2 gT bB bW : Nat) (u v : Value) (l : List Ent) (p : List Pfx) (i : Nat) (base4 : Nat) (gv : Value) (gone : List Bool) (w : World) (hT : TabFull base base2 gT bB bW u v l p w) (hR : TabRight l p) (hi : i < p.length) (hgv : BoolsFrom base4 w gv gone) (hgl : gone.length = p.length) :
    Calls Tryz.prog 82 #[.pointer (some ⟨gT, 0, none⟩), .int .i64 i, gv] w fun r w' => r = .returned (.bool (needX l p gone i p[i])) ∧ w.grownBy w' none := by
  have hO := hR.ok
  have hlen := hO.len
  obtain ⟨Ag, cg, rfl, _, _⟩ := hgv.shape
  obtain ⟨LG, hLG⟩ : ∃ LG, gone.length = LG := ⟨_, rfl⟩
  obtain ⟨PA, cp, hv, _, hPA⟩ := hT.at_.pl.shape
  obtain ⟨gp, rfl, _, hgpl⟩ := hPA (by omega)
  have hat := (show PfxsFrom base w (.slice (some ⟨gp, 0, none⟩) p.length cp) p from hv ▸ hT.at_.pl).at_ i hi
  have cP := hT.at_.cv
  rw [hv] at cP
  have c0 := hat.1
  clear hat hPA
  have hbs := hR.beg _ (List.getElem_mem hi)
  have HT := Lib.hid hT
  have HRT := Lib.hid hR
  have HGV := Lib.hid hgv
  obtain ⟨X, hX⟩ : ∃ X, p[i] = X := ⟨_, rfl⟩
  have HII : Hid (∀ W, w.grownBy W none → Calls Tryz.prog 135 #[.pointer (some ⟨gT, 0, none⟩), .int .i64 i] W fun r w' => r = .returned (.bool (decide (tmZ l X ≤ tmA l X))) ∧ W.grownBy w' none) := fun W hW => by rw [← hX]; exact isIdle_ok base gT u v l p i W (hT.at_.grown hW) hO hi
  have HTM : Hid (∀ W, w.grownBy W none → Calls Tryz.prog 114 #[.pointer (some ⟨gT, 0, none⟩), .int .i64 i] W fun r w' => r = .returned (.agg #[.int .i64 (tmA l X), .int .i64 (tmZ l X)]) ∧ W.grownBy w' none) := fun W hW => by rw [← hX]; exact time_ok base gT u v l p i W (hT.at_.grown hW) hO hi
  have HFD : Hid (∀ (n : Nat) (hn : n < p.length) W, w.grownBy W none → Calls Tryz.prog 103 #[.pointer (some ⟨gT, 0, none⟩), .int .i64 n] W fun r w' => r = .returned (.agg #[.string (fndX l p[n]).1, .int .i64 (fndX l p[n]).2.1, .int .i64 (fndX l p[n]).2.2]) ∧ W.grownBy w' none) := fun n hn W hW => foundX_ok base gT u v l p n W (hT.at_.grown hW) hO hn
  have HFI : Hid (∀ W, w.grownBy W none → Calls Tryz.prog 103 #[.pointer (some ⟨gT, 0, none⟩), .int .i64 i] W fun r w' => r = .returned (.agg #[.string (fndX l X).1, .int .i64 (fndX l X).2.1, .int .i64 (fndX l X).2.2]) ∧ W.grownBy w' none) := fun W hW => by rw [← hX]; exact foundX_ok base gT u v l p i W (hT.at_.grown hW) hO hi
  rw [hX] at c0 hbs ⊢
  have HND : Hid (needX l p gone i X = (decide (tmZ l X ≤ tmA l X) || (edgL l p (nearL p X.beg (min 4 X.beg.size)) (tmA l X) (tmZ l X)).all fun t => sameB l p (lngP l p t X.beg (butB (i : Int) gone)) X)) := rfl
  have hnlen : (nearL p X.beg (min 4 X.beg.size)).length ≤ 8000 := Nat.le_trans (nearL_len p X.beg _) (Nat.mul_le_mul (Nat.min_le_left 4 _) hlen)
  have hnlt : ∀ j ∈ nearL p X.beg (min 4 X.beg.size), j < p.length := fun j hj => by obtain ⟨_, _, h, _⟩ := near_mem.1 hj; exact h
  have hedl : (edgL l p (nearL p X.beg (min 4 X.beg.size)) (tmA l X) (tmZ l X)).length ≤ 100000 := by
    have h1 := Lib.compact_length_le (sortI (tmA l X :: edgI l p (nearL p X.beg (min 4 X.beg.size)) (tmA l X) (tmZ l X)))
    rw [sortI_len, List.length_cons] at h1
    have h2 := edgI_len l p (tmA l X) (tmZ l X) (nearL p X.beg (min 4 X.beg.size))
    have h4 : (edgL l p (nearL p X.beg (min 4 X.beg.size)) (tmA l X) (tmZ l X)).length ≤ (edgI l p (nearL p X.beg (min 4 X.beg.size)) (tmA l X) (tmZ l X)).length + 1 := h1
    omega
  have HNR : Hid (∀ W, w.grownBy W none → Calls Tryz.prog 65 #[.pointer (some ⟨gT, 0, none⟩), .string X.beg] W fun r w' => ∃ z, r = .returned z ∧ IntsFrom W.heap.size w' z (natI (nearL p X.beg (min 4 X.beg.size))) ∧ W.grownBy w' none) := fun W hW => tnear_ok base base2 gT bB bW u v l p X.beg W (hT.grown hW) hlen (by omega)
  have HED : Hid (∀ W b3 z, w.grownBy W none → IntsFrom b3 W z (natI (nearL p X.beg (min 4 X.beg.size))) → Calls Tryz.prog 63 #[.pointer (some ⟨gT, 0, none⟩), z, .int .i64 (tmA l X), .int .i64 (tmZ l X)] W fun r w' => ∃ y, r = .returned y ∧ IntsFrom W.heap.size w' y (edgL l p (nearL p X.beg (min 4 X.beg.size)) (tmA l X) (tmZ l X)) ∧ W.grownBy w' none) := fun W b3 z hW hz => edges_ok base b3 gT u v z l p _ _ _ W (hT.at_.grown hW) hO hz hnlt (by omega)
  have HLB : Hid (∀ W gi gg t, w.grownBy W none → W.cell? ⟨gi, 0, none⟩ = some (.int .i64 i) → W.cell? ⟨gg, 0, none⟩ = some (.slice Ag gone.length cg) → Calls Tryz.prog 104 #[.pointer (some ⟨gT, 0, none⟩), .string X.beg, .int .i64 t, .func (.func 136) #[] #[.pointer (some ⟨gi, 0, none⟩), .pointer (some ⟨gg, 0, none⟩)]] W fun r w' => r = .returned (.int .i64 (lngP l p t X.beg (butB i gone))) ∧ W.grownBy w' none) := fun W gi gg t hW h1 h2 => longest_but base base2 gT bB bW u v l p X.beg t W (hT.grown hW) hO (by omega) base4 gi gg i _ gone h1 h2 (hgv.grown hW) (by omega)
  have HLP : Hid (∀ t, (lngP l p t X.beg (butB i gone) = -1 ∧ sameB l p (lngP l p t X.beg (butB i gone)) X = false) ∨ ∃ (k : Nat) (h : k < p.length), lngP l p t X.beg (butB i gone) = k ∧ sameB l p (lngP l p t X.beg (butB i gone)) X = decide (fndX l p[k] = fndX l X)) := fun t => by
    rcases lngP_best l p t X.beg (butB i gone) hR.size with ⟨h1, _⟩ | ⟨k, h1, ⟨hk, _⟩, _⟩
    · refine .inl ⟨h1, ?_⟩
      unfold sameB
      rw [h1]
      rfl
    · refine .inr ⟨k, hk, h1, ?_⟩
      unfold sameB
      rw [h1, Int.toNat_natCast, List.getElem?_eq_getElem hk]
      simp
  generalize needX l p gone i X = ANS at *
  generalize hFX : fndX l X = FX at *
  obtain ⟨fs, fc, fz⟩ := FX
  generalize tmA l X = TA at *
  generalize tmZ l X = TZ at *
  generalize X.beg = B at *
  generalize hjl : nearL p B (min 4 B.size) = JS at *
  generalize edgL l p JS TA TZ = ED at *
  rw [hLG] at HLB HGV ⊢
  have HJL := Lib.hid hjl
  clear hT hgv hR hO hX hFX hjl hnlt hv
  have hB0 := Blk.new w 3 #[.int .i64 i]
  have hG0 := World.grownBy_alloc w (.cells #[.int .i64 i] 3) none
  have hB1 := hB0.alloc (.cells #[.slice Ag LG cg] 134)
  have hB2 := Blk.new (w.alloc (.cells #[.int .i64 i] 3)) 134 #[.slice Ag LG cg]
  have hG1 := gr_alloc hG0 (.cells #[.slice Ag LG cg] 134)
  simp only [World.size_alloc] at hB2
  go_enter Tryz.func82, Tryz.ntmps82
  go_upto_region 1 with fail
  generalize (w.alloc (.cells #[.int .i64 i] 3)).alloc (.cells #[.slice Ag LG cg] 134) = w0 at *
  obtain ⟨gi, hgi⟩ : ∃ x, w.heap.size = x := ⟨_, rfl⟩
  rw [hgi] at hB1 hB2 ⊢
  obtain ⟨gg, hgg⟩ : ∃ x, gi + 1 = x := ⟨_, rfl⟩
  rw [hgg] at hB2
  (try rw [hgg])
  have HCI : Hid (∀ V, w0.grownBy V none → V.cell? ⟨gi, 0, none⟩ = some (.int .i64 i) ∧ V.cell? ⟨gg, 0, none⟩ = some (.slice Ag LG cg) ∧ V.cell? ⟨gT, 1, none⟩ = some (.slice (some ⟨gp, 0, none⟩) p.length cp) ∧ V.cell? ⟨gp, i * 6, none⟩ = some (.string B)) := fun V hV =>
    ⟨((hB1.grown hV (by simp)).cell 0).trans rfl, ((hB2.grown hV (by simp)).cell 0).trans rfl, hV.cell (hG1.cell cP (by simp)) (by simp), hV.cell (hG1.cell c0 (by simp)) (by simp)⟩
  have HGI := Lib.hid hgi
  have HGG := Lib.hid hgg
  have c00 := (HCI.out _ (gr_refl _ _)).1
  clear hB0 hB1 hB2 hG0 cP c0 hgi hgg
  go_wp2_with fail
  refine (HII.out _ hG1).mono ?_
  rintro _ w1 ⟨rfl, hg1⟩
  have hG2 := gr_trans hG1 hg1
  clear c00
  have c01 := (HCI.out _ hg1).1
  by_cases hid : TZ ≤ TA
  · have hdi : decide (TZ ≤ TA) = true := decide_eq_true hid
    have HA : Hid (ANS = true) := by show _ = _; rw [HND.out, hdi]; rfl
    clear HND
    go_wp2_with fail
    go_ret
    exact ⟨by rw [HA.out]; rfl, hG2⟩
  · have hdi : decide (TZ ≤ TA) = false := decide_eq_false hid
    have HA : Hid (ANS = ED.all fun t => sameB l p (lngP l p t B (butB i gone)) X) := by show _ = _; rw [HND.out, hdi]; rfl
    clear HND
    go_wp2_with fail
    refine (HTM.out _ hG2).mono ?_
    rintro _ w2 ⟨rfl, hg2⟩
    have hG3 := gr_alloc (gr_trans hG2 hg2) (.cells #[.int .i64 TA, .int .i64 TZ] 70)
    have hg3 := gr_alloc (gr_trans hg1 hg2) (.cells #[.int .i64 TA, .int .i64 TZ] 70)
    have hX := Blk.new w2 70 #[.int .i64 TA, .int .i64 TZ]
    clear hG2 hg1 hg2
    go_upto_region 5 with fail
    generalize w2.alloc (.cells #[.int .i64 TA, .int .i64 TZ] 70) = w3 at *
    generalize w2.heap.size = gX at *
    have HKX : Hid (∀ V, w3.grownBy V none → V.cell? ⟨gi, 0, none⟩ = some (.int .i64 i) ∧ V.cell? ⟨gT, 1, none⟩ = some (.slice (some ⟨gp, 0, none⟩) p.length cp) ∧ V.cell? ⟨gp, i * 6, none⟩ = some (.string B) ∧ V.cell? ⟨gX, 0, none⟩ = some (.int .i64 TA) ∧ V.cell? ⟨gX, 1, none⟩ = some (.int .i64 TZ) ∧ w3.grownBy V none) := fun V hV => by
      obtain ⟨q0, q1, q2, q3⟩ := HCI.out V (gr_trans hg3 hV)
      exact ⟨q0, q2, q3, ((hX.grown hV (by simp)).cell 0).trans rfl, ((hX.grown hV (by simp)).cell 1).trans rfl, hV⟩
    have hii : (i : Int) < (p.length : Int) := by omega
    have hi0 : (0 : Int) ≤ (i : Int) := by omega
    clear hX
    refine wp_region_held_drew (S := fun V => V.cell? ⟨gi, 0, none⟩ = some (.int .i64 i) ∧ V.cell? ⟨gT, 1, none⟩ = some (.slice (some ⟨gp, 0, none⟩) p.length cp) ∧ V.cell? ⟨gp, i * 6, none⟩ = some (.string B) ∧ V.cell? ⟨gX, 0, none⟩ = some (.int .i64 TA) ∧ V.cell? ⟨gX, 1, none⟩ = some (.int .i64 TZ) ∧ w3.grownBy V none) (by kernel_rfl) (HKX.out _ (gr_drew (gr_refl _ _))) (fun hHeld => ?_)
    refine wpAnyH_take (i := 0) (v := ?_) rfl (by kernel_rfl) (by kernel_rfl) (by kernel_rfl) (fun _ _ _ h => h) (Or.inl ⟨by kernel_rfl, ?_⟩) hHeld ?_
    rotate_left
    · intro w hSw
      (try dsimp only at hSw)
      obtain ⟨hS0, hS1, hS2, hS3, hS4, hS5⟩ := hSw
      go_simp
      (try with_reducible rfl)
    change wpAnyH _ _ _ _ _ _ _ (Act.put _ (some 19) _) _
    simp only [Act.put, List.setIfInBounds_toArray, List.set_cons_zero, List.set_cons_succ]
    refine wpAnyH_take (i := 1) (v := ?_) rfl (by kernel_rfl) (by kernel_rfl) (by kernel_rfl) (fun _ _ _ h => h) (Or.inl ⟨by kernel_rfl, ?_⟩) hHeld ?_
    rotate_left
    · intro w hSw
      (try dsimp only at hSw)
      obtain ⟨hS0, hS1, hS2, hS3, hS4, hS5⟩ := hSw
      go_simp
      (try with_reducible rfl)
    change wpAnyH _ _ _ _ _ _ _ (Act.put _ (some 20) _) _
    simp only [Act.put, List.setIfInBounds_toArray, List.set_cons_zero, List.set_cons_succ]
    refine wpAnyH_take (i := 2) (v := ?_) rfl (by kernel_rfl) (by kernel_rfl) (by kernel_rfl) (fun _ _ _ h => h) (Or.inl ⟨by kernel_rfl, ?_⟩) hHeld ?_
    rotate_left
    · intro w hSw
      (try dsimp only at hSw)
      obtain ⟨hS0, hS1, hS2, hS3, hS4, hS5⟩ := hSw
      go_simp
      (try with_reducible rfl)
    change wpAnyH _ _ _ _ _ _ _ (Act.put _ (some 21) _) _
    simp only [Act.put, List.setIfInBounds_toArray, List.set_cons_zero, List.set_cons_succ]
    refine wpAnyH_take (i := 3) (v := ?_) rfl (by kernel_rfl) (by kernel_rfl) (by kernel_rfl) (fun _ _ _ h => h) (Or.inl ⟨by kernel_rfl, ?_⟩) hHeld ?_
    rotate_left
    · intro w hSw
      (try dsimp only at hSw)
      obtain ⟨hS0, hS1, hS2, hS3, hS4, hS5⟩ := hSw
      go_simp
      (try with_reducible rfl)
    change wpAnyH _ _ _ _ _ _ _ (Act.put _ (some 22) _) _
    simp only [Act.put, List.setIfInBounds_toArray, List.set_cons_zero, List.set_cons_succ]
    refine wpAnyH_take (i := 4) (v := ?_) rfl (by kernel_rfl) (by kernel_rfl) (by kernel_rfl) (fun _ _ _ h => h) (Or.inl ⟨by kernel_rfl, ?_⟩) hHeld ?_
    rotate_left
    · intro w hSw
      (try dsimp only at hSw)
      obtain ⟨hS0, hS1, hS2, hS3, hS4, hS5⟩ := hSw
      go_simp
      (try with_reducible rfl)
    change wpAnyH _ _ _ _ _ _ _ (Act.put _ (some 23) _) _
    simp only [Act.put, List.setIfInBounds_toArray, List.set_cons_zero, List.set_cons_succ]
    refine wpAnyH_take (i := 5) (v := ?_) rfl (by kernel_rfl) (by kernel_rfl) (by kernel_rfl) (fun _ _ _ h => h) (Or.inl ⟨by kernel_rfl, ?_⟩) hHeld ?_
    rotate_left
    · intro w hSw
      (try dsimp only at hSw)
      obtain ⟨hS0, hS1, hS2, hS3, hS4, hS5⟩ := hSw
      go_simp
      (try with_reducible rfl)
    change wpAnyH _ _ _ _ _ _ _ (Act.put _ (some 24) _) _
    simp only [Act.put, List.setIfInBounds_toArray, List.set_cons_zero, List.set_cons_succ]
    refine wpAnyH_take (i := 6) (v := ?_) rfl (by kernel_rfl) (by kernel_rfl) (by kernel_rfl) (fun _ _ _ h => h) (Or.inl ⟨by kernel_rfl, ?_⟩) hHeld ?_
    rotate_left
    · intro w hSw
      (try dsimp only at hSw)
      obtain ⟨hS0, hS1, hS2, hS3, hS4, hS5⟩ := hSw
      go_simp
      (try with_reducible rfl)
    change wpAnyH _ _ _ _ _ _ _ (Act.put _ (some 25) _) _
    simp only [Act.put, List.setIfInBounds_toArray, List.set_cons_zero, List.set_cons_succ]
    refine wpAnyH_take (i := 7) (v := ?_) rfl (by kernel_rfl) (by kernel_rfl) (by kernel_rfl) (fun _ _ _ h => h) (Or.inl ⟨by kernel_rfl, ?_⟩) hHeld ?_
    rotate_left
    · intro w hSw
      (try dsimp only at hSw)
      obtain ⟨hS0, hS1, hS2, hS3, hS4, hS5⟩ := hSw
      go_simp
      (try with_reducible rfl)
    change wpAnyH _ _ _ _ _ _ _ (Act.put _ (some 26) _) _
    simp only [Act.put, List.setIfInBounds_toArray, List.set_cons_zero, List.set_cons_succ]
    refine wpAnyH_take (i := 8) (v := ?_) rfl (by kernel_rfl) (by kernel_rfl) (by kernel_rfl) (fun _ _ _ h => h) (Or.inl ⟨by kernel_rfl, ?_⟩) hHeld ?_
    rotate_left
    · intro w hSw
      (try dsimp only at hSw)
      obtain ⟨hS0, hS1, hS2, hS3, hS4, hS5⟩ := hSw
      go_simp
      (try with_reducible rfl)
    change wpAnyH _ _ _ _ _ _ _ (Act.put _ (some 27) _) _
    simp only [Act.put, List.setIfInBounds_toArray, List.set_cons_zero, List.set_cons_succ]
    refine wpAnyH_take (i := 9) (v := ?_) rfl (by kernel_rfl) (by kernel_rfl) (by kernel_rfl) (fun _ _ _ h => h) (Or.inl ⟨by kernel_rfl, ?_⟩) hHeld ?_
    rotate_left
    · intro w hSw
      (try dsimp only at hSw)
      obtain ⟨hS0, hS1, hS2, hS3, hS4, hS5⟩ := hSw
      go_simp
      (try with_reducible rfl)
    change wpAnyH _ _ _ _ _ _ _ (Act.put _ (some 28) _) _
    simp only [Act.put, List.setIfInBounds_toArray, List.set_cons_zero, List.set_cons_succ]
    refine wpAnyH_take (i := 11) (v := ?_) rfl (by kernel_rfl) (by kernel_rfl) (by kernel_rfl) (fun _ _ _ h => h) (Or.inl ⟨by kernel_rfl, ?_⟩) hHeld ?_
    rotate_left
    · intro w hSw
      (try dsimp only at hSw)
      obtain ⟨hS0, hS1, hS2, hS3, hS4, hS5⟩ := hSw
      go_simp
      (try with_reducible rfl)
    change wpAnyH _ _ _ _ _ _ _ (Act.put _ (some 30) _) _
    simp only [Act.put, List.setIfInBounds_toArray, List.set_cons_zero, List.set_cons_succ]
    refine wpAnyH_take (i := 12) (v := ?_) rfl (by kernel_rfl) (by kernel_rfl) (by kernel_rfl) (fun _ _ _ h => h) (Or.inl ⟨by kernel_rfl, ?_⟩) hHeld ?_
    rotate_left
    · intro w hSw
      (try dsimp only at hSw)
      obtain ⟨hS0, hS1, hS2, hS3, hS4, hS5⟩ := hSw
      go_simp
      (try with_reducible rfl)
    change wpAnyH _ _ _ _ _ _ _ (Act.put _ (some 31) _) _
    simp only [Act.put, List.setIfInBounds_toArray, List.set_cons_zero, List.set_cons_succ]
    refine wpAnyH_take (i := 13) (v := ?_) rfl (by kernel_rfl) (by kernel_rfl) (by kernel_rfl) (fun _ _ _ h => h) (Or.inl ⟨by kernel_rfl, ?_⟩) hHeld ?_
    rotate_left
    · intro w hSw
      (try dsimp only at hSw)
      obtain ⟨hS0, hS1, hS2, hS3, hS4, hS5⟩ := hSw
      go_simp
      (try with_reducible rfl)
    change wpAnyH _ _ _ _ _ _ _ (Act.put _ (some 32) _) _
    simp only [Act.put, List.setIfInBounds_toArray, List.set_cons_zero, List.set_cons_succ]
    refine wpAnyH_take (i := 14) (v := ?_) rfl (by kernel_rfl) (by kernel_rfl) (by kernel_rfl) (fun _ _ _ h => h) (Or.inl ⟨by kernel_rfl, ?_⟩) hHeld ?_
    rotate_left
    · intro w hSw
      (try dsimp only at hSw)
      obtain ⟨hS0, hS1, hS2, hS3, hS4, hS5⟩ := hSw
      go_simp
      (try with_reducible rfl)
    change wpAnyH _ _ _ _ _ _ _ (Act.put _ (some 33) _) _
    simp only [Act.put, List.setIfInBounds_toArray, List.set_cons_zero, List.set_cons_succ]
    refine wpAnyH_take (i := 17) (v := ?_) rfl (by kernel_rfl) (by kernel_rfl) (by kernel_rfl) (fun _ _ _ h => h) (Or.inl ⟨by kernel_rfl, ?_⟩) hHeld ?_
    rotate_left
    · intro w hSw
      (try dsimp only at hSw)
      obtain ⟨hS0, hS1, hS2, hS3, hS4, hS5⟩ := hSw
      go_simp
      (try with_reducible rfl)
    change wpAnyH _ _ _ _ _ _ _ (Act.put _ (some 36) _) _
    simp only [Act.put, List.setIfInBounds_toArray, List.set_cons_zero, List.set_cons_succ]
    refine wpAnyH_ready (rs := [10]) (by kernel_rfl) (by simp) ?_
    refine AllReadyH.cons (o := _) rfl (fun K hK => ?_) AllReadyH.nil
    go_simp
    (go_at_call 65; refine (HNR.out _ (gr_trans hG3 (gr_drew (gr_refl _ _)))).mono ?_; rintro _ wa ⟨z, rfl, hz, hga⟩; have hg4 : w3.grownBy wa none := gr_trans (gr_drew (gr_refl w3 none)) hga)
    refine hK.out _ _ (HKX.out _ hg4) (fun hHeld10 => ?_)
    clear hK K
    (try simp only [Act.put, List.setIfInBounds_toArray, List.set_cons_zero, List.set_cons_succ])
    refine wpAnyH_ready (rs := [15]) (by kernel_rfl) (by simp) ?_
    refine AllReadyH.cons (o := _) rfl (fun K hK => ?_) AllReadyH.nil
    go_simp
    (go_at_call 63; refine (HED.out _ _ _ (gr_trans hG3 hg4) hz).mono ?_; rintro _ wb ⟨y, rfl, hy, hgb⟩; have hg5 := gr_trans hg4 hgb; obtain ⟨Ae, ce, rfl, hel, hEA⟩ := hy.shape)
    refine hK.out _ _ (HKX.out _ hg5) (fun hHeld15 => ?_)
    clear hK K
    (try simp only [Act.put, List.setIfInBounds_toArray, List.set_cons_zero, List.set_cons_succ])
    refine wpAnyH_take (i := 16) (v := ?_) rfl (by kernel_rfl) (by kernel_rfl) (by kernel_rfl) (fun _ _ _ h => h) (Or.inl ⟨by kernel_rfl, ?_⟩) hHeld15 ?_
    rotate_left
    · intro w hSw
      (try dsimp only at hSw)
      obtain ⟨hS0, hS1, hS2, hS3, hS4, hS5⟩ := hSw
      go_simp
      (try with_reducible rfl)
    change wpAnyH _ _ _ _ _ _ _ (Act.put _ (some 35) _) _
    simp only [Act.put, List.setIfInBounds_toArray, List.set_cons_zero, List.set_cons_succ]
    refine wpAnyH_done (by kernel_rfl) ?_ _
    have hG5 := gr_trans hG3 hg5
    have HEA := Lib.hid hEA
    have HEY := Lib.hid hy
    have hg35 := gr_trans hg3 hg5
    clear hz hga hg4 hgb hEA hy
    go_wp2_with fail
    go_loopw [36] (fun kv wr => ∃ k : Nat, k ≤ ED.length ∧ kv = .int .i64 k ∧ Hid (ANS = (ED.drop k).all fun t => sameB l p (lngP l p t B (butB i gone)) X) ∧ wb.grownBy wr none) (fun kv _ => ED.length - (intOf kv).toNat)
    case atStart => exact ⟨0, by omega, rfl, HA.out, gr_refl _ _⟩
    case round =>
      obtain ⟨k, hk, rfl, HN, hgr⟩ := hrel
      by_cases hlt : k < ED.length
      · have hki : (k : Int) < (ED.length : Int) := by omega
        obtain ⟨ge, rfl, _, hgel⟩ := HEA.out (by omega)
        have hat := IntsFrom.at_ (HEY.out.grown hgr) k hlt
        have hst : ANS = (sameB l p (lngP l p ED[k] B (butB i gone)) X && (ED.drop (k + 1)).all fun t => sameB l p (lngP l p t B (butB i gone)) X) := by
          have h := HN.out
          rwa [all_step _ ED k hlt] at h
        have hlp := HLP.out ED[k]
        have HLBT : Hid (∀ W, wr.grownBy W none → Calls Tryz.prog 104 #[.pointer (some ⟨gT, 0, none⟩), .string B, .int .i64 ED[k], .func (.func 136) #[] #[.pointer (some ⟨gi, 0, none⟩), .pointer (some ⟨gg, 0, none⟩)]] W fun r w' => r = .returned (.int .i64 (lngP l p ED[k] B (butB i gone))) ∧ W.grownBy w' none) := fun W hW => by
          have hh := HCI.out W (gr_trans hg35 (gr_trans hgr hW))
          exact HLB.out W gi gg _ (gr_trans hG5 (gr_trans hgr hW)) hh.1 hh.2.1
        generalize ED[k] = T at *
        generalize lngP l p T B (butB i gone) = KK at *
        have HST := Lib.hid hst
        have HLPK := Lib.hid hlp
        have HKR : Hid (∀ V, wr.grownBy V none → V.cell? ⟨gi, 0, none⟩ = some (.int .i64 i) ∧ V.cell? ⟨gT, 1, none⟩ = some (.slice (some ⟨gp, 0, none⟩) p.length cp) ∧ V.cell? ⟨gp, i * 6, none⟩ = some (.string B) ∧ wr.grownBy V none) := fun V hV => by
          obtain ⟨q0, q1, q2, q3⟩ := HCI.out V (gr_trans hg35 (gr_trans hgr hV))
          exact ⟨q0, q2, q3, hV⟩
        clear hst hlp
        go_upto_region 8 with fail
        refine wp_region_held_drew (S := fun V => V.cell? ⟨gi, 0, none⟩ = some (.int .i64 i) ∧ V.cell? ⟨gT, 1, none⟩ = some (.slice (some ⟨gp, 0, none⟩) p.length cp) ∧ V.cell? ⟨gp, i * 6, none⟩ = some (.string B) ∧ wr.grownBy V none) (by kernel_rfl) (HKR.out _ (gr_drew (gr_refl _ _))) (fun hHeld => ?_)
        refine wpAnyH_take (i := 0) (v := ?_) rfl (by kernel_rfl) (by kernel_rfl) (by kernel_rfl) (fun _ _ _ h => h) (Or.inl ⟨by kernel_rfl, ?_⟩) hHeld ?_
        rotate_left
        · intro w hSw
          (try dsimp only at hSw)
          obtain ⟨hS0, hS1, hS2, hS3⟩ := hSw
          go_simp
          (try with_reducible rfl)
        change wpAnyH _ _ _ _ _ _ _ (Act.put _ (some 40) _) _
        simp only [Act.put, List.setIfInBounds_toArray, List.set_cons_zero, List.set_cons_succ]
        refine wpAnyH_take (i := 1) (v := ?_) rfl (by kernel_rfl) (by kernel_rfl) (by kernel_rfl) (fun _ _ _ h => h) (Or.inl ⟨by kernel_rfl, ?_⟩) hHeld ?_
        rotate_left
        · intro w hSw
          (try dsimp only at hSw)
          obtain ⟨hS0, hS1, hS2, hS3⟩ := hSw
          go_simp
          (try with_reducible rfl)
        change wpAnyH _ _ _ _ _ _ _ (Act.put _ (some 41) _) _
        simp only [Act.put, List.setIfInBounds_toArray, List.set_cons_zero, List.set_cons_succ]
        refine wpAnyH_take (i := 2) (v := ?_) rfl (by kernel_rfl) (by kernel_rfl) (by kernel_rfl) (fun _ _ _ h => h) (Or.inl ⟨by kernel_rfl, ?_⟩) hHeld ?_
        rotate_left
        · intro w hSw
          (try dsimp only at hSw)
          obtain ⟨hS0, hS1, hS2, hS3⟩ := hSw
          go_simp
          (try with_reducible rfl)
        change wpAnyH _ _ _ _ _ _ _ (Act.put _ (some 42) _) _
        simp only [Act.put, List.setIfInBounds_toArray, List.set_cons_zero, List.set_cons_succ]
        refine wpAnyH_take (i := 3) (v := ?_) rfl (by kernel_rfl) (by kernel_rfl) (by kernel_rfl) (fun _ _ _ h => h) (Or.inl ⟨by kernel_rfl, ?_⟩) hHeld ?_
        rotate_left
        · intro w hSw
          (try dsimp only at hSw)
          obtain ⟨hS0, hS1, hS2, hS3⟩ := hSw
          go_simp
          (try with_reducible rfl)
        change wpAnyH _ _ _ _ _ _ _ (Act.put _ (some 43) _) _
        simp only [Act.put, List.setIfInBounds_toArray, List.set_cons_zero, List.set_cons_succ]
        refine wpAnyH_take (i := 4) (v := ?_) rfl (by kernel_rfl) (by kernel_rfl) (by kernel_rfl) (fun _ _ _ h => h) (Or.inl ⟨by kernel_rfl, ?_⟩) hHeld ?_
        rotate_left
        · intro w hSw
          (try dsimp only at hSw)
          obtain ⟨hS0, hS1, hS2, hS3⟩ := hSw
          go_simp
          (try with_reducible rfl)
        change wpAnyH _ _ _ _ _ _ _ (Act.put _ (some 44) _) _
        simp only [Act.put, List.setIfInBounds_toArray, List.set_cons_zero, List.set_cons_succ]
        refine wpAnyH_take (i := 5) (v := ?_) rfl (by kernel_rfl) (by kernel_rfl) (by kernel_rfl) (fun _ _ _ h => h) (Or.inl ⟨by kernel_rfl, ?_⟩) hHeld ?_
        rotate_left
        · intro w hSw
          (try dsimp only at hSw)
          obtain ⟨hS0, hS1, hS2, hS3⟩ := hSw
          go_simp
          (try with_reducible rfl)
        change wpAnyH _ _ _ _ _ _ _ (Act.put _ (some 45) _) _
        simp only [Act.put, List.setIfInBounds_toArray, List.set_cons_zero, List.set_cons_succ]
        refine wpAnyH_take (i := 6) (v := ?_) rfl (by kernel_rfl) (by kernel_rfl) (by kernel_rfl) (fun _ _ _ h => h) (Or.inl ⟨by kernel_rfl, ?_⟩) hHeld ?_
        rotate_left
        · intro w hSw
          (try dsimp only at hSw)
          obtain ⟨hS0, hS1, hS2, hS3⟩ := hSw
          go_simp
          (try with_reducible rfl)
        change wpAnyH _ _ _ _ _ _ _ (Act.put _ (some 46) _) _
        simp only [Act.put, List.setIfInBounds_toArray, List.set_cons_zero, List.set_cons_succ]
        refine wpAnyH_take (i := 7) (v := ?_) rfl (by kernel_rfl) (by kernel_rfl) (by kernel_rfl) (fun _ _ _ h => h) (Or.inl ⟨by kernel_rfl, ?_⟩) hHeld ?_
        rotate_left
        · intro w hSw
          (try dsimp only at hSw)
          obtain ⟨hS0, hS1, hS2, hS3⟩ := hSw
          go_simp
          (try with_reducible rfl)
        change wpAnyH _ _ _ _ _ _ _ (Act.put _ (some 47) _) _
        simp only [Act.put, List.setIfInBounds_toArray, List.set_cons_zero, List.set_cons_succ]
        refine wpAnyH_take (i := 8) (v := ?_) rfl (by kernel_rfl) (by kernel_rfl) (by kernel_rfl) (fun _ _ _ h => h) (Or.inl ⟨by kernel_rfl, ?_⟩) hHeld ?_
        rotate_left
        · intro w hSw
          (try dsimp only at hSw)
          obtain ⟨hS0, hS1, hS2, hS3⟩ := hSw
          go_simp
          (try with_reducible rfl)
        change wpAnyH _ _ _ _ _ _ _ (Act.put _ (some 48) _) _
        simp only [Act.put, List.setIfInBounds_toArray, List.set_cons_zero, List.set_cons_succ]
        refine wpAnyH_take (i := 9) (v := ?_) rfl (by kernel_rfl) (by kernel_rfl) (by kernel_rfl) (fun _ _ _ h => h) (Or.inl ⟨by kernel_rfl, ?_⟩) hHeld ?_
        rotate_left
        · intro w hSw
          (try dsimp only at hSw)
          obtain ⟨hS0, hS1, hS2, hS3⟩ := hSw
          go_simp
          (try with_reducible rfl)
        change wpAnyH _ _ _ _ _ _ _ (Act.put _ (some 49) _) _
        simp only [Act.put, List.setIfInBounds_toArray, List.set_cons_zero, List.set_cons_succ]
        refine wpAnyH_take (i := 10) (v := ?_) rfl (by kernel_rfl) (by kernel_rfl) (by kernel_rfl) (fun _ _ _ h => h) (Or.inl ⟨by kernel_rfl, ?_⟩) hHeld ?_
        rotate_left
        · intro w hSw
          (try dsimp only at hSw)
          obtain ⟨hS0, hS1, hS2, hS3⟩ := hSw
          go_simp
          (try with_reducible rfl)
        change wpAnyH _ _ _ _ _ _ _ (Act.put _ (some 50) _) _
        simp only [Act.put, List.setIfInBounds_toArray, List.set_cons_zero, List.set_cons_succ]
        refine wpAnyH_ready (rs := [11]) (by kernel_rfl) (by simp) ?_
        refine AllReadyH.cons (o := _) rfl (fun K hK => ?_) AllReadyH.nil
        go_simp
        (go_at_call 104; refine (HLBT.out _ (gr_drew (gr_refl _ _))).mono ?_; rintro _ wc ⟨rfl, hgc⟩; have hgrc : wr.grownBy wc none := gr_trans (gr_drew (gr_refl wr none)) hgc)
        refine hK.out _ _ (HKR.out _ hgrc) (fun hHeld11 => ?_)
        clear hK K
        (try simp only [Act.put, List.setIfInBounds_toArray, List.set_cons_zero, List.set_cons_succ])
        refine wpAnyH_take (i := 12) (v := ?_) rfl (by kernel_rfl) (by kernel_rfl) (by kernel_rfl) (fun _ _ _ h => h) (Or.inl ⟨by kernel_rfl, ?_⟩) hHeld11 ?_
        rotate_left
        · intro w hSw
          (try dsimp only at hSw)
          obtain ⟨hS0, hS1, hS2, hS3⟩ := hSw
          go_simp
          (try with_reducible rfl)
        change wpAnyH _ _ _ _ _ _ _ (Act.put _ (some 11) _) _
        simp only [Act.put, List.setIfInBounds_toArray, List.set_cons_zero, List.set_cons_succ]
        refine wpAnyH_done (by kernel_rfl) ?_ _
        clear hat hgc
        go_upto_region 9 with fail
        rcases HLPK.out with ⟨rfl, hs⟩ | ⟨K, hK, rfl, hs⟩
        · have HANS : Hid (ANS = false) := by show _ = _; rw [HST.out, hs]; rfl
          clear hs
          refine wp_region_held_drew (S := fun _ => True) (by kernel_rfl) trivial (fun hHeld => ?_)
          refine wpAnyH_take (i := 0) (v := ?_) rfl (by kernel_rfl) (by kernel_rfl) (by kernel_rfl) (fun _ _ _ h => h) (Or.inl ⟨by kernel_rfl, ?_⟩) hHeld ?_
          rotate_left
          · intro w hSw
            (try dsimp only at hSw)
            go_simp
            (try with_reducible rfl)
          change wpAnyH _ _ _ _ _ _ _ (Act.put _ (some 52) _) _
          simp only [Act.put, List.setIfInBounds_toArray, List.set_cons_zero, List.set_cons_succ]
          refine wpAnyH_take (i := 1) (v := ?_) rfl (by kernel_rfl) (by kernel_rfl) (by kernel_rfl) (fun _ _ _ h => h) (Or.inl ⟨by kernel_rfl, ?_⟩) hHeld ?_
          rotate_left
          · intro w hSw
            (try dsimp only at hSw)
            go_simp
            (try with_reducible rfl)
          change wpAnyH _ _ _ _ _ _ _ (Act.put _ (some 53) _) _
          simp only [Act.put, List.setIfInBounds_toArray, List.set_cons_zero, List.set_cons_succ]
          refine wpAnyH_take (i := 2) (v := ?_) rfl (by kernel_rfl) (by kernel_rfl) (by kernel_rfl) (fun _ _ _ h => h) (Or.inl ⟨by kernel_rfl, ?_⟩) hHeld ?_
          rotate_left
          · intro w hSw
            (try dsimp only at hSw)
            go_simp
            (try with_reducible rfl)
          change wpAnyH _ _ _ _ _ _ _ (Act.put _ (some 54) _) _
          simp only [Act.put, List.setIfInBounds_toArray, List.set_cons_zero, List.set_cons_succ]
          refine wpAnyH_take (i := 3) (v := undef) rfl (by kernel_rfl) (by kernel_rfl) (by kernel_rfl) (fun _ _ _ h => h) (Or.inr ⟨by kernel_rfl, rfl⟩) hHeld ?_
          change wpAnyH _ _ _ _ _ _ _ (Act.put _ (some 55) _) _
          simp only [Act.put, List.setIfInBounds_toArray, List.set_cons_zero, List.set_cons_succ]
          refine wpAnyH_take (i := 4) (v := undef) rfl (by kernel_rfl) (by kernel_rfl) (by kernel_rfl) (fun _ _ _ h => h) (Or.inr ⟨by kernel_rfl, rfl⟩) hHeld ?_
          change wpAnyH _ _ _ _ _ _ _ (Act.put _ (some 56) _) _
          simp only [Act.put, List.setIfInBounds_toArray, List.set_cons_zero, List.set_cons_succ]
          refine wpAnyH_take (i := 5) (v := undef) rfl (by kernel_rfl) (by kernel_rfl) (by kernel_rfl) (fun _ _ _ h => h) (Or.inr ⟨by kernel_rfl, rfl⟩) hHeld ?_
          change wpAnyH _ _ _ _ _ _ _ (Act.put _ (some 57) _) _
          simp only [Act.put, List.setIfInBounds_toArray, List.set_cons_zero, List.set_cons_succ]
          refine wpAnyH_take (i := 6) (v := undef) rfl (by kernel_rfl) (by kernel_rfl) (by kernel_rfl) (fun _ _ _ h => h) (Or.inr ⟨by kernel_rfl, rfl⟩) hHeld ?_
          change wpAnyH _ _ _ _ _ _ _ (Act.put _ (some 58) _) _
          simp only [Act.put, List.setIfInBounds_toArray, List.set_cons_zero, List.set_cons_succ]
          refine wpAnyH_take (i := 7) (v := undef) rfl (by kernel_rfl) (by kernel_rfl) (by kernel_rfl) (fun _ _ _ h => h) (Or.inr ⟨by kernel_rfl, rfl⟩) hHeld ?_
          change wpAnyH _ _ _ _ _ _ _ (Act.put _ (some 59) _) _
          simp only [Act.put, List.setIfInBounds_toArray, List.set_cons_zero, List.set_cons_succ]
          refine wpAnyH_take (i := 8) (v := undef) rfl (by kernel_rfl) (by kernel_rfl) (by kernel_rfl) (fun _ _ _ h => h) (Or.inr ⟨by kernel_rfl, rfl⟩) hHeld ?_
          change wpAnyH _ _ _ _ _ _ _ (Act.put _ (some 60) _) _
          simp only [Act.put, List.setIfInBounds_toArray, List.set_cons_zero, List.set_cons_succ]
          refine wpAnyH_take (i := 9) (v := undef) rfl (by kernel_rfl) (by kernel_rfl) (by kernel_rfl) (fun _ _ _ h => h) (Or.inr ⟨by kernel_rfl, rfl⟩) hHeld ?_
          change wpAnyH _ _ _ _ _ _ _ (Act.put _ (some 61) _) _
          simp only [Act.put, List.setIfInBounds_toArray, List.set_cons_zero, List.set_cons_succ]
          refine wpAnyH_take (i := 10) (v := ?_) rfl (by kernel_rfl) (by kernel_rfl) (by kernel_rfl) (fun _ _ _ h => h) (Or.inl ⟨by kernel_rfl, ?_⟩) hHeld ?_
          rotate_left
          · intro w hSw
            (try dsimp only at hSw)
            go_simp
            (try with_reducible rfl)
          change wpAnyH _ _ _ _ _ _ _ (Act.put _ (some 62) _) _
          simp only [Act.put, List.setIfInBounds_toArray, List.set_cons_zero, List.set_cons_succ]
          refine wpAnyH_done (by kernel_rfl) ?_ _
          go_wp2_with fail
          go_ret
          exact ⟨by rw [HANS.out]; rfl, gr_trans (gr_trans hG5 hgr) (gr_drew hgrc)⟩
        · have hK0 : decide ((K : Int) < 0) = false := by rw [decide_eq_false_iff_not]; omega
          have hK1 : ¬ (K : Int) < 0 := by omega
          have HFK := Lib.hid (HFD.out K hK)
          obtain ⟨FY, hFY⟩ : ∃ FY, fndX l p[K] = FY := ⟨_, rfl⟩
          rw [hFY] at hs HFK
          obtain ⟨ys, yc, yz⟩ := FY
          obtain ⟨EQ, hEQ⟩ : ∃ EQ, (decide (ys = fs) && (yc == fc && yz == fz)) = EQ := ⟨_, rfl⟩
          have hsE : decide ((ys, yc, yz) = (fs, fc, fz)) = EQ := by
            rw [← hEQ]
            simp only [Prod.mk.injEq, Bool.decide_and]
            rfl
          rw [hsE] at hs
          have HS := Lib.hid hs
          have HNQ : Hid (∀ W, (binOp .neq 38 (.agg #[.string ys, .int .i64 yc, .int .i64 yz]) (.agg #[.string fs, .int .i64 fc, .int .i64 fz])).run Tryz.prog W = .ok (.bool (!EQ)) W) := fun W => by rw [neqFnd, hEQ]
          have HGC : Hid (∀ V, wc.grownBy V none → w.grownBy V none) := fun V hV => gr_trans (gr_trans hG5 hgr) (gr_trans hgrc hV)
          have HKC : Hid (∀ V, wc.grownBy V none → V.cell? ⟨gi, 0, none⟩ = some (.int .i64 i) ∧ wc.grownBy V none) := fun V hV => ⟨(HKR.out V (gr_trans hgrc hV)).1, hV⟩
          clear hs hsE hEQ hFY
          have hneq := HNQ.out
          refine wp_region_held_drew (S := fun V => V.cell? ⟨gi, 0, none⟩ = some (.int .i64 i) ∧ wc.grownBy V none) (by kernel_rfl) (HKC.out _ (gr_drew (gr_refl _ _))) (fun hHeld => ?_)
          refine wpAnyH_take (i := 0) (v := ?_) rfl (by kernel_rfl) (by kernel_rfl) (by kernel_rfl) (fun _ _ _ h => h) (Or.inl ⟨by kernel_rfl, ?_⟩) hHeld ?_
          rotate_left
          · intro w hSw
            (try dsimp only at hSw)
            obtain ⟨hS0, hS1⟩ := hSw
            go_simp
            (try with_reducible rfl)
          change wpAnyH _ _ _ _ _ _ _ (Act.put _ (some 52) _) _
          simp only [Act.put, List.setIfInBounds_toArray, List.set_cons_zero, List.set_cons_succ]
          refine wpAnyH_take (i := 1) (v := ?_) rfl (by kernel_rfl) (by kernel_rfl) (by kernel_rfl) (fun _ _ _ h => h) (Or.inl ⟨by kernel_rfl, ?_⟩) hHeld ?_
          rotate_left
          · intro w hSw
            (try dsimp only at hSw)
            obtain ⟨hS0, hS1⟩ := hSw
            go_simp
            (try with_reducible rfl)
          change wpAnyH _ _ _ _ _ _ _ (Act.put _ (some 53) _) _
          simp only [Act.put, List.setIfInBounds_toArray, List.set_cons_zero, List.set_cons_succ]
          refine wpAnyH_take (i := 2) (v := ?_) rfl (by kernel_rfl) (by kernel_rfl) (by kernel_rfl) (fun _ _ _ h => h) (Or.inl ⟨by kernel_rfl, ?_⟩) hHeld ?_
          rotate_left
          · intro w hSw
            (try dsimp only at hSw)
            obtain ⟨hS0, hS1⟩ := hSw
            go_simp
            (try with_reducible rfl)
          change wpAnyH _ _ _ _ _ _ _ (Act.put _ (some 54) _) _
          simp only [Act.put, List.setIfInBounds_toArray, List.set_cons_zero, List.set_cons_succ]
          refine wpAnyH_take (i := 3) (v := ?_) rfl (by kernel_rfl) (by kernel_rfl) (by kernel_rfl) (fun _ _ _ h => h) (Or.inl ⟨by kernel_rfl, ?_⟩) hHeld ?_
          rotate_left
          · intro w hSw
            (try dsimp only at hSw)
            obtain ⟨hS0, hS1⟩ := hSw
            go_simp
            (try with_reducible rfl)
          change wpAnyH _ _ _ _ _ _ _ (Act.put _ (some 55) _) _
          simp only [Act.put, List.setIfInBounds_toArray, List.set_cons_zero, List.set_cons_succ]
          refine wpAnyH_take (i := 4) (v := ?_) rfl (by kernel_rfl) (by kernel_rfl) (by kernel_rfl) (fun _ _ _ h => h) (Or.inl ⟨by kernel_rfl, ?_⟩) hHeld ?_
          rotate_left
          · intro w hSw
            (try dsimp only at hSw)
            obtain ⟨hS0, hS1⟩ := hSw
            go_simp
            (try with_reducible rfl)
          change wpAnyH _ _ _ _ _ _ _ (Act.put _ (some 56) _) _
          simp only [Act.put, List.setIfInBounds_toArray, List.set_cons_zero, List.set_cons_succ]
          refine wpAnyH_take (i := 6) (v := ?_) rfl (by kernel_rfl) (by kernel_rfl) (by kernel_rfl) (fun _ _ _ h => h) (Or.inl ⟨by kernel_rfl, ?_⟩) hHeld ?_
          rotate_left
          · intro w hSw
            (try dsimp only at hSw)
            obtain ⟨hS0, hS1⟩ := hSw
            go_simp
            (try with_reducible rfl)
          change wpAnyH _ _ _ _ _ _ _ (Act.put _ (some 58) _) _
          simp only [Act.put, List.setIfInBounds_toArray, List.set_cons_zero, List.set_cons_succ]
          refine wpAnyH_take (i := 7) (v := ?_) rfl (by kernel_rfl) (by kernel_rfl) (by kernel_rfl) (fun _ _ _ h => h) (Or.inl ⟨by kernel_rfl, ?_⟩) hHeld ?_
          rotate_left
          · intro w hSw
            (try dsimp only at hSw)
            obtain ⟨hS0, hS1⟩ := hSw
            go_simp
            (try with_reducible rfl)
          change wpAnyH _ _ _ _ _ _ _ (Act.put _ (some 59) _) _
          simp only [Act.put, List.setIfInBounds_toArray, List.set_cons_zero, List.set_cons_succ]
          refine wpAnyH_ready (rs := [5]) (by kernel_rfl) (by simp) ?_
          refine AllReadyH.cons (o := _) rfl (fun K hK => ?_) AllReadyH.nil
          go_simp
          (go_at_call 103; refine (HFK.out _ (HGC.out _ (gr_drew (gr_refl _ _)))).mono ?_; rintro _ wd ⟨rfl, hgd⟩; have hgcd : wc.grownBy wd none := gr_trans (gr_drew (gr_refl wc none)) hgd)
          refine hK.out _ _ (HKC.out _ hgcd) (fun hHeld5 => ?_)
          clear hK K
          (try simp only [Act.put, List.setIfInBounds_toArray, List.set_cons_zero, List.set_cons_succ])
          refine wpAnyH_ready (rs := [8]) (by kernel_rfl) (by simp) ?_
          refine AllReadyH.cons (o := _) rfl (fun K hK => ?_) AllReadyH.nil
          go_simp
          (go_at_call 103; refine (HFI.out _ (HGC.out _ hgcd)).mono ?_; rintro _ we ⟨rfl, hge⟩; have hgce : wc.grownBy we none := gr_trans hgcd hge)
          refine hK.out _ _ (HKC.out _ hgce) (fun hHeld8 => ?_)
          clear hK K
          (try simp only [Act.put, List.setIfInBounds_toArray, List.set_cons_zero, List.set_cons_succ])
          refine wpAnyH_take (i := 9) (v := ?_) rfl (by kernel_rfl) (by kernel_rfl) (by kernel_rfl) (fun _ _ _ h => h) (Or.inl ⟨by kernel_rfl, ?_⟩) hHeld8 ?_
          rotate_left
          · intro w hSw
            (try dsimp only at hSw)
            obtain ⟨hS0, hS1⟩ := hSw
            go_simp
            (try with_reducible rfl)
          change wpAnyH _ _ _ _ _ _ _ (Act.put _ (some 61) _) _
          simp only [Act.put, List.setIfInBounds_toArray, List.set_cons_zero, List.set_cons_succ]
          refine wpAnyH_take (i := 10) (v := ?_) rfl (by kernel_rfl) (by kernel_rfl) (by kernel_rfl) (fun _ _ _ h => h) (Or.inl ⟨by kernel_rfl, ?_⟩) hHeld8 ?_
          rotate_left
          · intro w hSw
            (try dsimp only at hSw)
            obtain ⟨hS0, hS1⟩ := hSw
            go_simp
            (try with_reducible rfl)
          change wpAnyH _ _ _ _ _ _ _ (Act.put _ (some 62) _) _
          simp only [Act.put, List.setIfInBounds_toArray, List.set_cons_zero, List.set_cons_succ]
          refine wpAnyH_done (by kernel_rfl) ?_ _
          have hgrE := gr_trans hgr (gr_trans hgrc hgce)
          cases EQ
          · have HANS : Hid (ANS = false) := by show _ = _; rw [HST.out, HS.out]; rfl
            go_wp2_with fail
            go_ret
            exact ⟨by rw [HANS.out]; rfl, gr_trans hG5 hgrE⟩
          · have HNEW : Hid (ANS = (ED.drop (k + 1)).all fun t => sameB l p (lngP l p t B (butB i gone)) X) := by show _ = _; rw [HST.out, HS.out, Bool.true_and]
            go_wp2_with fail
            go_roundw
            case rel => exact ⟨k + 1, by omega, by go_num, HNEW, hgrE⟩
            case measure => simp [intOf]; omega
      · have hkl : ¬ (k : Int) < (ED.length : Int) := by omega
        have HANS : Hid (ANS = true) := by show _ = _; rw [HN.out, List.drop_eq_nil_of_le (by omega)]; rfl
        go_wp2_with fail
        go_ret
        exact ⟨by rw [HANS.out]; rfl, gr_trans hG5 hgr⟩
end Go.Proofs.YtbpkfkbbkgdlaaaGreatDoor

namespace Go.Proofs.YtbpkfkbbkgdlaaaGreatDoor
open Go.RowKit
set_option linter.unusedVariables false
set_option linter.unusedSimpArgs false

theorem boolInfo : (Tryz.prog.info? 4).map (fun i => (i.zero, i.size, i.bytes)) = some (some (.bool false), 1, 1) := by kernel_rfl
theorem pfxInfo2 : (Tryz.prog.info? 72).map (fun i => (i.zero, i.size, i.bytes)) = some (some (.agg #[.string ⟨#[]⟩, .string ⟨#[]⟩, .int .i64 0, .int .i64 0, .bool false, .int .i64 0]), 6, 64) := by kernel_rfl
theorem pfx_ones2 (a b : ByteArray) (c d : Int) (h : Bool) (z : Int) : ∀ u ∈ [Value.string a, .string b, .int .i64 c, .int .i64 d, .bool h, .int .i64 z], u.oneCell' = true := by
  intro u hu; simp at hu; rcases hu with rfl | rfl | rfl | rfl | rfl | rfl <;> rfl
theorem PfxsFrom.nil (base : Nat) (w : World) : PfxsFrom base w (.slice none 0 0) [] := World.ownsRow_nil _ _ _ _
theorem bools_made {base : Nat} {w : World} {v : Value} {n : Nat} (h : w.ownsRow base 4 1 v n (madeCells #[Value.bool false] (n * 1)).toList) : BoolsFrom base w v (List.replicate n false) := by
  unfold BoolsFrom
  rw [Nat.mul_one, toList_madeCells_one] at h
  rw [List.length_replicate, List.map_replicate]
  exact h
theorem BoolsFrom.stored {base : Nat} {w : World} {g n c : Nat} {l : List Bool} (h : BoolsFrom base w (.slice (some ⟨g, 0, none⟩) n c) l) (hn : n = l.length) (k : Nat) (b : Bool) : BoolsFrom base (w.setCell ⟨g, k, none⟩ (.bool b)) (.slice (some ⟨g, 0, none⟩) n c) (l.set k b) ∧ w.grownBy (w.setCell ⟨g, k, none⟩ (.bool b)) (some g) := by
  unfold BoolsFrom at h ⊢
  rw [← hn] at h
  have hst := World.ownsRow.stored h k (.bool b)
  rw [List.length_set, ← hn, List.map_set]
  exact hst
theorem pfx_own {base : Nat} {w : World} {v : Value} {n : Nat} {l : List Pfx} (x : Pfx) (hn : n = l.length) (h : w.ownsRow base 72 6 v (n + 1) (l.flatMap encP ++ [.string x.beg, .string x.ent, .int .i64 x.a, .int .i64 x.z, .bool x.whole, .int .i64 x.zone])) : PfxsFrom base w v (l ++ [x]) := by
  unfold PfxsFrom
  rw [List.length_append, List.flatMap_append, ← hn]
  exact h
def OverPost (l : List Ent) (p : List Pfx) (w : World) (r : Ending) (w' : World) : Prop :=
  ∃ (v : Value) (o : List Nat), r = .returned (.tuple #[v, .int .i64 (tabE l p)]) ∧ IntsFrom w.heap.size w' v (natI o) ∧ (tabE l p ≠ 0 → o = []) ∧ (tabE l p = 0 → o = ovrTo l p p.length) ∧ w.grownBy w' none
theorem ovrTo_len (l : List Ent) (p : List Pfx) : ∀ k, (ovrTo l p k).length ≤ k
  | 0 => Nat.le_refl _
  | k + 1 => by
    have ih := ovrTo_len l p k
    unfold ovrTo
    split
    · rw [List.length_append]; simp; omega
    · omega
theorem outTo_len (l : List Ent) (p : List Pfx) (k : Nat) (hk : k ≤ p.length) : (outTo l p k).length ≤ k := by
  have := (outTo_sub l p k hk).length_le
  rw [List.length_take] at this
  omega
set_option maxRecDepth 100000 in
set_option maxHeartbeats 8000000 in
theorem overlaps_any (base : Nat) (u v : Value) (l : List Ent) (p : List Pfx) (w : World) (hu : EntsFrom base w u l) (hsl : ∀ e ∈ l, EntSm e) (hv : PfxsFrom base w v p) (hsm : ∀ x ∈ p, PfxSm x) :
    Calls Tryz.prog 33 #[u, v] w (OverPost l p w) := by
  obtain ⟨i0, hi0, hz0, hz1, hz2⟩ := info_parts intInfo
  obtain ⟨j0, hj0, hy0, hy1, hy2⟩ := info_parts boolInfo
  have HCT : Hid (∀ W, w.grownBy W none → Calls Tryz.prog 14 #[u, v] W fun r w' => r = .returned (.int .i64 (tabE l p)) ∧ W.grownBy w' none) := fun W hW => checkTable_any base u v l p W (hu.grown hW) hsl (hv.grown hW) hsm
  have HTO : Hid (tabE l p = 0 → ∀ W, w.grownBy W none → Calls Tryz.prog 56 #[u, v] W (TabPost base u v l p W)) := fun h W hW => tableOf_right base u v l p W (hu.grown hW) (hv.grown hW) (tabE_ok h)
  have HV := Lib.hid hv
  obtain ⟨A, c, rfl, hlen, hA⟩ := hv.shape
  have HA := Lib.hid hA
  obtain ⟨LP, hLP⟩ : ∃ LP, p.length = LP := ⟨_, rfl⟩
  obtain ⟨E, hE⟩ : ∃ E, tabE l p = E := ⟨_, rfl⟩
  have HE := Lib.hid hE
  have HLP := Lib.hid hLP
  rw [hE] at HCT
  rw [hLP] at HCT HTO HV hlen ⊢
  clear hu hv hA hE hLP
  go_enter Tryz.func33, Tryz.ntmps33
  go_wp2_with fail
  refine (HCT.out _ (gr_refl _ _)).mono ?_
  rintro _ w2 ⟨rfl, hg2⟩
  by_cases hE0 : E = 0
  · have hR := tabE_ok (HE.out.trans hE0)
    have hl2 := hR.ok.len
    have hPOST : Hid (∀ V w', IntsFrom w.heap.size w' V (natI (ovrTo l p p.length)) → w.grownBy w' none → OverPost l p w (.returned (.tuple #[V, .int .i64 0])) w') := fun V w' h hg => ⟨V, _, by rw [HE.out, hE0], h, fun h => absurd (HE.out.trans hE0) h, fun _ => rfl, hg⟩
    have HTO2 := Lib.hid (HTO.out (HE.out.trans hE0))
    rw [HLP.out] at hl2
    subst hE0
    have HRT := Lib.hid hR
    clear hR HTO HCT
    go_wp2_with fail
    refine (HTO2.out _ hg2).mono ?_
    rintro _ w3 ⟨base2, gT, bB, bW, rfl, hTF, _, hg3⟩
    have hG3 := gr_trans hg2 hg3
    have HTF := Lib.hid hTF
    have HW3 : Hid (w.heap.size ≤ w3.heap.size) := hG3.size
    clear hTF hg2 hg3
    go_wp2_with (refine wpList_make_full _ rfl _ _ 134 rfl w3.heap.size 4 j0 _ 1 Tryz.underlying134 hj0 hy0 hy1 .i64 .i64 _ _ LP rfl rfl rfl rfl (by rw [hy2]; omega) (by unfold maxLen; omega) (Nat.le_refl _) ?_; intro w4 hown4 hg4)
    have hBL := bools_made hown4
    have HBL := Lib.hid hBL
    have hG4 := gr_trans hG3 hg4
    have HNE : Hid (∀ (i : Nat) (hi : i < p.length) W, w4.grownBy W none → Calls Tryz.prog 82 #[.pointer (some ⟨gT, 0, none⟩), .int .i64 i, .slice (some ⟨w3.heap.size, 0, none⟩) LP LP] W fun r w' => r = .returned (.bool (needX l p (List.replicate LP false) i p[i])) ∧ W.grownBy w' none) := fun i hi W hW => needless_ok base base2 gT bB bW u _ l p i w3.heap.size _ (List.replicate LP false) W (by have h := HTF.out.grown (gr_trans hg4 hW); exact h) HRT.out hi (HBL.out.grown hW) (by rw [List.length_replicate, HLP.out])
    obtain ⟨b4, hb4⟩ : ∃ x, w4.heap.size = x := ⟨_, rfl⟩
    have HW4 : Hid (w.heap.size ≤ b4) := by show _ ≤ _; rw [← hb4]; exact hG4.size
    have HB4E := Lib.hid hb4
    generalize w3.heap.size = gB at *
    clear hown4 hBL hG3 hg4 HBL hb4
    go_wp2_with fail
    go_loopw [9, 26] (fun ov kv wr => ∃ k : Nat, k ≤ LP ∧ kv = .int .i64 k ∧ IntsFrom b4 wr ov (natI (ovrTo l p k)) ∧ w4.grownBy wr none) (fun _ kv _ => LP - (intOf kv).toNat)
    case atStart => exact ⟨0, by omega, rfl, IntsFrom.nil _ _, gr_refl _ _⟩
    case round =>
      obtain ⟨k, hk, rfl, hown, hg⟩ := hrel
      obtain ⟨A2, c2, rfl, _, hA2⟩ := hown.shape
      obtain ⟨LO, hLO⟩ : ∃ LO, (natI (ovrTo l p k)).length = LO := ⟨_, rfl⟩
      have hLOb : LO ≤ k := by rw [← hLO, natI_len]; exact ovrTo_len l p k
      by_cases hlt : k < LP
      · have hki : (k : Int) < (LP : Int) := by omega
        have hkp : k < p.length := by rw [HLP.out]; exact hlt
        obtain ⟨gp, rfl, _, hgl⟩ := HA.out (by rw [HLP.out]; omega)
        have hat := (show PfxsFrom base w (.slice (some ⟨gp, 0, none⟩) p.length c) p from by rw [HLP.out]; exact HV.out).at_ k hkp
        obtain ⟨q0, q1, q2, q3, q4, q5⟩ := hat
        have hgw := gr_trans hG4 hg
        have q0 := hgw.cell q0 (by simp)
        have q1 := hgw.cell q1 (by simp)
        have q2 := hgw.cell q2 (by simp)
        have q3 := hgw.cell q3 (by simp)
        have q4 := hgw.cell q4 (by simp)
        have q5 := hgw.cell q5 (by simp)
        have HNX := Lib.hid (HNE.out k hkp)
        have hst : ovrTo l p (k + 1) = if (!p[k].whole && needX l p (List.replicate LP false) k p[k]) then ovrTo l p k ++ [k] else ovrTo l p k := by
          show (if tidB l p (List.replicate p.length false) k then _ else _) = _
          rw [tidB_at hkp, HLP.out]
        generalize needX l p (List.replicate LP false) k p[k] = NX at *
        generalize p[k] = x at *
        obtain ⟨XB, XE, XA, XZ, XW, XN⟩ := x
        have HST := Lib.hid hst
        rw [hLO] at hown
        (try rw [hLO])
        have HLO := Lib.hid hLO
        have HOWN := Lib.hid hown
        clear hst hLO hA2 hown
        simp only at q0 q1 q2 q3 q4 q5
        cases XW
        · go_upto_region 10 with fail
          have hgA := World.grownBy_alloc wr (.cells #[.string XB, .string XE, .int .i64 XA, .int .i64 XZ, .bool false, .int .i64 XN] 72) none
          have hX := Blk.new wr 72 #[.string XB, .string XE, .int .i64 XA, .int .i64 XZ, .bool false, .int .i64 XN]
          generalize wr.alloc (.cells #[.string XB, .string XE, .int .i64 XA, .int .i64 XZ, .bool false, .int .i64 XN] 72) = w5 at *
          have x4 := hX.cell 4
          simp only [List.getElem?_toArray, List.getElem?_cons_zero, List.getElem?_cons_succ] at x4
          have hg5 := gr_trans hg hgA
          go_wp2_with fail
          refine (HNX.out _ hg5).mono ?_
          rintro _ w6 ⟨rfl, hg6⟩
          have hg6' := gr_trans hg5 hg6
          have hown6 := Lib.hid (HOWN.out.grown (gr_trans hgA hg6))
          cases NX
          · have HS : Hid (ovrTo l p (k + 1) = ovrTo l p k) := HST.out
            go_wp2_with fail
            go_roundw
            case rel => exact ⟨k + 1, by omega, by go_num, by rw [HS.out]; exact hown6.out, hg6'⟩
            case measure => simp [intOf]; omega
          · have HS : Hid (ovrTo l p (k + 1) = ovrTo l p k ++ [k]) := HST.out
            have hw6 : b4 ≤ w6.heap.size := by have := hg6'.size; have := HB4E.out; omega
            have hownR : w6.ownsRow b4 3 1 (.slice A2 LO c2) LO ((natI (ovrTo l p k)).map (Value.int .i64)) := by
              have h := hown6.out
              unfold IntsFrom at h
              rw [HLO.out] at h
              exact h
            have HOR := Lib.hid hownR
            clear hownR
            go_wp2_with (at_builtin; refine wpList_append_own _ rfl _ _ 22 rfl b4 3 i0 _ 1 8 Tryz.underlying22 hi0 hz0 hz1 hz2 rfl (by decide) _ LO _ rfl (World.ownsRow.alloc HOR.out _) ⟨_, 0, none⟩ 1 1 [.int .i64 k] rfl rfl (one_cell _ (k : Int) _) (one_oneCell (k : Int)) (by unfold maxLen; omega) (by omega) (by simp; omega) ?_; intro v' w7 hownB hgrB _)
            have hown7 : IntsFrom b4 w7 v' (natI (ovrTo l p (k + 1))) := by
              rw [HS.out, natI_app]
              unfold IntsFrom
              rw [List.map_append, List.length_append, HLO.out]
              simpa using hownB
            have hG7 : w4.grownBy w7 none := gr_grown (gr_alloc hg6' _) hgrB (fun g e => .inr (by have := (HOR.out.lt g e).1; have := HB4E.out; omega))
            go_wp2_with fail
            go_roundw
            case rel => exact ⟨k + 1, by omega, by go_num, hown7, hG7⟩
            case measure => simp [intOf]; omega
        · have HS : Hid (ovrTo l p (k + 1) = ovrTo l p k) := HST.out
          have hgA := World.grownBy_alloc wr (.cells #[.string XB, .string XE, .int .i64 XA, .int .i64 XZ, .bool true, .int .i64 XN] 72) none
          go_upto_region 10 with fail
          have hX := Blk.new wr 72 #[.string XB, .string XE, .int .i64 XA, .int .i64 XZ, .bool true, .int .i64 XN]
          generalize wr.alloc (.cells #[.string XB, .string XE, .int .i64 XA, .int .i64 XZ, .bool true, .int .i64 XN] 72) = w5 at *
          have x4 := hX.cell 4
          simp only [List.getElem?_toArray, List.getElem?_cons_zero, List.getElem?_cons_succ] at x4
          have hg5 := gr_trans hg hgA
          have hown5 := Lib.hid (HOWN.out.grown hgA)
          go_wp2_with fail
          go_roundw
          case rel => exact ⟨k + 1, by omega, by go_num, by rw [HS.out]; exact hown5.out, hg5⟩
          case measure => simp [intOf]; omega
      · have hkl : ¬ (k : Int) < (LP : Int) := by omega
        have hkk : k = p.length := by rw [HLP.out]; omega
        have HFIN : Hid (IntsFrom w.heap.size wr (.slice A2 LO c2) (natI (ovrTo l p p.length))) := by
          show IntsFrom _ _ _ _
          rw [← hkk, ← hLO]
          exact ownsRow_low hown HW4.out
        (try rw [hLO])
        clear hown hA2 hkk hLO
        go_wp2_with fail
        go_ret2
        exact hPOST.out _ _ HFIN.out (gr_trans hG4 hg)
  · have hPOST : Hid (∀ w', w.grownBy w' none → OverPost l p w (.returned (.tuple #[.slice none 0 0, .int .i64 E])) w') := fun w' hg => ⟨_, [], by rw [HE.out], IntsFrom.nil _ _, fun _ => rfl, fun h => absurd (HE.out.symm.trans h) hE0, hg⟩
    have hE1 : (E == 0) = false := by rw [beq_eq_false_iff_ne]; exact hE0
    clear HTO HCT HE hE0
    go_wp2_with fail
    go_ret2
    exact hPOST.out _ hg2
def TidyPost (l : List Ent) (p : List Pfx) (w : World) (r : Ending) (w' : World) : Prop :=
  ∃ (v : Value) (q : List Pfx), r = .returned (.tuple #[v, .int .i64 (tabE l p)]) ∧ PfxsFrom w.heap.size w' v q ∧ (tabE l p ≠ 0 → q = []) ∧ (tabE l p = 0 → q = tidyL l p) ∧ w.grownBy w' none
set_option maxRecDepth 100000 in
set_option maxHeartbeats 8000000 in
theorem tidy_any (base : Nat) (u v : Value) (l : List Ent) (p : List Pfx) (w : World) (hu : EntsFrom base w u l) (hsl : ∀ e ∈ l, EntSm e) (hv : PfxsFrom base w v p) (hsm : ∀ x ∈ p, PfxSm x) :
    Calls Tryz.prog 30 #[u, v] w (TidyPost l p w) := by
  obtain ⟨i0, hi0, hz0, hz1, hz2⟩ := info_parts pfxInfo2
  obtain ⟨j0, hj0, hy0, hy1, hy2⟩ := info_parts boolInfo
  have HCT : Hid (∀ W, w.grownBy W none → Calls Tryz.prog 14 #[u, v] W fun r w' => r = .returned (.int .i64 (tabE l p)) ∧ W.grownBy w' none) := fun W hW => checkTable_any base u v l p W (hu.grown hW) hsl (hv.grown hW) hsm
  have HTO : Hid (tabE l p = 0 → ∀ W, w.grownBy W none → Calls Tryz.prog 56 #[u, v] W (TabPost base u v l p W)) := fun h W hW => tableOf_right base u v l p W (hu.grown hW) (hv.grown hW) (tabE_ok h)
  have HV := Lib.hid hv
  obtain ⟨A, c, rfl, hlen, hA⟩ := hv.shape
  have HA := Lib.hid hA
  obtain ⟨LP, hLP⟩ : ∃ LP, p.length = LP := ⟨_, rfl⟩
  obtain ⟨E, hE⟩ : ∃ E, tabE l p = E := ⟨_, rfl⟩
  have HE := Lib.hid hE
  have HLP := Lib.hid hLP
  rw [hE] at HCT
  rw [hLP] at HCT HTO HV hlen ⊢
  clear hu hv hA hE hLP
  go_enter Tryz.func30, Tryz.ntmps30
  go_wp2_with fail
  refine (HCT.out _ (gr_refl _ _)).mono ?_
  rintro _ w2 ⟨rfl, hg2⟩
  by_cases hE0 : E = 0
  · have hR := tabE_ok (HE.out.trans hE0)
    have hl2 := hR.ok.len
    have hPOST : Hid (∀ V w', PfxsFrom w.heap.size w' V (tidyL l p) → w.grownBy w' none → TidyPost l p w (.returned (.tuple #[V, .int .i64 0])) w') := fun V w' h hg => ⟨V, _, by rw [HE.out, hE0], h, fun h => absurd (HE.out.trans hE0) h, fun _ => rfl, hg⟩
    have HTO2 := Lib.hid (HTO.out (HE.out.trans hE0))
    rw [HLP.out] at hl2
    subst hE0
    have HRT := Lib.hid hR
    clear hR HTO HCT
    go_wp2_with fail
    refine (HTO2.out _ hg2).mono ?_
    rintro _ w3 ⟨base2, gT, bB, bW, rfl, hTF, _, hg3⟩
    have hG3 := gr_trans hg2 hg3
    have HTF := Lib.hid hTF
    clear hTF hg2 hg3
    go_wp2_with (refine wpList_make_full _ rfl _ _ 134 rfl w3.heap.size 4 j0 _ 1 Tryz.underlying134 hj0 hy0 hy1 .i64 .i64 _ _ LP rfl rfl rfl rfl (by rw [hy2]; omega) (by unfold maxLen; omega) (Nat.le_refl _) ?_; intro w4 hown4 hg4)
    have hBL : BoolsFrom w3.heap.size w4 (.slice (some ⟨w3.heap.size, 0, none⟩) LP LP) (goneTo l p 0) := by
      show BoolsFrom _ _ _ (List.replicate p.length false)
      rw [HLP.out]
      exact bools_made hown4
    have hG4 := gr_trans hG3 hg4
    have HT4 : Hid (∀ W, w4.grownBy W (some w3.heap.size) → TabFull base base2 gT bB bW u (.slice A LP c) l p W ) := fun W hW => by
      have h1 : w3.grownBy W none := gr_grown hg4 hW (fun g e => by injection e with e; exact .inr (by omega))
      exact HTF.out.grown h1
    have HW3 : Hid (w.heap.size ≤ w3.heap.size) := hG3.size
    obtain ⟨b4, hb4⟩ : ∃ x, w4.heap.size = x := ⟨_, rfl⟩
    have HW4 : Hid (w.heap.size ≤ b4) := by show _ ≤ _; rw [← hb4]; exact hG4.size
    have HWB : Hid (w3.heap.size < b4) := by show _ < _; rw [← hb4]; exact (World.ownsRow.lt hBL w3.heap.size rfl).2
    have HB4E := Lib.hid hb4
    generalize w3.heap.size = gB at *
    clear hown4 hG3 hg4 hb4
    go_wp2_with fail
    go_loopw [9, 26] (fun ov kv wr => ∃ k : Nat, k ≤ LP ∧ kv = .int .i64 k ∧ PfxsFrom b4 wr ov (outTo l p k) ∧ BoolsFrom gB wr (.slice (some ⟨gB, 0, none⟩) LP LP) (goneTo l p k) ∧ w4.grownBy wr (some gB)) (fun _ kv _ => LP - (intOf kv).toNat)
    case atStart => exact ⟨0, by omega, rfl, PfxsFrom.nil _ _, hBL, gr_refl _ _⟩
    case round =>
      obtain ⟨k, hk, rfl, hown, hbl, hg⟩ := hrel
      obtain ⟨A2, c2, rfl, _, hA2⟩ := hown.shape
      obtain ⟨LO, hLO⟩ : ∃ LO, (outTo l p k).length = LO := ⟨_, rfl⟩
      have hLOb : LO ≤ k := by rw [← hLO]; exact outTo_len l p k (by rw [HLP.out]; exact hk)
      have hgw : w.grownBy wr none := gr_grown hG4 hg (fun g e => by injection e with e; exact .inr (by have := HW3.out; omega))
      clear hBL
      by_cases hlt : k < LP
      · have hki : (k : Int) < (LP : Int) := by omega
        have hk0 : (0 : Int) ≤ (k : Int) := by omega
        have hkp : k < p.length := by rw [HLP.out]; exact hlt
        obtain ⟨gp, rfl, _, hgl⟩ := HA.out (by rw [HLP.out]; omega)
        have hat := (show PfxsFrom base w (.slice (some ⟨gp, 0, none⟩) p.length c) p from by rw [HLP.out]; exact HV.out).at_ k hkp
        obtain ⟨q0, q1, q2, q3, q4, q5⟩ := hat
        have q0 := hgw.cell q0 (by simp)
        have q1 := hgw.cell q1 (by simp)
        have q2 := hgw.cell q2 (by simp)
        have q3 := hgw.cell q3 (by simp)
        have q4 := hgw.cell q4 (by simp)
        have q5 := hgw.cell q5 (by simp)
        have hgl2 := goneTo_len l p k
        rw [HLP.out] at hgl2
        have HNX : Hid (∀ W, wr.grownBy W none → Calls Tryz.prog 82 #[.pointer (some ⟨gT, 0, none⟩), .int .i64 k, .slice (some ⟨gB, 0, none⟩) LP LP] W fun r w' => r = .returned (.bool (needX l p (goneTo l p k) k p[k])) ∧ W.grownBy w' none) := fun W hW => needless_ok base base2 gT bB bW u _ l p k gB _ (goneTo l p k) W (HT4.out W (gr_trans hg (gr_weak hW _))) HRT.out hkp (hbl.grown hW) (goneTo_len l p k)
        have hyes : ∀ b, tidB l p (goneTo l p k) k = b → goneTo l p (k + 1) = (goneTo l p k).set k b := fun b h => by rw [← h]; rfl
        have hno : tidB l p (goneTo l p k) k = false → outTo l p (k + 1) = outTo l p k ++ [p[k]] := outTo_no hkp
        have hye : tidB l p (goneTo l p k) k = true → outTo l p (k + 1) = outTo l p k := outTo_yes hkp
        rw [tidB_at hkp] at hyes hno hye
        have hbc : wr.cell? ⟨gB, k, none⟩ = some (.bool ((goneTo l p k)[k]'(by omega))) := BoolsFrom.at_ (by rw [hgl2]; exact hbl) k (by omega)
        generalize (goneTo l p k)[k]'(by omega) = OB at *
        generalize needX l p (goneTo l p k) k p[k] = NX at *
        generalize p[k] = x at *
        obtain ⟨XB, XE, XA, XZ, XW, XN⟩ := x
        have HY := Lib.hid hyes
        have HN := Lib.hid hno
        have HE2 := Lib.hid hye
        rw [hLO] at hown
        (try rw [hLO])
        have HLO := Lib.hid hLO
        have HOWN := Lib.hid hown
        have HBL := Lib.hid hbl
        have HGL := Lib.hid hgl2
        have HBI : Hid (∀ W (B : Bool), wr.grownBy W none → BoolsFrom gB (W.setCell ⟨gB, k, none⟩ (.bool B)) (.slice (some ⟨gB, 0, none⟩) LP LP) ((goneTo l p k).set k B) ∧ W.grownBy (W.setCell ⟨gB, k, none⟩ (.bool B)) (some gB) ∧ w4.grownBy (W.setCell ⟨gB, k, none⟩ (.bool B)) (some gB) ∧ PfxsFrom b4 (W.setCell ⟨gB, k, none⟩ (.bool B)) (.slice A2 LO c2) (outTo l p k)) := fun W B hW => by
          have h1 := BoolsFrom.stored (HBL.out.grown hW) HGL.out.symm k B
          refine ⟨h1.1, h1.2, gr_trans (gr_trans hg (gr_weak hW _)) h1.2, ?_⟩
          have h2 := HOWN.out.grown hW
          rw [← HLO.out] at h2 ⊢
          exact PfxsFrom.other h2 h1.2 HWB.out
        have HFZ : Hid (∀ W, wr.grownBy W none → W.frozen? ⟨gB, k, none⟩ = false ∧ W.cell? ⟨gB, k, none⟩ = some (.bool OB)) := fun W hW => by
          have h := HBL.out.grown hW
          unfold BoolsFrom at h
          rw [HGL.out] at h
          exact ⟨World.ownsRow.frozenAt h k, hW.cell hbc (by simp)⟩
        clear hyes hno hye hLO hA2 hown hbl hgl2 hbc
        simp only at q0 q1 q2 q3 q4 q5
        have hgA := World.grownBy_alloc wr (.cells #[.string XB, .string XE, .int .i64 XA, .int .i64 XZ, .bool XW, .int .i64 XN] 72) none
        have hX := Blk.new wr 72 #[.string XB, .string XE, .int .i64 XA, .int .i64 XZ, .bool XW, .int .i64 XN]
        go_upto_region 10 with fail
        generalize wr.alloc (.cells #[.string XB, .string XE, .int .i64 XA, .int .i64 XZ, .bool XW, .int .i64 XN] 72) = w5 at *
        obtain ⟨gX, hgX⟩ : ∃ x, wr.heap.size = x := ⟨_, rfl⟩
        have HHW : Hid (gB < gX) := by show _ < _; rw [← hgX]; have := HWB.out; have := hg.size; have := HB4E.out; omega
        rw [hgX] at hX
        (try rw [hgX])
        clear hgX
        have HX := Lib.hid hX
        have x4 := hX.cell 4
        simp only [List.getElem?_toArray, List.getElem?_cons_zero, List.getElem?_cons_succ] at x4
        clear q0 q1 q2 q3 q4 q5 hX
        have HXB : Hid (gX ≠ gB) := by show _ ≠ _; intro e; have h1 := HHW.out; omega
        cases XW
        · go_wp2_with fail
          refine (HNX.out _ hgA).mono ?_
          rintro _ w6 ⟨rfl, hg5c⟩
          have hgc := gr_trans hgA hg5c
          clear x4
          cases NX
          · obtain ⟨hfz, hcb⟩ := HFZ.out w6 hgc
            obtain ⟨hb1, hb2, hb3, hb4⟩ := HBI.out w6 false hgc
            have hX7 := Blk.far (HX.out.grown hg5c (by simp)) (p := ⟨gB, k, none⟩) HXB.out (.bool false)
            have hc7 : (w6.setCell ⟨gB, k, none⟩ (.bool false)).cell? ⟨gB, k, none⟩ = some (.bool false) := by
              have h := BoolsFrom.at_ (l := (goneTo l p k).set k false) (by rw [List.length_set, HGL.out]; exact hb1) k (by rw [List.length_set, HGL.out]; exact hlt)
              simpa using h
            go_upto_region 11 with fail
            generalize w6.setCell ⟨gB, k, none⟩ (.bool false) = w7 at *
            have hrow7 : BoolsFrom gB w7 (.slice (some ⟨gB, 0, none⟩) LP LP) (goneTo l p (k + 1)) := by rw [HY.out false (by simp)]; exact hb1
            have HR7 := Lib.hid hrow7
            clear hfz hcb hb1 hb2 hrow7
            have y0 := hX7.cell 0
            have y1 := hX7.cell 1
            have y2 := hX7.cell 2
            have y3 := hX7.cell 3
            have y4 := hX7.cell 4
            have y5 := hX7.cell 5
            simp only [List.getElem?_toArray, List.getElem?_cons_zero, List.getElem?_cons_succ] at y0 y1 y2 y3 y4 y5
            have HN2 : Hid (outTo l p (k + 1) = outTo l p k ++ [⟨XB, XE, XA, XZ, false, XN⟩]) := HN.out (by simp)
            have hw7 : b4 ≤ w7.heap.size := by have := hb3.size; have := HB4E.out; omega
            have hb4' : w7.ownsRow b4 72 6 (.slice A2 LO c2) LO ((outTo l p k).flatMap encP) := by
              have h := hb4
              unfold PfxsFrom at h
              rw [HLO.out] at h
              exact h
            have HB4 := Lib.hid hb4'
            clear hb4 hX7
            go_wp2_with (at_builtin; refine wpList_append_own _ rfl _ _ 27 rfl b4 72 i0 _ 6 64 Tryz.underlying27 hi0 hz0 hz1 hz2 rfl (by decide) _ LO _ rfl (World.ownsRow.alloc HB4.out _) ⟨_, 0, none⟩ 1 1 [.string XB, .string XE, .int .i64 XA, .int .i64 XZ, .bool false, .int .i64 XN] rfl rfl (World.news_of_block (Blk.new _ _ _)) (pfx_ones2 _ _ _ _ _ _) (by unfold maxLen; omega) (by omega) (by simp; omega) ?_; intro v' w8 hownB hgrB _)
            have hown8 : PfxsFrom b4 w8 v' (outTo l p (k + 1)) := by rw [HN2.out]; exact pfx_own ⟨XB, XE, XA, XZ, false, XN⟩ HLO.out.symm hownB
            have hlt8 := fun g e => (HB4.out.lt g e).1
            have hG8 : w4.grownBy w8 (some gB) := gr_grown (gr_alloc hb3 _) hgrB (fun g e => .inr (by have := hlt8 g e; have := HB4E.out; omega))
            have hR8 : BoolsFrom gB w8 (.slice (some ⟨gB, 0, none⟩) LP LP) (goneTo l p (k + 1)) := own_low (B := gB + 1) (World.ownsRow.alloc (show World.ownsRow _ _ _ _ _ _ _ from HR7.out) _) (fun g e => by simp [Value.ownBlock] at e; omega) hgrB (fun g e => by have := hlt8 g e; have := HWB.out; omega)
            go_wp2_with fail
            go_roundw
            case rel => exact ⟨k + 1, by omega, by go_num, hown8, hR8, hG8⟩
            case measure => simp [intOf]; omega
          · obtain ⟨hfz, hcb⟩ := HFZ.out w6 hgc
            obtain ⟨hb1, hb2, hb3, hb4⟩ := HBI.out w6 true hgc
            have hX7 := Blk.far (HX.out.grown hg5c (by simp)) (p := ⟨gB, k, none⟩) HXB.out (.bool true)
            have hc7 : (w6.setCell ⟨gB, k, none⟩ (.bool true)).cell? ⟨gB, k, none⟩ = some (.bool true) := by
              have h := BoolsFrom.at_ (l := (goneTo l p k).set k true) (by rw [List.length_set, HGL.out]; exact hb1) k (by rw [List.length_set, HGL.out]; exact hlt)
              simpa using h
            go_upto_region 11 with fail
            generalize w6.setCell ⟨gB, k, none⟩ (.bool true) = w7 at *
            have hrow7 : BoolsFrom gB w7 (.slice (some ⟨gB, 0, none⟩) LP LP) (goneTo l p (k + 1)) := by rw [HY.out true (by simp)]; exact hb1
            have HR7 := Lib.hid hrow7
            clear hfz hcb hb1 hb2 hrow7
            have HN2 : Hid (PfxsFrom b4 w7 (.slice A2 LO c2) (outTo l p (k + 1))) := by show PfxsFrom _ _ _ _; rw [HE2.out (by simp)]; exact hb4
            clear hb4 hX7
            go_wp2_with fail
            go_roundw
            case rel => exact ⟨k + 1, by omega, by go_num, HN2.out, HR7.out, hb3⟩
            case measure => simp [intOf]; omega
        · have hgc := hgA
          have hg5c := gr_refl w5 none
          obtain ⟨hfz, hcb⟩ := HFZ.out w5 hgc
          obtain ⟨hb1, hb2, hb3, hb4⟩ := HBI.out w5 false hgc
          have hX7 := Blk.far (HX.out.grown hg5c (by simp)) (p := ⟨gB, k, none⟩) HXB.out (.bool false)
          have hc7 : (w5.setCell ⟨gB, k, none⟩ (.bool false)).cell? ⟨gB, k, none⟩ = some (.bool false) := by
            have h := BoolsFrom.at_ (l := (goneTo l p k).set k false) (by rw [List.length_set, HGL.out]; exact hb1) k (by rw [List.length_set, HGL.out]; exact hlt)
            simpa using h
          go_upto_region 11 with fail
          generalize w5.setCell ⟨gB, k, none⟩ (.bool false) = w7 at *
          have hrow7 : BoolsFrom gB w7 (.slice (some ⟨gB, 0, none⟩) LP LP) (goneTo l p (k + 1)) := by rw [HY.out false (by simp)]; exact hb1
          have HR7 := Lib.hid hrow7
          clear hfz hcb hb1 hb2 hrow7
          have y0 := hX7.cell 0
          have y1 := hX7.cell 1
          have y2 := hX7.cell 2
          have y3 := hX7.cell 3
          have y4 := hX7.cell 4
          have y5 := hX7.cell 5
          simp only [List.getElem?_toArray, List.getElem?_cons_zero, List.getElem?_cons_succ] at y0 y1 y2 y3 y4 y5
          have HN2 : Hid (outTo l p (k + 1) = outTo l p k ++ [⟨XB, XE, XA, XZ, true, XN⟩]) := HN.out (by simp)
          have hw7 : b4 ≤ w7.heap.size := by have := hb3.size; have := HB4E.out; omega
          have hb4' : w7.ownsRow b4 72 6 (.slice A2 LO c2) LO ((outTo l p k).flatMap encP) := by
            have h := hb4
            unfold PfxsFrom at h
            rw [HLO.out] at h
            exact h
          have HB4 := Lib.hid hb4'
          clear hb4 hX7
          go_wp2_with (at_builtin; refine wpList_append_own _ rfl _ _ 27 rfl b4 72 i0 _ 6 64 Tryz.underlying27 hi0 hz0 hz1 hz2 rfl (by decide) _ LO _ rfl (World.ownsRow.alloc HB4.out _) ⟨_, 0, none⟩ 1 1 [.string XB, .string XE, .int .i64 XA, .int .i64 XZ, .bool true, .int .i64 XN] rfl rfl (World.news_of_block (Blk.new _ _ _)) (pfx_ones2 _ _ _ _ _ _) (by unfold maxLen; omega) (by omega) (by simp; omega) ?_; intro v' w8 hownB hgrB _)
          have hown8 : PfxsFrom b4 w8 v' (outTo l p (k + 1)) := by rw [HN2.out]; exact pfx_own ⟨XB, XE, XA, XZ, true, XN⟩ HLO.out.symm hownB
          have hlt8 := fun g e => (HB4.out.lt g e).1
          have hG8 : w4.grownBy w8 (some gB) := gr_grown (gr_alloc hb3 _) hgrB (fun g e => .inr (by have := hlt8 g e; have := HB4E.out; omega))
          have hR8 : BoolsFrom gB w8 (.slice (some ⟨gB, 0, none⟩) LP LP) (goneTo l p (k + 1)) := own_low (B := gB + 1) (World.ownsRow.alloc (show World.ownsRow _ _ _ _ _ _ _ from HR7.out) _) (fun g e => by simp [Value.ownBlock] at e; omega) hgrB (fun g e => by have := hlt8 g e; have := HWB.out; omega)
          go_wp2_with fail
          go_roundw
          case rel => exact ⟨k + 1, by omega, by go_num, hown8, hR8, hG8⟩
          case measure => simp [intOf]; omega
      · have hkl : ¬ (k : Int) < (LP : Int) := by omega
        have hkk : k = p.length := by rw [HLP.out]; omega
        have HFIN : Hid (PfxsFrom w.heap.size wr (.slice A2 LO c2) (tidyL l p)) := by
          show PfxsFrom _ _ _ (outTo l p p.length)
          rw [← hkk, ← hLO]
          exact ownsRow_low hown HW4.out
        (try rw [hLO])
        clear hown hA2 hkk hLO hbl
        go_wp2_with fail
        go_ret2
        exact hPOST.out _ _ HFIN.out hgw
  · have hPOST : Hid (∀ w', w.grownBy w' none → TidyPost l p w (.returned (.tuple #[.slice none 0 0, .int .i64 E])) w') := fun w' hg => ⟨_, [], by rw [HE.out], PfxsFrom.nil _ _, fun _ => rfl, fun h => absurd (HE.out.symm.trans h) hE0, hg⟩
    have hE1 : (E == 0) = false := by rw [beq_eq_false_iff_ne]; exact hE0
    clear HTO HCT HE hE0
    go_wp2_with fail
    go_ret2
    exact hPOST.out _ hg2
end Go.Proofs.YtbpkfkbbkgdlaaaGreatDoor

namespace Go.Proofs.YtbpkfkbbkgdlaaaGreatDoor
open Go.RowKit
set_option linter.unusedVariables false
set_option linter.unusedSimpArgs false

/-- Short strings of ASCII. -/
def fewA (n : Nat) (v : ByteArray) : Bool := decide (v.size ≤ n) && v.data.toList.all fun c => decide (c.toNat < 128)
theorem fewA_of {n : Nat} {v : ByteArray} (h : fewA n v = true) : v.size ≤ n ∧ Ascii v := by
  simp only [fewA, Bool.and_eq_true, decide_eq_true_eq, List.all_eq_true] at h
  exact ⟨h.1, Ascii.of_mem h.2⟩
theorem fewA_in {n : Nat} {l : List ByteArray} (h : l.all (fewA n) = true) {v : ByteArray} (hv : v ∈ l) : v.size ≤ n ∧ Ascii v := fewA_of (List.all_eq_true.1 h v hv)
def callBases : List ByteArray := [⟨#[107, 49, 97, 98]⟩, ⟨#[107, 52, 97, 98]⟩, ⟨#[111, 104, 50, 97, 98, 99]⟩, ⟨#[111, 104, 48, 120]⟩, ⟨#[51, 100, 97, 48, 120, 121]⟩, ⟨#[103, 51, 97]⟩, ⟨#[100, 108, 49, 122, 122]⟩, ⟨#[119, 49, 97, 119]⟩, ⟨#[107, 49, 98, 97]⟩]
def callTails : List ByteArray := [⟨#[47, 112]⟩, ⟨#[47, 109]⟩, ⟨#[47, 109, 109]⟩, ⟨#[47, 97, 109]⟩, ⟨#[47, 52]⟩, ⟨#[47, 48]⟩]
def callHeads : List ByteArray := [⟨#[111, 104, 48]⟩, ⟨#[103]⟩, ⟨#[51, 97]⟩, ⟨#[100, 108]⟩]
def callEnds : List ByteArray := [⟨#[111, 104, 48]⟩, ⟨#[103]⟩, ⟨#[119, 50, 98]⟩, ⟨#[107]⟩]
def CallOfPost (b k : Nat) (w : World) (e : Ending) (w' : World) : Prop :=
  ∃ u : ByteArray, e = .returned (.string u) ∧ u.size ≤ 30 ∧ Ascii u ∧ Str w' b (k + 8) ∧ w.grownBy w' (some b)
theorem slash_ascii : Ascii ⟨#[47]⟩ := (fewA_of (n := 1) (by decide)).2
set_option maxRecDepth 100000 in
set_option maxHeartbeats 4000000 in
/-- The end of CallOf, whatever was put together. -/
theorem callOf_in (b k : Nat) (w : World) (hs : Str w b k) (hk : k ≤ 10000000000) :
    Calls Tryz.prog 8 #[.pointer (some ⟨b, 0, none⟩)] w (CallOfPost b k w) := by
  go_enter Tryz.func8, Tryz.ntmps8
  go_wp2_with fail
  refine (some_at b k _ 9 9 callBases _ hs (by first | rfl | simp) (by omega) rfl (by decide) (by decide)).mono ?_
  rintro _ w1 ⟨v, hv, rfl, hs1, hg1⟩
  obtain ⟨hvs, hva⟩ := fewA_in (n := 6) (by decide) hv
  have HVA := Lib.hid hva
  clear hv hva
  go_wp2_with fail
  refine (next_in b _ _ _ hs1 (by omega) (by omega) (by omega)).mono ?_
  rintro _ w2 ⟨q, hq0, hq1, rfl, hs2, hg2⟩
  have hG2 := gr_trans hg1 hg2
  clear hg1 hg2 hs1
  by_cases q0 : q = 0
  · subst q0
    go_wp2_with fail
    refine (some_at b _ _ 6 6 callTails _ hs2 (by first | rfl | simp) (by omega) rfl (by decide) (by decide)).mono ?_
    rintro _ w3 ⟨u, hu, rfl, hs3, hg3⟩
    obtain ⟨hus, hua⟩ := fewA_in (n := 3) (by decide) hu
    have HUA := Lib.hid (HVA.out.app hua)
    have hG3 := gr_trans hG2 hg3
    have hsz : (v ++ u).size ≤ 9 := by simp; omega
    clear hu hua hg3 hs2
    go_wp2_with fail
    generalize v ++ u = t at *
    refine (flip_in b _ _ _ hs3 (by omega) (by omega) (by omega)).mono ?_
    rintro _ w4 ⟨fl, rfl, hs4, hg4⟩
    have hG4 := gr_trans hG3 hg4
    cases fl
    · go_wp2_with fail
      go_ret
      exact ⟨t, rfl, by omega, HUA.out, hs4.mono (by omega), hG4⟩
    · go_wp2_with fail
      refine (changed_in b _ t ⟨#[97, 48, 47, 107, 49, 45]⟩ _ hs4 (by omega) (by omega) (by decide) HUA.out (fewA_of (n := 6) (by decide)).2).mono ?_
      rintro _ w5 ⟨z, rfl, hz, hza, hs5, hg5⟩
      have hz2 : z.size ≤ 30 := by
        have : (⟨#[97, 48, 47, 107, 49, 45]⟩ : ByteArray).size = 6 := rfl
        omega
      have HZ := Lib.hid hza
      clear hza hz
      go_wp2_with fail
      go_ret
      exact ⟨z, rfl, hz2, HZ.out, hs5.mono (by omega), gr_trans hG4 hg5⟩
  by_cases q1 : q = 1
  · subst q1
    go_wp2_with fail
    refine (some_at b _ _ 4 4 callHeads _ hs2 (by first | rfl | simp) (by omega) rfl (by decide) (by decide)).mono ?_
    rintro _ w3 ⟨u, hu, rfl, hs3, hg3⟩
    obtain ⟨hus, hua⟩ := fewA_in (n := 3) (by decide) hu
    have HUA := Lib.hid ((hua.app slash_ascii).app HVA.out)
    have hG3 := gr_trans hG2 hg3
    have hsz : (u ++ ⟨#[47]⟩ ++ v).size ≤ 10 := by
      have h47 : (⟨#[47]⟩ : ByteArray).size = 1 := rfl
      simp; omega
    clear hu hua hg3 hs2
    go_wp2_with fail
    generalize u ++ ⟨#[47]⟩ ++ v = t at *
    refine (flip_in b _ _ _ hs3 (by omega) (by omega) (by omega)).mono ?_
    rintro _ w4 ⟨fl, rfl, hs4, hg4⟩
    have hG4 := gr_trans hG3 hg4
    cases fl
    · go_wp2_with fail
      go_ret
      exact ⟨t, rfl, by omega, HUA.out, hs4.mono (by omega), hG4⟩
    · go_wp2_with fail
      refine (changed_in b _ t ⟨#[97, 48, 47, 107, 49, 45]⟩ _ hs4 (by omega) (by omega) (by decide) HUA.out (fewA_of (n := 6) (by decide)).2).mono ?_
      rintro _ w5 ⟨z, rfl, hz, hza, hs5, hg5⟩
      have hz2 : z.size ≤ 30 := by
        have : (⟨#[97, 48, 47, 107, 49, 45]⟩ : ByteArray).size = 6 := rfl
        omega
      have HZ := Lib.hid hza
      clear hza hz
      go_wp2_with fail
      go_ret
      exact ⟨z, rfl, hz2, HZ.out, hs5.mono (by omega), gr_trans hG4 hg5⟩
  by_cases q2 : q = 2
  · subst q2
    go_wp2_with fail
    refine (some_at b _ _ 4 4 callEnds _ hs2 (by first | rfl | simp) (by omega) rfl (by decide) (by decide)).mono ?_
    rintro _ w3 ⟨u, hu, rfl, hs3, hg3⟩
    obtain ⟨hus, hua⟩ := fewA_in (n := 3) (by decide) hu
    have HUA := Lib.hid ((HVA.out.app slash_ascii).app hua)
    have hG3 := gr_trans hG2 hg3
    have hsz : (v ++ ⟨#[47]⟩ ++ u).size ≤ 10 := by
      have h47 : (⟨#[47]⟩ : ByteArray).size = 1 := rfl
      simp; omega
    clear hu hua hg3 hs2
    go_wp2_with fail
    generalize v ++ ⟨#[47]⟩ ++ u = t at *
    refine (flip_in b _ _ _ hs3 (by omega) (by omega) (by omega)).mono ?_
    rintro _ w4 ⟨fl, rfl, hs4, hg4⟩
    have hG4 := gr_trans hG3 hg4
    cases fl
    · go_wp2_with fail
      go_ret
      exact ⟨t, rfl, by omega, HUA.out, hs4.mono (by omega), hG4⟩
    · go_wp2_with fail
      refine (changed_in b _ t ⟨#[97, 48, 47, 107, 49, 45]⟩ _ hs4 (by omega) (by omega) (by decide) HUA.out (fewA_of (n := 6) (by decide)).2).mono ?_
      rintro _ w5 ⟨z, rfl, hz, hza, hs5, hg5⟩
      have hz2 : z.size ≤ 30 := by
        have : (⟨#[97, 48, 47, 107, 49, 45]⟩ : ByteArray).size = 6 := rfl
        omega
      have HZ := Lib.hid hza
      clear hza hz
      go_wp2_with fail
      go_ret
      exact ⟨z, rfl, hz2, HZ.out, hs5.mono (by omega), gr_trans hG4 hg5⟩
  · have hs3 := hs2
    have hG3 := hG2
    have HUA := HVA
    have hsz : v.size ≤ 10 := by omega
    clear hs2 hG2
    go_wp2_with fail
    generalize v = t at *
    refine (flip_in b _ _ _ hs3 (by omega) (by omega) (by omega)).mono ?_
    rintro _ w4 ⟨fl, rfl, hs4, hg4⟩
    have hG4 := gr_trans hG3 hg4
    cases fl
    · go_wp2_with fail
      go_ret
      exact ⟨t, rfl, by omega, HUA.out, hs4.mono (by omega), hG4⟩
    · go_wp2_with fail
      refine (changed_in b _ t ⟨#[97, 48, 47, 107, 49, 45]⟩ _ hs4 (by omega) (by omega) (by decide) HUA.out (fewA_of (n := 6) (by decide)).2).mono ?_
      rintro _ w5 ⟨z, rfl, hz, hza, hs5, hg5⟩
      have hz2 : z.size ≤ 30 := by
        have : (⟨#[97, 48, 47, 107, 49, 45]⟩ : ByteArray).size = 6 := rfl
        omega
      have HZ := Lib.hid hza
      clear hza hz
      go_wp2_with fail
      go_ret
      exact ⟨z, rfl, hz2, HZ.out, hs5.mono (by omega), gr_trans hG4 hg5⟩
def RightCallPost (b k : Nat) (w : World) (e : Ending) (w' : World) : Prop :=
  ∃ u : ByteArray, e = .returned (.string u) ∧ u.size ≤ 30 ∧ Ascii u ∧ (partsOf u).isSome = true ∧ Str w' b (k + 48) ∧ w.grownBy w' (some b)
theorem partsOf_k1ab : (partsOf ⟨#[107, 49, 97, 98]⟩).isSome = true := by decide +kernel
set_option maxRecDepth 100000 in
set_option maxHeartbeats 4000000 in
theorem rightCall_in (b k : Nat) (w : World) (hs : Str w b k) (hk : k ≤ 1000000000) :
    Calls Tryz.prog 31 #[.pointer (some ⟨b, 0, none⟩)] w (RightCallPost b k w) := by
  go_enter Tryz.func31, Tryz.ntmps31
  go_wp2_with fail
  go_loopw [4] (fun i wr => ∃ j : Nat, j ≤ 6 ∧ i = .int .i64 j ∧ Str wr b (k + 8 * j) ∧ w.grownBy wr (some b)) (fun i _ => 6 - (intOf i).toNat)
  case atStart => exact ⟨0, by omega, rfl, hs, gr_refl _ _⟩
  case round =>
    obtain ⟨j, hj, rfl, hsr, hgr⟩ := hrel
    by_cases hlt : j < 6
    · have hjl : (j : Int) < 6 := by omega
      go_wp2_with fail
      refine (callOf_in b _ _ hsr (by omega)).mono ?_
      rintro _ w1 ⟨u, rfl, hu, hua, hs1, hg1⟩
      have HUA := Lib.hid hua
      have hG1 := gr_trans hgr hg1
      clear hua hg1 hsr
      go_wp2_with fail
      refine (refIsCall_any u _ (by omega) HUA.out).mono ?_
      rintro _ w2 ⟨rfl, hg2⟩
      have hs2 := hs1.grown hg2 (by simp)
      have hG2 := gr_trans hG1 (gr_weak hg2 (some b))
      cases hP : (partsOf u).isSome with
      | true =>
        have HP := Lib.hid hP
        clear hP
        go_wp2_with fail
        go_ret
        exact ⟨u, rfl, hu, HUA.out, HP.out, hs2.mono (by omega), hG2⟩
      | false =>
        clear hP
        go_wp2_with fail
        go_roundw
        case rel => exact ⟨j + 1, by omega, by go_num, hs2.mono (by omega), hG2⟩
        case measure => simp [intOf]; omega
    · have hjl : ¬ (j : Int) < 6 := by omega
      go_wp2_with fail
      go_ret
      exact ⟨_, rfl, by decide, (fewA_of (n := 4) (by decide)).2, partsOf_k1ab, hsr.mono (by omega), hgr⟩
end Go.Proofs.YtbpkfkbbkgdlaaaGreatDoor
