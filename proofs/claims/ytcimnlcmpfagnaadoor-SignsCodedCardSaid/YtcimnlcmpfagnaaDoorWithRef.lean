/- The walks over the document's signOf and WithUnit: the text and the deviation with a unit. Condition: right marks and a right unit. -/
import Derived.Test.YtcimnlcmpfagnaaDoorNearRef
import Derived.Test.YtcimnlcmpfagnaaDoorWithPlain
import Derived.Test.YtcimnlcmpfagnaaDoorBld
import Derived.Test.YtcimnlcmpfagnaaDoorJoin
import Derived.Test.YtcimnlcmpfagnaaDoorKeysRef
namespace Go.Proofs.YtcimnlcmpfagnaaDoor
open Go.RowKit
set_option linter.unusedVariables false
set_option linter.unusedSimpArgs false

theorem sign_codes : codeT.all (fun p => decide (signOfL p.2 = [p.1])) = true := by decide +kernel
theorem sign_none {l : List UInt8} (h : ∀ p ∈ codeT, p.2 ≠ l) : signOfL l = [42] := by
  unfold signOfL
  rw [List.find?_eq_none.2 (fun p hp => by simpa using h p hp)]
set_option maxRecDepth 100000 in
set_option maxHeartbeats 2000000 in
theorem refSign_any (b : Nat) (l : List UInt8) (w : World) (hgl : Gl b w) :
    Calls Tryd.prog 69 #[.string (strB l)] w fun e w' => e = .returned (.string (strB (signOfL l))) ∧ w.grownBy w' none := by
  have HGL := Lib.hid hgl
  clear hgl
  have HSN : Hid ((∀ p ∈ codeT, p.2 ≠ l) → strB (signOfL l) = ⟨#[42]⟩) := fun h => by rw [sign_none h]; rfl
  have HSY : Hid (∀ k (h : k < codeT.length), (⟨codeT[k].2.toArray⟩ : ByteArray) = strB l → strB (signOfL l) = ⟨#[codeT[k].1]⟩) := fun k h e => by
    have e2 : codeT[k].2 = l := by
      have := congrArg (fun s : ByteArray => s.data.toList) e
      simpa [strB] using this
    have := List.all_eq_true.1 sign_codes codeT[k] (List.getElem_mem h)
    rw [decide_eq_true_eq, e2] at this
    rw [this]; rfl
  have HNE : Hid (∀ k (h : k < codeT.length), (⟨codeT[k].2.toArray⟩ : ByteArray) ≠ strB l → codeT[k].2 ≠ l) := fun k h e e2 => e (by rw [e2]; rfl)
  generalize strB l = L at *
  go_enter Tryd.func69, Tryd.ntmps69
  go_wp2_with fail
  refine (refCodes_any b _ HGL.out).mono ?_
  rintro _ w1 ⟨v, rfl, hv, hg1⟩
  obtain ⟨A, c, rfl, hvl, hvA⟩ := hv.shape
  obtain ⟨g, rfl, hg0, hgl⟩ := hvA (by rw [codeT_len]; decide)
  have HV := Lib.hid hv
  rw [codeT_len] at hvl ⊢
  clear hv hvA
  go_wp2_with fail
  go_loopw [7] (fun i wr => ∃ k : Nat, k ≤ 40 ∧ i = .int .i64 k ∧ (∀ j (h : j < codeT.length), j < k → codeT[j].2 ≠ l) ∧ w1.grownBy wr none) (fun i _ => 40 - (intOf i).toNat)
  case atStart => exact ⟨0, by omega, rfl, fun j h h2 => by omega, gr_refl _ _⟩
  case round =>
    obtain ⟨k, hk, rfl, hno, hgr⟩ := hrel
    have HNO := Lib.hid hno
    clear hno
    by_cases hlt : k < 40
    · have hkl : k < codeT.length := by rw [codeT_len]; exact hlt
      obtain ⟨q1, q2⟩ := (HV.out.grown hgr).at1 k hkl
      have HSY1 := Lib.hid (HSY.out k hkl)
      have HNE1 := Lib.hid (HNE.out k hkl)
      obtain ⟨x, hx⟩ : ∃ x : ByteArray, x = ⟨#[codeT[k].1]⟩ := ⟨_, rfl⟩
      obtain ⟨y, hy⟩ : ∃ y : ByteArray, y = ⟨codeT[k].2.toArray⟩ := ⟨_, rfl⟩
      rw [← hx] at q1 HSY1
      rw [← hy] at q2 HSY1 HNE1
      have hlt2 : (k : Int) < 40 := by omega
      have hB := Blk.new wr 56 #[.string x, .string y]
      have hGA := gr_alloc hgr (.cells #[.string x, .string y] 56)
      have b0 := hB.cell 0
      have b1 := hB.cell 1
      simp only [List.getElem?_toArray, List.getElem?_cons_zero, List.getElem?_cons_succ] at b0 b1
      clear hx hy hB
      by_cases he : y = L
      · have hbe : (y.toList == L.toList) = true := by rw [he]; simp
        have HS2 := Lib.hid (HSY1.out he)
        clear he
        go_wp2_with fail
        go_ret
        exact ⟨by rw [HS2.out]; rfl, gr_trans hg1 hGA⟩
      · have hbe : (y.toList == L.toList) = false := by rw [beq_eq_false_iff_ne]; exact fun e => he (toList_inj e)
        have HN2 := Lib.hid (HNE1.out he)
        clear he
        go_wp2_with fail
        go_roundw
        case rel => exact ⟨k + 1, by omega, by go_num, fun j h h2 => by
          by_cases hj : j = k
          · subst hj; exact HN2.out
          · exact HNO.out j h (by omega), hGA⟩
        case measure => simp [intOf]; omega
    · have hlt2 : ¬ (k : Int) < 40 := by omega
      obtain rfl : k = 40 := by omega
      go_wp2_with fail
      go_ret
      refine ⟨?_, gr_trans hg1 hgr⟩
      rw [HSN.out (fun p hp => by
        obtain ⟨j, hj, rfl⟩ := List.getElem_of_mem hp
        exact HNO.out j hj (by rw [codeT_len] at hj; exact hj))]
      rfl

theorem refTo_len (l : List Int) (u : Int) (k : Nat) : (refTo l u k).length ≤ 3 * k := by
  induction k with
  | zero => exact Nat.le_refl _
  | succ k ih =>
    unfold refTo
    rw [List.length_append]
    (repeat' split) <;> simp <;> omega
theorem refTo_ne (l : List Int) (u : Int) (k : Nat) (h : 0 < k) : refTo l u k ≠ [] := by
  induction k with
  | zero => omega
  | succ k ih =>
    unfold refTo
    intro e
    have h2 := List.append_eq_nil_iff.1 e
    rcases Nat.eq_zero_or_pos k with h0 | h0
    · subst h0
      have := h2.2
      simp [markB] at this
      split at this <;> simp at this
    · exact ih h0 h2.1
theorem isp_more {α : Type} (g : List α) : ∀ (b a : List (List α)), (isp g a).length ≤ (isp g (a ++ b)).length
  | [], a => by simp
  | x :: b, a => by
    have h := isp_more g b (a ++ [x])
    rw [isp_snoc, List.length_append, List.append_assoc] at h
    have h2 : (isp g a).length ≤ (ispP g a).length := by
      unfold ispP
      split
      · rename_i e; rw [e]; simp [isp]
      · simp
    simp only [List.singleton_append] at h
    omega
theorem isp_take {α : Type} (g : List α) (l : List (List α)) (j : Nat) : (isp g (l.take j)).length ≤ (isp g l).length := by
  have h := isp_more g (l.drop j) (l.take j)
  rwa [List.take_append_drop] at h
def rdWd (wd : List (List UInt8)) : List UInt8 := wd.flatMap signOfL
theorem rdWd_take (wd : List (List UInt8)) (i : Nat) (h : i < wd.length) : rdWd (wd.take (i + 1)) = rdWd (wd.take i) ++ signOfL wd[i] := by
  unfold rdWd; rw [List.take_succ_eq_append_getElem h, List.flatMap_append]; simp
theorem rdWd_len (wd : List (List UInt8)) : (rdWd wd).length = wd.length := by
  induction wd with
  | nil => rfl
  | cons c r ih => simp only [rdWd, List.flatMap_cons, List.length_append, List.length_cons, signOfL_len] at ih ⊢; omega

set_option maxRecDepth 100000 in
set_option maxHeartbeats 8000000 in
theorem withUnit_any (base b : Nat) (v : Value) (l : List Int) (u : Int) (w : World) (hl : IntsFrom base w v l) (ho : l.length % 2 = 1) (hn : l.length ≤ 20000) (hb : ∀ x ∈ l, 0 ≤ x ∧ x ≤ 1000000) (u0 : 0 ≤ u) (u1 : u ≤ 100000) (hgl : Gl b w) :
    Calls Tryd.prog 17 #[v, .int .i64 u] w fun e w' => e = .returned (.tuple #[.string (strB (readL l u)), .int .i64 (offL l u)]) ∧ w.grownBy w' none := by
  have HLV := Lib.hid hl
  obtain ⟨A, c, rfl, hlen, hA⟩ := hl.shape
  have HBD := Lib.hid hb
  have HGL := Lib.hid hgl
  have HRL := Lib.hid (fun k => refTo_len l u k)
  have HOB := Lib.hid (fun k => offTo_bd hb u0 u1 k)
  have HNR := Lib.hid (fun W i hi h => refNear_any base (.slice A l.length c) l i u W h hi (by omega) (hb l[i] (List.getElem_mem hi)).1 (hb l[i] (List.getElem_mem hi)).2 u0 u1)
  have hf0 := Bld.fresh w (w.heap.size + 1)
  have hg0 := World.grownBy_alloc w (.cells #[.pointer none, .slice none 0 0] 96) none
  clear hl hb hgl hA
  go_enter Tryd.func17, Tryd.ntmps17
  go_wp2_with fail
  generalize w.alloc (.cells #[.pointer none, .slice none 0 0] 96) = W0 at *
  go_loopw [7, 18] (fun s i wr => ∃ (k : Nat) (vb : Value), k ≤ l.length ∧ i = .int .i64 k ∧ s = .int .i64 (offTo l u k) ∧ Bld wr (w.heap.size + 1) w.heap.size vb (refTo l u k) ∧ w.grownBy wr none) (fun _ i _ => l.length - (intOf i).toNat)
  case atStart => exact ⟨0, _, by omega, rfl, rfl, hf0, hg0⟩
  case round =>
    obtain ⟨k, vb, hk, rfl, rfl, hbl, hgr⟩ := hrel
    have hrl := HRL.out k
    have hsr := hbl.lt
    by_cases hlt : k < l.length
    · have hkl : (k : Int) < (l.length : Int) := by omega
      have hx := HBD.out l[k] (List.getElem_mem hlt)
      have hs := HOB.out k
      have HN : Hid (offTo l u (k + 1) = offTo l u k + nearO (markB k) l[k] u) := by
        show offTo l u k + nearO (markB k) (l.getD k 0) u = _
        rw [List.getD_eq_getElem?_getD, List.getElem?_eq_getElem hlt]; rfl
      have HT : Hid (refTo l u (k + 1) = refTo l u k ++ (if markB k then (if nearU true l[k] u = 1 then [46] else [45]) else if nearU false l[k] u = 3 then [32] else if nearU false l[k] u = 7 then [32, 47, 32] else [])) := by
        show refTo l u (k + 1) = _
        rw [refTo, List.getD_eq_getElem?_getD, List.getElem?_eq_getElem hlt]; rfl
      have hbd := nearO_bd (x := l[k]) (u := u) (markB k) hx.1 hx.2 u0 u1
      have HNE := Lib.hid (HNR.out wr k hlt (HLV.out.grown hgr))
      have hnc := nearU_cases (markB k) l[k] u
      have hmk2 : markB k = decide ((k : Int) % 2 = 0) := by unfold markB; rw [decide_eq_decide]; omega
      have HPUT := Lib.hid (fun (s : ByteArray) (hs : s.size ≤ 1000000) W (h : Bld W (w.heap.size + 1) w.heap.size vb (refTo l u k)) => bld_writeString (w.heap.size + 1) w.heap.size vb (refTo l u k) s W h (by omega) hs (by have := h.lt; omega))
      have hrow := row_lo hbl
      have HROW := Lib.hid hrow
      generalize nearO (markB k) l[k] u = D at *
      generalize l[k] = x at *
      generalize refTo l u k = R at *
      generalize offTo l u k = S at *
      cases hmk : markB k
      · rw [hmk] at HNE HT hnc hmk2
        have hr2 : (k : Int) % 2 = 1 := by have := hmk2.symm; rw [decide_eq_false_iff_not] at this; omega
        clear hmk2
        rcases hnc with h | h | ⟨h, _⟩
        · rw [h] at HNE HT
          clear h
          have HT2 : Hid (refTo l u (k + 1) = R ++ []) := by show _ = _; rw [HT.out]; rfl
          clear HT
          go_wp2_with fail
          refine HNE.out.mono ?_
          rintro _ w2 ⟨rfl, hg2⟩
          have hbl2 := hbl.quiet hg2
          have hgr2 := gr_trans hgr hg2
          clear hbl hgr hg2 hrow
          go_wp2_with fail
          go_roundw
          case rel => exact ⟨k + 1, vb, by omega, by go_num, by rw [HN.out], by rw [HT2.out, List.append_nil]; exact hbl2, hgr2⟩
          case measure => simp [intOf]; omega
        · rw [h] at HNE HT
          clear h
          have HT2 : Hid (refTo l u (k + 1) = R ++ [32]) := by show _ = _; rw [HT.out]; rfl
          clear HT
          go_wp2_with fail
          refine HNE.out.mono ?_
          rintro _ w2 ⟨rfl, hg2⟩
          have hbl2 := hbl.quiet hg2
          have hgr2 := gr_trans hgr hg2
          clear hbl hgr hg2 hrow
          go_wp2_with fail
          refine (HPUT.out ⟨#[32]⟩ (by decide) _ hbl2).mono ?_
          rintro _ w3 ⟨rfl, ⟨vb3, hb3⟩, hG⟩
          have hgr3 := hG.out hgr2 (Nat.le_refl _) (fun g e => by have := (HROW.out g e).1; omega)
          clear hgr2 hG hbl2
          go_wp2_with fail
          go_roundw
          case rel => exact ⟨k + 1, vb3, by omega, by go_num, by rw [HN.out], by rw [HT2.out]; exact hb3, hgr3⟩
          case measure => simp [intOf]; omega
        · rw [h] at HNE HT
          clear h
          have HT2 : Hid (refTo l u (k + 1) = R ++ [32, 47, 32]) := by show _ = _; rw [HT.out]; rfl
          clear HT
          go_wp2_with fail
          refine HNE.out.mono ?_
          rintro _ w2 ⟨rfl, hg2⟩
          have hbl2 := hbl.quiet hg2
          have hgr2 := gr_trans hgr hg2
          clear hbl hgr hg2 hrow
          go_wp2_with fail
          refine (HPUT.out ⟨#[32, 47, 32]⟩ (by decide) _ hbl2).mono ?_
          rintro _ w3 ⟨rfl, ⟨vb3, hb3⟩, hG⟩
          have hgr3 := hG.out hgr2 (Nat.le_refl _) (fun g e => by have := (HROW.out g e).1; omega)
          clear hgr2 hG hbl2
          go_wp2_with fail
          go_roundw
          case rel => exact ⟨k + 1, vb3, by omega, by go_num, by rw [HN.out], by rw [HT2.out]; exact hb3, hgr3⟩
          case measure => simp [intOf]; omega
      · rw [hmk] at HNE HT hnc hmk2
        have hr2 : (k : Int) % 2 = 0 := by have := hmk2.symm; rw [decide_eq_true_eq] at this; exact this
        clear hmk2
        rcases hnc with h | h | ⟨_, h⟩
        · rw [h] at HNE HT
          clear h
          have HT2 : Hid (refTo l u (k + 1) = R ++ [46]) := by show _ = _; rw [HT.out]; rfl
          clear HT
          go_wp2_with fail
          refine HNE.out.mono ?_
          rintro _ w2 ⟨rfl, hg2⟩
          have hbl2 := hbl.quiet hg2
          have hgr2 := gr_trans hgr hg2
          clear hbl hgr hg2 hrow
          go_wp2_with fail
          refine (HPUT.out ⟨#[46]⟩ (by decide) _ hbl2).mono ?_
          rintro _ w3 ⟨rfl, ⟨vb3, hb3⟩, hG⟩
          have hgr3 := hG.out hgr2 (Nat.le_refl _) (fun g e => by have := (HROW.out g e).1; omega)
          clear hgr2 hG hbl2
          go_wp2_with fail
          go_roundw
          case rel => exact ⟨k + 1, vb3, by omega, by go_num, by rw [HN.out], by rw [HT2.out]; exact hb3, hgr3⟩
          case measure => simp [intOf]; omega
        · rw [h] at HNE HT
          clear h
          have HT2 : Hid (refTo l u (k + 1) = R ++ [45]) := by show _ = _; rw [HT.out]; rfl
          clear HT
          go_wp2_with fail
          refine HNE.out.mono ?_
          rintro _ w2 ⟨rfl, hg2⟩
          have hbl2 := hbl.quiet hg2
          have hgr2 := gr_trans hgr hg2
          clear hbl hgr hg2 hrow
          go_wp2_with fail
          refine (HPUT.out ⟨#[45]⟩ (by decide) _ hbl2).mono ?_
          rintro _ w3 ⟨rfl, ⟨vb3, hb3⟩, hG⟩
          have hgr3 := hG.out hgr2 (Nat.le_refl _) (fun g e => by have := (HROW.out g e).1; omega)
          clear hgr2 hG hbl2
          go_wp2_with fail
          go_roundw
          case rel => exact ⟨k + 1, vb3, by omega, by go_num, by rw [HN.out], by rw [HT2.out]; exact hb3, hgr3⟩
          case measure => simp [intOf]; omega
        · cases h
    · have hkl : ¬ (k : Int) < (l.length : Int) := by omega
      obtain rfl : k = l.length := by omega
      have hT0 := refTo_ne l u l.length (by omega)
      have HPW := Lib.hid (pieces_words l u)
      have hrow := row_lo hbl
      have hsz : (strB (refTo l u l.length)).size < 4294967281 := by rw [strB_size]; omega
      have HSP := Lib.hid (fun W hg => splitSep_any b (strB (refTo l u l.length)) ⟨#[32, 47, 32]⟩ W hg hsz (by decide))
      have HST := Lib.hid (bld_string (w.heap.size + 1) w.heap.size vb (refTo l u l.length) wr hbl hT0 (by omega))
      have HRW := Lib.hid (read_words l u)
      have HPS := Lib.hid (pieces_codes l u)
      have HOF : Hid (offL l u = offTo l u l.length) := rfl
      have hwl : (wdsL l u).length ≤ 100000 := by
        have h1 := pieces_few ⟨#[32, 47, 32]⟩ (strB (refTo l u l.length)) (by decide)
        rw [HPW.out, List.length_map, strB_size] at h1
        omega
      have hwd : ∀ wd ∈ wdsL l u, (strB (isp [32] wd)).size ≤ 100000 := by
        intro wd hw
        have h1 := splitB_small ⟨#[32, 47, 32]⟩ _ (strB (refTo l u l.length)) (strB (isp [32] wd)) (by
          have : strB (isp [32] wd) ∈ piecesOf ⟨#[32, 47, 32]⟩ (strB (refTo l u l.length)) := by rw [HPW.out]; exact List.mem_map.2 ⟨wd, hw, rfl⟩
          exact this)
        rw [strB_size (refTo l u l.length)] at h1
        omega
      have HWD := Lib.hid hwd
      have hlen : ∀ j, (isp [32] (((wdsL l u).take j).map rdWd)).length ≤ 40001 := fun j => by
        have h1 := isp_take [32] ((wdsL l u).map rdWd) j
        have h2 := readL_len l u
        rw [read_words] at h2
        rw [← List.map_take] at h1
        have h3 : (isp [32] ((wdsL l u).map rdWd)).length ≤ 2 * l.length + 1 := h2
        omega
      have HLEN := Lib.hid hlen
      generalize offTo l u l.length = S at *
      generalize wdsL l u = WDS at *
      clear hT0 hsz hwd hkl hlen
      go_wp2_with fail
      refine HST.out.mono ?_
      rintro _ w2 ⟨rfl, hg2⟩
      have hgr2 : w.grownBy w2 none := gr_grown hgr hg2 (fun g e => .inr (by have := (hrow g e).1; omega))
      clear hg2 hgr hbl hrow
      go_wp2_with fail
      refine (HSP.out _ (HGL.out.quiet hgr2)).mono ?_
      rintro _ w3 ⟨v3, rfl, hv3, hg3⟩
      rw [HPW.out] at hv3
      have hgr3 := gr_trans hgr2 hg3
      obtain ⟨A3, c3, rfl, hl3, hA3⟩ := hv3.shape
      rw [List.length_map] at hl3 hA3 ⊢
      have HV3 := Lib.hid (show StrsFrom w2.heap.size w3 (.slice A3 WDS.length c3) (WDS.map fun wd => strB (isp [32] wd)) by rw [← List.length_map (f := fun wd => strB (isp [32] wd))]; exact hv3)
      have HA3 := Lib.hid hA3
      clear hv3 hA3 hg3 hgr2
      go_wp2_with fail
      go_loopw [11, 57] (fun o i wr => ∃ j : Nat, j ≤ WDS.length ∧ i = .int .i64 j ∧ o = .string (strB (isp [32] ((WDS.take j).map rdWd))) ∧ w3.grownBy wr none) (fun _ i _ => WDS.length - (intOf i).toNat)
      case atStart => exact ⟨0, by omega, rfl, rfl, gr_refl _ _⟩
      case round =>
        obtain ⟨j, hj, rfl, rfl, hgr4⟩ := hrel
        rename World => wo
        by_cases hjl : j < WDS.length
        · have hji : (j : Int) < (WDS.length : Int) := by omega
          obtain ⟨g3, rfl, _, _⟩ := HA3.out (by omega)
          have cj : wo.cell? ⟨g3, j, none⟩ = some (.string (strB (isp [32] WDS[j]))) := by
            have h := (HV3.out.grown hgr4)
            have h2 := StrsFrom.at_ (l := WDS.map fun wd => strB (isp [32] wd)) (by rw [List.length_map]; exact h) j (by rw [List.length_map]; exact hjl)
            rw [List.getElem_map] at h2
            exact h2
          have hws := HWD.out WDS[j] (List.getElem_mem hjl)
          have HPC := Lib.hid (HPS.out WDS[j] (List.getElem_mem hjl))
          obtain ⟨P, hP⟩ : ∃ P, ispP [32] ((WDS.take j).map rdWd) = P := ⟨_, rfl⟩
          have HEND : Hid (strB (P ++ rdWd WDS[j]) = strB (isp [32] ((WDS.take (j + 1)).map rdWd))) := by
            show _ = _
            rw [← hP, List.take_succ_eq_append_getElem hjl, List.map_append, List.map_singleton, isp_snoc]
          have hz0 : (strB (isp [32] ((WDS.take j).map rdWd))).size ≤ 40001 := by rw [strB_size]; exact HLEN.out j
          have hz1 : (⟨#[32]⟩ : ByteArray).size = 1 := rfl
          have hzq : P.length + (rdWd WDS[j]).length ≤ 40001 := by
            have h := HLEN.out (j + 1)
            rw [List.take_succ_eq_append_getElem hjl, List.map_append, List.map_singleton, isp_snoc, hP, List.length_append] at h
            exact h
          have HS0 : Hid (j = 0 → strB (isp [32] ((WDS.take j).map rdWd)) = strB P) := fun e => by subst e; rw [← hP]; rfl
          have HS1 : Hid (0 < j → strB (isp [32] ((WDS.take j).map rdWd)) ++ ⟨#[32]⟩ = strB P) := fun e => by
            rw [← hP, ispP_some _ _ (by rw [List.length_map, List.length_take]; omega), ← strB_app]; rfl
          generalize WDS[j] = wd at *
          generalize strB (isp [32] ((WDS.take j).map rdWd)) = S0 at *
          clear hP
          rcases Nat.eq_zero_or_pos j with hj0 | hj0
          · have hj1 : ¬ (0 < (j : Int)) := by omega
            have HS2 := Lib.hid (HS0.out hj0)
            rw [HS2.out]
            clear hj0 HS0 HS1
            go_wp2_with fail
            refine (splitSep_any b (strB (isp [32] wd)) ⟨#[32]⟩ _ (HGL.out.quiet (gr_trans hgr3 hgr4)) (by omega) (by decide)).mono ?_
            rintro _ w5 ⟨v5, rfl, hv5, hg5⟩
            rw [HPC.out] at hv5
            have hgr5 := gr_trans hgr4 hg5
            obtain ⟨A5, c5, rfl, hl5, hA5⟩ := hv5.shape
            rw [List.length_map] at hl5 hA5 ⊢
            have HV5 := Lib.hid (show StrsFrom wo.heap.size w5 (.slice A5 wd.length c5) (wd.map strB) by rw [← List.length_map (f := strB)]; exact hv5)
            have HA5 := Lib.hid hA5
            clear hv5 hA5 hg5 hgr4
            go_wp2_with fail
            go_loopw [11, 69] (fun o i wi => ∃ q : Nat, q ≤ wd.length ∧ i = .int .i64 q ∧ o = .string (strB (P ++ rdWd (wd.take q))) ∧ w5.grownBy wi none) (fun _ i _ => wd.length - (intOf i).toNat)
            case atStart => exact ⟨0, by omega, rfl, by simp [rdWd], gr_refl _ _⟩
            case round =>
              obtain ⟨q, hq, rfl, rfl, hgi⟩ := hrel
              by_cases hql : q < wd.length
              · have hqi : (q : Int) < (wd.length : Int) := by omega
                obtain ⟨g5, rfl, _, _⟩ := HA5.out (by omega)
                have HNX : Hid (strB (P ++ rdWd (wd.take q)) ++ strB (signOfL wd[q]) = strB (P ++ rdWd (wd.take (q + 1)))) := by
                  show _ = _
                  rw [strB_app, rdWd_take wd q hql, List.append_assoc]
                have cq : wr.cell? ⟨g5, q, none⟩ = some (.string (strB wd[q])) := by
                  have h := (HV5.out.grown hgi)
                  have h2 := StrsFrom.at_ (l := wd.map strB) (by rw [List.length_map]; exact h) q (by rw [List.length_map]; exact hql)
                  rw [List.getElem_map] at h2
                  exact h2
                have HSG := Lib.hid (refSign_any b wd[q] wr (HGL.out.quiet (gr_trans (gr_trans hgr3 hgr5) hgi)))
                have hzr : (strB (P ++ rdWd (wd.take q))).size ≤ 40001 := by
                  rw [strB_size, List.length_append]
                  have h1 := rdWd_len (wd.take q)
                  have h2 := rdWd_len wd
                  rw [List.length_take] at h1
                  omega
                have hzs : (strB (signOfL wd[q])).size = 1 := by rw [strB_size]; exact signOfL_len _
                generalize strB wd[q] = X at *
                generalize strB (signOfL wd[q]) = Y at *
                generalize strB (P ++ rdWd (wd.take q)) = Z at *
                go_wp2_with fail
                refine HSG.out.mono ?_
                rintro _ w6 ⟨rfl, hg6⟩
                go_wp2_with fail
                go_roundw
                case rel => exact ⟨q + 1, by omega, by go_num, by rw [HNX.out], gr_trans hgi hg6⟩
                case measure => simp [intOf]; omega
              · have hqi : ¬ (q : Int) < (wd.length : Int) := by omega
                obtain rfl : q = wd.length := by omega
                rw [List.take_length]
                go_wp2_with fail
                go_roundw
                case rel => exact ⟨j + 1, by omega, by go_num, by rw [HEND.out], gr_trans hgr5 hgi⟩
                case measure => simp [intOf]; omega
          · have hj1 : 0 < (j : Int) := by omega
            have HS2 := Lib.hid (HS1.out hj0)
            clear hj0 HS0 HS1
            go_wp2_with fail
            rw [HS2.out]
            refine (splitSep_any b (strB (isp [32] wd)) ⟨#[32]⟩ _ (HGL.out.quiet (gr_trans hgr3 hgr4)) (by omega) (by decide)).mono ?_
            rintro _ w5 ⟨v5, rfl, hv5, hg5⟩
            rw [HPC.out] at hv5
            have hgr5 := gr_trans hgr4 hg5
            obtain ⟨A5, c5, rfl, hl5, hA5⟩ := hv5.shape
            rw [List.length_map] at hl5 hA5 ⊢
            have HV5 := Lib.hid (show StrsFrom wo.heap.size w5 (.slice A5 wd.length c5) (wd.map strB) by rw [← List.length_map (f := strB)]; exact hv5)
            have HA5 := Lib.hid hA5
            clear hv5 hA5 hg5 hgr4
            go_wp2_with fail
            go_loopw [11, 69] (fun o i wi => ∃ q : Nat, q ≤ wd.length ∧ i = .int .i64 q ∧ o = .string (strB (P ++ rdWd (wd.take q))) ∧ w5.grownBy wi none) (fun _ i _ => wd.length - (intOf i).toNat)
            case atStart => exact ⟨0, by omega, rfl, by simp [rdWd], gr_refl _ _⟩
            case round =>
              obtain ⟨q, hq, rfl, rfl, hgi⟩ := hrel
              by_cases hql : q < wd.length
              · have hqi : (q : Int) < (wd.length : Int) := by omega
                obtain ⟨g5, rfl, _, _⟩ := HA5.out (by omega)
                have HNX : Hid (strB (P ++ rdWd (wd.take q)) ++ strB (signOfL wd[q]) = strB (P ++ rdWd (wd.take (q + 1)))) := by
                  show _ = _
                  rw [strB_app, rdWd_take wd q hql, List.append_assoc]
                have cq : wr.cell? ⟨g5, q, none⟩ = some (.string (strB wd[q])) := by
                  have h := (HV5.out.grown hgi)
                  have h2 := StrsFrom.at_ (l := wd.map strB) (by rw [List.length_map]; exact h) q (by rw [List.length_map]; exact hql)
                  rw [List.getElem_map] at h2
                  exact h2
                have HSG := Lib.hid (refSign_any b wd[q] wr (HGL.out.quiet (gr_trans (gr_trans hgr3 hgr5) hgi)))
                have hzr : (strB (P ++ rdWd (wd.take q))).size ≤ 40001 := by
                  rw [strB_size, List.length_append]
                  have h1 := rdWd_len (wd.take q)
                  have h2 := rdWd_len wd
                  rw [List.length_take] at h1
                  omega
                have hzs : (strB (signOfL wd[q])).size = 1 := by rw [strB_size]; exact signOfL_len _
                generalize strB wd[q] = X at *
                generalize strB (signOfL wd[q]) = Y at *
                generalize strB (P ++ rdWd (wd.take q)) = Z at *
                go_wp2_with fail
                refine HSG.out.mono ?_
                rintro _ w6 ⟨rfl, hg6⟩
                go_wp2_with fail
                go_roundw
                case rel => exact ⟨q + 1, by omega, by go_num, by rw [HNX.out], gr_trans hgi hg6⟩
                case measure => simp [intOf]; omega
              · have hqi : ¬ (q : Int) < (wd.length : Int) := by omega
                obtain rfl : q = wd.length := by omega
                rw [List.take_length]
                go_wp2_with fail
                go_roundw
                case rel => exact ⟨j + 1, by omega, by go_num, by rw [HEND.out], gr_trans hgr5 hgi⟩
                case measure => simp [intOf]; omega
        · have hji : ¬ (j : Int) < (WDS.length : Int) := by omega
          obtain rfl : j = WDS.length := by omega
          rw [List.take_length]
          have HFIN : Hid (strB (isp [32] (WDS.map rdWd)) = strB (readL l u)) := by show _ = _; rw [HRW.out]; rfl
          generalize strB (isp [32] (WDS.map rdWd)) = Z at *
          go_wp2_with fail
          go_ret2
          exact ⟨by rw [← HFIN.out, HOF.out]; rfl, gr_trans hgr3 hgr4⟩
end Go.Proofs.YtcimnlcmpfagnaaDoor
