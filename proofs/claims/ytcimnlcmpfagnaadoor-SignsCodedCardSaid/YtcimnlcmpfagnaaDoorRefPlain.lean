/- The walk over the document's PlainOf: codes read, or the first error. Condition: a string of a size that fits in memory; asciiSpace is Go's own table, MaxLen holds a number. -/
import Derived.Test.YtcimnlcmpfagnaaDoorPlainW2
import Derived.Test.YtcimnlcmpfagnaaDoorWithRef
import Derived.Deep.DeepCutAuto
namespace Go.Proofs.YtcimnlcmpfagnaaDoor
open Go.RowKit
set_option linter.unusedVariables false
set_option linter.unusedSimpArgs false

/-- What the first so many words read as, and the same with a blank behind it if there are some. -/
def plnTo (s : ByteArray) (k : Nat) : List UInt8 := isp [32] (((wdsOf s).take k).map rdW)
def plnTo' (s : ByteArray) (k : Nat) : List UInt8 := ispP [32] (((wdsOf s).take k).map rdW)
theorem plnTo_succ (s : ByteArray) (k : Nat) (h : k < (wdsOf s).length) : plnTo s (k + 1) = plnTo' s k ++ rdW (wdsOf s)[k] := by
  unfold plnTo plnTo'
  rw [List.take_succ_eq_append_getElem h, List.map_append, List.map_cons, List.map_nil, isp_snoc]
theorem plnTo_zero (s : ByteArray) : plnTo s 0 = [] ∧ plnTo' s 0 = [] := ⟨rfl, rfl⟩
theorem plnTo_pos (s : ByteArray) (k : Nat) (h : k < (wdsOf s).length) (hk : 0 < k) : plnTo' s k = plnTo s k ++ [32] := by
  unfold plnTo plnTo'
  rw [ispP_some]
  rw [List.length_map, List.length_take]
  omega
theorem plnTo_full (s : ByteArray) : plnTo s (wdsOf s).length = plainT s := by
  unfold plnTo plainT
  rw [List.take_length]
theorem plnTo_len {s : ByteArray} (h : s.size ≤ 5000) (k : Nat) : (plnTo s k).length ≤ 100000000 := by
  unfold plnTo
  have h1 := isp_len_le [32] 5001 (((wdsOf s).take k).map rdW) (fun p hp => by
    obtain ⟨w, hw, rfl⟩ := List.mem_map.1 hp
    rw [rdW_len]
    have hw2 := List.mem_of_mem_take hw
    unfold wdsOf at hw2
    obtain ⟨x, hx, rfl⟩ := List.mem_map.1 hw2
    have a := pieces_few blankS x (by decide)
    have c := pieces_small slashS s x hx
    omega)
  have h2 : (((wdsOf s).take k).map rdW).length ≤ 5001 := by
    rw [List.length_map, List.length_take]
    unfold wdsOf
    rw [List.length_map]
    have := pieces_few slashS s (by decide)
    omega
  have h3 : (((wdsOf s).take k).map rdW).length * (5001 + [(32 : UInt8)].length) ≤ 5001 * (5001 + 1) := Nat.mul_le_mul h2 (by simp)
  omega
theorem codeOK_three (c : ByteArray) : codeOK c.data.toList = (!outB (c.size : Int) 1 10 && decide (Lib.trimS c.data.toList [46, 45] = [])) := by
  have h : c.data.toList.length = c.size := by simp
  rw [Bool.eq_iff_iff]
  unfold codeOK outB
  simp only [Bool.and_eq_true, decide_eq_true_eq, Bool.not_eq_true', h, trim_el, Bool.or_eq_false_iff, decide_eq_false_iff_not]
  constructor
  · rintro ⟨⟨a, b⟩, d⟩; exact ⟨⟨by omega, by omega⟩, d⟩
  · rintro ⟨⟨a, b⟩, d⟩; exact ⟨⟨by omega, by omega⟩, d⟩
set_option maxRecDepth 100000 in
set_option maxHeartbeats 8000000 in
theorem refPlain_any (b : Nat) (s : ByteArray) (w : World) (hgl : Gl b w) (hs : s.size < 4294967281) :
    Calls Tryd.prog 38 #[.string s] w (PlainPost s w) := by
  by_cases hl : 5000 < s.size
  · have hl2 : (5000 : Int) < (s.size : Int) := by omega
    have HE : Hid (plainE s = 2) := by show _ = _; unfold plainE; rw [if_pos hl]
    go_enter Tryd.func38, Tryd.ntmps38
    go_wp2_with fail
    go_ret2
    exact plainPost_bad HE.out (by decide) (gr_refl _ _)
  · have hl2 : ¬ (5000 : Int) < (s.size : Int) := by omega
    have HGL := Lib.hid hgl
    have HE3 : Hid (plainOK s = false → plainE s = 3) := fun h => by unfold plainE; rw [if_neg hl, h]; rfl
    have HE0 : Hid (plainOK s = true → plainE s = 0) := fun h => by unfold plainE; rw [if_neg hl, if_pos h]
    have HPB := Lib.hid (fun k => plnTo_len (s := s) (by omega) k)
    have HSP := Lib.hid (fun W (h : Gl b W) => splitSep_any b s slashS W h hs (by decide))
    have HSB := Lib.hid (fun (p : ByteArray) (hp : p.size ≤ 5000) W (h : Gl b W) => splitSep_any b p blankS W h (by omega) (by decide))
    have hfew := pieces_few slashS s (by decide)
    have HSM := Lib.hid (pieces_small slashS s)
    have HWL := Lib.hid (wds_len s)
    have HFU := Lib.hid (plnTo_full s)
    obtain ⟨N, hN⟩ : ∃ N, (piecesOf slashS s).length = N := ⟨_, rfl⟩
    have HN := Lib.hid hN
    rw [hN] at hfew
    clear hgl hl hN
    go_enter Tryd.func38, Tryd.ntmps38
    go_wp2_with fail
    refine (HSP.out _ HGL.out).mono ?_
    rintro _ w2 ⟨v, rfl, hv, hG2⟩
    obtain ⟨A, c, rfl, hvl, hA⟩ := hv.shape
    have HV := Lib.hid hv
    have HA := Lib.hid hA
    rw [HN.out] at hvl HA HV ⊢
    clear hv hA
    go_wp2_with fail
    go_loopw [4, 15] (fun o i wr => ∃ k : Nat, k ≤ N ∧ i = .int .i64 k ∧ o = .string (strB (plnTo s k)) ∧ Hid (∀ j (hj : j < (wdsOf s).length), j < k → ((wdsOf s)[j].all fun c => codeOK c.data.toList) = true) ∧ w2.grownBy wr none) (fun _ i _ => N - (intOf i).toNat)
    case atStart => exact ⟨0, by omega, rfl, rfl, fun j hj h => by omega, gr_refl _ _⟩
    case round =>
      obtain ⟨k, hk, rfl, rfl, HOK, hgr⟩ := hrel
      rename World => wo
      by_cases hlt : k < N
      · have hkn : (k : Int) < (N : Int) := by omega
        have hkp : k < (piecesOf slashS s).length := by rw [HN.out]; exact hlt
        have hkw : k < (wdsOf s).length := by rw [HWL.out]; exact hkp
        obtain ⟨g, rfl, _, _⟩ := HA.out (by omega)
        have hat : wo.cell? ⟨g, k, none⟩ = some (.string (piecesOf slashS s)[k]) := by
          have h := StrsFrom.grown (show StrsFrom _ w2 (.slice (some ⟨g, 0, none⟩) (piecesOf slashS s).length c) (piecesOf slashS s) from by rw [HN.out]; exact HV.out) hgr
          exact h.at_ k hkp
        have hpz : ((piecesOf slashS s)[k]).size ≤ 5000 := by have := HSM.out _ (List.getElem_mem hkp); omega
        have HS := Lib.hid (HSB.out _ hpz wo (HGL.out.quiet (gr_trans hG2 hgr)))
        have hwa := wds_at s k hkw hkp
        have hsu := plnTo_succ s k hkw
        have hwf := pieces_few blankS (piecesOf slashS s)[k] (by decide)
        have HWZ := Lib.hid (pieces_small blankS (piecesOf slashS s)[k])
        have HNOT := Lib.hid (fun q hq h => HE3.out (plainOK_not hkw (q := q) hq h))
        have HYES : Hid (((wdsOf s)[k].all fun c => codeOK c.data.toList) = true → ∀ j (hj : j < (wdsOf s).length), j < k + 1 → ((wdsOf s)[j].all fun c => codeOK c.data.toList) = true) := fun h j hj hjk => by
          by_cases e : j = k
          · subst e; exact h
          · exact HOK.out j hj (by omega)
        rw [hwa] at HNOT HYES hsu
        have hbd := HPB.out k
        have hz0 := plnTo_zero s
        have hzp := fun h => plnTo_pos s k hkw h
        generalize (piecesOf slashS s)[k] = p at *
        obtain ⟨wd, hwd⟩ : ∃ wd, piecesOf blankS p = wd := ⟨_, rfl⟩
        rw [hwd] at hwf HWZ HS HNOT HYES hsu
        obtain ⟨O, hO⟩ : ∃ O, plnTo' s k = O := ⟨_, rfl⟩
        rw [hO] at hsu hzp
        have hOl : O.length ≤ 100000001 := by
          rcases Nat.eq_zero_or_pos k with h0 | h0
          · subst h0; rw [← hO, hz0.2]; simp
          · rw [hzp h0]; simp; omega
        have HSU := Lib.hid hsu
        have hOz : k = 0 → strB (plnTo s k) = strB O := fun h0 => by subst h0; rw [← hO, hz0.1, hz0.2]
        have hOp : 0 < k → strB (plnTo s k) ++ ⟨#[32]⟩ = strB O := fun h0 => by rw [hzp h0, ← strB_app]; rfl
        have hz1 : (strB (plnTo s k)).size ≤ 100000000 := by rw [strB_size]; exact hbd
        have HOZ := Lib.hid hOz
        have HOP := Lib.hid hOp
        clear hwa hwd hO hsu hzp hz0 hbd hOz hOp
        generalize strB (plnTo s k) = t0 at *
        go_upto_if 21 with fail
        go_cut [4] (fun s4 wq => s4 = .string (strB O) ∧ wo = wq)
        case first =>
          as_aux_lemma =>
            rcases Nat.eq_zero_or_pos k with h0 | h0
            · have HT := Lib.hid (HOZ.out h0)
              have hk0 : ¬ (0 : Int) < (k : Int) := by omega
              clear h0
              go_wp2_with fail
              go_meet
              exact ⟨by rw [HT.out], rfl⟩
            · have HT := Lib.hid (HOP.out h0)
              have hk0 : (0 : Int) < (k : Int) := by omega
              clear h0
              go_wp2_with fail
              go_meet
              exact ⟨by rw [← HT.out], rfl⟩
        case rest =>
          obtain ⟨rfl, rfl⟩ := hcut
          go_wp2_with fail
          refine HS.out.mono ?_
          rintro _ w3 ⟨v3, rfl, hv3, hg3⟩
          obtain ⟨B, d, rfl, hvl3, hB⟩ := hv3.shape
          have HV3 := Lib.hid hv3
          have HB := Lib.hid hB
          obtain ⟨M, hM⟩ : ∃ M, wd.length = M := ⟨_, rfl⟩
          have HMM := Lib.hid hM
          rw [hM] at hvl3 HB HV3 hwf ⊢
          have hG3 := gr_trans hgr hg3
          clear hv3 hB hM hat
          go_wp2_with fail
          go_loopw [4, 27] (fun t i wr => ∃ q : Nat, q ≤ M ∧ i = .int .i64 q ∧ t = .string (strB (O ++ rdW (wd.take q))) ∧ Hid (((wd.take q).all fun c => codeOK c.data.toList) = true) ∧ w3.grownBy wr none) (fun _ i _ => M - (intOf i).toNat)
          case atStart => exact ⟨0, by omega, rfl, by rw [show rdW (wd.take 0) = [] from rfl, List.append_nil], rfl, gr_refl _ _⟩
          case round =>
            obtain ⟨q, hq, rfl, rfl, HQ, hgi⟩ := hrel
            by_cases hlq : q < M
            · have hqm : (q : Int) < (M : Int) := by omega
              have hqw : q < wd.length := by rw [HMM.out]; exact hlq
              obtain ⟨h, rfl, _, _⟩ := HB.out (by omega)
              have hat3 : wr.cell? ⟨h, q, none⟩ = some (.string wd[q]) := by
                have h1 := StrsFrom.grown (show StrsFrom _ w3 (.slice (some ⟨h, 0, none⟩) wd.length d) wd from by rw [HMM.out]; exact HV3.out) hgi
                exact h1.at_ q hqw
              have hcz : (wd[q]).size ≤ p.size := HWZ.out _ (List.getElem_mem hqw)
              have HN2 := Lib.hid (HNOT.out q hqw)
              have HS2 := Lib.hid (fun h => all_snoc hqw HQ.out h)
              have hrs := rdW_snoc wd q hqw
              have hrl := rdW_len (wd.take q)
              have htl : (wd.take q).length ≤ M := by rw [List.length_take]; omega
              have hco := codeOK_three wd[q]
              have hGl := HGL.out.quiet (gr_trans hG2 (gr_trans hG3 hgi))
              have HSG := Lib.hid (fun W (h : Gl b W) => refSign_any b wd[q].data.toList W h)
              have hsl := signOfL_len wd[q].data.toList
              generalize wd[q] = c1 at *
              rw [strB_of] at HSG
              have HGW := Lib.hid hGl
              have HT : Hid (∀ W, Calls Tryd.prog 76 #[.string c1, .string ⟨#[46, 45]⟩] W fun e w' => e = .returned (.string ⟨(Lib.trimS c1.data.toList [46, 45]).toArray⟩) ∧ W.grownBy w' none) := fun W => trim_any c1 ⟨#[46, 45]⟩ W (by omega) (by decide) (by decide +kernel)
              rw [hco] at HN2 HS2
              have HIN := Lib.hid (fun W => in_any (c1.size : Int) 1 10 W)
              clear hGl hco
              cases hel : outB (c1.size : Int) 1 10
              · rw [hel] at HIN HN2 HS2
                generalize Lib.trimS c1.data.toList [46, 45] = TT at *
                cases TT with
                | nil =>
                  have HS3 := Lib.hid (HS2.out rfl)
                  have happ : strB (O ++ rdW (wd.take q)) ++ strB (signOfL c1.data.toList) = strB (O ++ rdW (wd.take (q + 1))) := by rw [strB_app, hrs, List.append_assoc]
                  have hz1 : (strB (O ++ rdW (wd.take q))).size ≤ 100010001 := by rw [strB_size, List.length_append, hrl]; omega
                  have hz9 : (strB (signOfL c1.data.toList)).size = 1 := by rw [strB_size]; exact hsl
                  have HAP := Lib.hid happ
                  clear hel HN2 HS2 hrs happ hsl hrl
                  generalize strB (O ++ rdW (wd.take q)) = t1 at *
                  generalize strB (signOfL c1.data.toList) = t2 at *
                  go_wp2_with fail
                  refine (HIN.out _).mono ?_
                  rintro _ _ ⟨rfl, rfl⟩
                  go_wp2_with fail
                  refine (HT.out _).mono ?_
                  rintro _ w4 ⟨rfl, hg4⟩
                  have hG4 := gr_trans hgi hg4
                  go_wp2_with fail
                  refine (HSG.out _ (HGW.out.quiet hg4)).mono ?_
                  rintro _ w5 ⟨rfl, hg5⟩
                  go_wp2_with fail
                  go_roundw
                  case rel => exact ⟨q + 1, by omega, by go_num, by rw [HAP.out], HS3, gr_trans hG4 hg5⟩
                  case measure => simp [intOf]; omega
                | cons a r =>
                  have HN3 := Lib.hid (HN2.out rfl)
                  obtain ⟨T, hT⟩ : ∃ T : ByteArray, (⟨(a :: r).toArray⟩ : ByteArray) = T := ⟨_, rfl⟩
                  have hne : T.toList.isEmpty = false := by rw [← hT, Lib.toList_data]; rfl
                  rw [hT] at HT
                  clear hel HN2 HS2 hrs hsl hrl hT
                  generalize strB (O ++ rdW (wd.take q)) = t1 at *
                  go_wp2_with fail
                  refine (HIN.out _).mono ?_
                  rintro _ _ ⟨rfl, rfl⟩
                  go_wp2_with fail
                  refine (HT.out _).mono ?_
                  rintro _ w4 ⟨rfl, hg4⟩
                  go_wp2_with fail
                  go_ret2
                  exact plainPost_bad HN3.out (by decide) (gr_trans hG2 (gr_trans hG3 (gr_trans hgi hg4)))
              · rw [hel] at HIN HN2
                have HN3 := Lib.hid (HN2.out rfl)
                clear hel HN2 HS2 hrs hsl hrl
                generalize strB (O ++ rdW (wd.take q)) = t1 at *
                go_wp2_with fail
                refine (HIN.out _).mono ?_
                rintro _ _ ⟨rfl, rfl⟩
                go_wp2_with fail
                go_ret2
                exact plainPost_bad HN3.out (by decide) (gr_trans hG2 (gr_trans hG3 hgi))
            · have hqm : ¬ (q : Int) < (M : Int) := by omega
              have hfull : wd.take q = wd := List.take_of_length_le (by rw [HMM.out]; omega)
              have hQ := HQ.out
              rw [hfull] at hQ ⊢
              rw [← HSU.out]
              have HY := Lib.hid (HYES.out hQ)
              clear hQ HQ
              have hG4 := gr_trans hG3 hgi
              clear hG3 hgi hfull
              go_wp2_with fail
              go_roundw
              case rel => exact ⟨k + 1, by omega, by go_num, rfl, HY, hG4⟩
              case measure => simp [intOf]; omega
      · have hkn : ¬ (k : Int) < (N : Int) := by omega
        have hkN : k = (wdsOf s).length := by rw [HWL.out, HN.out]; omega
        have hE0 := HE0.out (plainOK_yes fun j hj => HOK.out j hj (by omega))
        have hPK : plainK s = plainT s := by unfold plainK; rw [if_pos hE0]
        have HPP : Hid (∀ W, w.grownBy W none → PlainPost s w (.returned (.tuple #[.string (strB (plnTo s k)), .int .i64 0])) W) := fun W h => ⟨by rw [hE0, hPK, hkN, HFU.out], h⟩
        have hG := gr_trans hG2 hgr
        clear hgr hG2 hE0 hPK hkN
        generalize strB (plnTo s k) = T at *
        go_wp2_with fail
        go_ret2
        exact HPP.out _ hG
end Go.Proofs.YtcimnlcmpfagnaaDoor
