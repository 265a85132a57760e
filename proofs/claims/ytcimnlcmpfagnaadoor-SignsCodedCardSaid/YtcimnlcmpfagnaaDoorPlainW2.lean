/- The walk over key.Plain: codes read, or the first error. Condition: a string of a size that fits in memory; asciiSpace is Go's own table. -/
import Derived.Test.YtcimnlcmpfagnaaDoorPlainW
namespace Go.Proofs.YtcimnlcmpfagnaaDoor
open Go.RowKit
set_option linter.unusedVariables false
set_option linter.unusedSimpArgs false

theorem wds_len (s : ByteArray) : (wdsOf s).length = (piecesOf slashS s).length := by unfold wdsOf; simp
theorem wds_at (s : ByteArray) (k : Nat) (h : k < (wdsOf s).length) (h2 : k < (piecesOf slashS s).length) : (wdsOf s)[k] = piecesOf blankS (piecesOf slashS s)[k] := List.getElem_map _
theorem pln_take (s : ByteArray) (k : Nat) (h : k < (wdsOf s).length) : (plnLL s).take (k + 1) = (plnLL s).take k ++ [strB (rdW (wdsOf s)[k])] := by
  have h2 : k < (plnLL s).length := by unfold plnLL; rw [List.length_map]; exact h
  rw [List.take_succ_eq_append_getElem h2]
  congr 2
  exact List.getElem_map _
def PlainPost (s : ByteArray) (w : World) (e : Ending) (w' : World) : Prop := e = .returned (.tuple #[.string (strB (plainK s)), .int .i64 (plainE s)]) ∧ w.grownBy w' none
theorem plainPost_bad {s : ByteArray} {w w' : World} {E : Int} (h : plainE s = E) (h0 : E ≠ 0) (hg : w.grownBy w' none) : PlainPost s w (.returned (.tuple #[.string ⟨#[]⟩, .int .i64 E])) w' := by
  have hk : plainK s = [] := by unfold plainK; rw [h, if_neg h0]
  exact ⟨by rw [h, hk]; rfl, hg⟩
set_option maxRecDepth 100000 in
set_option maxHeartbeats 4000000 in
theorem plain_any (b : Nat) (s : ByteArray) (w : World) (hgl : Gl b w) (hs : s.size < 4294967281) :
    Calls Tryd.prog 37 #[.string s] w (PlainPost s w) := by
  by_cases hl : 5000 < s.size
  · have hl2 : (5000 : Int) < (s.size : Int) := by omega
    have HE : Hid (plainE s = 2) := by show _ = _; unfold plainE; rw [if_pos hl]
    go_enter Tryd.func37, Tryd.ntmps37
    go_wp2_with fail
    go_ret2
    exact plainPost_bad HE.out (by decide) (gr_refl _ _)
  · have hl2 : ¬ (5000 : Int) < (s.size : Int) := by omega
    have HGL := Lib.hid hgl
    have HE3 : Hid (plainOK s = false → plainE s = 3) := fun h => by unfold plainE; rw [if_neg hl, h]; rfl
    have HE0 : Hid (plainOK s = true → plainE s = 0) := fun h => by unfold plainE; rw [if_neg hl, if_pos h]
    have hpl := plainT_len (s := s) (by omega)
    have HJ : Hid (∀ base v W (h : StrsFrom base W v (plnLL s)), (plnLL s).length ≤ 1000000000 → Calls Tryd.prog 73 #[v, .string ⟨#[32]⟩] W fun e w' => e = .returned (.string (strB (plainT s))) ∧ W.grownBy w' none) := fun base v W h hn => by
      rw [← join_plain]
      exact join_any base v (plnLL s) ⟨#[32]⟩ W h (by have e := congrArg ByteArray.size (join_plain s); unfold joinB at e; rw [strB_size, strB_size] at e; rw [e]; omega) hn
    have HSP := Lib.hid (fun W (h : Gl b W) => splitSep_any b s slashS W h hs (by decide))
    have HSB := Lib.hid (fun (p : ByteArray) (hp : p.size ≤ 5000) W (h : Gl b W) => splitSep_any b p blankS W h (by omega) (by decide))
    have hfew := pieces_few slashS s (by decide)
    have HSM := Lib.hid (pieces_small slashS s)
    have HWL := Lib.hid (wds_len s)
    obtain ⟨i0, hi, hz0, hz1, hz2⟩ := info_parts strInfo
    obtain ⟨N, hN⟩ : ∃ N, (piecesOf slashS s).length = N := ⟨_, rfl⟩
    have HN := Lib.hid hN
    rw [hN] at hfew
    clear hgl hl hpl hN
    go_enter Tryd.func37, Tryd.ntmps37
    go_wp2_with fail
    refine (byCodes_any b w HGL.out).mono ?_
    rintro _ w1 ⟨bm, rfl, hbm, hmap, hg1⟩
    go_wp2_with fail
    refine (HSP.out _ (HGL.out.quiet hg1)).mono ?_
    rintro _ w2 ⟨v, rfl, hv, hg2⟩
    obtain ⟨A, c, rfl, hvl, hA⟩ := hv.shape
    have hmap2 := hmap.quiet hg2
    have hG2 := gr_trans hg1 hg2
    have HV := Lib.hid hv
    have HA := Lib.hid hA
    have HM := Lib.hid hmap2
    rw [HN.out] at hvl HA HV ⊢
    clear hv hA hmap hmap2 hg1 hg2
    go_wp2_with fail
    go_loopw [5, 18] (fun o i wr => ∃ k : Nat, k ≤ N ∧ i = .int .i64 k ∧ StrsFrom w2.heap.size wr o ((plnLL s).take k) ∧ Hid (∀ j (hj : j < (wdsOf s).length), j < k → ((wdsOf s)[j].all fun c => codeOK c.data.toList) = true) ∧ w2.grownBy wr none) (fun _ i _ => N - (intOf i).toNat)
    case atStart => exact ⟨0, by omega, rfl, StrsFrom.nil _ _, fun j hj h => by omega, gr_refl _ _⟩
    case round =>
      obtain ⟨k, hk, rfl, hown, HOK, hgr⟩ := hrel
      rename World => wo
      by_cases hlt : k < N
      · have hkn : (k : Int) < (N : Int) := by omega
        have hkp : k < (piecesOf slashS s).length := by rw [HN.out]; exact hlt
        have hkw : k < (wdsOf s).length := by rw [HWL.out]; exact hkp
        obtain ⟨g, rfl, _, _⟩ := HA.out (by omega)
        have hat : wo.cell? ⟨g, k, none⟩ = some (.string (piecesOf slashS s)[k]) := by
          have h := StrsFrom.grown (show StrsFrom _ w2 (.slice (some ⟨g, 0, none⟩) (piecesOf slashS s).length c) (piecesOf slashS s) from by rw [HN.out]; exact HV.out) hgr
          exact h.at_ k hkp
        have hpz : ((piecesOf slashS s)[k]).size ≤ 5000 := by have := HSM.out _ (List.getElem_mem hkp); omega
        have HS := Lib.hid (HSB.out _ hpz wo (HGL.out.quiet (gr_trans hG2 hgr)))
        have hwa := wds_at s k hkw hkp
        have htk := Lib.hid (pln_take s k hkw)
        have hwf := pieces_few blankS (piecesOf slashS s)[k] (by decide)
        have HWZ := Lib.hid (pieces_small blankS (piecesOf slashS s)[k])
        have HNOT := Lib.hid (fun q hq h => HE3.out (plainOK_not hkw (q := q) hq h))
        have HYES : Hid (((wdsOf s)[k].all fun c => codeOK c.data.toList) = true → ∀ j (hj : j < (wdsOf s).length), j < k + 1 → ((wdsOf s)[j].all fun c => codeOK c.data.toList) = true) := fun h j hj hjk => by
          by_cases e : j = k
          · subst e; exact h
          · exact HOK.out j hj (by omega)
        rw [hwa] at htk HNOT HYES
        generalize (piecesOf slashS s)[k] = p at *
        obtain ⟨wd, hwd⟩ : ∃ wd, piecesOf blankS p = wd := ⟨_, rfl⟩
        rw [hwd] at hwf HWZ htk HS HNOT HYES
        have hlen : ((plnLL s).take k).length = k := by
          rw [List.length_take, plnLL_len, HN.out]; omega
        have hown1 : wo.ownsRow w2.heap.size 9 1 u5 k (((plnLL s).take k).map Value.string) := by
          have h := hown
          unfold StrsFrom at h
          rwa [hlen] at h
        obtain ⟨A2, c2, rfl, hk9, hA2⟩ := ownsRow_shape hown1
        have HO := Lib.hid hown1
        clear hown hown1 hA2 hwa hwd
        go_wp2_with fail
        refine HS.out.mono ?_
        rintro _ w3 ⟨v3, rfl, hv3, hg3⟩
        obtain ⟨B, d, rfl, hvl3, hB⟩ := hv3.shape
        have HV3 := Lib.hid hv3
        have HB := Lib.hid hB
        obtain ⟨M, hM⟩ : ∃ M, wd.length = M := ⟨_, rfl⟩
        have HMM := Lib.hid hM
        rw [hM] at hvl3 HB HV3 hwf ⊢
        have hG3 := gr_trans hgr hg3
        clear hv3 hB hM hat
        go_wp2_with fail
        go_loopw [8, 25] (fun t i wr => ∃ q : Nat, q ≤ M ∧ i = .int .i64 q ∧ t = .string (strB (rdW (wd.take q))) ∧ Hid (((wd.take q).all fun c => codeOK c.data.toList) = true) ∧ w3.grownBy wr none) (fun _ i _ => M - (intOf i).toNat)
        case atStart => exact ⟨0, by omega, rfl, rfl, rfl, gr_refl _ _⟩
        case round =>
          obtain ⟨q, hq, rfl, rfl, HQ, hgi⟩ := hrel
          by_cases hlq : q < M
          · have hqm : (q : Int) < (M : Int) := by omega
            have hqw : q < wd.length := by rw [HMM.out]; exact hlq
            obtain ⟨h, rfl, _, _⟩ := HB.out (by omega)
            have hat3 : wr.cell? ⟨h, q, none⟩ = some (.string wd[q]) := by
              have h1 := StrsFrom.grown (show StrsFrom _ w3 (.slice (some ⟨h, 0, none⟩) wd.length d) wd from by rw [HMM.out]; exact HV3.out) hgi
              exact h1.at_ q hqw
            have hcz : (wd[q]).size ≤ p.size := HWZ.out _ (List.getElem_mem hqw)
            have HN2 := Lib.hid (HNOT.out q hqw)
            have HS2 := Lib.hid (fun h => all_snoc hqw HQ.out h)
            have hrs := rdW_snoc wd q hqw
            have hrl := rdW_len (wd.take q)
            have htl : (wd.take q).length ≤ M := by rw [List.length_take]; omega
            have hco := codeOK_is wd[q]
            have HIE := Lib.hid (isElements_any wd[q] wr (by omega))
            have HSG := Lib.hid (fun W (h : MapC W bm 40 codeT) => signOf_s bm 40 wd[q] W h (by omega))
            have hsl := signOfL_len wd[q].data.toList
            generalize wd[q] = c1 at *
            rw [hco] at HN2 HS2
            cases hel : isElB c1.data.toList
            · rw [hel] at HIE HN2
              have HN3 := Lib.hid (HN2.out rfl)
              clear hel HN2 HS2 hrs hco
              go_wp2_with fail
              refine HIE.out.mono ?_
              rintro _ w4 ⟨rfl, hg4⟩
              go_wp2_with fail
              go_ret2
              exact plainPost_bad HN3.out (by decide) (gr_trans hG2 (gr_trans hG3 (gr_trans hgi hg4)))
            · rw [hel] at HIE HN2 HS2
              by_cases hten : 10 < c1.size
              · have HN3 := Lib.hid (HN2.out (by rw [Bool.true_and, decide_eq_false_iff_not]; omega))
                have hten2 : (10 : Int) < (c1.size : Int) := by omega
                clear hel HN2 HS2 hrs hco
                go_wp2_with fail
                refine HIE.out.mono ?_
                rintro _ w4 ⟨rfl, hg4⟩
                go_wp2_with fail
                go_ret2
                exact plainPost_bad HN3.out (by decide) (gr_trans hG2 (gr_trans hG3 (gr_trans hgi hg4)))
              · have HS3 := Lib.hid (HS2.out (by rw [Bool.true_and, decide_eq_true_eq]; omega))
                have hten2 : ¬ (10 : Int) < (c1.size : Int) := by omega
                have happ : strB (rdW (wd.take q)) ++ strB (signOfL c1.data.toList) = strB (rdW (wd.take (q + 1))) := by rw [strB_app, hrs]
                have hz1 : (strB (rdW (wd.take q))).size ≤ 10000 := by rw [strB_size, hrl]; omega
                have hz9 : (strB (signOfL c1.data.toList)).size = 1 := by rw [strB_size]; exact hsl
                have HAP := Lib.hid happ
                change Hid (∀ W (h : MapC W bm 40 codeT), Calls Tryd.prog 88 #[.map (some bm), .string c1] W fun e w' => e = .returned (.string (strB (signOfL c1.data.toList))) ∧ W = w') at HSG
                clear hel HN2 HS2 hrs hco happ hsl hrl
                generalize strB (rdW (wd.take q)) = t1 at *
                generalize strB (signOfL c1.data.toList) = t2 at *
                go_wp2_with fail
                refine HIE.out.mono ?_
                rintro _ w4 ⟨rfl, hg4⟩
                have hG4 := gr_trans hgi hg4
                go_wp2_with fail
                refine (HSG.out _ (HM.out.quiet (gr_trans hG3 hG4))).mono ?_
                rintro _ _ ⟨rfl, rfl⟩
                go_wp2_with fail
                go_roundw
                case rel => exact ⟨q + 1, by omega, by go_num, by rw [HAP.out], HS3, hG4⟩
                case measure => simp [intOf]; omega
          · have hqm : ¬ (q : Int) < (M : Int) := by omega
            have hfull : wd.take q = wd := List.take_of_length_le (by rw [HMM.out]; omega)
            rw [hfull] at HQ ⊢
            have HY := Lib.hid (HYES.out HQ.out)
            obtain ⟨T, hT⟩ : ∃ T, strB (rdW wd) = T := ⟨_, rfl⟩
            rw [hT] at htk ⊢
            have hG4 := gr_trans hG3 hgi
            have hownA : wr.ownsRow w2.heap.size 9 1 (.slice A2 k c2) k (((plnLL s).take k).map Value.string) := ownsRow_grown HO.out (gr_trans hg3 hgi)
            have hsz4 := hG4.size
            have hrow : ∀ g, (Value.slice A2 k c2).ownBlock = some g → w2.heap.size ≤ g := fun g e => (hownA.lt g e).1
            have HROW := Lib.hid hrow
            clear hrow hG3 hgi hfull hT HQ HYES
            go_wp2_with (at_builtin; refine wpList_append_own _ rfl _ _ 102 rfl w2.heap.size 9 i0 _ 1 16 Tryd.underlying102 hi hz0 hz1 hz2 rfl (by decide) _ _ _ rfl (hownA.alloc _) ⟨wr.heap.size, 0, none⟩ 1 1 [.string T] rfl rfl (cells_new _ _ _) (str_one _) (by unfold maxLen; omega) (by omega) (by simp; omega) ?_; intro v' w5 hownB hgrB _)
            have hG5 : w2.grownBy w5 none := gr_grown (gr_alloc hG4 _) hgrB (fun g e => .inr (HROW.out g e))
            have hown5 : StrsFrom w2.heap.size w5 v' ((plnLL s).take (k + 1)) := by
              unfold StrsFrom
              rw [htk.out, List.map_append, List.length_append, hlen]
              exact hownB
            clear hownA hgrB hownB
            go_wp2_with fail
            go_roundw
            case rel => exact ⟨k + 1, by omega, by go_num, hown5, HY, hG5⟩
            case measure => simp [intOf]; omega
      · have hkn : ¬ (k : Int) < (N : Int) := by omega
        have hpn : (plnLL s).length = N := by rw [plnLL_len]; exact HN.out
        have hfull : (plnLL s).take k = plnLL s := List.take_of_length_le (by rw [hpn]; omega)
        rw [hfull] at hown
        have HJ2 := Lib.hid (HJ.out _ _ _ hown (by rw [hpn]; omega))
        have hE0 := HE0.out (plainOK_yes fun j hj => HOK.out j hj (by rw [HWL.out, HN.out] at hj; omega))
        have hPK : plainK s = plainT s := by unfold plainK; rw [if_pos hE0]
        have HPP : Hid (∀ W, w.grownBy W none → PlainPost s w (.returned (.tuple #[.string (strB (plainT s)), .int .i64 0])) W) := fun W h => ⟨by rw [hE0, hPK], h⟩
        have hG := gr_trans hG2 hgr
        clear hown hgr hG2 hfull hE0 hPK
        generalize strB (plainT s) = T at *
        go_wp2_with fail
        refine HJ2.out.mono ?_
        rintro _ w3 ⟨rfl, hg3⟩
        go_wp2_with fail
        go_ret2
        exact HPP.out _ (gr_trans hG hg3)
end Go.Proofs.YtcimnlcmpfagnaaDoor
