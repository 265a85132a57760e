/- The walk over the document's CodedOf: what is said, as codes. Condition: what can be said; asciiSpace is Go's own table, MaxLen holds a number. -/
import Derived.Test.YtcimnlcmpfagnaaDoorCodeW
namespace Go.Proofs.YtcimnlcmpfagnaaDoor
open Go.RowKit
set_option linter.unusedVariables false
set_option linter.unusedSimpArgs false

theorem codesW_take (p : ByteArray) (q : Nat) (h : q < p.size) : (codesW p).take (q + 1) = (codesW p).take q ++ [codeS p[q]] := by
  have h2 : q < (codesW p).length := by rw [codesW_len]; exact h
  have h3 : (codesW p)[q]'h2 = codeS p[q] := List.getElem_map codeS
  rw [List.take_succ_eq_append_getElem h2, h3]
set_option maxRecDepth 100000 in
set_option maxHeartbeats 4000000 in
theorem refCoded_any (b : Nat) (s : ByteArray) (w : World) (hgl : Gl b w) (h0 : saidE s = 0) :
    Calls Tryd.prog 35 #[.string s] w fun e w' => e = .returned (.string (strB (codedL s.data.toList))) ∧ w.grownBy w' none := by
  have HGL := Lib.hid hgl
  obtain ⟨hsz, _, hall⟩ := saidE_zero h0
  have hcl := codedL_len s.data.toList
  have hsl : s.data.toList.length = s.size := by simp
  have hwn := wordsOf_few s
  have HWS := Lib.hid (wordsOf_small s)
  have HCO := Lib.hid (fun p (hp : p ∈ wordsOf s) => List.all_eq_true.1 hall p hp)
  have HSP := Lib.hid (fun W (h : Gl b W) => split_blank b s W h (by omega))
  have HJ := Lib.hid (fun base v W (h : StrsFrom base W v (codeLL s)) => join_any base v (codeLL s) ⟨#[32, 47, 32]⟩ W h (by have h9 : (codedL s.data.toList).length ≤ 1000000000 := (by omega); have e := congrArg ByteArray.size (join_words s); unfold joinB at e; rw [strB_size, strB_size] at e; rw [e]; exact h9) (by rw [codeLL_len]; omega))
  rw [join_words] at HJ
  obtain ⟨i0, hi, hz0, hz1, hz2⟩ := info_parts strInfo
  obtain ⟨N, hN⟩ : ∃ N, (wordsOf s).length = N := ⟨_, rfl⟩
  have HN := Lib.hid hN
  rw [hN] at hwn
  clear h0 hgl hcl hsl hall hN
  go_enter Tryd.func35, Tryd.ntmps35
  go_wp2_with fail
  refine (HSP.out _ HGL.out).mono ?_
  rintro _ w2 ⟨v, rfl, hv, hG2⟩
  obtain ⟨A, c, rfl, hvl, hA⟩ := hv.shape
  have HV := Lib.hid hv
  have HA := Lib.hid hA
  rw [HN.out] at hvl HV HA ⊢
  clear hv hA
  go_wp2_with fail
  go_loopw [3, 11] (fun o i wr => ∃ k : Nat, k ≤ N ∧ i = .int .i64 k ∧ StrsFrom w2.heap.size wr o ((codeLL s).take k) ∧ w2.grownBy wr none) (fun _ i _ => N - (intOf i).toNat)
  case atStart => exact ⟨0, by omega, rfl, StrsFrom.nil _ _, gr_refl _ _⟩
  case round =>
    obtain ⟨k, hk, rfl, hown, hgr⟩ := hrel
    rename World => wo
    by_cases hlt : k < N
    · have hkn : (k : Int) < (N : Int) := by omega
      have hkw : k < (wordsOf s).length := by rw [HN.out]; exact hlt
      obtain ⟨g, rfl, _, _⟩ := HA.out (by omega)
      have hat : wo.cell? ⟨g, k, none⟩ = some (.string (wordsOf s)[k]) := by
        have h := StrsFrom.grown (show StrsFrom _ w2 (.slice (some ⟨g, 0, none⟩) (wordsOf s).length c) (wordsOf s) from by rw [HN.out]; exact HV.out) hgr
        exact h.at_ k hkw
      have htk := Lib.hid (codeLL_take s k hkw)
      have hpz : ((wordsOf s)[k]).size ≤ s.size := HWS.out _ (List.getElem_mem hkw)
      have hpc := HCO.out _ (List.getElem_mem hkw)
      have hjl := codesJ_len ((wordsOf s)[k]).data.toList
      have hpl : ((wordsOf s)[k]).data.toList.length = ((wordsOf s)[k]).size := by simp
      have hlen : ((codeLL s).take k).length = k := by rw [List.length_take, codeLL_len, HN.out]; omega
      have hown1 : wo.ownsRow w2.heap.size 9 1 u3 k (((codeLL s).take k).map Value.string) := by
        have h := hown
        unfold StrsFrom at h
        rwa [hlen] at h
      obtain ⟨A2, c2, rfl, hk9, hA2⟩ := ownsRow_shape hown1
      have HO := Lib.hid hown1
      clear hown hown1 hA2
      generalize (wordsOf s)[k] = p at *
      have hjw := join_word p
      have HJW := Lib.hid (fun base v W (h : StrsFrom base W v (codesW p)) => join_any base v (codesW p) ⟨#[32]⟩ W h (by have e := congrArg ByteArray.size hjw; unfold joinB at e; rw [strB_size, strB_size] at e; rw [e]; omega) (by rw [codesW_len]; omega))
      rw [hjw] at HJW
      obtain ⟨T, hT⟩ : ∃ T, strB (codesJ p.data.toList) = T := ⟨_, rfl⟩
      rw [hT] at htk HJW
      have HPC : Hid (∀ q (hq : q < p.size), codeOf p[q] ≠ []) := fun q hq => by
        unfold coded at hpc
        rw [List.all_eq_true] at hpc
        have := hpc p[q] (by
          have : p[q] = p.data.toList[q]'(by rw [hpl]; exact hq) := rfl
          rw [this]; exact List.getElem_mem _)
        intro e
        rw [e] at this
        simp at this
      clear hjw hT hjl hpl hpc
      go_wp2_with fail
      go_loopw [6, 17] (fun o i wr => ∃ q : Nat, q ≤ p.size ∧ i = .int .i64 q ∧ StrsFrom wo.heap.size wr o ((codesW p).take q) ∧ wo.grownBy wr none) (fun _ i _ => p.size - (intOf i).toNat)
      case atStart => exact ⟨0, by omega, rfl, StrsFrom.nil _ _, gr_refl _ _⟩
      case round =>
        obtain ⟨q, hq, rfl, hown, hgi⟩ := hrel
        by_cases hlq : q < p.size
        · have hqm : (q : Int) < (p.size : Int) := by omega
          have htq := Lib.hid (codesW_take p q hlq)
          have hcc := HPC.out q hlq
          have hlen2 : ((codesW p).take q).length = q := by rw [List.length_take, codesW_len]; omega
          have hown1 : wr.ownsRow wo.heap.size 9 1 u6 q (((codesW p).take q).map Value.string) := by
            have h := hown
            unfold StrsFrom at h
            rwa [hlen2] at h
          obtain ⟨A3, c3, rfl, hq9, hA3⟩ := ownsRow_shape hown1
          have HO2 := Lib.hid hown1
          have HRC := Lib.hid (refCode_any b p[q] wr (HGL.out.quiet (gr_trans hG2 (gr_trans hgr hgi))) hcc)
          have hsg := hgi.size
          clear hown hown1 hA3 hcc
          go_wp2_with fail
          refine HRC.out.mono ?_
          rintro _ w3 ⟨rfl, hg3⟩
          have hownA : w3.ownsRow wo.heap.size 9 1 (.slice A3 q c3) q (((codesW p).take q).map Value.string) := ownsRow_grown HO2.out hg3
          have hG3 := gr_trans hgi hg3
          have hsz3 := hG3.size
          have hrow : ∀ g, (Value.slice A3 q c3).ownBlock = some g → wo.heap.size ≤ g := fun g e => (hownA.lt g e).1
          have HROW := Lib.hid hrow
          clear hrow hg3 HRC
          generalize codeS p[q] = cs at *
          go_wp2_with (at_builtin; refine wpList_append_own _ rfl _ _ 102 rfl wo.heap.size 9 i0 _ 1 16 Tryd.underlying102 hi hz0 hz1 hz2 rfl (by decide) _ _ _ rfl (hownA.alloc _) ⟨w3.heap.size, 0, none⟩ 1 1 [.string cs] rfl rfl (cells_new _ _ _) (str_one _) (by unfold maxLen; omega) (by omega) (by simp; omega) ?_; intro v' w5 hownB hgrB _)
          have hG5 : wo.grownBy w5 none := gr_grown (gr_alloc hG3 _) hgrB (fun g e => .inr (HROW.out g e))
          have hown5 : StrsFrom wo.heap.size w5 v' ((codesW p).take (q + 1)) := by
            unfold StrsFrom
            rw [htq.out, List.map_append, List.length_append, hlen2]
            exact hownB
          clear hownA hgrB hownB
          go_wp2_with fail
          go_roundw
          case rel => exact ⟨q + 1, by omega, by go_num, hown5, hG5⟩
          case measure => simp [intOf]; omega
        · have hqm : ¬ (q : Int) < (p.size : Int) := by omega
          have hfull : (codesW p).take q = codesW p := List.take_of_length_le (by rw [codesW_len]; omega)
          rw [hfull] at hown
          have HJ1 := Lib.hid (HJW.out _ _ _ hown)
          have hG4 := gr_trans hgr hgi
          clear hown hfull
          go_wp2_with fail
          refine HJ1.out.mono ?_
          rintro _ w3 ⟨rfl, hg3⟩
          have hownA : w3.ownsRow w2.heap.size 9 1 (.slice A2 k c2) k (((codeLL s).take k).map Value.string) := ownsRow_grown HO.out (gr_trans hgi hg3)
          have hG3 := gr_trans hG4 hg3
          have hsz3 := hG3.size
          have hrow : ∀ g, (Value.slice A2 k c2).ownBlock = some g → w2.heap.size ≤ g := fun g e => (hownA.lt g e).1
          have HROW := Lib.hid hrow
          clear hrow hg3 HJ1
          go_wp2_with (at_builtin; refine wpList_append_own _ rfl _ _ 102 rfl w2.heap.size 9 i0 _ 1 16 Tryd.underlying102 hi hz0 hz1 hz2 rfl (by decide) _ _ _ rfl (hownA.alloc _) ⟨w3.heap.size, 0, none⟩ 1 1 [.string T] rfl rfl (cells_new _ _ _) (str_one _) (by unfold maxLen; omega) (by omega) (by simp; omega) ?_; intro v' w5 hownB hgrB _)
          have hG5 : w2.grownBy w5 none := gr_grown (gr_alloc hG3 _) hgrB (fun g e => .inr (HROW.out g e))
          have hown5 : StrsFrom w2.heap.size w5 v' ((codeLL s).take (k + 1)) := by
            unfold StrsFrom
            rw [htk.out, List.map_append, List.length_append, hlen]
            exact hownB
          clear hownA hgrB hownB
          go_wp2_with fail
          go_roundw
          case rel => exact ⟨k + 1, by omega, by go_num, hown5, hG5⟩
          case measure => simp [intOf]; omega
    · have hkn : ¬ (k : Int) < (N : Int) := by omega
      have hfull : (codeLL s).take k = codeLL s := List.take_of_length_le (by rw [codeLL_len, HN.out]; omega)
      rw [hfull] at hown
      have HJ2 := Lib.hid (HJ.out _ _ _ hown)
      have hG := gr_trans hG2 hgr
      clear hown hgr hG2 hfull
      obtain ⟨T, hT⟩ : ∃ T, strB (codedL s.data.toList) = T := ⟨_, rfl⟩
      rw [hT] at HJ2
      have HTT := Lib.hid hT
      clear hT HJ
      go_wp2_with fail
      refine HJ2.out.mono ?_
      rintro _ w3 ⟨rfl, hg3⟩
      go_wp2_with fail
      go_ret
      exact ⟨by rw [HTT.out]; rfl, gr_trans hG hg3⟩
end Go.Proofs.YtcimnlcmpfagnaaDoor
