/- The walk over key.Code: what is said, written as codes. Condition: a string of a size that fits in memory; asciiSpace is Go's own table. -/
import Derived.Test.YtcimnlcmpfagnaaDoorCodedPlain
import Derived.Test.YtcimnlcmpfagnaaDoorJoin
namespace Go.Proofs.YtcimnlcmpfagnaaDoor
open Go.RowKit
set_option linter.unusedVariables false
set_option linter.unusedSimpArgs false

def codeK (s : ByteArray) : List UInt8 := if saidE s = 0 then codedL s.data.toList else []
def codeLL (s : ByteArray) : List ByteArray := (wordsOf s).map fun p => strB (codesJ p.data.toList)
theorem codeLL_len (s : ByteArray) : (codeLL s).length = (wordsOf s).length := by unfold codeLL; simp
theorem join_word (p : ByteArray) : joinB ⟨#[32]⟩ (codesW p) = strB (codesJ p.data.toList) := by
  unfold joinB codesW codesJ
  rw [List.map_map]; rfl
theorem join_words (s : ByteArray) : joinB ⟨#[32, 47, 32]⟩ (codeLL s) = strB (codedL s.data.toList) := by
  unfold joinB codeLL codedL
  rw [wordsOf_cut, List.map_map, List.map_map]
  rfl
theorem codesW_len (p : ByteArray) : (codesW p).length = p.size := by unfold codesW; simp
theorem codes_at (s : ByteArray) (k : Nat) (h : k < (codesOf s).length) (h2 : k < (wordsOf s).length) : (codesOf s)[k] = codesW (wordsOf s)[k] := List.getElem_map _
theorem codeLL_take (s : ByteArray) (k : Nat) (h : k < (wordsOf s).length) : (codeLL s).take (k + 1) = (codeLL s).take k ++ [strB (codesJ (wordsOf s)[k].data.toList)] := by
  rw [List.take_succ_eq_append_getElem (by rw [codeLL_len]; exact h)]
  congr 2
  exact List.getElem_map _
set_option maxRecDepth 100000 in
set_option maxHeartbeats 4000000 in
theorem code_any (b : Nat) (s : ByteArray) (w : World) (hgl : Gl b w) (hs : s.size < 4294967281) :
    Calls Tryd.prog 33 #[.string s] w fun e w' => e = .returned (.tuple #[.string (strB (codeK s)), .int .i64 (saidE s)]) ∧ w.grownBy w' none := by
  have HC := Lib.hid (checkSaid_any b s w hgl hs)
  have HGL := Lib.hid hgl
  by_cases h0 : saidE s = 0
  · have hsz := (saidE_zero h0).1
    have hk : codeK s = codedL s.data.toList := by unfold codeK; rw [if_pos h0]
    have HK := Lib.hid hk
    have hcl := codedL_len s.data.toList
    have hsl : s.data.toList.length = s.size := by simp
    have hwn := wordsOf_few s
    have hwp := wordsOf_pos s
    have HWS := Lib.hid (wordsOf_small s)
    have HW := Lib.hid (fun W (h : Gl b W) => keyWords_any b s W h (by omega))
    have HJ := Lib.hid (fun base v W (h : StrsFrom base W v (codeLL s)) => join_any base v (codeLL s) ⟨#[32, 47, 32]⟩ W h (by have h9 : (codedL s.data.toList).length ≤ 1000000000 := (by omega); have e := congrArg ByteArray.size (join_words s); unfold joinB at e; rw [strB_size, strB_size] at e; rw [e]; exact h9) (by rw [codeLL_len]; omega))
    rw [join_words] at HJ
    have hll : (codesOf s).length = (wordsOf s).length := by unfold codesOf; simp
    obtain ⟨i0, hi, hz0, hz1, hz2⟩ := info_parts strInfo
    rw [hk, h0]
    rw [h0] at HC
    clear h0 hk hgl hcl hsl
    go_enter Tryd.func33, Tryd.ntmps33
    go_wp2_with fail
    refine HC.out.mono ?_
    rintro _ w1 ⟨rfl, hg1⟩
    go_wp2_with fail
    refine (HW.out _ (HGL.out.quiet hg1)).mono ?_
    rintro _ w2 ⟨v, rfl, hv, hg2⟩
    obtain ⟨A, c, rfl, hvl, hA⟩ := hv.shape
    obtain ⟨g, rfl, hgb, hgl2⟩ := hA (by omega)
    have HV := Lib.hid hv
    have hG2 := gr_trans hg1 hg2
    obtain ⟨N, hN⟩ : ∃ N, (wordsOf s).length = N := ⟨_, rfl⟩
    have hNN : (codesOf s).length = N := by rw [hll]; exact hN
    have HN := Lib.hid hN
    have HNN := Lib.hid hNN
    have HAT : Hid (∀ W : World, w2.grownBy W none → ∀ k (hk : k < N), ∃ u, W.cell? ⟨g, k, none⟩ = some u ∧ StrsFrom w1.heap.size W u (codesW ((wordsOf s)[k]'(by rw [HN.out]; exact hk)))) := fun W hW k hk => by
      have h := (HV.out.grown hW).at_ k (by rw [hNN]; exact hk)
      rw [codes_at s k (by rw [hNN]; exact hk) (by rw [hN]; exact hk)] at h
      exact h
    rw [hNN] at hvl ⊢
    rw [hN] at hwn hwp
    clear hv hA hN hNN hll hg1 hg2
    go_wp2_with fail
    go_loopw [5, 16] (fun o i wr => ∃ k : Nat, k ≤ N ∧ i = .int .i64 k ∧ StrsFrom w2.heap.size wr o ((codeLL s).take k) ∧ w2.grownBy wr none) (fun _ i _ => N - (intOf i).toNat)
    case atStart => exact ⟨0, by omega, rfl, StrsFrom.nil _ _, gr_refl _ _⟩
    case round =>
      obtain ⟨k, hk, rfl, hown, hgr⟩ := hrel
      by_cases hlt : k < N
      · have hkn : (k : Int) < (N : Int) := by omega
        have hkw : k < (wordsOf s).length := by rw [HN.out]; exact hlt
        obtain ⟨u, hcu, hsu⟩ := HAT.out wr hgr k hlt
        have htk := Lib.hid (codeLL_take s k hkw)
        have hpz : ((wordsOf s)[k]).size ≤ s.size := HWS.out _ (List.getElem_mem hkw)
        have hjl := codesJ_len ((wordsOf s)[k]).data.toList
        have hpl : ((wordsOf s)[k]).data.toList.length = ((wordsOf s)[k]).size := by simp
        have hjw := join_word (wordsOf s)[k]
        have HJW := Lib.hid (join_any w1.heap.size u (codesW (wordsOf s)[k]) ⟨#[32]⟩ wr hsu (by have e := congrArg ByteArray.size hjw; unfold joinB at e; rw [strB_size, strB_size] at e; rw [e]; omega) (by rw [codesW_len]; omega))
        rw [hjw] at HJW
        obtain ⟨T, hT⟩ : ∃ T, strB (codesJ (wordsOf s)[k].data.toList) = T := ⟨_, rfl⟩
        rw [hT] at htk HJW
        have hlen : ((codeLL s).take k).length = k := by rw [List.length_take, codeLL_len, HN.out]; omega
        have hown1 : wr.ownsRow w2.heap.size 9 1 u5 k (((codeLL s).take k).map Value.string) := by
          have h := hown
          unfold StrsFrom at h
          rwa [hlen] at h
        obtain ⟨A2, c2, rfl, hk9, hA2⟩ := ownsRow_shape hown1
        have HO := Lib.hid hown1
        clear hown hown1 hA2 hpz hjl hpl hjw hT hsu
        go_wp2_with fail
        refine HJW.out.mono ?_
        rintro _ w3 ⟨rfl, hg3⟩
        have hownA : w3.ownsRow w2.heap.size 9 1 (.slice A2 k c2) k (((codeLL s).take k).map Value.string) := ownsRow_grown HO.out hg3
        have hG3 := gr_trans hgr hg3
        have hsz3 := hG3.size
        have hrow : ∀ g, (Value.slice A2 k c2).ownBlock = some g → w2.heap.size ≤ g := fun g e => (hownA.lt g e).1
        have HROW := Lib.hid hrow
        clear hrow hgr hg3
        go_wp2_with (at_builtin; refine wpList_append_own _ rfl _ _ 102 rfl w2.heap.size 9 i0 _ 1 16 Tryd.underlying102 hi hz0 hz1 hz2 rfl (by decide) _ _ _ rfl (hownA.alloc _) ⟨w3.heap.size, 0, none⟩ 1 1 [.string T] rfl rfl (cells_new _ _ _) (str_one _) (by unfold maxLen; omega) (by omega) (by simp; omega) ?_; intro v' w5 hownB hgrB _)
        have hG5 : w2.grownBy w5 none := gr_grown (gr_alloc hG3 _) hgrB (fun g e => .inr (HROW.out g e))
        have hown5 : StrsFrom w2.heap.size w5 v' ((codeLL s).take (k + 1)) := by
          unfold StrsFrom
          rw [htk.out, List.map_append, List.length_append, hlen]
          exact hownB
        clear hownA hgrB hownB
        go_wp2_with fail
        go_roundw
        case rel => exact ⟨k + 1, by omega, by go_num, hown5, hG5⟩
        case measure => simp [intOf]; omega
      · have hkn : ¬ (k : Int) < (N : Int) := by omega
        have hfull : (codeLL s).take k = codeLL s := List.take_of_length_le (by rw [codeLL_len, HN.out]; omega)
        rw [hfull] at hown
        have HJ2 := Lib.hid (HJ.out _ _ _ hown)
        have hG := gr_trans hG2 hgr
        clear hown hgr hG2 hfull
        obtain ⟨T, hT⟩ : ∃ T, strB (codedL s.data.toList) = T := ⟨_, rfl⟩
        rw [hT] at HJ2
        have HTT := Lib.hid hT
        clear hT HJ
        go_wp2_with fail
        refine HJ2.out.mono ?_
        rintro _ w3 ⟨rfl, hg3⟩
        go_wp2_with fail
        go_ret2
        exact ⟨by rw [HTT.out]; rfl, gr_trans hG hg3⟩
  · have hk : codeK s = [] := by unfold codeK; rw [if_neg h0]
    have hb : (saidE s != 0) = true := by rw [bne_iff_ne]; exact h0
    rw [hk]
    clear hgl h0 hk
    generalize saidE s = E at *
    go_enter Tryd.func33, Tryd.ntmps33
    go_wp2_with fail
    refine HC.out.mono ?_
    rintro _ w1 ⟨rfl, hg1⟩
    go_wp2_with fail
    go_ret2
    exact ⟨rfl, hg1⟩
end Go.Proofs.YtcimnlcmpfagnaaDoor
