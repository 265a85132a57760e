/- The walk over the law MistakesAreOneApart: it answers true whatever numbers come in. Condition: asciiSpace is Go's own table, MaxLen holds a number. -/
import Derived.Test.YtlodmkdhlmineaaGreatDoorMistPlain
import Derived.Test.YtlodmkdhlmineaaGreatDoorSplitW
import Derived.Test.YtlodmkdhlmineaaGreatDoorStreamA
import Derived.Test.YtlodmkdhlmineaaGreatDoorSkyR
import Derived.Test.YtlodmkdhlmineaaGreatDoorCodeJ
namespace Go.Proofs.YtlodmkdhlmineaaGreatDoor
open Go.RowKit
set_option linter.unusedVariables false
set_option linter.unusedSimpArgs false

theorem no_blankM {l : List UInt8} (h : ∀ c ∈ l, c ≠ 32) : Lib.indexByte l 32 = -1 := by
  have h1 := Lib.indexByte_ge l 32
  rcases Int.lt_or_le (Lib.indexByte l 32) 0 with h2 | h2
  · omega
  · obtain ⟨i, hi⟩ := Int.eq_ofNat_of_zero_le h2
    have h3 := (Lib.indexByte_some hi).1
    exact absurd rfl (h 32 (List.mem_of_getElem? h3))
set_option maxRecDepth 100000 in
set_option maxHeartbeats 8000000 in
theorem mistLaw (A : Option Addr) (n c : Nat) (w : World) (hin : In w A n) (hgl : Gl w.heap.size w) :
    Calls Tryz.prog 6 #[.slice A n c] w fun r w' => r = .returned (.bool true) ∧ Below w.heap.size w w' := by
  have hs0 := Str.start (c := c) hin
  have HGL := Lib.hid hgl
  clear hin hgl
  go_enter Tryz.func6, Tryz.ntmps6
  go_wp2_with fail
  have hG0 := World.grownBy_alloc w (.cells #[.slice A n c, .int .i64 0] 25) none
  have hsz0 : (w.alloc (.cells #[.slice A n c, .int .i64 0] 25)).heap.size = w.heap.size + 1 := by simp
  generalize w.alloc (.cells #[.slice A n c, .int .i64 0] 25) = W0 at *
  generalize hb : w.heap.size = b at *
  have HB := Lib.hid hb
  clear hb
  refine (some_at b 0 _ 5 5 texts5 _ hs0 (by first | rfl | exact hsz0.symm | omega) (by decide) rfl (by decide) (by decide)).mono ?_
  rintro _ w1 ⟨t, ht, rfl, hs1, hg1⟩
  have hG1 : w.grownBy w1 none := gr_grown hG0 hg1 (fun g e => by injection e with e; exact .inr (by have := HB.out; omega))
  clear hs0 hs1 hG0 hg1 hsz0
  have F := txt_facts ht
  have HMI := Lib.hid (fun W (h : Gl b W) => mistaken_ok b t W h F.said F.few (no_blankM fun x hx => (F.sgn x hx).1))
  have HAP : Hid (∀ u ∈ mistTo t.data.toList t.size, ∀ W, Gl b W → Calls Tryz.prog 35 #[.string t, .string u] W fun e w' => e = .returned (.tuple #[.int .i64 1, .int .i64 0]) ∧ W.grownBy w' none) := fun u hu W h => by
    obtain ⟨q1, q2, q3⟩ := F.mist u hu
    have hh := apartE_any b t u W h (by have := F.few; omega) (by omega)
    rw [q2, q3] at hh
    exact hh
  have HCO : Hid (∀ W, Gl b W → Calls Tryz.prog 36 #[.string t] W fun e w' => e = .returned (.tuple #[.string (strB (codedL t.data.toList)), .int .i64 0]) ∧ W.grownBy w' none) := fun W h => by
    have hh := code_any b t W h (by have := F.few; omega)
    rw [F.said, F.code] at hh
    exact hh
  have hcl := codedL_len t.data.toList
  have htl : t.data.toList.length = t.size := by simp
  have hcz : (strB (codedL t.data.toList)).size < 1000 := by rw [strB_size]; have := F.few; omega
  have HRE : Hid (∀ W, Gl b W → Calls Tryz.prog 38 #[.string (strB (codedL t.data.toList)), .string ⟨#[32]⟩, .string ⟨#[]⟩] W fun e w' => e = .returned (.string (strB (elL t.data.toList))) ∧ W.grownBy w' none) := fun W h => by
    obtain ⟨m, hm⟩ := h.mx
    refine (Tryz.strings_ReplaceAll (strB (codedL t.data.toList)) ⟨#[32]⟩ ⟨#[]⟩ m W (by omega) hm (by decide) (by show _ + _ * 0 ≤ _; omega)).mono ?_
    rintro e w' ⟨he, hw⟩
    refine ⟨?_, gr_of_below hw⟩
    rw [he]
    show Ending.returned (.string ⟨(Lib.replaceAll (codedL t.data.toList) [32] []).toArray⟩) = _
    rw [F.rep]; rfl
  have HSP : Hid (∀ W, Gl b W → Calls Tryz.prog 37 #[.string (strB (elL t.data.toList))] W fun e w' => ∃ v, e = .returned (.tuple #[v, .int .i64 ((waysR (elL t.data.toList)).getD 0 0 : Nat), .int .i64 0]) ∧ StrsFrom W.heap.size w' v (rdB ((readR (elL t.data.toList).length (elL t.data.toList) []).take 100)) ∧ W.grownBy w' none) := fun W h => by
    have hh := split_ok b (strB (elL t.data.toList)) W h F.els (by rw [strB_size]; exact F.el40) F.way
    rw [strB_size] at hh
    exact hh
  have hne : 0 < (mistTo t.data.toList t.size).length := List.length_pos_iff.2 F.some_
  have hK1 := F.way1
  have hrd : 100 < (waysR (elL t.data.toList)).getD 0 0 ∨ t ∈ rdB ((readR (elL t.data.toList).length (elL t.data.toList) []).take 100) := by
    rcases F.read with h | h
    · exact .inl h
    · exact .inr (List.mem_map.2 ⟨_, h, strB_of t⟩)
  generalize (waysR (elL t.data.toList)).getD 0 0 = K at *
  generalize rdB ((readR (elL t.data.toList).length (elL t.data.toList) []).take 100) = O at *
  generalize strB (elL t.data.toList) = E1 at *
  generalize strB (codedL t.data.toList) = C1 at *
  generalize mistTo t.data.toList t.size = L at *
  have HRD := Lib.hid hrd
  clear F hcl htl hcz hrd ht
  go_wp2_with fail
  refine (HMI.out _ (HGL.out.quiet hG1)).mono ?_
  rintro _ w6 ⟨v6, rfl, hv6, hg6⟩
  obtain ⟨A6, c6, rfl, hl6, hA6⟩ := hv6.shape
  have HV6 := Lib.hid hv6
  have HA6 := Lib.hid hA6
  have hG6 := gr_trans hG1 hg6
  obtain ⟨M, hM⟩ : ∃ M, L.length = M := ⟨_, rfl⟩
  have HMM := Lib.hid hM
  rw [hM] at hl6 HA6 hne HV6 ⊢
  have hz : ((M : Int) == 0) = false := by rw [beq_eq_false_iff_ne]; omega
  clear hv6 hA6 hG1 hg6 hM HMI
  go_wp2_with fail
  go_loopw [35] (fun i wr => ∃ k : Nat, k ≤ M ∧ i = .int .i64 k ∧ w6.grownBy wr none) (fun i _ => M - (intOf i).toNat)
  case atStart => exact ⟨0, by omega, rfl, gr_refl _ _⟩
  case round =>
    obtain ⟨k, hk, rfl, hgr⟩ := hrel
    by_cases hlt : k < M
    · have hki : (k : Int) < (M : Int) := by omega
      obtain ⟨g, rfl, _, _⟩ := HA6.out (by omega)
      have hkl : k < L.length := by rw [HMM.out]; exact hlt
      have hat : wr.cell? ⟨g, k, none⟩ = some (.string L[k]) := by
        have h := StrsFrom.grown (show StrsFrom w1.heap.size w6 (.slice (some ⟨g, 0, none⟩) L.length c6) L from by rw [HMM.out]; exact HV6.out) hgr
        exact h.at_ k hkl
      have HAK := Lib.hid (HAP.out L[k] (List.getElem_mem hkl))
      generalize L[k] = x at *
      go_wp2_with fail
      refine (HAK.out _ (HGL.out.quiet (gr_trans hG6 hgr))).mono ?_
      rintro _ w7 ⟨rfl, hg7⟩
      go_wp2_with fail
      go_roundw
      case rel => exact ⟨k + 1, by omega, by go_num, gr_trans hgr hg7⟩
      case measure => simp [intOf]; omega
    · have hki : ¬ (k : Int) < (M : Int) := by omega
      have hG7 := gr_trans hG6 hgr
      clear HAP
      go_wp2_with fail
      refine (HCO.out _ (HGL.out.quiet hG7)).mono ?_
      rintro _ w8 ⟨rfl, hg8⟩
      have hG8 := gr_trans hG7 hg8
      go_wp2_with fail
      refine (HRE.out _ (HGL.out.quiet hG8)).mono ?_
      rintro _ w9 ⟨rfl, hg9⟩
      have hG9 := gr_trans hG8 hg9
      go_wp2_with fail
      refine (HSP.out _ (HGL.out.quiet hG9)).mono ?_
      rintro _ w10 ⟨v10, rfl, hv10, hg10⟩
      have hG10 := gr_trans hG9 hg10
      have HV10 := Lib.hid hv10
      have hK1i : (1 : Int) ≤ (K : Int) := by omega
      clear hv10 hg10 hg9 hg8 HSP HRE HCO
      rcases HRD.out with h100 | hmem
      · have h100i : (100 : Int) < (K : Int) := by omega
        go_wp2_with fail
        refine (ready_any b _ (HGL.out.quiet hG10)).mono ?_
        rintro _ w11 ⟨rfl, hg11⟩
        go_wp2_with fail
        go_ret
        exact ⟨rfl, gr_below (gr_trans hG10 hg11)⟩
      · have HCN := Lib.hid (contains_any _ v10 O t w10 HV10.out (List.length_pos_of_mem hmem))
        rw [(Lib.containsS_iff O t).2 hmem] at HCN
        by_cases h100 : 100 < K
        · have h100i : (100 : Int) < (K : Int) := by omega
          go_wp2_with fail
          refine (ready_any b _ (HGL.out.quiet hG10)).mono ?_
          rintro _ w11 ⟨rfl, hg11⟩
          go_wp2_with fail
          go_ret
          exact ⟨rfl, gr_below (gr_trans hG10 hg11)⟩
        · have h100i : ¬ (100 : Int) < (K : Int) := by omega
          go_wp2_with fail
          refine HCN.out.mono ?_
          rintro _ w11 ⟨rfl, hg11⟩
          have hG11 := gr_trans hG10 hg11
          go_wp2_with fail
          refine (ready_any b _ (HGL.out.quiet hG11)).mono ?_
          rintro _ w12 ⟨rfl, hg12⟩
          go_wp2_with fail
          go_ret
          exact ⟨rfl, gr_below (gr_trans hG11 hg12)⟩
end Go.Proofs.YtlodmkdhlmineaaGreatDoor
