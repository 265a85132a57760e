/- The walk over the law StepsAreADistance: it answers true whatever numbers come in. Condition: asciiSpace is Go's own table, MaxLen holds a number. -/
import Derived.Test.YtlodmkdhlmineaaGreatDoorNearW
import Derived.Test.YtlodmkdhlmineaaGreatDoorCallOf
import Derived.Test.YtlodmkdhlmineaaGreatDoorReady
import Derived.Test.YtlodmkdhlmineaaGreatDoorStart
import Derived.Test.YtlodmkdhlmineaaGreatDoorRefSaid
namespace Go.Proofs.YtlodmkdhlmineaaGreatDoor
open Go.RowKit
set_option linter.unusedVariables false
set_option linter.unusedSimpArgs false

theorem beqS_ne {s t : ByteArray} (h : s ≠ t) : (s.toList == t.toList) = false := by
  rw [beq_eq_false_iff_ne]
  intro e
  exact h (toList_inj e)
set_option maxRecDepth 100000 in
set_option maxHeartbeats 8000000 in
theorem stepsLaw (A : Option Addr) (n c : Nat) (w : World) (hin : In w A n) (hgl : Gl w.heap.size w) :
    Calls Tryz.prog 5 #[.slice A n c] w fun r w' => r = .returned (.bool true) ∧ Below w.heap.size w w' := by
  have hs0 := Str.start (c := c) hin
  have HGL := Lib.hid hgl
  clear hin hgl
  go_enter Tryz.func5, Tryz.ntmps5
  go_wp2_with fail
  have hG0 := World.grownBy_alloc w (.cells #[.slice A n c, .int .i64 0] 25) none
  generalize w.alloc (.cells #[.slice A n c, .int .i64 0] 25) = W0 at *
  generalize hb : w.heap.size = b at *
  have HB := Lib.hid hb
  clear hb
  refine (rightCall_in b 0 _ hs0 (by decide)).mono ?_
  rintro _ w1 ⟨s, rfl, hs30, hsa, hsc, hs1, hg1⟩
  have hG1 : w.grownBy w1 none := gr_grown hG0 hg1 (fun g e => by injection e with e; exact .inr (by have := HB.out; omega))
  have HS : Hid (s.size ≤ 30 ∧ Ascii s ∧ isCall s = true) := ⟨hs30, hsa, hsc⟩
  clear hs0 hG0 hg1 hsa hsc
  go_wp2_with fail
  refine (rightCall_in b _ _ hs1 (by decide)).mono ?_
  rintro _ w2 ⟨t, rfl, ht30, hta, htc, hs2, hg2⟩
  have hG2 : w.grownBy w2 none := gr_grown hG1 hg2 (fun g e => by injection e with e; exact .inr (by have := HB.out; omega))
  have HT : Hid (t.size ≤ 30 ∧ Ascii t ∧ isCall t = true) := ⟨ht30, hta, htc⟩
  clear hs1 hG1 hg2 hta htc
  go_wp2_with fail
  refine (range_in b _ 0 3 _ hs2 (by decide) (by decide) (by decide) (by decide)).mono ?_
  rintro _ w3 ⟨m, hm0, hm3, rfl, hs3, hg3⟩
  have hG3 : w.grownBy w3 none := gr_grown hG2 hg3 (fun g e => by injection e with e; exact .inr (by have := HB.out; omega))
  obtain ⟨M, rfl⟩ := Int.eq_ofNat_of_zero_le hm0
  clear hs2 hs3 hG2 hg3 hs30 ht30
  have HD1 := Lib.hid (fun W => distance_ok s t W (by have := HS.out.1; omega) (by have := HT.out.1; omega) HS.out.2.1 HT.out.2.1 HS.out.2.2 HT.out.2.2)
  have HD2 := Lib.hid (fun W => distance_ok t s W (by have := HT.out.1; omega) (by have := HS.out.1; omega) HT.out.2.1 HS.out.2.1 HT.out.2.2 HS.out.2.2)
  rw [stepsL_symm t.data.toList s.data.toList] at HD2
  have hz := stepsL_zero s.data.toList t.data.toList
  have hmem : ∀ x, x ∈ flatTo (inB s [t, s]) (M + 1) ↔ x ∈ [t, s] ∧ stepsL s.data.toList x.data.toList ≤ M := fun x => near_mem
  have hss : stepsL s.data.toList s.data.toList = 0 := (stepsL_zero _ _).2 rfl
  have hin1 : s ∈ flatTo (inB s [t, s]) (M + 1) := (hmem s).2 ⟨by simp, by omega⟩
  have hin2 : t ∈ flatTo (inB s [t, s]) (M + 1) ↔ stepsL s.data.toList t.data.toList ≤ M := by rw [hmem t]; simp
  have HNE := Lib.hid (fun base v W (h : StrsFrom base W v [t, s]) => near_ok base s v [t, s] M W h (by simp) (by have := HS.out.1; omega) HS.out.2.1 HS.out.2.2 (by
    intro x hx
    rcases List.mem_cons.1 hx with rfl | hx
    · exact ⟨by have := HT.out.1; omega, HT.out.2⟩
    · obtain rfl := List.mem_singleton.1 hx
      exact ⟨by have := HS.out.1; omega, HS.out.2⟩) (by omega))
  unfold NearPost at HNE
  generalize flatTo (inB s [t, s]) (M + 1) = R at *
  have hstl : stepsL s.data.toList t.data.toList = 0 ↔ s = t := by
    rw [hz]
    constructor
    · intro h
      have := congrArg strB h
      rwa [strB_of, strB_of] at this
    · intro h; rw [h]
  have hDb : stepsL s.data.toList t.data.toList ≤ 60 := by
    have h1 := stepsL_le s.data.toList t.data.toList
    have h2 := HS.out.1
    have h3 := HT.out.1
    have h4 : s.data.toList.length = s.size := by simp
    have h5 : t.data.toList.length = t.size := by simp
    omega
  generalize stepsL s.data.toList t.data.toList = D at *
  have hRp : 0 < R.length := List.length_pos_of_mem hin1
  have C1 : Lib.containsS R s = true := (Lib.containsS_iff R s).2 hin1
  have C2 : Lib.containsS R t = decide (D ≤ M) := by
    rw [Bool.eq_iff_iff, Lib.containsS_iff, decide_eq_true_eq]; exact hin2
  clear hz hmem hss hin1 hin2
  have HST := Lib.hid hstl
  have HC1 := Lib.hid C1
  have HC2 := Lib.hid C2
  clear C1 C2 hstl
  go_wp2_with fail
  refine (HD1.out _).mono ?_
  rintro _ w4 ⟨rfl, hg4⟩
  have hG4 := gr_trans hG3 hg4
  clear hG3 hg4
  go_wp2_with fail
  refine (HD2.out _).mono ?_
  rintro _ w5 ⟨rfl, hg5⟩
  have hG5 := gr_trans hG4 hg5
  clear hG4 hg5
  have hB := Blk.new w5 9 (([t, s] : List ByteArray).map Value.string).toArray
  have hG6 := gr_trans hG5 (World.grownBy_alloc w5 (.cells (([t, s] : List ByteArray).map Value.string).toArray 9) none)
  have hls := blk_strs hB (Nat.zero_le _) (by simp)
  have HNE2 := Lib.hid (HNE.out 0 _ _ hls)
  clear hB hls HNE
  go_wp2_with fail
  refine HNE2.out.mono ?_
  rintro _ w6 ⟨v6, rfl, hv6, hg6⟩
  have hG7 := gr_trans hG6 hg6
  have HCS := Lib.hid (fun W (hW : w6.grownBy W none) => contains_any _ v6 R s W (hv6.grown hW) hRp)
  have HCT := Lib.hid (fun W (hW : w6.grownBy W none) => contains_any _ v6 R t W (hv6.grown hW) hRp)
  rw [HC1.out] at HCS
  rw [HC2.out] at HCT
  clear hG6 hg6 hv6 HNE2 hRp hG5 HD1 HD2
  by_cases hD : D = 0
  · have hst := HST.out.1 hD
    subst hst
    subst hD
    have hM0 : decide (0 ≤ M) = true := by simp
    rw [hM0] at HCT
    have hTT : (s.toList == s.toList) = true := by simp
    have hMi : (0 : Int) ≤ (M : Int) := by omega
    clear hM0
    go_wp2_with fail
    refine (HCS.out _ (gr_refl _ _)).mono ?_
    rintro _ w7 ⟨rfl, hg7⟩
    go_wp2_with fail
    refine (HCT.out _ hg7).mono ?_
    rintro _ w8 ⟨rfl, hg8⟩
    have hG8 := gr_trans hG7 (gr_trans hg7 hg8)
    go_wp2_with fail
    refine (ready_any b _ (HGL.out.quiet hG8)).mono ?_
    rintro _ w9 ⟨rfl, hg9⟩
    go_wp2_with fail
    go_ret
    exact ⟨rfl, gr_below (gr_trans hG8 hg9)⟩
  · have hst : s ≠ t := fun e => hD (HST.out.2 e)
    have hbeq := beqS_ne hst
    have hD0 : ((D : Int) == 0) = false := by rw [beq_eq_false_iff_ne]; omega
    have HMM : Hid (decide (D ≤ M) = decide ((D : Int) ≤ (M : Int))) := by
      show _ = _
      rw [Bool.eq_iff_iff, decide_eq_true_eq, decide_eq_true_eq]; omega
    rw [HMM.out] at HCT
    clear hD hst
    by_cases hle : (D : Int) ≤ (M : Int)
    · rw [decide_eq_true hle] at HCT
      go_wp2_with fail
      refine (HCS.out _ (gr_refl _ _)).mono ?_
      rintro _ w7 ⟨rfl, hg7⟩
      go_wp2_with fail
      refine (HCT.out _ hg7).mono ?_
      rintro _ w8 ⟨rfl, hg8⟩
      have hG8 := gr_trans hG7 (gr_trans hg7 hg8)
      go_wp2_with fail
      refine (ready_any b _ (HGL.out.quiet hG8)).mono ?_
      rintro _ w9 ⟨rfl, hg9⟩
      go_wp2_with fail
      go_ret
      exact ⟨rfl, gr_below (gr_trans hG8 hg9)⟩
    · rw [decide_eq_false hle] at HCT
      have hleN : ¬ D ≤ M := by omega
      have hleB : decide (D ≤ M) = false := decide_eq_false hleN
      go_wp2_with fail
      refine (HCS.out _ (gr_refl _ _)).mono ?_
      rintro _ w7 ⟨rfl, hg7⟩
      go_wp2_with fail
      refine (HCT.out _ hg7).mono ?_
      rintro _ w8 ⟨rfl, hg8⟩
      have hG8 := gr_trans hG7 (gr_trans hg7 hg8)
      go_wp2_with fail
      refine (ready_any b _ (HGL.out.quiet hG8)).mono ?_
      rintro _ w9 ⟨rfl, hg9⟩
      go_wp2_with fail
      go_ret
      exact ⟨rfl, gr_below (gr_trans hG8 hg9)⟩
end Go.Proofs.YtlodmkdhlmineaaGreatDoor
