/- The walk over the reference's baseAt: the place of the last digit of a base call. Condition: a string of ASCII. -/
import Derived.Test.YtffddmgnjecmdaaDoorPartsRef
namespace Go.Proofs.YtffddmgnjecmdaaDoor
open Go.RowKit
set_option linter.unusedVariables false
set_option linter.unusedSimpArgs false

theorem baseR_no {l : List UInt8} (h : ¬ (plainR l 3 10 = true ∧ (1 ≤ lastP dgB l ∧ lastP dgB l ≤ 3) ∧ (1 ≤ (l.length : Int) - 1 - lastP dgB l ∧ (l.length : Int) - 1 - lastP dgB l ≤ 4) ∧ 0 < lettN (l.take (lastP dgB l).toNat))) : baseR l = -1 := by
  unfold baseR; simp only; rw [if_neg h]
theorem baseR_yes {l : List UInt8} (h : plainR l 3 10 = true ∧ (1 ≤ lastP dgB l ∧ lastP dgB l ≤ 3) ∧ (1 ≤ (l.length : Int) - 1 - lastP dgB l ∧ (l.length : Int) - 1 - lastP dgB l ≤ 4) ∧ 0 < lettN (l.take (lastP dgB l).toNat)) : baseR l = lastP dgB l := by
  unfold baseR; simp only; rw [if_pos h]

set_option maxRecDepth 100000 in
set_option maxHeartbeats 2000000 in
theorem baseAt_any (s : ByteArray) (w : World) (hs : s.size ≤ 1000000000) (ha : Ascii s) :
    Calls Tryd.prog 62 #[.string s] w fun e w' => e = .returned (.int .i64 (baseI s.data.toList)) ∧ w.grownBy w' none := by
  rw [← baseR_eq]
  have HA := Lib.hid ha
  have hbd := lastP_bd dgB s.data.toList
  rw [← size_len] at hbd
  have HNO := Lib.hid (@baseR_no s.data.toList)
  have HYES := Lib.hid (@baseR_yes s.data.toList)
  rw [← size_len] at HNO HYES
  have HLAST : Hid (∀ W : World, Calls Tryd.prog 114 #[.string s, .string ⟨#[48, 49, 50, 51, 52, 53, 54, 55, 56, 57]⟩] W fun e w' => e = .returned (.int .i64 (lastP dgB s.data.toList)) ∧ W.grownBy w' none) := fun W => lastDig_any s W (by omega) HA.out
  have HPL : Hid (∀ W : World, Calls Tryd.prog 115 #[.string s, .int .i64 3, .int .i64 10] W fun e w' => e = .returned (.bool (plainR s.data.toList 3 10)) ∧ W.grownBy w' none) := fun W => refPlain_any s 3 10 W hs HA.out
  obtain ⟨R, hR⟩ : ∃ R, baseR s.data.toList = R := ⟨_, rfl⟩
  rw [hR] at HNO HYES ⊢
  obtain ⟨k, hk⟩ : ∃ k, lastP dgB s.data.toList = k := ⟨_, rfl⟩
  rw [hk] at HNO HYES HLAST hbd
  obtain ⟨hb0, hb1⟩ := hbd
  clear ha hR hk
  rcases hp : plainR s.data.toList 3 10
  · have hr : R = -1 := HNO.out (fun h => by rw [hp] at h; simp at h)
    rw [hp] at HPL
    clear hp HNO HYES
    subst hr
    go_enter Tryd.func62, Tryd.ntmps62
    go_wp2_with fail
    refine (HLAST.out _).mono ?_
    rintro _ w1 ⟨rfl, hg1⟩
    go_wp2_with fail
    refine (HPL.out _).mono ?_
    rintro _ w2 ⟨rfl, hg2⟩
    go_wp2_with fail
    go_ret
    exact ⟨rfl, gr_trans hg1 hg2⟩
  · rw [hp] at HPL
    have HP := Lib.hid hp
    clear hp
    by_cases h1 : 1 ≤ k ∧ k ≤ 3
    · have ho1 : (!outB k 1 3) = true := by rw [outB_no h1.1 h1.2]; rfl
      by_cases h2 : 1 ≤ (s.size : Int) - 1 - k ∧ (s.size : Int) - 1 - k ≤ 4
      · have ho2 : (!outB ((s.size : Int) - 1 - k) 1 4) = true := by rw [outB_no h2.1 h2.2]; rfl
        obtain ⟨q, rfl⟩ := Int.eq_ofNat_of_zero_le (show 0 ≤ k by omega)
        have HCT : Hid (∀ W : World, Calls Tryd.prog 116 #[.string (s.extract 0 q), .string ⟨#[97, 98, 99, 100, 101, 102, 103, 104, 105, 106, 107, 108, 109, 110, 111, 112, 113, 114, 115, 116, 117, 118, 119, 120, 121, 122]⟩] W fun e w' => e = .returned (.bool (decide (0 < lettN (s.data.toList.take q)))) ∧ W.grownBy w' none) := fun W => by
          have h := containsSmall (s.extract 0 q) W (by have h1 := size_len (s.extract 0 q); rw [ext_take, List.length_take] at h1; omega) (HA.out.take q)
          rw [ext_take] at h
          exact h
        have hqs : (q : Int) ≤ (s.size : Int) := by omega
        have hq0 : (0 : Int) ≤ (q : Int) := by omega
        by_cases h3 : 0 < lettN (s.data.toList.take q)
        · have hr : R = (q : Int) := HYES.out ⟨HP.out, h1, h2, by simpa using h3⟩
          rw [decide_eq_true h3] at HCT
          clear HNO HYES h3
          subst hr
          go_enter Tryd.func62, Tryd.ntmps62
          go_wp2_with fail
          refine (HLAST.out _).mono ?_
          rintro _ w1 ⟨rfl, hg1⟩
          go_wp2_with fail
          refine (HPL.out _).mono ?_
          rintro _ w2 ⟨rfl, hg2⟩
          go_wp2_with fail
          refine (in_any _ 1 3 _).mono ?_
          rintro _ _ ⟨rfl, rfl⟩
          rw [ho1]
          go_wp2_with fail
          refine (in_any _ 1 4 _).mono ?_
          rintro _ _ ⟨rfl, rfl⟩
          rw [ho2]
          go_wp2_with fail
          refine (HCT.out _).mono ?_
          rintro _ w3 ⟨rfl, hg3⟩
          go_wp2_with fail
          go_ret
          exact ⟨rfl, gr_trans (gr_trans hg1 hg2) hg3⟩
        · have hr : R = -1 := HNO.out (fun h => h3 (by simpa using h.2.2.2))
          rw [decide_eq_false h3] at HCT
          clear HNO HYES h3
          subst hr
          go_enter Tryd.func62, Tryd.ntmps62
          go_wp2_with fail
          refine (HLAST.out _).mono ?_
          rintro _ w1 ⟨rfl, hg1⟩
          go_wp2_with fail
          refine (HPL.out _).mono ?_
          rintro _ w2 ⟨rfl, hg2⟩
          go_wp2_with fail
          refine (in_any _ 1 3 _).mono ?_
          rintro _ _ ⟨rfl, rfl⟩
          rw [ho1]
          go_wp2_with fail
          refine (in_any _ 1 4 _).mono ?_
          rintro _ _ ⟨rfl, rfl⟩
          rw [ho2]
          go_wp2_with fail
          refine (HCT.out _).mono ?_
          rintro _ w3 ⟨rfl, hg3⟩
          go_wp2_with fail
          go_ret
          exact ⟨rfl, gr_trans (gr_trans hg1 hg2) hg3⟩
      · have ho2 : (!outB ((s.size : Int) - 1 - k) 1 4) = false := by rw [outB_yes (by omega)]; rfl
        have hr : R = -1 := HNO.out (fun h => h2 h.2.2.1)
        clear HNO HYES
        subst hr
        go_enter Tryd.func62, Tryd.ntmps62
        go_wp2_with fail
        refine (HLAST.out _).mono ?_
        rintro _ w1 ⟨rfl, hg1⟩
        go_wp2_with fail
        refine (HPL.out _).mono ?_
        rintro _ w2 ⟨rfl, hg2⟩
        go_wp2_with fail
        refine (in_any _ 1 3 _).mono ?_
        rintro _ _ ⟨rfl, rfl⟩
        rw [ho1]
        go_wp2_with fail
        refine (in_any _ 1 4 _).mono ?_
        rintro _ _ ⟨rfl, rfl⟩
        rw [ho2]
        go_wp2_with fail
        go_ret
        exact ⟨rfl, gr_trans hg1 hg2⟩
    · have ho1 : (!outB k 1 3) = false := by rw [outB_yes (by omega)]; rfl
      have hr : R = -1 := HNO.out (fun h => h1 h.2.1)
      clear HNO HYES
      subst hr
      go_enter Tryd.func62, Tryd.ntmps62
      go_wp2_with fail
      refine (HLAST.out _).mono ?_
      rintro _ w1 ⟨rfl, hg1⟩
      go_wp2_with fail
      refine (HPL.out _).mono ?_
      rintro _ w2 ⟨rfl, hg2⟩
      go_wp2_with fail
      refine (in_any _ 1 3 _).mono ?_
      rintro _ _ ⟨rfl, rfl⟩
      rw [ho1]
      go_wp2_with fail
      go_ret
      exact ⟨rfl, gr_trans hg1 hg2⟩
end Go.Proofs.YtffddmgnjecmdaaDoor
