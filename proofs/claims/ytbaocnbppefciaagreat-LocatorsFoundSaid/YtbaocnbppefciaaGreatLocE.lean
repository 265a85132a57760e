/- The walks over place.AreaOf, Middle, Beside, Within at strings that are no locators; place.Locator with its errors; the reference's WithinOf. Condition: short strings of ASCII. -/
import Derived.Test.YtbaocnbppefciaaGreatLoc4
import Derived.Test.YtbaocnbppefciaaGreatIsLoc
import Derived.Test.YtbaocnbppefciaaGreatBeside
import Derived.Test.YtbaocnbppefciaaGreatLocRight
namespace Go.Proofs.YtbaocnbppefciaaGreat
open Go.RowKit
set_option linter.unusedVariables false
set_option linter.unusedSimpArgs false

theorem areaOf_bad (s : ByteArray) (w : World) (hs : s.size ≤ 1000000000) (ha : Ascii s) (hb : locB s = false) :
    Calls Tryz.prog 13 #[.string s] w fun r w' => r = .returned (.tuple #[.agg #[.int .i64 0, .int .i64 0, .int .i64 0, .int .i64 0], .int .i64 3]) ∧ w.grownBy w' none := by
  have HI := Lib.hid (fun W => isLocator_any s W hs ha)
  rw [hb] at HI
  clear hs ha hb
  go_enter Tryz.func13, Tryz.ntmps13
  go_wp2_with fail
  have hB := Blk.new w 39 #[.int .i64 0, .int .i64 0, .int .i64 0, .int .i64 0]
  refine (HI.out _).mono ?_
  rintro _ w1 ⟨rfl, hg⟩
  replace hB := hB.grown hg (by simp)
  have hG := gr_trans (World.grownBy_alloc w (.cells #[.int .i64 0, .int .i64 0, .int .i64 0, .int .i64 0] 39) none) hg
  have hf := hB.free
  have hBl := hB.lt
  obtain ⟨v0, v1, v2, v3⟩ := hB.cells4
  clear hg
  go_wp2_with fail
  have hR := ((((hB.put 0 (.int .i64 0)).put 1 (.int .i64 0)).put 2 (.int .i64 0)).put 3 (.int .i64 0))
  simp only [List.setIfInBounds_toArray, List.set_cons_zero, List.set_cons_succ] at hR
  obtain ⟨r0, r1, r2, r3⟩ := hR.cells4
  refine bodyPost_ret (v := .tuple #[.agg #[.int .i64 0, .int .i64 0, .int .i64 0, .int .i64 0], .int .i64 3]) (by simp [results, Tryz.results13, go_sem, r0, r1, r2, r3]) rfl ⟨rfl, ?_⟩
  exact (gr_put (gr_put (gr_put (gr_put hG (.inr (by simp)) _) (.inr (by simp)) _) (.inr (by simp)) _) (.inr (by simp)) _)
theorem middle_bad (s : ByteArray) (w : World) (hs : s.size ≤ 1000000000) (ha : Ascii s) (hb : locB s = false) :
    Calls Tryz.prog 14 #[.string s] w fun r w' => r = .returned (.tuple #[.agg #[.int .i64 0, .int .i64 0], .int .i64 3]) ∧ w.grownBy w' none := by
  have HI := Lib.hid (fun W => isLocator_any s W hs ha)
  rw [hb] at HI
  clear hs ha hb
  go_enter Tryz.func14, Tryz.ntmps14
  go_wp2_with fail
  have hB := Blk.new w 27 #[.int .i64 0, .int .i64 0]
  refine (HI.out _).mono ?_
  rintro _ w1 ⟨rfl, hg⟩
  replace hB := hB.grown hg (by simp)
  have hG := gr_trans (World.grownBy_alloc w (.cells #[.int .i64 0, .int .i64 0] 27) none) hg
  have hf := hB.free
  have hBl := hB.lt
  obtain ⟨v0, v1⟩ := hB.cells2
  clear hg
  go_wp2_with fail
  have hR := ((hB.put 0 (.int .i64 0)).put 1 (.int .i64 0))
  simp only [List.setIfInBounds_toArray, List.set_cons_zero, List.set_cons_succ] at hR
  obtain ⟨r0, r1⟩ := hR.cells2
  refine bodyPost_ret (v := .tuple #[.agg #[.int .i64 0, .int .i64 0], .int .i64 3]) (by simp [results, Tryz.results14, go_sem, r0, r1]) rfl ⟨rfl, ?_⟩
  exact (gr_put (gr_put hG (.inr (by simp)) _) (.inr (by simp)) _)
theorem beside_bad (s : ByteArray) (w : World) (hs : s.size ≤ 1000000000) (ha : Ascii s) (hb : locB s = false) :
    Calls Tryz.prog 15 #[.string s] w fun r w' => r = .returned (.tuple #[.slice none 0 0, .int .i64 3]) ∧ w.grownBy w' none := by
  have HI := Lib.hid (fun W => isLocator_any s W hs ha)
  rw [hb] at HI
  clear hs ha hb
  go_enter Tryz.func15, Tryz.ntmps15
  go_wp2_with fail
  refine (HI.out _).mono ?_
  rintro _ w1 ⟨rfl, hg1⟩
  go_wp2_with fail
  go_ret2
  exact ⟨rfl, hg1⟩
/-- Has the one string the other one in front. -/
def withB (a b : ByteArray) : Bool := decide (b.size ≤ a.size) && decide (a.extract 0 b.size = b)
def withE (a b : ByteArray) : Int := if locB a then (if locB b then 0 else 3) else 3
theorem withB_pre (a b : ByteArray) : b.data.toList.isPrefixOf a.data.toList = withB a b := by
  unfold withB
  rw [Bool.eq_iff_iff, List.isPrefixOf_iff_prefix, Bool.and_eq_true, decide_eq_true_eq, decide_eq_true_eq]
  have ha : a.size = a.data.toList.length := by rw [Lib.size_eq]
  have hb : b.size = b.data.toList.length := by rw [Lib.size_eq]
  have hx : a.extract 0 b.size = b ↔ a.data.toList.take b.size = b.data.toList := by
    constructor
    · intro h
      have := congrArg (fun s : ByteArray => s.data.toList) h
      simp only [Lib.extract_data, List.drop_zero, Nat.sub_zero] at this
      exact this
    · intro h
      apply ByteArray.ext
      apply Array.toList_inj.1
      rw [Lib.extract_data]
      simp only [List.drop_zero, Nat.sub_zero]
      exact h
  rw [hx, ha, hb]
  constructor
  · intro h
    exact ⟨h.length_le, (List.prefix_iff_eq_take.1 h).symm⟩
  · rintro ⟨h1, h2⟩
    exact List.prefix_iff_eq_take.2 h2.symm
theorem withinOf_any (a b : ByteArray) (w : World) :
    Calls Tryz.prog 25 #[.string a, .string b] w fun r w' => r = .returned (.bool (withB a b)) ∧ w = w' := by
  have HH : Hid (∀ W, Calls Tryz.prog 52 #[.string a, .string b] W fun e w' => e = .returned (.bool (withB a b)) ∧ W = w') := fun W => (Tryz.strings_HasPrefix a b W).mono fun e w' ⟨he, hw⟩ => ⟨by rw [he, ← withB_pre]; rfl, hw.symm⟩
  go_enter Tryz.func25, Tryz.ntmps25
  go_wp2_with fail
  refine (HH.out _).mono ?_
  rintro _ _ ⟨rfl, rfl⟩
  go_wp2_with fail
  go_ret
  exact ⟨rfl, rfl⟩
set_option maxHeartbeats 2000000 in
theorem within_any (a b : ByteArray) (w : World) (hs : a.size ≤ 1000000000) (ha : Ascii a) (ht : b.size ≤ 1000000000) (hb : Ascii b) :
    Calls Tryz.prog 24 #[.string a, .string b] w fun r w' => r = .returned (.tuple #[.bool (decide (withE a b = 0) && withB a b), .int .i64 (withE a b)]) ∧ w.grownBy w' none := by
  have HI := Lib.hid (fun W => isLocator_any a W hs ha)
  have HJ := Lib.hid (fun W => isLocator_any b W ht hb)
  unfold withE
  clear ha hb
  cases h1 : locB a
  · rw [h1] at HI
    clear h1
    go_enter Tryz.func24, Tryz.ntmps24
    go_wp2_with fail
    refine (HI.out _).mono ?_
    rintro _ w1 ⟨rfl, hg1⟩
    go_wp2_with fail
    go_ret2
    exact ⟨by simp, hg1⟩
  · rw [h1] at HI
    clear h1
    cases h2 : locB b
    · rw [h2] at HJ
      clear h2
      go_enter Tryz.func24, Tryz.ntmps24
      go_wp2_with fail
      refine (HI.out _).mono ?_
      rintro _ w1 ⟨rfl, hg1⟩
      go_wp2_with fail
      refine (HJ.out _).mono ?_
      rintro _ w2 ⟨rfl, hg2⟩
      go_wp2_with fail
      go_ret2
      exact ⟨by simp, gr_trans hg1 hg2⟩
    · rw [h2] at HJ
      clear h2
      by_cases hle : b.size ≤ a.size
      · have hle2 : (b.size : Int) ≤ (a.size : Int) := by omega
        have HW : Hid (withB a b = ((a.extract 0 b.size).toList == b.toList)) := by
          show _ = _
          unfold withB
          rw [decide_eq_true hle, Bool.true_and]
          by_cases h : a.extract 0 b.size = b
          · rw [h]; simp
          · have h2 : ¬ (a.extract 0 b.size).toList = b.toList := fun e => h (by rw [Lib.toList_data, Lib.toList_data] at e; exact ByteArray.ext (Array.toList_inj.1 e))
            rw [decide_eq_false h]
            exact (beq_eq_false_iff_ne.2 h2).symm
        go_enter Tryz.func24, Tryz.ntmps24
        go_wp2_with fail
        refine (HI.out _).mono ?_
        rintro _ w1 ⟨rfl, hg1⟩
        go_wp2_with fail
        refine (HJ.out _).mono ?_
        rintro _ w2 ⟨rfl, hg2⟩
        go_wp2_with fail
        go_ret2
        exact ⟨by rw [HW.out]; simp, gr_trans hg1 hg2⟩
      · have hle2 : ¬ (b.size : Int) ≤ (a.size : Int) := by omega
        have HW : Hid (withB a b = false) := by show _ = _; unfold withB; rw [decide_eq_false hle]; rfl
        go_enter Tryz.func24, Tryz.ntmps24
        go_wp2_with fail
        refine (HI.out _).mono ?_
        rintro _ w1 ⟨rfl, hg1⟩
        go_wp2_with fail
        refine (HJ.out _).mono ?_
        rintro _ w2 ⟨rfl, hg2⟩
        go_wp2_with fail
        go_ret2
        exact ⟨by rw [HW.out]; simp, gr_trans hg1 hg2⟩
theorem locator_bad (n e k : Int) (w : World) (h : siteE n e = 1) :
    Calls Tryz.prog 20 #[.agg #[.int .i64 n, .int .i64 e], .int .i64 k] w fun r w' => r = .returned (.tuple #[.string ⟨#[]⟩, .int .i64 1]) ∧ w.grownBy w' none := by
  have HC := Lib.hid (fun W => checkSite_any n e W)
  rw [h] at HC
  clear h
  go_enter Tryz.func20, Tryz.ntmps20
  go_wp2_with fail
  refine (HC.out _).mono ?_
  rintro _ w1 ⟨rfl, hg1⟩
  go_wp2_with fail
  go_ret2
  exact ⟨rfl, gr_trans (World.grownBy_alloc _ _ none) hg1⟩
theorem locator_three (n e : Int) (w : World) (h : siteE n e = 0) :
    Calls Tryz.prog 20 #[.agg #[.int .i64 n, .int .i64 e], .int .i64 3] w fun r w' => r = .returned (.tuple #[.string ⟨#[]⟩, .int .i64 1]) ∧ w.grownBy w' none := by
  have HC := Lib.hid (fun W => checkSite_any n e W)
  rw [h] at HC
  clear h
  go_enter Tryz.func20, Tryz.ntmps20
  go_wp2_with fail
  refine (HC.out _).mono ?_
  rintro _ w1 ⟨rfl, hg1⟩
  go_wp2_with fail
  go_ret2
  exact ⟨rfl, gr_trans (World.grownBy_alloc _ _ none) hg1⟩
end Go.Proofs.YtbaocnbppefciaaGreat
