/- Each exported function that GoalsFollowed asks, with all its errors in one contract. Condition: the window's end is at most 2^60. -/
import Derived.Test.YtjhklpffmfdkbaaDelete
import Derived.Test.YtjhklpffmfdkbaaForecast
namespace Go.Proofs.Ytjhklpffmfdkbaa
open Go.RowKit
set_option linter.unusedVariables false

def goalE (l : List Int) (a z goal : Int) : Int := orE (timesE l a z) (orE (spanE goal 0 99999) (hoursE a z))
def goalAll (l : List Int) (a z goal : Int) : List Int := if goalE l a z goal = 0 then goalL l a z goal else []
theorem orE_ne {t e : Int} (h : t ≠ 0) : orE t e = t := by unfold orE; rw [if_neg h]
theorem orE_z {t e : Int} (h : t = 0) : orE t e = e := by unfold orE; rw [if_pos h]
theorem orE_0' {t e : Int} (h : orE t e = 0) : t = 0 ∧ e = 0 := by
  by_cases ht : t = 0
  · rw [orE_z ht] at h; exact ⟨ht, h⟩
  · rw [orE_ne ht] at h; exact absurd h ht
theorem hoursE_01 {a z : Int} (h : hoursE a z = 0) : hoursI a z ≤ 1000 := by
  unfold hoursE at h
  by_cases h2 : 1000 < hoursI a z
  · rw [if_pos h2] at h; omega
  · omega

set_option maxRecDepth 100000 in
set_option maxHeartbeats 1000000 in
theorem goal_bad (base : Nat) (v : Value) (l : List Int) (a z goal : Int) (w : World) (hl : IntsFrom base w v l) (hto : -1152921504606846976 ≤ z) (hto2 : z ≤ 1152921504606846976) (hE : goalE l a z goal ≠ 0) :
    Calls Try.prog 43 #[v, .agg #[.int .i64 a, .int .i64 z], .int .i64 goal] w fun r w' => r = .returned (.tuple #[.slice none 0 0, .int .i64 (goalE l a z goal)]) ∧ w.grownBy w' none := by
  have hx0 := Blk.new w 27 #[.int .i64 a, .int .i64 z]
  have hG := World.grownBy_alloc w (.cells #[.int .i64 a, .int .i64 z] 27) none
  have HL := Lib.hid (hl.grown hG)
  clear hl
  by_cases hT : timesE l a z = 0
  · have O := timesE_ok hT
    have o1 := O.a0
    have o2 := O.ato
    have o3 := O.to_
    have hE2 : goalE l a z goal = orE (spanE goal 0 99999) (hoursE a z) := by unfold goalE; rw [orE_z hT]
    by_cases hS : spanE goal 0 99999 = 0
    · have hob : outB goal 0 99999 = false := by
        rcases spanE_cases goal 0 99999 with ⟨_, h1, h2⟩ | ⟨h, _⟩
        · exact outB_no h1 h2
        · omega
      have hE3 : goalE l a z goal = hoursE a z := by rw [hE2, orE_z hS]
      have hh : 1000 < hoursI a z := by
        rw [hE3] at hE
        unfold hoursE at hE
        by_cases h2 : 1000 < hoursI a z
        · exact h2
        · rw [if_neg h2] at hE; exact absurd rfl hE
      have HE : Hid (goalE l a z goal = 2) := by show _ = _; rw [hE3]; unfold hoursE; rw [if_pos hh]
      have HT := Lib.hid hT
      have HOB := Lib.hid hob
      clear hE hE2 hE3 hT hS hob O
      go_enter Try.func43, Try.ntmps43
      go_wp2_with fail
      generalize w.alloc (.cells #[.int .i64 a, .int .i64 z] 27) = W at *
      refine (checkTimes_any base _ _ _ _ _ HL.out hto hto2).mono ?_
      rintro _ w1 ⟨rfl, hgA⟩
      rw [HT.out]
      replace hx0 := hx0.grown hgA (by simp)
      have c0 := hx0.cell 0
      have c1 := hx0.cell 1
      simp only [List.getElem?_toArray, List.getElem?_cons_zero, List.getElem?_cons_succ] at c0 c1
      go_wp2_with fail
      refine (outside_any _ _ _ _).mono ?_
      rintro _ w' ⟨rfl, rfl⟩
      rw [HOB.out]
      go_wp2_with fail
      refine (hoursOf_any _ _ _ o1 o2 o3).mono ?_
      rintro _ w2 ⟨rfl, hgB⟩
      go_wp2_with fail
      go_ret2
      exact ⟨by rw [HE.out]; rfl, gr_trans hG (gr_trans hgA hgB)⟩
    · have hob : outB goal 0 99999 = true := by
        rcases spanE_cases goal 0 99999 with ⟨h, _⟩ | ⟨_, h1⟩
        · exact absurd h hS
        · exact outB_yes h1
      have HE : Hid (goalE l a z goal = 1) := by
        show _ = _; rw [hE2, orE_ne hS]
        rcases spanE_cases goal 0 99999 with ⟨h, _⟩ | ⟨h, h1⟩
        · exact absurd h hS
        · exact h
      have HT := Lib.hid hT
      have HOB := Lib.hid hob
      clear hE hE2 hT hS hob O
      go_enter Try.func43, Try.ntmps43
      go_wp2_with fail
      refine (checkTimes_any base _ _ _ _ _ HL.out hto hto2).mono ?_
      rintro _ w1 ⟨rfl, hgA⟩
      rw [HT.out]
      go_wp2_with fail
      refine (outside_any _ _ _ _).mono ?_
      rintro _ w' ⟨rfl, rfl⟩
      rw [HOB.out]
      go_wp2_with fail
      go_ret2
      exact ⟨by rw [HE.out]; rfl, gr_trans hG hgA⟩
  · have HE : Hid (goalE l a z goal = timesE l a z) := by show _ = _; unfold goalE; rw [orE_ne hT]
    obtain ⟨T, hTd⟩ : ∃ T, timesE l a z = T := ⟨_, rfl⟩
    rw [hTd] at hT HE
    have hT1 : (T != 0) = true := by rw [bne_iff_ne]; exact hT
    have HT := Lib.hid hTd
    clear hE hT hTd
    go_enter Try.func43, Try.ntmps43
    go_wp2_with fail
    refine (checkTimes_any base _ _ _ _ _ HL.out hto hto2).mono ?_
    rintro _ w1 ⟨rfl, hgA⟩
    rw [HT.out]
    go_wp2_with fail
    go_ret2
    exact ⟨by rw [HE.out]; rfl, gr_trans hG hgA⟩

theorem goal_all (base : Nat) (v : Value) (l : List Int) (a z goal : Int) (w : World) (hl : IntsFrom base w v l) (hto : -1152921504606846976 ≤ z) (hto2 : z ≤ 1152921504606846976) :
    Calls Try.prog 43 #[v, .agg #[.int .i64 a, .int .i64 z], .int .i64 goal] w fun r w' => ∃ u, r = .returned (.tuple #[u, .int .i64 (goalE l a z goal)]) ∧ Ints w' u (goalAll l a z goal) ∧ w.grownBy w' none := by
  by_cases h : goalE l a z goal = 0
  · have h4 : goalAll l a z goal = goalL l a z goal := by unfold goalAll; rw [if_pos h]
    obtain ⟨h1, h2⟩ := orE_0' h
    obtain ⟨h2, h3⟩ := orE_0' h2
    have hs : 0 ≤ goal ∧ goal ≤ 99999 := by
      rcases spanE_cases goal 0 99999 with ⟨_, h1, h2⟩ | ⟨h, _⟩
      · exact ⟨h1, h2⟩
      · omega
    refine (goal_ok base v l a z goal w hl h1 hs.1 hs.2 (hoursE_01 h3)).mono ?_
    rintro r w' ⟨u, rfl, hu, hg⟩
    exact ⟨u, by rw [h], by rw [h4]; exact IntsFrom.low hu, hg⟩
  · have h4 : goalAll l a z goal = [] := by unfold goalAll; rw [if_neg h]
    refine (goal_bad base v l a z goal w hl hto hto2 h).mono ?_
    rintro r w' ⟨rfl, hg⟩
    exact ⟨_, rfl, by rw [h4]; exact IntsFrom.nil _ _, hg⟩

def foreAll (l : List Int) (a z at_ long : Int) : Int := if foreB l a z at_ long then foreI l a z at_ long else 0
theorem lastE_00 {l : List Int} {a z at_ long : Int} (h : lastE l a z at_ long = 0) : timesE l a z = 0 ∧ mlE at_ long = 0 := by
  unfold lastE at h
  by_cases ht : timesE l a z = 0
  · rw [if_pos ht] at h; exact ⟨ht, h⟩
  · rw [if_neg ht] at h; exact absurd h ht
theorem forecast_all (base : Nat) (v : Value) (l : List Int) (a z at_ long : Int) (w : World) (hl : IntsFrom base w v l) (hto : -1152921504606846976 ≤ z) (hto2 : z ≤ 1152921504606846976) :
    Calls Try.prog 44 #[v, .agg #[.int .i64 a, .int .i64 z], .int .i64 at_, .int .i64 long] w fun r w' => r = .returned (.tuple #[.int .i64 (foreAll l a z at_ long), .bool (foreB l a z at_ long), .int .i64 (lastE l a z at_ long)]) ∧ w.grownBy w' none := by
  by_cases h : lastE l a z at_ long = 0
  · obtain ⟨h1, h2⟩ := lastE_00 h
    by_cases hlt : lastA a at_ long < lastT z at_
    · have hB : foreB l a z at_ long = true := by unfold foreB; simp [h, hlt]
      refine (forecast_ok base v l a z at_ long w hl h1 h2 hlt).mono ?_
      rintro r w' ⟨rfl, hg⟩
      refine ⟨?_, hg⟩
      unfold foreAll; rw [hB, h]; rfl
    · have hB : foreB l a z at_ long = false := by unfold foreB; simp; omega
      refine (forecast_none base v l a z at_ long w hl h1 h2 (by omega)).mono ?_
      rintro r w' ⟨rfl, hg⟩
      refine ⟨?_, hg⟩
      unfold foreAll; rw [hB, h]; rfl
  · have hB : foreB l a z at_ long = false := by unfold foreB; simp [h]
    refine (forecast_bad base v l a z at_ long w hl hto hto2 h).mono ?_
    rintro r w' ⟨rfl, hg⟩
    refine ⟨?_, hg⟩
    unfold foreAll; rw [hB]; rfl

def aheadE (a b : List Int) (f z : Int) : Int := orE (timesE a f z) (timesE b f z)
def aheadAll (a b : List Int) (f z : Int) : List (Int × Int) := if aheadE a b f z = 0 then aheadL a b z else []
set_option maxRecDepth 100000 in
set_option maxHeartbeats 1000000 in
theorem ahead_bad (base : Nat) (u v : Value) (a b : List Int) (f t : Int) (w : World) (hu : IntsFrom base w u a) (hv : IntsFrom base w v b) (hto : -1152921504606846976 ≤ t) (hto2 : t ≤ 1152921504606846976) (hE : aheadE a b f t ≠ 0) :
    Calls Try.prog 45 #[u, v, .agg #[.int .i64 f, .int .i64 t]] w fun r w' => r = .returned (.tuple #[.slice none 0 0, .int .i64 (aheadE a b f t)]) ∧ w.grownBy w' none := by
  obtain ⟨A, ca, rfl, hlA, _⟩ := hu.shape
  obtain ⟨B, cb, rfl, hlB, _⟩ := hv.shape
  have hx0 := (Blk.new w 27 #[.int .i64 f, .int .i64 t]).alloc (.cells #[.slice A a.length ca, .slice B b.length cb] 22)
  have hs0 := Blk.new (w.alloc (.cells #[.int .i64 f, .int .i64 t] 27)) 22 #[.slice A a.length ca, .slice B b.length cb]
  rw [World.size_alloc] at hs0
  have hG := gr_alloc (World.grownBy_alloc w (.cells #[.int .i64 f, .int .i64 t] 27) none) (.cells #[.slice A a.length ca, .slice B b.length cb] 22)
  have HU := Lib.hid (hu.grown hG)
  have HV := Lib.hid (hv.grown hG)
  obtain ⟨T, hTd⟩ : ∃ T, timesE a f t = T := ⟨_, rfl⟩
  obtain ⟨S, hSd⟩ : ∃ T, timesE b f t = T := ⟨_, rfl⟩
  have HT := Lib.hid hTd
  have HS := Lib.hid hSd
  have hEd : aheadE a b f t = orE T S := by unfold aheadE; rw [hTd, hSd]
  rw [hEd] at hE
  have HE := Lib.hid hEd
  clear hu hv hTd hSd hEd
  go_enter Try.func45, Try.ntmps45
  go_wp2_with fail
  generalize (w.alloc (.cells #[.int .i64 f, .int .i64 t] 27)).alloc (.cells #[.slice A a.length ca, .slice B b.length cb] 22) = W at *
  go_loopw [21] (fun i wr => ∃ k : Nat, k ≤ 1 ∧ i = .int .i64 k ∧ W.grownBy wr none ∧ (k = 1 → T = 0)) (fun i _ => 2 - (intOf i).toNat)
  case atStart => exact ⟨0, by omega, rfl, gr_refl _ _, by omega⟩
  case round =>
    obtain ⟨k, hk, rfl, hgr, hk1⟩ := hrel
    have hs1 := hs0.grown hgr (by simp)
    have hx1 := hx0.grown hgr (by simp)
    have d0 := hs1.cell 0
    have d1 := hs1.cell 1
    have c0 := hx1.cell 0
    have c1 := hx1.cell 1
    simp only [List.getElem?_toArray, List.getElem?_cons_zero, List.getElem?_cons_succ] at d0 d1 c0 c1
    rcases (show k = 0 ∨ k = 1 by omega) with rfl | rfl
    · by_cases h0 : T = 0
      · have b0 : (T != 0) = false := by simpa using h0
        have H0 := Lib.hid h0
        clear hk1 h0 hE
        go_wp2_with fail
        refine (checkTimes_any base _ _ _ _ _ (HU.out.grown hgr) hto hto2).mono ?_
        rintro _ w1 ⟨rfl, hg⟩
        rw [HT.out]
        go_wp2_with fail
        go_roundw
        case rel => exact ⟨1, by omega, rfl, gr_trans hgr hg, fun _ => H0.out⟩
        case measure => simp [intOf]
      · have b0 : (T != 0) = true := by rw [bne_iff_ne]; exact h0
        have H0 := Lib.hid h0
        clear hk1 h0 hE
        go_wp2_with fail
        refine (checkTimes_any base _ _ _ _ _ (HU.out.grown hgr) hto hto2).mono ?_
        rintro _ w1 ⟨rfl, hg⟩
        rw [HT.out]
        go_wp2_with fail
        go_ret2
        exact ⟨by rw [HE.out, orE_ne H0.out]; rfl, gr_trans hG (gr_trans hgr hg)⟩
    · have h0 := hk1 rfl
      have hS0 : S ≠ 0 := by rw [orE_z h0] at hE; exact hE
      have b0 : (S != 0) = true := by rw [bne_iff_ne]; exact hS0
      have H0 := Lib.hid h0
      clear hk1 h0 hE hS0
      go_wp2_with fail
      refine (checkTimes_any base _ _ _ _ _ (HV.out.grown hgr) hto hto2).mono ?_
      rintro _ w1 ⟨rfl, hg⟩
      rw [HS.out]
      go_wp2_with fail
      go_ret2
      exact ⟨by rw [HE.out, orE_z H0.out]; rfl, gr_trans hG (gr_trans hgr hg)⟩

theorem ahead_all (base : Nat) (u v : Value) (a b : List Int) (f z : Int) (w : World) (hu : IntsFrom base w u a) (hv : IntsFrom base w v b) (hto : -1152921504606846976 ≤ z) (hto2 : z ≤ 1152921504606846976) :
    Calls Try.prog 45 #[u, v, .agg #[.int .i64 f, .int .i64 z]] w fun r w' => ∃ o, r = .returned (.tuple #[o, .int .i64 (aheadE a b f z)]) ∧ Wins w' o (aheadAll a b f z) ∧ w.grownBy w' none := by
  by_cases h : aheadE a b f z = 0
  · obtain ⟨h1, h2⟩ := orE_0' h
    have h4 : aheadAll a b f z = aheadL a b z := by unfold aheadAll; rw [if_pos h]
    refine (ahead_ok base u v a b f z w hu hv h1 h2).mono ?_
    rintro r w' ⟨o, rfl, ho, hg⟩
    exact ⟨o, by rw [h], by rw [h4]; exact WinsFrom.low ho, hg⟩
  · have h4 : aheadAll a b f z = [] := by unfold aheadAll; rw [if_neg h]
    refine (ahead_bad base u v a b f z w hu hv hto hto2 h).mono ?_
    rintro r w' ⟨rfl, hg⟩
    exact ⟨_, rfl, by rw [h4]; exact WinsFrom.nil _ _, hg⟩
end Go.Proofs.Ytjhklpffmfdkbaa
