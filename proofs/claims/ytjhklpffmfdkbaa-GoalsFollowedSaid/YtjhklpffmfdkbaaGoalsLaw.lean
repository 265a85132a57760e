/- The walk over the law GoalsFollowed: it answers true whatever numbers come in. No condition. -/
import Derived.Test.YtjhklpffmfdkbaaGoalsAll
import Derived.Test.YtjhklpffmfdkbaaEqualWins
import Derived.Test.YtjhklpffmfdkbaaStart
import Derived.Deep.DeepCutAuto
namespace Go.Proofs.Ytjhklpffmfdkbaa
open Go.RowKit
set_option linter.unusedVariables false

theorem or3_eq (t m l : Int) : orL [t, m, l] = orE t (if m = 0 then l else m) := by
  unfold orE
  simp only [orL]
  by_cases h : t = 0
  · rw [if_pos h, if_pos h]
    by_cases h2 : m = 0
    · rw [if_pos h2, if_pos h2]; by_cases h3 : l = 0 <;> simp [h3]
    · rw [if_neg h2, if_neg h2]
  · rw [if_neg h, if_neg h]

set_option maxRecDepth 100000 in
set_option maxHeartbeats 4000000 in
theorem goalsLaw (A : Option Addr) (n c : Nat) (w : World) (hin : In w A n) :
    Calls Try.prog 5 #[.slice A n c] w fun e w' => e = .returned (.bool true) ∧ Below w.heap.size w w' := by
  have hs := Str.start (c := c) hin
  clear hin
  go_enter Try.func5, Try.ntmps5
  go_wp2_with fail
  refine (timesOf_in _ _ _ hs (by omega)).mono ?_
  rintro _ w1 ⟨v, la, a, z, rfl, hl, hlen, ha0, ha1, hto0, hto1, hs1, hg1⟩
  have hG : w.grownBy w1 none := gr_grown (World.grownBy_alloc w _ none) hg1 (by simp)
  have hb1 := hs1.lt
  have HL : Hid (IntsFrom (w.heap.size + 1) w1 v la) := by
    have h := hl
    rw [World.size_alloc] at h
    exact h
  clear hg1 hl hs
  go_wp2_with fail
  have x5 := Blk.new w1 27 #[.int .i64 a, .int .i64 z]
  have hs1' := hs1.alloc (.cells #[.int .i64 a, .int .i64 z] 27)
  have hG1 := gr_alloc hG (.cells #[.int .i64 a, .int .i64 z] 27)
  have HL1 : Hid (IntsFrom (w.heap.size + 1) (w1.alloc (.cells #[.int .i64 a, .int .i64 z] 27)) v la) := IntsFrom.alloc HL.out _
  generalize hW1 : w1.alloc (.cells #[.int .i64 a, .int .i64 z] 27) = W1 at *
  clear hW1
  generalize w1.heap.size = B5 at *
  clear hs1 hG HL
  have hb5 := x5.lt
  refine (timesOf_in _ _ _ hs1' (by omega)).mono ?_
  rintro _ w2 ⟨vb, lb, a2, z2, rfl, hlb, hlenb, _, _, _, _, hs2, hg2⟩
  go_wp2_with fail
  have hg3 : W1.grownBy (w2.alloc (.cells #[.int .i64 a2, .int .i64 z2] 27)) (some w.heap.size) := gr_alloc hg2 _
  have hs3 := hs2.alloc (.cells #[.int .i64 a2, .int .i64 z2] 27)
  have hlb3 : IntsFrom W1.heap.size (w2.alloc (.cells #[.int .i64 a2, .int .i64 z2] 27)) vb lb := IntsFrom.alloc hlb _
  generalize w2.alloc (.cells #[.int .i64 a2, .int .i64 z2] 27) = W2 at *
  refine (flip_in _ _ _ _ hs3 (by omega) (by omega) (by omega)).mono ?_
  rintro _ w3 ⟨fl, rfl, hs4, hg4⟩
  have hg5 := gr_trans hg3 hg4
  have HB3 := Lib.hid (IntsFrom.other hlb3 hg4 (by omega))
  clear hg2 hg3 hg4 hs1' hs2 hs3 hlb hlb3
  go_upto_if 41 with fail
  go_cut [6] (fun s6 wr => ∃ lb' : List Int, IntsFrom W1.heap.size wr s6 lb' ∧ lb'.length ≤ 20 ∧ Str wr w.heap.size 1000 ∧ W1.grownBy wr (some w.heap.size))
  case first =>
    as_aux_lemma =>
      cases fl
      · have hx := x5.grown hg5 (by simp; omega)
        go_wp2_with fail
        refine (delete_any W1.heap.size B5 _ lb a z w3 HB3.out hx hb5 (by omega)).mono ?_
        rintro _ w4 ⟨v', l', rfl, hl', hlen', hg6⟩
        have hrow : ∀ g, vb.ownBlock = some g → W1.heap.size ≤ g := fun g e => (HB3.out.lt g e).1
        have hs5 : Str w4 w.heap.size 1000 := (hs4.grown hg6 (fun g e => by have := hrow g e; omega)).mono (by omega)
        have hg7 := gr_grown hg5 hg6 (fun g e => .inr (hrow g e))
        have HX := Lib.hid hl'
        clear hg6 hl'
        go_wp2_with fail
        go_meet
        exact ⟨l', HX.out, by omega, hs5, hg7⟩
      · go_wp2_with fail
        go_meet
        exact ⟨lb, HB3.out, hlenb, hs4.mono (by omega), hg5⟩
  case rest =>
    obtain ⟨lb', hlb', hlenb', hsc, hgc⟩ := hcut
    have HB4 := Lib.hid hlb'
    clear hs4 hg5 HB3 hlb'
    go_wp2_with fail
    refine (pick_at _ _ _ 6 6 [0, 5, 10, 1000, -1, 100000] _ hsc rfl (by omega) rfl (by decide) (by decide)).mono ?_
    rintro _ w4 ⟨goal, hy, rfl, hs5, hg⟩
    replace hgc := gr_trans hgc hg
    replace HB4 := Lib.hid (IntsFrom.other HB4.out hg (by omega))
    have hgb : -1 ≤ goal ∧ goal ≤ 100000 := by simp at hy; omega
    clear hy hsc hg
    go_wp2_with fail
    refine (pick_at _ _ _ 5 5 [0, 61000, 3600000, 10000000, -1] _ hs5 rfl (by omega) rfl (by decide) (by decide)).mono ?_
    rintro _ w5 ⟨at_, hy, rfl, hs6, hg⟩
    replace hgc := gr_trans hgc hg
    replace HB4 := Lib.hid (IntsFrom.other HB4.out hg (by omega))
    have htb : -1 ≤ at_ ∧ at_ ≤ 10000000 := by simp at hy; omega
    clear hy hs5 hg
    go_wp2_with fail
    refine (pick_at _ _ _ 4 4 [60000, 900000, 3600000, 0] _ hs6 rfl (by omega) rfl (by decide) (by decide)).mono ?_
    rintro _ w6 ⟨long, hy, rfl, hs7, hg⟩
    replace hgc := gr_trans hgc hg
    replace HB4 := Lib.hid (IntsFrom.low (IntsFrom.other HB4.out hg (by omega)))
    have hlgb : 0 ≤ long ∧ long ≤ 3600000 := by simp at hy; omega
    clear hy hs6 hg hs7
    replace x5 := x5.grown hgc (by simp; omega)
    replace HL1 := Lib.hid (IntsFrom.low (IntsFrom.other HL1.out hgc (by omega)))
    replace hG1 := gr_grown hG1 hgc (by simp)
    clear hgc
    have hto2 : -1152921504606846976 ≤ z ∧ z ≤ 1152921504606846976 := by omega
    obtain ⟨T, hT⟩ : ∃ T, timesE la a z = T := ⟨_, rfl⟩
    obtain ⟨TB, hTB⟩ : ∃ T, timesE lb' a z = T := ⟨_, rfl⟩
    obtain ⟨E1, hE1⟩ : ∃ E, goalE la a z goal = E := ⟨_, rfl⟩
    obtain ⟨E2, hE2⟩ : ∃ E, lastE la a z at_ long = E := ⟨_, rfl⟩
    obtain ⟨E3, hE3⟩ : ∃ E, aheadE la lb' a z = E := ⟨_, rfl⟩
    obtain ⟨fa, hfa⟩ : ∃ E, foreAll la a z at_ long = E := ⟨_, rfl⟩
    obtain ⟨fb, hfb⟩ : ∃ E, foreB la a z at_ long = E := ⟨_, rfl⟩
    have HT := Lib.hid hT
    have HTB := Lib.hid hTB
    have H1 := Lib.hid hE1
    have H2 := Lib.hid hE2
    have H3 := Lib.hid hE3
    have HFA := Lib.hid hfa
    have HFB := Lib.hid hfb
    clear hT hTB hE1 hE2 hE3 hfa hfb
    have x5_0 := x5.cell 0
    have x5_1 := x5.cell 1
    simp only [List.getElem?_toArray, List.getElem?_cons_zero, List.getElem?_cons_succ] at x5_0 x5_1
    have x5_l := x5.lt
    go_wp2_with fail
    refine (timesFault_any 0 _ _ _ _ _ (HL1.out.grown (by repeat (first | exact gr_refl _ _ | assumption | refine gr_alloc ?_ _ | refine gr_drewN ?_ _ | refine gr_drew ?_)))).mono ?_
    rintro _ W ⟨rfl, hg⟩
    replace x5 := x5.grown (gr_trans (by repeat (first | exact gr_refl _ _ | assumption | refine gr_alloc ?_ _ | refine gr_drewN ?_ _ | refine gr_drew ?_)) hg) (by first | (simp; done) | (simp; omega))
    replace x5_0 := x5.cell 0
    replace x5_1 := x5.cell 1
    simp only [List.getElem?_toArray, List.getElem?_cons_zero, List.getElem?_cons_succ] at x5_0 x5_1
    replace x5_l := x5.lt
    replace HL1 := Lib.hid (HL1.out.grown (gr_trans (by repeat (first | exact gr_refl _ _ | assumption | refine gr_alloc ?_ _ | refine gr_drewN ?_ _ | refine gr_drew ?_)) hg))
    replace HB4 := Lib.hid (HB4.out.grown (gr_trans (by repeat (first | exact gr_refl _ _ | assumption | refine gr_alloc ?_ _ | refine gr_drewN ?_ _ | refine gr_drew ?_)) hg))
    replace hG1 := gr_trans hG1 (gr_trans (by repeat (first | exact gr_refl _ _ | assumption | refine gr_alloc ?_ _ | refine gr_drewN ?_ _ | refine gr_drew ?_)) hg)
    clear hg
    rw [HT.out]
    go_wp2_with fail
    refine (goal_all 0 _ _ _ _ _ _ (HL1.out.grown (by repeat (first | exact gr_refl _ _ | assumption | refine gr_alloc ?_ _ | refine gr_drewN ?_ _ | refine gr_drew ?_))) hto2.1 hto2.2).mono ?_
    rintro _ W ⟨u12, rfl, HU, hg⟩
    replace x5 := x5.grown (gr_trans (by repeat (first | exact gr_refl _ _ | assumption | refine gr_alloc ?_ _ | refine gr_drewN ?_ _ | refine gr_drew ?_)) hg) (by first | (simp; done) | (simp; omega))
    replace x5_0 := x5.cell 0
    replace x5_1 := x5.cell 1
    simp only [List.getElem?_toArray, List.getElem?_cons_zero, List.getElem?_cons_succ] at x5_0 x5_1
    replace x5_l := x5.lt
    replace HL1 := Lib.hid (HL1.out.grown (gr_trans (by repeat (first | exact gr_refl _ _ | assumption | refine gr_alloc ?_ _ | refine gr_drewN ?_ _ | refine gr_drew ?_)) hg))
    replace HB4 := Lib.hid (HB4.out.grown (gr_trans (by repeat (first | exact gr_refl _ _ | assumption | refine gr_alloc ?_ _ | refine gr_drewN ?_ _ | refine gr_drew ?_)) hg))
    replace hG1 := gr_trans hG1 (gr_trans (by repeat (first | exact gr_refl _ _ | assumption | refine gr_alloc ?_ _ | refine gr_drewN ?_ _ | refine gr_drew ?_)) hg)
    clear hg
    replace HU := Lib.hid HU
    rw [H1.out]
    go_wp2_with fail
    refine (forecast_all 0 _ _ _ _ _ _ _ (HL1.out.grown (by repeat (first | exact gr_refl _ _ | assumption | refine gr_alloc ?_ _ | refine gr_drewN ?_ _ | refine gr_drew ?_))) hto2.1 hto2.2).mono ?_
    rintro _ W ⟨rfl, hg⟩
    replace x5 := x5.grown (gr_trans (by repeat (first | exact gr_refl _ _ | assumption | refine gr_alloc ?_ _ | refine gr_drewN ?_ _ | refine gr_drew ?_)) hg) (by first | (simp; done) | (simp; omega))
    replace x5_0 := x5.cell 0
    replace x5_1 := x5.cell 1
    simp only [List.getElem?_toArray, List.getElem?_cons_zero, List.getElem?_cons_succ] at x5_0 x5_1
    replace x5_l := x5.lt
    replace HL1 := Lib.hid (HL1.out.grown (gr_trans (by repeat (first | exact gr_refl _ _ | assumption | refine gr_alloc ?_ _ | refine gr_drewN ?_ _ | refine gr_drew ?_)) hg))
    replace HB4 := Lib.hid (HB4.out.grown (gr_trans (by repeat (first | exact gr_refl _ _ | assumption | refine gr_alloc ?_ _ | refine gr_drewN ?_ _ | refine gr_drew ?_)) hg))
    replace hG1 := gr_trans hG1 (gr_trans (by repeat (first | exact gr_refl _ _ | assumption | refine gr_alloc ?_ _ | refine gr_drewN ?_ _ | refine gr_drew ?_)) hg)
    replace HU := Lib.hid (HU.out.grown (gr_trans (by repeat (first | exact gr_refl _ _ | assumption | refine gr_alloc ?_ _ | refine gr_drewN ?_ _ | refine gr_drew ?_)) hg))
    clear hg
    rw [H2.out, HFA.out, HFB.out]
    go_wp2_with fail
    refine (ahead_all 0 _ _ _ _ _ _ _ (HL1.out.grown (by repeat (first | exact gr_refl _ _ | assumption | refine gr_alloc ?_ _ | refine gr_drewN ?_ _ | refine gr_drew ?_))) (HB4.out.grown (by repeat (first | exact gr_refl _ _ | assumption | refine gr_alloc ?_ _ | refine gr_drewN ?_ _ | refine gr_drew ?_))) hto2.1 hto2.2).mono ?_
    rintro _ W ⟨u17, rfl, HV, hg⟩
    replace x5 := x5.grown (gr_trans (by repeat (first | exact gr_refl _ _ | assumption | refine gr_alloc ?_ _ | refine gr_drewN ?_ _ | refine gr_drew ?_)) hg) (by first | (simp; done) | (simp; omega))
    replace x5_0 := x5.cell 0
    replace x5_1 := x5.cell 1
    simp only [List.getElem?_toArray, List.getElem?_cons_zero, List.getElem?_cons_succ] at x5_0 x5_1
    replace x5_l := x5.lt
    replace HL1 := Lib.hid (HL1.out.grown (gr_trans (by repeat (first | exact gr_refl _ _ | assumption | refine gr_alloc ?_ _ | refine gr_drewN ?_ _ | refine gr_drew ?_)) hg))
    replace HB4 := Lib.hid (HB4.out.grown (gr_trans (by repeat (first | exact gr_refl _ _ | assumption | refine gr_alloc ?_ _ | refine gr_drewN ?_ _ | refine gr_drew ?_)) hg))
    replace hG1 := gr_trans hG1 (gr_trans (by repeat (first | exact gr_refl _ _ | assumption | refine gr_alloc ?_ _ | refine gr_drewN ?_ _ | refine gr_drew ?_)) hg)
    replace HU := Lib.hid (HU.out.grown (gr_trans (by repeat (first | exact gr_refl _ _ | assumption | refine gr_alloc ?_ _ | refine gr_drewN ?_ _ | refine gr_drew ?_)) hg))
    clear hg
    replace HV := Lib.hid HV
    rw [H3.out]
    go_wp2_with fail
    refine (spanFault_any _ _ _ _).mono ?_
    rintro _ W' ⟨rfl, rfl⟩
    go_wp2_with fail
    refine (or2_any _ _ _).mono ?_
    rintro _ W ⟨rfl, hg⟩
    replace x5 := x5.grown (gr_trans (by repeat (first | exact gr_refl _ _ | assumption | refine gr_alloc ?_ _ | refine gr_drewN ?_ _ | refine gr_drew ?_)) hg) (by first | (simp; done) | (simp; omega))
    replace x5_0 := x5.cell 0
    replace x5_1 := x5.cell 1
    simp only [List.getElem?_toArray, List.getElem?_cons_zero, List.getElem?_cons_succ] at x5_0 x5_1
    replace x5_l := x5.lt
    replace HL1 := Lib.hid (HL1.out.grown (gr_trans (by repeat (first | exact gr_refl _ _ | assumption | refine gr_alloc ?_ _ | refine gr_drewN ?_ _ | refine gr_drew ?_)) hg))
    replace HB4 := Lib.hid (HB4.out.grown (gr_trans (by repeat (first | exact gr_refl _ _ | assumption | refine gr_alloc ?_ _ | refine gr_drewN ?_ _ | refine gr_drew ?_)) hg))
    replace hG1 := gr_trans hG1 (gr_trans (by repeat (first | exact gr_refl _ _ | assumption | refine gr_alloc ?_ _ | refine gr_drewN ?_ _ | refine gr_drew ?_)) hg)
    replace HU := Lib.hid (HU.out.grown (gr_trans (by repeat (first | exact gr_refl _ _ | assumption | refine gr_alloc ?_ _ | refine gr_drewN ?_ _ | refine gr_drew ?_)) hg))
    replace HV := Lib.hid (HV.out.grown (gr_trans (by repeat (first | exact gr_refl _ _ | assumption | refine gr_alloc ?_ _ | refine gr_drewN ?_ _ | refine gr_drew ?_)) hg))
    clear hg
    obtain ⟨sp, hsp⟩ : ∃ E, spanE goal 0 99999 = E := ⟨_, rfl⟩
    rw [hsp]
    have hS1 : (if T = 0 then sp else T) = orE T sp := rfl
    rw [hS1]
    obtain ⟨S1, hS1d⟩ : ∃ E, orE T sp = E := ⟨_, rfl⟩
    rw [hS1d]
    have hge : E1 = if S1 = 0 then hoursE a z else S1 := by
      rw [← H1.out, ← hS1d]
      unfold goalE
      rw [HT.out, hsp]
      by_cases h : T = 0
      · rw [orE_z h, orE_z h]
        by_cases h2 : sp = 0
        · rw [orE_z h2, if_pos h2]
        · rw [orE_ne h2, if_neg h2]
      · rw [orE_ne h, orE_ne h, if_neg h]
    have HGE := Lib.hid hge
    have HSD := Lib.hid hS1d
    have HSP := Lib.hid hsp
    clear hsp hS1 hS1d hge
    go_upto_if 86 with fail
    go_cut [19] (fun s19 wr => s19 = .int .i64 E1 ∧ W.grownBy wr none)
    case first =>
      by_cases hE : S1 = 0
      · have hb0 : (S1 == 0) = true := by simpa using hE
        have F : Hid (hoursE a z = E1) := by show _ = _; rw [HGE.out, if_pos hE]
        have hT0 : T = 0 := (orE_0' (HSD.out.trans hE)).1
        have O := timesE_ok (HT.out.trans hT0)
        have o1 := O.a0
        have o2 := O.ato
        have o3 := O.to_
        clear hE hT0 O
        go_wp2_with fail
        refine (hoursFault_any _ _ _ o1 o2 o3).mono ?_
        rintro _ V ⟨rfl, hg⟩
        rw [F.out]
        go_wp2_with fail
        go_meet
        exact ⟨rfl, hg⟩
      · have hb0 : (S1 == 0) = false := by simpa using hE
        have F : Hid (S1 = E1) := by show _ = _; rw [HGE.out, if_neg hE]
        clear hE
        go_wp2_with fail
        go_meet
        exact ⟨by rw [F.out], gr_refl _ _⟩
    case rest =>
      obtain ⟨rfl, hg⟩ := hcut
      replace x5 := x5.grown (gr_trans (by repeat (first | exact gr_refl _ _ | assumption | refine gr_alloc ?_ _ | refine gr_drewN ?_ _ | refine gr_drew ?_)) hg) (by first | (simp; done) | (simp; omega))
      replace x5_0 := x5.cell 0
      replace x5_1 := x5.cell 1
      simp only [List.getElem?_toArray, List.getElem?_cons_zero, List.getElem?_cons_succ] at x5_0 x5_1
      replace x5_l := x5.lt
      replace HL1 := Lib.hid (HL1.out.grown (gr_trans (by repeat (first | exact gr_refl _ _ | assumption | refine gr_alloc ?_ _ | refine gr_drewN ?_ _ | refine gr_drew ?_)) hg))
      replace HB4 := Lib.hid (HB4.out.grown (gr_trans (by repeat (first | exact gr_refl _ _ | assumption | refine gr_alloc ?_ _ | refine gr_drewN ?_ _ | refine gr_drew ?_)) hg))
      replace hG1 := gr_trans hG1 (gr_trans (by repeat (first | exact gr_refl _ _ | assumption | refine gr_alloc ?_ _ | refine gr_drewN ?_ _ | refine gr_drew ?_)) hg)
      replace HU := Lib.hid (HU.out.grown (gr_trans (by repeat (first | exact gr_refl _ _ | assumption | refine gr_alloc ?_ _ | refine gr_drewN ?_ _ | refine gr_drew ?_)) hg))
      replace HV := Lib.hid (HV.out.grown (gr_trans (by repeat (first | exact gr_refl _ _ | assumption | refine gr_alloc ?_ _ | refine gr_drewN ?_ _ | refine gr_drew ?_)) hg))
      clear hg
      go_wp2_with fail
      refine (momentFault_any _ _).mono ?_
      rintro _ V ⟨rfl, rfl⟩
      go_wp2_with fail
      refine (longFault_any _ _).mono ?_
      rintro _ V ⟨rfl, rfl⟩
      go_wp2_with fail
      refine (or3_any _ _ _ _).mono ?_
      rintro _ V1 ⟨rfl, hg⟩
      replace x5 := x5.grown (gr_trans (by repeat (first | exact gr_refl _ _ | assumption | refine gr_alloc ?_ _ | refine gr_drewN ?_ _ | refine gr_drew ?_)) hg) (by first | (simp; done) | (simp; omega))
      replace x5_0 := x5.cell 0
      replace x5_1 := x5.cell 1
      simp only [List.getElem?_toArray, List.getElem?_cons_zero, List.getElem?_cons_succ] at x5_0 x5_1
      replace x5_l := x5.lt
      replace HL1 := Lib.hid (HL1.out.grown (gr_trans (by repeat (first | exact gr_refl _ _ | assumption | refine gr_alloc ?_ _ | refine gr_drewN ?_ _ | refine gr_drew ?_)) hg))
      replace HB4 := Lib.hid (HB4.out.grown (gr_trans (by repeat (first | exact gr_refl _ _ | assumption | refine gr_alloc ?_ _ | refine gr_drewN ?_ _ | refine gr_drew ?_)) hg))
      replace hG1 := gr_trans hG1 (gr_trans (by repeat (first | exact gr_refl _ _ | assumption | refine gr_alloc ?_ _ | refine gr_drewN ?_ _ | refine gr_drew ?_)) hg)
      replace HU := Lib.hid (HU.out.grown (gr_trans (by repeat (first | exact gr_refl _ _ | assumption | refine gr_alloc ?_ _ | refine gr_drewN ?_ _ | refine gr_drew ?_)) hg))
      replace HV := Lib.hid (HV.out.grown (gr_trans (by repeat (first | exact gr_refl _ _ | assumption | refine gr_alloc ?_ _ | refine gr_drewN ?_ _ | refine gr_drew ?_)) hg))
      clear hg
      have h2 : orL [T, momE at_, longE long] = E2 := by rw [or3_eq, ← H2.out]; unfold lastE; rw [HT.out]; rfl
      rw [h2]
      clear h2
      go_wp2_with fail
      refine (timesFault_any 0 _ _ _ _ _ (HB4.out.grown (by repeat (first | exact gr_refl _ _ | assumption | refine gr_alloc ?_ _ | refine gr_drewN ?_ _ | refine gr_drew ?_)))).mono ?_
      rintro _ V2 ⟨rfl, hg⟩
      replace x5 := x5.grown (gr_trans (by repeat (first | exact gr_refl _ _ | assumption | refine gr_alloc ?_ _ | refine gr_drewN ?_ _ | refine gr_drew ?_)) hg) (by first | (simp; done) | (simp; omega))
      replace x5_0 := x5.cell 0
      replace x5_1 := x5.cell 1
      simp only [List.getElem?_toArray, List.getElem?_cons_zero, List.getElem?_cons_succ] at x5_0 x5_1
      replace x5_l := x5.lt
      replace HL1 := Lib.hid (HL1.out.grown (gr_trans (by repeat (first | exact gr_refl _ _ | assumption | refine gr_alloc ?_ _ | refine gr_drewN ?_ _ | refine gr_drew ?_)) hg))
      replace HB4 := Lib.hid (HB4.out.grown (gr_trans (by repeat (first | exact gr_refl _ _ | assumption | refine gr_alloc ?_ _ | refine gr_drewN ?_ _ | refine gr_drew ?_)) hg))
      replace hG1 := gr_trans hG1 (gr_trans (by repeat (first | exact gr_refl _ _ | assumption | refine gr_alloc ?_ _ | refine gr_drewN ?_ _ | refine gr_drew ?_)) hg)
      replace HU := Lib.hid (HU.out.grown (gr_trans (by repeat (first | exact gr_refl _ _ | assumption | refine gr_alloc ?_ _ | refine gr_drewN ?_ _ | refine gr_drew ?_)) hg))
      replace HV := Lib.hid (HV.out.grown (gr_trans (by repeat (first | exact gr_refl _ _ | assumption | refine gr_alloc ?_ _ | refine gr_drewN ?_ _ | refine gr_drew ?_)) hg))
      clear hg
      rw [HTB.out]
      go_wp2_with fail
      refine (or2_any _ _ _).mono ?_
      rintro _ V3 ⟨rfl, hg⟩
      replace x5 := x5.grown (gr_trans (by repeat (first | exact gr_refl _ _ | assumption | refine gr_alloc ?_ _ | refine gr_drewN ?_ _ | refine gr_drew ?_)) hg) (by first | (simp; done) | (simp; omega))
      replace x5_0 := x5.cell 0
      replace x5_1 := x5.cell 1
      simp only [List.getElem?_toArray, List.getElem?_cons_zero, List.getElem?_cons_succ] at x5_0 x5_1
      replace x5_l := x5.lt
      replace HL1 := Lib.hid (HL1.out.grown (gr_trans (by repeat (first | exact gr_refl _ _ | assumption | refine gr_alloc ?_ _ | refine gr_drewN ?_ _ | refine gr_drew ?_)) hg))
      replace HB4 := Lib.hid (HB4.out.grown (gr_trans (by repeat (first | exact gr_refl _ _ | assumption | refine gr_alloc ?_ _ | refine gr_drewN ?_ _ | refine gr_drew ?_)) hg))
      replace hG1 := gr_trans hG1 (gr_trans (by repeat (first | exact gr_refl _ _ | assumption | refine gr_alloc ?_ _ | refine gr_drewN ?_ _ | refine gr_drew ?_)) hg)
      replace HU := Lib.hid (HU.out.grown (gr_trans (by repeat (first | exact gr_refl _ _ | assumption | refine gr_alloc ?_ _ | refine gr_drewN ?_ _ | refine gr_drew ?_)) hg))
      replace HV := Lib.hid (HV.out.grown (gr_trans (by repeat (first | exact gr_refl _ _ | assumption | refine gr_alloc ?_ _ | refine gr_drewN ?_ _ | refine gr_drew ?_)) hg))
      clear hg
      have h3 : (if T = 0 then TB else T) = E3 := by rw [← H3.out]; unfold aheadE; rw [HT.out, HTB.out]; rfl
      rw [h3]
      clear h3
      go_upto_if 103 with fail
      have O0 : Hid (T = 0 → timesE la a z = 0) := fun h => HT.out.trans h
      go_cut [22] (fun s22 wr => Ints wr s22 (goalAll la a z goal) ∧ V3.grownBy wr none)
      case first =>
        as_aux_lemma =>
          by_cases hE : E1 = 0
          · have hb0 : (E1 == 0) = true := by simpa using hE
            obtain ⟨t0, h0⟩ := orE_0' (H1.out.trans hE)
            obtain ⟨h1, h0⟩ := orE_0' h0
            have hs : 0 ≤ goal ∧ goal ≤ 99999 := by
              rcases spanE_cases goal 0 99999 with ⟨_, h1, h2⟩ | ⟨h, _⟩
              · exact ⟨h1, h2⟩
              · omega
            have hh := hoursE_01 h0
            have HF : Hid (goalAll la a z goal = goalL la a z goal) := by show _ = _; unfold goalAll; rw [H1.out, if_pos hE]
            have HT0 := Lib.hid t0
            clear hE t0 h0 h1
            go_wp2_with fail
            refine (goalOf_ok 0 _ _ _ _ _ _ HL1.out HT0.out hs.1 hs.2 hh).mono ?_
            rintro _ V4 ⟨u, rfl, hu, hg⟩
            have hu' := Lib.hid (IntsFrom.low hu)
            clear hu
            go_wp2_with fail
            go_meet
            exact ⟨by rw [HF.out]; exact hu'.out, hg⟩
          · have hb0 : (E1 == 0) = false := by simpa using hE
            have HF : Hid (goalAll la a z goal = []) := by show _ = _; unfold goalAll; rw [H1.out, if_neg hE]
            clear hE
            go_wp2_with fail
            go_meet
            exact ⟨by rw [HF.out]; exact IntsFrom.nil _ _, gr_refl _ _⟩
      case rest =>
        obtain ⟨hu, hg⟩ := hcut
        replace x5 := x5.grown (gr_trans (by repeat (first | exact gr_refl _ _ | assumption | refine gr_alloc ?_ _ | refine gr_drewN ?_ _ | refine gr_drew ?_)) hg) (by first | (simp; done) | (simp; omega))
        replace x5_0 := x5.cell 0
        replace x5_1 := x5.cell 1
        simp only [List.getElem?_toArray, List.getElem?_cons_zero, List.getElem?_cons_succ] at x5_0 x5_1
        replace x5_l := x5.lt
        replace HL1 := Lib.hid (HL1.out.grown (gr_trans (by repeat (first | exact gr_refl _ _ | assumption | refine gr_alloc ?_ _ | refine gr_drewN ?_ _ | refine gr_drew ?_)) hg))
        replace HB4 := Lib.hid (HB4.out.grown (gr_trans (by repeat (first | exact gr_refl _ _ | assumption | refine gr_alloc ?_ _ | refine gr_drewN ?_ _ | refine gr_drew ?_)) hg))
        replace hG1 := gr_trans hG1 (gr_trans (by repeat (first | exact gr_refl _ _ | assumption | refine gr_alloc ?_ _ | refine gr_drewN ?_ _ | refine gr_drew ?_)) hg)
        replace HU := Lib.hid (HU.out.grown (gr_trans (by repeat (first | exact gr_refl _ _ | assumption | refine gr_alloc ?_ _ | refine gr_drewN ?_ _ | refine gr_drew ?_)) hg))
        replace HV := Lib.hid (HV.out.grown (gr_trans (by repeat (first | exact gr_refl _ _ | assumption | refine gr_alloc ?_ _ | refine gr_drewN ?_ _ | refine gr_drew ?_)) hg))
        clear hg
        have HU2 := Lib.hid hu
        clear hu
        go_upto_if 109 with fail
        go_cut [23, 24] (fun s23 s24 wr => s23 = .int .i64 fa ∧ s24 = .bool fb ∧ wc.grownBy wr none)
        case first =>
          as_aux_lemma =>
            by_cases hE : E2 = 0
            · have hb0 : (E2 == 0) = true := by simpa using hE
              obtain ⟨t0, m0⟩ := lastE_00 (H2.out.trans hE)
              have EE := Lib.hid (H2.out.trans hE)
              have M0 := Lib.hid m0
              have T0 := Lib.hid t0
              clear hE m0 t0
              by_cases hlt : lastA a at_ long < lastT z at_
              · have hB : foreB la a z at_ long = true := by unfold foreB; simp [EE.out, hlt]
                have F0 : Hid (fb = true) := by show _ = _; rw [← HFB.out, hB]
                have F1 : Hid (foreI la a z at_ long = fa) := by show _ = _; rw [← HFA.out]; unfold foreAll; rw [hB]; rfl
                have LT := Lib.hid hlt
                clear hB hlt
                go_wp2_with fail
                refine (forecastOf_ok 0 _ _ _ _ _ _ _ HL1.out T0.out M0.out LT.out).mono ?_
                rintro _ V4 ⟨rfl, hg⟩
                rw [F1.out]
                go_wp2_with fail
                go_meet
                exact ⟨rfl, by rw [F0.out], hg⟩
              · have hB : foreB la a z at_ long = false := by unfold foreB; simp; omega
                have F0 : Hid (fb = false) := by show _ = _; rw [← HFB.out, hB]
                have F1 : Hid (0 = fa) := by show _ = _; rw [← HFA.out]; unfold foreAll; rw [hB]; rfl
                have LT : Hid (lastT z at_ ≤ lastA a at_ long) := Int.not_lt.1 hlt
                clear hB hlt
                go_wp2_with fail
                refine (forecastOf_none 0 _ _ _ _ _ _ _ HL1.out T0.out M0.out LT.out).mono ?_
                rintro _ V4 ⟨rfl, hg⟩
                go_wp2_with fail
                go_meet
                exact ⟨by rw [← F1.out], by rw [F0.out], hg⟩
            · have hb0 : (E2 == 0) = false := by simpa using hE
              have hB : foreB la a z at_ long = false := by unfold foreB; rw [H2.out]; simp [hE]
              have F0 : Hid (fb = false) := by show _ = _; rw [← HFB.out, hB]
              have F1 : Hid (0 = fa) := by show _ = _; rw [← HFA.out]; unfold foreAll; rw [hB]; rfl
              clear hE hB
              go_wp2_with fail
              go_meet
              exact ⟨by rw [← F1.out], by rw [F0.out], gr_refl _ _⟩
        case rest =>
          obtain ⟨rfl, rfl, hg⟩ := hcut
          replace x5 := x5.grown (gr_trans (by repeat (first | exact gr_refl _ _ | assumption | refine gr_alloc ?_ _ | refine gr_drewN ?_ _ | refine gr_drew ?_)) hg) (by first | (simp; done) | (simp; omega))
          replace x5_0 := x5.cell 0
          replace x5_1 := x5.cell 1
          simp only [List.getElem?_toArray, List.getElem?_cons_zero, List.getElem?_cons_succ] at x5_0 x5_1
          replace x5_l := x5.lt
          replace HL1 := Lib.hid (HL1.out.grown (gr_trans (by repeat (first | exact gr_refl _ _ | assumption | refine gr_alloc ?_ _ | refine gr_drewN ?_ _ | refine gr_drew ?_)) hg))
          replace HB4 := Lib.hid (HB4.out.grown (gr_trans (by repeat (first | exact gr_refl _ _ | assumption | refine gr_alloc ?_ _ | refine gr_drewN ?_ _ | refine gr_drew ?_)) hg))
          replace hG1 := gr_trans hG1 (gr_trans (by repeat (first | exact gr_refl _ _ | assumption | refine gr_alloc ?_ _ | refine gr_drewN ?_ _ | refine gr_drew ?_)) hg)
          replace HU := Lib.hid (HU.out.grown (gr_trans (by repeat (first | exact gr_refl _ _ | assumption | refine gr_alloc ?_ _ | refine gr_drewN ?_ _ | refine gr_drew ?_)) hg))
          replace HV := Lib.hid (HV.out.grown (gr_trans (by repeat (first | exact gr_refl _ _ | assumption | refine gr_alloc ?_ _ | refine gr_drewN ?_ _ | refine gr_drew ?_)) hg))
          replace HU2 := Lib.hid (HU2.out.grown (gr_trans (by repeat (first | exact gr_refl _ _ | assumption | refine gr_alloc ?_ _ | refine gr_drewN ?_ _ | refine gr_drew ?_)) hg))
          clear hg
          go_upto_if 119 with fail
          go_cut [25] (fun s25 wr => Wins wr s25 (aheadAll la lb' a z) ∧ wc.grownBy wr none)
          case first =>
            as_aux_lemma =>
              by_cases hE : E3 = 0
              · have hb0 : (E3 == 0) = true := by simpa using hE
                obtain ⟨t0, t1⟩ := orE_0' (H3.out.trans hE)
                have HF : Hid (aheadAll la lb' a z = aheadL la lb' z) := by show _ = _; unfold aheadAll; rw [H3.out, if_pos hE]
                have T0 := Lib.hid t0
                have T1 := Lib.hid t1
                clear hE t0 t1
                go_wp2_with fail
                refine (aheadOf_ok 0 _ _ _ _ _ _ _ HL1.out HB4.out T0.out T1.out).mono ?_
                rintro _ V4 ⟨u, rfl, hu, hg⟩
                have hu' := Lib.hid (WinsFrom.low hu)
                clear hu
                go_wp2_with fail
                go_meet
                exact ⟨by rw [HF.out]; exact hu'.out, hg⟩
              · have hb0 : (E3 == 0) = false := by simpa using hE
                have HF : Hid (aheadAll la lb' a z = []) := by show _ = _; unfold aheadAll; rw [H3.out, if_neg hE]
                clear hE
                go_wp2_with fail
                go_meet
                exact ⟨by rw [HF.out]; exact WinsFrom.nil _ _, gr_refl _ _⟩
          case rest =>
            obtain ⟨hu, hg⟩ := hcut
            replace x5 := x5.grown (gr_trans (by repeat (first | exact gr_refl _ _ | assumption | refine gr_alloc ?_ _ | refine gr_drewN ?_ _ | refine gr_drew ?_)) hg) (by first | (simp; done) | (simp; omega))
            replace x5_0 := x5.cell 0
            replace x5_1 := x5.cell 1
            simp only [List.getElem?_toArray, List.getElem?_cons_zero, List.getElem?_cons_succ] at x5_0 x5_1
            replace x5_l := x5.lt
            replace HL1 := Lib.hid (HL1.out.grown (gr_trans (by repeat (first | exact gr_refl _ _ | assumption | refine gr_alloc ?_ _ | refine gr_drewN ?_ _ | refine gr_drew ?_)) hg))
            replace HB4 := Lib.hid (HB4.out.grown (gr_trans (by repeat (first | exact gr_refl _ _ | assumption | refine gr_alloc ?_ _ | refine gr_drewN ?_ _ | refine gr_drew ?_)) hg))
            replace hG1 := gr_trans hG1 (gr_trans (by repeat (first | exact gr_refl _ _ | assumption | refine gr_alloc ?_ _ | refine gr_drewN ?_ _ | refine gr_drew ?_)) hg)
            replace HU := Lib.hid (HU.out.grown (gr_trans (by repeat (first | exact gr_refl _ _ | assumption | refine gr_alloc ?_ _ | refine gr_drewN ?_ _ | refine gr_drew ?_)) hg))
            replace HV := Lib.hid (HV.out.grown (gr_trans (by repeat (first | exact gr_refl _ _ | assumption | refine gr_alloc ?_ _ | refine gr_drewN ?_ _ | refine gr_drew ?_)) hg))
            replace HU2 := Lib.hid (HU2.out.grown (gr_trans (by repeat (first | exact gr_refl _ _ | assumption | refine gr_alloc ?_ _ | refine gr_drewN ?_ _ | refine gr_drew ?_)) hg))
            clear hg
            have HV2 := Lib.hid hu
            clear hu
            go_wp2_with fail
            refine (equalInts_same _ _ _ _ HU.out HU2.out).mono ?_
            rintro _ V5 ⟨rfl, hg⟩
            replace x5 := x5.grown (gr_trans (by repeat (first | exact gr_refl _ _ | assumption | refine gr_alloc ?_ _ | refine gr_drewN ?_ _ | refine gr_drew ?_)) hg) (by first | (simp; done) | (simp; omega))
            replace x5_0 := x5.cell 0
            replace x5_1 := x5.cell 1
            simp only [List.getElem?_toArray, List.getElem?_cons_zero, List.getElem?_cons_succ] at x5_0 x5_1
            replace x5_l := x5.lt
            replace HL1 := Lib.hid (HL1.out.grown (gr_trans (by repeat (first | exact gr_refl _ _ | assumption | refine gr_alloc ?_ _ | refine gr_drewN ?_ _ | refine gr_drew ?_)) hg))
            replace HB4 := Lib.hid (HB4.out.grown (gr_trans (by repeat (first | exact gr_refl _ _ | assumption | refine gr_alloc ?_ _ | refine gr_drewN ?_ _ | refine gr_drew ?_)) hg))
            replace hG1 := gr_trans hG1 (gr_trans (by repeat (first | exact gr_refl _ _ | assumption | refine gr_alloc ?_ _ | refine gr_drewN ?_ _ | refine gr_drew ?_)) hg)
            replace HU := Lib.hid (HU.out.grown (gr_trans (by repeat (first | exact gr_refl _ _ | assumption | refine gr_alloc ?_ _ | refine gr_drewN ?_ _ | refine gr_drew ?_)) hg))
            replace HV := Lib.hid (HV.out.grown (gr_trans (by repeat (first | exact gr_refl _ _ | assumption | refine gr_alloc ?_ _ | refine gr_drewN ?_ _ | refine gr_drew ?_)) hg))
            replace HU2 := Lib.hid (HU2.out.grown (gr_trans (by repeat (first | exact gr_refl _ _ | assumption | refine gr_alloc ?_ _ | refine gr_drewN ?_ _ | refine gr_drew ?_)) hg))
            replace HV2 := Lib.hid (HV2.out.grown (gr_trans (by repeat (first | exact gr_refl _ _ | assumption | refine gr_alloc ?_ _ | refine gr_drewN ?_ _ | refine gr_drew ?_)) hg))
            clear hg
            go_wp2_with fail
            refine (equalWins_same _ _ _ _ HV.out HV2.out).mono ?_
            rintro _ V6 ⟨rfl, hg⟩
            replace x5 := x5.grown (gr_trans (by repeat (first | exact gr_refl _ _ | assumption | refine gr_alloc ?_ _ | refine gr_drewN ?_ _ | refine gr_drew ?_)) hg) (by first | (simp; done) | (simp; omega))
            replace x5_0 := x5.cell 0
            replace x5_1 := x5.cell 1
            simp only [List.getElem?_toArray, List.getElem?_cons_zero, List.getElem?_cons_succ] at x5_0 x5_1
            replace x5_l := x5.lt
            replace HL1 := Lib.hid (HL1.out.grown (gr_trans (by repeat (first | exact gr_refl _ _ | assumption | refine gr_alloc ?_ _ | refine gr_drewN ?_ _ | refine gr_drew ?_)) hg))
            replace HB4 := Lib.hid (HB4.out.grown (gr_trans (by repeat (first | exact gr_refl _ _ | assumption | refine gr_alloc ?_ _ | refine gr_drewN ?_ _ | refine gr_drew ?_)) hg))
            replace hG1 := gr_trans hG1 (gr_trans (by repeat (first | exact gr_refl _ _ | assumption | refine gr_alloc ?_ _ | refine gr_drewN ?_ _ | refine gr_drew ?_)) hg)
            replace HU := Lib.hid (HU.out.grown (gr_trans (by repeat (first | exact gr_refl _ _ | assumption | refine gr_alloc ?_ _ | refine gr_drewN ?_ _ | refine gr_drew ?_)) hg))
            replace HV := Lib.hid (HV.out.grown (gr_trans (by repeat (first | exact gr_refl _ _ | assumption | refine gr_alloc ?_ _ | refine gr_drewN ?_ _ | refine gr_drew ?_)) hg))
            replace HU2 := Lib.hid (HU2.out.grown (gr_trans (by repeat (first | exact gr_refl _ _ | assumption | refine gr_alloc ?_ _ | refine gr_drewN ?_ _ | refine gr_drew ?_)) hg))
            replace HV2 := Lib.hid (HV2.out.grown (gr_trans (by repeat (first | exact gr_refl _ _ | assumption | refine gr_alloc ?_ _ | refine gr_drewN ?_ _ | refine gr_drew ?_)) hg))
            clear hg
            go_wp2_with fail
            refine (rated_any _).mono ?_
            rintro _ V7 ⟨rfl, hg⟩
            replace x5 := x5.grown (gr_trans (by repeat (first | exact gr_refl _ _ | assumption | refine gr_alloc ?_ _ | refine gr_drewN ?_ _ | refine gr_drew ?_)) hg) (by first | (simp; done) | (simp; omega))
            replace x5_0 := x5.cell 0
            replace x5_1 := x5.cell 1
            simp only [List.getElem?_toArray, List.getElem?_cons_zero, List.getElem?_cons_succ] at x5_0 x5_1
            replace x5_l := x5.lt
            replace HL1 := Lib.hid (HL1.out.grown (gr_trans (by repeat (first | exact gr_refl _ _ | assumption | refine gr_alloc ?_ _ | refine gr_drewN ?_ _ | refine gr_drew ?_)) hg))
            replace HB4 := Lib.hid (HB4.out.grown (gr_trans (by repeat (first | exact gr_refl _ _ | assumption | refine gr_alloc ?_ _ | refine gr_drewN ?_ _ | refine gr_drew ?_)) hg))
            replace hG1 := gr_trans hG1 (gr_trans (by repeat (first | exact gr_refl _ _ | assumption | refine gr_alloc ?_ _ | refine gr_drewN ?_ _ | refine gr_drew ?_)) hg)
            replace HU := Lib.hid (HU.out.grown (gr_trans (by repeat (first | exact gr_refl _ _ | assumption | refine gr_alloc ?_ _ | refine gr_drewN ?_ _ | refine gr_drew ?_)) hg))
            replace HV := Lib.hid (HV.out.grown (gr_trans (by repeat (first | exact gr_refl _ _ | assumption | refine gr_alloc ?_ _ | refine gr_drewN ?_ _ | refine gr_drew ?_)) hg))
            replace HU2 := Lib.hid (HU2.out.grown (gr_trans (by repeat (first | exact gr_refl _ _ | assumption | refine gr_alloc ?_ _ | refine gr_drewN ?_ _ | refine gr_drew ?_)) hg))
            replace HV2 := Lib.hid (HV2.out.grown (gr_trans (by repeat (first | exact gr_refl _ _ | assumption | refine gr_alloc ?_ _ | refine gr_drewN ?_ _ | refine gr_drew ?_)) hg))
            clear hg
            go_wp2_with fail
            go_ret
            exact ⟨rfl, gr_below hG1⟩
end Go.Proofs.Ytjhklpffmfdkbaa
