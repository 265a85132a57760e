/- The walk over the law HoursCounted: it answers true whatever numbers come in. No condition. -/
import Derived.Test.YtjhklpffmfdkbaaRateAll
import Derived.Test.YtjhklpffmfdkbaaStart
import Derived.Deep.DeepCutAuto
namespace Go.Proofs.Ytjhklpffmfdkbaa
open Go.RowKit
set_option linter.unusedVariables false

theorem orE_0 {t e : Int} (h : orE t e = 0) : t = 0 ∧ e = 0 := by
  unfold orE at h
  by_cases ht : t = 0
  · rw [if_pos ht] at h; exact ⟨ht, h⟩
  · rw [if_neg ht] at h; exact absurd h ht
theorem lastE_0 {l : List Int} {a z at_ long : Int} (h : lastE l a z at_ long = 0) : timesE l a z = 0 ∧ mlE at_ long = 0 := by
  unfold lastE at h
  by_cases ht : timesE l a z = 0
  · rw [if_pos ht] at h; exact ⟨ht, h⟩
  · rw [if_neg ht] at h; exact absurd h ht
theorem bestE_0 {l : List Int} {a z long : Int} (h : bestE l a z long = 0) : timesE l a z = 0 ∧ longE long = 0 := by
  unfold bestE at h
  by_cases ht : timesE l a z = 0
  · rw [if_pos ht] at h; exact ⟨ht, h⟩
  · rw [if_neg ht] at h; exact absurd h ht
theorem hoursE_0 {a z : Int} (h : hoursE a z = 0) : hoursI a z ≤ 1000 := by
  unfold hoursE at h
  by_cases h2 : 1000 < hoursI a z
  · rw [if_pos h2] at h; omega
  · omega

set_option maxRecDepth 100000 in
set_option maxHeartbeats 4000000 in
theorem hoursLaw (A : Option Addr) (n c : Nat) (w : World) (hin : In w A n) :
    Calls Try.prog 3 #[.slice A n c] w fun e w' => e = .returned (.bool true) ∧ Below w.heap.size w w' := by
  have hs := Str.start (c := c) hin
  clear hin
  go_enter Try.func3, Try.ntmps3
  go_wp2_with fail
  refine (timesOf_in _ _ _ hs (by omega)).mono ?_
  rintro _ w1 ⟨v, l, a, z, rfl, hl, hlen, ha0, ha1, hto0, hto1, hs1, hg1⟩
  have hG : w.grownBy w1 none := gr_grown (World.grownBy_alloc w _ none) hg1 (by simp)
  have hb1 := hs1.lt
  have HL : Hid (IntsFrom (w.heap.size + 1) w1 v l) := by
    have h := hl
    rw [World.size_alloc] at h
    exact h
  clear hg1 hl hs
  go_wp2_with fail
  have x5 := Blk.new w1 27 #[.int .i64 a, .int .i64 z]
  have hs1' := hs1.alloc (.cells #[.int .i64 a, .int .i64 z] 27)
  have hG1 := gr_alloc hG (.cells #[.int .i64 a, .int .i64 z] 27)
  have HL1 : Hid (IntsFrom (w.heap.size + 1) (w1.alloc (.cells #[.int .i64 a, .int .i64 z] 27)) v l) := IntsFrom.alloc HL.out _
  generalize hW1 : w1.alloc (.cells #[.int .i64 a, .int .i64 z] 27) = W1 at *
  have hz1 : w1.heap.size + 1 = W1.heap.size := by rw [← hW1]; simp
  generalize w1.heap.size = B5 at *
  rw [hz1]
  clear hs1 hG HL hW1
  refine (pick_at _ _ _ 4 4 [0, 1000, 60000, -1] _ hs1' rfl (by omega) rfl (by decide) (by decide)).mono ?_
  rintro _ w2 ⟨x, hx, rfl, hs2, hg⟩
  replace x5 := x5.grown hg (by simp; omega)
  replace hG1 := gr_grown hG1 hg (by simp)
  replace HL1 := Lib.hid (IntsFrom.other HL1.out hg (by omega))
  have hxb : -1 ≤ x ∧ x ≤ 60000 := by simp at hx; omega
  clear hx hs1' hg hz1
  go_wp2_with fail
  refine (pick_at _ _ _ 4 4 [1000, 500000, 8000000, 345686400001] _ hs2 rfl (by omega) rfl (by decide) (by decide)).mono ?_
  rintro _ w3 ⟨y, hy, rfl, hs3, hg⟩
  replace x5 := x5.grown hg (by simp; omega)
  replace hG1 := gr_grown hG1 hg (by simp)
  replace HL1 := Lib.hid (IntsFrom.other HL1.out hg (by omega))
  have hyb : 1000 ≤ y ∧ y ≤ 345686400001 := by simp at hy; omega
  clear hy hs2 hg
  go_wp2_with fail
  refine (pick_at _ _ _ 5 5 [0, 61000, 3600000, 10000000, -1] _ hs3 rfl (by omega) rfl (by decide) (by decide)).mono ?_
  rintro _ w4 ⟨at_, hy, rfl, hs4, hg⟩
  replace x5 := x5.grown hg (by simp; omega)
  replace hG1 := gr_grown hG1 hg (by simp)
  replace HL1 := Lib.hid (IntsFrom.other HL1.out hg (by omega))
  have htb : -1 ≤ at_ ∧ at_ ≤ 10000000 := by simp at hy; omega
  clear hy hs3 hg
  go_wp2_with fail
  refine (pick_at _ _ _ 5 5 [60000, 900000, 3600000, 0, 86400001] _ hs4 rfl (by omega) rfl (by decide) (by decide)).mono ?_
  rintro _ w5 ⟨long, hy, rfl, hs5, hg⟩
  replace x5 := x5.grown hg (by simp; omega)
  replace hG1 := gr_grown hG1 hg (by simp)
  replace HL1 := Lib.hid (IntsFrom.other HL1.out hg (by omega))
  have hlb : 0 ≤ long ∧ long ≤ 86400001 := by simp at hy; omega
  clear hy hs4 hg hs5
  have x5_0 := x5.cell 0
  have x5_1 := x5.cell 1
  simp only [List.getElem?_toArray, List.getElem?_cons_zero, List.getElem?_cons_succ] at x5_0 x5_1
  have x5_l := x5.lt
  go_wp2_with fail
  have x6 := Blk.new w5 27 #[.int .i64 x, .int .i64 y]
  obtain ⟨T, hT⟩ : ∃ T, timesE l a z = T := ⟨_, rfl⟩
  obtain ⟨E1, hE1⟩ : ∃ E, orE T (hoursE a z) = E := ⟨_, rfl⟩
  obtain ⟨E2, hE2⟩ : ∃ E, orE T (winE x y) = E := ⟨_, rfl⟩
  obtain ⟨E3, hE3⟩ : ∃ E, lastE l a z at_ long = E := ⟨_, rfl⟩
  obtain ⟨E4, hE4⟩ : ∃ E, bestE l a z long = E := ⟨_, rfl⟩
  have HT := Lib.hid hT
  have H1 := Lib.hid hE1
  have H2 := Lib.hid hE2
  have H3 := Lib.hid hE3
  have H4 := Lib.hid hE4
  clear hT hE1 hE2 hE3 hE4
  have hto2 : -1152921504606846976 ≤ z ∧ z ≤ 1152921504606846976 := by omega
  refine (timesFault_any _ _ _ _ _ _ (HL1.out.grown (by repeat (first | exact gr_refl _ _ | assumption | refine gr_alloc ?_ _ | refine gr_drewN ?_ _ | refine gr_drew ?_)))).mono ?_
  rintro _ W ⟨rfl, hg⟩
  replace x5 := x5.grown (gr_trans (by repeat (first | exact gr_refl _ _ | assumption | refine gr_alloc ?_ _ | refine gr_drewN ?_ _ | refine gr_drew ?_)) hg) (by first | (simp; done) | (simp; omega))
  replace x5_0 := x5.cell 0
  replace x5_1 := x5.cell 1
  simp only [List.getElem?_toArray, List.getElem?_cons_zero, List.getElem?_cons_succ] at x5_0 x5_1
  replace x5_l := x5.lt
  replace HL1 := Lib.hid (HL1.out.grown (gr_trans (by repeat (first | exact gr_refl _ _ | assumption | refine gr_alloc ?_ _ | refine gr_drewN ?_ _ | refine gr_drew ?_)) hg))
  replace hG1 := gr_trans hG1 (gr_trans (by repeat (first | exact gr_refl _ _ | assumption | refine gr_alloc ?_ _ | refine gr_drewN ?_ _ | refine gr_drew ?_)) hg)
  replace x6 := x6.grown (gr_trans (by repeat (first | exact gr_refl _ _ | assumption | refine gr_alloc ?_ _ | refine gr_drewN ?_ _ | refine gr_drew ?_)) hg) (by first | (simp; done) | (simp; omega))
  have x6_0 := x6.cell 0
  have x6_1 := x6.cell 1
  simp only [List.getElem?_toArray, List.getElem?_cons_zero, List.getElem?_cons_succ] at x6_0 x6_1
  have x6_l := x6.lt
  clear hg
  rw [HT.out]
  go_wp2_with fail
  refine (checkTimes_any _ _ _ _ _ _ (HL1.out.grown (by repeat (first | exact gr_refl _ _ | assumption | refine gr_alloc ?_ _ | refine gr_drewN ?_ _ | refine gr_drew ?_))) hto2.1 hto2.2).mono ?_
  rintro _ W ⟨rfl, hg⟩
  replace x5 := x5.grown (gr_trans (by repeat (first | exact gr_refl _ _ | assumption | refine gr_alloc ?_ _ | refine gr_drewN ?_ _ | refine gr_drew ?_)) hg) (by first | (simp; done) | (simp; omega))
  replace x5_0 := x5.cell 0
  replace x5_1 := x5.cell 1
  simp only [List.getElem?_toArray, List.getElem?_cons_zero, List.getElem?_cons_succ] at x5_0 x5_1
  replace x5_l := x5.lt
  replace HL1 := Lib.hid (HL1.out.grown (gr_trans (by repeat (first | exact gr_refl _ _ | assumption | refine gr_alloc ?_ _ | refine gr_drewN ?_ _ | refine gr_drew ?_)) hg))
  replace hG1 := gr_trans hG1 (gr_trans (by repeat (first | exact gr_refl _ _ | assumption | refine gr_alloc ?_ _ | refine gr_drewN ?_ _ | refine gr_drew ?_)) hg)
  replace x6 := x6.grown (gr_trans (by repeat (first | exact gr_refl _ _ | assumption | refine gr_alloc ?_ _ | refine gr_drewN ?_ _ | refine gr_drew ?_)) hg) (by first | (simp; done) | (simp; omega))
  replace x6_0 := x6.cell 0
  replace x6_1 := x6.cell 1
  simp only [List.getElem?_toArray, List.getElem?_cons_zero, List.getElem?_cons_succ] at x6_0 x6_1
  replace x6_l := x6.lt
  clear hg
  rw [HT.out]
  go_wp2_with fail
  refine (hours_all _ _ _ _ _ _ (HL1.out.grown (by repeat (first | exact gr_refl _ _ | assumption | refine gr_alloc ?_ _ | refine gr_drewN ?_ _ | refine gr_drew ?_))) hto2.1 hto2.2).mono ?_
  rintro _ W ⟨hrs, rfl, HU, hg⟩
  replace x5 := x5.grown (gr_trans (by repeat (first | exact gr_refl _ _ | assumption | refine gr_alloc ?_ _ | refine gr_drewN ?_ _ | refine gr_drew ?_)) hg) (by first | (simp; done) | (simp; omega))
  replace x5_0 := x5.cell 0
  replace x5_1 := x5.cell 1
  simp only [List.getElem?_toArray, List.getElem?_cons_zero, List.getElem?_cons_succ] at x5_0 x5_1
  replace x5_l := x5.lt
  replace HL1 := Lib.hid (HL1.out.grown (gr_trans (by repeat (first | exact gr_refl _ _ | assumption | refine gr_alloc ?_ _ | refine gr_drewN ?_ _ | refine gr_drew ?_)) hg))
  replace hG1 := gr_trans hG1 (gr_trans (by repeat (first | exact gr_refl _ _ | assumption | refine gr_alloc ?_ _ | refine gr_drewN ?_ _ | refine gr_drew ?_)) hg)
  replace x6 := x6.grown (gr_trans (by repeat (first | exact gr_refl _ _ | assumption | refine gr_alloc ?_ _ | refine gr_drewN ?_ _ | refine gr_drew ?_)) hg) (by first | (simp; done) | (simp; omega))
  replace x6_0 := x6.cell 0
  replace x6_1 := x6.cell 1
  simp only [List.getElem?_toArray, List.getElem?_cons_zero, List.getElem?_cons_succ] at x6_0 x6_1
  replace x6_l := x6.lt
  clear hg
  replace HU := Lib.hid HU
  rw [HT.out, H1.out]
  go_wp2_with fail
  refine (in_all _ _ _ _ _ _ (HL1.out.grown (by repeat (first | exact gr_refl _ _ | assumption | refine gr_alloc ?_ _ | refine gr_drewN ?_ _ | refine gr_drew ?_))) hto2.1 hto2.2 _ _).mono ?_
  rintro _ W ⟨rfl, hg⟩
  replace x5 := x5.grown (gr_trans (by repeat (first | exact gr_refl _ _ | assumption | refine gr_alloc ?_ _ | refine gr_drewN ?_ _ | refine gr_drew ?_)) hg) (by first | (simp; done) | (simp; omega))
  replace x5_0 := x5.cell 0
  replace x5_1 := x5.cell 1
  simp only [List.getElem?_toArray, List.getElem?_cons_zero, List.getElem?_cons_succ] at x5_0 x5_1
  replace x5_l := x5.lt
  replace HL1 := Lib.hid (HL1.out.grown (gr_trans (by repeat (first | exact gr_refl _ _ | assumption | refine gr_alloc ?_ _ | refine gr_drewN ?_ _ | refine gr_drew ?_)) hg))
  replace hG1 := gr_trans hG1 (gr_trans (by repeat (first | exact gr_refl _ _ | assumption | refine gr_alloc ?_ _ | refine gr_drewN ?_ _ | refine gr_drew ?_)) hg)
  replace x6 := x6.grown (gr_trans (by repeat (first | exact gr_refl _ _ | assumption | refine gr_alloc ?_ _ | refine gr_drewN ?_ _ | refine gr_drew ?_)) hg) (by first | (simp; done) | (simp; omega))
  replace x6_0 := x6.cell 0
  replace x6_1 := x6.cell 1
  simp only [List.getElem?_toArray, List.getElem?_cons_zero, List.getElem?_cons_succ] at x6_0 x6_1
  replace x6_l := x6.lt
  replace HU := Lib.hid (HU.out.grown (gr_trans (by repeat (first | exact gr_refl _ _ | assumption | refine gr_alloc ?_ _ | refine gr_drewN ?_ _ | refine gr_drew ?_)) hg))
  clear hg
  obtain ⟨ina, hina⟩ : ∃ E, inAll l a z x y = E := ⟨_, rfl⟩
  rw [HT.out, H2.out, hina]
  have HIN := Lib.hid hina
  clear hina
  go_wp2_with fail
  refine (rate_all _ _ _ _ _ _ (HL1.out.grown (by repeat (first | exact gr_refl _ _ | assumption | refine gr_alloc ?_ _ | refine gr_drewN ?_ _ | refine gr_drew ?_))) hto2.1 hto2.2 _ _).mono ?_
  rintro _ W ⟨rfl, hg⟩
  replace x5 := x5.grown (gr_trans (by repeat (first | exact gr_refl _ _ | assumption | refine gr_alloc ?_ _ | refine gr_drewN ?_ _ | refine gr_drew ?_)) hg) (by first | (simp; done) | (simp; omega))
  replace x5_0 := x5.cell 0
  replace x5_1 := x5.cell 1
  simp only [List.getElem?_toArray, List.getElem?_cons_zero, List.getElem?_cons_succ] at x5_0 x5_1
  replace x5_l := x5.lt
  replace HL1 := Lib.hid (HL1.out.grown (gr_trans (by repeat (first | exact gr_refl _ _ | assumption | refine gr_alloc ?_ _ | refine gr_drewN ?_ _ | refine gr_drew ?_)) hg))
  replace hG1 := gr_trans hG1 (gr_trans (by repeat (first | exact gr_refl _ _ | assumption | refine gr_alloc ?_ _ | refine gr_drewN ?_ _ | refine gr_drew ?_)) hg)
  replace x6 := x6.grown (gr_trans (by repeat (first | exact gr_refl _ _ | assumption | refine gr_alloc ?_ _ | refine gr_drewN ?_ _ | refine gr_drew ?_)) hg) (by first | (simp; done) | (simp; omega))
  replace x6_0 := x6.cell 0
  replace x6_1 := x6.cell 1
  simp only [List.getElem?_toArray, List.getElem?_cons_zero, List.getElem?_cons_succ] at x6_0 x6_1
  replace x6_l := x6.lt
  replace HU := Lib.hid (HU.out.grown (gr_trans (by repeat (first | exact gr_refl _ _ | assumption | refine gr_alloc ?_ _ | refine gr_drewN ?_ _ | refine gr_drew ?_)) hg))
  clear hg
  rw [H3.out]
  obtain ⟨rn, hrn⟩ : ∃ E, rateN l a z at_ long = E := ⟨_, rfl⟩
  obtain ⟨rd, hrd⟩ : ∃ E, rateD l a z at_ long = E := ⟨_, rfl⟩
  obtain ⟨rb, hrb⟩ : ∃ E, rateB l a z at_ long = E := ⟨_, rfl⟩
  rw [hrn, hrd, hrb]
  have HRN := Lib.hid hrn
  have HRD := Lib.hid hrd
  have HRB := Lib.hid hrb
  clear hrn hrd hrb
  have x14 := Blk.new W 38 #[.int .i64 rn, .int .i64 rd]
  go_wp2_with fail
  refine (best_all _ _ _ _ _ _ (HL1.out.grown (by repeat (first | exact gr_refl _ _ | assumption | refine gr_alloc ?_ _ | refine gr_drewN ?_ _ | refine gr_drew ?_))) hto2.1 hto2.2 _).mono ?_
  rintro _ W2 ⟨rfl, hg⟩
  replace x5 := x5.grown (gr_trans (by repeat (first | exact gr_refl _ _ | assumption | refine gr_alloc ?_ _ | refine gr_drewN ?_ _ | refine gr_drew ?_)) hg) (by first | (simp; done) | (simp; omega))
  replace x5_0 := x5.cell 0
  replace x5_1 := x5.cell 1
  simp only [List.getElem?_toArray, List.getElem?_cons_zero, List.getElem?_cons_succ] at x5_0 x5_1
  replace x5_l := x5.lt
  replace HL1 := Lib.hid (HL1.out.grown (gr_trans (by repeat (first | exact gr_refl _ _ | assumption | refine gr_alloc ?_ _ | refine gr_drewN ?_ _ | refine gr_drew ?_)) hg))
  replace hG1 := gr_trans hG1 (gr_trans (by repeat (first | exact gr_refl _ _ | assumption | refine gr_alloc ?_ _ | refine gr_drewN ?_ _ | refine gr_drew ?_)) hg)
  replace x6 := x6.grown (gr_trans (by repeat (first | exact gr_refl _ _ | assumption | refine gr_alloc ?_ _ | refine gr_drewN ?_ _ | refine gr_drew ?_)) hg) (by first | (simp; done) | (simp; omega))
  replace x6_0 := x6.cell 0
  replace x6_1 := x6.cell 1
  simp only [List.getElem?_toArray, List.getElem?_cons_zero, List.getElem?_cons_succ] at x6_0 x6_1
  replace x6_l := x6.lt
  replace HU := Lib.hid (HU.out.grown (gr_trans (by repeat (first | exact gr_refl _ _ | assumption | refine gr_alloc ?_ _ | refine gr_drewN ?_ _ | refine gr_drew ?_)) hg))
  replace x14 := x14.grown (gr_trans (by repeat (first | exact gr_refl _ _ | assumption | refine gr_alloc ?_ _ | refine gr_drewN ?_ _ | refine gr_drew ?_)) hg) (by first | (simp; done) | (simp; omega))
  have x14_0 := x14.cell 0
  have x14_1 := x14.cell 1
  simp only [List.getElem?_toArray, List.getElem?_cons_zero, List.getElem?_cons_succ] at x14_0 x14_1
  have x14_l := x14.lt
  clear hg
  rw [H4.out]
  go_wp2_with fail
  refine (gap_all _ _ _ _ _ _ (HL1.out.grown (by repeat (first | exact gr_refl _ _ | assumption | refine gr_alloc ?_ _ | refine gr_drewN ?_ _ | refine gr_drew ?_))) hto2.1 hto2.2).mono ?_
  rintro _ W3 ⟨rfl, hg⟩
  replace x5 := x5.grown (gr_trans (by repeat (first | exact gr_refl _ _ | assumption | refine gr_alloc ?_ _ | refine gr_drewN ?_ _ | refine gr_drew ?_)) hg) (by first | (simp; done) | (simp; omega))
  replace x5_0 := x5.cell 0
  replace x5_1 := x5.cell 1
  simp only [List.getElem?_toArray, List.getElem?_cons_zero, List.getElem?_cons_succ] at x5_0 x5_1
  replace x5_l := x5.lt
  replace HL1 := Lib.hid (HL1.out.grown (gr_trans (by repeat (first | exact gr_refl _ _ | assumption | refine gr_alloc ?_ _ | refine gr_drewN ?_ _ | refine gr_drew ?_)) hg))
  replace hG1 := gr_trans hG1 (gr_trans (by repeat (first | exact gr_refl _ _ | assumption | refine gr_alloc ?_ _ | refine gr_drewN ?_ _ | refine gr_drew ?_)) hg)
  replace x6 := x6.grown (gr_trans (by repeat (first | exact gr_refl _ _ | assumption | refine gr_alloc ?_ _ | refine gr_drewN ?_ _ | refine gr_drew ?_)) hg) (by first | (simp; done) | (simp; omega))
  replace x6_0 := x6.cell 0
  replace x6_1 := x6.cell 1
  simp only [List.getElem?_toArray, List.getElem?_cons_zero, List.getElem?_cons_succ] at x6_0 x6_1
  replace x6_l := x6.lt
  replace HU := Lib.hid (HU.out.grown (gr_trans (by repeat (first | exact gr_refl _ _ | assumption | refine gr_alloc ?_ _ | refine gr_drewN ?_ _ | refine gr_drew ?_)) hg))
  replace x14 := x14.grown (gr_trans (by repeat (first | exact gr_refl _ _ | assumption | refine gr_alloc ?_ _ | refine gr_drewN ?_ _ | refine gr_drew ?_)) hg) (by first | (simp; done) | (simp; omega))
  replace x14_0 := x14.cell 0
  replace x14_1 := x14.cell 1
  simp only [List.getElem?_toArray, List.getElem?_cons_zero, List.getElem?_cons_succ] at x14_0 x14_1
  replace x14_l := x14.lt
  clear hg
  rw [HT.out]
  obtain ⟨ga, hga⟩ : ∃ E, gapA l a z = E := ⟨_, rfl⟩
  obtain ⟨gt, hgt⟩ : ∃ E, gapT l a z = E := ⟨_, rfl⟩
  rw [hga, hgt]
  have HGA := Lib.hid hga
  have HGT := Lib.hid hgt
  clear hga hgt
  have hg := World.grownBy_alloc W3 (.cells #[.int .i64 ga, .int .i64 gt] 27) none
  have x20 := Blk.new W3 27 #[.int .i64 ga, .int .i64 gt]
  go_upto_if 103 with fail
  replace x5 := x5.grown (gr_trans (by repeat (first | exact gr_refl _ _ | assumption | refine gr_alloc ?_ _ | refine gr_drewN ?_ _ | refine gr_drew ?_)) hg) (by first | (simp; done) | (simp; omega))
  replace x5_0 := x5.cell 0
  replace x5_1 := x5.cell 1
  simp only [List.getElem?_toArray, List.getElem?_cons_zero, List.getElem?_cons_succ] at x5_0 x5_1
  replace x5_l := x5.lt
  replace HL1 := Lib.hid (HL1.out.grown (gr_trans (by repeat (first | exact gr_refl _ _ | assumption | refine gr_alloc ?_ _ | refine gr_drewN ?_ _ | refine gr_drew ?_)) hg))
  replace hG1 := gr_trans hG1 (gr_trans (by repeat (first | exact gr_refl _ _ | assumption | refine gr_alloc ?_ _ | refine gr_drewN ?_ _ | refine gr_drew ?_)) hg)
  replace x6 := x6.grown (gr_trans (by repeat (first | exact gr_refl _ _ | assumption | refine gr_alloc ?_ _ | refine gr_drewN ?_ _ | refine gr_drew ?_)) hg) (by first | (simp; done) | (simp; omega))
  replace x6_0 := x6.cell 0
  replace x6_1 := x6.cell 1
  simp only [List.getElem?_toArray, List.getElem?_cons_zero, List.getElem?_cons_succ] at x6_0 x6_1
  replace x6_l := x6.lt
  replace HU := Lib.hid (HU.out.grown (gr_trans (by repeat (first | exact gr_refl _ _ | assumption | refine gr_alloc ?_ _ | refine gr_drewN ?_ _ | refine gr_drew ?_)) hg))
  replace x14 := x14.grown (gr_trans (by repeat (first | exact gr_refl _ _ | assumption | refine gr_alloc ?_ _ | refine gr_drewN ?_ _ | refine gr_drew ?_)) hg) (by first | (simp; done) | (simp; omega))
  replace x14_0 := x14.cell 0
  replace x14_1 := x14.cell 1
  simp only [List.getElem?_toArray, List.getElem?_cons_zero, List.getElem?_cons_succ] at x14_0 x14_1
  replace x14_l := x14.lt
  clear hg
  generalize W3.alloc (.cells #[.int .i64 ga, .int .i64 gt] 27) = W4 at *
  generalize W3.heap.size = B20 at *
  have x20_0 := x20.cell 0
  have x20_1 := x20.cell 1
  simp only [List.getElem?_toArray, List.getElem?_cons_zero, List.getElem?_cons_succ] at x20_0 x20_1
  have x20_l := x20.lt
  have hTE : Hid (∀ e, T = 0 → orE T e = e) := fun e h => by unfold orE; rw [if_pos h]
  have hTN : Hid (∀ e, T ≠ 0 → orE T e = T) := fun e h => by unfold orE; rw [if_neg h]
  go_cut [22, 23, 24, 25] (fun s22 s23 s24 s25 wr => s22 = .int .i64 E1 ∧ s23 = .int .i64 E2 ∧ s24 = .int .i64 E3 ∧ s25 = .int .i64 E4 ∧ W4.grownBy wr none)
  case first =>
    as_aux_lemma =>
      by_cases hT0 : T = 0
      · have hb0 : (T == 0) = true := by simpa using hT0
        have e1 : hoursE a z = E1 := by rw [← H1.out, hTE.out _ hT0]
        have e2 : winE x y = E2 := by rw [← H2.out, hTE.out _ hT0]
        have e3 : mlE at_ long = E3 := by rw [← H3.out]; unfold lastE; rw [HT.out, if_pos hT0]
        have e4 : longE long = E4 := by rw [← H4.out]; unfold bestE; rw [HT.out, if_pos hT0]
        have O := timesE_ok (HT.out.trans hT0)
        have o1 := O.a0
        have o2 := O.ato
        have o3 := O.to_
        have G1 := Lib.hid e1
        have G2 := Lib.hid e2
        have G3 := Lib.hid e3
        have G4 := Lib.hid e4
        have HT0 := Lib.hid hT0
        have e3' : (if momE at_ = 0 then longE long else momE at_) = E3 := e3
        have G5 := Lib.hid e3'
        have KX : Hid (∀ W' : World, W4.grownBy W' none → W'.cell? ⟨B5, 0, none⟩ = some (.int .i64 a) ∧ W'.cell? ⟨B5, 1, none⟩ = some (.int .i64 z) ∧ W'.cell? ⟨w5.heap.size, 0, none⟩ = some (.int .i64 x) ∧ W'.cell? ⟨w5.heap.size, 1, none⟩ = some (.int .i64 y) ∧ W4.grownBy W' none) :=
          fun W' hW => ⟨(x5.grown hW (by simp)).cell 0, (x5.grown hW (by simp)).cell 1, (x6.grown hW (by simp)).cell 0, (x6.grown hW (by simp)).cell 1, hW⟩
        clear e1 e2 e3 e4 e3' hT0 O
        go_wp2_with fail
        go_region_held3 (fun W' => W'.cell? ⟨B5, 0, none⟩ = some (.int .i64 a) ∧ W'.cell? ⟨B5, 1, none⟩ = some (.int .i64 z) ∧ W'.cell? ⟨w5.heap.size, 0, none⟩ = some (.int .i64 x) ∧ W'.cell? ⟨w5.heap.size, 1, none⟩ = some (.int .i64 y) ∧ W4.grownBy W' none)
          ((exact KX.out _ (by repeat (first | exact gr_refl _ _ | assumption | refine gr_drew ?_ | refine gr_alloc ?_ _ | refine gr_trans ?_ (by assumption)))))
          (first | (go_at_call 15; refine (hoursFault_any _ _ _ o1 o2 o3).mono ?_; rintro _ wA ⟨rfl, hgA⟩; rw [G1.out]) | (go_at_call 16; refine (windowFault_any _ _ _).mono ?_; rintro _ wB ⟨rfl, hgB⟩; rw [G2.out]) | (go_at_call 18; refine (momentFault_any _ _).mono ?_; rintro _ wC ⟨rfl, rfl⟩) | (go_at_call 19; refine (longFault_any _ _).mono ?_; rintro _ wD ⟨rfl, rfl⟩) | (go_at_call 17; refine (or2_any _ _ _).mono ?_; rintro _ wE ⟨rfl, hgE⟩; rw [G5.out]) | fail)
        all_goals
          rw [G4.out]
          go_wp2_with fail
          go_meet
          exact ⟨rfl, rfl, rfl, rfl, by repeat (first | exact gr_refl _ _ | assumption | refine gr_drew ?_ | refine gr_alloc ?_ _ | refine gr_trans ?_ (by assumption))⟩
      · have hb0 : (T == 0) = false := by simpa using hT0
        have e1 : T = E1 := by rw [← H1.out, hTN.out _ hT0]
        have e2 : T = E2 := by rw [← H2.out, hTN.out _ hT0]
        have e3 : T = E3 := by rw [← H3.out]; unfold lastE; rw [HT.out, if_neg hT0]
        have e4 : T = E4 := by rw [← H4.out]; unfold bestE; rw [HT.out, if_neg hT0]
        have G1 := Lib.hid e1
        have G2 := Lib.hid e2
        have G3 := Lib.hid e3
        have G4 := Lib.hid e4
        clear e1 e2 e3 e4 hT0
        go_wp2_with fail
        go_meet
        exact ⟨by rw [G1.out], by rw [G2.out], by rw [G3.out], by rw [G4.out], gr_refl _ _⟩
  case rest =>
    as_aux_lemma =>
      obtain ⟨rfl, rfl, rfl, rfl, hg⟩ := hcut
      replace x5 := x5.grown (gr_trans (by repeat (first | exact gr_refl _ _ | assumption | refine gr_alloc ?_ _ | refine gr_drewN ?_ _ | refine gr_drew ?_)) hg) (by first | (simp; done) | (simp; omega))
      replace x5_0 := x5.cell 0
      replace x5_1 := x5.cell 1
      simp only [List.getElem?_toArray, List.getElem?_cons_zero, List.getElem?_cons_succ] at x5_0 x5_1
      replace x5_l := x5.lt
      replace HL1 := Lib.hid (HL1.out.grown (gr_trans (by repeat (first | exact gr_refl _ _ | assumption | refine gr_alloc ?_ _ | refine gr_drewN ?_ _ | refine gr_drew ?_)) hg))
      replace hG1 := gr_trans hG1 (gr_trans (by repeat (first | exact gr_refl _ _ | assumption | refine gr_alloc ?_ _ | refine gr_drewN ?_ _ | refine gr_drew ?_)) hg)
      replace x6 := x6.grown (gr_trans (by repeat (first | exact gr_refl _ _ | assumption | refine gr_alloc ?_ _ | refine gr_drewN ?_ _ | refine gr_drew ?_)) hg) (by first | (simp; done) | (simp; omega))
      replace x6_0 := x6.cell 0
      replace x6_1 := x6.cell 1
      simp only [List.getElem?_toArray, List.getElem?_cons_zero, List.getElem?_cons_succ] at x6_0 x6_1
      replace x6_l := x6.lt
      replace HU := Lib.hid (HU.out.grown (gr_trans (by repeat (first | exact gr_refl _ _ | assumption | refine gr_alloc ?_ _ | refine gr_drewN ?_ _ | refine gr_drew ?_)) hg))
      replace x14 := x14.grown (gr_trans (by repeat (first | exact gr_refl _ _ | assumption | refine gr_alloc ?_ _ | refine gr_drewN ?_ _ | refine gr_drew ?_)) hg) (by first | (simp; done) | (simp; omega))
      replace x14_0 := x14.cell 0
      replace x14_1 := x14.cell 1
      simp only [List.getElem?_toArray, List.getElem?_cons_zero, List.getElem?_cons_succ] at x14_0 x14_1
      replace x14_l := x14.lt
      replace x20 := x20.grown (gr_trans (by repeat (first | exact gr_refl _ _ | assumption | refine gr_alloc ?_ _ | refine gr_drewN ?_ _ | refine gr_drew ?_)) hg) (by first | (simp; done) | (simp; omega))
      replace x20_0 := x20.cell 0
      replace x20_1 := x20.cell 1
      simp only [List.getElem?_toArray, List.getElem?_cons_zero, List.getElem?_cons_succ] at x20_0 x20_1
      replace x20_l := x20.lt
      clear hg
      generalize wc = C0 at *
      have K5 : Hid (∀ W' : World, C0.grownBy W' none → W'.cell? ⟨B5, 0, none⟩ = some (.int .i64 a) ∧ W'.cell? ⟨B5, 1, none⟩ = some (.int .i64 z) ∧ W'.cell? ⟨w5.heap.size, 0, none⟩ = some (.int .i64 x) ∧ W'.cell? ⟨w5.heap.size, 1, none⟩ = some (.int .i64 y)) :=
        fun W' hW => ⟨(x5.grown hW (by simp)).cell 0, (x5.grown hW (by simp)).cell 1, (x6.grown hW (by simp)).cell 0, (x6.grown hW (by simp)).cell 1⟩
      go_upto_if 117 with fail
      have x31 := (Blk.new C0 38 #[.int .i64 0, .int .i64 0]).alloc (.cells #[.int .i64 0, .int .i64 0] 27)
      have x32 := Blk.new (C0.alloc (.cells #[.int .i64 0, .int .i64 0] 38)) 27 #[.int .i64 0, .int .i64 0]
      rw [World.size_alloc] at x32
      have hgc : C0.grownBy ((C0.alloc (.cells #[.int .i64 0, .int .i64 0] 38)).alloc (.cells #[.int .i64 0, .int .i64 0] 27)) none := gr_alloc (World.grownBy_alloc C0 _ none) _
      generalize (C0.alloc (.cells #[.int .i64 0, .int .i64 0] 38)).alloc (.cells #[.int .i64 0, .int .i64 0] 27) = V1 at *
      have hv1 := x32.lt
      go_cut [26] (fun s26 wr => IntsFrom (C0.heap.size + 2) wr s26 (hoursAllL l a z) ∧ V1.grownBy wr none)
      case first =>
        as_aux_lemma =>
          by_cases hE : E1 = 0
          · have hb0 : (E1 == 0) = true := by simpa using hE
            obtain ⟨t0, h0⟩ := orE_0 (H1.out.trans hE)
            have hh : hoursI a z ≤ 1000 := hoursE_0 h0
            obtain ⟨k0, k1, k2, k3⟩ := K5.out _ hgc
            have HF : Hid (hoursAllL l a z = hourAll l a z) := by show _ = _; unfold hoursAllL; rw [HT.out, H1.out, if_pos hE]
            have HT0 := Lib.hid (HT.out.trans t0)
            clear hE t0 h0
            go_wp2_with fail
            refine (hoursOf_ok _ _ _ _ _ _ (HL1.out.grown hgc) HT0.out hh).mono ?_
            rintro _ V2 ⟨u, rfl, hu, hg⟩
            have hu' := Lib.hid (ownsRow_low (base' := C0.heap.size + 2) hu (by omega))
            clear hu
            go_wp2_with fail
            go_meet
            exact ⟨by rw [HF.out]; exact hu'.out, hg⟩
          · have hb0 : (E1 == 0) = false := by simpa using hE
            have HF : Hid (hoursAllL l a z = []) := by show _ = _; unfold hoursAllL; rw [HT.out, H1.out, if_neg hE]
            clear hE
            go_wp2_with fail
            go_meet
            exact ⟨by rw [HF.out]; exact IntsFrom.nil _ _, gr_refl _ _⟩
      case rest =>
        as_aux_lemma =>
          obtain ⟨hu, hg⟩ := hcut
          have HU2 := Lib.hid hu
          replace x31 := x31.grown hg (by simp)
          replace x32 := x32.grown hg (by simp)
          replace hgc := gr_trans hgc hg
          clear hg hu
          generalize wc = C1 at *
          go_upto_if 122 with fail
          go_cut [27] (fun s27 wr => s27 = .int .i64 ina ∧ C1.grownBy wr none)
          case first =>
            as_aux_lemma =>
              by_cases hE : E2 = 0
              · have hb0 : (E2 == 0) = true := by simpa using hE
                have HF : Hid (manyI l x y = ina) := by show _ = _; rw [← HIN.out]; unfold inAll; rw [HT.out, H2.out, if_pos hE]
                obtain ⟨k0, k1, k2, k3⟩ := K5.out _ hgc
                clear hE
                go_wp2_with fail
                refine (inOf_any _ _ _ _ _ _ (HL1.out.grown hgc) (by omega)).mono ?_
                rintro _ V2 ⟨rfl, hg⟩
                rw [HF.out]
                go_wp2_with fail
                go_meet
                exact ⟨rfl, hg⟩
              · have hb0 : (E2 == 0) = false := by simpa using hE
                have HF : Hid (0 = ina) := by show _ = _; rw [← HIN.out]; unfold inAll; rw [HT.out, H2.out, if_neg hE]
                clear hE
                go_wp2_with fail
                go_meet
                exact ⟨by rw [← HF.out], gr_refl _ _⟩
          case rest =>
            as_aux_lemma =>
              obtain ⟨rfl, hg⟩ := hcut
              replace HU2 := Lib.hid (IntsFrom.grown HU2.out hg)
              replace x31 := x31.grown hg (by simp)
              replace x32 := x32.grown hg (by simp)
              replace hgc := gr_trans hgc hg
              clear hg
              generalize wc = C2 at *
              go_upto_if 127 with fail
              go_cut [30] (fun s30 wr => s30 = .bool rb ∧ Blk wr C0.heap.size 38 #[.int .i64 rn, .int .i64 rd] ∧ C2.grownBy wr (some C0.heap.size))
              case first =>
                as_aux_lemma =>
                  by_cases hE : E3 = 0
                  · have hb0 : (E3 == 0) = true := by simpa using hE
                    have hE' := H3.out.trans hE
                    obtain ⟨t0, m0⟩ : timesE l a z = 0 ∧ mlE at_ long = 0 := lastE_0 hE'
                    obtain ⟨k0, k1, k2, k3⟩ := K5.out _ hgc
                    have M0 := Lib.hid m0
                    have T0 := Lib.hid t0
                    have EE := Lib.hid hE'
                    clear hE hE' m0 t0
                    by_cases hlt : lastA a at_ long < lastT z at_
                    · have hB : rateB l a z at_ long = true := by unfold rateB; simp [EE.out, hlt]
                      have F0 : Hid (rb = true) := by show _ = _; rw [← HRB.out, hB]
                      have F1 : Hid (rn = lowN (manyI l (lastA a at_ long) (lastT z at_) * 3600000) (lastT z at_ - lastA a at_ long)) := by show _ = _; rw [← HRN.out]; unfold rateN; rw [hB]; rfl
                      have F2 : Hid (rd = lowD (manyI l (lastA a at_ long) (lastT z at_) * 3600000) (lastT z at_ - lastA a at_ long)) := by show _ = _; rw [← HRD.out]; unfold rateD; rw [hB]; rfl
                      have LT := Lib.hid hlt
                      clear hB hlt
                      go_wp2_with fail
                      refine (rateOf_ok _ _ _ _ _ _ _ _ (HL1.out.grown hgc) T0.out M0.out LT.out).mono ?_
                      rintro _ V2 ⟨rfl, hg⟩
                      rw [← F1.out, ← F2.out]
                      have y31 := x31.grown hg (by simp)
                      have y0 := y31.cell 0
                      have y1 := y31.cell 1
                      have yf0 := y31.free 0
                      have yf1 := y31.free 1
                      simp only [List.getElem?_toArray, List.getElem?_cons_zero, List.getElem?_cons_succ] at y0 y1
                      go_wp2_with fail
                      go_meet
                      exact ⟨by rw [F0.out], (y31.put 0 _).put 1 _, gr_put2 (gr_weak hg _) _ _ _ _⟩
                    · have hB : rateB l a z at_ long = false := by unfold rateB; simp; omega
                      have F0 : Hid (rb = false) := by show _ = _; rw [← HRB.out, hB]
                      have F1 : Hid (rn = 0) := by show _ = _; rw [← HRN.out]; unfold rateN; rw [hB]; rfl
                      have F2 : Hid (rd = 0) := by show _ = _; rw [← HRD.out]; unfold rateD; rw [hB]; rfl
                      have LT : Hid (lastT z at_ ≤ lastA a at_ long) := Int.not_lt.1 hlt
                      clear hB hlt
                      go_wp2_with fail
                      refine (rateOf_none _ _ _ _ _ _ _ _ (HL1.out.grown hgc) T0.out M0.out LT.out).mono ?_
                      rintro _ V2 ⟨rfl, hg⟩
                      have y31 := x31.grown hg (by simp)
                      have y0 := y31.cell 0
                      have y1 := y31.cell 1
                      have yf0 := y31.free 0
                      have yf1 := y31.free 1
                      simp only [List.getElem?_toArray, List.getElem?_cons_zero, List.getElem?_cons_succ] at y0 y1
                      go_wp2_with fail
                      go_meet
                      exact ⟨by rw [F0.out], by rw [F1.out, F2.out]; exact (y31.put 0 _).put 1 _, gr_put2 (gr_weak hg _) _ _ _ _⟩
                  · have hb0 : (E3 == 0) = false := by simpa using hE
                    have hB : rateB l a z at_ long = false := by unfold rateB; rw [H3.out]; simp [hE]
                    have F0 : Hid (rb = false) := by show _ = _; rw [← HRB.out, hB]
                    have F1 : Hid (rn = 0) := by show _ = _; rw [← HRN.out]; unfold rateN; rw [hB]; rfl
                    have F2 : Hid (rd = 0) := by show _ = _; rw [← HRD.out]; unfold rateD; rw [hB]; rfl
                    clear hE hB
                    go_wp2_with fail
                    go_meet
                    exact ⟨by rw [F0.out], by rw [F1.out, F2.out]; exact x31, gr_refl _ _⟩
              case rest =>
                as_aux_lemma =>
                  obtain ⟨rfl, x31', hg⟩ := hcut
                  have hgn : C0.grownBy wc none := gr_grown hgc hg (fun g e => by injection e with e; exact .inr (by omega))
                  replace HU2 := Lib.hid (IntsFrom.other HU2.out hg (by omega))
                  replace x32 := x32.grown hg (by simp)
                  clear x31 hgc hg
                  have x31 := x31'
                  have hgc := hgn
                  clear x31' hgn
                  generalize wc = C3 at *
                  obtain ⟨ba, hba⟩ : ∃ E, bestA l a z long = E := ⟨_, rfl⟩
                  obtain ⟨bm, hbm⟩ : ∃ E, bestM l a z long = E := ⟨_, rfl⟩
                  rw [hba, hbm]
                  have HBA := Lib.hid hba
                  have HBM := Lib.hid hbm
                  clear hba hbm
                  go_upto_if 137 with fail
                  go_cut [28, 29] (fun s28 s29 wr => s28 = .int .i64 ba ∧ s29 = .int .i64 bm ∧ C3.grownBy wr none)
                  case first =>
                    as_aux_lemma =>
                      by_cases hE : E4 = 0
                      · have hb0 : (E4 == 0) = true := by simpa using hE
                        have hE' := H4.out.trans hE
                        obtain ⟨t0, m0⟩ := bestE_0 hE'
                        obtain ⟨k0, k1, k2, k3⟩ := K5.out _ hgc
                        have F1 : Hid ((bestI l a long).1 = ba) := by show _ = _; rw [← HBA.out]; unfold bestA; rw [if_pos hE']
                        have F2 : Hid ((bestI l a long).2 = bm) := by show _ = _; rw [← HBM.out]; unfold bestM; rw [if_pos hE']
                        have M0 := Lib.hid m0
                        have T0 := Lib.hid t0
                        clear hE hE' m0 t0
                        go_wp2_with fail
                        refine (bestOf_ok _ _ _ _ _ _ _ (HL1.out.grown hgc) T0.out M0.out).mono ?_
                        rintro _ V2 ⟨rfl, hg⟩
                        rw [F1.out, F2.out]
                        go_wp2_with fail
                        go_meet
                        exact ⟨rfl, rfl, hg⟩
                      · have hb0 : (E4 == 0) = false := by simpa using hE
                        have hE' : ¬ bestE l a z long = 0 := by rw [H4.out]; exact hE
                        have F1 : Hid (0 = ba) := by show _ = _; rw [← HBA.out]; unfold bestA; rw [if_neg hE']
                        have F2 : Hid (0 = bm) := by show _ = _; rw [← HBM.out]; unfold bestM; rw [if_neg hE']
                        clear hE hE'
                        go_wp2_with fail
                        go_meet
                        exact ⟨by rw [F1.out], by rw [F2.out], gr_refl _ _⟩
                  case rest =>
                    as_aux_lemma =>
                      obtain ⟨rfl, rfl, hg⟩ := hcut
                      replace HU2 := Lib.hid (IntsFrom.grown HU2.out hg)
                      replace x31 := x31.grown hg (by simp)
                      replace x32 := x32.grown hg (by simp)
                      replace hgc := gr_trans hgc hg
                      clear hg
                      generalize wc = C4 at *
                      go_upto_if 146 with fail
                      go_cut [2] (fun s2 wr => Blk wr (C0.heap.size + 1) 27 #[.int .i64 ga, .int .i64 gt] ∧ C4.grownBy wr (some (C0.heap.size + 1)))
                      case first =>
                        as_aux_lemma =>
                          by_cases hE : T = 0
                          · have hb0 : (T == 0) = true := by simpa using hE
                            have t0 := HT.out.trans hE
                            obtain ⟨k0, k1, k2, k3⟩ := K5.out _ hgc
                            have F1 : Hid ((gapI l a z).1 = ga) := by show _ = _; rw [← HGA.out]; unfold gapA; rw [if_pos t0]
                            have F2 : Hid ((gapI l a z).2 = gt) := by show _ = _; rw [← HGT.out]; unfold gapT; rw [if_pos t0]
                            have T0 := Lib.hid t0
                            clear hE t0
                            go_wp2_with fail
                            refine (gapOf_ok _ _ _ _ _ _ (HL1.out.grown hgc) T0.out).mono ?_
                            rintro _ V2 ⟨rfl, hg⟩
                            rw [F1.out, F2.out]
                            have y31 := x32.grown hg (by simp)
                            have y0 := y31.cell 0
                            have y1 := y31.cell 1
                            have yf0 := y31.free 0
                            have yf1 := y31.free 1
                            simp only [List.getElem?_toArray, List.getElem?_cons_zero, List.getElem?_cons_succ] at y0 y1
                            go_wp2_with fail
                            go_meet
                            exact ⟨(y31.put 0 _).put 1 _, gr_put2 (gr_weak hg _) _ _ _ _⟩
                          · have hb0 : (T == 0) = false := by simpa using hE
                            have t0 : ¬ timesE l a z = 0 := by rw [HT.out]; exact hE
                            have F1 : Hid (0 = ga) := by show _ = _; rw [← HGA.out]; unfold gapA; rw [if_neg t0]
                            have F2 : Hid (0 = gt) := by show _ = _; rw [← HGT.out]; unfold gapT; rw [if_neg t0]
                            clear hE t0
                            go_wp2_with fail
                            go_meet
                            exact ⟨by rw [← F1.out, ← F2.out]; exact x32, gr_refl _ _⟩
                      case rest =>
                        as_aux_lemma =>
                          obtain ⟨x32', hg⟩ := hcut
                          have hgn : C0.grownBy wc none := gr_grown hgc hg (fun g e => by injection e with e; exact .inr (by omega))
                          replace HU2 := Lib.hid (IntsFrom.other HU2.out hg (by omega))
                          replace x31 := x31.grown hg (by simp)
                          have HU1 := Lib.hid (HU.out.grown hgn)
                          have z14 := x14.grown hgn (by simp)
                          have z20 := x20.grown hgn (by simp)
                          have hGf := gr_trans hG1 hgn
                          clear x32 hgc hg hgn x14 x20 hG1 HU
                          go_wp2_with fail
                          refine (equalInts_same _ _ _ _ HU1.out (ownsRow_low HU2.out (Nat.zero_le _))).mono ?_
                          rintro _ V2 ⟨rfl, hg⟩
                          replace z14 := z14.grown hg (by simp)
                          replace z20 := z20.grown hg (by simp)
                          replace x31 := x31.grown hg (by simp)
                          replace x32' := x32'.grown hg (by simp)
                          have a0 := z14.cell 0
                          have a1 := z14.cell 1
                          have a2 := z20.cell 0
                          have a3 := z20.cell 1
                          have a4 := x31.cell 0
                          have a5 := x31.cell 1
                          have a6 := x32'.cell 0
                          have a7 := x32'.cell 1
                          simp only [List.getElem?_toArray, List.getElem?_cons_zero, List.getElem?_cons_succ] at a0 a1 a2 a3 a4 a5 a6 a7
                          go_wp2_with fail
                          refine (rated_any _).mono ?_
                          rintro _ V3 ⟨rfl, hg3⟩
                          go_wp2_with fail
                          go_ret
                          exact ⟨rfl, gr_below (gr_trans (gr_trans hGf hg) hg3)⟩
end Go.Proofs.Ytjhklpffmfdkbaa
