/- The law MarksHeard: CheckMarks, With, Hear, Uneven and Clean are as specified for all marks and gaps. Condition: an argument that lies in its block, and package-level variables of the library as its text lays them. -/
import Derived.Test.YtcimnlcmpfagnaaDoorKeyedS
import Derived.Test.YtcimnlcmpfagnaaDoorCleanedRef
import Derived.Test.YtcimnlcmpfagnaaDoorMarksRef
import Derived.Test.YtcimnlcmpfagnaaDoorHeardOf
import Derived.Test.YtcimnlcmpfagnaaDoorWith
import Derived.Test.YtcimnlcmpfagnaaDoorIntsEq
import Derived.Test.YtcimnlcmpfagnaaDoorStart
import Derived.Deep.DeepCutAuto
namespace Go.Proofs.YtcimnlcmpfagnaaDoor
open Go.RowKit
set_option linter.unusedVariables false
set_option linter.unusedSimpArgs false

def hdS (l : List Int) : List UInt8 := if hearB l = true then hearS l else []
def hdU (l : List Int) : Int := if hearB l = true then hearU l else 0
def hdO (l : List Int) : Int := if hearB l = true then (hearTo l 2000).2 else 0
theorem hear_flat {l : List Int} {w w' : World} {e : Ending} (h : HearPost l w e w') : w.grownBy w' none ∧ e = .returned (.tuple #[.agg #[.string ⟨(hdS l).toArray⟩, .int .i64 (hdU l), .int .i64 (hdO l)], .bool (hearB l), .int .i64 (marksE l)]) := by
  obtain ⟨hg, ⟨hb, he⟩ | ⟨hb, he⟩⟩ := h
  · refine ⟨hg, ?_⟩
    have h0 : marksE l = 0 := by
      unfold hearB at hb
      simp only [Bool.and_eq_true, decide_eq_true_eq] at hb
      exact hb.1
    rw [he]
    unfold hdS hdU hdO
    rw [if_pos hb, if_pos hb, if_pos hb, hb, h0]
  · refine ⟨hg, ?_⟩
    rw [he]
    unfold hdS hdU hdO
    rw [if_neg (by rw [hb]; decide), if_neg (by rw [hb]; decide), if_neg (by rw [hb]; decide), hb]
theorem heardRef_flat {l : List Int} {w w' : World} {e : Ending} (h : HeardRefPost l w e w') : w.grownBy w' none ∧ e = .returned (.tuple #[.agg #[.string ⟨(hdS l).toArray⟩, .int .i64 (hdU l), .int .i64 (hdO l)], .bool (hearB l)]) := by
  obtain ⟨hg, ⟨hb, he⟩ | ⟨hb, he⟩⟩ := h
  · refine ⟨hg, ?_⟩
    rw [he]
    unfold hdS hdU hdO
    rw [if_pos hb, if_pos hb, if_pos hb, hb]
  · refine ⟨hg, ?_⟩
    rw [he]
    unfold hdS hdU hdO
    rw [if_neg (by rw [hb]; decide), if_neg (by rw [hb]; decide), if_neg (by rw [hb]; decide), hb]
theorem hear_none {l : List Int} (h : marksE l ≠ 0) : hearB l = false ∧ hdS l = [] ∧ hdU l = 0 ∧ hdO l = 0 := by
  have hb : hearB l = false := by unfold hearB; rw [decide_eq_false h]; rfl
  refine ⟨hb, ?_, ?_, ?_⟩
  · unfold hdS; rw [hb]; rfl
  · unfold hdU; rw [hb]; rfl
  · unfold hdO; rw [hb]; rfl
set_option maxHeartbeats 1000000 in
theorem keyedB_any (b : Nat) (w : World) (hgl : Gl b w) : Calls Tryd.prog 22 #[] w fun r w' => r = .returned (.bool true) ∧ w.grownBy w' none := by
  have hu := units_any b parisS w hgl (by decide)
  rw [paris_ok, paris_units] at hu
  have HU : Hid (Calls Tryd.prog 34 #[.string ⟨#[112, 97, 114, 105, 115]⟩] w fun e w' => e = .returned (.tuple #[.int .i64 43, .int .i64 0]) ∧ w.grownBy w' none) := hu
  clear hu hgl
  go_enter Tryd.func22, Tryd.ntmps22
  go_wp2_with fail
  refine HU.out.mono ?_
  rintro _ w1 ⟨rfl, hg1⟩
  go_wp2_with fail
  go_ret
  exact ⟨rfl, hg1⟩
theorem ints_far {w w' : World} {base : Nat} {v : Value} {l : List Int} (h : IntsFrom base w v l) {row : Option Nat} (hg : w.grownBy w' row) (hr : ∀ g, row = some g → g < base) : IntsFrom base w' v l := by
  refine World.ownsRow.kept h hg ?_
  cases hv : v.ownBlock with
  | none => exact .inl rfl
  | some g => exact .inr fun e => by have h1 := hr g e.symm; have h2 := (World.ownsRow.lt h g hv).1; omega
theorem ints_near {w w' : World} {base B : Nat} {v : Value} {l : List Int} (h : IntsFrom base w v l) (hv : ∀ g, v.ownBlock = some g → g < B) {row : Option Nat} (hg : w.grownBy w' row) (hr : ∀ g, row = some g → B ≤ g) : IntsFrom base w' v l := by
  refine World.ownsRow.kept h hg ?_
  cases hv' : v.ownBlock with
  | none => exact .inl rfl
  | some g => exact .inr fun e => by have h1 := hr g e.symm; have h2 := hv g hv'; omega
/-- The second error of the law: of the number, and of what is cleaned. -/
def twoE (l : List Int) (m : Int) : Int := if marksE l = 0 then spanE m 1 100000 else marksE l
theorem twoE_ok {l : List Int} {m : Int} (h : twoE l m = 0) : marksE l = 0 ∧ 1 ≤ m ∧ m ≤ 100000 := by
  unfold twoE at h
  by_cases h0 : marksE l = 0
  · rw [if_pos h0] at h
    exact ⟨h0, spanE_zero h⟩
  · rw [if_neg h0] at h
    exact absurd h h0
theorem twoE_bad {l : List Int} {m : Int} (h : twoE l m ≠ 0) : cleanE l m = twoE l m ∧ cleanK l m = [] := by
  have e : cleanE l m = twoE l m := by
    unfold twoE at h ⊢
    unfold cleanE
    by_cases h0 : marksE l = 0
    · rw [if_pos h0] at h
      rw [if_pos h0, if_pos h0, if_neg h]
    · rw [if_neg h0, if_neg h0]
  exact ⟨e, by unfold cleanK; rw [e, if_neg h]⟩
set_option maxRecDepth 100000 in
set_option maxHeartbeats 8000000 in
theorem marksLaw (A : Option Addr) (n c : Nat) (w : World) (hin : In w A n) (hgl : Gl w.heap.size w) :
    Calls Tryd.prog 3 #[.slice A n c] w fun r w' => r = .returned (.bool true) ∧ Below w.heap.size w w' := by
  have hs0 := Str.start (c := c) hin
  have HGL := Lib.hid hgl
  clear hin hgl
  go_enter Tryd.func3, Tryd.ntmps3
  go_wp2_with fail
  have hG0 := World.grownBy_alloc w (.cells #[.slice A n c, .int .i64 0] 25) none
  generalize w.alloc (.cells #[.slice A n c, .int .i64 0] 25) = W0 at *
  generalize hb : w.heap.size = b at *
  have HB := Lib.hid hb
  clear hb
  have hgl0 := HGL.out.quiet hG0
  refine (keyedS_in b b 0 _ hs0 (by decide) hgl0 (Nat.le_refl _)).mono ?_
  rintro _ w1 ⟨v, l, rfl, hv, h34, hx, hs1, hg1⟩
  have hG1 : w.grownBy w1 none := gr_grown hG0 hg1 (fun g e => by injection e with e; exact .inr (by have := HB.out; omega))
  have hlt0 := hs0.lt
  have hv1 : Hid (IntsFrom (b + 1) w1 v l) := ownsRow_low hv (show b + 1 ≤ W0.heap.size by omega)
  clear hs0 hG0 hgl0 hv hg1 hlt0 hx
  go_wp2_with fail
  refine (pick_at b _ _ 5 5 [1, 20, 60, 100, 0] _ hs1 (by first | rfl | simp) (by decide) rfl (by decide) (by decide)).mono ?_
  rintro _ w2 ⟨u, hu, rfl, hs2, hg2⟩
  have hG2 : w.grownBy w2 none := gr_grown hG1 hg2 (fun g e => by injection e with e; exact .inr (by have := HB.out; omega))
  have hv2 := Lib.hid (IntsFrom.other hv1.out hg2 (by omega))
  clear hs1 hG1 hv1 hg2 hu
  go_wp2_with fail
  refine (pick_at b _ _ 6 6 [1, 5, 20, 70, 400, 0] _ hs2 (by first | rfl | simp) (by decide) rfl (by decide) (by decide)).mono ?_
  rintro _ w3 ⟨m, hm, rfl, hs3, hg3⟩
  have hG3 : w.grownBy w3 none := gr_grown hG2 hg3 (fun g e => by injection e with e; exact .inr (by have := HB.out; omega))
  have HV := Lib.hid (IntsFrom.other hv2.out hg3 (by omega))
  clear hs2 hs3 hG2 hv2 hg3 hm
  have HCM := Lib.hid (fun W (h : IntsFrom (b + 1) W v l) => checkMarks_any (b + 1) v l W h)
  have HRM := Lib.hid (fun W (h : IntsFrom (b + 1) W v l) => marksFault_any (b + 1) v l W h)
  have HWI := Lib.hid (fun W (h : IntsFrom (b + 1) W v l) (hg : Gl b W) => with_any (b + 1) b v l u W h hg)
  have HUN := Lib.hid (fun W (h : IntsFrom (b + 1) W v l) => uneven_any (b + 1) v l u W h)
  have HHE := Lib.hid (fun W (h : IntsFrom (b + 1) W v l) (hg : Gl b W) => hear_any (b + 1) b v l W h hg)
  have HCL := Lib.hid (fun W (h : IntsFrom (b + 1) W v l) => clean_all (b + 1) v l m W h)
  have hone : (if marksE l = 0 then spanE u 1 2000 else marksE l) = unitE l u := rfl
  have htwo : (if marksE l = 0 then spanE m 1 100000 else marksE l) = twoE l m := rfl
  have HONE := Lib.hid hone
  have HTWO := Lib.hid htwo
  clear hone htwo
  obtain ⟨E, hE⟩ : ∃ E, marksE l = E := ⟨_, rfl⟩
  have HE := Lib.hid hE
  rw [hE] at HCM HRM HONE HTWO
  go_wp2_with fail
  refine (HRM.out _ HV.out).mono ?_
  rintro _ _ ⟨rfl, rfl⟩
  go_wp2_with fail
  refine (HCM.out _ HV.out).mono ?_
  rintro _ _ ⟨rfl, rfl⟩
  go_wp2_with fail
  refine (HWI.out _ HV.out (HGL.out.quiet hG3)).mono ?_
  rintro _ w4 ⟨rfl, hg4⟩
  have hG4 := gr_trans hG3 hg4
  have HV4 := Lib.hid (HV.out.grown hg4)
  clear hG3 hg4 HV
  go_wp2_with fail
  refine (HUN.out _ HV4.out).mono ?_
  rintro _ w5 ⟨o5, rfl, ho5, hg5⟩
  have hG5 := gr_trans hG4 hg5
  have HV5 := Lib.hid (HV4.out.grown hg5)
  obtain ⟨UL, hUL⟩ : ∃ UL, (if unitE l u = 0 then unevTo l u l.length else []) = UL := ⟨_, rfl⟩
  rw [hUL] at ho5
  have HO5 := Lib.hid (IntsFrom.low ho5)
  have HULE := Lib.hid hUL
  clear hG4 hg5 HV4 hUL ho5
  go_wp2_with fail
  refine (HHE.out _ HV5.out (HGL.out.quiet hG5)).mono ?_
  intro _ w6 hhear
  obtain ⟨hg6, rfl⟩ := hear_flat hhear
  rw [hE]
  obtain ⟨T, hT⟩ : ∃ T : ByteArray, ⟨(hdS l).toArray⟩ = T := ⟨_, rfl⟩
  obtain ⟨U, hU⟩ : ∃ U, hdU l = U := ⟨_, rfl⟩
  obtain ⟨Q, hQ⟩ : ∃ Q, hdO l = Q := ⟨_, rfl⟩
  obtain ⟨HBB, hHB⟩ : ∃ x, hearB l = x := ⟨_, rfl⟩
  rw [hT, hU, hQ, hHB]
  have HTQ : Hid (⟨(hdS l).toArray⟩ = T ∧ hdU l = U ∧ hdO l = Q ∧ hearB l = HBB) := ⟨hT, hU, hQ, hHB⟩
  have hG6 := gr_trans hG5 hg6
  have HV6 := Lib.hid (HV5.out.grown hg6)
  have HO6 := Lib.hid (HO5.out.grown hg6)
  clear hG5 hg6 HV5 HO5 hT hU hQ hHB hhear
  go_wp2_with fail
  have hB7 := Blk.new w6 35 #[.string T, .int .i64 U, .int .i64 Q]
  have hgA := World.grownBy_alloc w6 (.cells #[.string T, .int .i64 U, .int .i64 Q] 35) none
  have hG7 := gr_trans hG6 hgA
  have HV7 := Lib.hid (HV6.out.grown hgA)
  have HO7 := Lib.hid (HO6.out.grown hgA)
  clear hG6 hgA HV6 HO6
  generalize w6.alloc (.cells #[.string T, .int .i64 U, .int .i64 Q] 35) = w7 at *
  generalize w6.heap.size = g7 at *
  refine (HCL.out _ HV7.out).mono ?_
  rintro _ w8 ⟨c8, rfl, hc8, hg8⟩
  obtain ⟨CE, hCE⟩ : ∃ x, cleanE l m = x := ⟨_, rfl⟩
  obtain ⟨CK, hCK⟩ : ∃ x, cleanK l m = x := ⟨_, rfl⟩
  rw [hCE]
  rw [hCK] at hc8
  have HCC : Hid (cleanE l m = CE ∧ cleanK l m = CK) := ⟨hCE, hCK⟩
  have hG8 := gr_trans hG7 hg8
  have HV8 := Lib.hid (HV7.out.grown hg8)
  have HO8 := Lib.hid (HO7.out.grown hg8)
  have HC8 := Lib.hid (IntsFrom.low hc8)
  have hB8 := hB7.grown hg8 (by simp)
  clear hG7 hg8 HV7 HO7 hB7 hCE hCK hc8
  go_wp2_with fail
  refine (spanFault_any _ _ _ _).mono ?_
  rintro _ _ ⟨rfl, rfl⟩
  go_wp2_with fail
  refine (or2_any _ _ _).mono ?_
  rintro _ w9 ⟨rfl, hg9⟩
  rw [HONE.out]
  go_wp2_with fail
  refine (spanFault_any _ _ _ _).mono ?_
  rintro _ _ ⟨rfl, rfl⟩
  go_wp2_with fail
  refine (or2_any _ _ _).mono ?_
  rintro _ w10 ⟨rfl, hg10⟩
  rw [HTWO.out]
  have hg11 := gr_trans hg9 hg10
  have hB10 := hB8.grown hg11 (by simp)
  have hB12 := hB10.alloc (.cells #[.string ⟨#[]⟩, .int .i64 0, .int .i64 0] 35)
  have hB11 := Blk.new w10 35 #[.string ⟨#[]⟩, .int .i64 0, .int .i64 0]
  have hg12 := gr_trans hg11 (World.grownBy_alloc w10 (.cells #[.string ⟨#[]⟩, .int .i64 0, .int .i64 0] 35) none)
  have hG12 := gr_trans hG8 hg12
  have HV12 := Lib.hid (HV8.out.grown hg12)
  have HO12 := Lib.hid (HO8.out.grown hg12)
  have HC12 := Lib.hid (HC8.out.grown hg12)
  have LO : Hid (∀ g, o5.ownBlock = some g → g < w10.heap.size) := fun g e => (World.ownsRow.lt (HO8.out.grown hg11) g e).2
  have LC : Hid (∀ g, c8.ownBlock = some g → g < w10.heap.size) := fun g e => (World.ownsRow.lt (HC8.out.grown hg11) g e).2
  have hgne : g7 ≠ w10.heap.size := by have := hB10.lt; omega
  have hbW : b ≤ w10.heap.size := by have h1 := (gr_trans hG8 hg11).size; have := HB.out; omega
  obtain ⟨E1, hE1⟩ : ∃ x, unitE l u = x := ⟨_, rfl⟩
  obtain ⟨E2, hE2⟩ : ∃ x, twoE l m = x := ⟨_, rfl⟩
  obtain ⟨WT, hWT⟩ : ∃ x : ByteArray, ⟨(withT l u).toArray⟩ = x := ⟨_, rfl⟩
  obtain ⟨WO, hWO⟩ : ∃ x, withO l u = x := ⟨_, rfl⟩
  rw [hE1, hE2, hWT, hWO]
  have HE12 : Hid (unitE l u = E1 ∧ twoE l m = E2 ∧ (⟨(withT l u).toArray⟩ : ByteArray) = WT ∧ withO l u = WO) := ⟨hE1, hE2, hWT, hWO⟩
  clear hg9 hg10 hg11 hg12 hB8 hB10 hG8 HV8 HO8 HC8 HONE HTWO HCM HRM HWI HUN HHE HCL hE1 hE2 hWT hWO hE
  have hsW : (w10.alloc (.cells #[.string ⟨#[]⟩, .int .i64 0, .int .i64 0] 35)).heap.size = w10.heap.size + 1 := by simp
  go_upto_if 79 with fail
  generalize w10.alloc (.cells #[.string ⟨#[]⟩, .int .i64 0, .int .i64 0] 35) = W at *
  generalize w10.heap.size = g12 at *
  go_cut [20, 21, 22] (fun s20 s21 s22 wq => s20 = .string WT ∧ s21 = .int .i64 WO ∧ Hid (IntsFrom (g12 + 1) wq s22 UL) ∧ W.grownBy wq none)
  case first =>
    as_aux_lemma =>
      by_cases h0 : E1 = 0
      · subst h0
        obtain ⟨x1, x2, x3⟩ := unitE_zero HE12.out.1
        obtain ⟨m1, m2, m3⟩ := marksE_ok x1
        have e1 : WT = strB (readL l u) := by rw [← HE12.out.2.2.1]; unfold withT; rw [if_pos HE12.out.1]; rfl
        have e2 : WO = offL l u := by rw [← HE12.out.2.2.2]; unfold withO; rw [if_pos HE12.out.1]
        have e3 : UL = unevTo l u l.length := by rw [← HULE.out, if_pos HE12.out.1]
        have H1 := Lib.hid (withUnit_any (b + 1) b v l u W HV12.out m1 m2 (fun x hx => by have := m3 x hx; omega) (by omega) (by omega) (HGL.out.quiet hG12))
        have H2 := Lib.hid (fun X (h : IntsFrom (b + 1) X v l) => unevenOf_any (b + 1) v l u X h x1 x2 x3)
        rw [← e1, ← e2] at H1
        rw [← e3] at H2
        clear e1 e2 e3 x1 x2 x3 m1 m2 m3
        go_wp2_with fail
        refine H1.out.mono ?_
        rintro _ wa ⟨rfl, hga⟩
        have hsa := hga.size
        go_wp2_with fail
        refine (H2.out _ (HV12.out.grown hga)).mono ?_
        rintro _ wb ⟨o, rfl, ho, hgb⟩
        have HO := Lib.hid (ownsRow_low ho (show g12 + 1 ≤ wa.heap.size by omega))
        have hgab := gr_trans hga hgb
        clear ho hga hgb
        go_wp2_with fail
        go_meet
        exact ⟨rfl, rfl, HO.out, hgab⟩
      · have e1 : WT = ⟨#[]⟩ := by rw [← HE12.out.2.2.1]; unfold withT; rw [HE12.out.1, if_neg h0]
        have e2 : WO = 0 := by rw [← HE12.out.2.2.2]; unfold withO; rw [HE12.out.1, if_neg h0]
        have e3 : UL = [] := by rw [← HULE.out, HE12.out.1, if_neg h0]
        have HEE : Hid (WT = ⟨#[]⟩ ∧ WO = 0 ∧ UL = []) := ⟨e1, e2, e3⟩
        have hb0 : (E1 == 0) = false := by rw [beq_eq_false_iff_ne]; exact h0
        clear e1 e2 e3
        go_wp2_with fail
        go_meet
        exact ⟨by rw [HEE.out.1], by rw [HEE.out.2.1], by rw [HEE.out.2.2]; exact IntsFrom.nil _ _, gr_refl _ _⟩
  case rest =>
    obtain ⟨rfl, rfl, HU1, hgq⟩ := hcut
    rename World => w13
    have HG13 := gr_trans hG12 hgq
    have HV13 := Lib.hid (HV12.out.grown hgq)
    have HO13 := Lib.hid (HO12.out.grown hgq)
    have HC13 := Lib.hid (HC12.out.grown hgq)
    have hB13 := hB12.grown hgq (by simp)
    have hB14 := hB11.grown hgq (by simp)
    have hs13 := hgq.size
    clear hG12 hgq HV12 HO12 HC12 hB12 hB11
    go_upto_if 90 with fail
    go_cut [19, 23] (fun s19 s23 wq => s19 = .int .i64 CE ∧ Hid (IntsFrom (g12 + 1) wq s23 CK) ∧ w13.grownBy wq none)
    case first =>
      as_aux_lemma =>
        by_cases h0 : E2 = 0
        · subst h0
          obtain ⟨x1, x2, x3⟩ := twoE_ok HE12.out.2.1
          have H1 := Lib.hid (cleanedRef_any (b + 1) v l m w13 HV13.out x1 x2 x3)
          unfold ClndPost at H1
          have e1 : clndE l m = CE := by rw [← HCC.out.1, cleanE_in x1 x2 x3]
          have e2 : (if clndE l m = 0 then cleanL m l else []) = CK := by rw [← HCC.out.2]; unfold cleanK; rw [cleanE_in x1 x2 x3]
          rw [e2, e1] at H1
          clear e1 e2 x1 x2 x3
          go_wp2_with fail
          refine H1.out.mono ?_
          rintro _ wa ⟨u1, rfl, hu1, hga⟩
          have HO := Lib.hid (ownsRow_low hu1 (show g12 + 1 ≤ w13.heap.size by omega))
          clear hu1
          go_wp2_with fail
          go_meet
          exact ⟨rfl, HO.out, hga⟩
        · obtain ⟨e1, e2⟩ := twoE_bad (l := l) (m := m) (by rw [HE12.out.2.1]; exact h0)
          have HEE : Hid (CE = E2 ∧ CK = []) := ⟨by rw [← HCC.out.1, e1, HE12.out.2.1], by rw [← HCC.out.2, e2]⟩
          have hb0 : (E2 == 0) = false := by rw [beq_eq_false_iff_ne]; exact h0
          clear e1 e2
          go_wp2_with fail
          go_meet
          exact ⟨by rw [HEE.out.1], by rw [HEE.out.2]; exact IntsFrom.nil _ _, gr_refl _ _⟩
    case rest =>
      obtain ⟨rfl, HC1, hgq⟩ := hcut
      rename World => w14
      have HG14 := gr_trans HG13 hgq
      have HV14 := Lib.hid (HV13.out.grown hgq)
      have HO14 := Lib.hid (HO13.out.grown hgq)
      have HC14 := Lib.hid (HC13.out.grown hgq)
      have HU14 := Lib.hid (HU1.out.grown hgq)
      replace hB13 := hB13.grown hgq (by simp)
      replace hB14 := hB14.grown hgq (by simp)
      clear HG13 hgq HV13 HO13 HC13 HU1
      go_upto_if 98 with fail
      go_cut [25] (fun s25 wq => s25 = .bool HBB ∧ Blk wq g7 35 #[.string T, .int .i64 U, .int .i64 Q] ∧ Blk wq g12 35 #[.string T, .int .i64 U, .int .i64 Q] ∧ w14.grownBy wq (some g12))
      case first =>
        as_aux_lemma =>
          by_cases h0 : E = 0
          · subst h0
            have H1 : Hid (Calls Tryd.prog 20 #[v] w14 fun e w' => w14.grownBy w' none ∧ e = .returned (.tuple #[.agg #[.string T, .int .i64 U, .int .i64 Q], .bool HBB])) :=
              (heardOf_any (b + 1) b v l w14 HV14.out HE.out (HGL.out.quiet HG14)).mono fun e w' h => by
                obtain ⟨hg, he⟩ := heardRef_flat h
                exact ⟨hg, by rw [he, HTQ.out.1, HTQ.out.2.1, HTQ.out.2.2.1, HTQ.out.2.2.2]⟩
            have H13 := Lib.hid hB13
            have H14 := Lib.hid hB14
            clear hB13 hB14
            go_wp2_with fail
            refine H1.out.mono ?_
            rintro _ wa ⟨hga, rfl⟩
            have hB13a := H13.out.grown hga (by simp)
            have hB14a := H14.out.grown hga (by simp)
            obtain ⟨c0, c1, c2⟩ := blk_cells3 hB14a
            have hfz := hB14a.free
            have hput := blk_put3 hB14a (.string T) (.int .i64 U) (.int .i64 Q)
            have hfar := ((hB13a.far (p := ⟨g12, 0, none⟩) (by simpa using hgne) (.string T)).far (p := ⟨g12, 1, none⟩) (by simpa using hgne) (.int .i64 U)).far (p := ⟨g12, 2, none⟩) (by simpa using hgne) (.int .i64 Q)
            have hlt := hB14a.lt
            have hgp : w14.grownBy (((wa.setCell ⟨g12, 0, none⟩ (.string T)).setCell ⟨g12, 1, none⟩ (.int .i64 U)).setCell ⟨g12, 2, none⟩ (.int .i64 Q)) (some g12) := gr_put (p := (⟨g12, 2, none⟩ : Addr)) (gr_put (p := (⟨g12, 1, none⟩ : Addr)) (gr_put (p := (⟨g12, 0, none⟩ : Addr)) (gr_weak hga (some g12)) (.inl rfl) (.string T)) (.inl rfl) (.int .i64 U)) (.inl rfl) (.int .i64 Q)
            clear hga hB13a hB14a
            go_wp2_with fail
            go_meet
            exact ⟨rfl, hfar, hput, hgp⟩
          · obtain ⟨y1, y2, y3, y4⟩ := hear_none (l := l) (by rw [HE.out]; exact h0)
            have HEE : Hid (T = ⟨#[]⟩ ∧ U = 0 ∧ Q = 0 ∧ HBB = false) := ⟨by rw [← HTQ.out.1, y2], by rw [← HTQ.out.2.1, y3], by rw [← HTQ.out.2.2.1, y4], by rw [← HTQ.out.2.2.2, y1]⟩
            have hb0 : (E == 0) = false := by rw [beq_eq_false_iff_ne]; exact h0
            have H13 := Lib.hid hB13
            have H14 := Lib.hid hB14
            clear y1 y2 y3 y4 hB13 hB14
            go_wp2_with fail
            go_meet
            exact ⟨by rw [HEE.out.2.2.2], H13.out, by rw [HEE.out.1, HEE.out.2.1, HEE.out.2.2.1]; exact H14.out, gr_refl _ _⟩
      case rest =>
        obtain ⟨rfl, hX7, hX12, hgq⟩ := hcut
        rename World => w15
        have hbg : w.heap.size ≤ g12 := by have := HB.out; omega
        have HG15 : w.grownBy w15 none := gr_grown HG14 hgq (fun g e => by injection e with e; exact .inr (by omega))
        have HO15 := Lib.hid (ints_near HO14.out LO.out hgq (fun g e => by injection e with e; omega))
        have HC15 := Lib.hid (ints_near HC14.out LC.out hgq (fun g e => by injection e with e; omega))
        have HU15 := Lib.hid (ints_far HU14.out hgq (fun g e => by injection e with e; omega))
        have HK15 := Lib.hid (ints_far HC1.out hgq (fun g e => by injection e with e; omega))
        have H7 := Lib.hid hX7
        have H12 := Lib.hid hX12
        have hWW : (WT.toList == WT.toList) = true := by simp
        have hTT : (T.toList == T.toList) = true := by simp
        have HQ1 := Lib.hid (equalInts_same o5 _ UL w15 (IntsFrom.low HO15.out) (IntsFrom.low HU15.out))
        have HQ2 := Lib.hid (fun W x (h1 : Ints W c8 CK) (h2 : Ints W x CK) => equalInts_same c8 x CK W h1 h2)
        clear HG14 HV14 HO14 HC14 HU14 HC1 hB13 hB14 hgq HO15 HU15 hX7 hX12
        go_wp2_with fail
        refine HQ1.out.mono ?_
        rintro _ w16 ⟨rfl, hg16⟩
        obtain ⟨c0, c1, c2⟩ := blk_cells3 (H7.out.grown hg16 (by simp))
        obtain ⟨d0, d1, d2⟩ := blk_cells3 (H12.out.grown hg16 (by simp))
        have hG16 := gr_trans HG15 hg16
        go_wp2_with fail
        refine (HQ2.out _ _ (IntsFrom.low (HC15.out.grown hg16)) (IntsFrom.low (HK15.out.grown hg16))).mono ?_
        rintro _ w17 ⟨rfl, hg17⟩
        have hG17 := gr_trans hG16 hg17
        go_wp2_with fail
        refine (keyedB_any b _ (HGL.out.quiet hG17)).mono ?_
        rintro _ w18 ⟨rfl, hg18⟩
        go_wp2_with fail
        go_ret
        exact ⟨rfl, gr_below (gr_trans hG17 hg18)⟩
end Go.Proofs.YtcimnlcmpfagnaaDoor
