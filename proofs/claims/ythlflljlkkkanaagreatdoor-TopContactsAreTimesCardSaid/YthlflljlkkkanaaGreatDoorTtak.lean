/- The walks over the errors of contacts and of rules: the reference's ContactsFault, score.CheckContacts, score.rulesFault. Condition: strings of at most 1000 bytes, calls of ASCII. The stream's Odd, SiteOf, SkyTime: numbers that lie within bounds. Condition: the stream has handed out at most 10^11 numbers. The walks over the stream's WorkedList and RightWorked: contacts whose parts are of a size; right ones. Condition: the stream has handed out at most 10^8 numbers. slices.Contains at kinds of multipliers; score.multsFault. No condition. The walks over rate.Rate and its twin in the reference. Condition: the window's end is no number beyond 2^60; times without error where the name says ok. The walks over rate.Best and its twin in the reference. Condition: the window's end is no number beyond 2^60; times without error where the name says ok. The walks over slices.Clone, rate.Gap, pileref1.gaps and GapOf. Condition: the window's end is no number beyond 2^60; times without error where the name says ok. The walks over pileref1.gaps and GapOf. Condition: times without error; gaps begun at most a second behind. The walk over pileref1.GapOf. Condition: times without error. The walk over pileref1.HoursOf. Condition: times without error, at most 1000 hours. The walk over rate.Hours. Condition: the window's end is no number beyond 2^60. Plain law: the hours add up to all, and no stretch has more than the best one. Condition: sorted times. The plain law of TopContactsAreTimes: those inside and those outside are all; the hours of those inside add up. No condition. -/
import Derived.Test.YthlflljlkkkanaaGreatDoorTtaf
import Derived.Test.YthlflljlkkkanaaGreatDoorTtai
import Derived.Test.YthlflljlkkkanaaGreatDoorTtag
import Derived.Deep.DeepCutAuto
import Derived.Deep.RegionHeld
import Derived.Deep.RegionHeld3
import Derived.Test.YthlflljlkkkanaaGreatDoorTtaa
import Derived.Deep.AppendLies
import Derived.Test.YthlflljlkkkanaaGreatDoorTtac
namespace Go.Proofs.YthlflljlkkkanaaGreatDoor
open Go.RowKit
set_option linter.unusedVariables false
set_option linter.unusedSimpArgs false

theorem emp_is (s : ByteArray) : (s.toList == []) = s.data.toList.isEmpty := by
 rw [Lib.toList_data]
 cases s.data.toList <;> rfl
def conEB (b1 b2 b3 b4 b5 b6 z7 k7 z8 k8 : Bool) : Int :=
 if b1 then 1 else if b2 then 4 else if b3 = false then 5 else if b4 = false then 3 else if b5 then 1 else if b6 then 1 else if (z7 || k7) = false then 5 else if (z8 || k8) = false then 5 else 0
theorem conE1_B (c : Con) : conE1 c = conEB (outB c.tm 0 345686399999) (outB c.mode 1 3) (keyB c.band.data.toList) (isCall c.call) (outB c.sent 0 99999) (outB c.heard 0 99999) c.gave.data.toList.isEmpty (keyB c.gave.data.toList) c.got.data.toList.isEmpty (keyB c.got.data.toList) := rfl
def rulEB (b1 b2 z3 k3 b4 : Bool) : Int := if b1 then 4 else if b2 then 4 else if (z3 || k3) = false then 5 else if b4 then 1 else 0
theorem rulE1_B (r : Rul) : rulE1 r = rulEB (outB r.rel 0 5) (outB r.mode 0 3) r.band.data.toList.isEmpty (keyB r.band.data.toList) (outB r.points 0 1000) := rfl
set_option maxHeartbeats 400000 in
theorem isMode_any (n : Int) (w : World) :
 Calls Tryz.prog 219 #[.int .i64 n] w fun e w' => e = .returned (.bool (!outB n 1 3)) ∧ w = w' := by
 have H := Lib.hid (fun W => outside_any n 1 3 W)
 go_enter Tryz.func219, Tryz.ntmps219
 go_wp2_with fail
 refine (H.out _).mono ?_
 rintro _ _ ⟨rfl, rfl⟩
 go_wp2_with fail
 go_ret
 exact ⟨rfl, rfl⟩
theorem nameB_is (s : ByteArray) : nameB s.data.toList = (s.data.toList.isEmpty || keyB s.data.toList) := rfl
theorem momentFaultB (n : Int) (w : World) :
 Calls Tryz.prog 118 #[.int .i64 n] w fun e w' => e = .returned (.int .i64 (if outB n 0 345686399999 then 1 else 0)) ∧ w = w' := momentFault_any n w
theorem refIsCallB (s : ByteArray) (w : World) (hs : s.size ≤ 1000000000) (ha : Ascii s) :
 Calls Tryz.prog 119 #[.string s] w fun e w' => e = .returned (.bool (isCall s)) ∧ w.grownBy w' none := refIsCall_any s w hs ha
set_option maxRecDepth 100000 in
set_option maxHeartbeats 8000000 in
theorem contactsFault_any (base : Nat) (v : Value) (l : List Con) (w : World) (hl : ConsFrom base w v l) (hsm : ∀ x ∈ l, ConSm x) :
 Calls Tryz.prog 38 #[v] w fun r w' => r = .returned (.int .i64 (consE l)) ∧ w.grownBy w' none := by
 obtain ⟨A, c, rfl, hlen, hA⟩ := hl.shape
 by_cases hbig : 2000 < l.length
 ·have HE : Hid (consE l = 2) := by show _ = _; unfold consE; rw [if_pos hbig]
  have hb : (2000 : Int) < (l.length : Int) := by omega
  clear hl hA
  go_enter Tryz.func38, Tryz.ntmps38
  go_wp2_with fail
  go_ret
  exact ⟨ret_of HE.out.symm, gr_refl _ _⟩
 ·have HE : Hid (consE l = scanE conE1 l) := by show _ = _; unfold consE; rw [if_neg hbig]
  have hb : ¬ (2000 : Int) < (l.length : Int) := by omega
  have HL := Lib.hid hl
  have HA := Lib.hid hA
  clear hl hA
  go_enter Tryz.func38, Tryz.ntmps38
  go_wp2_with fail
  go_loopw [10] (fun iv wr => ∃ k : Nat, k ≤ l.length ∧ iv = .int .i64 k ∧ Hid (consE l = scanE conE1 (l.drop k)) ∧ w.grownBy wr none) (fun iv _ => l.length - (intOf iv).toNat)
  case atStart => exact ⟨0, by omega, rfl, HE, gr_refl _ _⟩
  case round =>
   obtain ⟨k, hk, rfl, HN, hg⟩ := hrel
   by_cases hlt : k < l.length
   ·have hki : (k : Int) < (l.length : Int) := by omega
    obtain ⟨g, rfl, hg0, hg1⟩ := HA.out (by omega)
    obtain ⟨q0, q1, q2, q3, q4, q5, q6, q7⟩ := (HL.out.grown hg).at_ k hlt
    have hst := scanE_step conE1 l k hlt
    rw [← HN.out, conE1_B] at hst
    have hsk := hsm l[k] (List.getElem_mem hlt)
    unfold ConSm at hsk
    obtain ⟨s1, s2, s3, s4, s5⟩ := hsk
    generalize l[k].tm = T at *
    generalize l[k].mode = M at *
    generalize l[k].band = BD at *
    generalize l[k].call = CL at *
    generalize l[k].sent = SE at *
    generalize l[k].heard = HE at *
    generalize l[k].gave = GA at *
    generalize l[k].got = GO at *
    have H1 := (fun W => momentFaultB T W)
    have H2 := (fun W => in_any M 1 3 W)
    have H3 := (fun W => refKey_any BD W (by omega))
    have H4 := (fun W => refIsCallB CL W (by omega) s3)
    have H5 := (fun W => in_any SE 0 99999 W)
    have H6 := (fun W => in_any HE 0 99999 W)
    have H7 := (fun W => refKey_any GA W (by omega))
    have H7e := emp_is GA
    have H8 := (fun W => refKey_any GO W (by omega))
    have H8e := emp_is GO
    obtain ⟨B1, hB1⟩ : ∃ x, outB T 0 345686399999 = x := ⟨_, rfl⟩
    obtain ⟨B2, hB2⟩ : ∃ x, outB M 1 3 = x := ⟨_, rfl⟩
    obtain ⟨B3, hB3⟩ : ∃ x, keyB BD.data.toList = x := ⟨_, rfl⟩
    obtain ⟨B4, hB4⟩ : ∃ x, isCall CL = x := ⟨_, rfl⟩
    obtain ⟨B5, hB5⟩ : ∃ x, outB SE 0 99999 = x := ⟨_, rfl⟩
    obtain ⟨B6, hB6⟩ : ∃ x, outB HE 0 99999 = x := ⟨_, rfl⟩
    obtain ⟨Z7, hZ7⟩ : ∃ x, GA.data.toList.isEmpty = x := ⟨_, rfl⟩
    obtain ⟨K7, hK7⟩ : ∃ x, keyB GA.data.toList = x := ⟨_, rfl⟩
    obtain ⟨Z8, hZ8⟩ : ∃ x, GO.data.toList.isEmpty = x := ⟨_, rfl⟩
    obtain ⟨K8, hK8⟩ : ∃ x, keyB GO.data.toList = x := ⟨_, rfl⟩
    rw [hB1] at H1
    rw [hB2] at H2
    rw [hB3] at H3
    rw [hB4] at H4
    rw [hB5] at H5
    rw [hB6] at H6
    rw [hZ7] at H7e
    rw [hK7] at H7
    rw [hZ8] at H8e
    rw [hK8] at H8
    rw [hB1, hB2, hB3, hB4, hB5, hB6, hZ7, hK7, hZ8, hK8] at hst
    have H1 := Lib.hid H1
    have H2 := Lib.hid H2
    have H3 := Lib.hid H3
    have H4 := Lib.hid H4
    have H5 := Lib.hid H5
    have H6 := Lib.hid H6
    have H7 := Lib.hid H7
    have H8 := Lib.hid H8
    have HST := Lib.hid hst
    have hB := Blk.new wr 43 #[.int .i64 T, .int .i64 M, .string BD, .string CL, .int .i64 SE, .int .i64 HE, .string GA, .string GO]
    have hgA := gr_alloc hg (.cells #[.int .i64 T, .int .i64 M, .string BD, .string CL, .int .i64 SE, .int .i64 HE, .string GA, .string GO] 43)
    clear hst hg HN hB1 hB2 hB3 hB4 hB5 hB6 hZ7 hK7 hZ8 hK8
    go_upto_region 6 with fail
    generalize wr.alloc (.cells #[.int .i64 T, .int .i64 M, .string BD, .string CL, .int .i64 SE, .int .i64 HE, .string GA, .string GO] 43) = w0 at *
    generalize wr.heap.size = gE at *
    clear q0 q1 q2 q3 q4 q5 q6 q7
    have k0 := hB.cell 0
    have k1 := hB.cell 1
    have k2 := hB.cell 2
    have k3 := hB.cell 3
    have k4 := hB.cell 4
    have k5 := hB.cell 5
    have k6 := hB.cell 6
    have k7 := hB.cell 7
    simp only [List.getElem?_toArray, List.getElem?_cons_zero, List.getElem?_cons_succ] at k0 k1 k2 k3 k4 k5 k6 k7
    go_wp2_with fail
    refine (H1.out _).mono ?_
    rintro _ _ ⟨rfl, rfl⟩
    cases B1
    rotate_left
    ·have HR : Hid (consE l = 1) := by show _ = _; have h := HST.out; simpa [conEB] using h
     go_wp2_with fail
     go_ret
     exact ⟨ret_of HR.out.symm, hgA⟩
    go_wp2_with fail
    refine (H2.out _).mono ?_
    rintro _ _ ⟨rfl, rfl⟩
    cases B2
    rotate_left
    ·have HR : Hid (consE l = 4) := by show _ = _; have h := HST.out; simpa [conEB] using h
     go_wp2_with fail
     go_ret
     exact ⟨ret_of HR.out.symm, hgA⟩
    go_wp2_with fail
    refine (H3.out _).mono ?_
    rintro _ v3 ⟨rfl, hgv3⟩
    have hBv3 := hB.grown hgv3 (by simp)
    have hGv3 := gr_trans hgA hgv3
    clear k0 k1 k2 k3 k4 k5 k6 k7
    have k0 := hBv3.cell 0
    have k1 := hBv3.cell 1
    have k2 := hBv3.cell 2
    have k3 := hBv3.cell 3
    have k4 := hBv3.cell 4
    have k5 := hBv3.cell 5
    have k6 := hBv3.cell 6
    have k7 := hBv3.cell 7
    simp only [List.getElem?_toArray, List.getElem?_cons_zero, List.getElem?_cons_succ] at k0 k1 k2 k3 k4 k5 k6 k7
    cases B3
    ·have HR : Hid (consE l = 5) := by show _ = _; have h := HST.out; simpa [conEB] using h
     go_wp2_with fail
     go_ret
     exact ⟨ret_of HR.out.symm, hGv3⟩
    go_wp2_with fail
    refine (H4.out _).mono ?_
    rintro _ v4 ⟨rfl, hgv4⟩
    have hBv4 := hBv3.grown hgv4 (by simp)
    have hGv4 := gr_trans hGv3 hgv4
    clear k0 k1 k2 k3 k4 k5 k6 k7
    have k0 := hBv4.cell 0
    have k1 := hBv4.cell 1
    have k2 := hBv4.cell 2
    have k3 := hBv4.cell 3
    have k4 := hBv4.cell 4
    have k5 := hBv4.cell 5
    have k6 := hBv4.cell 6
    have k7 := hBv4.cell 7
    simp only [List.getElem?_toArray, List.getElem?_cons_zero, List.getElem?_cons_succ] at k0 k1 k2 k3 k4 k5 k6 k7
    cases B4
    ·have HR : Hid (consE l = 3) := by show _ = _; have h := HST.out; simpa [conEB] using h
     go_wp2_with fail
     go_ret
     exact ⟨ret_of HR.out.symm, hGv4⟩
    go_wp2_with fail
    refine (H5.out _).mono ?_
    rintro _ _ ⟨rfl, rfl⟩
    cases B5
    rotate_left
    ·have HR : Hid (consE l = 1) := by show _ = _; have h := HST.out; simpa [conEB] using h
     go_wp2_with fail
     go_ret
     exact ⟨ret_of HR.out.symm, hGv4⟩
    go_wp2_with fail
    refine (H6.out _).mono ?_
    rintro _ _ ⟨rfl, rfl⟩
    cases B6
    rotate_left
    ·have HR : Hid (consE l = 1) := by show _ = _; have h := HST.out; simpa [conEB] using h
     go_wp2_with fail
     go_ret
     exact ⟨ret_of HR.out.symm, hGv4⟩
    cases Z7
    ·skip
     go_wp2_with fail
     refine (H7.out _).mono ?_
     rintro _ v7 ⟨rfl, hgv7⟩
     have hBv7 := hBv4.grown hgv7 (by simp)
     have hGv7 := gr_trans hGv4 hgv7
     clear k0 k1 k2 k3 k4 k5 k6 k7
     have k0 := hBv7.cell 0
     have k1 := hBv7.cell 1
     have k2 := hBv7.cell 2
     have k3 := hBv7.cell 3
     have k4 := hBv7.cell 4
     have k5 := hBv7.cell 5
     have k6 := hBv7.cell 6
     have k7 := hBv7.cell 7
     simp only [List.getElem?_toArray, List.getElem?_cons_zero, List.getElem?_cons_succ] at k0 k1 k2 k3 k4 k5 k6 k7
     cases K7
     ·have HR : Hid (consE l = 5) := by show _ = _; have h := HST.out; simpa [conEB] using h
      go_wp2_with fail
      go_ret
      exact ⟨ret_of HR.out.symm, hGv7⟩
     ·skip
      cases Z8
      ·skip
       go_wp2_with fail
       refine (H8.out _).mono ?_
       rintro _ v8 ⟨rfl, hgv8⟩
       have hBv8 := hBv7.grown hgv8 (by simp)
       have hGv8 := gr_trans hGv7 hgv8
       clear k0 k1 k2 k3 k4 k5 k6 k7
       have k0 := hBv8.cell 0
       have k1 := hBv8.cell 1
       have k2 := hBv8.cell 2
       have k3 := hBv8.cell 3
       have k4 := hBv8.cell 4
       have k5 := hBv8.cell 5
       have k6 := hBv8.cell 6
       have k7 := hBv8.cell 7
       simp only [List.getElem?_toArray, List.getElem?_cons_zero, List.getElem?_cons_succ] at k0 k1 k2 k3 k4 k5 k6 k7
       cases K8
       ·have HR : Hid (consE l = 5) := by show _ = _; have h := HST.out; simpa [conEB] using h
        go_wp2_with fail
        go_ret
        exact ⟨ret_of HR.out.symm, hGv8⟩
       ·skip
        have HR : Hid (consE l = scanE conE1 (l.drop (k + 1))) := by show _ = _; have h := HST.out; simpa [conEB] using h
        go_wp2_with fail
        go_roundw
        case rel => exact ⟨k + 1, by omega, by go_num, HR, hGv8⟩
        case measure => simp [intOf]; omega
      ·skip
       have HR : Hid (consE l = scanE conE1 (l.drop (k + 1))) := by show _ = _; have h := HST.out; simpa [conEB] using h
       go_wp2_with fail
       go_roundw
       case rel => exact ⟨k + 1, by omega, by go_num, HR, hGv7⟩
       case measure => simp [intOf]; omega
    ·skip
     cases Z8
     ·skip
      go_wp2_with fail
      refine (H8.out _).mono ?_
      rintro _ v9 ⟨rfl, hgv9⟩
      have hBv9 := hBv4.grown hgv9 (by simp)
      have hGv9 := gr_trans hGv4 hgv9
      clear k0 k1 k2 k3 k4 k5 k6 k7
      have k0 := hBv9.cell 0
      have k1 := hBv9.cell 1
      have k2 := hBv9.cell 2
      have k3 := hBv9.cell 3
      have k4 := hBv9.cell 4
      have k5 := hBv9.cell 5
      have k6 := hBv9.cell 6
      have k7 := hBv9.cell 7
      simp only [List.getElem?_toArray, List.getElem?_cons_zero, List.getElem?_cons_succ] at k0 k1 k2 k3 k4 k5 k6 k7
      cases K8
      ·have HR : Hid (consE l = 5) := by show _ = _; have h := HST.out; simpa [conEB] using h
       go_wp2_with fail
       go_ret
       exact ⟨ret_of HR.out.symm, hGv9⟩
      ·skip
       have HR : Hid (consE l = scanE conE1 (l.drop (k + 1))) := by show _ = _; have h := HST.out; simpa [conEB] using h
       go_wp2_with fail
       go_roundw
       case rel => exact ⟨k + 1, by omega, by go_num, HR, hGv9⟩
       case measure => simp [intOf]; omega
     ·skip
      have HR : Hid (consE l = scanE conE1 (l.drop (k + 1))) := by show _ = _; have h := HST.out; simpa [conEB] using h
      go_wp2_with fail
      go_roundw
      case rel => exact ⟨k + 1, by omega, by go_num, HR, hGv4⟩
      case measure => simp [intOf]; omega
   ·obtain rfl : k = l.length := by omega
    have hkl : ¬ (l.length : Int) < (l.length : Int) := by omega
    have HR : Hid (consE l = 0) := by show _ = _; rw [HN.out, scanE_end]
    go_wp2_with fail
    go_ret
    exact ⟨ret_of HR.out.symm, hg⟩
set_option maxRecDepth 100000 in
set_option maxHeartbeats 8000000 in
theorem checkContacts_any (base : Nat) (v : Value) (l : List Con) (w : World) (hl : ConsFrom base w v l) (hsm : ∀ x ∈ l, ConSm x) :
 Calls Tryz.prog 117 #[v] w fun r w' => r = .returned (.int .i64 (consE l)) ∧ w.grownBy w' none := by
 obtain ⟨A, c, rfl, hlen, hA⟩ := hl.shape
 by_cases hbig : 2000 < l.length
 ·have HE : Hid (consE l = 2) := by show _ = _; unfold consE; rw [if_pos hbig]
  have hb : (2000 : Int) < (l.length : Int) := by omega
  clear hl hA
  go_enter Tryz.func117, Tryz.ntmps117
  go_wp2_with fail
  go_ret
  exact ⟨ret_of HE.out.symm, gr_refl _ _⟩
 ·have HE : Hid (consE l = scanE conE1 l) := by show _ = _; unfold consE; rw [if_neg hbig]
  have hb : ¬ (2000 : Int) < (l.length : Int) := by omega
  have HL := Lib.hid hl
  have HA := Lib.hid hA
  clear hl hA
  go_enter Tryz.func117, Tryz.ntmps117
  go_wp2_with fail
  go_loopw [10] (fun iv wr => ∃ k : Nat, k ≤ l.length ∧ iv = .int .i64 k ∧ Hid (consE l = scanE conE1 (l.drop k)) ∧ w.grownBy wr none) (fun iv _ => l.length - (intOf iv).toNat)
  case atStart => exact ⟨0, by omega, rfl, HE, gr_refl _ _⟩
  case round =>
   obtain ⟨k, hk, rfl, HN, hg⟩ := hrel
   by_cases hlt : k < l.length
   ·have hki : (k : Int) < (l.length : Int) := by omega
    obtain ⟨g, rfl, hg0, hg1⟩ := HA.out (by omega)
    obtain ⟨q0, q1, q2, q3, q4, q5, q6, q7⟩ := (HL.out.grown hg).at_ k hlt
    have hst := scanE_step conE1 l k hlt
    rw [← HN.out, conE1_B] at hst
    have hsk := hsm l[k] (List.getElem_mem hlt)
    unfold ConSm at hsk
    obtain ⟨s1, s2, s3, s4, s5⟩ := hsk
    generalize l[k].tm = T at *
    generalize l[k].mode = M at *
    generalize l[k].band = BD at *
    generalize l[k].call = CL at *
    generalize l[k].sent = SE at *
    generalize l[k].heard = HE at *
    generalize l[k].gave = GA at *
    generalize l[k].got = GO at *
    have H1 := (fun W => isMoment_any T W)
    have H2 := (fun W => isMode_any M W)
    have H3 := (fun W => isKey_any BD W (by omega))
    have H4 := (fun W => isCall_any CL W (by omega) s3)
    have H5 := (fun W => outside_any SE 0 99999 W)
    have H6 := (fun W => outside_any HE 0 99999 W)
    have H7 := (fun W => isName_any GA W (by omega))
    have H8 := (fun W => isName_any GO W (by omega))
    obtain ⟨B1, hB1⟩ : ∃ x, outB T 0 345686399999 = x := ⟨_, rfl⟩
    obtain ⟨B2, hB2⟩ : ∃ x, outB M 1 3 = x := ⟨_, rfl⟩
    obtain ⟨B3, hB3⟩ : ∃ x, keyB BD.data.toList = x := ⟨_, rfl⟩
    obtain ⟨B4, hB4⟩ : ∃ x, isCall CL = x := ⟨_, rfl⟩
    obtain ⟨B5, hB5⟩ : ∃ x, outB SE 0 99999 = x := ⟨_, rfl⟩
    obtain ⟨B6, hB6⟩ : ∃ x, outB HE 0 99999 = x := ⟨_, rfl⟩
    obtain ⟨Z7, hZ7⟩ : ∃ x, GA.data.toList.isEmpty = x := ⟨_, rfl⟩
    obtain ⟨K7, hK7⟩ : ∃ x, keyB GA.data.toList = x := ⟨_, rfl⟩
    obtain ⟨Z8, hZ8⟩ : ∃ x, GO.data.toList.isEmpty = x := ⟨_, rfl⟩
    obtain ⟨K8, hK8⟩ : ∃ x, keyB GO.data.toList = x := ⟨_, rfl⟩
    rw [hB1] at H1
    rw [hB2] at H2
    rw [hB3] at H3
    rw [hB4] at H4
    rw [hB5] at H5
    rw [hB6] at H6
    simp only [nameB_is] at H7
    rw [hZ7, hK7] at H7
    simp only [nameB_is] at H8
    rw [hZ8, hK8] at H8
    rw [hB1, hB2, hB3, hB4, hB5, hB6, hZ7, hK7, hZ8, hK8] at hst
    have H1 := Lib.hid H1
    have H2 := Lib.hid H2
    have H3 := Lib.hid H3
    have H4 := Lib.hid H4
    have H5 := Lib.hid H5
    have H6 := Lib.hid H6
    have H7 := Lib.hid H7
    have H8 := Lib.hid H8
    have HST := Lib.hid hst
    have hB := Blk.new wr 43 #[.int .i64 T, .int .i64 M, .string BD, .string CL, .int .i64 SE, .int .i64 HE, .string GA, .string GO]
    have hgA := gr_alloc hg (.cells #[.int .i64 T, .int .i64 M, .string BD, .string CL, .int .i64 SE, .int .i64 HE, .string GA, .string GO] 43)
    clear hst hg HN hB1 hB2 hB3 hB4 hB5 hB6 hZ7 hK7 hZ8 hK8
    go_upto_region 6 with fail
    generalize wr.alloc (.cells #[.int .i64 T, .int .i64 M, .string BD, .string CL, .int .i64 SE, .int .i64 HE, .string GA, .string GO] 43) = w0 at *
    generalize wr.heap.size = gE at *
    clear q0 q1 q2 q3 q4 q5 q6 q7
    have k0 := hB.cell 0
    have k1 := hB.cell 1
    have k2 := hB.cell 2
    have k3 := hB.cell 3
    have k4 := hB.cell 4
    have k5 := hB.cell 5
    have k6 := hB.cell 6
    have k7 := hB.cell 7
    simp only [List.getElem?_toArray, List.getElem?_cons_zero, List.getElem?_cons_succ] at k0 k1 k2 k3 k4 k5 k6 k7
    go_wp2_with fail
    refine (H1.out _).mono ?_
    rintro _ _ ⟨rfl, rfl⟩
    cases B1
    rotate_left
    ·have HR : Hid (consE l = 1) := by show _ = _; have h := HST.out; simpa [conEB] using h
     go_wp2_with fail
     go_ret
     exact ⟨ret_of HR.out.symm, hgA⟩
    go_wp2_with fail
    refine (H2.out _).mono ?_
    rintro _ _ ⟨rfl, rfl⟩
    cases B2
    rotate_left
    ·have HR : Hid (consE l = 4) := by show _ = _; have h := HST.out; simpa [conEB] using h
     go_wp2_with fail
     go_ret
     exact ⟨ret_of HR.out.symm, hgA⟩
    go_wp2_with fail
    refine (H3.out _).mono ?_
    rintro _ v3 ⟨rfl, hgv3⟩
    have hBv3 := hB.grown hgv3 (by simp)
    have hGv3 := gr_trans hgA hgv3
    clear k0 k1 k2 k3 k4 k5 k6 k7
    have k0 := hBv3.cell 0
    have k1 := hBv3.cell 1
    have k2 := hBv3.cell 2
    have k3 := hBv3.cell 3
    have k4 := hBv3.cell 4
    have k5 := hBv3.cell 5
    have k6 := hBv3.cell 6
    have k7 := hBv3.cell 7
    simp only [List.getElem?_toArray, List.getElem?_cons_zero, List.getElem?_cons_succ] at k0 k1 k2 k3 k4 k5 k6 k7
    cases B3
    ·have HR : Hid (consE l = 5) := by show _ = _; have h := HST.out; simpa [conEB] using h
     go_wp2_with fail
     go_ret
     exact ⟨ret_of HR.out.symm, hGv3⟩
    go_wp2_with fail
    refine (H4.out _).mono ?_
    rintro _ v4 ⟨rfl, hgv4⟩
    have hBv4 := hBv3.grown hgv4 (by simp)
    have hGv4 := gr_trans hGv3 hgv4
    clear k0 k1 k2 k3 k4 k5 k6 k7
    have k0 := hBv4.cell 0
    have k1 := hBv4.cell 1
    have k2 := hBv4.cell 2
    have k3 := hBv4.cell 3
    have k4 := hBv4.cell 4
    have k5 := hBv4.cell 5
    have k6 := hBv4.cell 6
    have k7 := hBv4.cell 7
    simp only [List.getElem?_toArray, List.getElem?_cons_zero, List.getElem?_cons_succ] at k0 k1 k2 k3 k4 k5 k6 k7
    cases B4
    ·have HR : Hid (consE l = 3) := by show _ = _; have h := HST.out; simpa [conEB] using h
     go_wp2_with fail
     go_ret
     exact ⟨ret_of HR.out.symm, hGv4⟩
    go_wp2_with fail
    refine (H5.out _).mono ?_
    rintro _ _ ⟨rfl, rfl⟩
    cases B5
    rotate_left
    ·have HR : Hid (consE l = 1) := by show _ = _; have h := HST.out; simpa [conEB] using h
     go_wp2_with fail
     go_ret
     exact ⟨ret_of HR.out.symm, hGv4⟩
    go_wp2_with fail
    refine (H6.out _).mono ?_
    rintro _ _ ⟨rfl, rfl⟩
    cases B6
    rotate_left
    ·have HR : Hid (consE l = 1) := by show _ = _; have h := HST.out; simpa [conEB] using h
     go_wp2_with fail
     go_ret
     exact ⟨ret_of HR.out.symm, hGv4⟩
    go_wp2_with fail
    refine (H7.out _).mono ?_
    rintro _ v7 ⟨rfl, hgv7⟩
    have hBv7 := hBv4.grown hgv7 (by simp)
    have hGv7 := gr_trans hGv4 hgv7
    clear k0 k1 k2 k3 k4 k5 k6 k7
    have k0 := hBv7.cell 0
    have k1 := hBv7.cell 1
    have k2 := hBv7.cell 2
    have k3 := hBv7.cell 3
    have k4 := hBv7.cell 4
    have k5 := hBv7.cell 5
    have k6 := hBv7.cell 6
    have k7 := hBv7.cell 7
    simp only [List.getElem?_toArray, List.getElem?_cons_zero, List.getElem?_cons_succ] at k0 k1 k2 k3 k4 k5 k6 k7
    cases Z7
    ·cases K7
     ·have HR : Hid (consE l = 5) := by show _ = _; have h := HST.out; simpa [conEB] using h
      go_wp2_with fail
      go_ret
      exact ⟨ret_of HR.out.symm, hGv7⟩
     ·skip
      go_wp2_with fail
      refine (H8.out _).mono ?_
      rintro _ v8 ⟨rfl, hgv8⟩
      have hBv8 := hBv7.grown hgv8 (by simp)
      have hGv8 := gr_trans hGv7 hgv8
      clear k0 k1 k2 k3 k4 k5 k6 k7
      have k0 := hBv8.cell 0
      have k1 := hBv8.cell 1
      have k2 := hBv8.cell 2
      have k3 := hBv8.cell 3
      have k4 := hBv8.cell 4
      have k5 := hBv8.cell 5
      have k6 := hBv8.cell 6
      have k7 := hBv8.cell 7
      simp only [List.getElem?_toArray, List.getElem?_cons_zero, List.getElem?_cons_succ] at k0 k1 k2 k3 k4 k5 k6 k7
      cases Z8
      ·cases K8
       ·have HR : Hid (consE l = 5) := by show _ = _; have h := HST.out; simpa [conEB] using h
        go_wp2_with fail
        go_ret
        exact ⟨ret_of HR.out.symm, hGv8⟩
       ·skip
        have HR : Hid (consE l = scanE conE1 (l.drop (k + 1))) := by show _ = _; have h := HST.out; simpa [conEB] using h
        go_wp2_with fail
        go_roundw
        case rel => exact ⟨k + 1, by omega, by go_num, HR, hGv8⟩
        case measure => simp [intOf]; omega
      ·skip
       have HR : Hid (consE l = scanE conE1 (l.drop (k + 1))) := by show _ = _; have h := HST.out; simpa [conEB] using h
       go_wp2_with fail
       go_roundw
       case rel => exact ⟨k + 1, by omega, by go_num, HR, hGv8⟩
       case measure => simp [intOf]; omega
    ·skip
     go_wp2_with fail
     refine (H8.out _).mono ?_
     rintro _ v9 ⟨rfl, hgv9⟩
     have hBv9 := hBv7.grown hgv9 (by simp)
     have hGv9 := gr_trans hGv7 hgv9
     clear k0 k1 k2 k3 k4 k5 k6 k7
     have k0 := hBv9.cell 0
     have k1 := hBv9.cell 1
     have k2 := hBv9.cell 2
     have k3 := hBv9.cell 3
     have k4 := hBv9.cell 4
     have k5 := hBv9.cell 5
     have k6 := hBv9.cell 6
     have k7 := hBv9.cell 7
     simp only [List.getElem?_toArray, List.getElem?_cons_zero, List.getElem?_cons_succ] at k0 k1 k2 k3 k4 k5 k6 k7
     cases Z8
     ·cases K8
      ·have HR : Hid (consE l = 5) := by show _ = _; have h := HST.out; simpa [conEB] using h
       go_wp2_with fail
       go_ret
       exact ⟨ret_of HR.out.symm, hGv9⟩
      ·skip
       have HR : Hid (consE l = scanE conE1 (l.drop (k + 1))) := by show _ = _; have h := HST.out; simpa [conEB] using h
       go_wp2_with fail
       go_roundw
       case rel => exact ⟨k + 1, by omega, by go_num, HR, hGv9⟩
       case measure => simp [intOf]; omega
     ·skip
      have HR : Hid (consE l = scanE conE1 (l.drop (k + 1))) := by show _ = _; have h := HST.out; simpa [conEB] using h
      go_wp2_with fail
      go_roundw
      case rel => exact ⟨k + 1, by omega, by go_num, HR, hGv9⟩
      case measure => simp [intOf]; omega
   ·obtain rfl : k = l.length := by omega
    have hkl : ¬ (l.length : Int) < (l.length : Int) := by omega
    have HR : Hid (consE l = 0) := by show _ = _; rw [HN.out, scanE_end]
    go_wp2_with fail
    go_ret
    exact ⟨ret_of HR.out.symm, hg⟩
set_option maxRecDepth 100000 in
set_option maxHeartbeats 8000000 in
theorem rulesFault_any (base : Nat) (v : Value) (l : List Rul) (w : World) (hl : RulsFrom base w v l) (hsm : ∀ x ∈ l, RulSm x) :
 Calls Tryz.prog 270 #[v] w fun r w' => r = .returned (.int .i64 (rulsE l)) ∧ w.grownBy w' none := by
 obtain ⟨A, c, rfl, hlen, hA⟩ := hl.shape
 by_cases hbig : 100 < l.length
 ·have HE : Hid (rulsE l = 2) := by show _ = _; unfold rulsE; rw [if_pos hbig]
  have hb : (100 : Int) < (l.length : Int) := by omega
  clear hl hA
  go_enter Tryz.func270, Tryz.ntmps270
  go_wp2_with fail
  go_ret
  exact ⟨ret_of HE.out.symm, gr_refl _ _⟩
 ·have HE : Hid (rulsE l = scanE rulE1 l) := by show _ = _; unfold rulsE; rw [if_neg hbig]
  have hb : ¬ (100 : Int) < (l.length : Int) := by omega
  have HL := Lib.hid hl
  have HA := Lib.hid hA
  clear hl hA
  go_enter Tryz.func270, Tryz.ntmps270
  go_wp2_with fail
  go_loopw [10] (fun iv wr => ∃ k : Nat, k ≤ l.length ∧ iv = .int .i64 k ∧ Hid (rulsE l = scanE rulE1 (l.drop k)) ∧ w.grownBy wr none) (fun iv _ => l.length - (intOf iv).toNat)
  case atStart => exact ⟨0, by omega, rfl, HE, gr_refl _ _⟩
  case round =>
   obtain ⟨k, hk, rfl, HN, hg⟩ := hrel
   by_cases hlt : k < l.length
   ·have hki : (k : Int) < (l.length : Int) := by omega
    obtain ⟨g, rfl, hg0, hg1⟩ := HA.out (by omega)
    obtain ⟨q0, q1, q2, q3⟩ := (HL.out.grown hg).at_ k hlt
    have hst := scanE_step rulE1 l k hlt
    rw [← HN.out, rulE1_B] at hst
    have hsk := hsm l[k] (List.getElem_mem hlt)
    unfold RulSm at hsk
    generalize l[k].rel = RL at *
    generalize l[k].mode = M at *
    generalize l[k].band = BD at *
    generalize l[k].points = PT at *
    have H1 := (fun W => outside_any RL 0 5 W)
    have H2 := (fun W => outside_any M 0 3 W)
    have H3 := (fun W => isName_any BD W (by omega))
    have H4 := (fun W => outside_any PT 0 1000 W)
    obtain ⟨B1, hB1⟩ : ∃ x, outB RL 0 5 = x := ⟨_, rfl⟩
    obtain ⟨B2, hB2⟩ : ∃ x, outB M 0 3 = x := ⟨_, rfl⟩
    obtain ⟨Z3, hZ3⟩ : ∃ x, BD.data.toList.isEmpty = x := ⟨_, rfl⟩
    obtain ⟨K3, hK3⟩ : ∃ x, keyB BD.data.toList = x := ⟨_, rfl⟩
    obtain ⟨B4, hB4⟩ : ∃ x, outB PT 0 1000 = x := ⟨_, rfl⟩
    rw [hB1] at H1
    rw [hB2] at H2
    simp only [nameB_is] at H3
    rw [hZ3, hK3] at H3
    rw [hB4] at H4
    rw [hB1, hB2, hZ3, hK3, hB4] at hst
    have H1 := Lib.hid H1
    have H2 := Lib.hid H2
    have H3 := Lib.hid H3
    have H4 := Lib.hid H4
    have HST := Lib.hid hst
    have hB := Blk.new wr 116 #[.int .i64 RL, .int .i64 M, .string BD, .int .i64 PT]
    have hgA := gr_alloc hg (.cells #[.int .i64 RL, .int .i64 M, .string BD, .int .i64 PT] 116)
    clear hst hg HN hB1 hB2 hZ3 hK3 hB4
    go_upto_region 6 with fail
    generalize wr.alloc (.cells #[.int .i64 RL, .int .i64 M, .string BD, .int .i64 PT] 116) = w0 at *
    generalize wr.heap.size = gE at *
    clear q0 q1 q2 q3
    have k0 := hB.cell 0
    have k1 := hB.cell 1
    have k2 := hB.cell 2
    have k3 := hB.cell 3
    simp only [List.getElem?_toArray, List.getElem?_cons_zero, List.getElem?_cons_succ] at k0 k1 k2 k3
    go_wp2_with fail
    refine (H1.out _).mono ?_
    rintro _ _ ⟨rfl, rfl⟩
    cases B1
    rotate_left
    ·have HR : Hid (rulsE l = 4) := by show _ = _; have h := HST.out; simpa [rulEB] using h
     go_wp2_with fail
     go_ret
     exact ⟨ret_of HR.out.symm, hgA⟩
    go_wp2_with fail
    refine (H2.out _).mono ?_
    rintro _ _ ⟨rfl, rfl⟩
    cases B2
    rotate_left
    ·have HR : Hid (rulsE l = 4) := by show _ = _; have h := HST.out; simpa [rulEB] using h
     go_wp2_with fail
     go_ret
     exact ⟨ret_of HR.out.symm, hgA⟩
    go_wp2_with fail
    refine (H3.out _).mono ?_
    rintro _ v3 ⟨rfl, hgv3⟩
    have hBv3 := hB.grown hgv3 (by simp)
    have hGv3 := gr_trans hgA hgv3
    clear k0 k1 k2 k3
    have k0 := hBv3.cell 0
    have k1 := hBv3.cell 1
    have k2 := hBv3.cell 2
    have k3 := hBv3.cell 3
    simp only [List.getElem?_toArray, List.getElem?_cons_zero, List.getElem?_cons_succ] at k0 k1 k2 k3
    cases Z3
    ·cases K3
     ·have HR : Hid (rulsE l = 5) := by show _ = _; have h := HST.out; simpa [rulEB] using h
      go_wp2_with fail
      go_ret
      exact ⟨ret_of HR.out.symm, hGv3⟩
     ·skip
      go_wp2_with fail
      refine (H4.out _).mono ?_
      rintro _ _ ⟨rfl, rfl⟩
      cases B4
      rotate_left
      ·have HR : Hid (rulsE l = 1) := by show _ = _; have h := HST.out; simpa [rulEB] using h
       go_wp2_with fail
       go_ret
       exact ⟨ret_of HR.out.symm, hGv3⟩
      have HR : Hid (rulsE l = scanE rulE1 (l.drop (k + 1))) := by show _ = _; have h := HST.out; simpa [rulEB] using h
      go_wp2_with fail
      go_roundw
      case rel => exact ⟨k + 1, by omega, by go_num, HR, hGv3⟩
      case measure => simp [intOf]; omega
    ·skip
     go_wp2_with fail
     refine (H4.out _).mono ?_
     rintro _ _ ⟨rfl, rfl⟩
     cases B4
     rotate_left
     ·have HR : Hid (rulsE l = 1) := by show _ = _; have h := HST.out; simpa [rulEB] using h
      go_wp2_with fail
      go_ret
      exact ⟨ret_of HR.out.symm, hGv3⟩
     have HR : Hid (rulsE l = scanE rulE1 (l.drop (k + 1))) := by show _ = _; have h := HST.out; simpa [rulEB] using h
     go_wp2_with fail
     go_roundw
     case rel => exact ⟨k + 1, by omega, by go_num, HR, hGv3⟩
     case measure => simp [intOf]; omega
   ·obtain rfl : k = l.length := by omega
    have hkl : ¬ (l.length : Int) < (l.length : Int) := by omega
    have HR : Hid (rulsE l = 0) := by show _ = _; rw [HN.out, scanE_end]
    go_wp2_with fail
    go_ret
    exact ⟨ret_of HR.out.symm, hg⟩
end Go.Proofs.YthlflljlkkkanaaGreatDoor

namespace Go.Proofs.YthlflljlkkkanaaGreatDoor
open Go.RowKit
set_option linter.unusedVariables false

/-- A number within 2^41. -/
def OddPost (b k : Nat) (w : World) (e : Ending) (w' : World) : Prop :=
 ∃ v : Int, -2199023255552 ≤ v ∧ v ≤ 2199023255552 ∧ e = .returned (.int .i64 v) ∧ Str w' b (k + 2) ∧ w.grownBy w' (some b)
set_option maxHeartbeats 400000 in
theorem odd_in (b k : Nat) (low high : Int) (w : World) (hs : Str w b k) (hk : k ≤ 100000000000) (h1 : -1099511627776 ≤ low) (h2 : low ≤ high) (h3 : high ≤ 1099511627776) :
 Calls Tryz.prog 166 #[.pointer (some ⟨b, 0, none⟩), .int .i64 low, .int .i64 high] w (OddPost b k w) := by
 go_enter Tryz.func166, Tryz.ntmps166
 go_wp2_with fail
 refine (flip_in b k _ _ hs (by omega) (by omega) (by omega)).mono ?_
 rintro e w1 ⟨v, rfl, hs1, hg1⟩
 cases v
 ·go_wp2_with fail
  refine (range_in b _ _ _ _ hs1 (by omega) (by omega) h2 (by omega)).mono ?_
  rintro e w2 ⟨v, hv0, hv1, rfl, hs2, hg2⟩
  go_wp2_with fail
  go_ret
  exact ⟨v, by omega, by omega, rfl, hs2, gr_trans hg1 hg2⟩
 ·go_wp2_with fail
  refine (pick_new b _ 6 6 [low - 1, high + 1, low, high, -1099511627776, 1099511627776] _ hs1 (by omega) rfl (by decide) (by decide)).mono ?_
  rintro e w2 ⟨v, hv, rfl, hs2, hg2⟩
  have hvb : -2199023255552 ≤ v ∧ v ≤ 2199023255552 := by simp at hv; omega
  go_wp2_with fail
  go_ret
  exact ⟨v, hvb.1, hvb.2, rfl, hs2, gr_trans hg1 hg2⟩
end Go.Proofs.YthlflljlkkkanaaGreatDoor

namespace Go.Proofs.YthlflljlkkkanaaGreatDoor
open Go.RowKit
set_option linter.unusedVariables false
set_option linter.unusedSimpArgs false

theorem conInfo : (Tryz.prog.info? 43).map (fun i => (i.zero, i.size, i.bytes)) = some (some (.agg #[.int .i64 0, .int .i64 0, .string ⟨#[]⟩, .string ⟨#[]⟩, .int .i64 0, .int .i64 0, .string ⟨#[]⟩, .string ⟨#[]⟩]), 8, 96) := by kernel_rfl
theorem con_ones (a b : Int) (c d : ByteArray) (e f : Int) (g h : ByteArray) : ∀ u ∈ [Value.int .i64 a, .int .i64 b, .string c, .string d, .int .i64 e, .int .i64 f, .string g, .string h], u.oneCell' = true := by
 intro u hu
 simp at hu
 rcases hu with rfl | rfl | rfl | rfl | rfl | rfl | rfl | rfl <;> rfl
/-- Two numbers of a contact are set. -/
theorem con_set {base : Nat} {w : World} {g n c : Nat} {l : List Con} (h : ConsFrom base w (.slice (some ⟨g, 0, none⟩) n c) l) (hn : n = l.length) (k : Nat) (hk : k < l.length) (i : Nat) (hi : i < 8) (v : Value) (y : Con) (hy : (encC l[k]).set i v = encC y) :
 ConsFrom base (w.setCell ⟨g, k * 8 + i, none⟩ v) (.slice (some ⟨g, 0, none⟩) n c) (l.set k y) ∧ w.grownBy (w.setCell ⟨g, k * 8 + i, none⟩ v) (some g) := by
 unfold ConsFrom at h ⊢
 rw [← hn] at h
 have h0 := World.ownsRow.stored h (k * 8 + i) v
 have e0 := flat_set encC 8 (fun _ => rfl) l k i hk hi y v hy.symm
 rw [e0] at h0
 rw [List.length_set, ← hn]
 exact h0
theorem sat_len {l : List Value} {i : Nat} (h : i < l.length) : ∃ u, l[i]? = some u := ⟨_, List.getElem?_eq_getElem h⟩
def WorkPost (b k m : Nat) (w : World) (e : Ending) (w' : World) : Prop :=
 ∃ (v : Value) (l : List Con), e = .returned v ∧ ConsFrom w.heap.size w' v l ∧ l.length ≤ m ∧ (∀ y ∈ l, ConSm y) ∧ Str w' b (k + 2000) ∧ w.grownBy w' (some b)
theorem some_sm {v : ByteArray} {xs : List ByteArray} (h : v ∈ xs) (hx : ∀ x ∈ xs, x.size ≤ 100) : v.size ≤ 100 := hx v h
theorem set_allC {α : Type} {P : α → Prop} {l : List α} (h : ∀ x ∈ l, P x) (k : Nat) (y : α) (hy : P y) : ∀ x ∈ l.set k y, P x := fun x hx => by
 rcases List.mem_or_eq_of_mem_set hx with h1 | h1
 ·exact h x h1
 ·rw [h1]; exact hy
set_option maxRecDepth 100000 in
set_option maxHeartbeats 16000000 in
theorem workedList_in (b k m : Nat) (hm : m ≤ 20) (w : World) (hs : Str w b k) (hk : k ≤ 100000000) :
 Calls Tryz.prog 72 #[.pointer (some ⟨b, 0, none⟩), .int .i64 (m : Int)] w (WorkPost b k m w) := by
 obtain ⟨i0, hi0, hz0, hz1, hz2⟩ := info_parts conInfo
 have hbl := hs.lt
 obtain ⟨B, hB⟩ : ∃ B, w.heap.size = B := ⟨_, rfl⟩
 have HB := Lib.hid hB
 rw [hB] at hbl
 have HP : Hid (∀ (v : Value) (l : List Con) (w' : World), ConsFrom B w' v l → l.length ≤ m → (∀ y ∈ l, ConSm y) → Str w' b (k + 2000) → w.grownBy w' (some b) → WorkPost b k m w (.returned v) w') := fun v l w' h1 h2 h3 h4 h5 => ⟨v, l, rfl, by rw [HB.out]; exact h1, h2, h3, h4, h5⟩
 generalize WorkPost b k m w = P at *
 clear hB
 go_enter Tryz.func72, Tryz.ntmps72
 go_wp2_with fail
 refine (range_in b k 0 (m : Int) _ hs (by omega) (by omega) (by omega) (by omega)).mono ?_
 rintro _ w1 ⟨mz, hm0, hm8, rfl, hs1, hg1⟩
 obtain ⟨M, rfl⟩ := Int.eq_ofNat_of_zero_le hm0
 go_wp2_with fail
 go_loopw [5, 10] (fun ov iv wr => ∃ C : List Con, C.length ≤ M ∧ iv = .int .i64 (C.length : Nat) ∧ Hid (∀ y ∈ C, ConSm y) ∧ Hid (ConsFrom B wr ov C) ∧ Str wr b (k + 1 + 60 * C.length) ∧ w.grownBy wr (some b)) (fun _ iv _ => M - (intOf iv).toNat)
 case atStart => exact ⟨[], Nat.zero_le _, rfl, (fun x hx => nomatch hx), World.ownsRow_nil _ _ _ _, hs1, hg1⟩
 case round =>
  obtain ⟨C, hj, rfl, HSM, HO, hsj, hgr⟩ := hrel
  clear hs hs1 hg1
  obtain ⟨A2, c2, rfl, hk9, hsh⟩ := HO.out.shape
  have HSH := Lib.hid hsh
  clear hsh
  by_cases hlt : C.length < M
  ·have hji : (C.length : Int) < (M : Int) := by omega
   go_wp2_with fail
   refine (pick_at b _ _ 9 9 [0, 30, 60, 100, 150, 210, 390, 60000, 130000] _ hsj rfl (by omega) rfl (by decide) (by decide)).mono ?_
   rintro _ w2 ⟨a1, _, rfl, hs2, hg2⟩
   have hR2 := hg2
   clear hsj
   go_wp2_with fail
   refine (pick_at b _ _ 4 4 [1, 1, 2, 3] _ hs2 rfl (by omega) rfl (by decide) (by decide)).mono ?_
   rintro _ w3 ⟨a2, _, rfl, hs3, hg3⟩
   have hR3 := gr_trans hR2 hg3
   clear hR2 hg3 hs2
   go_wp2_with fail
   refine (some_at b _ _ 3 3 [⟨#[98, 50, 48]⟩, ⟨#[98, 50, 48]⟩, ⟨#[98, 52, 48]⟩] _ hs3 rfl (by omega) rfl (by decide) (by decide)).mono ?_
   rintro _ w4 ⟨a3, ha3, rfl, hs4, hg4⟩
   have hsza3 : a3.size ≤ 100 := some_sm ha3 (by decide)
   clear ha3
   have hR4 := gr_trans hR3 hg4
   clear hR3 hg4 hs3
   go_wp2_with fail
   refine (rightCall_in b _ _ hs4 (by omega)).mono ?_
   rintro _ w5 ⟨a4, rfl, hsza4, haa4, _, hs5, hg5⟩
   have HA4 := Lib.hid haa4
   clear haa4
   have hR5 := gr_trans hR4 hg5
   clear hR4 hg5 hs4
   go_wp2_with fail
   refine (next_in b _ 4 _ hs5 (by omega) (by decide) (by decide)).mono ?_
   rintro _ w6 ⟨a5, _, _, rfl, hs6, hg6⟩
   have hR6 := gr_trans hR5 hg6
   clear hR5 hg6 hs5
   go_wp2_with fail
   refine (next_in b _ 4 _ hs6 (by omega) (by decide) (by decide)).mono ?_
   rintro _ w7 ⟨a6, _, _, rfl, hs7, hg7⟩
   have hR7 := gr_trans hR6 hg7
   clear hR6 hg7 hs6
   go_wp2_with fail
   refine (some_at b _ _ 3 3 [⟨#[]⟩, ⟨#[120, 49]⟩, ⟨#[120, 50]⟩] _ hs7 rfl (by omega) rfl (by decide) (by decide)).mono ?_
   rintro _ w8 ⟨a7, ha7, rfl, hs8, hg8⟩
   have hsza7 : a7.size ≤ 100 := some_sm ha7 (by decide)
   clear ha7
   have hR8 := gr_trans hR7 hg8
   clear hR7 hg8 hs7
   have hown : w8.ownsRow B 43 8 (.slice A2 C.length c2) C.length (C.flatMap encC) := ownsRow_other HO.out hR8 hbl
   have HOWN := Lib.hid hown
   have hG8 := gr_trans hgr hR8
   have hY : ConSm ⟨a1, a2, a3, a4, a5, a6, ⟨#[]⟩, a7⟩ := ⟨by show a3.size ≤ 1000; omega, by show a4.size ≤ 1000; omega, HA4.out, by show (0 : Nat) ≤ 1000; omega, by show a7.size ≤ 1000; omega⟩
   have HY := Lib.hid hY
   have hsz8 : B ≤ w8.heap.size := by have := hG8.size; have := HB.out; omega
   clear hown hR8 hY hgr
   go_wp2_with (at_builtin; refine wpList_append_own _ rfl _ _ 35 rfl B 43 i0 _ 8 96 Tryz.underlying35 hi0 hz0 hz1 hz2 rfl (by decide) _ C.length _ rfl (World.ownsRow.alloc HOWN.out _) ⟨_, 0, none⟩ 1 1 [.int .i64 a1, .int .i64 a2, .string a3, .string a4, .int .i64 a5, .int .i64 a6, .string ⟨#[]⟩, .string a7] rfl rfl (World.news_of_block (Blk.new _ _ _)) (con_ones _ _ _ _ _ _ _ _) (by unfold maxLen; omega) (by omega) (by simp; omega) ?_; intro v' w9 hownB hgrB _)
   have hO9 : Hid (ConsFrom B w9 v' (C ++ [⟨a1, a2, a3, a4, a5, a6, ⟨#[]⟩, a7⟩])) := by
    show ConsFrom _ _ _ _
    unfold ConsFrom
    rw [List.length_append, List.flatMap_append]
    exact hownB
   have hrowB : ∀ g, (Value.slice A2 C.length c2).ownBlock = some g → B ≤ g := fun g e => (HOWN.out.lt g e).1
   have HROW := Lib.hid hrowB
   have hs9 := (hs8.alloc (.cells #[.int .i64 a1, .int .i64 a2, .string a3, .string a4, .int .i64 a5, .int .i64 a6, .string ⟨#[]⟩, .string a7] 43)).grown hgrB (fun g e => by have := HROW.out g e; omega)
   have hG9 : w.grownBy w9 (some b) := gr_grown (gr_alloc hG8 _) hgrB (fun g e => .inr (by have := HROW.out g e; have := HB.out; omega))
   have HSM2 : Hid (∀ y ∈ C ++ [⟨a1, a2, a3, a4, a5, a6, ⟨#[]⟩, a7⟩], ConSm y) := fun y hy => by
    rcases List.mem_append.1 hy with h | h
    ·exact HSM.out y h
    ·rw [List.mem_singleton.1 h]; exact HY.out
   clear hrowB hownB hgrB hs8 hG8
   go_wp2_with fail
   go_roundw
   case rel => exact ⟨_, by simp; omega, by rw [List.length_append]; go_num, HSM2, hO9, hs9.mono (by rw [List.length_append]; simp; omega), hG9⟩
   case measure => simp [intOf]; omega
  ·have hji : ¬ (C.length : Int) < (M : Int) := by omega
   have hCm : C.length ≤ m := by omega
   by_cases hz : C.length = 0
   ·have hzi : ¬ (0 : Int) < (C.length : Int) := by omega
    have HR := Lib.hid (HP.out _ C wr HO.out hCm HSM.out (hsj.mono (by omega)) hgr)
    rw [hz] at HR hzi hlt hji ⊢
    go_wp2_with fail
    exact HR.out
   have hzi : (0 : Int) < (C.length : Int) := by omega
   go_wp2_with fail
   refine (flip_in b _ 15 _ hsj (by omega) (by decide) (by decide)).mono ?_
   rintro _ w2 ⟨fl, rfl, hs2, hg2⟩
   have hG2 := gr_trans hgr hg2
   have HO2 : Hid (ConsFrom B w2 (.slice A2 C.length c2) C) := ownsRow_other HO.out hg2 hbl
   clear hsj hg2 hgr HO
   cases fl
   ·have HR := Lib.hid (HP.out _ C w2 HO2.out hCm HSM.out (hs2.mono (by omega)) hG2)
    go_wp2_with fail
    exact HR.out
   go_wp2_with fail
   refine (next_in b _ (C.length : Int) _ hs2 (by omega) (by omega) (by omega)).mono ?_
   rintro _ w3 ⟨jz, hj0, hj1, rfl, hs3, hg3⟩
   obtain ⟨J, rfl⟩ := Int.eq_ofNat_of_zero_le hj0
   have hJ : J < C.length := by omega
   have hG3 := gr_trans hG2 hg3
   have HO3 : Hid (ConsFrom B w3 (.slice A2 C.length c2) C) := ownsRow_other HO2.out hg3 hbl
   obtain ⟨g, rfl, hgB, hgl⟩ := HSH.out (by omega)
   clear hs2 hg3 hG2 HO2
   go_wp2_with fail
   refine (next_in b _ 4 _ hs3 (by omega) (by decide) (by decide)).mono ?_
   rintro _ w4 ⟨q, hq0, hq1, rfl, hs4, hg4⟩
   have hG4 := gr_trans hG3 hg4
   have HO4 : Hid (ConsFrom B w4 (.slice (some ⟨g, 0, none⟩) C.length c2) C) := ownsRow_other HO3.out hg4 hbl
   obtain ⟨x0, x1, x2, x3, x4, x5, x6, x7⟩ := HO4.out.at_ J hJ
   have hYJ := HSM.out C[J] (List.getElem_mem hJ)
   have HJS := Lib.hid (fun y (hy : ConSm y) => set_allC HSM.out J y hy)
   clear hs3 hg4 hG3 HO3
   by_cases q0 : q = 0
   ·subst q0
    go_wp2_with fail
    refine (pick_at b _ _ 2 2 [C[J].tm, -1] _ hs4 rfl (by omega) rfl (by decide) (by decide)).mono ?_
    rintro _ w5 ⟨e1, _, rfl, hs5, hg5⟩
    clear x0 x1 x2 x3 x4 x5 x6 x7
    go_wp2_with fail
    refine (odd_in b _ 1 3 _ hs5 (by omega) (by decide) (by decide) (by decide)).mono ?_
    rintro _ w6 ⟨e2, _, _, rfl, hs6, hg6⟩
    have hR6 := gr_trans hg5 hg6
    have hG6 := gr_trans hG4 hR6
    have HOw : ConsFrom B w6 (.slice (some ⟨g, 0, none⟩) C.length c2) C := ownsRow_other HO4.out hR6 hbl
    clear hs4 hs5 hg5 hg6 hR6 hG4 HO4
    have HOs : Hid (ConsFrom B w6 (.slice (some ⟨g, 0, none⟩) C.length c2) C) := HOw
    have hset1 := con_set HOs.out rfl J hJ 0 (by decide) (.int .i64 e1) ⟨e1, C[J].mode, C[J].band, C[J].call, C[J].sent, C[J].heard, C[J].gave, C[J].got⟩ rfl
    rw [Nat.add_zero] at hset1
    have ca := World.ownsRow.cellAt HOs.out (J * 8) (by omega)
    have fa := World.ownsRow.frozenAt HOs.out (J * 8)
    obtain ⟨ua, hua⟩ : ∃ u, (C.flatMap encC)[J * 8]? = some u := ⟨_, List.getElem?_eq_getElem (by rw [flat_len encC 8 (fun _ => rfl)]; omega)⟩
    rw [hua] at ca
    have hJ2 : J < (C.set J ⟨e1, C[J].mode, C[J].band, C[J].call, C[J].sent, C[J].heard, C[J].gave, C[J].got⟩).length := by rw [List.length_set]; exact hJ
    have hset2 := con_set hset1.1 (by rw [List.length_set]) J hJ2 1 (by decide) (.int .i64 e2) ⟨e1, e2, C[J].band, C[J].call, C[J].sent, C[J].heard, C[J].gave, C[J].got⟩ (by rw [List.getElem_set_self]; rfl)
    rw [List.set_set] at hset2
    have cb := World.ownsRow.cellAt (show (w6.setCell ⟨g, J * 8, none⟩ (.int .i64 e1)).ownsRow B 43 8 (.slice (some ⟨g, 0, none⟩) C.length c2) C.length _ from by have h := hset1.1; unfold ConsFrom at h; rw [List.length_set] at h; exact h) (J * 8 + 1) (by omega)
    have fb := World.ownsRow.frozenAt (show (w6.setCell ⟨g, J * 8, none⟩ (.int .i64 e1)).ownsRow B 43 8 (.slice (some ⟨g, 0, none⟩) C.length c2) C.length _ from by have h := hset1.1; unfold ConsFrom at h; rw [List.length_set] at h; exact h) (J * 8 + 1)
    obtain ⟨ub, hub⟩ := sat_len (l := (C.set J ⟨e1, C[J].mode, C[J].band, C[J].call, C[J].sent, C[J].heard, C[J].gave, C[J].got⟩).flatMap encC) (i := J * 8 + 1) (by rw [flat_len encC 8 (fun _ => rfl)]; omega)
    rw [hub] at cb
    have hGs : w.grownBy ((w6.setCell ⟨g, J * 8, none⟩ (.int .i64 e1)).setCell ⟨g, J * 8 + 1, none⟩ (.int .i64 e2)) (some b) := gr_grown hG6 (gr_trans hset1.2 hset2.2) (fun gg e => by injection e with e; exact .inr (by have := HB.out; omega))
    have hss := hs6.grown (gr_trans hset1.2 hset2.2) (fun gg e => by injection e with e; omega)
    have HR := Lib.hid (HP.out _ _ ((w6.setCell ⟨g, J * 8, none⟩ (.int .i64 e1)).setCell ⟨g, J * 8 + 1, none⟩ (.int .i64 e2)) hset2.1 (by rw [List.length_set]; exact hCm) (HJS.out _ hYJ) (hss.mono (by omega)) hGs)
    clear HP hset1 hset2 hub hJ2 hua hGs hss
    go_wp2_with fail
    exact HR.out
   by_cases q1 : q = 1
   ·subst q1
    clear q0
    go_wp2_with fail
    refine (some_at b _ _ 2 2 [C[J].band, ⟨#[]⟩] _ hs4 rfl (by omega) rfl (by decide) (by decide)).mono ?_
    rintro _ w5 ⟨e1, he1, rfl, hs5, hg5⟩
    have hz1 : e1.size ≤ 1000 := by rcases List.mem_cons.1 he1 with rfl | h; exact hYJ.1; rw [List.mem_singleton.1 h]; decide
    clear x0 x1 x2 x3 x4 x5 x6 x7 he1
    go_wp2_with fail
    refine (some_at b _ _ 2 2 [⟨#[]⟩, ⟨#[65]⟩] _ hs5 rfl (by omega) rfl (by decide) (by decide)).mono ?_
    rintro _ w6 ⟨e2, he2, rfl, hs6, hg6⟩
    have hz2 : e2.size ≤ 1000 := by have := some_sm he2 (by decide); omega
    have hR6 := gr_trans hg5 hg6
    have hG6 := gr_trans hG4 hR6
    have HOw : ConsFrom B w6 (.slice (some ⟨g, 0, none⟩) C.length c2) C := ownsRow_other HO4.out hR6 hbl
    clear hs4 hs5 hg5 hg6 hR6 hG4 HO4 he2
    have HOs : Hid (ConsFrom B w6 (.slice (some ⟨g, 0, none⟩) C.length c2) C) := HOw
    have hset1 := con_set HOs.out rfl J hJ 2 (by decide) (.string e1) ⟨C[J].tm, C[J].mode, e1, C[J].call, C[J].sent, C[J].heard, C[J].gave, C[J].got⟩ rfl
    have ca := World.ownsRow.cellAt HOs.out (J * 8 + 2) (by omega)
    have fa := World.ownsRow.frozenAt HOs.out (J * 8 + 2)
    obtain ⟨ua, hua⟩ : ∃ u, (C.flatMap encC)[J * 8 + 2]? = some u := ⟨_, List.getElem?_eq_getElem (by rw [flat_len encC 8 (fun _ => rfl)]; omega)⟩
    rw [hua] at ca
    have hJ2 : J < (C.set J ⟨C[J].tm, C[J].mode, e1, C[J].call, C[J].sent, C[J].heard, C[J].gave, C[J].got⟩).length := by rw [List.length_set]; exact hJ
    have hset2 := con_set hset1.1 (by rw [List.length_set]) J hJ2 7 (by decide) (.string e2) ⟨C[J].tm, C[J].mode, e1, C[J].call, C[J].sent, C[J].heard, C[J].gave, e2⟩ (by rw [List.getElem_set_self]; rfl)
    rw [List.set_set] at hset2
    have cb := World.ownsRow.cellAt (show (w6.setCell ⟨g, J * 8 + 2, none⟩ (.string e1)).ownsRow B 43 8 (.slice (some ⟨g, 0, none⟩) C.length c2) C.length _ from by have h := hset1.1; unfold ConsFrom at h; rw [List.length_set] at h; exact h) (J * 8 + 7) (by omega)
    have fb := World.ownsRow.frozenAt (show (w6.setCell ⟨g, J * 8 + 2, none⟩ (.string e1)).ownsRow B 43 8 (.slice (some ⟨g, 0, none⟩) C.length c2) C.length _ from by have h := hset1.1; unfold ConsFrom at h; rw [List.length_set] at h; exact h) (J * 8 + 7)
    obtain ⟨ub, hub⟩ := sat_len (l := (C.set J ⟨C[J].tm, C[J].mode, e1, C[J].call, C[J].sent, C[J].heard, C[J].gave, C[J].got⟩).flatMap encC) (i := J * 8 + 7) (by rw [flat_len encC 8 (fun _ => rfl)]; omega)
    rw [hub] at cb
    have hGs : w.grownBy ((w6.setCell ⟨g, J * 8 + 2, none⟩ (.string e1)).setCell ⟨g, J * 8 + 7, none⟩ (.string e2)) (some b) := gr_grown hG6 (gr_trans hset1.2 hset2.2) (fun gg e => by injection e with e; exact .inr (by have := HB.out; omega))
    have hss := hs6.grown (gr_trans hset1.2 hset2.2) (fun gg e => by injection e with e; omega)
    have HR := Lib.hid (HP.out _ _ ((w6.setCell ⟨g, J * 8 + 2, none⟩ (.string e1)).setCell ⟨g, J * 8 + 7, none⟩ (.string e2)) hset2.1 (by rw [List.length_set]; exact hCm) (HJS.out _ ⟨hz1, hYJ.2.1, hYJ.2.2.1, hYJ.2.2.2.1, hz2⟩) (hss.mono (by omega)) hGs)
    clear HP hset1 hset2 hub hJ2 hua hGs hss
    go_wp2_with fail
    exact HR.out
   by_cases q2 : q = 2
   ·subst q2
    clear q0 q1
    go_wp2_with fail
    refine (callOf_in b _ _ hs4 (by omega)).mono ?_
    rintro _ w5 ⟨e1, rfl, hz1, ha1, hs5, hg5⟩
    have HA1 := Lib.hid ha1
    clear x0 x1 x2 x3 x4 x5 x6 x7 ha1
    go_wp2_with fail
    refine (some_at b _ _ 2 2 [⟨#[]⟩, ⟨#[45]⟩] _ hs5 rfl (by omega) rfl (by decide) (by decide)).mono ?_
    rintro _ w6 ⟨e2, he2, rfl, hs6, hg6⟩
    have hz2 : e2.size ≤ 100 := some_sm he2 (by decide)
    have hA2 : Ascii e2 := by rcases List.mem_cons.1 he2 with rfl | h; exact (fewA_of (n := 0) (by decide)).2; rw [List.mem_singleton.1 h]; exact (fewA_of (n := 1) (by decide)).2
    have hsum : (e1 ++ e2).size ≤ 1000 := by rw [ByteArray.size_append]; omega
    have HAA := Lib.hid (Ascii.app HA1.out hA2)
    have hR6 := gr_trans hg5 hg6
    have hG6 := gr_trans hG4 hR6
    have HOw : ConsFrom B w6 (.slice (some ⟨g, 0, none⟩) C.length c2) C := ownsRow_other HO4.out hR6 hbl
    clear hs4 hs5 hg5 hg6 hR6 hG4 HO4 he2 hA2
    have HOs : Hid (ConsFrom B w6 (.slice (some ⟨g, 0, none⟩) C.length c2) C) := HOw
    have hset1 := con_set HOs.out rfl J hJ 3 (by decide) (.string (e1 ++ e2)) ⟨C[J].tm, C[J].mode, C[J].band, e1 ++ e2, C[J].sent, C[J].heard, C[J].gave, C[J].got⟩ rfl
    have ca := World.ownsRow.cellAt HOs.out (J * 8 + 3) (by omega)
    have fa := World.ownsRow.frozenAt HOs.out (J * 8 + 3)
    obtain ⟨ua, hua⟩ : ∃ u, (C.flatMap encC)[J * 8 + 3]? = some u := ⟨_, List.getElem?_eq_getElem (by rw [flat_len encC 8 (fun _ => rfl)]; omega)⟩
    rw [hua] at ca
    have hGs : w.grownBy (w6.setCell ⟨g, J * 8 + 3, none⟩ (.string (e1 ++ e2))) (some b) := gr_grown hG6 (hset1.2) (fun gg e => by injection e with e; exact .inr (by have := HB.out; omega))
    have hss := hs6.grown (hset1.2) (fun gg e => by injection e with e; omega)
    have HR := Lib.hid (HP.out _ _ (w6.setCell ⟨g, J * 8 + 3, none⟩ (.string (e1 ++ e2))) hset1.1 (by rw [List.length_set]; exact hCm) (HJS.out _ ⟨hYJ.1, hsum, HAA.out, hYJ.2.2.2.1, hYJ.2.2.2.2⟩) (hss.mono (by omega)) hGs)
    clear HP hset1 hua hGs hss
    go_wp2_with fail
    exact HR.out
   ·skip
    go_wp2_with fail
    refine (odd_in b _ 0 99999 _ hs4 (by omega) (by decide) (by decide) (by decide)).mono ?_
    rintro _ w5 ⟨e1, _, _, rfl, hs5, hg5⟩
    clear x0 x1 x2 x3 x4 x5 x6 x7
    go_wp2_with fail
    refine (odd_in b _ 0 99999 _ hs5 (by omega) (by decide) (by decide) (by decide)).mono ?_
    rintro _ w6 ⟨e2, _, _, rfl, hs6, hg6⟩
    have hR6 := gr_trans hg5 hg6
    have hG6 := gr_trans hG4 hR6
    have HOw : ConsFrom B w6 (.slice (some ⟨g, 0, none⟩) C.length c2) C := ownsRow_other HO4.out hR6 hbl
    clear hs4 hs5 hg5 hg6 hR6 hG4 HO4
    have HOs : Hid (ConsFrom B w6 (.slice (some ⟨g, 0, none⟩) C.length c2) C) := HOw
    have hset1 := con_set HOs.out rfl J hJ 4 (by decide) (.int .i64 e1) ⟨C[J].tm, C[J].mode, C[J].band, C[J].call, e1, C[J].heard, C[J].gave, C[J].got⟩ rfl
    have ca := World.ownsRow.cellAt HOs.out (J * 8 + 4) (by omega)
    have fa := World.ownsRow.frozenAt HOs.out (J * 8 + 4)
    obtain ⟨ua, hua⟩ : ∃ u, (C.flatMap encC)[J * 8 + 4]? = some u := ⟨_, List.getElem?_eq_getElem (by rw [flat_len encC 8 (fun _ => rfl)]; omega)⟩
    rw [hua] at ca
    have hJ2 : J < (C.set J ⟨C[J].tm, C[J].mode, C[J].band, C[J].call, e1, C[J].heard, C[J].gave, C[J].got⟩).length := by rw [List.length_set]; exact hJ
    have hset2 := con_set hset1.1 (by rw [List.length_set]) J hJ2 5 (by decide) (.int .i64 e2) ⟨C[J].tm, C[J].mode, C[J].band, C[J].call, e1, e2, C[J].gave, C[J].got⟩ (by rw [List.getElem_set_self]; rfl)
    rw [List.set_set] at hset2
    have cb := World.ownsRow.cellAt (show (w6.setCell ⟨g, J * 8 + 4, none⟩ (.int .i64 e1)).ownsRow B 43 8 (.slice (some ⟨g, 0, none⟩) C.length c2) C.length _ from by have h := hset1.1; unfold ConsFrom at h; rw [List.length_set] at h; exact h) (J * 8 + 5) (by omega)
    have fb := World.ownsRow.frozenAt (show (w6.setCell ⟨g, J * 8 + 4, none⟩ (.int .i64 e1)).ownsRow B 43 8 (.slice (some ⟨g, 0, none⟩) C.length c2) C.length _ from by have h := hset1.1; unfold ConsFrom at h; rw [List.length_set] at h; exact h) (J * 8 + 5)
    obtain ⟨ub, hub⟩ := sat_len (l := (C.set J ⟨C[J].tm, C[J].mode, C[J].band, C[J].call, e1, C[J].heard, C[J].gave, C[J].got⟩).flatMap encC) (i := J * 8 + 5) (by rw [flat_len encC 8 (fun _ => rfl)]; omega)
    rw [hub] at cb
    have hGs : w.grownBy ((w6.setCell ⟨g, J * 8 + 4, none⟩ (.int .i64 e1)).setCell ⟨g, J * 8 + 5, none⟩ (.int .i64 e2)) (some b) := gr_grown hG6 (gr_trans hset1.2 hset2.2) (fun gg e => by injection e with e; exact .inr (by have := HB.out; omega))
    have hss := hs6.grown (gr_trans hset1.2 hset2.2) (fun gg e => by injection e with e; omega)
    have HR := Lib.hid (HP.out _ _ ((w6.setCell ⟨g, J * 8 + 4, none⟩ (.int .i64 e1)).setCell ⟨g, J * 8 + 5, none⟩ (.int .i64 e2)) hset2.1 (by rw [List.length_set]; exact hCm) (HJS.out _ hYJ) (hss.mono (by omega)) hGs)
    clear HP hset1 hset2 hub hJ2 hua hGs hss
    go_wp2_with fail
    exact HR.out
def RightWPost (b k m : Nat) (w : World) (e : Ending) (w' : World) : Prop :=
 ∃ (v : Value) (l : List Con), e = .returned v ∧ ConsFrom w.heap.size w' v l ∧ l.length ≤ m ∧ (∀ y ∈ l, ConSm y) ∧ consE l = 0 ∧ Str w' b (k + 12000) ∧ w.grownBy w' (some b)
set_option maxRecDepth 100000 in
set_option maxHeartbeats 4000000 in
theorem rightWorked_in (b k m : Nat) (hm : m ≤ 20) (w : World) (hs : Str w b k) (hk : k ≤ 10000000) :
 Calls Tryz.prog 12 #[.pointer (some ⟨b, 0, none⟩), .int .i64 (m : Int)] w (RightWPost b k m w) := by
 go_enter Tryz.func12, Tryz.ntmps12
 go_wp2_with fail
 go_loopw [6] (fun i wr => ∃ j : Nat, j ≤ 6 ∧ i = .int .i64 j ∧ Str wr b (k + 2000 * j) ∧ w.grownBy wr (some b)) (fun i _ => 6 - (intOf i).toNat)
 case atStart => exact ⟨0, by omega, rfl, hs, gr_refl _ _⟩
 case round =>
  obtain ⟨j, hj, rfl, hsr, hgr⟩ := hrel
  by_cases hlt : j < 6
  ·have hjl : (j : Int) < 6 := by omega
   go_wp2_with fail
   refine (workedList_in b _ m hm _ hsr (by omega)).mono ?_
   rintro _ w1 ⟨v, l, rfl, hv, hl, hsm, hs1, hg1⟩
   have hG1 := gr_trans hgr hg1
   have HF := Lib.hid (contactsFault_any wr.heap.size v l w1 hv hsm)
   have HV := Lib.hid hv
   have HSM := Lib.hid hsm
   have hszr := hgr.size
   clear hv hsm hg1 hsr hgr
   obtain ⟨E, hE⟩ : ∃ E, consE l = E := ⟨_, rfl⟩
   rw [hE] at HF
   have HE := Lib.hid hE
   clear hE
   go_wp2_with fail
   refine HF.out.mono ?_
   rintro _ w2 ⟨rfl, hg2⟩
   have hs2 := hs1.grown hg2 (by simp)
   have hG2 := gr_trans hG1 (gr_weak hg2 (some b))
   by_cases hE0 : E = 0
   ·have HR : Hid (RightWPost b k m w (.returned v) w2) := ⟨v, l, rfl, ownsRow_low (HV.out.grown hg2) hszr, hl, HSM.out, HE.out.trans hE0, hs2.mono (by omega), hG2⟩
    subst hE0
    clear hs1 hG1 hg2 HF
    go_wp2_with fail
    go_ret
    exact HR.out
   ·have e1b : (E == 0) = false := by rw [beq_eq_false_iff_ne]; exact hE0
    have e1n : (E != 0) = true := by rw [bne, e1b]; rfl
    clear hs1 hG1 hg2 HF
    go_wp2_with fail
    go_roundw
    case rel => exact ⟨j + 1, by omega, by go_num, hs2.mono (by omega), hG2⟩
    case measure => simp [intOf]; omega
  ·have hjl : ¬ (j : Int) < 6 := by omega
   go_wp2_with fail
   go_ret
   exact ⟨.slice none 0 0, [], rfl, World.ownsRow_nil _ _ _ _, by simp, by simp, rfl, hsr.mono (by omega), hgr⟩
end Go.Proofs.YthlflljlkkkanaaGreatDoor

namespace Go.Proofs.YthlflljlkkkanaaGreatDoor
open Go.RowKit
set_option linter.unusedVariables false
set_option linter.unusedSimpArgs false

theorem eqlMul (x a : Int) (b c d e : Bool) (w : World) : (binOp .eql 51 (.agg #[.int .i64 x, .bool b, .bool c]) (.agg #[.int .i64 a, .bool d, .bool e])).run Tryz.prog w = .ok (.bool (x == a && (b == d && c == e))) w := by
 by_cases h1 : x = a
 ·subst h1
  cases b <;> cases c <;> cases d <;> cases e <;> go_simp
 ·have h1' : (x == a) = false := by rw [beq_eq_false_iff_ne]; exact h1
  go_simp
/-- The cells of kinds of multipliers from a block's beginning on. -/
def MulsAt (w : World) (g : Nat) (p : List Mul) : Prop := ∀ j (h : j < p.length), w.cell? ⟨g, j * 3, none⟩ = some (.int .i64 p[j].what) ∧ w.cell? ⟨g, j * 3 + 1, none⟩ = some (.bool p[j].byBand) ∧ w.cell? ⟨g, j * 3 + 2, none⟩ = some (.bool p[j].byMode)
theorem MulsAt.grown {w w' : World} {g : Nat} {p : List Mul} (h : MulsAt w g p) (hg : w.grownBy w' none) : MulsAt w' g p := fun j hj => ⟨hg.cell (h j hj).1 (by simp), hg.cell (h j hj).2.1 (by simp), hg.cell (h j hj).2.2 (by simp)⟩
theorem any_take {α : Type} (f : α → Bool) (p : List α) (k : Nat) (h : k < p.length) : (p.take (k + 1)).any f = ((p.take k).any f || f p[k]) := by
 rw [List.take_succ_eq_append_getElem h, List.any_append]
 simp
set_option maxRecDepth 100000 in
set_option maxHeartbeats 2000000 in
theorem indexM_any (g n c : Nat) (p : List Mul) (x : Int) (y z : Bool) (w : World) (hn : n = p.length) (hb : n ≤ 1000) (h : MulsAt w g p) :
 Calls Tryz.prog 171 #[.slice (some ⟨g, 0, none⟩) n c, .agg #[.int .i64 x, .bool y, .bool z]] w fun e w' => ∃ i : Int, e = .returned (.int .i64 i) ∧ decide (0 ≤ i) = p.any (mulEq ⟨x, y, z⟩) ∧ w.grownBy w' none := by
 have HM := Lib.hid h
 have hB := Blk.new w 51 #[.int .i64 x, .bool y, .bool z]
 have hgA := World.grownBy_alloc w (.cells #[.int .i64 x, .bool y, .bool z] 51) none
 clear h
 go_enter Tryz.func171, Tryz.ntmps171
 go_upto_region 1 with fail
 generalize w.alloc (.cells #[.int .i64 x, .bool y, .bool z] 51) = w0 at *
 generalize w.heap.size = gM at *
 go_wp2_with fail
 go_loopw [8] (fun i wr => ∃ k : Nat, k ≤ n ∧ i = .int .i64 k ∧ Hid ((p.take k).any (mulEq ⟨x, y, z⟩) = false) ∧ Blk wr gM 51 #[.int .i64 x, .bool y, .bool z] ∧ w.grownBy wr none) (fun i _ => n - (intOf i).toNat)
 case atStart => exact ⟨0, by omega, rfl, (show _ = _ by simp), hB, hgA⟩
 case round =>
  obtain ⟨k, hk, rfl, HN, hBr, hgr⟩ := hrel
  clear hB hgA
  by_cases hlt : k < n
  ·have hki : (k : Int) < (n : Int) := by omega
   have hk0 : (0 : Int) ≤ (k : Int) := by omega
   have hkp : k < p.length := by omega
   obtain ⟨a0, a1, a2⟩ := HM.out.grown hgr k hkp
   have hany := any_take (mulEq ⟨x, y, z⟩) p k hkp
   have hme : mulEq ⟨x, y, z⟩ p[k] = (x == p[k].what && (y == p[k].byBand && z == p[k].byMode)) := rfl
   have hex : mulEq ⟨x, y, z⟩ p[k] = true → p.any (mulEq ⟨x, y, z⟩) = true := fun hh => List.any_eq_true.2 ⟨_, List.getElem_mem hkp, hh⟩
   rw [HN.out, hme] at hany
   rw [hme] at hex
   generalize p[k].what = a at *
   generalize p[k].byBand = d at *
   generalize p[k].byMode = e at *
   obtain ⟨EQ, hEQ⟩ : ∃ q, (x == a && (y == d && z == e)) = q := ⟨_, rfl⟩
   rw [hEQ] at hany hex
   have HAN := Lib.hid hany
   have HEX := Lib.hid hex
   have heq : ∀ W, (binOp .eql 51 (.agg #[.int .i64 x, .bool y, .bool z]) (.agg #[.int .i64 a, .bool d, .bool e])).run Tryz.prog W = .ok (.bool EQ) W := fun W => by rw [eqlMul, hEQ]
   have c0 := hBr.cell 0
   have c1 := hBr.cell 1
   have c2 := hBr.cell 2
   simp only [List.getElem?_toArray, List.getElem?_cons_zero, List.getElem?_cons_succ] at c0 c1 c2
   clear hany hex hme hEQ
   go_upto_region 4 with fail
   refine wp_region_held_drew (S := fun W => W.cell? ⟨gM, 0, none⟩ = some (.int .i64 x) ∧ W.cell? ⟨gM, 1, none⟩ = some (.bool y) ∧ W.cell? ⟨gM, 2, none⟩ = some (.bool z) ∧ W.cell? ⟨g, k * 3, none⟩ = some (.int .i64 a) ∧ W.cell? ⟨g, k * 3 + 1, none⟩ = some (.bool d) ∧ W.cell? ⟨g, k * 3 + 2, none⟩ = some (.bool e)) (by kernel_rfl) ⟨c0, c1, c2, a0, a1, a2⟩ (fun hHeld => ?_)
   refine wpAnyH_take (i := 0) (v := ?_) rfl (by kernel_rfl) (by kernel_rfl) (by kernel_rfl) (fun _ _ _ h => h) (Or.inl ⟨by kernel_rfl, ?_⟩) hHeld ?_
   rotate_left
   ·intro w hSw
    (try dsimp only at hSw)
    obtain ⟨hS0, hS1, hS2, hS3, hS4, hS5⟩ := hSw
    go_simp
    (try with_reducible rfl)
   change wpAnyH _ _ _ _ _ _ _ (Act.put _ (some 11) _) _
   simp only [Act.put, ssA, ssZ, ssS]
   refine wpAnyH_take (i := 1) (v := ?_) rfl (by kernel_rfl) (by kernel_rfl) (by kernel_rfl) (fun _ _ _ h => h) (Or.inl ⟨by kernel_rfl, ?_⟩) hHeld ?_
   rotate_left
   ·intro w hSw
    (try dsimp only at hSw)
    obtain ⟨hS0, hS1, hS2, hS3, hS4, hS5⟩ := hSw
    go_simp
    (try with_reducible rfl)
   change wpAnyH _ _ _ _ _ _ _ (Act.put _ (some 12) _) _
   simp only [Act.put, ssA, ssZ, ssS]
   refine wpAnyH_take (i := 2) (v := ?_) rfl (by kernel_rfl) (by kernel_rfl) (by kernel_rfl) (fun _ _ _ h => h) (Or.inl ⟨by kernel_rfl, ?_⟩) hHeld ?_
   rotate_left
   ·intro w hSw
    (try dsimp only at hSw)
    obtain ⟨hS0, hS1, hS2, hS3, hS4, hS5⟩ := hSw
    go_simp
    (try with_reducible rfl)
   change wpAnyH _ _ _ _ _ _ _ (Act.put _ (some 13) _) _
   simp only [Act.put, ssA, ssZ, ssS]
   refine wpAnyH_take (i := 3) (v := ?_) rfl (by kernel_rfl) (by kernel_rfl) (by kernel_rfl) (fun _ _ _ h => h) (Or.inl ⟨by kernel_rfl, ?_⟩) hHeld ?_
   rotate_left
   ·intro w hSw
    (try dsimp only at hSw)
    obtain ⟨hS0, hS1, hS2, hS3, hS4, hS5⟩ := hSw
    go_simp
    (try with_reducible rfl)
   change wpAnyH _ _ _ _ _ _ _ (Act.put _ (some 14) _) _
   simp only [Act.put, ssA, ssZ, ssS]
   refine wpAnyH_take (i := 4) (v := ?_) rfl (by kernel_rfl) (by kernel_rfl) (by kernel_rfl) (fun _ _ _ h => h) (Or.inl ⟨by kernel_rfl, ?_⟩) hHeld ?_
   rotate_left
   ·intro w hSw
    (try dsimp only at hSw)
    obtain ⟨hS0, hS1, hS2, hS3, hS4, hS5⟩ := hSw
    go_simp
    (try with_reducible rfl)
   change wpAnyH _ _ _ _ _ _ _ (Act.put _ (some 15) _) _
   simp only [Act.put, ssA, ssZ, ssS]
   refine wpAnyH_take (i := 5) (v := ?_) rfl (by kernel_rfl) (by kernel_rfl) (by kernel_rfl) (fun _ _ _ h => h) (Or.inl ⟨by kernel_rfl, ?_⟩) hHeld ?_
   rotate_left
   ·intro w hSw
    (try dsimp only at hSw)
    obtain ⟨hS0, hS1, hS2, hS3, hS4, hS5⟩ := hSw
    go_simp
    (try with_reducible rfl)
   change wpAnyH _ _ _ _ _ _ _ (Act.put _ (some 16) _) _
   simp only [Act.put, ssA, ssZ, ssS]
   refine wpAnyH_done (by kernel_rfl) ?_ _
   clear c0 c1 c2 a0 a1 a2 heq
   have hgd := gr_drew hgr
   have hBd := hBr.grown (gr_drew (gr_refl wr none)) (by simp)
   generalize wr.drew = wq at *
   clear hBr hgr
   cases EQ
   ·have HN2 : Hid ((p.take (k + 1)).any (mulEq ⟨x, y, z⟩) = false) := by show _ = _; rw [HAN.out]; rfl
    go_wp2_with fail
    go_roundw
    case rel => exact ⟨k + 1, by omega, by go_num, HN2, hBd, hgd⟩
    case measure => simp [intOf]; omega
   ·have HC : Hid (decide ((0 : Int) ≤ (k : Int)) = p.any (mulEq ⟨x, y, z⟩)) := by show _ = _; rw [HEX.out rfl]; simp
    go_wp2_with fail
    go_ret
    exact ⟨k, rfl, HC.out, hgd⟩
  ·have hki : ¬ (k : Int) < (n : Int) := by omega
   have HC : Hid (decide ((0 : Int) ≤ -1) = p.any (mulEq ⟨x, y, z⟩)) := by
    show _ = _
    have h := HN.out
    rw [List.take_of_length_le (by omega)] at h
    rw [h]; rfl
   go_wp2_with fail
   go_ret
   exact ⟨-1, rfl, HC.out, hgr⟩
set_option maxRecDepth 100000 in
set_option maxHeartbeats 2000000 in
theorem containsM_any (g n c : Nat) (p : List Mul) (x : Int) (y z : Bool) (w : World) (hn : n = p.length) (hb : n ≤ 1000) (h : MulsAt w g p) :
 Calls Tryz.prog 78 #[.slice (some ⟨g, 0, none⟩) n c, .agg #[.int .i64 x, .bool y, .bool z]] w fun e w' => e = .returned (.bool (p.any (mulEq ⟨x, y, z⟩))) ∧ w.grownBy w' none := by
 have hB := Blk.new w 51 #[.int .i64 x, .bool y, .bool z]
 have hgA := World.grownBy_alloc w (.cells #[.int .i64 x, .bool y, .bool z] 51) none
 have HI := Lib.hid (indexM_any g n c p x y z _ hn hb (h.grown hgA))
 clear h hn
 go_enter Tryz.func78, Tryz.ntmps78
 go_upto_region 1 with fail
 generalize w.alloc (.cells #[.int .i64 x, .bool y, .bool z] 51) = w0 at *
 generalize w.heap.size = gM at *
 have c0 := hB.cell 0
 have c1 := hB.cell 1
 have c2 := hB.cell 2
 simp only [List.getElem?_toArray, List.getElem?_cons_zero, List.getElem?_cons_succ] at c0 c1 c2
 go_wp2_with fail
 refine HI.out.mono ?_
 rintro _ w2 ⟨i, rfl, hi, hg⟩
 have HC := Lib.hid hi
 clear hi
 go_wp2_with fail
 go_ret
 exact ⟨by rw [← HC.out]; rfl, gr_trans hgA hg⟩
end Go.Proofs.YthlflljlkkkanaaGreatDoor

namespace Go.Proofs.YthlflljlkkkanaaGreatDoor
open Go.RowKit
set_option linter.unusedVariables false

end Go.Proofs.YthlflljlkkkanaaGreatDoor

namespace Go.Proofs.YthlflljlkkkanaaGreatDoor
open Go.RowKit
set_option linter.unusedVariables false

theorem ret_3i {a b c d e f : Int} (h : a = b) (h' : c = d) (h2 : e = f) : Ending.returned (.tuple #[.int .i64 a, .int .i64 c, .int .i64 e]) = .returned (.tuple #[.int .i64 b, .int .i64 d, .int .i64 f]) := by rw [h, h', h2]
theorem bestI_drop (l : List Int) (long : Int) (st : Int × Int) (k : Nat) (h : k < l.length) : (l.drop k).foldl (bestStep l long) st = (l.drop (k + 1)).foldl (bestStep l long) (bestStep l long st l[k]) := by
 rw [List.drop_eq_getElem_cons h]; rfl
set_option maxRecDepth 100000 in
set_option maxHeartbeats 4000000 in
theorem best_ok (base : Nat) (v : Value) (l : List Int) (a zt long : Int) (w : World) (hl : IntsFrom base w v l) (hE : timesE l a zt = 0) (hLo : longE long = 0) :
 Calls Tryz.prog 82 #[v, .agg #[.int .i64 a, .int .i64 zt], .int .i64 long] w fun r w' => r = .returned (.tuple #[.int .i64 (bestI l a long).1, .int .i64 (bestI l a long).2, .int .i64 0]) ∧ w.grownBy w' none := by
 have O := timesE_ok hE
 obtain ⟨hb, r2, r3⟩ : outB long 60000 86400000 = false ∧ 60000 ≤ long ∧ long ≤ 86400000 := by
  rcases longE_cases long with ⟨_, h0, h1, h2⟩ | ⟨h, _⟩
  ·exact ⟨h0, h1, h2⟩
  ·omega
 have hto := O.to_
 have ha0 := O.a0
 have hato := O.ato
 have hll := O.len
 have hG := World.grownBy_alloc w (.cells #[.int .i64 a, .int .i64 zt] 29) none
 have HL := Lib.hid (hl.alloc (.cells #[.int .i64 a, .int .i64 zt] 29))
 have hx0 := Blk.new w 29 #[.int .i64 a, .int .i64 zt]
 obtain ⟨A, c, rfl, hlen, hA⟩ := hl.shape
 have HA := Lib.hid hA
 have HO := Lib.hid O
 have HE := Lib.hid hE
 have HLo := Lib.hid hLo
 have m1 : IntKind.i64.wrap (a + long) = a + long := IntWalk.i64_in _ ⟨by omega, by omega⟩
 clear hl hA O hLo
 go_enter Tryz.func82, Tryz.ntmps82
 go_wp2_with fail
 refine (checkTimes_any base _ _ _ _ _ HL.out (by omega) (by omega)).mono ?_
 rintro _ w1 ⟨rfl, hg1⟩
 have hx1 := hx0.grown hg1 (by simp)
 have c0 : w1.cell? ⟨w.heap.size, 0, none⟩ = some (.int .i64 a) := hx1.cell 0
 have hG1 := gr_trans hG hg1
 have HL1 := Lib.hid (HL.out.grown hg1)
 go_wp2_with fail
 refine (isLong_any _ _).mono ?_
 rintro _ _ ⟨rfl, rfl⟩
 go_wp2_with fail
 have KX : Hid (∀ W' : World, w1.grownBy W' none → W'.cell? ⟨w.heap.size, 0, none⟩ = some (.int .i64 a) ∧ w1.grownBy W' none) := fun W' hW => ⟨(hx1.grown hW (by simp)).cell 0, hW⟩
 clear hg1 c0
 have c0 : w1.cell? ⟨w.heap.size, 0, none⟩ = some (.int .i64 a) := hx1.cell 0
 go_region_held3 (fun W' => W'.cell? ⟨w.heap.size, 0, none⟩ = some (.int .i64 a) ∧ w1.grownBy W' none)
  ((exact KX.out _ (by first | exact gr_refl _ _ | exact gr_drew (gr_refl _ _) | exact gr_of_drew (by assumption))))
  (first | (go_at_call 91; refine (in_many base _ _ _ _ _ (HL1.out.grown (by first | exact gr_refl _ _ | exact gr_drew (gr_refl _ _))) HO.out.sorted (by have := HO.out.len; omega)).mono ?_; rintro _ w2 ⟨rfl, hgA⟩))
 rename_i hH
 have hg2 := hH.2
 clear hH KX c0
 have hG2 := gr_trans hG1 hg2
 have HL2 := Lib.hid (HL1.out.grown hg2)
 clear hx1 hG1 hg2 hx0 hG
 have hmb := manyI_bd l a (a + long)
 obtain ⟨m0, hm0⟩ : ∃ m, manyI l a (a + long) = m := ⟨_, rfl⟩
 have HB : Hid (bestI l a long = l.foldl (bestStep l long) (a, m0)) := by show _ = _; rw [← hm0]; rfl
 rw [hm0] at hmb ⊢
 clear hm0
 go_wp2_with fail
 go_loopw [10, 11, 37] (fun b n i wr => ∃ (k : Nat) (st : Int × Int), k ≤ l.length ∧ i = .int .i64 k ∧ b = .int .i64 st.1 ∧ n = .int .i64 st.2 ∧ Hid (bestI l a long = (l.drop k).foldl (bestStep l long) st) ∧ w2.grownBy wr none) (fun _ _ i _ => l.length - (intOf i).toNat)
 case atStart => exact ⟨0, (a, m0), by omega, rfl, rfl, rfl, HB, gr_refl _ _⟩
 case round =>
  obtain ⟨k, ⟨p, q⟩, hk, rfl, rfl, rfl, HR, hG⟩ := hrel
  by_cases hlt : k < l.length
  ·obtain ⟨g, rfl, _, _⟩ := HA.out (by omega)
   have hkl : (k : Int) < (l.length : Int) := by omega
   have cx := (HL2.out.grown hG).at_ k hlt
   have hs := bestI_drop l long (p, q) k hlt
   have hxm := HO.out.mem l[k] (List.getElem_mem hlt)
   obtain ⟨x, hx⟩ : ∃ x, x = l[k] := ⟨_, rfl⟩
   rw [← hx] at cx hs hxm
   have HS := Lib.hid (HR.out.trans hs)
   clear hx hs HR
   go_wp2_with fail
   refine (in_many base _ _ _ _ _ (HL2.out.grown hG) HO.out.sorted (by have := HO.out.len; omega)).mono ?_
   rintro _ w3 ⟨rfl, hg3⟩
   have hG3 := gr_trans hG hg3
   by_cases hqm : q < manyI l x (x + long)
   ·have HN : Hid (bestI l a long = (l.drop (k + 1)).foldl (bestStep l long) (x, manyI l x (x + long))) := by
     show _ = _; rw [HS.out]; unfold bestStep; rw [if_pos hqm]
    go_wp2_with fail
    go_roundw
    case rel => exact ⟨k + 1, (x, manyI l x (x + long)), by omega, by go_num, rfl, rfl, HN, hG3⟩
    case measure => simp [intOf]; omega
   ·have HN : Hid (bestI l a long = (l.drop (k + 1)).foldl (bestStep l long) (p, q)) := by
     show _ = _; rw [HS.out]; unfold bestStep; rw [if_neg hqm]
    go_wp2_with fail
    go_roundw
    case rel => exact ⟨k + 1, (p, q), by omega, by go_num, rfl, rfl, HN, hG3⟩
    case measure => simp [intOf]; omega
  ·have hkl : ¬ (k : Int) < (l.length : Int) := by omega
   have HN : Hid (bestI l a long = (p, q)) := by show _ = _; rw [HR.out, List.drop_of_length_le (by omega)]; rfl
   go_wp2_with fail
   go_ret3
   exact ⟨ret_3i (by rw [HN.out]) (by rw [HN.out]) rfl, gr_trans hG2 hG⟩
end Go.Proofs.YthlflljlkkkanaaGreatDoor

namespace Go.Proofs.YthlflljlkkkanaaGreatDoor
open Go.RowKit
set_option linter.unusedVariables false

end Go.Proofs.YthlflljlkkkanaaGreatDoor

namespace Go.Proofs.YthlflljlkkkanaaGreatDoor
open Go.RowKit
set_option linter.unusedVariables false

end Go.Proofs.YthlflljlkkkanaaGreatDoor

namespace Go.Proofs.YthlflljlkkkanaaGreatDoor
open Go.RowKit
set_option linter.unusedVariables false

end Go.Proofs.YthlflljlkkkanaaGreatDoor

namespace Go.Proofs.YthlflljlkkkanaaGreatDoor
open Go.RowKit
set_option linter.unusedVariables false

theorem hours_eq (a zt : Int) (h : a < zt) : ∃ n : Nat, (hoursI a zt).toNat = n ∧ hoursI a zt = n ∧ a + 3600000 * (n : Int) - 3600000 < zt ∧ zt ≤ a + 3600000 * (n : Int) := by
 refine ⟨(hoursI a zt).toNat, rfl, ?_⟩
 unfold hoursI
 omega
end Go.Proofs.YthlflljlkkkanaaGreatDoor

namespace Go.Proofs.YthlflljlkkkanaaGreatDoor
open Go.RowKit
set_option linter.unusedVariables false

/-- How many of the moments are in each hour. -/
def hourIs (a : Int) (i : Nat) (x : Int) : Bool := decide ((x - a) / 3600000 = (i : Int))
def hist (a : Int) (N : Nat) (l : List Int) : List Int := (List.range N).map fun i => ((l.countP (hourIs a i) : Nat) : Int)
theorem hist_len (a : Int) (N : Nat) (l : List Int) : (hist a N l).length = N := by simp [hist]
theorem hist_nil (a : Int) (N : Nat) : hist a N [] = List.replicate N 0 := by
 unfold hist
 apply List.ext_getElem <;> simp
theorem hist_snoc (a : Int) (N : Nat) (l : List Int) (x : Int) (i : Nat) (hi : i < N) (hx : (x - a) / 3600000 = (i : Int)) : hist a N (l ++ [x]) = (hist a N l).set i ((hist a N l)[i]'(by rw [hist_len]; exact hi) + 1) := by
 apply List.ext_getElem
 ·simp [hist]
 ·intro j h1 h2
  rw [List.getElem_set]
  simp only [hist, List.getElem_map, List.getElem_range, List.countP_append, List.countP_cons, List.countP_nil]
  by_cases h : i = j
  ·subst h
   have : hourIs a i x = true := by unfold hourIs; simpa using hx
   simp [this]
  ·have : hourIs a j x = false := by unfold hourIs; rw [hx]; simp; omega
   simp [this, h]
theorem made_ints (N : Nat) : madeCells (Value.int .i64 0).cells N = ((List.replicate N (0 : Int)).map (Value.int .i64)).toArray := by
 apply Array.ext
 ·simp [madeCells]
 ·intro i h1 h2
  simp [madeCells, Value.cells, Nat.mod_one]
theorem blk_ints {w : World} {g base : Nat} {l : List Int} (h : Blk w g 3 (l.map (Value.int .i64)).toArray) (hb : base ≤ g) (hn : l.length ≤ 1000000) : IntsFrom base w (.slice (some ⟨g, 0, none⟩) l.length l.length) l := by
 refine ⟨by simp, .inr ⟨g, l.length, _, rfl, hb, h, Nat.le_refl _, by unfold maxLen; omega, by simp, ?_⟩⟩
 exact List.take_of_length_le (by simp)
theorem set_ints (l : List Int) (i : Nat) (x : Int) : ((l.map (Value.int .i64)).toArray).setIfInBounds i (.int .i64 x) = ((l.set i x).map (Value.int .i64)).toArray := by
 simp [List.map_set]
theorem hist_bd (a : Int) (N : Nat) (l : List Int) (i : Nat) (hi : i < N) : 0 ≤ (hist a N l)[i]'(by rw [hist_len]; exact hi) ∧ (hist a N l)[i]'(by rw [hist_len]; exact hi) ≤ l.length := by
 simp only [hist, List.getElem_map, List.getElem_range]
 have := List.countP_le_length (p := hourIs a i) (l := l)
 omega
theorem hourL_map (l : List Int) (zt : Int) : ∀ (n : Nat) (f : Int), hourL l zt n f = (List.range n).map fun (i : Nat) => manyI l (f + 3600000 * (i : Int)) (min (f + 3600000 * (i : Int) + 3600000) zt)
 | 0, _ => rfl
 | n + 1, f => by
   rw [hourL, hourL_map l zt n, List.range_succ_eq_map, List.map_cons, List.map_map]
   congr 1
   ·simp
   ·apply List.map_congr_left
    intro i _
    have e : f + 3600000 + 3600000 * (i : Int) = f + 3600000 * ((i + 1 : Nat) : Int) := by omega
    simp only [Function.comp_apply, Nat.succ_eq_add_one]
    rw [e]
theorem hist_hours (a zt : Int) (l : List Int) (N : Nat) (hm : ∀ x ∈ l, a ≤ x ∧ x < zt) (hN : (hoursI a zt).toNat = N) : hist a N l = hourAll l a zt := by
 unfold hourAll
 rw [hN, hourL_map]
 apply List.map_congr_left
 intro i _
 unfold manyI
 congr 1
 apply List.countP_congr
 intro x hx
 have := hm x hx
 unfold hourIs hasB
 simp only [decide_eq_true_eq]
 omega
set_option maxRecDepth 100000 in
set_option maxHeartbeats 4000000 in
theorem hours_new (base : Nat) (v : Value) (l : List Int) (a zt : Int) (w : World) (hl : IntsFrom base w v l) (hE : timesE l a zt = 0) (hh : hoursI a zt ≤ 1000) :
 Calls Tryz.prog 18 #[v, .agg #[.int .i64 a, .int .i64 zt]] w fun r w' => ∃ u, r = .returned (.tuple #[u, .int .i64 0]) ∧ IntsFrom w.heap.size w' u (hourAll l a zt) ∧ w.grownBy w' none := by
 have O := timesE_ok hE
 have hto := O.to_
 have ha0 := O.a0
 have hato := O.ato
 have hll := O.len
 obtain ⟨N, hN1, hN2, hN3, hN4⟩ := hours_eq a zt hato
 have hx0 := Blk.new w 29 #[.int .i64 a, .int .i64 zt]
 have hG := World.grownBy_alloc w (.cells #[.int .i64 a, .int .i64 zt] 29) none
 obtain ⟨A, c, rfl, hlen, hA⟩ := (hl.grown hG).shape
 have HA := Lib.hid hA
 have HL := Lib.hid (hl.grown hG)
 have HO := Lib.hid O
 have hsz : (w.alloc (.cells #[.int .i64 a, .int .i64 zt] 29)).heap.size = w.heap.size + 1 := by simp
 have HH := Lib.hid (hist_hours a zt l N O.mem hN1)
 have HE := Lib.hid hE
 have hN5 : N ≤ 1000 := by omega
 obtain ⟨i0, hi, hz0, hz1, hz2⟩ := info_parts intInfo
 have hmk : ∀ W : World, (Instr.makeSlice 22 (.int .i64 (N : Int)) (.int .i64 (N : Int))).run Tryz.prog W = .ok (.slice (some ⟨W.heap.size, 0, none⟩) N N) (W.alloc (.cells (((hist a N []).map (Value.int .i64)).toArray) 3)) := fun W => by
  have h := run_make (P := Tryz.prog) W 22 3 i0 _ Tryz.underlying22 hi hz0 .i64 .i64 (N : Int) (N : Int) (by omega) (by omega) (by rw [hz2]; omega) (by omega)
  rw [h, hz1, hist_nil, ← made_ints]
  simp
 clear hl O hN1 hA
 go_enter Tryz.func18, Tryz.ntmps18
 go_wp2_with fail
 generalize w.alloc (.cells #[.int .i64 a, .int .i64 zt] 29) = W at *
 refine (checkTimes_any base _ _ _ _ _ HL.out (by omega) (by omega)).mono ?_
 rintro _ w1 ⟨rfl, hg1⟩
 rw [HE.out]
 have hx1 := hx0.grown hg1 (by simp)
 have c0 : w1.cell? ⟨w.heap.size, 0, none⟩ = some (.int .i64 a) := hx1.cell 0
 have c1 : w1.cell? ⟨w.heap.size, 1, none⟩ = some (.int .i64 zt) := hx1.cell 1
 go_wp2_with fail
 refine (hoursOf_any _ _ _ (by omega) (by omega) (by omega)).mono ?_
 rintro _ w2 ⟨rfl, hg2⟩
 have hx2 := hx1.grown hg2 (by simp)
 have c0 : w2.cell? ⟨w.heap.size, 0, none⟩ = some (.int .i64 a) := hx2.cell 0
 have c1 : w2.cell? ⟨w.heap.size, 1, none⟩ = some (.int .i64 zt) := hx2.cell 1
 go_wp2_with fail
 refine (hoursOf_any _ _ _ (by omega) (by omega) (by omega)).mono ?_
 rintro _ w3 ⟨rfl, hg3⟩
 have hx3 := hx2.grown hg3 (by simp)
 rw [hN2]
 go_wp2_with fail
 have hG0 := Blk.new w3 3 (((hist a N []).map (Value.int .i64)).toArray)
 have hx4 := hx3.alloc (.cells (((hist a N []).map (Value.int .i64)).toArray) 3)
 have hg4 := gr_alloc (gr_trans (gr_trans (gr_trans hG hg1) hg2) hg3) (.cells (((hist a N []).map (Value.int .i64)).toArray) 3)
 have HL4 := Lib.hid (HL.out.grown (gr_alloc (gr_trans (gr_trans hg1 hg2) hg3) (.cells (((hist a N []).map (Value.int .i64)).toArray) 3)))
 have hlt0 := hx3.lt
 have hbg : Hid (∀ g, some (⟨g, 0, none⟩ : Addr) = A → 0 < l.length → g < w3.heap.size) := fun g e h => by
  subst e
  obtain ⟨g', e, _, h3⟩ := HA.out h
  injection e with e; injection e with e
  have := (gr_trans (gr_trans hg1 hg2) hg3).size
  omega
 generalize hGG : w3.heap.size = G at *
 generalize w3.alloc (.cells (((hist a N []).map (Value.int .i64)).toArray) 3) = w4 at *
 clear hg1 hg2 hg3 hx0 hx1 hx2 hx3 hG c0 c1 hmk HL
 go_loopw [24] (fun i wr => ∃ k : Nat, k ≤ l.length ∧ i = .int .i64 k ∧ Blk wr G 3 (((hist a N (l.take k)).map (Value.int .i64)).toArray) ∧ w4.grownBy wr (some G)) (fun i _ => l.length - (intOf i).toNat)
 case atStart => exact ⟨0, by omega, rfl, hG0, gr_refl _ _⟩
 case round =>
  obtain ⟨k, hk, rfl, hB, hgr⟩ := hrel
  have hx5 := hx4.grown hgr (by simp; omega)
  have e0 : wr.cell? ⟨w.heap.size, 0, none⟩ = some (.int .i64 a) := hx5.cell 0
  by_cases hlt : k < l.length
  ·obtain ⟨g, rfl, _, _⟩ := HA.out (by omega)
   have hgG := hbg.out g rfl (by omega)
   have hkl : (k : Int) < (l.length : Int) := by omega
   have cx : wr.cell? ⟨g, k, none⟩ = some (.int .i64 l[k]) := by
    have h : IntsFrom base wr _ l := HL4.out.kept hgr (.inr (by simp [Value.ownBlock]; omega))
    exact h.at_ k hlt
   have hxm := HO.out.mem l[k] (List.getElem_mem hlt)
   obtain ⟨j, hj⟩ : ∃ j : Nat, (l[k] - a) / 3600000 = (j : Int) := ⟨((l[k] - a) / 3600000).toNat, by omega⟩
   have hjN : j < N := by omega
   have hjN2 : (j : Int) < (N : Int) := by omega
   have hs := hist_snoc a N (l.take k) l[k] j hjN hj
   have hbd := hist_bd a N (l.take k) j hjN
   have hce := hB.cell j
   have hfr := hB.free j
   obtain ⟨y, hy⟩ : ∃ y, y = (hist a N (l.take k))[j]'(by rw [hist_len]; exact hjN) := ⟨_, rfl⟩
   have hce2 : wr.cell? ⟨G, j, none⟩ = some (.int .i64 y) := by rw [hce, hy]; simp [hist_len, hjN]
   rw [← hy] at hs hbd
   rw [← List.take_succ_eq_append_getElem hlt] at hs
   have HB2 : Hid (∀ w' : World, w' = wr.setCell ⟨G, j, none⟩ (.int .i64 (y + 1)) → Blk w' G 3 (((hist a N (l.take (k + 1))).map (Value.int .i64)).toArray)) := fun w' e => by
    rw [e, hs, ← set_ints]; exact hB.put j _
   obtain ⟨x, hx⟩ : ∃ x, x = l[k] := ⟨_, rfl⟩
   rw [← hx] at cx hxm hj
   have hyb : 0 ≤ y ∧ y ≤ 2000 := by have : (l.take k).length ≤ l.length := by simp; omega
                                     omega
   have hdv : (x - a).tdiv 3600000 = (j : Int) := by rw [Int.tdiv_eq_ediv_of_nonneg (by omega)]; exact hj
   clear hs hce hbd hy hx hB
   go_wp2_with fail
   go_roundw
   case rel => exact ⟨k + 1, by omega, by go_num, HB2.out _ rfl, gr_put hgr (.inl rfl) _⟩
   case measure => simp [intOf]; omega
  ·have hkl : ¬ (k : Int) < (l.length : Int) := by omega
   have HBF : Hid (IntsFrom w.heap.size wr (.slice (some ⟨G, 0, none⟩) N N) (hourAll l a zt)) := by
    have h := blk_ints (base := w.heap.size) hB (by omega) (by rw [hist_len]; omega)
    rw [hist_len, List.take_of_length_le (by omega), HH.out] at h
    exact h
   clear hB
   go_wp2_with fail
   go_ret2
   exact ⟨_, rfl, HBF.out, gr_grown hg4 hgr (fun g e => by injection e with e; exact .inr (by omega))⟩
theorem hours_ok (base : Nat) (v : Value) (l : List Int) (a zt : Int) (w : World) (hl : IntsFrom base w v l) (hE : timesE l a zt = 0) (hh : hoursI a zt ≤ 1000) :
 Calls Tryz.prog 18 #[v, .agg #[.int .i64 a, .int .i64 zt]] w fun r w' => ∃ u, r = .returned (.tuple #[u, .int .i64 0]) ∧ Ints w' u (hourAll l a zt) ∧ w.grownBy w' none :=
 (hours_new base v l a zt w hl hE hh).mono fun _ _ ⟨u, he, hu, hg⟩ => ⟨u, he, IntsFrom.low hu, hg⟩
end Go.Proofs.YthlflljlkkkanaaGreatDoor

namespace Go.Proofs.YthlflljlkkkanaaGreatDoor
set_option linter.unusedVariables false

theorem countP_split (p q : Int → Bool) (l : List Int) (h : ∀ x, ¬ (p x = true ∧ q x = true)) : l.countP (fun x => p x || q x) = l.countP p + l.countP q := by
 induction l with
 | nil => rfl
 | cons x r ih =>
   rw [List.countP_cons, List.countP_cons, List.countP_cons, ih]
   have := h x
   cases hp : p x <;> cases hq : q x <;> simp_all <;> omega
theorem hist_sumN (a : Int) (l : List Int) : ∀ N : Nat, (hist a N l).sum = ((l.countP (fun x => decide (0 ≤ (x - a) / 3600000 ∧ (x - a) / 3600000 < (N : Int))) : Nat) : Int)
 | 0 => by
   have : l.countP (fun x => decide (0 ≤ (x - a) / 3600000 ∧ (x - a) / 3600000 < ((0 : Nat) : Int))) = 0 := by
    rw [List.countP_eq_zero]
    intro x _
    simp
   rw [this]
   simp [hist]
 | N + 1 => by
   have ih := hist_sumN a l N
   unfold hist at ih ⊢
   rw [List.range_succ, List.map_append, List.sum_append, ih]
   have e := countP_split (fun x => decide (0 ≤ (x - a) / 3600000 ∧ (x - a) / 3600000 < (N : Int))) (hourIs a N) l (fun x => by
    unfold hourIs
    simp
    omega)
   have e2 : l.countP (fun x => decide (0 ≤ (x - a) / 3600000 ∧ (x - a) / 3600000 < ((N + 1 : Nat) : Int))) = l.countP (fun x => (decide (0 ≤ (x - a) / 3600000 ∧ (x - a) / 3600000 < (N : Int))) || hourIs a N x) := by
    apply List.countP_congr
    intro x _
    unfold hourIs
    simp
    omega
   rw [e2, e]
   simp
theorem hist_sum (a : Int) (N : Nat) (l : List Int) (h : ∀ x ∈ l, 0 ≤ (x - a) / 3600000 ∧ (x - a) / 3600000 < (N : Int)) : (hist a N l).sum = l.length := by
 rw [hist_sumN]
 congr 1
 rw [List.countP_eq_length]
 intro x hx
 have := h x hx
 simp
 omega
end Go.Proofs.YthlflljlkkkanaaGreatDoor

namespace Go.Proofs.YthlflljlkkkanaaGreatDoor
set_option linter.unusedVariables false

def outTo (a z : Int) (l : List Int) : Nat → List Int
 | 0 => []
 | k + 1 => if hasB a z (l.getD k 0) then outTo a z l k else outTo a z l k ++ [(k : Int)]
def insTo (a z : Int) (l : List Int) : Nat → List Int
 | 0 => []
 | k + 1 => if hasB a z (l.getD k 0) then insTo a z l k ++ [l.getD k 0] else insTo a z l k
theorem ins_out (a z : Int) (l : List Int) : ∀ k, (insTo a z l k).length + (outTo a z l k).length = k
 | 0 => rfl
 | k + 1 => by
   have := ins_out a z l k
   unfold insTo outTo
   split <;> simp <;> omega
theorem out_mem (a z : Int) (l : List Int) : ∀ (k : Nat) (i : Nat), (outTo a z l k).contains (i : Int) = (decide (i < k) && !hasB a z (l.getD i 0))
 | 0, i => by simp [outTo]
 | k + 1, i => by
   have ih := out_mem a z l k i
   unfold outTo
   by_cases hik : i = k
   ·subst hik
    cases hb : hasB a z (l.getD i 0)
    ·simp
    ·rw [if_pos rfl, ih]; simp
   ·split
    ·rw [ih]
     have : decide (i < k) = decide (i < k + 1) := by rw [decide_eq_decide]; omega
     rw [this]
    ·rw [show (outTo a z l k ++ [(k : Int)]).contains (i : Int) = ((outTo a z l k).contains (i : Int) || ((i : Int) == (k : Int))) by rw [Bool.eq_iff_iff]; simp, ih]
     have h1 : ((i : Int) == (k : Int)) = false := by rw [beq_eq_false_iff_ne]; omega
     have h2 : decide (i < k) = decide (i < k + 1) := by rw [decide_eq_decide]; omega
     rw [h1, h2, Bool.or_false]
theorem ins_in (a z : Int) (l : List Int) : ∀ (k : Nat), ∀ x ∈ insTo a z l k, a ≤ x ∧ x < z
 | 0, x, h => by simp [insTo] at h
 | k + 1, x, h => by
   unfold insTo at h
   split at h
   ·next hb =>
    rcases List.mem_append.1 h with h | h
    ·exact ins_in a z l k x h
    ·rw [List.mem_singleton.1 h]
     unfold hasB at hb
     simpa using hb
   ·exact ins_in a z l k x h
theorem scanT_of (a z : Int) : ∀ (p : Option Int) (l : List Int), l.Pairwise (· ≤ ·) → (∀ x ∈ l, a ≤ x ∧ x < z) → (∀ y, p = some y → ∀ x ∈ l, y ≤ x) → scanT a z p l = 0
 | p, [], _, _, _ => rfl
 | p, x :: r, h1, h2, h3 => by
   have hx := h2 x (List.mem_cons_self ..)
   have hp := List.pairwise_cons.1 h1
   unfold scanT
   have ih := scanT_of a z (some x) r hp.2 (fun y hy => h2 y (List.mem_cons_of_mem _ hy)) (fun y hy => by injection hy with hy; subst hy; exact hp.1)
   have hb : hasB a z x = true := by unfold hasB; simp; exact hx
   cases p with
   | none => simp [hb, ih]
   | some y =>
     have := h3 y rfl x (List.mem_cons_self ..)
     simp [hb, ih]
     omega
theorem timesE_of {a z : Int} {l : List Int} (ht : timeB a z = true) (hl : l.length ≤ 2000) (h1 : l.Pairwise (· ≤ ·)) (h2 : ∀ x ∈ l, a ≤ x ∧ x < z) : timesE l a z = 0 := by
 unfold timesE
 rw [if_neg (by rw [ht]; decide), if_neg (by omega)]
 exact scanT_of a z none l h1 h2 (by simp)
theorem hours_sum {a z : Int} {l : List Int} (h : ∀ x ∈ l, a ≤ x ∧ x < z) : (hourAll l a z).sum = (l.length : Int) := by
 rw [← hist_hours a z l (hoursI a z).toNat h rfl]
 apply hist_sum
 intro x hx
 have := h x hx
 unfold hoursI
 omega
theorem many_all {a z : Int} {l : List Int} (h : ∀ x ∈ l, a ≤ x ∧ x < z) : manyI l a z = (l.length : Int) := by
 unfold manyI
 rw [List.countP_eq_length.2 fun x hx => by unfold hasB; simp; exact h x hx]
end Go.Proofs.YthlflljlkkkanaaGreatDoor
