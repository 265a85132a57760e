/- Parts of a proof: ConW, StreamSky, WorkStr, MulW, RateB, RateC. Conditions: as each statement says. -/
import Derived.Test.YtbamhgaghngjiaaGreatDoorCoai
namespace Go.Proofs.YtbamhgaghngjiaaGreatDoor
open Go.RowKit
set_option linter.unusedVariables false
set_option linter.unusedSimpArgs false

theorem jky (s : ByteArray) : (s.toList == []) = s.data.toList.isEmpty := by
 rw [Lib.toList_data]
 cases s.data.toList <;> rfl
def yn (b1 b2 b3 b4 b5 b6 z7 k7 z8 k8 : Bool) : Int :=
 if b1 then 1 else if b2 then 4 else if b3 = false then 5 else if b4 = false then 3 else if b5 then 1 else if b6 then 1 else if (z7 || k7) = false then 5 else if (z8 || k8) = false then 5 else 0
theorem jnv (c : Con) : zq c = yn (qu c.tm 0 345686399999) (qu c.mode 1 3) (jaq c.band.data.toList) (xl c.call) (qu c.sent 0 99999) (qu c.heard 0 99999) c.gave.data.toList.isEmpty (jaq c.gave.data.toList) c.got.data.toList.isEmpty (jaq c.got.data.toList) := rfl
def jcd (b1 b2 z3 k3 b4 : Bool) : Int := if b1 then 4 else if b2 then 4 else if (z3 || k3) = false then 5 else if b4 then 1 else 0
theorem jpd (r : Rul) : jb0 r = jcd (qu r.rel 0 5) (qu r.mode 0 3) r.band.data.toList.isEmpty (jaq r.band.data.toList) (qu r.points 0 1000) := rfl
set_option maxHeartbeats 400000 in
theorem jmb (n : Int) (w : World) :
 Calls Tryz.prog 113 #[.int .i64 n] w fun e w' => e = .returned (.bool (!qu n 1 3)) ∧ w = w' := by
 have H := Lib.hid (fun W => qd n 1 3 W)
 go_enter Tryz.func113, Tryz.ntmps113
 go_wp2_with fail
 refine (H.out _).mono ?_
 rintro _ _ ⟨rfl, rfl⟩
 go_wp2_with fail
 go_ret
 exact ⟨rfl, rfl⟩
theorem jg6 (s : ByteArray) : jg5 s.data.toList = (s.data.toList.isEmpty || jaq s.data.toList) := rfl
theorem jih (n : Int) (w : World) :
 Calls Tryz.prog 77 #[.int .i64 n] w fun e w' => e = .returned (.int .i64 (if qu n 0 345686399999 then 1 else 0)) ∧ w = w' := jez n w
theorem jmq (s : ByteArray) (w : World) (hs : s.size ≤ 1000000000) (ha : Ascii s) :
 Calls Tryz.prog 71 #[.string s] w fun e w' => e = .returned (.bool (xl s)) ∧ w.grownBy w' none := yh s w hs ha
set_option maxRecDepth 100000 in
set_option maxHeartbeats 8000000 in
theorem jc7 (base : Nat) (v : Value) (l : List Con) (w : World) (hl : ConsFrom base w v l) (hsm : ∀ x ∈ l, zy x) :
 Calls Tryz.prog 33 #[v] w fun r w' => r = .returned (.int .i64 (qm l)) ∧ w.grownBy w' none := by
 obtain ⟨A, c, rfl, hlen, hA⟩ := hl.shape
 by_cases hbig : 2000 < l.length
 ·have HE : Hid (qm l = 2) := by show _ = _; unfold qm; rw [if_pos hbig]
  have hb : (2000 : Int) < (l.length : Int) := by omega
  clear hl hA
  go_enter Tryz.func33, Tryz.ntmps33
  go_wp2_with fail
  go_ret
  exact ⟨ji HE.out.symm, jf _ _⟩
 have HE : Hid (qm l = yb zq l) := by show _ = _; unfold qm; rw [if_neg hbig]
 have hb : ¬ (2000 : Int) < (l.length : Int) := by omega
 have HL := Lib.hid hl
 have HA := Lib.hid hA
 clear hl hA
 go_enter Tryz.func33, Tryz.ntmps33
 go_wp2_with fail
 go_loopw [10] (fun iv wr => ∃ k : Nat, k ≤ l.length ∧ iv = .int .i64 k ∧ Hid (qm l = yb zq (l.drop k)) ∧ w.grownBy wr none) (fun iv _ => l.length - (intOf iv).toNat)
 case atStart => exact ⟨0, by omega, rfl, HE, jf _ _⟩
 case round =>
  obtain ⟨k, hk, rfl, HN, hg⟩ := hrel
  by_cases hlt : k < l.length
  ·have hki : (k : Int) < (l.length : Int) := by omega
   obtain ⟨g, rfl, hg0, hg1⟩ := HA.out (by omega)
   obtain ⟨q0, q1, q2, q3, q4, q5, q6, q7⟩ := (HL.out.grown hg).at_ k hlt
   have hst := jbq zq l k hlt
   rw [← HN.out, jnv] at hst
   have hsk := hsm l[k] (List.getElem_mem hlt)
   unfold zy at hsk
   obtain ⟨s1, s2, s3, s4, s5⟩ := hsk
   generalize l[k].tm = T at *
   generalize l[k].mode = M at *
   generalize l[k].band = BD at *
   generalize l[k].call = CL at *
   generalize l[k].sent = SE at *
   generalize l[k].heard = HE at *
   generalize l[k].gave = GA at *
   generalize l[k].got = GO at *
   have H1 := (fun W => jih T W)
   have H2 := (fun W => xx M 1 3 W)
   have H3 := (fun W => jaf BD W (by omega))
   have H4 := (fun W => jmq CL W (by omega) s3)
   have H5 := (fun W => xx SE 0 99999 W)
   have H6 := (fun W => xx HE 0 99999 W)
   have H7 := (fun W => jaf GA W (by omega))
   have H7e := jky GA
   have H8 := (fun W => jaf GO W (by omega))
   have H8e := jky GO
   obtain ⟨B1, hB1⟩ : ∃ x, qu T 0 345686399999 = x := ⟨_, rfl⟩
   obtain ⟨B2, hB2⟩ : ∃ x, qu M 1 3 = x := ⟨_, rfl⟩
   obtain ⟨B3, hB3⟩ : ∃ x, jaq BD.data.toList = x := ⟨_, rfl⟩
   obtain ⟨B4, hB4⟩ : ∃ x, xl CL = x := ⟨_, rfl⟩
   obtain ⟨B5, hB5⟩ : ∃ x, qu SE 0 99999 = x := ⟨_, rfl⟩
   obtain ⟨B6, hB6⟩ : ∃ x, qu HE 0 99999 = x := ⟨_, rfl⟩
   obtain ⟨Z7, hZ7⟩ : ∃ x, GA.data.toList.isEmpty = x := ⟨_, rfl⟩
   obtain ⟨K7, hK7⟩ : ∃ x, jaq GA.data.toList = x := ⟨_, rfl⟩
   obtain ⟨Z8, hZ8⟩ : ∃ x, GO.data.toList.isEmpty = x := ⟨_, rfl⟩
   obtain ⟨K8, hK8⟩ : ∃ x, jaq GO.data.toList = x := ⟨_, rfl⟩
   rw [hB1] at H1
   rw [hB2] at H2
   rw [hB3] at H3
   rw [hB4] at H4
   rw [hB5] at H5
   rw [hB6] at H6
   rw [hZ7] at H7e
   rw [hK7] at H7
   rw [hZ8] at H8e
   rw [hK8] at H8
   rw [hB1, hB2, hB3, hB4, hB5, hB6, hZ7, hK7, hZ8, hK8] at hst
   have H1 := Lib.hid H1
   have H2 := Lib.hid H2
   have H3 := Lib.hid H3
   have H4 := Lib.hid H4
   have H5 := Lib.hid H5
   have H6 := Lib.hid H6
   have H7 := Lib.hid H7
   have H8 := Lib.hid H8
   have HST := Lib.hid hst
   have hB := Blk.new wr 50 #[.int .i64 T, .int .i64 M, .string BD, .string CL, .int .i64 SE, .int .i64 HE, .string GA, .string GO]
   have hgA := jd hg (.cells #[.int .i64 T, .int .i64 M, .string BD, .string CL, .int .i64 SE, .int .i64 HE, .string GA, .string GO] 50)
   clear hst hg HN hB1 hB2 hB3 hB4 hB5 hB6 hZ7 hK7 hZ8 hK8
   go_upto_region 6 with fail
   generalize wr.alloc (.cells #[.int .i64 T, .int .i64 M, .string BD, .string CL, .int .i64 SE, .int .i64 HE, .string GA, .string GO] 50) = w0 at *
   generalize wr.heap.size = gE at *
   clear q0 q1 q2 q3 q4 q5 q6 q7
   have k0 := hB.cell 0
   have k1 := hB.cell 1
   have k2 := hB.cell 2
   have k3 := hB.cell 3
   have k4 := hB.cell 4
   have k5 := hB.cell 5
   have k6 := hB.cell 6
   have k7 := hB.cell 7
   simp only [geA, geZ, geS] at k0 k1 k2 k3 k4 k5 k6 k7
   go_wp2_with fail
   refine (H1.out _).mono ?_
   rintro _ _ ⟨rfl, rfl⟩
   cases B1
   rotate_left
   ·have HR : Hid (qm l = 1) := by show _ = _; have h := HST.out; simpa [yn] using h
    go_wp2_with fail
    go_ret
    exact ⟨ji HR.out.symm, hgA⟩
   go_wp2_with fail
   refine (H2.out _).mono ?_
   rintro _ _ ⟨rfl, rfl⟩
   cases B2
   rotate_left
   ·have HR : Hid (qm l = 4) := by show _ = _; have h := HST.out; simpa [yn] using h
    go_wp2_with fail
    go_ret
    exact ⟨ji HR.out.symm, hgA⟩
   go_wp2_with fail
   refine (H3.out _).mono ?_
   rintro _ v3 ⟨rfl, hgv3⟩
   have hBv3 := hB.grown hgv3 (by simp)
   have hGv3 := ja hgA hgv3
   clear k0 k1 k2 k3 k4 k5 k6 k7
   have k0 := hBv3.cell 0
   have k1 := hBv3.cell 1
   have k2 := hBv3.cell 2
   have k3 := hBv3.cell 3
   have k4 := hBv3.cell 4
   have k5 := hBv3.cell 5
   have k6 := hBv3.cell 6
   have k7 := hBv3.cell 7
   simp only [geA, geZ, geS] at k0 k1 k2 k3 k4 k5 k6 k7
   cases B3
   ·have HR : Hid (qm l = 5) := by show _ = _; have h := HST.out; simpa [yn] using h
    go_wp2_with fail
    go_ret
    exact ⟨ji HR.out.symm, hGv3⟩
   go_wp2_with fail
   refine (H4.out _).mono ?_
   rintro _ v4 ⟨rfl, hgv4⟩
   have hBv4 := hBv3.grown hgv4 (by simp)
   have hGv4 := ja hGv3 hgv4
   clear k0 k1 k2 k3 k4 k5 k6 k7
   have k0 := hBv4.cell 0
   have k1 := hBv4.cell 1
   have k2 := hBv4.cell 2
   have k3 := hBv4.cell 3
   have k4 := hBv4.cell 4
   have k5 := hBv4.cell 5
   have k6 := hBv4.cell 6
   have k7 := hBv4.cell 7
   simp only [geA, geZ, geS] at k0 k1 k2 k3 k4 k5 k6 k7
   cases B4
   ·have HR : Hid (qm l = 3) := by show _ = _; have h := HST.out; simpa [yn] using h
    go_wp2_with fail
    go_ret
    exact ⟨ji HR.out.symm, hGv4⟩
   go_wp2_with fail
   refine (H5.out _).mono ?_
   rintro _ _ ⟨rfl, rfl⟩
   cases B5
   rotate_left
   ·have HR : Hid (qm l = 1) := by show _ = _; have h := HST.out; simpa [yn] using h
    go_wp2_with fail
    go_ret
    exact ⟨ji HR.out.symm, hGv4⟩
   go_wp2_with fail
   refine (H6.out _).mono ?_
   rintro _ _ ⟨rfl, rfl⟩
   cases B6
   rotate_left
   ·have HR : Hid (qm l = 1) := by show _ = _; have h := HST.out; simpa [yn] using h
    go_wp2_with fail
    go_ret
    exact ⟨ji HR.out.symm, hGv4⟩
   cases Z7
   ·skip
    go_wp2_with fail
    refine (H7.out _).mono ?_
    rintro _ v7 ⟨rfl, hgv7⟩
    have hBv7 := hBv4.grown hgv7 (by simp)
    have hGv7 := ja hGv4 hgv7
    clear k0 k1 k2 k3 k4 k5 k6 k7
    have k0 := hBv7.cell 0
    have k1 := hBv7.cell 1
    have k2 := hBv7.cell 2
    have k3 := hBv7.cell 3
    have k4 := hBv7.cell 4
    have k5 := hBv7.cell 5
    have k6 := hBv7.cell 6
    have k7 := hBv7.cell 7
    simp only [geA, geZ, geS] at k0 k1 k2 k3 k4 k5 k6 k7
    cases K7
    ·have HR : Hid (qm l = 5) := by show _ = _; have h := HST.out; simpa [yn] using h
     go_wp2_with fail
     go_ret
     exact ⟨ji HR.out.symm, hGv7⟩
    skip
    cases Z8
    ·skip
     go_wp2_with fail
     refine (H8.out _).mono ?_
     rintro _ v8 ⟨rfl, hgv8⟩
     have hBv8 := hBv7.grown hgv8 (by simp)
     have hGv8 := ja hGv7 hgv8
     clear k0 k1 k2 k3 k4 k5 k6 k7
     have k0 := hBv8.cell 0
     have k1 := hBv8.cell 1
     have k2 := hBv8.cell 2
     have k3 := hBv8.cell 3
     have k4 := hBv8.cell 4
     have k5 := hBv8.cell 5
     have k6 := hBv8.cell 6
     have k7 := hBv8.cell 7
     simp only [geA, geZ, geS] at k0 k1 k2 k3 k4 k5 k6 k7
     cases K8
     ·have HR : Hid (qm l = 5) := by show _ = _; have h := HST.out; simpa [yn] using h
      go_wp2_with fail
      go_ret
      exact ⟨ji HR.out.symm, hGv8⟩
     skip
     have HR : Hid (qm l = yb zq (l.drop (k + 1))) := by show _ = _; have h := HST.out; simpa [yn] using h
     go_wp2_with fail
     go_roundw
     case rel => exact ⟨k + 1, by omega, by go_num, HR, hGv8⟩
     case measure => simp [intOf]; omega
    skip
    have HR : Hid (qm l = yb zq (l.drop (k + 1))) := by show _ = _; have h := HST.out; simpa [yn] using h
    go_wp2_with fail
    go_roundw
    case rel => exact ⟨k + 1, by omega, by go_num, HR, hGv7⟩
    case measure => simp [intOf]; omega
   skip
   cases Z8
   ·skip
    go_wp2_with fail
    refine (H8.out _).mono ?_
    rintro _ v9 ⟨rfl, hgv9⟩
    have hBv9 := hBv4.grown hgv9 (by simp)
    have hGv9 := ja hGv4 hgv9
    clear k0 k1 k2 k3 k4 k5 k6 k7
    have k0 := hBv9.cell 0
    have k1 := hBv9.cell 1
    have k2 := hBv9.cell 2
    have k3 := hBv9.cell 3
    have k4 := hBv9.cell 4
    have k5 := hBv9.cell 5
    have k6 := hBv9.cell 6
    have k7 := hBv9.cell 7
    simp only [geA, geZ, geS] at k0 k1 k2 k3 k4 k5 k6 k7
    cases K8
    ·have HR : Hid (qm l = 5) := by show _ = _; have h := HST.out; simpa [yn] using h
     go_wp2_with fail
     go_ret
     exact ⟨ji HR.out.symm, hGv9⟩
    skip
    have HR : Hid (qm l = yb zq (l.drop (k + 1))) := by show _ = _; have h := HST.out; simpa [yn] using h
    go_wp2_with fail
    go_roundw
    case rel => exact ⟨k + 1, by omega, by go_num, HR, hGv9⟩
    case measure => simp [intOf]; omega
   skip
   have HR : Hid (qm l = yb zq (l.drop (k + 1))) := by show _ = _; have h := HST.out; simpa [yn] using h
   go_wp2_with fail
   go_roundw
   case rel => exact ⟨k + 1, by omega, by go_num, HR, hGv4⟩
   case measure => simp [intOf]; omega
  obtain rfl : k = l.length := by omega
  have hkl : ¬ (l.length : Int) < (l.length : Int) := by omega
  have HR : Hid (qm l = 0) := by show _ = _; rw [HN.out, jcz]
  go_wp2_with fail
  go_ret
  exact ⟨ji HR.out.symm, hg⟩
set_option maxRecDepth 100000 in
set_option maxHeartbeats 8000000 in
theorem jab (base : Nat) (v : Value) (l : List Con) (w : World) (hl : ConsFrom base w v l) (hsm : ∀ x ∈ l, zy x) :
 Calls Tryz.prog 63 #[v] w fun r w' => r = .returned (.int .i64 (qm l)) ∧ w.grownBy w' none := by
 obtain ⟨A, c, rfl, hlen, hA⟩ := hl.shape
 by_cases hbig : 2000 < l.length
 ·have HE : Hid (qm l = 2) := by show _ = _; unfold qm; rw [if_pos hbig]
  have hb : (2000 : Int) < (l.length : Int) := by omega
  clear hl hA
  go_enter Tryz.func63, Tryz.ntmps63
  go_wp2_with fail
  go_ret
  exact ⟨ji HE.out.symm, jf _ _⟩
 have HE : Hid (qm l = yb zq l) := by show _ = _; unfold qm; rw [if_neg hbig]
 have hb : ¬ (2000 : Int) < (l.length : Int) := by omega
 have HL := Lib.hid hl
 have HA := Lib.hid hA
 clear hl hA
 go_enter Tryz.func63, Tryz.ntmps63
 go_wp2_with fail
 go_loopw [10] (fun iv wr => ∃ k : Nat, k ≤ l.length ∧ iv = .int .i64 k ∧ Hid (qm l = yb zq (l.drop k)) ∧ w.grownBy wr none) (fun iv _ => l.length - (intOf iv).toNat)
 case atStart => exact ⟨0, by omega, rfl, HE, jf _ _⟩
 case round =>
  obtain ⟨k, hk, rfl, HN, hg⟩ := hrel
  by_cases hlt : k < l.length
  ·have hki : (k : Int) < (l.length : Int) := by omega
   obtain ⟨g, rfl, hg0, hg1⟩ := HA.out (by omega)
   obtain ⟨q0, q1, q2, q3, q4, q5, q6, q7⟩ := (HL.out.grown hg).at_ k hlt
   have hst := jbq zq l k hlt
   rw [← HN.out, jnv] at hst
   have hsk := hsm l[k] (List.getElem_mem hlt)
   unfold zy at hsk
   obtain ⟨s1, s2, s3, s4, s5⟩ := hsk
   generalize l[k].tm = T at *
   generalize l[k].mode = M at *
   generalize l[k].band = BD at *
   generalize l[k].call = CL at *
   generalize l[k].sent = SE at *
   generalize l[k].heard = HE at *
   generalize l[k].gave = GA at *
   generalize l[k].got = GO at *
   have H1 := (fun W => jid T W)
   have H2 := (fun W => jmb M W)
   have H3 := (fun W => jes BD W (by omega))
   have H4 := (fun W => jf0 CL W (by omega) s3)
   have H5 := (fun W => qd SE 0 99999 W)
   have H6 := (fun W => qd HE 0 99999 W)
   have H7 := (fun W => jde GA W (by omega))
   have H8 := (fun W => jde GO W (by omega))
   obtain ⟨B1, hB1⟩ : ∃ x, qu T 0 345686399999 = x := ⟨_, rfl⟩
   obtain ⟨B2, hB2⟩ : ∃ x, qu M 1 3 = x := ⟨_, rfl⟩
   obtain ⟨B3, hB3⟩ : ∃ x, jaq BD.data.toList = x := ⟨_, rfl⟩
   obtain ⟨B4, hB4⟩ : ∃ x, xl CL = x := ⟨_, rfl⟩
   obtain ⟨B5, hB5⟩ : ∃ x, qu SE 0 99999 = x := ⟨_, rfl⟩
   obtain ⟨B6, hB6⟩ : ∃ x, qu HE 0 99999 = x := ⟨_, rfl⟩
   obtain ⟨Z7, hZ7⟩ : ∃ x, GA.data.toList.isEmpty = x := ⟨_, rfl⟩
   obtain ⟨K7, hK7⟩ : ∃ x, jaq GA.data.toList = x := ⟨_, rfl⟩
   obtain ⟨Z8, hZ8⟩ : ∃ x, GO.data.toList.isEmpty = x := ⟨_, rfl⟩
   obtain ⟨K8, hK8⟩ : ∃ x, jaq GO.data.toList = x := ⟨_, rfl⟩
   rw [hB1] at H1
   rw [hB2] at H2
   rw [hB3] at H3
   rw [hB4] at H4
   rw [hB5] at H5
   rw [hB6] at H6
   simp only [jg6] at H7
   rw [hZ7, hK7] at H7
   simp only [jg6] at H8
   rw [hZ8, hK8] at H8
   rw [hB1, hB2, hB3, hB4, hB5, hB6, hZ7, hK7, hZ8, hK8] at hst
   have H1 := Lib.hid H1
   have H2 := Lib.hid H2
   have H3 := Lib.hid H3
   have H4 := Lib.hid H4
   have H5 := Lib.hid H5
   have H6 := Lib.hid H6
   have H7 := Lib.hid H7
   have H8 := Lib.hid H8
   have HST := Lib.hid hst
   have hB := Blk.new wr 50 #[.int .i64 T, .int .i64 M, .string BD, .string CL, .int .i64 SE, .int .i64 HE, .string GA, .string GO]
   have hgA := jd hg (.cells #[.int .i64 T, .int .i64 M, .string BD, .string CL, .int .i64 SE, .int .i64 HE, .string GA, .string GO] 50)
   clear hst hg HN hB1 hB2 hB3 hB4 hB5 hB6 hZ7 hK7 hZ8 hK8
   go_upto_region 6 with fail
   generalize wr.alloc (.cells #[.int .i64 T, .int .i64 M, .string BD, .string CL, .int .i64 SE, .int .i64 HE, .string GA, .string GO] 50) = w0 at *
   generalize wr.heap.size = gE at *
   clear q0 q1 q2 q3 q4 q5 q6 q7
   have k0 := hB.cell 0
   have k1 := hB.cell 1
   have k2 := hB.cell 2
   have k3 := hB.cell 3
   have k4 := hB.cell 4
   have k5 := hB.cell 5
   have k6 := hB.cell 6
   have k7 := hB.cell 7
   simp only [geA, geZ, geS] at k0 k1 k2 k3 k4 k5 k6 k7
   go_wp2_with fail
   refine (H1.out _).mono ?_
   rintro _ _ ⟨rfl, rfl⟩
   cases B1
   rotate_left
   ·have HR : Hid (qm l = 1) := by show _ = _; have h := HST.out; simpa [yn] using h
    go_wp2_with fail
    go_ret
    exact ⟨ji HR.out.symm, hgA⟩
   go_wp2_with fail
   refine (H2.out _).mono ?_
   rintro _ _ ⟨rfl, rfl⟩
   cases B2
   rotate_left
   ·have HR : Hid (qm l = 4) := by show _ = _; have h := HST.out; simpa [yn] using h
    go_wp2_with fail
    go_ret
    exact ⟨ji HR.out.symm, hgA⟩
   go_wp2_with fail
   refine (H3.out _).mono ?_
   rintro _ v3 ⟨rfl, hgv3⟩
   have hBv3 := hB.grown hgv3 (by simp)
   have hGv3 := ja hgA hgv3
   clear k0 k1 k2 k3 k4 k5 k6 k7
   have k0 := hBv3.cell 0
   have k1 := hBv3.cell 1
   have k2 := hBv3.cell 2
   have k3 := hBv3.cell 3
   have k4 := hBv3.cell 4
   have k5 := hBv3.cell 5
   have k6 := hBv3.cell 6
   have k7 := hBv3.cell 7
   simp only [geA, geZ, geS] at k0 k1 k2 k3 k4 k5 k6 k7
   cases B3
   ·have HR : Hid (qm l = 5) := by show _ = _; have h := HST.out; simpa [yn] using h
    go_wp2_with fail
    go_ret
    exact ⟨ji HR.out.symm, hGv3⟩
   go_wp2_with fail
   refine (H4.out _).mono ?_
   rintro _ v4 ⟨rfl, hgv4⟩
   have hBv4 := hBv3.grown hgv4 (by simp)
   have hGv4 := ja hGv3 hgv4
   clear k0 k1 k2 k3 k4 k5 k6 k7
   have k0 := hBv4.cell 0
   have k1 := hBv4.cell 1
   have k2 := hBv4.cell 2
   have k3 := hBv4.cell 3
   have k4 := hBv4.cell 4
   have k5 := hBv4.cell 5
   have k6 := hBv4.cell 6
   have k7 := hBv4.cell 7
   simp only [geA, geZ, geS] at k0 k1 k2 k3 k4 k5 k6 k7
   cases B4
   ·have HR : Hid (qm l = 3) := by show _ = _; have h := HST.out; simpa [yn] using h
    go_wp2_with fail
    go_ret
    exact ⟨ji HR.out.symm, hGv4⟩
   go_wp2_with fail
   refine (H5.out _).mono ?_
   rintro _ _ ⟨rfl, rfl⟩
   cases B5
   rotate_left
   ·have HR : Hid (qm l = 1) := by show _ = _; have h := HST.out; simpa [yn] using h
    go_wp2_with fail
    go_ret
    exact ⟨ji HR.out.symm, hGv4⟩
   go_wp2_with fail
   refine (H6.out _).mono ?_
   rintro _ _ ⟨rfl, rfl⟩
   cases B6
   rotate_left
   ·have HR : Hid (qm l = 1) := by show _ = _; have h := HST.out; simpa [yn] using h
    go_wp2_with fail
    go_ret
    exact ⟨ji HR.out.symm, hGv4⟩
   go_wp2_with fail
   refine (H7.out _).mono ?_
   rintro _ v7 ⟨rfl, hgv7⟩
   have hBv7 := hBv4.grown hgv7 (by simp)
   have hGv7 := ja hGv4 hgv7
   clear k0 k1 k2 k3 k4 k5 k6 k7
   have k0 := hBv7.cell 0
   have k1 := hBv7.cell 1
   have k2 := hBv7.cell 2
   have k3 := hBv7.cell 3
   have k4 := hBv7.cell 4
   have k5 := hBv7.cell 5
   have k6 := hBv7.cell 6
   have k7 := hBv7.cell 7
   simp only [geA, geZ, geS] at k0 k1 k2 k3 k4 k5 k6 k7
   cases Z7
   ·cases K7
    ·have HR : Hid (qm l = 5) := by show _ = _; have h := HST.out; simpa [yn] using h
     go_wp2_with fail
     go_ret
     exact ⟨ji HR.out.symm, hGv7⟩
    skip
    go_wp2_with fail
    refine (H8.out _).mono ?_
    rintro _ v8 ⟨rfl, hgv8⟩
    have hBv8 := hBv7.grown hgv8 (by simp)
    have hGv8 := ja hGv7 hgv8
    clear k0 k1 k2 k3 k4 k5 k6 k7
    have k0 := hBv8.cell 0
    have k1 := hBv8.cell 1
    have k2 := hBv8.cell 2
    have k3 := hBv8.cell 3
    have k4 := hBv8.cell 4
    have k5 := hBv8.cell 5
    have k6 := hBv8.cell 6
    have k7 := hBv8.cell 7
    simp only [geA, geZ, geS] at k0 k1 k2 k3 k4 k5 k6 k7
    cases Z8
    ·cases K8
     ·have HR : Hid (qm l = 5) := by show _ = _; have h := HST.out; simpa [yn] using h
      go_wp2_with fail
      go_ret
      exact ⟨ji HR.out.symm, hGv8⟩
     skip
     have HR : Hid (qm l = yb zq (l.drop (k + 1))) := by show _ = _; have h := HST.out; simpa [yn] using h
     go_wp2_with fail
     go_roundw
     case rel => exact ⟨k + 1, by omega, by go_num, HR, hGv8⟩
     case measure => simp [intOf]; omega
    skip
    have HR : Hid (qm l = yb zq (l.drop (k + 1))) := by show _ = _; have h := HST.out; simpa [yn] using h
    go_wp2_with fail
    go_roundw
    case rel => exact ⟨k + 1, by omega, by go_num, HR, hGv8⟩
    case measure => simp [intOf]; omega
   skip
   go_wp2_with fail
   refine (H8.out _).mono ?_
   rintro _ v9 ⟨rfl, hgv9⟩
   have hBv9 := hBv7.grown hgv9 (by simp)
   have hGv9 := ja hGv7 hgv9
   clear k0 k1 k2 k3 k4 k5 k6 k7
   have k0 := hBv9.cell 0
   have k1 := hBv9.cell 1
   have k2 := hBv9.cell 2
   have k3 := hBv9.cell 3
   have k4 := hBv9.cell 4
   have k5 := hBv9.cell 5
   have k6 := hBv9.cell 6
   have k7 := hBv9.cell 7
   simp only [geA, geZ, geS] at k0 k1 k2 k3 k4 k5 k6 k7
   cases Z8
   ·cases K8
    ·have HR : Hid (qm l = 5) := by show _ = _; have h := HST.out; simpa [yn] using h
     go_wp2_with fail
     go_ret
     exact ⟨ji HR.out.symm, hGv9⟩
    skip
    have HR : Hid (qm l = yb zq (l.drop (k + 1))) := by show _ = _; have h := HST.out; simpa [yn] using h
    go_wp2_with fail
    go_roundw
    case rel => exact ⟨k + 1, by omega, by go_num, HR, hGv9⟩
    case measure => simp [intOf]; omega
   skip
   have HR : Hid (qm l = yb zq (l.drop (k + 1))) := by show _ = _; have h := HST.out; simpa [yn] using h
   go_wp2_with fail
   go_roundw
   case rel => exact ⟨k + 1, by omega, by go_num, HR, hGv9⟩
   case measure => simp [intOf]; omega
  obtain rfl : k = l.length := by omega
  have hkl : ¬ (l.length : Int) < (l.length : Int) := by omega
  have HR : Hid (qm l = 0) := by show _ = _; rw [HN.out, jcz]
  go_wp2_with fail
  go_ret
  exact ⟨ji HR.out.symm, hg⟩
set_option maxRecDepth 100000 in
set_option maxHeartbeats 8000000 in
theorem jfo (base : Nat) (v : Value) (l : List Rul) (w : World) (hl : RulsFrom base w v l) (hsm : ∀ x ∈ l, jlt x) :
 Calls Tryz.prog 163 #[v] w fun r w' => r = .returned (.int .i64 (yj l)) ∧ w.grownBy w' none := by
 obtain ⟨A, c, rfl, hlen, hA⟩ := hl.shape
 by_cases hbig : 100 < l.length
 ·have HE : Hid (yj l = 2) := by show _ = _; unfold yj; rw [if_pos hbig]
  have hb : (100 : Int) < (l.length : Int) := by omega
  clear hl hA
  go_enter Tryz.func163, Tryz.ntmps163
  go_wp2_with fail
  go_ret
  exact ⟨ji HE.out.symm, jf _ _⟩
 have HE : Hid (yj l = yb jb0 l) := by show _ = _; unfold yj; rw [if_neg hbig]
 have hb : ¬ (100 : Int) < (l.length : Int) := by omega
 have HL := Lib.hid hl
 have HA := Lib.hid hA
 clear hl hA
 go_enter Tryz.func163, Tryz.ntmps163
 go_wp2_with fail
 go_loopw [10] (fun iv wr => ∃ k : Nat, k ≤ l.length ∧ iv = .int .i64 k ∧ Hid (yj l = yb jb0 (l.drop k)) ∧ w.grownBy wr none) (fun iv _ => l.length - (intOf iv).toNat)
 case atStart => exact ⟨0, by omega, rfl, HE, jf _ _⟩
 case round =>
  obtain ⟨k, hk, rfl, HN, hg⟩ := hrel
  by_cases hlt : k < l.length
  ·have hki : (k : Int) < (l.length : Int) := by omega
   obtain ⟨g, rfl, hg0, hg1⟩ := HA.out (by omega)
   obtain ⟨q0, q1, q2, q3⟩ := (HL.out.grown hg).at_ k hlt
   have hst := jbq jb0 l k hlt
   rw [← HN.out, jpd] at hst
   have hsk := hsm l[k] (List.getElem_mem hlt)
   unfold jlt at hsk
   generalize l[k].rel = RL at *
   generalize l[k].mode = M at *
   generalize l[k].band = BD at *
   generalize l[k].points = PT at *
   have H1 := (fun W => qd RL 0 5 W)
   have H2 := (fun W => qd M 0 3 W)
   have H3 := (fun W => jde BD W (by omega))
   have H4 := (fun W => qd PT 0 1000 W)
   obtain ⟨B1, hB1⟩ : ∃ x, qu RL 0 5 = x := ⟨_, rfl⟩
   obtain ⟨B2, hB2⟩ : ∃ x, qu M 0 3 = x := ⟨_, rfl⟩
   obtain ⟨Z3, hZ3⟩ : ∃ x, BD.data.toList.isEmpty = x := ⟨_, rfl⟩
   obtain ⟨K3, hK3⟩ : ∃ x, jaq BD.data.toList = x := ⟨_, rfl⟩
   obtain ⟨B4, hB4⟩ : ∃ x, qu PT 0 1000 = x := ⟨_, rfl⟩
   rw [hB1] at H1
   rw [hB2] at H2
   simp only [jg6] at H3
   rw [hZ3, hK3] at H3
   rw [hB4] at H4
   rw [hB1, hB2, hZ3, hK3, hB4] at hst
   have H1 := Lib.hid H1
   have H2 := Lib.hid H2
   have H3 := Lib.hid H3
   have H4 := Lib.hid H4
   have HST := Lib.hid hst
   have hB := Blk.new wr 77 #[.int .i64 RL, .int .i64 M, .string BD, .int .i64 PT]
   have hgA := jd hg (.cells #[.int .i64 RL, .int .i64 M, .string BD, .int .i64 PT] 77)
   clear hst hg HN hB1 hB2 hZ3 hK3 hB4
   go_upto_region 6 with fail
   generalize wr.alloc (.cells #[.int .i64 RL, .int .i64 M, .string BD, .int .i64 PT] 77) = w0 at *
   generalize wr.heap.size = gE at *
   clear q0 q1 q2 q3
   have k0 := hB.cell 0
   have k1 := hB.cell 1
   have k2 := hB.cell 2
   have k3 := hB.cell 3
   simp only [geA, geZ, geS] at k0 k1 k2 k3
   go_wp2_with fail
   refine (H1.out _).mono ?_
   rintro _ _ ⟨rfl, rfl⟩
   cases B1
   rotate_left
   ·have HR : Hid (yj l = 4) := by show _ = _; have h := HST.out; simpa [jcd] using h
    go_wp2_with fail
    go_ret
    exact ⟨ji HR.out.symm, hgA⟩
   go_wp2_with fail
   refine (H2.out _).mono ?_
   rintro _ _ ⟨rfl, rfl⟩
   cases B2
   rotate_left
   ·have HR : Hid (yj l = 4) := by show _ = _; have h := HST.out; simpa [jcd] using h
    go_wp2_with fail
    go_ret
    exact ⟨ji HR.out.symm, hgA⟩
   go_wp2_with fail
   refine (H3.out _).mono ?_
   rintro _ v3 ⟨rfl, hgv3⟩
   have hBv3 := hB.grown hgv3 (by simp)
   have hGv3 := ja hgA hgv3
   clear k0 k1 k2 k3
   have k0 := hBv3.cell 0
   have k1 := hBv3.cell 1
   have k2 := hBv3.cell 2
   have k3 := hBv3.cell 3
   simp only [geA, geZ, geS] at k0 k1 k2 k3
   cases Z3
   ·cases K3
    ·have HR : Hid (yj l = 5) := by show _ = _; have h := HST.out; simpa [jcd] using h
     go_wp2_with fail
     go_ret
     exact ⟨ji HR.out.symm, hGv3⟩
    skip
    go_wp2_with fail
    refine (H4.out _).mono ?_
    rintro _ _ ⟨rfl, rfl⟩
    cases B4
    rotate_left
    ·have HR : Hid (yj l = 1) := by show _ = _; have h := HST.out; simpa [jcd] using h
     go_wp2_with fail
     go_ret
     exact ⟨ji HR.out.symm, hGv3⟩
    have HR : Hid (yj l = yb jb0 (l.drop (k + 1))) := by show _ = _; have h := HST.out; simpa [jcd] using h
    go_wp2_with fail
    go_roundw
    case rel => exact ⟨k + 1, by omega, by go_num, HR, hGv3⟩
    case measure => simp [intOf]; omega
   skip
   go_wp2_with fail
   refine (H4.out _).mono ?_
   rintro _ _ ⟨rfl, rfl⟩
   cases B4
   rotate_left
   ·have HR : Hid (yj l = 1) := by show _ = _; have h := HST.out; simpa [jcd] using h
    go_wp2_with fail
    go_ret
    exact ⟨ji HR.out.symm, hGv3⟩
   have HR : Hid (yj l = yb jb0 (l.drop (k + 1))) := by show _ = _; have h := HST.out; simpa [jcd] using h
   go_wp2_with fail
   go_roundw
   case rel => exact ⟨k + 1, by omega, by go_num, HR, hGv3⟩
   case measure => simp [intOf]; omega
  obtain rfl : k = l.length := by omega
  have hkl : ¬ (l.length : Int) < (l.length : Int) := by omega
  have HR : Hid (yj l = 0) := by show _ = _; rw [HN.out, jcz]
  go_wp2_with fail
  go_ret
  exact ⟨ji HR.out.symm, hg⟩
def js0 (b k : Nat) (w : World) (e : Ending) (w' : World) : Prop :=
 ∃ v : Int, -2199023255552 ≤ v ∧ v ≤ 2199023255552 ∧ e = .returned (.int .i64 v) ∧ Str w' b (k + 2) ∧ w.grownBy w' (some b)
set_option maxHeartbeats 400000 in
theorem jox (b k : Nat) (low high : Int) (w : World) (hs : Str w b k) (hk : k ≤ 100000000000) (h1 : -1099511627776 ≤ low) (h2 : low ≤ high) (h3 : high ≤ 1099511627776) :
 Calls Tryz.prog 76 #[.pointer (some ⟨b, 0, none⟩), .int .i64 low, .int .i64 high] w (js0 b k w) := by
 go_enter Tryz.func76, Tryz.ntmps76
 go_wp2_with fail
 refine (jda b k _ _ hs (by omega) (by omega) (by omega)).mono ?_
 rintro e w1 ⟨v, rfl, hs1, hg1⟩
 cases v
 ·go_wp2_with fail
  refine (jld b _ _ _ _ hs1 (by omega) (by omega) h2 (by omega)).mono ?_
  rintro e w2 ⟨v, hv0, hv1, rfl, hs2, hg2⟩
  go_wp2_with fail
  go_ret
  exact ⟨v, by omega, by omega, rfl, hs2, ja hg1 hg2⟩
 go_wp2_with fail
 refine (jlb b _ 6 6 [low - 1, high + 1, low, high, -1099511627776, 1099511627776] _ hs1 (by omega) rfl (by decide) (by decide)).mono ?_
 rintro e w2 ⟨v, hv, rfl, hs2, hg2⟩
 have hvb : -2199023255552 ≤ v ∧ v ≤ 2199023255552 := by simp at hv; omega
 go_wp2_with fail
 go_ret
 exact ⟨v, hvb.1, hvb.2, rfl, hs2, ja hg1 hg2⟩
theorem jgq : (Tryz.prog.info? 50).map (fun i => (i.zero, i.size, i.bytes)) = some (some (.agg #[.int .i64 0, .int .i64 0, .string ⟨#[]⟩, .string ⟨#[]⟩, .int .i64 0, .int .i64 0, .string ⟨#[]⟩, .string ⟨#[]⟩]), 8, 96) := by kernel_rfl
theorem jq4 (a b : Int) (c d : ByteArray) (e f : Int) (g h : ByteArray) : ∀ u ∈ [Value.int .i64 a, .int .i64 b, .string c, .string d, .int .i64 e, .int .i64 f, .string g, .string h], u.oneCell' = true := by
 intro u hu
 simp at hu
 rcases hu with rfl | rfl | rfl | rfl | rfl | rfl | rfl | rfl <;> rfl
theorem jb5 {base : Nat} {w : World} {g n c : Nat} {l : List Con} (h : ConsFrom base w (.slice (some ⟨g, 0, none⟩) n c) l) (hn : n = l.length) (k : Nat) (hk : k < l.length) (i : Nat) (hi : i < 8) (v : Value) (y : Con) (hy : (ja6 l[k]).set i v = ja6 y) :
 ConsFrom base (w.setCell ⟨g, k * 8 + i, none⟩ v) (.slice (some ⟨g, 0, none⟩) n c) (l.set k y) ∧ w.grownBy (w.setCell ⟨g, k * 8 + i, none⟩ v) (some g) := by
 unfold ConsFrom at h ⊢
 rw [← hn] at h
 have h0 := World.ownsRow.stored h (k * 8 + i) v
 have e0 := jgt ja6 8 (fun _ => rfl) l k i hk hi y v hy.symm
 rw [e0] at h0
 rw [List.length_set, ← hn]
 exact h0
theorem jkm {l : List Value} {i : Nat} (h : i < l.length) : ∃ u, l[i]? = some u := ⟨_, List.getElem?_eq_getElem h⟩
def jgf (b k m : Nat) (w : World) (e : Ending) (w' : World) : Prop :=
 ∃ (v : Value) (l : List Con), e = .returned v ∧ ConsFrom w.heap.size w' v l ∧ l.length ≤ m ∧ (∀ y ∈ l, zy y) ∧ Str w' b (k + 2000) ∧ w.grownBy w' (some b)
theorem jhj {v : ByteArray} {xs : List ByteArray} (h : v ∈ xs) (hx : ∀ x ∈ xs, x.size ≤ 100) : v.size ≤ 100 := hx v h
theorem jsa {α : Type} {P : α → Prop} {l : List α} (h : ∀ x ∈ l, P x) (k : Nat) (y : α) (hy : P y) : ∀ x ∈ l.set k y, P x := fun x hx => by
 rcases List.mem_or_eq_of_mem_set hx with h1 | h1
 ·exact h x h1
 rw [h1]; exact hy
set_option maxRecDepth 100000 in
set_option maxHeartbeats 16000000 in
theorem jhq (b k m : Nat) (hm : m ≤ 20) (w : World) (hs : Str w b k) (hk : k ≤ 100000000) :
 Calls Tryz.prog 32 #[.pointer (some ⟨b, 0, none⟩), .int .i64 (m : Int)] w (jgf b k m w) := by
 obtain ⟨i0, hi0, hz0, hz1, hz2⟩ := info_parts jgq
 have hbl := hs.lt
 obtain ⟨B, hB⟩ : ∃ B, w.heap.size = B := ⟨_, rfl⟩
 have HB := Lib.hid hB
 rw [hB] at hbl
 have HP : Hid (∀ (v : Value) (l : List Con) (w' : World), ConsFrom B w' v l → l.length ≤ m → (∀ y ∈ l, zy y) → Str w' b (k + 2000) → w.grownBy w' (some b) → jgf b k m w (.returned v) w') := fun v l w' h1 h2 h3 h4 h5 => ⟨v, l, rfl, by rw [HB.out]; exact h1, h2, h3, h4, h5⟩
 generalize jgf b k m w = P at *
 clear hB
 go_enter Tryz.func32, Tryz.ntmps32
 go_wp2_with fail
 refine (jld b k 0 (m : Int) _ hs (by omega) (by omega) (by omega) (by omega)).mono ?_
 rintro _ w1 ⟨mz, hm0, hm8, rfl, hs1, hg1⟩
 obtain ⟨M, rfl⟩ := Int.eq_ofNat_of_zero_le hm0
 go_wp2_with fail
 go_loopw [5, 10] (fun ov iv wr => ∃ C : List Con, C.length ≤ M ∧ iv = .int .i64 (C.length : Nat) ∧ Hid (∀ y ∈ C, zy y) ∧ Hid (ConsFrom B wr ov C) ∧ Str wr b (k + 1 + 60 * C.length) ∧ w.grownBy wr (some b)) (fun _ iv _ => M - (intOf iv).toNat)
 case atStart => exact ⟨[], Nat.zero_le _, rfl, (fun x hx => nomatch hx), World.ownsRow_nil _ _ _ _, hs1, hg1⟩
 case round =>
  obtain ⟨C, hj, rfl, HSM, HO, hsj, hgr⟩ := hrel
  clear hs hs1 hg1
  obtain ⟨A2, c2, rfl, hk9, hsh⟩ := HO.out.shape
  have HSH := Lib.hid hsh
  clear hsh
  by_cases hlt : C.length < M
  ·have hji : (C.length : Int) < (M : Int) := by omega
   go_wp2_with fail
   refine (jkc b _ _ 9 9 [0, 30, 60, 100, 150, 210, 390, 60000, 130000] _ hsj rfl (by omega) rfl (by decide) (by decide)).mono ?_
   rintro _ w2 ⟨a1, _, rfl, hs2, hg2⟩
   have hR2 := hg2
   clear hsj
   go_wp2_with fail
   refine (jkc b _ _ 4 4 [1, 1, 2, 3] _ hs2 rfl (by omega) rfl (by decide) (by decide)).mono ?_
   rintro _ w3 ⟨a2, _, rfl, hs3, hg3⟩
   have hR3 := ja hR2 hg3
   clear hR2 hg3 hs2
   go_wp2_with fail
   refine (jav b _ _ 3 3 [⟨#[98, 50, 48]⟩, ⟨#[98, 50, 48]⟩, ⟨#[98, 52, 48]⟩] _ hs3 rfl (by omega) rfl (by decide) (by decide)).mono ?_
   rintro _ w4 ⟨a3, ha3, rfl, hs4, hg4⟩
   have hsza3 : a3.size ≤ 100 := jhj ha3 (by decide)
   clear ha3
   have hR4 := ja hR3 hg4
   clear hR3 hg4 hs3
   go_wp2_with fail
   refine (jiw b _ _ hs4 (by omega)).mono ?_
   rintro _ w5 ⟨a4, rfl, hsza4, haa4, _, hs5, hg5⟩
   have HA4 := Lib.hid haa4
   clear haa4
   have hR5 := ja hR4 hg5
   clear hR4 hg5 hs4
   go_wp2_with fail
   refine (y8 b _ 4 _ hs5 (by omega) (by decide) (by decide)).mono ?_
   rintro _ w6 ⟨a5, _, _, rfl, hs6, hg6⟩
   have hR6 := ja hR5 hg6
   clear hR5 hg6 hs5
   go_wp2_with fail
   refine (y8 b _ 4 _ hs6 (by omega) (by decide) (by decide)).mono ?_
   rintro _ w7 ⟨a6, _, _, rfl, hs7, hg7⟩
   have hR7 := ja hR6 hg7
   clear hR6 hg7 hs6
   go_wp2_with fail
   refine (jav b _ _ 3 3 [⟨#[]⟩, ⟨#[120, 49]⟩, ⟨#[120, 50]⟩] _ hs7 rfl (by omega) rfl (by decide) (by decide)).mono ?_
   rintro _ w8 ⟨a7, ha7, rfl, hs8, hg8⟩
   have hsza7 : a7.size ≤ 100 := jhj ha7 (by decide)
   clear ha7
   have hR8 := ja hR7 hg8
   clear hR7 hg8 hs7
   have hown : w8.ownsRow B 50 8 (.slice A2 C.length c2) C.length (C.flatMap ja6) := jy HO.out hR8 hbl
   have HOWN := Lib.hid hown
   have hG8 := ja hgr hR8
   have hY : zy ⟨a1, a2, a3, a4, a5, a6, ⟨#[]⟩, a7⟩ := ⟨by show a3.size ≤ 1000; omega, by show a4.size ≤ 1000; omega, HA4.out, by show (0 : Nat) ≤ 1000; omega, by show a7.size ≤ 1000; omega⟩
   have HY := Lib.hid hY
   have hsz8 : B ≤ w8.heap.size := by have := hG8.size; have := HB.out; omega
   clear hown hR8 hY hgr
   go_wp2_with (at_builtin; refine wpList_append_own _ rfl _ _ 35 rfl B 50 i0 _ 8 96 Tryz.underlying35 hi0 hz0 hz1 hz2 rfl (by decide) _ C.length _ rfl (World.ownsRow.alloc HOWN.out _) ⟨_, 0, none⟩ 1 1 [.int .i64 a1, .int .i64 a2, .string a3, .string a4, .int .i64 a5, .int .i64 a6, .string ⟨#[]⟩, .string a7] rfl rfl (World.news_of_block (Blk.new _ _ _)) (jq4 _ _ _ _ _ _ _ _) (by unfold maxLen; omega) (by omega) (by simp; omega) ?_; intro v' w9 hownB hgrB _)
   have hO9 : Hid (ConsFrom B w9 v' (C ++ [⟨a1, a2, a3, a4, a5, a6, ⟨#[]⟩, a7⟩])) := by
    show ConsFrom _ _ _ _
    unfold ConsFrom
    rw [List.length_append, List.flatMap_append]
    exact hownB
   have hrowB : ∀ g, (Value.slice A2 C.length c2).ownBlock = some g → B ≤ g := fun g e => (HOWN.out.lt g e).1
   have HROW := Lib.hid hrowB
   have hs9 := (hs8.alloc (.cells #[.int .i64 a1, .int .i64 a2, .string a3, .string a4, .int .i64 a5, .int .i64 a6, .string ⟨#[]⟩, .string a7] 50)).grown hgrB (fun g e => by have := HROW.out g e; omega)
   have hG9 : w.grownBy w9 (some b) := jk (jd hG8 _) hgrB (fun g e => .inr (by have := HROW.out g e; have := HB.out; omega))
   have HSM2 : Hid (∀ y ∈ C ++ [⟨a1, a2, a3, a4, a5, a6, ⟨#[]⟩, a7⟩], zy y) := fun y hy => by
    rcases List.mem_append.1 hy with h | h
    ·exact HSM.out y h
    rw [List.mem_singleton.1 h]; exact HY.out
   clear hrowB hownB hgrB hs8 hG8
   go_wp2_with fail
   go_roundw
   case rel => exact ⟨_, by simp; omega, by rw [List.length_append]; go_num, HSM2, hO9, hs9.mono (by rw [List.length_append]; simp; omega), hG9⟩
   case measure => simp [intOf]; omega
  have hji : ¬ (C.length : Int) < (M : Int) := by omega
  have hCm : C.length ≤ m := by omega
  by_cases hz : C.length = 0
  ·have hzi : ¬ (0 : Int) < (C.length : Int) := by omega
   have HR := Lib.hid (HP.out _ C wr HO.out hCm HSM.out (hsj.mono (by omega)) hgr)
   rw [hz] at HR hzi hlt hji ⊢
   go_wp2_with fail
   exact HR.out
  have hzi : (0 : Int) < (C.length : Int) := by omega
  go_wp2_with fail
  refine (jda b _ 15 _ hsj (by omega) (by decide) (by decide)).mono ?_
  rintro _ w2 ⟨fl, rfl, hs2, hg2⟩
  have hG2 := ja hgr hg2
  have HO2 : Hid (ConsFrom B w2 (.slice A2 C.length c2) C) := jy HO.out hg2 hbl
  clear hsj hg2 hgr HO
  cases fl
  ·have HR := Lib.hid (HP.out _ C w2 HO2.out hCm HSM.out (hs2.mono (by omega)) hG2)
   go_wp2_with fail
   exact HR.out
  go_wp2_with fail
  refine (y8 b _ (C.length : Int) _ hs2 (by omega) (by omega) (by omega)).mono ?_
  rintro _ w3 ⟨jz, hj0, hj1, rfl, hs3, hg3⟩
  obtain ⟨J, rfl⟩ := Int.eq_ofNat_of_zero_le hj0
  have hJ : J < C.length := by omega
  have hG3 := ja hG2 hg3
  have HO3 : Hid (ConsFrom B w3 (.slice A2 C.length c2) C) := jy HO2.out hg3 hbl
  obtain ⟨g, rfl, hgB, hgl⟩ := HSH.out (by omega)
  clear hs2 hg3 hG2 HO2
  go_wp2_with fail
  refine (y8 b _ 4 _ hs3 (by omega) (by decide) (by decide)).mono ?_
  rintro _ w4 ⟨q, hq0, hq1, rfl, hs4, hg4⟩
  have hG4 := ja hG3 hg4
  have HO4 : Hid (ConsFrom B w4 (.slice (some ⟨g, 0, none⟩) C.length c2) C) := jy HO3.out hg4 hbl
  obtain ⟨x0, x1, x2, x3, x4, x5, x6, x7⟩ := HO4.out.at_ J hJ
  have hYJ := HSM.out C[J] (List.getElem_mem hJ)
  have HJS := Lib.hid (fun y (hy : zy y) => jsa HSM.out J y hy)
  clear hs3 hg4 hG3 HO3
  by_cases q0 : q = 0
  ·subst q0
   go_wp2_with fail
   refine (jkc b _ _ 2 2 [C[J].tm, -1] _ hs4 rfl (by omega) rfl (by decide) (by decide)).mono ?_
   rintro _ w5 ⟨e1, _, rfl, hs5, hg5⟩
   clear x0 x1 x2 x3 x4 x5 x6 x7
   go_wp2_with fail
   refine (jox b _ 1 3 _ hs5 (by omega) (by decide) (by decide) (by decide)).mono ?_
   rintro _ w6 ⟨e2, _, _, rfl, hs6, hg6⟩
   have hR6 := ja hg5 hg6
   have hG6 := ja hG4 hR6
   have HOw : ConsFrom B w6 (.slice (some ⟨g, 0, none⟩) C.length c2) C := jy HO4.out hR6 hbl
   clear hs4 hs5 hg5 hg6 hR6 hG4 HO4
   have HOs : Hid (ConsFrom B w6 (.slice (some ⟨g, 0, none⟩) C.length c2) C) := HOw
   have hset1 := jb5 HOs.out rfl J hJ 0 (by decide) (.int .i64 e1) ⟨e1, C[J].mode, C[J].band, C[J].call, C[J].sent, C[J].heard, C[J].gave, C[J].got⟩ rfl
   rw [Nat.add_zero] at hset1
   have ca := World.ownsRow.cellAt HOs.out (J * 8) (by omega)
   have fa := World.ownsRow.frozenAt HOs.out (J * 8)
   obtain ⟨ua, hua⟩ : ∃ u, (C.flatMap ja6)[J * 8]? = some u := ⟨_, List.getElem?_eq_getElem (by rw [zc ja6 8 (fun _ => rfl)]; omega)⟩
   rw [hua] at ca
   have hJ2 : J < (C.set J ⟨e1, C[J].mode, C[J].band, C[J].call, C[J].sent, C[J].heard, C[J].gave, C[J].got⟩).length := by rw [List.length_set]; exact hJ
   have hset2 := jb5 hset1.1 (by rw [List.length_set]) J hJ2 1 (by decide) (.int .i64 e2) ⟨e1, e2, C[J].band, C[J].call, C[J].sent, C[J].heard, C[J].gave, C[J].got⟩ (by rw [List.getElem_set_self]; rfl)
   rw [List.set_set] at hset2
   have cb := World.ownsRow.cellAt (show (w6.setCell ⟨g, J * 8, none⟩ (.int .i64 e1)).ownsRow B 50 8 (.slice (some ⟨g, 0, none⟩) C.length c2) C.length _ from by have h := hset1.1; unfold ConsFrom at h; rw [List.length_set] at h; exact h) (J * 8 + 1) (by omega)
   have fb := World.ownsRow.frozenAt (show (w6.setCell ⟨g, J * 8, none⟩ (.int .i64 e1)).ownsRow B 50 8 (.slice (some ⟨g, 0, none⟩) C.length c2) C.length _ from by have h := hset1.1; unfold ConsFrom at h; rw [List.length_set] at h; exact h) (J * 8 + 1)
   obtain ⟨ub, hub⟩ := jkm (l := (C.set J ⟨e1, C[J].mode, C[J].band, C[J].call, C[J].sent, C[J].heard, C[J].gave, C[J].got⟩).flatMap ja6) (i := J * 8 + 1) (by rw [zc ja6 8 (fun _ => rfl)]; omega)
   rw [hub] at cb
   have hGs : w.grownBy ((w6.setCell ⟨g, J * 8, none⟩ (.int .i64 e1)).setCell ⟨g, J * 8 + 1, none⟩ (.int .i64 e2)) (some b) := jk hG6 (ja hset1.2 hset2.2) (fun gg e => by injection e with e; exact .inr (by have := HB.out; omega))
   have hss := hs6.grown (ja hset1.2 hset2.2) (fun gg e => by injection e with e; omega)
   have HR := Lib.hid (HP.out _ _ ((w6.setCell ⟨g, J * 8, none⟩ (.int .i64 e1)).setCell ⟨g, J * 8 + 1, none⟩ (.int .i64 e2)) hset2.1 (by rw [List.length_set]; exact hCm) (HJS.out _ hYJ) (hss.mono (by omega)) hGs)
   clear HP hset1 hset2 hub hJ2 hua hGs hss
   go_wp2_with fail
   exact HR.out
  by_cases q1 : q = 1
  ·subst q1
   clear q0
   go_wp2_with fail
   refine (jav b _ _ 2 2 [C[J].band, ⟨#[]⟩] _ hs4 rfl (by omega) rfl (by decide) (by decide)).mono ?_
   rintro _ w5 ⟨e1, he1, rfl, hs5, hg5⟩
   have hz1 : e1.size ≤ 1000 := by rcases List.mem_cons.1 he1 with rfl | h; exact hYJ.1; rw [List.mem_singleton.1 h]; decide
   clear x0 x1 x2 x3 x4 x5 x6 x7 he1
   go_wp2_with fail
   refine (jav b _ _ 2 2 [⟨#[]⟩, ⟨#[65]⟩] _ hs5 rfl (by omega) rfl (by decide) (by decide)).mono ?_
   rintro _ w6 ⟨e2, he2, rfl, hs6, hg6⟩
   have hz2 : e2.size ≤ 1000 := by have := jhj he2 (by decide); omega
   have hR6 := ja hg5 hg6
   have hG6 := ja hG4 hR6
   have HOw : ConsFrom B w6 (.slice (some ⟨g, 0, none⟩) C.length c2) C := jy HO4.out hR6 hbl
   clear hs4 hs5 hg5 hg6 hR6 hG4 HO4 he2
   have HOs : Hid (ConsFrom B w6 (.slice (some ⟨g, 0, none⟩) C.length c2) C) := HOw
   have hset1 := jb5 HOs.out rfl J hJ 2 (by decide) (.string e1) ⟨C[J].tm, C[J].mode, e1, C[J].call, C[J].sent, C[J].heard, C[J].gave, C[J].got⟩ rfl
   have ca := World.ownsRow.cellAt HOs.out (J * 8 + 2) (by omega)
   have fa := World.ownsRow.frozenAt HOs.out (J * 8 + 2)
   obtain ⟨ua, hua⟩ : ∃ u, (C.flatMap ja6)[J * 8 + 2]? = some u := ⟨_, List.getElem?_eq_getElem (by rw [zc ja6 8 (fun _ => rfl)]; omega)⟩
   rw [hua] at ca
   have hJ2 : J < (C.set J ⟨C[J].tm, C[J].mode, e1, C[J].call, C[J].sent, C[J].heard, C[J].gave, C[J].got⟩).length := by rw [List.length_set]; exact hJ
   have hset2 := jb5 hset1.1 (by rw [List.length_set]) J hJ2 7 (by decide) (.string e2) ⟨C[J].tm, C[J].mode, e1, C[J].call, C[J].sent, C[J].heard, C[J].gave, e2⟩ (by rw [List.getElem_set_self]; rfl)
   rw [List.set_set] at hset2
   have cb := World.ownsRow.cellAt (show (w6.setCell ⟨g, J * 8 + 2, none⟩ (.string e1)).ownsRow B 50 8 (.slice (some ⟨g, 0, none⟩) C.length c2) C.length _ from by have h := hset1.1; unfold ConsFrom at h; rw [List.length_set] at h; exact h) (J * 8 + 7) (by omega)
   have fb := World.ownsRow.frozenAt (show (w6.setCell ⟨g, J * 8 + 2, none⟩ (.string e1)).ownsRow B 50 8 (.slice (some ⟨g, 0, none⟩) C.length c2) C.length _ from by have h := hset1.1; unfold ConsFrom at h; rw [List.length_set] at h; exact h) (J * 8 + 7)
   obtain ⟨ub, hub⟩ := jkm (l := (C.set J ⟨C[J].tm, C[J].mode, e1, C[J].call, C[J].sent, C[J].heard, C[J].gave, C[J].got⟩).flatMap ja6) (i := J * 8 + 7) (by rw [zc ja6 8 (fun _ => rfl)]; omega)
   rw [hub] at cb
   have hGs : w.grownBy ((w6.setCell ⟨g, J * 8 + 2, none⟩ (.string e1)).setCell ⟨g, J * 8 + 7, none⟩ (.string e2)) (some b) := jk hG6 (ja hset1.2 hset2.2) (fun gg e => by injection e with e; exact .inr (by have := HB.out; omega))
   have hss := hs6.grown (ja hset1.2 hset2.2) (fun gg e => by injection e with e; omega)
   have HR := Lib.hid (HP.out _ _ ((w6.setCell ⟨g, J * 8 + 2, none⟩ (.string e1)).setCell ⟨g, J * 8 + 7, none⟩ (.string e2)) hset2.1 (by rw [List.length_set]; exact hCm) (HJS.out _ ⟨hz1, hYJ.2.1, hYJ.2.2.1, hYJ.2.2.2.1, hz2⟩) (hss.mono (by omega)) hGs)
   clear HP hset1 hset2 hub hJ2 hua hGs hss
   go_wp2_with fail
   exact HR.out
  by_cases q2 : q = 2
  ·subst q2
   clear q0 q1
   go_wp2_with fail
   refine (jh1 b _ _ hs4 (by omega)).mono ?_
   rintro _ w5 ⟨e1, rfl, hz1, ha1, hs5, hg5⟩
   have HA1 := Lib.hid ha1
   clear x0 x1 x2 x3 x4 x5 x6 x7 ha1
   go_wp2_with fail
   refine (jav b _ _ 2 2 [⟨#[]⟩, ⟨#[45]⟩] _ hs5 rfl (by omega) rfl (by decide) (by decide)).mono ?_
   rintro _ w6 ⟨e2, he2, rfl, hs6, hg6⟩
   have hz2 : e2.size ≤ 100 := jhj he2 (by decide)
   have hA2 : Ascii e2 := by rcases List.mem_cons.1 he2 with rfl | h; exact (yd (n := 0) (by decide)).2; rw [List.mem_singleton.1 h]; exact (yd (n := 1) (by decide)).2
   have hsum : (e1 ++ e2).size ≤ 1000 := by rw [ByteArray.size_append]; omega
   have HAA := Lib.hid (Ascii.app HA1.out hA2)
   have hR6 := ja hg5 hg6
   have hG6 := ja hG4 hR6
   have HOw : ConsFrom B w6 (.slice (some ⟨g, 0, none⟩) C.length c2) C := jy HO4.out hR6 hbl
   clear hs4 hs5 hg5 hg6 hR6 hG4 HO4 he2 hA2
   have HOs : Hid (ConsFrom B w6 (.slice (some ⟨g, 0, none⟩) C.length c2) C) := HOw
   have hset1 := jb5 HOs.out rfl J hJ 3 (by decide) (.string (e1 ++ e2)) ⟨C[J].tm, C[J].mode, C[J].band, e1 ++ e2, C[J].sent, C[J].heard, C[J].gave, C[J].got⟩ rfl
   have ca := World.ownsRow.cellAt HOs.out (J * 8 + 3) (by omega)
   have fa := World.ownsRow.frozenAt HOs.out (J * 8 + 3)
   obtain ⟨ua, hua⟩ : ∃ u, (C.flatMap ja6)[J * 8 + 3]? = some u := ⟨_, List.getElem?_eq_getElem (by rw [zc ja6 8 (fun _ => rfl)]; omega)⟩
   rw [hua] at ca
   have hGs : w.grownBy (w6.setCell ⟨g, J * 8 + 3, none⟩ (.string (e1 ++ e2))) (some b) := jk hG6 (hset1.2) (fun gg e => by injection e with e; exact .inr (by have := HB.out; omega))
   have hss := hs6.grown (hset1.2) (fun gg e => by injection e with e; omega)
   have HR := Lib.hid (HP.out _ _ (w6.setCell ⟨g, J * 8 + 3, none⟩ (.string (e1 ++ e2))) hset1.1 (by rw [List.length_set]; exact hCm) (HJS.out _ ⟨hYJ.1, hsum, HAA.out, hYJ.2.2.2.1, hYJ.2.2.2.2⟩) (hss.mono (by omega)) hGs)
   clear HP hset1 hua hGs hss
   go_wp2_with fail
   exact HR.out
  skip
  go_wp2_with fail
  refine (jox b _ 0 99999 _ hs4 (by omega) (by decide) (by decide) (by decide)).mono ?_
  rintro _ w5 ⟨e1, _, _, rfl, hs5, hg5⟩
  clear x0 x1 x2 x3 x4 x5 x6 x7
  go_wp2_with fail
  refine (jox b _ 0 99999 _ hs5 (by omega) (by decide) (by decide) (by decide)).mono ?_
  rintro _ w6 ⟨e2, _, _, rfl, hs6, hg6⟩
  have hR6 := ja hg5 hg6
  have hG6 := ja hG4 hR6
  have HOw : ConsFrom B w6 (.slice (some ⟨g, 0, none⟩) C.length c2) C := jy HO4.out hR6 hbl
  clear hs4 hs5 hg5 hg6 hR6 hG4 HO4
  have HOs : Hid (ConsFrom B w6 (.slice (some ⟨g, 0, none⟩) C.length c2) C) := HOw
  have hset1 := jb5 HOs.out rfl J hJ 4 (by decide) (.int .i64 e1) ⟨C[J].tm, C[J].mode, C[J].band, C[J].call, e1, C[J].heard, C[J].gave, C[J].got⟩ rfl
  have ca := World.ownsRow.cellAt HOs.out (J * 8 + 4) (by omega)
  have fa := World.ownsRow.frozenAt HOs.out (J * 8 + 4)
  obtain ⟨ua, hua⟩ : ∃ u, (C.flatMap ja6)[J * 8 + 4]? = some u := ⟨_, List.getElem?_eq_getElem (by rw [zc ja6 8 (fun _ => rfl)]; omega)⟩
  rw [hua] at ca
  have hJ2 : J < (C.set J ⟨C[J].tm, C[J].mode, C[J].band, C[J].call, e1, C[J].heard, C[J].gave, C[J].got⟩).length := by rw [List.length_set]; exact hJ
  have hset2 := jb5 hset1.1 (by rw [List.length_set]) J hJ2 5 (by decide) (.int .i64 e2) ⟨C[J].tm, C[J].mode, C[J].band, C[J].call, e1, e2, C[J].gave, C[J].got⟩ (by rw [List.getElem_set_self]; rfl)
  rw [List.set_set] at hset2
  have cb := World.ownsRow.cellAt (show (w6.setCell ⟨g, J * 8 + 4, none⟩ (.int .i64 e1)).ownsRow B 50 8 (.slice (some ⟨g, 0, none⟩) C.length c2) C.length _ from by have h := hset1.1; unfold ConsFrom at h; rw [List.length_set] at h; exact h) (J * 8 + 5) (by omega)
  have fb := World.ownsRow.frozenAt (show (w6.setCell ⟨g, J * 8 + 4, none⟩ (.int .i64 e1)).ownsRow B 50 8 (.slice (some ⟨g, 0, none⟩) C.length c2) C.length _ from by have h := hset1.1; unfold ConsFrom at h; rw [List.length_set] at h; exact h) (J * 8 + 5)
  obtain ⟨ub, hub⟩ := jkm (l := (C.set J ⟨C[J].tm, C[J].mode, C[J].band, C[J].call, e1, C[J].heard, C[J].gave, C[J].got⟩).flatMap ja6) (i := J * 8 + 5) (by rw [zc ja6 8 (fun _ => rfl)]; omega)
  rw [hub] at cb
  have hGs : w.grownBy ((w6.setCell ⟨g, J * 8 + 4, none⟩ (.int .i64 e1)).setCell ⟨g, J * 8 + 5, none⟩ (.int .i64 e2)) (some b) := jk hG6 (ja hset1.2 hset2.2) (fun gg e => by injection e with e; exact .inr (by have := HB.out; omega))
  have hss := hs6.grown (ja hset1.2 hset2.2) (fun gg e => by injection e with e; omega)
  have HR := Lib.hid (HP.out _ _ ((w6.setCell ⟨g, J * 8 + 4, none⟩ (.int .i64 e1)).setCell ⟨g, J * 8 + 5, none⟩ (.int .i64 e2)) hset2.1 (by rw [List.length_set]; exact hCm) (HJS.out _ hYJ) (hss.mono (by omega)) hGs)
  clear HP hset1 hset2 hub hJ2 hua hGs hss
  go_wp2_with fail
  exact HR.out
def jfs (b k m : Nat) (w : World) (e : Ending) (w' : World) : Prop :=
 ∃ (v : Value) (l : List Con), e = .returned v ∧ ConsFrom w.heap.size w' v l ∧ l.length ≤ m ∧ (∀ y ∈ l, zy y) ∧ qm l = 0 ∧ Str w' b (k + 12000) ∧ w.grownBy w' (some b)
set_option maxRecDepth 100000 in
set_option maxHeartbeats 4000000 in
theorem jb4 (b k m : Nat) (hm : m ≤ 20) (w : World) (hs : Str w b k) (hk : k ≤ 10000000) :
 Calls Tryz.prog 8 #[.pointer (some ⟨b, 0, none⟩), .int .i64 (m : Int)] w (jfs b k m w) := by
 go_enter Tryz.func8, Tryz.ntmps8
 go_wp2_with fail
 go_loopw [6] (fun i wr => ∃ j : Nat, j ≤ 6 ∧ i = .int .i64 j ∧ Str wr b (k + 2000 * j) ∧ w.grownBy wr (some b)) (fun i _ => 6 - (intOf i).toNat)
 case atStart => exact ⟨0, by omega, rfl, hs, jf _ _⟩
 case round =>
  obtain ⟨j, hj, rfl, hsr, hgr⟩ := hrel
  by_cases hlt : j < 6
  ·have hjl : (j : Int) < 6 := by omega
   go_wp2_with fail
   refine (jhq b _ m hm _ hsr (by omega)).mono ?_
   rintro _ w1 ⟨v, l, rfl, hv, hl, hsm, hs1, hg1⟩
   have hG1 := ja hgr hg1
   have HF := Lib.hid (jc7 wr.heap.size v l w1 hv hsm)
   have HV := Lib.hid hv
   have HSM := Lib.hid hsm
   have hszr := hgr.size
   clear hv hsm hg1 hsr hgr
   obtain ⟨E, hE⟩ : ∃ E, qm l = E := ⟨_, rfl⟩
   rw [hE] at HF
   have HE := Lib.hid hE
   clear hE
   go_wp2_with fail
   refine HF.out.mono ?_
   rintro _ w2 ⟨rfl, hg2⟩
   have hs2 := hs1.grown hg2 (by simp)
   have hG2 := ja hG1 (jb8 hg2 (some b))
   by_cases hE0 : E = 0
   ·have HR : Hid (jfs b k m w (.returned v) w2) := ⟨v, l, rfl, jq (HV.out.grown hg2) hszr, hl, HSM.out, HE.out.trans hE0, hs2.mono (by omega), hG2⟩
    subst hE0
    clear hs1 hG1 hg2 HF
    go_wp2_with fail
    go_ret
    exact HR.out
   have e1b : (E == 0) = false := by rw [beq_eq_false_iff_ne]; exact hE0
   have e1n : (E != 0) = true := by rw [bne, e1b]; rfl
   clear hs1 hG1 hg2 HF
   go_wp2_with fail
   go_roundw
   case rel => exact ⟨j + 1, by omega, by go_num, hs2.mono (by omega), hG2⟩
   case measure => simp [intOf]; omega
  have hjl : ¬ (j : Int) < 6 := by omega
  go_wp2_with fail
  go_ret
  exact ⟨.slice none 0 0, [], rfl, World.ownsRow_nil _ _ _ _, by simp, by simp, rfl, hsr.mono (by omega), hgr⟩
theorem jvm (x a : Int) (b c d e : Bool) (w : World) : (binOp .eql 38 (.agg #[.int .i64 x, .bool b, .bool c]) (.agg #[.int .i64 a, .bool d, .bool e])).run Tryz.prog w = .ok (.bool (x == a && (b == d && c == e))) w := by
 by_cases h1 : x = a
 ·subst h1
  cases b <;> cases c <;> cases d <;> cases e <;> go_simp
 have h1' : (x == a) = false := by rw [beq_eq_false_iff_ne]; exact h1
 go_simp
def MulsAt (w : World) (g : Nat) (p : List Mul) : Prop := ∀ j (h : j < p.length), w.cell? ⟨g, j * 3, none⟩ = some (.int .i64 p[j].what) ∧ w.cell? ⟨g, j * 3 + 1, none⟩ = some (.bool p[j].byBand) ∧ w.cell? ⟨g, j * 3 + 2, none⟩ = some (.bool p[j].byMode)
theorem MulsAt.grown {w w' : World} {g : Nat} {p : List Mul} (h : MulsAt w g p) (hg : w.grownBy w' none) : MulsAt w' g p := fun j hj => ⟨hg.cell (h j hj).1 (by simp), hg.cell (h j hj).2.1 (by simp), hg.cell (h j hj).2.2 (by simp)⟩
theorem jqe {α : Type} (f : α → Bool) (p : List α) (k : Nat) (h : k < p.length) : (p.take (k + 1)).any f = ((p.take k).any f || f p[k]) := by
 rw [List.take_succ_eq_append_getElem h, List.any_append]
 simp
set_option maxRecDepth 100000 in
set_option maxHeartbeats 2000000 in
theorem jl8 (g n c : Nat) (p : List Mul) (x : Int) (y z : Bool) (w : World) (hn : n = p.length) (hb : n ≤ 1000) (h : MulsAt w g p) :
 Calls Tryz.prog 84 #[.slice (some ⟨g, 0, none⟩) n c, .agg #[.int .i64 x, .bool y, .bool z]] w fun e w' => ∃ i : Int, e = .returned (.int .i64 i) ∧ decide (0 ≤ i) = p.any (jba ⟨x, y, z⟩) ∧ w.grownBy w' none := by
 have HM := Lib.hid h
 have hB := Blk.new w 38 #[.int .i64 x, .bool y, .bool z]
 have hgA := World.grownBy_alloc w (.cells #[.int .i64 x, .bool y, .bool z] 38) none
 clear h
 go_enter Tryz.func84, Tryz.ntmps84
 go_upto_region 1 with fail
 generalize w.alloc (.cells #[.int .i64 x, .bool y, .bool z] 38) = w0 at *
 generalize w.heap.size = gM at *
 go_wp2_with fail
 go_loopw [8] (fun i wr => ∃ k : Nat, k ≤ n ∧ i = .int .i64 k ∧ Hid ((p.take k).any (jba ⟨x, y, z⟩) = false) ∧ Blk wr gM 38 #[.int .i64 x, .bool y, .bool z] ∧ w.grownBy wr none) (fun i _ => n - (intOf i).toNat)
 case atStart => exact ⟨0, by omega, rfl, (show _ = _ by simp), hB, hgA⟩
 case round =>
  obtain ⟨k, hk, rfl, HN, hBr, hgr⟩ := hrel
  clear hB hgA
  by_cases hlt : k < n
  ·have hki : (k : Int) < (n : Int) := by omega
   have hk0 : (0 : Int) ≤ (k : Int) := by omega
   have hkp : k < p.length := by omega
   obtain ⟨a0, a1, a2⟩ := HM.out.grown hgr k hkp
   have hany := jqe (jba ⟨x, y, z⟩) p k hkp
   have hme : jba ⟨x, y, z⟩ p[k] = (x == p[k].what && (y == p[k].byBand && z == p[k].byMode)) := rfl
   have hex : jba ⟨x, y, z⟩ p[k] = true → p.any (jba ⟨x, y, z⟩) = true := fun hh => List.any_eq_true.2 ⟨_, List.getElem_mem hkp, hh⟩
   rw [HN.out, hme] at hany
   rw [hme] at hex
   generalize p[k].what = a at *
   generalize p[k].byBand = d at *
   generalize p[k].byMode = e at *
   obtain ⟨EQ, hEQ⟩ : ∃ q, (x == a && (y == d && z == e)) = q := ⟨_, rfl⟩
   rw [hEQ] at hany hex
   have HAN := Lib.hid hany
   have HEX := Lib.hid hex
   have heq : ∀ W, (binOp .eql 38 (.agg #[.int .i64 x, .bool y, .bool z]) (.agg #[.int .i64 a, .bool d, .bool e])).run Tryz.prog W = .ok (.bool EQ) W := fun W => by rw [jvm, hEQ]
   have c0 := hBr.cell 0
   have c1 := hBr.cell 1
   have c2 := hBr.cell 2
   simp only [geA, geZ, geS] at c0 c1 c2
   clear hany hex hme hEQ
   go_upto_region 4 with fail
   refine wp_region_held_drew (S := fun W => W.cell? ⟨gM, 0, none⟩ = some (.int .i64 x) ∧ W.cell? ⟨gM, 1, none⟩ = some (.bool y) ∧ W.cell? ⟨gM, 2, none⟩ = some (.bool z) ∧ W.cell? ⟨g, k * 3, none⟩ = some (.int .i64 a) ∧ W.cell? ⟨g, k * 3 + 1, none⟩ = some (.bool d) ∧ W.cell? ⟨g, k * 3 + 2, none⟩ = some (.bool e)) (by kernel_rfl) ⟨c0, c1, c2, a0, a1, a2⟩ (fun hHeld => ?_)
   refine tkH 0 11 hHeld ?_
   simp only [Act.put, ssA, ssZ, ssS]
   refine tkH 1 12 hHeld ?_
   simp only [Act.put, ssA, ssZ, ssS]
   refine tkH 2 13 hHeld ?_
   simp only [Act.put, ssA, ssZ, ssS]
   refine tkH 3 14 hHeld ?_
   simp only [Act.put, ssA, ssZ, ssS]
   refine tkH 4 15 hHeld ?_
   simp only [Act.put, ssA, ssZ, ssS]
   refine tkH 5 16 hHeld ?_
   simp only [Act.put, ssA, ssZ, ssS]
   refine wpAnyH_done (by kernel_rfl) ?_ _
   clear c0 c1 c2 a0 a1 a2 heq
   have hgd := jn hgr
   have hBd := hBr.grown (jn (jf wr none)) (by simp)
   generalize wr.drew = wq at *
   clear hBr hgr
   cases EQ
   ·have HN2 : Hid ((p.take (k + 1)).any (jba ⟨x, y, z⟩) = false) := by show _ = _; rw [HAN.out]; rfl
    go_wp2_with fail
    go_roundw
    case rel => exact ⟨k + 1, by omega, by go_num, HN2, hBd, hgd⟩
    case measure => simp [intOf]; omega
   have HC : Hid (decide ((0 : Int) ≤ (k : Int)) = p.any (jba ⟨x, y, z⟩)) := by show _ = _; rw [HEX.out rfl]; simp
   go_wp2_with fail
   go_ret
   exact ⟨k, rfl, HC.out, hgd⟩
  have hki : ¬ (k : Int) < (n : Int) := by omega
  have HC : Hid (decide ((0 : Int) ≤ -1) = p.any (jba ⟨x, y, z⟩)) := by
   show _ = _
   have h := HN.out
   rw [List.take_of_length_le (by omega)] at h
   rw [h]; rfl
  go_wp2_with fail
  go_ret
  exact ⟨-1, rfl, HC.out, hgr⟩
set_option maxRecDepth 100000 in
set_option maxHeartbeats 2000000 in
theorem jco (g n c : Nat) (p : List Mul) (x : Int) (y z : Bool) (w : World) (hn : n = p.length) (hb : n ≤ 1000) (h : MulsAt w g p) :
 Calls Tryz.prog 40 #[.slice (some ⟨g, 0, none⟩) n c, .agg #[.int .i64 x, .bool y, .bool z]] w fun e w' => e = .returned (.bool (p.any (jba ⟨x, y, z⟩))) ∧ w.grownBy w' none := by
 have hB := Blk.new w 38 #[.int .i64 x, .bool y, .bool z]
 have hgA := World.grownBy_alloc w (.cells #[.int .i64 x, .bool y, .bool z] 38) none
 have HI := Lib.hid (jl8 g n c p x y z _ hn hb (h.grown hgA))
 clear h hn
 go_enter Tryz.func40, Tryz.ntmps40
 go_upto_region 1 with fail
 generalize w.alloc (.cells #[.int .i64 x, .bool y, .bool z] 38) = w0 at *
 generalize w.heap.size = gM at *
 have c0 := hB.cell 0
 have c1 := hB.cell 1
 have c2 := hB.cell 2
 simp only [geA, geZ, geS] at c0 c1 c2
 go_wp2_with fail
 refine HI.out.mono ?_
 rintro _ w2 ⟨i, rfl, hi, hg⟩
 have HC := Lib.hid hi
 clear hi
 go_wp2_with fail
 go_ret
 exact ⟨by rw [← HC.out]; rfl, ja hgA hg⟩
end Go.Proofs.YtbamhgaghngjiaaGreatDoor

namespace Go.Proofs.YtbamhgaghngjiaaGreatDoor
open Go.RowKit
set_option linter.unusedVariables false

theorem jv4 {a b c d e f : Int} (h : a = b) (h' : c = d) (h2 : e = f) : Ending.returned (.tuple #[.int .i64 a, .int .i64 c, .int .i64 e]) = .returned (.tuple #[.int .i64 b, .int .i64 d, .int .i64 f]) := by rw [h, h', h2]
theorem jlw (l : List Int) (long : Int) (st : Int × Int) (k : Nat) (h : k < l.length) : (l.drop k).foldl (yt l long) st = (l.drop (k + 1)).foldl (yt l long) (yt l long st l[k]) := by
 rw [List.drop_eq_getElem_cons h]; rfl
set_option maxRecDepth 100000 in
set_option maxHeartbeats 4000000 in
theorem js4 (base : Nat) (v : Value) (l : List Int) (a zt long : Int) (w : World) (hl : IntsFrom base w v l) (hE : jak l a zt = 0) (hLo : joo long = 0) :
 Calls Tryz.prog 44 #[v, .agg #[.int .i64 a, .int .i64 zt], .int .i64 long] w fun r w' => r = .returned (.tuple #[.int .i64 (jh0 l a long).1, .int .i64 (jh0 l a long).2, .int .i64 0]) ∧ w.grownBy w' none := by
 have O := jpx hE
 obtain ⟨hb, r2, r3⟩ : qu long 60000 86400000 = false ∧ 60000 ≤ long ∧ long ≤ 86400000 := by
  rcases jj3 long with ⟨_, h0, h1, h2⟩ | ⟨h, _⟩
  ·exact ⟨h0, h1, h2⟩
  omega
 have hto := O.to_
 have ha0 := O.a0
 have hato := O.ato
 have hll := O.len
 have hG := World.grownBy_alloc w (.cells #[.int .i64 a, .int .i64 zt] 29) none
 have HL := Lib.hid (hl.alloc (.cells #[.int .i64 a, .int .i64 zt] 29))
 have hx0 := Blk.new w 29 #[.int .i64 a, .int .i64 zt]
 obtain ⟨A, c, rfl, hlen, hA⟩ := hl.shape
 have HA := Lib.hid hA
 have HO := Lib.hid O
 have HE := Lib.hid hE
 have HLo := Lib.hid hLo
 have m1 : IntKind.i64.wrap (a + long) = a + long := IntWalk.i64_in _ ⟨by omega, by omega⟩
 clear hl hA O hLo
 go_enter Tryz.func44, Tryz.ntmps44
 go_wp2_with fail
 refine (jfg base _ _ _ _ _ HL.out (by omega) (by omega)).mono ?_
 rintro _ w1 ⟨rfl, hg1⟩
 have hx1 := hx0.grown hg1 (by simp)
 have c0 : w1.cell? ⟨w.heap.size, 0, none⟩ = some (.int .i64 a) := hx1.cell 0
 have hG1 := ja hG hg1
 have HL1 := Lib.hid (HL.out.grown hg1)
 go_wp2_with fail
 refine (jma _ _).mono ?_
 rintro _ _ ⟨rfl, rfl⟩
 go_wp2_with fail
 have KX : Hid (∀ W' : World, w1.grownBy W' none → W'.cell? ⟨w.heap.size, 0, none⟩ = some (.int .i64 a) ∧ w1.grownBy W' none) := fun W' hW => ⟨(hx1.grown hW (by simp)).cell 0, hW⟩
 clear hg1 c0
 have c0 : w1.cell? ⟨w.heap.size, 0, none⟩ = some (.int .i64 a) := hx1.cell 0
 go_region_held3 (fun W' => W'.cell? ⟨w.heap.size, 0, none⟩ = some (.int .i64 a) ∧ w1.grownBy W' none)
  ((exact KX.out _ (by first | exact jf _ _ | exact jn (jf _ _) | exact jl6 (by assumption))))
  (first | (go_at_call 91; refine (joh base _ _ _ _ _ (HL1.out.grown (by first | exact jf _ _ | exact jn (jf _ _))) HO.out.sorted (by have := HO.out.len; omega)).mono ?_; rintro _ w2 ⟨rfl, hgA⟩))
 rename_i hH
 have hg2 := hH.2
 clear hH KX c0
 have hG2 := ja hG1 hg2
 have HL2 := Lib.hid (HL1.out.grown hg2)
 clear hx1 hG1 hg2 hx0 hG
 have hmb := jk7 l a (a + long)
 obtain ⟨m0, hm0⟩ : ∃ m, jbv l a (a + long) = m := ⟨_, rfl⟩
 have HB : Hid (jh0 l a long = l.foldl (yt l long) (a, m0)) := by show _ = _; rw [← hm0]; rfl
 rw [hm0] at hmb ⊢
 clear hm0
 go_wp2_with fail
 go_loopw [10, 11, 37] (fun b n i wr => ∃ (k : Nat) (st : Int × Int), k ≤ l.length ∧ i = .int .i64 k ∧ b = .int .i64 st.1 ∧ n = .int .i64 st.2 ∧ Hid (jh0 l a long = (l.drop k).foldl (yt l long) st) ∧ w2.grownBy wr none) (fun _ _ i _ => l.length - (intOf i).toNat)
 case atStart => exact ⟨0, (a, m0), by omega, rfl, rfl, rfl, HB, jf _ _⟩
 case round =>
  obtain ⟨k, ⟨p, q⟩, hk, rfl, rfl, rfl, HR, hG⟩ := hrel
  by_cases hlt : k < l.length
  ·obtain ⟨g, rfl, _, _⟩ := HA.out (by omega)
   have hkl : (k : Int) < (l.length : Int) := by omega
   have cx := (HL2.out.grown hG).at_ k hlt
   have hs := jlw l long (p, q) k hlt
   have hxm := HO.out.mem l[k] (List.getElem_mem hlt)
   obtain ⟨x, hx⟩ : ∃ x, x = l[k] := ⟨_, rfl⟩
   rw [← hx] at cx hs hxm
   have HS := Lib.hid (HR.out.trans hs)
   clear hx hs HR
   go_wp2_with fail
   refine (joh base _ _ _ _ _ (HL2.out.grown hG) HO.out.sorted (by have := HO.out.len; omega)).mono ?_
   rintro _ w3 ⟨rfl, hg3⟩
   have hG3 := ja hG hg3
   by_cases hqm : q < jbv l x (x + long)
   ·have HN : Hid (jh0 l a long = (l.drop (k + 1)).foldl (yt l long) (x, jbv l x (x + long))) := by
     show _ = _; rw [HS.out]; unfold yt; rw [if_pos hqm]
    go_wp2_with fail
    go_roundw
    case rel => exact ⟨k + 1, (x, jbv l x (x + long)), by omega, by go_num, rfl, rfl, HN, hG3⟩
    case measure => simp [intOf]; omega
   have HN : Hid (jh0 l a long = (l.drop (k + 1)).foldl (yt l long) (p, q)) := by
    show _ = _; rw [HS.out]; unfold yt; rw [if_neg hqm]
   go_wp2_with fail
   go_roundw
   case rel => exact ⟨k + 1, (p, q), by omega, by go_num, rfl, rfl, HN, hG3⟩
   case measure => simp [intOf]; omega
  have hkl : ¬ (k : Int) < (l.length : Int) := by omega
  have HN : Hid (jh0 l a long = (p, q)) := by show _ = _; rw [HR.out, List.drop_of_length_le (by omega)]; rfl
  go_wp2_with fail
  go_ret3
  exact ⟨jv4 (by rw [HN.out]) (by rw [HN.out]) rfl, ja hG2 hG⟩
end Go.Proofs.YtbamhgaghngjiaaGreatDoor

namespace Go.Proofs.YtbamhgaghngjiaaGreatDoor
open Go.RowKit
set_option linter.unusedVariables false

end Go.Proofs.YtbamhgaghngjiaaGreatDoor

namespace Go.Proofs.YtbamhgaghngjiaaGreatDoor
open Go.RowKit
set_option linter.unusedVariables false

end Go.Proofs.YtbamhgaghngjiaaGreatDoor

namespace Go.Proofs.YtbamhgaghngjiaaGreatDoor
open Go.RowKit
set_option linter.unusedVariables false
end Go.Proofs.YtbamhgaghngjiaaGreatDoor

namespace Go.Proofs.YtbamhgaghngjiaaGreatDoor
open Go.RowKit
set_option linter.unusedVariables false

theorem jqi {w : World} {g base : Nat} {l : List Int} (h : Blk w g 3 (l.map (Value.int .i64)).toArray) (hb : base ≤ g) (hn : l.length ≤ 1000000) : IntsFrom base w (.slice (some ⟨g, 0, none⟩) l.length l.length) l := by
 refine ⟨by simp, .inr ⟨g, l.length, _, rfl, hb, h, Nat.le_refl _, by unfold maxLen; omega, by simp, ?_⟩⟩
 exact List.take_of_length_le (by simp)
end Go.Proofs.YtbamhgaghngjiaaGreatDoor
