/- Parts of a proof: TabEntsP, CallsE, TabPfxP, RegStep, RtW. Conditions: as each statement says. -/
import Derived.Test.YtbamhgaghngjiaaGreatDoorCoaf
import Derived.Deep.RegionHeld
namespace Go.Proofs.YtbamhgaghngjiaaGreatDoor
open Go.RowKit
set_option linter.unusedVariables false
set_option linter.unusedSimpArgs false

set_option maxRecDepth 100000 in
set_option maxHeartbeats 4000000 in
theorem jeo (base : Nat) (v : Value) (l : List Ent) (k : Nat) (w : World) (hl : EntsFrom base w v l) (hlt : k < l.length) (hbig : l.length ≤ 1000) (hsm : jjc l[k]) :
 Calls Tryz.prog 165 #[v, .int .i64 k] w fun r w' => r = .returned (.int .i64 (jcq (qy l k) l[k])) ∧ w.grownBy w' none := by
 obtain ⟨A, c, rfl, hlen, hA⟩ := hl.shape
 obtain ⟨g, rfl, hg0, hglt⟩ := hA (by omega)
 obtain ⟨q0, q1, q2, q3, q4⟩ := hl.at_ k hlt
 obtain ⟨s1, s2, s3⟩ := hsm
 have HPV : Hid (∀ j, k = j + 1 → ∃ q : Ent, qy l k = some q ∧ w.cell? ⟨g, j * 5, none⟩ = some (.string q.key)) := fun j hj => by
  subst hj
  exact ⟨l[j], yq l j (by omega), (hl.at_ j (by omega)).1⟩
 have hcs := jao (qy l k) l[k]
 have hki : (k : Int) < (l.length : Int) := by omega
 have hk0' : (0 : Int) ≤ (k : Int) := by omega
 generalize l[k].key = K at *
 generalize l[k].cont = C at *
 generalize l[k].zone = Z at *
 generalize l[k].a = ea at *
 generalize l[k].z = ez at *
 obtain ⟨E, hE⟩ : ∃ E, jcq (qy l k) l[k] = E := ⟨_, rfl⟩
 rw [hE] at hcs ⊢
 obtain ⟨KB, hKB⟩ : ∃ x, jaq K.data.toList = x := ⟨_, rfl⟩
 obtain ⟨CB, hCB⟩ : ∃ x, qu C 1 7 = x := ⟨_, rfl⟩
 obtain ⟨ZB, hZB⟩ : ∃ x, qu Z 1 90 = x := ⟨_, rfl⟩
 obtain ⟨TB, hTB⟩ : ∃ x, xu ea ez = x := ⟨_, rfl⟩
 have hKE := fun W => jes K W s1
 have hIC := fun W => qd C 1 7 W
 have hIZ := fun W => qd Z 1 90 W
 have hTF := fun W => ze ea ez W s2 s3
 rw [hKB] at hcs hKE
 rw [hCB] at hcs hIC
 rw [hZB] at hcs hIZ
 rw [hTB] at hcs hTF
 have HKE := Lib.hid hKE
 have HIC := Lib.hid hIC
 have HIZ := Lib.hid hIZ
 have HTF := Lib.hid hTF
 have HCS := Lib.hid hcs
 have hB := Blk.new w 139 #[.string K, .int .i64 C, .int .i64 Z, .int .i64 ea, .int .i64 ez]
 have hgA := World.grownBy_alloc w (.cells #[.string K, .int .i64 C, .int .i64 Z, .int .i64 ea, .int .i64 ez] 139) none
 clear hE hKB hCB hZB hTB hKE hIC hIZ hTF hcs hl hA
 go_enter Tryz.func165, Tryz.ntmps165
 go_upto_region 2 with fail
 generalize w.alloc (.cells #[.string K, .int .i64 C, .int .i64 Z, .int .i64 ea, .int .i64 ez] 139) = w1 at *
 generalize w.heap.size = gE at *
 have k0 := hB.cell 0
 have k1 := hB.cell 1
 have k2 := hB.cell 2
 simp only [geA, geZ, geS] at k0 k1 k2
 go_wp2_with fail
 refine (HKE.out _).mono ?_
 rintro _ w2 ⟨rfl, hg2⟩
 have hB2 := hB.grown hg2 (by simp)
 clear k0 k1 k2 q0 q1 q2 q3 q4
 have k0 := hB2.cell 0
 have k1 := hB2.cell 1
 have k2 := hB2.cell 2
 have k3 := hB2.cell 3
 have k4 := hB2.cell 4
 simp only [geA, geZ, geS] at k0 k1 k2 k3 k4
 have hg12 := ja hgA hg2
 cases KB
 ·have hE : Hid (E = 5) := by show _ = _; simpa using HCS.out
  go_wp2_with fail
  go_ret
  exact ⟨ji hE.out.symm, hg12⟩
 go_wp2_with fail
 refine (HIC.out _).mono ?_
 rintro _ _ ⟨rfl, rfl⟩
 cases CB
 ·go_wp2_with fail
  refine (HIZ.out _).mono ?_
  rintro _ _ ⟨rfl, rfl⟩
  cases ZB
  ·go_wp2_with fail
   refine (HTF.out _).mono ?_
   rintro _ w3 ⟨rfl, hg3⟩
   have hB3 := hB2.grown hg3 (by simp)
   have hg13 := ja hg12 hg3
   clear k0 k1 k2 k3 k4
   have k0 := hB3.cell 0
   simp only [List.getElem?_toArray, List.getElem?_cons_zero] at k0
   cases TB
   ·have hE : Hid (E = 1) := by show _ = _; simpa using HCS.out
    go_wp2_with fail
    go_ret
    exact ⟨ji hE.out.symm, hg13⟩
   rcases Nat.eq_zero_or_pos k with hk0 | hk0
   ·have hp : qy l k = none := by rw [hk0]; rfl
    have hE : Hid (E = 0) := by
     have := HCS.out
     rw [hp] at this
     show _ = _
     simpa using this
    have hkn : decide ((0 : Int) < (k : Int)) = false := by simp; omega
    have hknN : decide (0 < k) = false := by simp; omega
    clear hp hk0 HPV
    go_wp2_with fail
    refine wp_region_held_drew (S := fun _ => True) (by kernel_rfl) trivial (fun hHeld => ?_)
    refine tkH 0 30 hHeld ?_
    simp only [Act.put, ssA, ssZ, ssS]
    refine tkH 1 31 hHeld ?_
    simp only [Act.put, ssA, ssZ, ssS]
    refine tkH 2 32 hHeld ?_
    simp only [Act.put, ssA, ssZ, ssS]
    refine tkU 3 33 hHeld ?_
    simp only [Act.put, ssA, ssZ, ssS]
    refine tkU 4 34 hHeld ?_
    simp only [Act.put, ssA, ssZ, ssS]
    refine tkU 5 35 hHeld ?_
    simp only [Act.put, ssA, ssZ, ssS]
    refine tkU 6 36 hHeld ?_
    simp only [Act.put, ssA, ssZ, ssS]
    refine tkU 7 37 hHeld ?_
    simp only [Act.put, ssA, ssZ, ssS]
    refine tkU 8 38 hHeld ?_
    simp only [Act.put, ssA, ssZ, ssS]
    refine tkU 9 39 hHeld ?_
    simp only [Act.put, ssA, ssZ, ssS]
    refine tkU 10 40 hHeld ?_
    simp only [Act.put, ssA, ssZ, ssS]
    refine tkU 11 41 hHeld ?_
    simp only [Act.put, ssA, ssZ, ssS]
    refine tkH 12 42 hHeld ?_
    simp only [Act.put, ssA, ssZ, ssS]
    refine tkH 13 29 hHeld ?_
    simp only [Act.put, ssA, ssZ, ssS]
    refine wpAnyH_done (by kernel_rfl) ?_ _
    go_wp2_with fail
    go_ret
    exact ⟨ji hE.out.symm, jn hg13⟩
   obtain ⟨j, hj⟩ : ∃ j, k = j + 1 := ⟨k - 1, by omega⟩
   obtain ⟨q, hq, cq⟩ := HPV.out j hj
   obtain ⟨QK, hQK⟩ : ∃ x, q.key = x := ⟨_, rfl⟩
   rw [hQK] at cq
   obtain ⟨LB, hLB⟩ : ∃ x, (Op.bytesLess K.toList QK.toList || K.toList == QK.toList) = x := ⟨_, rfl⟩
   have hE : E = if LB then 7 else 0 := by
    have h := HCS.out
    rw [hq] at h
    have h2 : leS K q.key = LB := by rw [hQK]; exact hLB
    simpa [h2] using h
   have cq3 := hg13.cell cq (by simp)
   have e2 : IntKind.i64.wrap ((k : Int) - 1) = (j : Int) := by rw [show (k : Int) - 1 = (j : Int) by omega, IntKind.wrap_i64]; omega
   have e3 : IntKind.i64.wrap (j : Int) = (j : Int) := by rw [IntKind.wrap_i64]; omega
   have hj0 : (0 : Int) ≤ (j : Int) := by omega
   have hj1 : (j : Int) < (l.length : Int) := by omega
   have hj2 : j < l.length := by omega
   have hkn : decide ((0 : Int) < (k : Int)) = true := by simp; omega
   have hknN : decide (0 < k) = true := by simp; omega
   have hkn2 : (0 : Int) < (k : Int) := by omega
   have HJ := Lib.hid hj
   have HEE := Lib.hid hE
   clear hE hq hk0 HPV hj cq hQK
   go_wp2_with fail
   refine wp_region_held_drew (S := fun W => W.cell? ⟨gE, 0, none⟩ = some (.string K) ∧ W.cell? ⟨g, j * 5, none⟩ = some (.string QK)) (by kernel_rfl) ⟨k0, cq3⟩ (fun hHeld => ?_)
   refine tkH 0 30 hHeld ?_
   simp only [Act.put, ssA, ssZ, ssS]
   refine tkH 1 31 hHeld ?_
   simp only [Act.put, ssA, ssZ, ssS]
   refine tkH 2 32 hHeld ?_
   simp only [Act.put, ssA, ssZ, ssS]
   refine tkH 3 33 hHeld ?_
   simp only [Act.put, ssA, ssZ, ssS]
   refine tkH 4 34 hHeld ?_
   simp only [Act.put, ssA, ssZ, ssS]
   refine tkH 5 35 hHeld ?_
   simp only [Act.put, ssA, ssZ, ssS]
   refine tkH 6 36 hHeld ?_
   simp only [Act.put, ssA, ssZ, ssS]
   refine tkH 7 37 hHeld ?_
   simp only [Act.put, ssA, ssZ, ssS]
   refine tkH 8 38 hHeld ?_
   simp only [Act.put, ssA, ssZ, ssS]
   refine tkH 9 39 hHeld ?_
   simp only [Act.put, ssA, ssZ, ssS]
   refine tkH 10 40 hHeld ?_
   simp only [Act.put, ssA, ssZ, ssS]
   refine tkH 11 41 hHeld ?_
   simp only [Act.put, ssA, ssZ, ssS]
   refine tkH 12 42 hHeld ?_
   simp only [Act.put, ssA, ssZ, ssS]
   refine tkH 13 29 hHeld ?_
   simp only [Act.put, ssA, ssZ, ssS]
   refine wpAnyH_done (by kernel_rfl) ?_ _
   cases LB
   ·have hE : Hid (E = 0) := by show _ = _; simpa using HEE.out
    go_wp2_with fail
    go_ret
    exact ⟨ji hE.out.symm, jn hg13⟩
   have hE : Hid (E = 7) := by show _ = _; simpa using HEE.out
   go_wp2_with fail
   go_ret
   exact ⟨ji hE.out.symm, jn hg13⟩
  have hE : Hid (E = 1) := by show _ = _; simpa using HCS.out
  go_wp2_with fail
  go_ret
  exact ⟨ji hE.out.symm, hg12⟩
 have hE : Hid (E = 4) := by show _ = _; simpa using HCS.out
 go_wp2_with fail
 go_ret
 exact ⟨ji hE.out.symm, hg12⟩
set_option maxRecDepth 100000 in
set_option maxHeartbeats 4000000 in
theorem jc5 (base : Nat) (v : Value) (l : List Ent) (w : World) (hl : EntsFrom base w v l) (hsm : ∀ e ∈ l, jjc e) :
 Calls Tryz.prog 96 #[v] w fun r w' => r = .returned (.int .i64 (xj l)) ∧ w.grownBy w' none := by
 have HL := Lib.hid hl
 obtain ⟨A, c, rfl, hlen, _⟩ := hl.shape
 clear hl
 by_cases hbig : 400 < l.length
 ·have HE : Hid (xj l = 2) := by show _ = _; unfold xj; rw [if_pos hbig]
  have hb : (400 : Int) < (l.length : Int) := by omega
  go_enter Tryz.func96, Tryz.ntmps96
  go_wp2_with fail
  go_ret
  exact ⟨ji HE.out.symm, jf _ _⟩
 have HE : Hid (xj l = q8 none l) := by show _ = _; unfold xj; rw [if_neg hbig]
 have hb : ¬ (400 : Int) < (l.length : Int) := by omega
 go_enter Tryz.func96, Tryz.ntmps96
 go_wp2_with fail
 go_loopw [10] (fun iv wr => ∃ k : Nat, k ≤ l.length ∧ iv = .int .i64 k ∧ Hid (xj l = q8 (qy l k) (l.drop k)) ∧ w.grownBy wr none) (fun iv _ => l.length - (intOf iv).toNat)
 case atStart => exact ⟨0, by omega, rfl, HE, jf _ _⟩
 case round =>
  obtain ⟨k, hk, rfl, HN, hg⟩ := hrel
  by_cases hlt : k < l.length
  ·have hki : (k : Int) < (l.length : Int) := by omega
   have hst := jcr l k hlt
   rw [← HN.out] at hst
   have HF := Lib.hid (jeo base _ l k wr (HL.out.grown hg) hlt (by omega) (hsm _ (List.getElem_mem hlt)))
   generalize jcq (qy l k) l[k] = E at *
   by_cases hE : E = 0
   ·have HR : Hid (xj l = q8 (qy l (k + 1)) (l.drop (k + 1))) := by show _ = _; rw [hst, if_pos hE]
    subst hE
    clear hst
    go_wp2_with fail
    refine HF.out.mono ?_
    rintro _ w2 ⟨rfl, hg2⟩
    go_wp2_with fail
    go_roundw
    case rel => exact ⟨k + 1, by omega, by go_num, HR, ja hg hg2⟩
    case measure => simp [intOf]; omega
   have HR : Hid (xj l = E) := by show _ = _; rw [hst, if_neg hE]
   have hEb : (E != 0) = true := by simpa using hE
   clear hst hE
   go_wp2_with fail
   refine HF.out.mono ?_
   rintro _ w2 ⟨rfl, hg2⟩
   go_wp2_with fail
   go_ret
   exact ⟨ji HR.out.symm, ja hg hg2⟩
  obtain rfl : k = l.length := by omega
  have hkl : ¬ (l.length : Int) < (l.length : Int) := by omega
  have HR : Hid (xj l = 0) := by show _ = _; rw [HN.out, jdm]
  go_wp2_with fail
  go_ret
  exact ⟨ji HR.out.symm, hg⟩
set_option maxRecDepth 100000 in
set_option maxHeartbeats 2000000 in
theorem jjv (s : ByteArray) (w : World) (hs : s.size ≤ 1000000000) (ha : Ascii s) :
 Calls Tryz.prog 53 #[.string s] w fun e w' => e = .returned (.bool (jo s).isSome) ∧ w.grownBy w' none := by
 go_enter Tryz.func53, Tryz.ntmps53
 go_wp2_with fail
 refine (jbd s _ (by omega) ha).mono ?_
 rintro _ w1 ⟨hg, ⟨hn, rfl⟩ | ⟨t, k, kd, ad, hn, rfl⟩⟩
 ·have HN := Lib.hid hn
  clear hn
  go_wp2_with fail
  go_ret
  exact ⟨by rw [HN.out]; rfl, jd hg _⟩
 have HN := Lib.hid hn
 clear hn
 go_wp2_with fail
 go_ret
 exact ⟨by rw [HN.out]; rfl, jd hg _⟩
theorem jpr {a b : ByteArray} (h : a.toList = b.toList) : a = b := by
 rw [Lib.toList_data, Lib.toList_data] at h
 exact cmpS_0.1 (by
  unfold jaz
  rw [h]
  rcases zd b.data.toList b.data.toList with ⟨_, h2⟩ | ⟨h1, _⟩ | ⟨_, h2⟩
  ·exact absurd h2 (List.lt_irrefl _)
  ·exact h1
  ·exact absurd h2 (List.lt_irrefl _))
theorem jhm {a b : ByteArray} (h : a = b) : (a.toList == b.toList) = true := by rw [h]; simp
theorem jln {a b : ByteArray} (h : ¬ a = b) : (a.toList == b.toList) = false := by
 rw [beq_eq_false_iff_ne]
 exact fun e => h (jpr e)
theorem jk1 (b : Bool) (w : World) : Calls Tryz.prog 203 #[.bool b] w fun r w' => r = .returned (.int .i64 (jbt b)) ∧ w = w' := by
 cases b
 ·go_enter Tryz.func203, Tryz.ntmps203
  go_wp2_with fail
  go_ret
  exact ⟨rfl, rfl⟩
 go_enter Tryz.func203, Tryz.ntmps203
 go_wp2_with fail
 go_ret
 exact ⟨rfl, rfl⟩
set_option maxRecDepth 100000 in
set_option maxHeartbeats 4000000 in
theorem jly (b1 e1 b2 e2 : ByteArray) (a1 z1 a2 z2 n1 n2 : Int) (h1 h2 : Bool) (w : World) (ha1 : -1152921504606846976 ≤ a1 ∧ a1 ≤ 1152921504606846976) (ha2 : -1152921504606846976 ≤ a2 ∧ a2 ≤ 1152921504606846976) :
 Calls Tryz.prog 167 #[.agg #[.string b1, .string e1, .int .i64 a1, .int .i64 z1, .bool h1, .int .i64 n1], .agg #[.string b2, .string e2, .int .i64 a2, .int .i64 z2, .bool h2, .int .i64 n2]] w fun r w' => r = .returned (.int .i64 (ja5 ⟨b1, e1, a1, z1, h1, n1⟩ ⟨b2, e2, a2, z2, h2, n2⟩)) ∧ w.grownBy w' none := by
 have HC : Hid (∀ W, Calls Tryz.prog 132 #[.string b1, .string b2] W fun e w' => e = .returned (.int .i64 (jaz b1 b2)) ∧ W = w') := fun W => (Tryz.strings_Compare b1 b2 W).mono fun e w' ⟨q1, q2⟩ => ⟨q1, q2.symm⟩
 have HF1 := Lib.hid (fun W => jk1 h1 W)
 have HF2 := Lib.hid (fun W => jk1 h2 W)
 have hfb : ∀ b, 0 ≤ jbt b ∧ jbt b ≤ 1 := fun b => by cases b <;> decide
 have f1 := hfb h1
 have f2 := hfb h2
 obtain ⟨R, hR⟩ : ∃ R, ja5 ⟨b1, e1, a1, z1, h1, n1⟩ ⟨b2, e2, a2, z2, h2, n2⟩ = R := ⟨_, rfl⟩
 rw [hR]
 have hR2 : R = if jaz b1 b2 ≠ 0 then jaz b1 b2 else if jbt h1 - jbt h2 ≠ 0 then jbt h1 - jbt h2 else a1 - a2 := by rw [← hR]; rfl
 generalize jaz b1 b2 = X at *
 generalize jbt h1 = F1 at *
 generalize jbt h2 = F2 at *
 have e3 : IntKind.i64.wrap (F1 - F2) = F1 - F2 := by rw [IntKind.wrap_i64]; omega
 have e4 : IntKind.i64.wrap (a1 - a2) = a1 - a2 := by rw [IntKind.wrap_i64]; omega
 have hx := (Blk.new w 134 #[.string b1, .string e1, .int .i64 a1, .int .i64 z1, .bool h1, .int .i64 n1]).alloc (.cells #[.string b2, .string e2, .int .i64 a2, .int .i64 z2, .bool h2, .int .i64 n2] 134)
 have hy := Blk.new (w.alloc (.cells #[.string b1, .string e1, .int .i64 a1, .int .i64 z1, .bool h1, .int .i64 n1] 134)) 134 #[.string b2, .string e2, .int .i64 a2, .int .i64 z2, .bool h2, .int .i64 n2]
 rw [World.size_alloc] at hy
 have hG := jd (World.grownBy_alloc w (.cells #[.string b1, .string e1, .int .i64 a1, .int .i64 z1, .bool h1, .int .i64 n1] 134) none) (.cells #[.string b2, .string e2, .int .i64 a2, .int .i64 z2, .bool h2, .int .i64 n2] 134)
 have HR := Lib.hid hR2
 clear hR hR2 hfb
 go_enter Tryz.func167, Tryz.ntmps167
 go_upto_region 1 with fail
 generalize (w.alloc (.cells #[.string b1, .string e1, .int .i64 a1, .int .i64 z1, .bool h1, .int .i64 n1] 134)).alloc (.cells #[.string b2, .string e2, .int .i64 a2, .int .i64 z2, .bool h2, .int .i64 n2] 134) = W at *
 generalize w.heap.size + 1 = gy at *
 generalize w.heap.size = gx at *
 have x0 := hx.cell 0
 have x2 := hx.cell 2
 have x4 := hx.cell 4
 have y0 := hy.cell 0
 have y2 := hy.cell 2
 have y4 := hy.cell 4
 simp only [geA, geZ, geS] at x0 x2 x4 y0 y2 y4
 go_wp2_with fail
 refine (HC.out _).mono ?_
 rintro _ _ ⟨rfl, rfl⟩
 by_cases hX : X = 0
 ·subst hX
  go_wp2_with fail
  refine wp_region_held_drew (S := fun V => V.cell? ⟨gx, 4, none⟩ = some (.bool h1) ∧ V.cell? ⟨gy, 4, none⟩ = some (.bool h2)) (by kernel_rfl) ⟨x4, y4⟩ (fun hHeld => ?_)
  refine tkH 0 15 hHeld ?_
  simp only [Act.put, ssA, ssZ, ssS]
  refine tkH 1 16 hHeld ?_
  simp only [Act.put, ssA, ssZ, ssS]
  refine tkH 3 18 hHeld ?_
  simp only [Act.put, ssA, ssZ, ssS]
  refine tkH 4 19 hHeld ?_
  simp only [Act.put, ssA, ssZ, ssS]
  refine wpAnyH_ready (rs := [2]) (by kernel_rfl) (by simp) ?_
  refine AllReadyH.cons (o := _) rfl (fun K hK => ?_) AllReadyH.nil
  go_simp
  ((go_at_call_of 203 (Value.bool h1); refine (HF1.out _).mono ?_; rintro _ _ ⟨rfl, rfl⟩))
  refine hK.out _ _ ⟨x4, y4⟩ (fun hHeld2 => ?_)
  clear hK K
  (try simp only [Act.put, ssA, ssZ, ssS])
  refine wpAnyH_ready (rs := [5]) (by kernel_rfl) (by simp) ?_
  refine AllReadyH.cons (o := _) rfl (fun K hK => ?_) AllReadyH.nil
  go_simp
  ((go_at_call 203; refine (HF2.out _).mono ?_; rintro _ _ ⟨rfl, rfl⟩))
  refine hK.out _ _ ⟨x4, y4⟩ (fun hHeld5 => ?_)
  clear hK K
  (try simp only [Act.put, ssA, ssZ, ssS])
  refine tkH 6 21 hHeld5 ?_
  simp only [Act.put, ssA, ssZ, ssS]
  refine tkH 7 6 hHeld5 ?_
  simp only [Act.put, ssA, ssZ, ssS]
  refine wpAnyH_done (by kernel_rfl) ?_ _
  by_cases hF : F1 - F2 = 0
  ·have hE : Hid (R = a1 - a2) := by show _ = _; rw [HR.out, if_neg (by omega), if_neg (by omega)]
   have hFb : ((F1 - F2) != 0) = false := by simpa using hF
   clear hF
   go_wp2_with fail
   go_ret
   exact ⟨ji hE.out.symm, jn hG⟩
  have hE : Hid (R = F1 - F2) := by show _ = _; rw [HR.out, if_neg (by omega), if_pos hF]
  have hFb : ((F1 - F2) != 0) = true := by simpa using hF
  clear hF
  go_wp2_with fail
  go_ret
  exact ⟨ji hE.out.symm, jn hG⟩
 have hE : Hid (R = X) := by show _ = _; rw [HR.out, if_pos hX]
 have hXb : (X != 0) = true := by simpa using hX
 clear hX
 go_wp2_with fail
 go_ret
 exact ⟨ji hE.out.symm, hG⟩
set_option maxRecDepth 100000 in
set_option maxHeartbeats 8000000 in
theorem je6 (base : Nat) (u v : Value) (l : List Ent) (p : List Pfx) (k : Nat) (w : World) (hl : EntsFrom base w u l) (hO : EntsOk l) (hp : PfxsFrom base w v p) (hlt : k < p.length) (hbig : p.length ≤ 3000) (hsm : ∀ x ∈ p, jlq x) :
 Calls Tryz.prog 97 #[u, v, .int .i64 k] w fun r w' => r = .returned (.int .i64 (jd1 l (qy p k) p[k])) ∧ w.grownBy w' none := by
 obtain ⟨A, c, rfl, hlen, hA⟩ := hp.shape
 obtain ⟨g, rfl, hg0, hglt⟩ := hA (by omega)
 obtain ⟨q0, q1, q2, q3, q4, q5⟩ := hp.at_ k hlt
 obtain ⟨s1, s2, s3, s4, s5, s6, s7⟩ := hsm _ (List.getElem_mem hlt)
 have hcs : jd1 l (qy p k) p[k] = if (if p[k].whole then !(jo p[k].beg).isSome else !jr p[k].beg.data.toList) then 3 else if (xi l p[k].ent).isSome = false then 8 else if xu p[k].a p[k].z = false then 1 else if qu p[k].zone 0 90 then 1 else match qy p k with | none => 0 | some o => if 0 ≤ ja5 o p[k] then 7 else if o.beg = p[k].beg ∧ o.whole = p[k].whole ∧ p[k].a < o.z then 13 else 0 := rfl
 have HPV : Hid (∀ j, k = j + 1 → ∃ (o : Pfx) (C : Int), qy p k = some o ∧ jlq o ∧ ja5 o p[k] = C ∧ (∀ W, Calls Tryz.prog 167 #[.agg #[.string o.beg, .string o.ent, .int .i64 o.a, .int .i64 o.z, .bool o.whole, .int .i64 o.zone], .agg #[.string p[k].beg, .string p[k].ent, .int .i64 p[k].a, .int .i64 p[k].z, .bool p[k].whole, .int .i64 p[k].zone]] W fun r w' => r = .returned (.int .i64 C) ∧ W.grownBy w' none) ∧
  w.cell? ⟨g, j * 6, none⟩ = some (.string o.beg) ∧ w.cell? ⟨g, j * 6 + 1, none⟩ = some (.string o.ent) ∧ w.cell? ⟨g, j * 6 + 2, none⟩ = some (.int .i64 o.a) ∧ w.cell? ⟨g, j * 6 + 3, none⟩ = some (.int .i64 o.z) ∧ w.cell? ⟨g, j * 6 + 4, none⟩ = some (.bool o.whole) ∧ w.cell? ⟨g, j * 6 + 5, none⟩ = some (.int .i64 o.zone)) := fun j hj => by
  subst hj
  have ho := hsm _ (List.getElem_mem (show j < p.length by omega))
  refine ⟨p[j], _, yq p j (by omega), ho, rfl, fun W => ?_, hp.at_ j (by omega)⟩
  exact jly p[j].beg p[j].ent p[j + 1].beg p[j + 1].ent p[j].a p[j].z p[j + 1].a p[j + 1].z p[j].zone p[j + 1].zone p[j].whole p[j + 1].whole W ⟨ho.2.2.2.1, ho.2.2.2.2.1⟩ ⟨s4, s5⟩
 have hki : (k : Int) < (p.length : Int) := by omega
 have hk0' : (0 : Int) ≤ (k : Int) := by omega
 have HU := Lib.hid hl
 generalize p[k].beg = B at *
 generalize p[k].ent = N at *
 generalize p[k].a = xa at *
 generalize p[k].z = xz at *
 generalize p[k].whole = H at *
 generalize p[k].zone = Z at *
 obtain ⟨E, hE⟩ : ∃ E, jd1 l (qy p k) p[k] = E := ⟨_, rfl⟩
 rw [hE] at hcs ⊢
 obtain ⟨PB, hPB⟩ : ∃ x, (jo B).isSome = x := ⟨_, rfl⟩
 obtain ⟨BB, hBB⟩ : ∃ x, jr B.data.toList = x := ⟨_, rfl⟩
 obtain ⟨FS, hFS⟩ : ∃ x, (xi l N).isSome = x := ⟨_, rfl⟩
 obtain ⟨TB, hTB⟩ : ∃ x, xu xa xz = x := ⟨_, rfl⟩
 obtain ⟨ZB, hZB⟩ : ∃ x, qu Z 0 90 = x := ⟨_, rfl⟩
 have hIS := fun W => jjv B W s1 s2
 have hBE := fun W => zi B W (by omega)
 have hEA : ∀ W, w.grownBy W none → Calls Tryz.prog 166 #[u, .string N] W fun r w' => ∃ i : Nat, r = .returned (.tuple #[.int .i64 i, .bool (xi l N).isSome]) ∧ W.grownBy w' none := fun W h => (jb6 base u l N W (hl.grown h) hO).mono fun r w' ⟨i, h1, _, h3⟩ => ⟨i, h1, h3⟩
 have hTI := fun W => ze xa xz W s6 s7
 have hIZ := fun W => qd Z 0 90 W
 rw [hPB] at hcs hIS
 rw [hBB] at hcs hBE
 rw [hFS] at hcs hEA
 rw [hTB] at hcs hTI
 rw [hZB] at hcs hIZ
 have HIS := Lib.hid hIS
 have HBE := Lib.hid hBE
 have HEA := Lib.hid hEA
 have HTI := Lib.hid hTI
 have HIZ := Lib.hid hIZ
 have HCS := Lib.hid hcs
 have hB := Blk.new w 134 #[.string B, .string N, .int .i64 xa, .int .i64 xz, .bool H, .int .i64 Z]
 have hgA := World.grownBy_alloc w (.cells #[.string B, .string N, .int .i64 xa, .int .i64 xz, .bool H, .int .i64 Z] 134) none
 clear hE hPB hBB hFS hTB hZB hIS hBE hEA hTI hIZ hcs hl hp hA hO
 go_enter Tryz.func97, Tryz.ntmps97
 go_upto_region 2 with fail
 generalize w.alloc (.cells #[.string B, .string N, .int .i64 xa, .int .i64 xz, .bool H, .int .i64 Z] 134) = w1 at *
 generalize w.heap.size = gE at *
 clear q0 q1 q2 q3 q4 q5
 have k0 := hB.cell 0
 have k1 := hB.cell 1
 have k4 := hB.cell 4
 simp only [geA, geZ, geS] at k0 k1 k4
 go_cut [33] (fun s wq => s = .bool (if H then !PB else !BB) ∧ w1.grownBy wq none)
 case first =>
  as_aux_lemma =>
   cases H
   ·go_wp2_with fail
    refine (HBE.out _).mono ?_
    rintro _ _ ⟨rfl, rfl⟩
    go_wp2_with fail
    go_meet
    exact ⟨by cases BB <;> rfl, jf _ _⟩
   go_wp2_with fail
   refine (HIS.out _).mono ?_
   rintro _ w2 ⟨rfl, hg2⟩
   have k4' := (hB.grown hg2 (by simp)).cell 4
   simp only [geA, geZ, geS] at k4'
   cases PB
   ·go_wp2_with fail
    go_meet
    exact ⟨rfl, hg2⟩
   go_wp2_with fail
   go_meet
   exact ⟨rfl, hg2⟩
 case rest =>
  as_aux_lemma =>
   obtain ⟨rfl, hg2⟩ := hcut
   rename World => w2
   generalize (if H = true then !PB else !BB) = FB at *
   have hB2 := hB.grown hg2 (by simp)
   have hg02 := ja hgA hg2
   clear k0 k1 k4
   have k1 := hB2.cell 1
   simp only [geA, geZ, geS] at k1
   cases FB
   ·go_wp2_with fail
    refine (HEA.out _ hg02).mono ?_
    rintro _ w3 ⟨i, rfl, hg3⟩
    have hB3 := hB2.grown hg3 (by simp)
    have hg03 := ja hg02 hg3
    clear k1
    have k2 := hB3.cell 2
    have k3 := hB3.cell 3
    have k5 := hB3.cell 5
    simp only [geA, geZ, geS] at k2 k3 k5
    cases FS
    ·have hE : Hid (E = 8) := by show _ = _; simpa using HCS.out
     go_wp2_with fail
     go_ret
     exact ⟨ji hE.out.symm, hg03⟩
    go_wp2_with fail
    refine (HTI.out _).mono ?_
    rintro _ w4 ⟨rfl, hg4⟩
    have hB4 := hB3.grown hg4 (by simp)
    have hg04 := ja hg03 hg4
    clear k2 k3 k5
    have k5 := hB4.cell 5
    simp only [geA, geZ, geS] at k5
    cases TB
    ·have hE : Hid (E = 1) := by show _ = _; simpa using HCS.out
     go_wp2_with fail
     go_ret
     exact ⟨ji hE.out.symm, hg04⟩
    go_wp2_with fail
    refine (HIZ.out _).mono ?_
    rintro _ _ ⟨rfl, rfl⟩
    cases ZB
    ·rcases Nat.eq_zero_or_pos k with hk0 | hk0
     ·have hpn : qy p k = none := by rw [hk0]; rfl
      have hE : Hid (E = 0) := by
       have := HCS.out
       rw [hpn] at this
       show _ = _
       simpa using this
      have hkb : ((k : Int) == 0) = true := by simp; omega
      clear hpn hk0 HPV
      go_wp2_with fail
      go_ret
      exact ⟨ji hE.out.symm, hg04⟩
     obtain ⟨j, hj⟩ : ∃ j, k = j + 1 := ⟨k - 1, by omega⟩
     obtain ⟨o, C, ho, hosm, hCC, hCP, c0, c1, c2, c3, c4, c5⟩ := HPV.out j hj
     have hE : E = if 0 ≤ ja5 o p[k] then 7 else if o.beg = B ∧ o.whole = H ∧ xa < o.z then 13 else 0 := by
      have h := HCS.out
      rw [ho] at h
      simpa using h
     rw [hCC] at hE
     obtain ⟨OB, hOB⟩ : ∃ x, o.beg = x := ⟨_, rfl⟩
     obtain ⟨ON, hON⟩ : ∃ x, o.ent = x := ⟨_, rfl⟩
     obtain ⟨oa, hoa⟩ : ∃ x, o.a = x := ⟨_, rfl⟩
     obtain ⟨oz, hoz⟩ : ∃ x, o.z = x := ⟨_, rfl⟩
     obtain ⟨OH, hOH⟩ : ∃ x, o.whole = x := ⟨_, rfl⟩
     obtain ⟨OZ, hOZ⟩ : ∃ x, o.zone = x := ⟨_, rfl⟩
     rw [hOB, hOH, hoz] at hE
     rw [hOB, hON, hoa, hoz, hOH, hOZ] at hCP
     rw [hOB] at c0
     rw [hON] at c1
     rw [hoa] at c2
     rw [hoz] at c3
     rw [hOH] at c4
     rw [hOZ] at c5
     have d0 := hg04.cell c0 (by simp)
     have d1 := hg04.cell c1 (by simp)
     have d2 := hg04.cell c2 (by simp)
     have d3 := hg04.cell c3 (by simp)
     have d4 := hg04.cell c4 (by simp)
     have d5 := hg04.cell c5 (by simp)
     have hkb : ((k : Int) == 0) = false := by simp; omega
     have e2 : IntKind.i64.wrap ((k : Int) - 1) = (j : Int) := by rw [show (k : Int) - 1 = (j : Int) by omega, IntKind.wrap_i64]; omega
     have e3 : IntKind.i64.wrap (j : Int) = (j : Int) := by rw [IntKind.wrap_i64]; omega
     have hj0 : (0 : Int) ≤ (j : Int) := by omega
     have hj1 : (j : Int) < (p.length : Int) := by omega
     have hj2 : j < p.length := by omega
     have HE := Lib.hid hE
     have HCP := Lib.hid hCP
     have HJ := Lib.hid hj
     have hX := Blk.new w4 134 #[.string OB, .string ON, .int .i64 oa, .int .i64 oz, .bool OH, .int .i64 OZ]
     have hB5 := hB4.alloc (.cells #[.string OB, .string ON, .int .i64 oa, .int .i64 oz, .bool OH, .int .i64 OZ] 134)
     have hg05 := jd hg04 (.cells #[.string OB, .string ON, .int .i64 oa, .int .i64 oz, .bool OH, .int .i64 OZ] 134)
     clear hE hCP hj ho hosm hCC hOB hON hoa hoz hOH hOZ c0 c1 c2 c3 c4 c5 hk0 HPV k5
     go_upto_region 12 with fail
     generalize w4.alloc (.cells #[.string OB, .string ON, .int .i64 oa, .int .i64 oz, .bool OH, .int .i64 OZ] 134) = w5 at *
     generalize w4.heap.size = gO at *
     clear d0 d1 d2 d3 d4 d5
     have x0 := hX.cell 0
     have x1 := hX.cell 1
     have x2 := hX.cell 2
     have x3 := hX.cell 3
     have x4 := hX.cell 4
     have x5 := hX.cell 5
     have y0 := hB5.cell 0
     have y1 := hB5.cell 1
     have y2 := hB5.cell 2
     have y3 := hB5.cell 3
     have y4 := hB5.cell 4
     have y5 := hB5.cell 5
     simp only [geA, geZ, geS] at x0 x1 x2 x3 x4 x5 y0 y1 y2 y3 y4 y5
     go_wp2_with fail
     refine (HCP.out _).mono ?_
     rintro _ w6 ⟨rfl, hg6⟩
     have hX6 := hX.grown hg6 (by simp)
     have hB6 := hB5.grown hg6 (by simp)
     have hg06 := ja hg05 hg6
     clear x0 x1 x2 x3 x4 x5 y0 y1 y2 y3 y4 y5
     have x0 := hX6.cell 0
     have x3 := hX6.cell 3
     have x4 := hX6.cell 4
     have y0 := hB6.cell 0
     have y2 := hB6.cell 2
     have y4 := hB6.cell 4
     simp only [geA, geZ, geS] at x0 x3 x4 y0 y2 y4
     by_cases hC : 0 ≤ C
     ·have hE : Hid (E = 7) := by show _ = _; rw [HE.out, if_pos hC]
      go_wp2_with fail
      go_ret
      exact ⟨ji hE.out.symm, hg06⟩
     have hE0 : E = if OB = B ∧ OH = H ∧ xa < oz then 13 else 0 := by rw [HE.out, if_neg hC]
     by_cases hb : OB = B
     ·have hbb := jhm hb
      by_cases hh : OH = H
      ·have hhb : (OH == H) = true := by simpa using hh
       by_cases ht : xa < oz
       ·have hE : Hid (E = 13) := by show _ = _; rw [hE0, if_pos ⟨hb, hh, ht⟩]
        clear hE0 hb hh
        go_wp2_with fail
        go_ret
        exact ⟨ji hE.out.symm, hg06⟩
       have hE : Hid (E = 0) := by show _ = _; rw [hE0, if_neg (fun h => ht h.2.2)]
       clear hE0 hb hh
       go_wp2_with fail
       go_ret
       exact ⟨ji hE.out.symm, hg06⟩
      have hhb : (OH == H) = false := by simpa using hh
      have hE : Hid (E = 0) := by show _ = _; rw [hE0, if_neg (fun h => hh h.2.1)]
      clear hE0 hb hh
      go_wp2_with fail
      go_ret
      exact ⟨ji hE.out.symm, hg06⟩
     have hbb := jln hb
     have hE : Hid (E = 0) := by show _ = _; rw [hE0, if_neg (fun h => hb h.1)]
     clear hE0 hb
     go_wp2_with fail
     go_ret
     exact ⟨ji hE.out.symm, hg06⟩
    have hE : Hid (E = 1) := by show _ = _; simpa using HCS.out
    go_wp2_with fail
    go_ret
    exact ⟨ji hE.out.symm, hg04⟩
   have hE : Hid (E = 3) := by show _ = _; simpa using HCS.out
   go_wp2_with fail
   go_ret
   exact ⟨ji hE.out.symm, hg02⟩
set_option maxRecDepth 100000 in
set_option maxHeartbeats 4000000 in
theorem jff (base : Nat) (u v : Value) (l : List Ent) (p : List Pfx) (w : World) (hl : EntsFrom base w u l) (hsl : ∀ e ∈ l, jjc e) (hp : PfxsFrom base w v p) (hsm : ∀ x ∈ p, jlq x) :
 Calls Tryz.prog 52 #[u, v] w fun r w' => r = .returned (.int .i64 (jah l p)) ∧ w.grownBy w' none := by
 have HP := Lib.hid hp
 have HL := Lib.hid hl
 have HCE := Lib.hid (jc5 base u l w hl hsl)
 obtain ⟨A, c, rfl, hlen, _⟩ := hp.shape
 clear hp hl
 by_cases hE : xj l = 0
 ·have hO := jd2 hE
  have hte : jah l p = if 2000 < p.length then 2 else xr l none p := by unfold jah; rw [if_neg (by omega)]
  rw [hE] at HCE
  clear hE
  by_cases hbig : 2000 < p.length
  ·have HT : Hid (jah l p = 2) := by show _ = _; rw [hte, if_pos hbig]
   have hb : (2000 : Int) < (p.length : Int) := by omega
   clear hte hO
   go_enter Tryz.func52, Tryz.ntmps52
   go_wp2_with fail
   refine HCE.out.mono ?_
   rintro _ w1 ⟨rfl, hg1⟩
   go_wp2_with fail
   go_ret
   exact ⟨ji HT.out.symm, hg1⟩
  have HT : Hid (jah l p = xr l none p) := by show _ = _; rw [hte, if_neg hbig]
  have hb : ¬ (2000 : Int) < (p.length : Int) := by omega
  have HO := Lib.hid hO
  clear hte hO
  go_enter Tryz.func52, Tryz.ntmps52
  go_wp2_with fail
  refine HCE.out.mono ?_
  rintro _ w1 ⟨rfl, hg1⟩
  go_wp2_with fail
  go_loopw [18] (fun iv wr => ∃ k : Nat, k ≤ p.length ∧ iv = .int .i64 k ∧ Hid (jah l p = xr l (qy p k) (p.drop k)) ∧ w.grownBy wr none) (fun iv _ => p.length - (intOf iv).toNat)
  case atStart => exact ⟨0, by omega, rfl, HT, hg1⟩
  case round =>
   obtain ⟨k, hk, rfl, HN, hg⟩ := hrel
   by_cases hlt : k < p.length
   ·have hki : (k : Int) < (p.length : Int) := by omega
    have hst := jdt l p k hlt
    rw [← HN.out] at hst
    have HF := Lib.hid (je6 base u _ l p k wr (HL.out.grown hg) HO.out (HP.out.grown hg) hlt (by omega) hsm)
    generalize jd1 l (qy p k) p[k] = E at *
    by_cases hE : E = 0
    ·have HR : Hid (jah l p = xr l (qy p (k + 1)) (p.drop (k + 1))) := by show _ = _; rw [hst, if_pos hE]
     subst hE
     clear hst
     go_wp2_with fail
     refine HF.out.mono ?_
     rintro _ w2 ⟨rfl, hg2⟩
     go_wp2_with fail
     go_roundw
     case rel => exact ⟨k + 1, by omega, by go_num, HR, ja hg hg2⟩
     case measure => simp [intOf]; omega
    have HR : Hid (jah l p = E) := by show _ = _; rw [hst, if_neg hE]
    have hEb : (E != 0) = true := by simpa using hE
    clear hst hE
    go_wp2_with fail
    refine HF.out.mono ?_
    rintro _ w2 ⟨rfl, hg2⟩
    go_wp2_with fail
    go_ret
    exact ⟨ji HR.out.symm, ja hg hg2⟩
   obtain rfl : k = p.length := by omega
   have hkl : ¬ (p.length : Int) < (p.length : Int) := by omega
   have HR : Hid (jah l p = 0) := by show _ = _; rw [HN.out, je4]
   go_wp2_with fail
   go_ret
   exact ⟨ji HR.out.symm, hg⟩
 have HT : Hid (jah l p = xj l) := by show _ = _; unfold jah; rw [if_pos hE]
 generalize xj l = E at *
 have hEb : (E != 0) = true := by simpa using hE
 clear hE
 go_enter Tryz.func52, Tryz.ntmps52
 go_wp2_with fail
 refine HCE.out.mono ?_
 rintro _ w1 ⟨rfl, hg1⟩
 go_wp2_with fail
 go_ret
 exact ⟨ji HT.out.symm, hg1⟩
section
variable {w : World} {ops : Array Oper} {o : Oper} {a : Act} {K : Act → World → Prop} {Q : Exit → Act → World → Prop} {E : Prop}
theorem xy {P : Program} (hgd : o.guard = none) (h : Oper.wp P o a w K Q) : if Region.wanted o (yielded ops a.tmps) = true then Oper.wp P o a w K Q else E := by
 have hw : Region.wanted o (yielded ops a.tmps) = true := by simp [Region.wanted, hgd]
 rw [if_pos hw]
 exact h
theorem qo (hgd : o.guard = none) (x0 x1 x2 x3 x4 : Int)
 (ho : o.op = .buildSlice 22 5 #[(0, .const (.int .i64 x0)), (1, .const (.int .i64 x1)), (2, .const (.int .i64 x2)), (3, .const (.int .i64 x3)), (4, .const (.int .i64 x4))])
 (h : K (a.put o.dst (.slice (some ⟨w.heap.size, 0, none⟩) 5 5)) (w.alloc (.cells #[.int .i64 x0, .int .i64 x1, .int .i64 x2, .int .i64 x3, .int .i64 x4] 3))) : if Region.wanted o (yielded ops a.tmps) = true then Oper.wp Tryz.prog o a w K Q else E := by
 refine xy hgd ?_
 unfold Oper.wp execOp
 rw [ho]
 go_simp
 exact h
theorem jbi (hgd : o.guard = none) (x0 x1 x2 : Int)
 (ho : o.op = .buildSlice 22 3 #[(0, .const (.int .i64 x0)), (1, .const (.int .i64 x1)), (2, .const (.int .i64 x2))])
 (h : K (a.put o.dst (.slice (some ⟨w.heap.size, 0, none⟩) 3 3)) (w.alloc (.cells #[.int .i64 x0, .int .i64 x1, .int .i64 x2] 3))) : if Region.wanted o (yielded ops a.tmps) = true then Oper.wp Tryz.prog o a w K Q else E := by
 refine xy hgd ?_
 unfold Oper.wp execOp
 rw [ho]
 go_simp
 exact h
theorem jl (hgd : o.guard = none) (x : Operand) (ho : o.op = .load 3 x) (p : Addr) (v : Int) (hx : a.eval x = .pointer (some p)) (hc : w.cell? p = some (.int .i64 v))
 (h : K (a.put o.dst (.int .i64 v)) w) : if Region.wanted o (yielded ops a.tmps) = true then Oper.wp Tryz.prog o a w K Q else E := by
 refine xy hgd ?_
 unfold Oper.wp execOp
 rw [ho]
 simp only [hx]
 go_simp
 exact h
set_option maxRecDepth 100000 in
theorem j8 (hgd : o.guard = none) (x : Operand) (ts : Array TypeId) (ho : o.op = .call { callee := .value (.func 73), args := #[x], argTypes := ts }) (v : Value) (hx : a.eval x = v) (R : Ending → World → Prop)
 (hc : Calls Tryz.prog 73 #[v] w R) (h : ∀ r w', R r w' → ∃ z, r = .returned z ∧ K (a.put o.dst z) w') : if Region.wanted o (yielded ops a.tmps) = true then Oper.wp Tryz.prog o a w K Q else E := by
 refine xy hgd ?_
 unfold Oper.wp
 have H := Lib.hid h
 have HC := Lib.hid hc
 clear h hc
 have hf : a.eval (.func 73) = .func (.func 73) #[] #[] := rfl
 generalize a.eval = ev at *
 unfold execOp
 rw [ho]
 go_simp
 refine Calls.mono HC.out ?_
 intro r w' hr
 have h2 := H.out r w' hr
 obtain ⟨z, hz, hk⟩ := h2
 rw [hz]
 exact hk
set_option maxRecDepth 100000 in
theorem yw (hgd : o.guard = none) (x y : Operand) (ts : Array TypeId) (ho : o.op = .call { callee := .value (.func 27), args := #[x, y], argTypes := ts }) (v u : Value) (hx : a.eval x = v) (hy : a.eval y = u) (R : Ending → World → Prop)
 (hc : Calls Tryz.prog 27 #[v, u] w R) (h : ∀ r w', R r w' → ∃ z, r = .returned z ∧ K (a.put o.dst z) w') : if Region.wanted o (yielded ops a.tmps) = true then Oper.wp Tryz.prog o a w K Q else E := by
 refine xy hgd ?_
 unfold Oper.wp
 have H := Lib.hid h
 have HC := Lib.hid hc
 clear h hc
 have hf : a.eval (.func 27) = .func (.func 27) #[] #[] := rfl
 generalize a.eval = ev at *
 unfold execOp
 rw [ho]
 go_simp
 refine Calls.mono HC.out ?_
 intro r w' hr
 have h2 := H.out r w' hr
 obtain ⟨z, hz, hk⟩ := h2
 rw [hz]
 exact hk
theorem jpq (hgd : o.guard = none) (x : Operand) (ho : o.op = .buildSlice 26 1 #[(0, x)]) (s : ByteArray) (b c d e : Int) (hx : a.eval x = .agg #[.string s, .int .i64 b, .int .i64 c, .int .i64 d, .int .i64 e])
 (h : K (a.put o.dst (.slice (some ⟨w.heap.size, 0, none⟩) 1 1)) (w.alloc (.cells #[.string s, .int .i64 b, .int .i64 c, .int .i64 d, .int .i64 e] 139))) : if Region.wanted o (yielded ops a.tmps) = true then Oper.wp Tryz.prog o a w K Q else E := by
 refine xy hgd ?_
 unfold Oper.wp execOp
 rw [ho]
 simp only [hx, List.map_toArray, List.map_cons, List.map_nil]
 go_simp
 exact h
theorem xt (hgd : o.guard = none) (ho : o.op = .alloc 134)
 (h : K (a.put o.dst (.pointer (some ⟨w.heap.size, 0, none⟩))) (w.alloc (.cells #[.string ⟨#[]⟩, .string ⟨#[]⟩, .int .i64 0, .int .i64 0, .bool false, .int .i64 0] 134))) : if Region.wanted o (yielded ops a.tmps) = true then Oper.wp Tryz.prog o a w K Q else E := by
 refine xy hgd ?_
 unfold Oper.wp execOp
 rw [ho]
 go_simp
 exact h
end
theorem jr5 {o : Oper} {a : Act} {w : World} (x y z u : Operand) (ho : o.op = .build 139 #[(0, x), (1, y), (2, z), (3, u)]) (s : ByteArray) (b c d e : Int) (hx : a.eval x = .string s) (hy : a.eval y = .int .i64 b) (hz : a.eval z = .int .i64 c) (hu : a.eval u = .agg #[.int .i64 d, .int .i64 e]) :
 (execOp a.eval o).run Tryz.prog w = .ok (.value (.agg #[.string s, .int .i64 b, .int .i64 c, .int .i64 d, .int .i64 e])) w := by
 generalize a.eval = ev at *
 unfold execOp
 rw [ho]
 go_simp
theorem jpf {o : Oper} {a : Act} {w : World} (x : Operand) (ho : o.op = .load 9 x) (p : Addr) (s : ByteArray) (hx : a.eval x = .pointer (some p)) (hc : w.cell? p = some (.string s)) :
 (execOp a.eval o).run Tryz.prog w = .ok (.value (.string s)) w := by
 generalize a.eval = ev at *
 unfold execOp
 rw [ho]
 go_simp
theorem jiz {o : Oper} {a : Act} {w : World} (x : Operand) (ho : o.op = .load 134 x) (g : Nat) (s r : ByteArray) (b c : Int) (h : Bool) (d : Int) (hx : a.eval x = .pointer (some ⟨g, 0, none⟩)) (hb : Blk w g 134 #[.string s, .string r, .int .i64 b, .int .i64 c, .bool h, .int .i64 d]) :
 (execOp a.eval o).run Tryz.prog w = .ok (.value (.agg #[.string s, .string r, .int .i64 b, .int .i64 c, .bool h, .int .i64 d])) w := by
 have x0 := hb.cell 0
 have x1 := hb.cell 1
 have x2 := hb.cell 2
 have x3 := hb.cell 3
 have x4 := hb.cell 4
 have x5 := hb.cell 5
 simp only [geA, geZ, geS] at x0 x1 x2 x3 x4 x5
 generalize a.eval = ev at *
 unfold execOp
 rw [ho]
 go_simp
theorem ji9 {P : Program} {ops : Array Oper} {rest : List Oper} {o : Oper} {a : Act} {w w' : World} {Q : Exit → Act → World → Prop} {v : Value} (hg : o.guard = none) (h : (execOp a.eval o).run P w = .ok (.value v) w') (hk : wpList P ops Q rest (a.put o.dst v) w') : wpList P ops Q (o :: rest) a w :=
 wpList_plain hg fun K hK => by
  unfold Oper.wp
  rw [h]
  exact hK _ _ hk
theorem ju0 {P : Program} {ops : Array Oper} {rest : List Oper} {o : Oper} {a : Act} {w w' : World} {Q : Exit → Act → World → Prop} (hg : o.guard = none) (h : (execOp a.eval o).run P w = .ok .skip w') (hk : wpList P ops Q rest (a.put o.dst undef) w') : wpList P ops Q (o :: rest) a w :=
 wpList_plain hg fun K hK => by
  unfold Oper.wp
  rw [h]
  exact hK _ _ hk
theorem jr6 {P : Program} {o : Oper} {a : Act} {w : World} (x : Operand) (ho : o.op = .move x) : (execOp a.eval o).run P w = .ok (.value (a.eval x)) w := by
 unfold execOp
 rw [ho]
 rfl
theorem jmu {P : Program} {o : Oper} {a : Act} {w : World} (x : Operand) (ho : o.op = .assign x) : (execOp a.eval o).run P w = .ok (.value (a.eval x)) w := by
 unfold execOp
 rw [ho]
 rfl
theorem jr7 {o : Oper} {a : Act} {w : World} (x : Operand) (ho : o.op = .buildSlice 27 1 #[(0, x)]) (s r : ByteArray) (b c : Int) (h : Bool) (d : Int) (hx : a.eval x = .agg #[.string s, .string r, .int .i64 b, .int .i64 c, .bool h, .int .i64 d]) :
 (execOp a.eval o).run Tryz.prog w = .ok (.value (.slice (some ⟨w.heap.size, 0, none⟩) 1 1)) (w.alloc (.cells #[.string s, .string r, .int .i64 b, .int .i64 c, .bool h, .int .i64 d] 134)) := by
 generalize a.eval = ev at *
 unfold execOp
 rw [ho]
 go_simp
theorem jmv {w : World} {o : Oper} {a : Act} (x y : Operand) (ho : o.op = .store 134 x y) (g : Nat) (c0 c1 c2 c3 c4 c5 : Value) (s r : ByteArray) (b c : Int) (h : Bool) (d : Int) (hx : a.eval x = .pointer (some ⟨g, 0, none⟩)) (hy : a.eval y = .agg #[.string s, .string r, .int .i64 b, .int .i64 c, .bool h, .int .i64 d]) (hb : Blk w g 134 #[c0, c1, c2, c3, c4, c5]) :
 (execOp a.eval o).run Tryz.prog w = .ok .skip (((((((w.setCell ⟨g, 0, none⟩ (.string s)).setCell ⟨g, 1, none⟩ (.string r)).setCell ⟨g, 2, none⟩ (.int .i64 b)).setCell ⟨g, 3, none⟩ (.int .i64 c)).setCell ⟨g, 4, none⟩ (.bool h)).setCell ⟨g, 5, none⟩ (.int .i64 d))) := by
 have x0 := hb.cell 0
 have x1 := hb.cell 1
 have x2 := hb.cell 2
 have x3 := hb.cell 3
 have x4 := hb.cell 4
 have x5 := hb.cell 5
 have xf := hb.free
 simp only [geA, geZ, geS] at x0 x1 x2 x3 x4 x5
 generalize a.eval = ev at *
 unfold execOp
 rw [ho]
 go_simp
theorem zv {o : Oper} {a : Act} {w : World} (x y z u : Operand) (ho : o.op = .build 134 #[(0, x), (1, y), (2, z), (4, u)]) (s r : ByteArray) (b c d : Int) (hx : a.eval x = .string s) (hy : a.eval y = .string r) (hz : a.eval z = .agg #[.int .i64 b, .int .i64 c]) (hu : a.eval u = .int .i64 d) :
 (execOp a.eval o).run Tryz.prog w = .ok (.value (.agg #[.string s, .string r, .int .i64 b, .int .i64 c, .bool false, .int .i64 d])) w := by
 generalize a.eval = ev at *
 unfold execOp
 rw [ho]
 go_simp
def jwd (w : World) (g : Nat) (s r : ByteArray) (b c : Int) (h : Bool) (d : Int) : World := (((((w.setCell ⟨g, 0, none⟩ (.string s)).setCell ⟨g, 1, none⟩ (.string r)).setCell ⟨g, 2, none⟩ (.int .i64 b)).setCell ⟨g, 3, none⟩ (.int .i64 c)).setCell ⟨g, 4, none⟩ (.bool h)).setCell ⟨g, 5, none⟩ (.int .i64 d)
theorem jlc {w : World} {g : Nat} {t : TypeId} {c0 c1 c2 c3 c4 c5 : Value} (hb : Blk w g t #[c0, c1, c2, c3, c4, c5]) (s r : ByteArray) (b c : Int) (h : Bool) (d : Int) : Blk (jwd w g s r b c h d) g t #[.string s, .string r, .int .i64 b, .int .i64 c, .bool h, .int .i64 d] := by
 have hf := (((((hb.put 0 (.string s)).put 1 (.string r)).put 2 (.int .i64 b)).put 3 (.int .i64 c)).put 4 (.bool h)).put 5 (.int .i64 d)
 simp only [List.setIfInBounds_toArray, List.set_cons_zero, List.set_cons_succ] at hf
 exact hf
theorem jo7 (w : World) (g : Nat) (s r : ByteArray) (b c : Int) (h : Bool) (d : Int) : w.grownBy (jwd w g s r b c h d) (some g) := by
 unfold jwd
 exact jg (p := ⟨g, 5, none⟩) (jg (p := ⟨g, 4, none⟩) (jg (p := ⟨g, 3, none⟩) (jg (p := ⟨g, 2, none⟩) (jg (p := ⟨g, 1, none⟩) (jg (p := ⟨g, 0, none⟩) (jf _ _) (.inl rfl) _) (.inl rfl) _) (.inl rfl) _) (.inl rfl) _) (.inl rfl) _) (.inl rfl) _
set_option maxRecDepth 100000 in
theorem jkq {w : World} {ops : Array Oper} {o : Oper} {a : Act} {K : Act → World → Prop} {Q : Exit → Act → World → Prop} {E : Prop} (hgd : o.guard = none) (x y : Operand) (ho : o.op = .store 134 x y) (g : Nat) (c0 c1 c2 c3 c4 c5 : Value) (s r : ByteArray) (b c : Int) (h : Bool) (d : Int) (hx : a.eval x = .pointer (some ⟨g, 0, none⟩)) (hy : a.eval y = .agg #[.string s, .string r, .int .i64 b, .int .i64 c, .bool h, .int .i64 d]) (hb : Blk w g 134 #[c0, c1, c2, c3, c4, c5])
 (hK : K (a.put o.dst undef) (jwd w g s r b c h d)) : if Region.wanted o (yielded ops a.tmps) = true then Oper.wp Tryz.prog o a w K Q else E := by
 refine xy hgd ?_
 have x0 := hb.cell 0
 have x1 := hb.cell 1
 have x2 := hb.cell 2
 have x3 := hb.cell 3
 have x4 := hb.cell 4
 have x5 := hb.cell 5
 have xf := hb.free
 simp only [geA, geZ, geS] at x0 x1 x2 x3 x4 x5
 have HK := Lib.hid hK
 clear hK
 unfold Oper.wp
 generalize a.eval = ev at *
 unfold execOp
 rw [ho]
 go_simp
 exact HK.out
theorem jdf (p : List Pfx) : ∀ i, (rtW p i).length = p.length
 | 0 => rfl
 | i + 1 => by
   unfold rtW
   split
   ·exact jdf p i
   split
   ·rw [List.length_set]; exact jdf p i
   exact jdf p i
theorem jlh (p : List Pfx) : ∀ i q, i ≤ q → (rtW p i)[q]? = p[q]?
 | 0, _, _ => rfl
 | i + 1, q, h => by
   unfold rtW
   split
   ·exact jlh p i q (by omega)
   split
   ·rw [List.getElem?_set_ne (by omega)]; exact jlh p i q (by omega)
   exact jlh p i q (by omega)
theorem jhf (p : List Pfx) : ∀ i q, yl (rtW p i) q = yl p q
 | 0, _ => rfl
 | i + 1, q => by
   have ih := jhf p i q
   unfold rtW
   split
   ·exact ih
   rename_i x hx
   split
   ·by_cases h : i = q
    ·subst h
     have hlt : i < (rtW p i).length := by rw [jdf]; exact (List.getElem?_eq_some_iff.1 hx).1
     unfold yl
     rw [List.getElem?_set_self hlt, hx]
     rfl
    unfold yl at ih ⊢
    rw [List.getElem?_set_ne h]
    exact ih
   exact ih
theorem juh (p : List Pfx) (i : Nat) (h : i < p.length) (ha : jea p i = true) (hw : p[i].whole = false) : rtW p (i + 1) = (rtW p i).set i (ji8 p[i]) := by
 show (match p[i]? with | none => _ | some x => _) = _
 rw [List.getElem?_eq_getElem h]
 show (if (jea p i && !p[i].whole) = true then _ else _) = _
 rw [ha, hw]
 rfl
theorem jsu (p : List Pfx) (i : Nat) (h : i < p.length) (ha : jea p i = false ∨ p[i].whole = true) : rtW p (i + 1) = rtW p i := by
 show (match p[i]? with | none => _ | some x => _) = _
 rw [List.getElem?_eq_getElem h]
 show (if (jea p i && !p[i].whole) = true then _ else _) = _
 rcases ha with ha | ha <;> rw [ha] <;> simp
theorem jgt {α : Type} (enc : α → List Value) (m : Nat) (hm : ∀ x, (enc x).length = m) : ∀ (l : List α) (k j : Nat) (hk : k < l.length) (hj : j < m) (x' : α) (u : Value), enc x' = (enc l[k]).set j u → (l.flatMap enc).set (k * m + j) u = (l.set k x').flatMap enc
 | x :: r, 0, j, hk, hj, x', u, h => by
   rw [List.flatMap_cons, Nat.zero_mul, Nat.zero_add, List.set_append_left _ _ (by rw [hm]; exact hj), List.set_cons_zero, List.flatMap_cons, h]
   rfl
 | x :: r, k + 1, j, hk, hj, x', u, h => by
   have ih := jgt enc m hm r k j (by simpa using hk) hj x' u (by simpa using h)
   rw [List.flatMap_cons, List.set_append_right _ _ (by rw [hm, Nat.add_mul]; omega), hm, show (k + 1) * m + j - m = k * m + j by rw [Nat.add_mul]; omega, ih, List.set_cons_succ, List.flatMap_cons]
theorem jo5 {base : Nat} {w : World} {g n c : Nat} {l : List Pfx} (h : PfxsFrom base w (.slice (some ⟨g, 0, none⟩) n c) l) (hn : n = l.length) (k : Nat) (hk : k < l.length) :
 PfxsFrom base (w.setCell ⟨g, k * 6 + 4, none⟩ (.bool true)) (.slice (some ⟨g, 0, none⟩) n c) (l.set k (ji8 l[k])) ∧ w.grownBy (w.setCell ⟨g, k * 6 + 4, none⟩ (.bool true)) (some g) := by
 unfold PfxsFrom at h ⊢
 rw [← hn] at h
 have hst := World.ownsRow.stored h (k * 6 + 4) (.bool true)
 rw [jgt ju5 6 (fun _ => rfl) l k 4 hk (by decide) (ji8 l[k]) (.bool true) rfl] at hst
 rw [List.length_set, ← hn]
 exact hst
theorem jkb {base : Nat} {w : World} {g n c : Nat} {l : List Pfx} (h : PfxsFrom base w (.slice (some ⟨g, 0, none⟩) n c) l) (hn : n = l.length) (k : Nat) (hk : k < l.length) : w.cell? ⟨g, k * 6, none⟩ = some (.string (yl l k)) := by
 subst hn
 rw [(h.at_ k hk).1]
 unfold yl
 rw [List.getElem?_eq_getElem hk]
theorem jry {base : Nat} {w : World} {g n c : Nat} {l : List Pfx} (h : PfxsFrom base w (.slice (some ⟨g, 0, none⟩) n c) l) (hn : n = l.length) (j : Nat) : w.frozen? ⟨g, j, none⟩ = false := by
 subst hn
 exact World.ownsRow.frozenAt h j
theorem joi : k1ab.toList = [107, 49, 97, 98] := by rw [Lib.toList_data]; rfl
theorem jk4 {b : ByteArray} (h : b = k1ab) : (b.toList == [107, 49, 97, 98]) = true := by rw [← joi]; exact jhm h
theorem jrn {b : ByteArray} (h : b ≠ k1ab) : (b.toList == [107, 49, 97, 98]) = false := by rw [← joi]; exact jln h
end Go.Proofs.YtbamhgaghngjiaaGreatDoor
