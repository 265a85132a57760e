/- Parts of a proof: CstW, TabEnts, CmpInt. Conditions: as each statement says. -/
import Derived.Test.YtbamhgaghngjiaaGreatDoorCoak
namespace Go.Proofs.YtbamhgaghngjiaaGreatDoor
open Go.RowKit
set_option linter.unusedVariables false
set_option linter.unusedSimpArgs false

theorem jb9 {base : Nat} {w : World} {e : TypeId} {m n c : Nat} {A : Option Addr} {xs : List Value} (h : w.ownsRow base e m (.slice A n c) n xs) : n ≤ c ∧ c ≤ 9223372036854775807 := by
 rcases h.2 with ⟨h1, h2⟩ | ⟨g, cap, cur, h1, _, _, h4, h5, _⟩
 ·injection h1 with _ _ h3
  omega
 injection h1 with _ _ h3
 unfold maxLen at h5
 omega
set_option maxRecDepth 100000 in
set_option maxHeartbeats 4000000 in
theorem jfh (base : Nat) (v : Value) (l : List Mul) (w : World) (hl : MulsFrom base w v l) :
 Calls Tryz.prog 164 #[v] w fun r w' => r = .returned (.int .i64 (zj l)) ∧ w.grownBy w' none := by
 obtain ⟨A, c, rfl, hlen, hA⟩ := hl.shape
 obtain ⟨hcap, hcap2⟩ := jb9 hl
 by_cases hbig : 10 < l.length
 ·have HE : Hid (zj l = 2) := by show _ = _; unfold zj; rw [if_pos hbig]
  have hb : (10 : Int) < (l.length : Int) := by omega
  clear hl hA
  go_enter Tryz.func164, Tryz.ntmps164
  go_wp2_with fail
  go_ret
  exact ⟨ji HE.out.symm, jf _ _⟩
 have HE : Hid (zj l = jbb (l.take 0) (l.drop 0)) := by show _ = _; unfold zj; rw [if_neg hbig]; rfl
 have hb : ¬ (10 : Int) < (l.length : Int) := by omega
 have HL := Lib.hid hl
 have HA := Lib.hid hA
 clear hl hA
 go_enter Tryz.func164, Tryz.ntmps164
 go_wp2_with fail
 go_loopw [10] (fun iv wr => ∃ k : Nat, k ≤ l.length ∧ iv = .int .i64 k ∧ Hid (zj l = jbb (l.take k) (l.drop k)) ∧ w.grownBy wr none) (fun iv _ => l.length - (intOf iv).toNat)
 case atStart => exact ⟨0, by omega, rfl, HE, jf _ _⟩
 case round =>
  obtain ⟨k, hk, rfl, HN, hg⟩ := hrel
  by_cases hlt : k < l.length
  ·have hki : (k : Int) < (l.length : Int) := by omega
   have hk0 : (0 : Int) ≤ (k : Int) := by omega
   obtain ⟨g, rfl, hg0, hg1⟩ := HA.out (by omega)
   obtain ⟨q0, q1, q2⟩ := (HL.out.grown hg).at_ k hlt
   have hst := je0 l k hlt
   rw [← HN.out] at hst
   have hm1 : jmf (l.take k) l[k] = if qu l[k].what 1 5 then 4 else if (l.take k).any (jba l[k]) then 6 else 0 := rfl
   have HMA : Hid (∀ W, wr.grownBy W none → MulsAt W g (l.take k)) := fun W hW j hj => by
    have hj' : j < l.length := by rw [List.length_take] at hj; omega
    rw [List.getElem_take]
    exact (HL.out.grown (ja hg hW)).at_ j hj'
   have HC : Hid (∀ W cc, wr.grownBy W none → Calls Tryz.prog 40 #[.slice (some ⟨g, 0, none⟩) k cc, .agg #[.int .i64 l[k].what, .bool l[k].byBand, .bool l[k].byMode]] W fun e w' => e = .returned (.bool ((l.take k).any (jba l[k]))) ∧ W.grownBy w' none) := fun W cc hW => jco g k cc (l.take k) l[k].what l[k].byBand l[k].byMode W (by rw [List.length_take]; omega) (by omega) (HMA.out W hW)
   generalize (l.take k).any (jba l[k]) = MB at *
   generalize l[k].what = x at *
   generalize l[k].byBand = y at *
   generalize l[k].byMode = z at *
   obtain ⟨B1, hB1⟩ : ∃ b, qu x 1 5 = b := ⟨_, rfl⟩
   have hO := fun W => qd x 1 5 W
   rw [hB1] at hm1 hO
   have HO := Lib.hid hO
   rw [hm1] at hst
   have HST := Lib.hid hst
   have hB := Blk.new wr 38 #[.int .i64 x, .bool y, .bool z]
   have hgA := World.grownBy_alloc wr (.cells #[.int .i64 x, .bool y, .bool z] 38) none
   clear hst hm1 hB1 hO HN HMA
   go_upto_region 6 with fail
   generalize wr.alloc (.cells #[.int .i64 x, .bool y, .bool z] 38) = w0 at *
   generalize wr.heap.size = gE at *
   clear q0 q1 q2
   have k0 := hB.cell 0
   have k1 := hB.cell 1
   have k2 := hB.cell 2
   simp only [geA, geZ, geS] at k0 k1 k2
   go_wp2_with fail
   refine (HO.out _).mono ?_
   rintro _ _ ⟨rfl, rfl⟩
   cases B1
   rotate_left
   ·have HR : Hid (zj l = 4) := by show _ = _; have h := HST.out; simpa using h
    go_wp2_with fail
    go_ret
    exact ⟨ji HR.out.symm, ja hg hgA⟩
   have hkc : (k : Int) ≤ (c : Int) := by omega
   go_upto_region 8 with fail
   refine wp_region_held_drew (S := fun V => V.cell? ⟨gE, 0, none⟩ = some (.int .i64 x) ∧ V.cell? ⟨gE, 1, none⟩ = some (.bool y) ∧ V.cell? ⟨gE, 2, none⟩ = some (.bool z)) (by kernel_rfl) ⟨k0, k1, k2⟩ (fun hHeld => ?_)
   refine tkH 0 18 hHeld ?_
   simp only [Act.put, ssA, ssZ, ssS]
   refine tkH 1 19 hHeld ?_
   simp only [Act.put, ssA, ssZ, ssS]
   refine tkH 2 20 hHeld ?_
   simp only [Act.put, ssA, ssZ, ssS]
   refine tkH 3 21 hHeld ?_
   simp only [Act.put, ssA, ssZ, ssS]
   refine wpAnyH_ready (rs := [4]) (by kernel_rfl) (by simp) ?_
   refine AllReadyH.cons (o := _) rfl (fun K hK => ?_) AllReadyH.nil
   go_simp
   (go_at_call 40; refine (HC.out _ _ (ja hgA (jn (jf _ _)))).mono ?_; rintro _ w1 ⟨rfl, hg1⟩; have hg01 : w0.grownBy w1 none := ja (jn (jf w0 none)) hg1)
   refine hK.out _ _ ⟨hg01.cell k0 (by simp), hg01.cell k1 (by simp), hg01.cell k2 (by simp)⟩ (fun hHeld4 => ?_)
   clear hK K
   (try simp only [Act.put, ssA, ssZ, ssS])
   refine wpAnyH_done (by kernel_rfl) ?_ _
   have hgE := ja (ja hg hgA) hg01
   cases MB
   rotate_left
   ·have HR : Hid (zj l = 6) := by show _ = _; have h := HST.out; simpa using h
    go_wp2_with fail
    go_ret
    exact ⟨ji HR.out.symm, hgE⟩
   have HR : Hid (zj l = jbb (l.take (k + 1)) (l.drop (k + 1))) := by show _ = _; have h := HST.out; simpa using h
   go_wp2_with fail
   go_roundw
   case rel => exact ⟨k + 1, by omega, by go_num, HR, hgE⟩
   case measure => simp [intOf]; omega
  obtain rfl : k = l.length := by omega
  have hkl : ¬ (l.length : Int) < (l.length : Int) := by omega
  have HR : Hid (zj l = 0) := by show _ = _; rw [HN.out, jf4]
  go_wp2_with fail
  go_ret
  exact ⟨ji HR.out.symm, hg⟩
set_option maxRecDepth 100000 in
set_option maxHeartbeats 8000000 in
theorem jdy (base : Nat) (ev pv rv mv : Value) (c : Cst) (w : World) (h : CstFrom base w ev pv rv mv c) (hs : CstSm c) :
 Calls Tryz.prog 95 #[.agg #[ev, pv, .string c.own, .int .i64 c.beg, .int .i64 c.fin, rv, mv, .bool c.byMode]] w fun r w' => r = .returned (.int .i64 (jfw c)) ∧ w.grownBy w' none := by
 have H1 : Hid (∀ W, w.grownBy W none → Calls Tryz.prog 52 #[ev, pv] W fun r w' => r = .returned (.int .i64 (jah c.ents c.pfxs)) ∧ W.grownBy w' none) := fun W hW => jff base ev pv c.ents c.pfxs W (h.ents.grown hW) hs.ents (h.pfxs.grown hW) hs.pfxs
 have H2 : Hid (∀ W, Calls Tryz.prog 53 #[.string c.own] W fun r w' => r = .returned (.bool (xl c.own)) ∧ W.grownBy w' none) := fun W => jf0 c.own W (by have := hs.own; omega) hs.asc
 have H3 : Hid (∀ W, Calls Tryz.prog 150 #[.agg #[.int .i64 c.beg, .int .i64 c.fin]] W fun r w' => r = .returned (.bool (xu c.beg c.fin)) ∧ W.grownBy w' none) := fun W => ze c.beg c.fin W hs.fin0 hs.fin1
 have H4 : Hid (∀ W, w.grownBy W none → Calls Tryz.prog 163 #[rv] W fun r w' => r = .returned (.int .i64 (yj c.ruls)) ∧ W.grownBy w' none) := fun W hW => jfo base rv c.ruls W (h.ruls.grown hW) hs.ruls
 have H5 : Hid (∀ W, w.grownBy W none → Calls Tryz.prog 164 #[mv] W fun r w' => r = .returned (.int .i64 (zj c.muls)) ∧ W.grownBy w' none) := fun W hW => jfh base mv c.muls W (h.muls.grown hW)
 have HOR : Hid (jfw c = orL [jah c.ents c.pfxs, if xl c.own = true then 0 else 3, if xu c.beg c.fin then 0 else 1, yj c.ruls, zj c.muls]) := rfl
 generalize jfw c = E at *
 generalize jah c.ents c.pfxs = E1 at *
 generalize xl c.own = B2 at *
 generalize xu c.beg c.fin = B3 at *
 generalize yj c.ruls = E4 at *
 generalize zj c.muls = E5 at *
 generalize c.own = own at *
 generalize c.beg = b at *
 generalize c.fin = z at *
 generalize c.byMode = bm at *
 have hB := Blk.new w 33 #[ev, pv, .string own, .int .i64 b, .int .i64 z, rv, mv, .bool bm]
 have hgA := World.grownBy_alloc w (.cells #[ev, pv, .string own, .int .i64 b, .int .i64 z, rv, mv, .bool bm] 33) none
 clear h hs
 go_enter Tryz.func95, Tryz.ntmps95
 go_upto_region 1 with fail
 generalize w.alloc (.cells #[ev, pv, .string own, .int .i64 b, .int .i64 z, rv, mv, .bool bm] 33) = w0 at *
 generalize w.heap.size = gC at *
 have k0 := hB.cell 0
 have k1 := hB.cell 1
 simp only [geA, geZ, geS] at k0 k1
 go_wp2_with fail
 refine (H1.out _ hgA).mono ?_
 rintro _ w1 ⟨rfl, hg1⟩
 have hB1 := hB.grown hg1 (by simp)
 have hG1 := ja hgA hg1
 clear k0 k1 H1
 by_cases e1 : E1 = 0
 rotate_left
 ·have HR : Hid (E = E1) := by show _ = _; rw [HOR.out]; simp [orL, e1]
  have e1b : (E1 == 0) = false := by rw [beq_eq_false_iff_ne]; exact e1
  have e1n : (E1 != 0) = true := by rw [bne, e1b]; rfl
  go_wp2_with fail
  go_ret
  exact ⟨ji HR.out.symm, hG1⟩
 subst e1
 have k2 := hB1.cell 2
 simp only [geA, geZ, geS] at k2
 go_wp2_with fail
 refine (H2.out _).mono ?_
 rintro _ w2 ⟨rfl, hg2⟩
 have hB2 := hB1.grown hg2 (by simp)
 have hG2 := ja hG1 hg2
 clear k2
 cases B2
 ·have HR : Hid (E = 3) := by show _ = _; rw [HOR.out]; simp [orL]
  go_wp2_with fail
  go_ret
  exact ⟨ji HR.out.symm, hG2⟩
 have k3 := hB2.cell 3
 have k4 := hB2.cell 4
 simp only [geA, geZ, geS] at k3 k4
 go_wp2_with fail
 refine (H3.out _).mono ?_
 rintro _ w3 ⟨rfl, hg3⟩
 have hB3 := hB2.grown hg3 (by simp)
 have hG3 := ja hG2 hg3
 clear k3 k4
 cases B3
 ·have HR : Hid (E = 1) := by show _ = _; rw [HOR.out]; simp [orL]
  go_wp2_with fail
  go_ret
  exact ⟨ji HR.out.symm, hG3⟩
 have k5 := hB3.cell 5
 simp only [geA, geZ, geS] at k5
 go_wp2_with fail
 refine (H4.out _ hG3).mono ?_
 rintro _ w4 ⟨rfl, hg4⟩
 have hB4 := hB3.grown hg4 (by simp)
 have hG4 := ja hG3 hg4
 clear k5
 by_cases e4 : E4 = 0
 rotate_left
 ·have HR : Hid (E = E4) := by show _ = _; rw [HOR.out]; simp [orL, e4]
  have e1b : (E4 == 0) = false := by rw [beq_eq_false_iff_ne]; exact e4
  have e1n : (E4 != 0) = true := by rw [bne, e1b]; rfl
  go_wp2_with fail
  go_ret
  exact ⟨ji HR.out.symm, hG4⟩
 subst e4
 have HR : Hid (E = E5) := by show _ = _; rw [HOR.out]; simp [orL]; exact fun h => h.symm
 have k6 := hB4.cell 6
 simp only [geA, geZ, geS] at k6
 go_wp2_with fail
 refine (H5.out _ hG4).mono ?_
 rintro _ w5 ⟨rfl, hg5⟩
 go_wp2_with fail
 go_ret
 exact ⟨ji HR.out.symm, ja hG4 hg5⟩
def jed (c : Cst) (x : List Con) : Int := if jfw c = 0 then qm x else jfw c
set_option maxRecDepth 100000 in
set_option maxHeartbeats 8000000 in
theorem jgj (base : Nat) (ev pv rv mv : Value) (c : Cst) (xv : Value) (x : List Con) (w : World) (h : CstFrom base w ev pv rv mv c) (hs : CstSm c) (hx : ConsFrom base w xv x) (hxs : ∀ y ∈ x, zy y) :
 Calls Tryz.prog 48 #[.agg #[ev, pv, .string c.own, .int .i64 c.beg, .int .i64 c.fin, rv, mv, .bool c.byMode], xv] w fun r w' => r = .returned (.int .i64 (jed c x)) ∧ w.grownBy w' none := by
 have H1 : Hid (∀ W, w.grownBy W none → Calls Tryz.prog 95 #[.agg #[ev, pv, .string c.own, .int .i64 c.beg, .int .i64 c.fin, rv, mv, .bool c.byMode]] W fun r w' => r = .returned (.int .i64 (jfw c)) ∧ W.grownBy w' none) := fun W hW => jdy base ev pv rv mv c W (h.grown hW) hs
 have H2 : Hid (∀ W, w.grownBy W none → Calls Tryz.prog 63 #[xv] W fun r w' => r = .returned (.int .i64 (qm x)) ∧ W.grownBy w' none) := fun W hW => jab base xv x W (hx.grown hW) hxs
 have HOR : Hid (jed c x = if jfw c = 0 then qm x else jfw c) := rfl
 generalize jed c x = E at *
 generalize jfw c = E1 at *
 generalize qm x = E2 at *
 generalize c.own = own at *
 generalize c.beg = b at *
 generalize c.fin = z at *
 generalize c.byMode = bm at *
 have hB := Blk.new w 33 #[ev, pv, .string own, .int .i64 b, .int .i64 z, rv, mv, .bool bm]
 have hgA := World.grownBy_alloc w (.cells #[ev, pv, .string own, .int .i64 b, .int .i64 z, rv, mv, .bool bm] 33) none
 clear h hs hx hxs
 go_enter Tryz.func48, Tryz.ntmps48
 go_upto_region 1 with fail
 generalize w.alloc (.cells #[ev, pv, .string own, .int .i64 b, .int .i64 z, rv, mv, .bool bm] 33) = w0 at *
 generalize w.heap.size = gC at *
 have k0 := hB.cell 0
 have k1 := hB.cell 1
 have k2 := hB.cell 2
 have k3 := hB.cell 3
 have k4 := hB.cell 4
 have k5 := hB.cell 5
 have k6 := hB.cell 6
 have k7 := hB.cell 7
 simp only [geA, geZ, geS] at k0 k1 k2 k3 k4 k5 k6 k7
 go_wp2_with fail
 refine (H1.out _ hgA).mono ?_
 rintro _ w1 ⟨rfl, hg1⟩
 have hG1 := ja hgA hg1
 clear k0 k1 k2 k3 k4 k5 k6 k7 hB
 by_cases e1 : E1 = 0
 rotate_left
 ·have HR : Hid (E = E1) := by show _ = _; rw [HOR.out, if_neg e1]
  have e1b : (E1 == 0) = false := by rw [beq_eq_false_iff_ne]; exact e1
  have e1n : (E1 != 0) = true := by rw [bne, e1b]; rfl
  go_wp2_with fail
  go_ret
  exact ⟨ji HR.out.symm, hG1⟩
 have HR : Hid (E = E2) := by show _ = _; rw [HOR.out, if_pos e1]
 subst e1
 go_wp2_with fail
 refine (H2.out _ hG1).mono ?_
 rintro _ w5 ⟨rfl, hg5⟩
 go_wp2_with fail
 go_ret
 exact ⟨ji HR.out.symm, ja hG1 hg5⟩
set_option maxRecDepth 100000 in
set_option maxHeartbeats 4000000 in
theorem jc9 (base : Nat) (v : Value) (l : List Ent) (w : World) (hl : EntsFrom base w v l) (hsm : ∀ e ∈ l, jjc e) :
 Calls Tryz.prog 78 #[v] w fun r w' => r = .returned (.int .i64 (xj l)) ∧ w.grownBy w' none := by
 obtain ⟨A, c, rfl, hlen, hA⟩ := hl.shape
 by_cases hbig : 400 < l.length
 ·have HE : Hid (xj l = 2) := by show _ = _; unfold xj; rw [if_pos hbig]
  have hb : (400 : Int) < (l.length : Int) := by omega
  clear hl hA
  go_enter Tryz.func78, Tryz.ntmps78
  go_wp2_with fail
  go_ret
  exact ⟨ji HE.out.symm, jf _ _⟩
 have HE : Hid (xj l = q8 none l) := by show _ = _; unfold xj; rw [if_neg hbig]
 have hb : ¬ (400 : Int) < (l.length : Int) := by omega
 have HL := Lib.hid hl
 have HA := Lib.hid hA
 clear hl hA
 go_enter Tryz.func78, Tryz.ntmps78
 go_wp2_with fail
 go_loopw [10] (fun iv wr => ∃ k : Nat, k ≤ l.length ∧ iv = .int .i64 k ∧ Hid (xj l = q8 (qy l k) (l.drop k)) ∧ w.grownBy wr none) (fun iv _ => l.length - (intOf iv).toNat)
 case atStart => exact ⟨0, by omega, rfl, HE, jf _ _⟩
 case round =>
  obtain ⟨k, hk, rfl, HN, hg⟩ := hrel
  by_cases hlt : k < l.length
  ·have hki : (k : Int) < (l.length : Int) := by omega
   obtain ⟨g, rfl, hg0, hg1⟩ := HA.out (by omega)
   obtain ⟨q0, q1, q2, q3, q4⟩ := (HL.out.grown hg).at_ k hlt
   have hst := jcr l k hlt
   rw [← HN.out] at hst
   obtain ⟨s1, s2, s3⟩ := hsm l[k] (List.getElem_mem hlt)
   have HPV : Hid (∀ j, k = j + 1 → ∃ q : Ent, qy l k = some q ∧ wr.cell? ⟨g, j * 5, none⟩ = some (.string q.key)) := fun j hj => by
    subst hj
    exact ⟨l[j], yq l j (by omega), ((HL.out.grown hg).at_ j (by omega)).1⟩
   have hcs := jao (qy l k) l[k]
   have hgs := hg.size
   generalize l[k].key = K at *
   generalize l[k].cont = C at *
   generalize l[k].zone = Z at *
   generalize l[k].a = ea at *
   generalize l[k].z = ez at *
   obtain ⟨E, hE⟩ : ∃ E, jcq (qy l k) l[k] = E := ⟨_, rfl⟩
   rw [hE] at hst hcs
   obtain ⟨KB, hKB⟩ : ∃ x, jaq K.data.toList = x := ⟨_, rfl⟩
   obtain ⟨CB, hCB⟩ : ∃ x, qu C 1 7 = x := ⟨_, rfl⟩
   obtain ⟨ZB, hZB⟩ : ∃ x, qu Z 1 90 = x := ⟨_, rfl⟩
   obtain ⟨TB, hTB⟩ : ∃ x, xu ea ez = x := ⟨_, rfl⟩
   have hKE := fun W => jaf K W s1
   have hIC := fun W => xx C 1 7 W
   have hIZ := fun W => xx Z 1 90 W
   have hTF := fun W => jaw ea ez W
   have hTE : jaj ea ez = if TB then 0 else 1 := by unfold jaj; rw [hTB]
   rw [hKB] at hcs hKE
   rw [hCB] at hcs hIC
   rw [hZB] at hcs hIZ
   rw [hTB] at hcs
   rw [hTE] at hTF
   have HKE := Lib.hid hKE
   have HIC := Lib.hid hIC
   have HIZ := Lib.hid hIZ
   have HTF := Lib.hid hTF
   have HCS := Lib.hid hcs
   have HST := Lib.hid hst
   have hB := Blk.new wr 139 #[.string K, .int .i64 C, .int .i64 Z, .int .i64 ea, .int .i64 ez]
   have hgA := World.grownBy_alloc wr (.cells #[.string K, .int .i64 C, .int .i64 Z, .int .i64 ea, .int .i64 ez] 139) none
   have hgq := ja hg hgA
   have hglt : g < wr.heap.size := by omega
   clear hE hKB hCB hZB hTB hKE hIC hIZ hTF hTE hcs hst
   go_upto_region 6 with fail
   generalize wr.alloc (.cells #[.string K, .int .i64 C, .int .i64 Z, .int .i64 ea, .int .i64 ez] 139) = w1 at *
   generalize wr.heap.size = gE at *
   have k0 := hB.cell 0
   have k1 := hB.cell 1
   have k2 := hB.cell 2
   simp only [geA, geZ, geS] at k0 k1 k2
   go_wp2_with fail
   refine (HKE.out _).mono ?_
   rintro _ w2 ⟨rfl, hg2⟩
   have hB2 := hB.grown hg2 (by simp)
   clear k0 k1 k2 q0 q1 q2 q3 q4
   have k0 := hB2.cell 0
   have k1 := hB2.cell 1
   have k2 := hB2.cell 2
   have k3 := hB2.cell 3
   have k4 := hB2.cell 4
   simp only [geA, geZ, geS] at k0 k1 k2 k3 k4
   cases KB
   ·have hE : E = 5 := by simpa using HCS.out
    have HR : Hid (xj l = 5) := by show _ = _; rw [HST.out, if_neg (by omega), hE]
    clear hE
    go_wp2_with fail
    go_ret
    exact ⟨ji HR.out.symm, ja hgq hg2⟩
   go_wp2_with fail
   refine (HIC.out _).mono ?_
   rintro _ _ ⟨rfl, rfl⟩
   cases CB
   ·go_wp2_with fail
    refine (HIZ.out _).mono ?_
    rintro _ _ ⟨rfl, rfl⟩
    cases ZB
    ·go_wp2_with fail
     refine (HTF.out _).mono ?_
     rintro _ w3 ⟨rfl, hg3⟩
     have hB3 := hB2.grown hg3 (by simp)
     have hg13 := ja hg2 hg3
     clear k0 k1 k2 k3 k4
     have k0 := hB3.cell 0
     simp only [List.getElem?_toArray, List.getElem?_cons_zero] at k0
     cases TB
     ·have hE : E = 1 := by simpa using HCS.out
      have HR : Hid (xj l = 1) := by show _ = _; rw [HST.out, if_neg (by omega), hE]
      clear hE
      go_wp2_with fail
      go_ret
      exact ⟨ji HR.out.symm, ja hgq hg13⟩
     rcases Nat.eq_zero_or_pos k with hk0 | hk0
     ·have hp : qy l k = none := by rw [hk0]; rfl
      have hE : E = 0 := by
       have := HCS.out
       rw [hp] at this
       simpa using this
      have HR : Hid (xj l = q8 (qy l (k + 1)) (l.drop (k + 1))) := by show _ = _; rw [HST.out, if_pos hE]
      have hkn : decide ((0 : Int) < (k : Int)) = false := by simp; omega
      have hknN : decide (0 < k) = false := by simp; omega
      clear hE hp hk0 HPV
      simp only [if_true]
      go_wp2_with fail
      refine wp_region_held_drew (S := fun _ => True) (by kernel_rfl) trivial (fun hHeld => ?_)
      refine tkH 0 37 hHeld ?_
      simp only [Act.put, ssA, ssZ, ssS]
      refine tkH 1 38 hHeld ?_
      simp only [Act.put, ssA, ssZ, ssS]
      refine tkH 2 39 hHeld ?_
      simp only [Act.put, ssA, ssZ, ssS]
      refine tkU 3 40 hHeld ?_
      simp only [Act.put, ssA, ssZ, ssS]
      refine tkU 4 41 hHeld ?_
      simp only [Act.put, ssA, ssZ, ssS]
      refine tkU 5 42 hHeld ?_
      simp only [Act.put, ssA, ssZ, ssS]
      refine tkU 6 43 hHeld ?_
      simp only [Act.put, ssA, ssZ, ssS]
      refine tkU 7 44 hHeld ?_
      simp only [Act.put, ssA, ssZ, ssS]
      refine tkU 8 45 hHeld ?_
      simp only [Act.put, ssA, ssZ, ssS]
      refine tkU 9 46 hHeld ?_
      simp only [Act.put, ssA, ssZ, ssS]
      refine tkU 10 47 hHeld ?_
      simp only [Act.put, ssA, ssZ, ssS]
      refine tkU 11 48 hHeld ?_
      simp only [Act.put, ssA, ssZ, ssS]
      refine tkH 12 49 hHeld ?_
      simp only [Act.put, ssA, ssZ, ssS]
      refine tkH 13 36 hHeld ?_
      simp only [Act.put, ssA, ssZ, ssS]
      refine wpAnyH_done (by kernel_rfl) ?_ _
      go_wp2_with fail
      go_roundw
      case rel => exact ⟨k + 1, by omega, by go_num, HR, jn (ja hgq hg13)⟩
      case measure => simp [intOf]; omega
     obtain ⟨j, hj⟩ : ∃ j, k = j + 1 := ⟨k - 1, by omega⟩
     obtain ⟨q, hq, cq⟩ := HPV.out j hj
     obtain ⟨QK, hQK⟩ : ∃ x, q.key = x := ⟨_, rfl⟩
     rw [hQK] at cq
     obtain ⟨LB, hLB⟩ : ∃ x, (Op.bytesLess K.toList QK.toList || K.toList == QK.toList) = x := ⟨_, rfl⟩
     have hE : E = if LB then 7 else 0 := by
      have h := HCS.out
      rw [hq] at h
      have h2 : leS K q.key = LB := by rw [hQK]; exact hLB
      simpa [h2] using h
     have cq3 := (ja hgA hg13).cell cq (by simp)
     have e2 : IntKind.i64.wrap ((k : Int) - 1) = (j : Int) := by rw [show (k : Int) - 1 = (j : Int) by omega, IntKind.wrap_i64]; omega
     have e3 : IntKind.i64.wrap (j : Int) = (j : Int) := by rw [IntKind.wrap_i64]; omega
     have hj0 : (0 : Int) ≤ (j : Int) := by omega
     have hj1 : (j : Int) < (l.length : Int) := by omega
     have hj2 : j < l.length := by omega
     have hkn : decide ((0 : Int) < (k : Int)) = true := by simp; omega
     have hknN : decide (0 < k) = true := by simp; omega
     have hkn2 : (0 : Int) < (k : Int) := by omega
     have HJ := Lib.hid hj
     have HEE := Lib.hid hE
     clear hE hq hk0 HPV hj cq hQK
     simp only [if_true]
     go_wp2_with fail
     refine wp_region_held_drew (S := fun W => W.cell? ⟨gE, 0, none⟩ = some (.string K) ∧ W.cell? ⟨g, j * 5, none⟩ = some (.string QK)) (by kernel_rfl) ⟨k0, cq3⟩ (fun hHeld => ?_)
     refine tkH 0 37 hHeld ?_
     simp only [Act.put, ssA, ssZ, ssS]
     refine tkH 1 38 hHeld ?_
     simp only [Act.put, ssA, ssZ, ssS]
     refine tkH 2 39 hHeld ?_
     simp only [Act.put, ssA, ssZ, ssS]
     refine tkH 3 40 hHeld ?_
     simp only [Act.put, ssA, ssZ, ssS]
     refine tkH 4 41 hHeld ?_
     simp only [Act.put, ssA, ssZ, ssS]
     refine tkH 5 42 hHeld ?_
     simp only [Act.put, ssA, ssZ, ssS]
     refine tkH 6 43 hHeld ?_
     simp only [Act.put, ssA, ssZ, ssS]
     refine tkH 7 44 hHeld ?_
     simp only [Act.put, ssA, ssZ, ssS]
     refine tkH 8 45 hHeld ?_
     simp only [Act.put, ssA, ssZ, ssS]
     refine tkH 9 46 hHeld ?_
     simp only [Act.put, ssA, ssZ, ssS]
     refine tkH 10 47 hHeld ?_
     simp only [Act.put, ssA, ssZ, ssS]
     refine tkH 11 48 hHeld ?_
     simp only [Act.put, ssA, ssZ, ssS]
     refine tkH 12 49 hHeld ?_
     simp only [Act.put, ssA, ssZ, ssS]
     refine tkH 13 36 hHeld ?_
     simp only [Act.put, ssA, ssZ, ssS]
     refine wpAnyH_done (by kernel_rfl) ?_ _
     cases LB
     ·have HR : Hid (xj l = q8 (qy l (k + 1)) (l.drop (k + 1))) := by show _ = _; rw [HST.out, if_pos (by simpa using HEE.out)]
      go_wp2_with fail
      go_roundw
      case rel => exact ⟨k + 1, by omega, by go_num, HR, jn (ja hgq hg13)⟩
      case measure => simp [intOf]; omega
     have hE : E = 7 := by simpa using HEE.out
     have HR : Hid (xj l = 7) := by show _ = _; rw [HST.out, if_neg (by omega), hE]
     clear hE
     go_wp2_with fail
     go_ret
     exact ⟨ji HR.out.symm, jn (ja hgq hg13)⟩
    have hE : E = 1 := by simpa using HCS.out
    have HR : Hid (xj l = 1) := by show _ = _; rw [HST.out, if_neg (by omega), hE]
    clear hE
    go_wp2_with fail
    go_ret
    exact ⟨ji HR.out.symm, ja hgq hg2⟩
   have hE : E = 4 := by simpa using HCS.out
   have HR : Hid (xj l = 4) := by show _ = _; rw [HST.out, if_neg (by omega), hE]
   clear hE
   go_wp2_with fail
   go_ret
   exact ⟨ji HR.out.symm, ja hgq hg2⟩
  obtain rfl : k = l.length := by omega
  have hkl : ¬ (l.length : Int) < (l.length : Int) := by omega
  have HR : Hid (xj l = 0) := by show _ = _; rw [HN.out, jdm]
  go_wp2_with fail
  go_ret
  exact ⟨ji HR.out.symm, hg⟩
def jm4 (a b : Int) : Int := if a < b then -1 else if b < a then 1 else 0
theorem jad (x : Int) (w : World) : Calls Tryz.prog 184 #[.int .i64 x] w fun r w' => r = .returned (.bool false) ∧ w = w' := by
 go_enter Tryz.func184, Tryz.ntmps184
 go_wp2_with fail
 go_ret
 exact ⟨by simp, rfl⟩
theorem jej (x y : Int) (w : World) : Calls Tryz.prog 133 #[.int .i64 x, .int .i64 y] w fun r w' => r = .returned (.int .i64 (jm4 x y)) ∧ w = w' := by
 unfold jm4
 by_cases h1 : x < y
 ·rw [if_pos h1]
  go_enter Tryz.func133, Tryz.ntmps133
  go_wp2_with fail
  refine (jad _ _).mono ?_
  rintro _ _ ⟨rfl, rfl⟩
  go_wp2_with fail
  refine (jad _ _).mono ?_
  rintro _ _ ⟨rfl, rfl⟩
  go_wp2_with fail
  go_ret
  exact ⟨rfl, rfl⟩
 rw [if_neg h1]
 by_cases h2 : y < x
 ·rw [if_pos h2]
  go_enter Tryz.func133, Tryz.ntmps133
  go_wp2_with fail
  refine (jad _ _).mono ?_
  rintro _ _ ⟨rfl, rfl⟩
  go_wp2_with fail
  refine (jad _ _).mono ?_
  rintro _ _ ⟨rfl, rfl⟩
  go_wp2_with fail
  go_ret
  exact ⟨rfl, rfl⟩
 rw [if_neg h2]
 go_enter Tryz.func133, Tryz.ntmps133
 go_wp2_with fail
 refine (jad _ _).mono ?_
 rintro _ _ ⟨rfl, rfl⟩
 go_wp2_with fail
 refine (jad _ _).mono ?_
 rintro _ _ ⟨rfl, rfl⟩
 go_wp2_with fail
 go_ret
 exact ⟨rfl, rfl⟩
set_option maxHeartbeats 400000 in
theorem jt5 (xs : List Int) (g m c : Nat) (w : World) (hg : Blk w g 3 (xs.map (Value.int .i64)).toArray) (hm : m = xs.length) (h1 : m ≤ 1000) :
 Calls Tryz.prog 131 #[.slice (some ⟨g, 0, none⟩) m c] w fun r w' => r = .returned (.int .i64 (orL xs)) ∧ w = w' := by
 have HM := Lib.hid hm
 clear hm
 go_enter Tryz.func131, Tryz.ntmps131
 go_wp2_with fail
 go_loop [8] (fun i => ∃ k : Nat, k ≤ m ∧ i = .int .i64 k ∧ Hid (orL xs = orL (xs.drop k))) (fun i => m - (intOf i).toNat)
 case atStart => exact ⟨0, by omega, rfl, rfl⟩
 case round =>
  obtain ⟨k, hk, rfl, HR⟩ := hrel
  by_cases hlt : k < m
  ·have hi : k < xs.length := by have := HM.out; omega
   have hc := hg.cell k
   rw [joe hi] at hc
   obtain ⟨z, hz⟩ : ∃ z, z = xs[k] := ⟨_, rfl⟩
   rw [← hz] at hc
   have HZ : Hid (orL (xs.drop k) = if z = 0 then orL (xs.drop (k + 1)) else z) := by
    show orL (xs.drop k) = _
    rw [List.drop_eq_getElem_cons hi, ← hz]
    rfl
   clear hz
   by_cases h0 : z = 0
   ·have hne : (z != 0) = false := by simp [h0]
    have HZ2 : Hid (orL xs = orL (xs.drop (k + 1))) := by
     show orL xs = _
     rw [HR.out, HZ.out, if_pos h0]
    have H0 := Lib.hid h0
    clear h0
    go_wp2_with fail
    go_round
    case rel => exact ⟨k + 1, by omega, by go_num, HZ2⟩
    case measure => simp [intOf]; omega
   have hne : (z != 0) = true := by simpa using h0
   have HZ2 : Hid (orL xs = z) := by
    show orL xs = _
    rw [HR.out, HZ.out, if_neg h0]
   clear h0
   go_wp2_with fail
   go_ret
   exact ⟨ji HZ2.out.symm, rfl⟩
  have HZ2 : Hid (orL xs = 0) := by
   show orL xs = _
   rw [HR.out, List.drop_of_length_le (by have := HM.out; omega)]
   rfl
  go_wp2_with fail
  go_ret
  exact ⟨ji HZ2.out.symm, rfl⟩
end Go.Proofs.YtbamhgaghngjiaaGreatDoor
