/- The law WaysBeginAndEnd: its plain part and the walk over it. Condition: asciiSpace is Go's own table, MaxLen holds a number. -/
import Derived.Test.YtngdjeggigkmlaaDoorWay
import Derived.Test.YtngdjeggigkmlaaDoorRightSite
import Derived.Test.YtngdjeggigkmlaaDoorReady
import Derived.Test.YtngdjeggigkmlaaDoorStart
namespace Go.Proofs.YtngdjeggigkmlaaDoor
open Go.RowKit
set_option linter.unusedVariables false

theorem siteE_0 {n e : Int} (h0 : -324000 ≤ n) (h1 : n ≤ 324000) (h2 : -648000 ≤ e) (h3 : e ≤ 647999) : siteE n e = 0 := by
  unfold siteE
  rw [outB_no h0 h1, outB_no h2 h3]
  rfl
theorem wayL_len (n e n2 e2 : Int) (p : Nat) : (wayL n e n2 e2 p).length = p + 1 := by unfold wayL; simp
theorem wayL_at (n e n2 e2 : Int) (p k : Nat) (h : k < (wayL n e n2 e2 p).length) : (wayL n e n2 e2 p)[k] = (wayN n n2 p k, wayE e e2 p k) := by unfold wayL; simp
theorem wayL_ok {n e n2 e2 : Int} (h1 : siteE n e = 0) (h2 : siteE n2 e2 = 0) (p k : Nat) (hp : 0 < p) (hk : k < (wayL n e n2 e2 p).length) : siteE (wayL n e n2 e2 p)[k].1 (wayL n e n2 e2 p)[k].2 = 0 := by
  obtain ⟨a0, a1, b0, b1⟩ := siteE_rng h1
  obtain ⟨c0, c1, d0, d1⟩ := siteE_rng h2
  have hl := wayL_len n e n2 e2 p
  rw [wayL_at]
  have h3 := wayN_bd p k hp (by omega) a0 a1 c0 c1
  have h4 := aroundI_bd (e + (aroundI (e2 - e) * (k : Int)).tdiv p)
  exact siteE_0 h3.1 h3.2 h4.1 h4.2

set_option maxRecDepth 100000 in
set_option maxHeartbeats 4000000 in
theorem wayUpLaw (A : Option Addr) (n c : Nat) (w : World) (hin : In w A n) (hgl : Gl w.heap.size w) :
    Calls Tryd.prog 3 #[.slice A n c] w fun r w' => r = .returned (.bool true) ∧ Below w.heap.size w w' := by
  have hs0 := Str.start (c := c) hin
  have HGL := Lib.hid hgl
  clear hin hgl
  go_enter Tryd.func3, Tryd.ntmps3
  go_wp2_with fail
  have hG0 := World.grownBy_alloc w (.cells #[.slice A n c, .int .i64 0] 25) none
  have hlt0 := hs0.lt
  generalize w.alloc (.cells #[.slice A n c, .int .i64 0] 25) = W0 at *
  generalize hb : w.heap.size = b at *
  have HB := Lib.hid hb
  clear hb
  refine (rightSite_in b 0 _ hs0 (by decide)).mono ?_
  rintro _ w1 ⟨n1, e1, rfl, hE1, hs1, hg1⟩
  have hG1 : w.grownBy w1 none := gr_grown hG0 hg1 (fun g e => by injection e with e; exact .inr (by have := HB.out; omega))
  clear hs0 hG0 hg1 hlt0
  have HE1 := Lib.hid hE1
  clear hE1
  go_wp2_with fail
  refine (rightSite_in b _ _ hs1 (by decide)).mono ?_
  rintro _ w2 ⟨n2, e2, rfl, hE2, hs2, hg2⟩
  have hG2 : w.grownBy w2 none := gr_grown hG1 hg2 (fun g e => by injection e with e; exact .inr (by have := HB.out; omega))
  clear hs1 hG1 hg2
  have HE2 := Lib.hid hE2
  clear hE2
  go_wp2_with fail
  refine (range_in b _ 1 9 _ hs2 (by decide) (by decide) (by decide) (by decide)).mono ?_
  rintro _ w3 ⟨p', hp0, hp9, rfl, hs3, hg3⟩
  have hG3 : w.grownBy w3 none := gr_grown hG2 hg3 (fun g e => by injection e with e; exact .inr (by have := HB.out; omega))
  clear hs2 hG2 hg3 hs3
  obtain ⟨p, rfl⟩ : ∃ p : Nat, p' = (p : Int) := ⟨p'.toNat, by omega⟩
  have HWY := Lib.hid (fun W => way_ok n1 e1 n2 e2 (p : Int) W HE1.out HE2.out hp0 (by omega))
  have hl := wayL_len n1 e1 n2 e2 p
  have HAT := Lib.hid (wayL_at n1 e1 n2 e2 p)
  have HOK := Lib.hid (fun k hk => wayL_ok HE1.out HE2.out p k (by omega) hk)
  have r1 := siteE_rng HE1.out
  have r2 := siteE_rng HE2.out
  have w0 := wayN_0 n1 n2 (p : Int)
  have v0 := wayE_0 e2 (p : Int) r1.2.2.1 r1.2.2.2
  have w9 := wayN_end n1 n2 p (by omega)
  have v9 := wayE_end e1 p (by omega) r2.2.2.1 r2.2.2.2
  have HA0 : Hid (∀ h : 0 < (wayL n1 e1 n2 e2 p).length, (wayL n1 e1 n2 e2 p)[0] = (n1, e1)) := fun h => by rw [HAT.out, w0, v0]
  have HA9 : Hid (∀ h : p < (wayL n1 e1 n2 e2 p).length, (wayL n1 e1 n2 e2 p)[p] = (n2, e2)) := fun h => by rw [HAT.out, w9, v9]
  generalize wayL n1 e1 n2 e2 p = L at *
  clear w0 v0 w9 v9 HAT r1 r2
  have HL := Lib.hid hl
  clear hl
  go_wp2_with fail
  obtain ⟨W, hW, hx, hy, hgW⟩ := two_sites w3 n1 e1 n2 e2
  rw [← hW]
  replace hG3 := gr_trans hG3 hgW
  clear hW hgW
  generalize w3.heap.size = X at *
  refine (HWY.out _).mono ?_
  rintro _ w4 ⟨u, rfl, hu, hg⟩
  replace hx := hx.grown hg (by simp)
  replace hy := hy.grown hg (by simp)
  replace hG3 := gr_trans hG3 hg
  clear hg
  obtain ⟨x0, x1⟩ := hx.cells2
  obtain ⟨y0, y1⟩ := hy.cells2
  obtain ⟨A2, c2, rfl, hlen2, hA2⟩ := ownsRow_shape hu
  rw [HL.out] at hA2 hlen2 ⊢
  obtain ⟨g, rfl, _, hgl4⟩ := hA2 (by omega)
  have hcellsAll : ∀ k, (hk : k < L.length) → ∀ W' : World, w4.grownBy W' none → W'.cell? ⟨g, k * 2, none⟩ = some (.int .i64 L[k].1) ∧ W'.cell? ⟨g, k * 2 + 1, none⟩ = some (.int .i64 L[k].2) := fun k hk W' hW => by
    have h := Sites.grown hu hW
    have hc := wcells_at L k hk
    have q1 := World.ownsRow.cellAt h (k * 2) (by omega)
    have q2 := World.ownsRow.cellAt h (k * 2 + 1) (by omega)
    exact ⟨q1.trans hc.1, q2.trans hc.2⟩
  have HC := Lib.hid hcellsAll
  have z0 := (HC.out 0 (by rw [HL.out]; omega) w4 (gr_refl _ _))
  have z9 := (HC.out p (by rw [HL.out]; omega) w4 (gr_refl _ _))
  rw [HA0.out] at z0
  rw [HA9.out] at z9
  obtain ⟨z00, z01⟩ := z0
  obtain ⟨z90, z91⟩ := z9
  have z00' : w4.cell? ⟨g, 0, none⟩ = some (.int .i64 n1) := z00
  have z01' : w4.cell? ⟨g, 1, none⟩ = some (.int .i64 e1) := z01
  have hp1 : (p : Int) < (p : Int) + 1 := by omega
  have hp2 : p < p + 1 := by omega
  have e1' : IntKind.i64.wrap ((p : Int) + 1) = (p : Int) + 1 := i64_in _ ⟨by omega, by omega⟩
  clear hu hA2 hcellsAll z00 z01
  go_wp2_with fail
  go_quiet (fail)
  go_wp2_with fail
  go_loopw [53] (fun i wr => ∃ k : Nat, k ≤ p + 1 ∧ i = .int .i64 k ∧ w4.grownBy wr none) (fun i _ => p + 1 - (intOf i).toNat)
  case atStart => exact ⟨0, by omega, rfl, (by repeat (first | exact gr_refl _ _ | assumption | refine gr_alloc ?_ _ | refine gr_drewN ?_ _ | refine gr_drew ?_))⟩
  case round =>
    obtain ⟨k, hk, rfl, hgr⟩ := hrel
    clear z00' z01' z90 z91 x0 x1 y0 y1
    by_cases hlt : k < p + 1
    · have hkL : k < L.length := by rw [HL.out]; exact hlt
      obtain ⟨c0, c1⟩ := HC.out k hkL wr hgr
      have hok := HOK.out k hkL
      obtain ⟨x, hxx⟩ : ∃ x, L[k].1 = x := ⟨_, rfl⟩
      obtain ⟨y, hyy⟩ : ∃ y, L[k].2 = y := ⟨_, rfl⟩
      rw [hxx] at c0 hok
      rw [hyy] at c1 hok
      have HO := Lib.hid hok
      have hkl : (k : Int) < (p : Int) + 1 := by omega
      clear hxx hyy hok hkL
      go_wp2_with fail
      refine (checkSite_any x y _).mono ?_
      rintro _ w5 ⟨rfl, hg⟩
      rw [HO.out]
      go_wp2_with fail
      go_roundw
      case rel => exact ⟨k + 1, by omega, by go_num, gr_trans (gr_alloc hgr _) hg⟩
      case measure => simp [intOf]; omega
    · have hkl : ¬ (k : Int) < (p : Int) + 1 := by omega
      go_wp2_with fail
      refine (ready_any b _ (HGL.out.quiet (gr_trans hG3 hgr))).mono ?_
      rintro _ w7 ⟨rfl, hg⟩
      go_wp2_with fail
      go_ret
      exact ⟨rfl, gr_below (gr_trans (gr_trans hG3 hgr) hg)⟩
end Go.Proofs.YtngdjeggigkmlaaDoor
