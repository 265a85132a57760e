/- The law DistancesAreEqual: the walk over it. Condition: asciiSpace is Go's own table, MaxLen holds a number. -/
import Derived.Test.YtngdjeggigkmlaaDoorWind
import Derived.Test.YtngdjeggigkmlaaDoorRightSite
import Derived.Test.YtngdjeggigkmlaaDoorReady
import Derived.Test.YtngdjeggigkmlaaDoorStart
namespace Go.Proofs.YtngdjeggigkmlaaDoor
open Go.RowKit
set_option linter.unusedVariables false

/-- There and back. -/
theorem wind_back {n e n2 e2 : Int} (h : ¬ (max (e - e2) (e2 - e) = 648000)) (he : siteE n e = 0) (he2 : siteE n2 e2 = 0) (hz : windErr (northI n n2) (eastI n e n2 e2) = 0) :
    windV (northI n2 n) (eastI n2 e2 n e) = (windV (northI n n2) (eastI n e n2 e2) + 4) % 8 := by
  obtain ⟨_, _, b0, b1⟩ := siteE_rng he
  obtain ⟨_, _, d0, d1⟩ := siteE_rng he2
  have ha : aroundI (e2 - e) ≠ -648000 := by unfold aroundI; omega
  have hnz : ¬ (northI n n2 = 0 ∧ eastI n e n2 e2 = 0) := fun hh => by unfold windErr at hz; rw [if_pos hh] at hz; omega
  rw [northI_back, eastI_back n e n2 e2 ha]
  unfold windV
  rw [if_neg (by omega), if_neg hnz]
  exact windI_back _ _ hnz
theorem windErr_back {n e n2 e2 : Int} : windErr (northI n2 n) (eastI n2 e2 n e) = windErr (northI n n2) (eastI n e n2 e2) := by
  unfold windErr
  rw [northI_back]
  by_cases h : aroundI (e2 - e) = -648000
  · rw [eastI_half n e n2 e2 h]
    by_cases hh : northI n n2 = 0 ∧ eastI n e n2 e2 = 0
    · rw [if_pos hh, if_pos (by omega)]
    · rw [if_neg hh, if_neg (by omega)]
  · rw [eastI_back n e n2 e2 h]
    by_cases hh : northI n n2 = 0 ∧ eastI n e n2 e2 = 0
    · rw [if_pos hh, if_pos (by omega)]
    · rw [if_neg hh, if_neg (by omega)]
theorem windErr_cases (a b : Int) : windErr a b = 0 ∨ windErr a b = 8 := by unfold windErr; split <;> simp
theorem windI_bd (a b : Int) : 0 ≤ windI a b ∧ windI a b ≤ 7 := by unfold windI; (repeat' split) <;> omega
theorem windV_bd (a b : Int) : 0 ≤ windV a b ∧ windV a b ≤ 7 := by
  unfold windV
  split
  · omega
  · exact windI_bd a b

set_option maxRecDepth 100000 in
set_option maxHeartbeats 4000000 in
theorem distUpLaw (A : Option Addr) (n c : Nat) (w : World) (hin : In w A n) (hgl : Gl w.heap.size w) :
    Calls Tryd.prog 4 #[.slice A n c] w fun r w' => r = .returned (.bool true) ∧ Below w.heap.size w w' := by
  have hs0 := Str.start (c := c) hin
  have HGL := Lib.hid hgl
  clear hin hgl
  go_enter Tryd.func4, Tryd.ntmps4
  go_wp2_with fail
  have hG0 := World.grownBy_alloc w (.cells #[.slice A n c, .int .i64 0] 25) none
  have hlt0 := hs0.lt
  generalize w.alloc (.cells #[.slice A n c, .int .i64 0] 25) = W0 at *
  generalize hb : w.heap.size = b at *
  have HB := Lib.hid hb
  clear hb
  refine (rightSite_in b 0 _ hs0 (by decide)).mono ?_
  rintro _ w1 ⟨n1, e1, rfl, hE1, hs1, hg1⟩
  have hG1 : w.grownBy w1 none := gr_grown hG0 hg1 (fun g e => by injection e with e; exact .inr (by have := HB.out; omega))
  clear hs0 hG0 hg1 hlt0
  have HE1 := Lib.hid hE1
  clear hE1
  go_wp2_with fail
  refine (rightSite_in b _ _ hs1 (by decide)).mono ?_
  rintro _ w2 ⟨n2, e2, rfl, hE2, hs2, hg2⟩
  have hG2 : w.grownBy w2 none := gr_grown hG1 hg2 (fun g e => by injection e with e; exact .inr (by have := HB.out; omega))
  clear hs1 hG1 hg2
  have HE2 := Lib.hid hE2
  clear hE2
  have hd0 := distI_back n1 e1 n2 e2
  have HD1 := Lib.hid (fun W => distance_ok n1 e1 n2 e2 W HE1.out HE2.out)
  have HD2 := Lib.hid (fun W => distance_ok n2 e2 n1 e1 W HE2.out HE1.out)
  rw [hd0] at HD2
  generalize distI n1 e1 n2 e2 = d at *
  have HW1 := Lib.hid (fun W => wind_ok n1 e1 n2 e2 W HE1.out HE2.out)
  have HW2 := Lib.hid (fun W => wind_ok n2 e2 n1 e1 W HE2.out HE1.out)
  rw [windErr_back (n := n1) (e := e1) (n2 := n2) (e2 := e2)] at HW2
  have hwb := wind_back (n := n1) (e := e1) (n2 := n2) (e2 := e2)
  have HWB : Hid (¬ (max (e1 - e2) (e2 - e1) = 648000) → windErr (northI n1 n2) (eastI n1 e1 n2 e2) = 0 → windV (northI n2 n1) (eastI n2 e2 n1 e1) = (windV (northI n1 n2) (eastI n1 e1 n2 e2) + 4) % 8) := fun h h2 => hwb h HE1.out HE2.out h2
  have hec := windErr_cases (northI n1 n2) (eastI n1 e1 n2 e2)
  have hv1 := windV_bd (northI n1 n2) (eastI n1 e1 n2 e2)
  have hv2 := windV_bd (northI n2 n1) (eastI n2 e2 n1 e1)
  generalize windErr (northI n1 n2) (eastI n1 e1 n2 e2) = E at *
  generalize windV (northI n1 n2) (eastI n1 e1 n2 e2) = V1 at *
  generalize windV (northI n2 n1) (eastI n2 e2 n1 e1) = V2 at *
  obtain ⟨_, _, b0, b1⟩ := siteE_rng HE1.out
  obtain ⟨_, _, d0, d1⟩ := siteE_rng HE2.out
  obtain ⟨v10, v11⟩ := hv1
  obtain ⟨v20, v21⟩ := hv2
  clear hwb hd0
  go_wp2_with fail
  obtain ⟨W, hW, hx, hy, hgW⟩ := two_sites w2 n1 e1 n2 e2
  rw [← hW]
  replace hG2 := gr_trans hG2 hgW
  clear hW hgW hs2
  generalize w2.heap.size = X at *
  refine (HD1.out _).mono ?_
  rintro _ w3 ⟨rfl, hg⟩
  replace hx := hx.grown hg (by simp)
  replace hy := hy.grown hg (by simp)
  replace hG2 := gr_trans hG2 hg
  clear hg
  obtain ⟨x0, x1⟩ := hx.cells2
  obtain ⟨y0, y1⟩ := hy.cells2
  go_wp2_with fail
  refine (HD2.out _).mono ?_
  rintro _ w4 ⟨rfl, hg⟩
  replace hx := hx.grown hg (by simp)
  replace hy := hy.grown hg (by simp)
  replace hG2 := gr_trans hG2 hg
  clear hg x0 x1 y0 y1
  obtain ⟨x0, x1⟩ := hx.cells2
  obtain ⟨y0, y1⟩ := hy.cells2
  go_wp2_with fail
  refine (HW1.out _).mono ?_
  rintro _ w5 ⟨rfl, hg⟩
  replace hx := hx.grown hg (by simp)
  replace hy := hy.grown hg (by simp)
  replace hG2 := gr_trans hG2 hg
  clear hg x0 x1 y0 y1
  obtain ⟨x0, x1⟩ := hx.cells2
  obtain ⟨y0, y1⟩ := hy.cells2
  go_wp2_with fail
  refine (HW2.out _).mono ?_
  rintro _ w6 ⟨rfl, hg⟩
  replace hx := hx.grown hg (by simp)
  replace hy := hy.grown hg (by simp)
  replace hG2 := gr_trans hG2 hg
  clear hg x0 x1 y0 y1
  obtain ⟨x0, x1⟩ := hx.cells2
  obtain ⟨y0, y1⟩ := hy.cells2
  rcases hec with rfl | rfl
  · by_cases hm : max (e1 - e2) (e2 - e1) = 648000
    · have hm2 : (max (e1 - e2) (e2 - e1) == 648000) = true := by simpa using hm
      clear hm
      go_wp2_with fail
      refine (ready_any b _ (HGL.out.quiet hG2)).mono ?_
      rintro _ w7 ⟨rfl, hg⟩
      go_wp2_with fail
      go_ret
      exact ⟨rfl, gr_below (gr_trans hG2 hg)⟩
    · have hm2 : (max (e1 - e2) (e2 - e1) == 648000) = false := by simpa using hm
      have hV := HWB.out hm rfl
      have hV2 : (V2 == (V1 + 4) % 8) = true := by simpa using hV
      clear hm hV
      go_wp2_with fail
      refine (ready_any b _ (HGL.out.quiet hG2)).mono ?_
      rintro _ w7 ⟨rfl, hg⟩
      go_wp2_with fail
      go_ret
      exact ⟨rfl, gr_below (gr_trans hG2 hg)⟩
  · go_wp2_with fail
    refine (ready_any b _ (HGL.out.quiet hG2)).mono ?_
    rintro _ w7 ⟨rfl, hg⟩
    go_wp2_with fail
    go_ret
    exact ⟨rfl, gr_below (gr_trans hG2 hg)⟩
end Go.Proofs.YtngdjeggigkmlaaDoor
