/- The law SignsCoded: Codes, CheckSaid, Code, Plain, Units, Unit and Speed are as specified for all strings and numbers. Condition: an argument that lies in its block, and package-level variables of the library as its text lays them. -/
import Derived.Test.YtcimnlcmpfagnaaDoorSpeed
import Derived.Test.YtcimnlcmpfagnaaDoorRefPlain
import Derived.Test.YtcimnlcmpfagnaaDoorEqualSgn
import Derived.Test.YtcimnlcmpfagnaaDoorKeyedLaw
import Derived.Deep.RegionHeld3
import Derived.Deep.DeepCutAuto
namespace Go.Proofs.YtcimnlcmpfagnaaDoor
open Go.RowKit
set_option linter.unusedVariables false
set_option linter.unusedSimpArgs false

def spN (u : Int) : Int := if spanE u 1 2000 = 0 then lowN 1200 u else 0
def spD (u : Int) : Int := if spanE u 1 2000 = 0 then lowD 1200 u else 0
theorem blk_cells2 {w : World} {g : Nat} {t : TypeId} {a c : Value} (h : Blk w g t #[a, c]) : w.cell? ⟨g, 0, none⟩ = some a ∧ w.cell? ⟨g, 1, none⟩ = some c := ⟨h.cell 0, h.cell 1⟩
theorem blk_ends2 {w : World} {g : Nat} {t : TypeId} {a c : Value} (h : Blk w g t #[a, c]) (x y : Value) : (w.setCell ⟨g, 0, none⟩ x).cell? ⟨g, 0, none⟩ = some x ∧ ((w.setCell ⟨g, 0, none⟩ x).setCell ⟨g, 1, none⟩ y).cell? ⟨g, 0, none⟩ = some x ∧ ((w.setCell ⟨g, 0, none⟩ x).setCell ⟨g, 1, none⟩ y).cell? ⟨g, 1, none⟩ = some y :=
  ⟨(h.put 0 x).cell 0, ((h.put 0 x).put 1 y).cell 0, ((h.put 0 x).put 1 y).cell 1⟩
set_option maxHeartbeats 1000000 in
theorem speed_any (u : Int) (w : World) : Calls Tryd.prog 40 #[.int .i64 u] w fun e w' => e = .returned (.tuple #[.agg #[.int .i64 (spN u), .int .i64 (spD u)], .int .i64 (spanE u 1 2000)]) ∧ w.grownBy w' none := by
  have HO := Lib.hid (fun W => outside_any u 1 2000 W)
  have hB0 := Blk.new w 66 #[.int .i64 0, .int .i64 0]
  have hG0 := World.grownBy_alloc w (.cells #[.int .i64 0, .int .i64 0] 66) none
  rcases spanE_cases u 1 2000 with ⟨hs, h1, h2⟩ | ⟨hs, ho⟩
  · have hn : spN u = lowN 1200 u ∧ spD u = lowD 1200 u := ⟨by unfold spN; rw [if_pos hs], by unfold spD; rw [if_pos hs]⟩
    rw [outB_no h1 h2] at HO
    rw [hn.1, hn.2, hs]
    have HL := Lib.hid (fun W => lowest_any 1200 u W (by decide) (by decide) (by omega) (by omega))
    obtain ⟨X, hX⟩ : ∃ X, lowN 1200 u = X := ⟨_, rfl⟩
    obtain ⟨Y, hY⟩ : ∃ Y, lowD 1200 u = Y := ⟨_, rfl⟩
    rw [hX, hY] at HL ⊢
    clear hn hs hX hY
    go_enter Tryd.func40, Tryd.ntmps40
    go_wp2_with fail
    refine (HO.out _).mono ?_
    rintro _ _ ⟨rfl, rfl⟩
    go_wp2_with fail
    refine (HL.out _).mono ?_
    rintro _ w1 ⟨rfl, hg1⟩
    have hB1 := hB0.grown hg1 (by simp)
    have hG1 := gr_trans hG0 hg1
    obtain ⟨c0, c1⟩ := blk_cells2 hB1
    have hf := hB1.free
    have hlt := hB1.lt
    go_wp2_with fail
    obtain ⟨q0, q1, q2⟩ := blk_ends2 hB1 (.int .i64 X) (.int .i64 Y)
    refine bodyPost_ret (v := .tuple #[.agg #[.int .i64 X, .int .i64 Y], .int .i64 0]) (by simp [results, Tryd.results40, go_sem, q0, q1, q2]) rfl ?_
    exact ⟨rfl, gr_put (gr_put hG1 (.inr (Nat.le_refl _)) _) (.inr (Nat.le_refl _)) _⟩
  · have hn : spN u = 0 ∧ spD u = 0 := ⟨by unfold spN; rw [hs]; rfl, by unfold spD; rw [hs]; rfl⟩
    rw [outB_yes ho] at HO
    rw [hn.1, hn.2, hs]
    obtain ⟨c0, c1⟩ := blk_cells2 hB0
    have hf := hB0.free
    have hlt := hB0.lt
    go_enter Tryd.func40, Tryd.ntmps40
    go_wp2_with fail
    refine (HO.out _).mono ?_
    rintro _ _ ⟨rfl, rfl⟩
    go_wp2_with fail
    obtain ⟨q0, q1, q2⟩ := blk_ends2 hB0 (.int .i64 0) (.int .i64 0)
    refine bodyPost_ret (v := .tuple #[.agg #[.int .i64 0, .int .i64 0], .int .i64 1]) (by simp [results, Tryd.results40, go_sem, c0, c1]) rfl ?_
    exact ⟨rfl, hG0⟩
set_option maxHeartbeats 1000000 in
theorem speedOf_any (u : Int) (w : World) (h : spanE u 1 2000 = 0) : Calls Tryd.prog 41 #[.int .i64 u] w fun e w' => e = .returned (.agg #[.int .i64 (spN u), .int .i64 (spD u)]) ∧ w.grownBy w' none := by
  have hB0 := Blk.new w 66 #[.int .i64 0, .int .i64 0]
  have hG0 := World.grownBy_alloc w (.cells #[.int .i64 0, .int .i64 0] 66) none
  obtain ⟨h1, h2⟩ : 1 ≤ u ∧ u ≤ 2000 := by
    rcases spanE_cases u 1 2000 with ⟨_, h1, h2⟩ | ⟨hs, _⟩
    · exact ⟨h1, h2⟩
    · rw [hs] at h; cases h
  have hn : spN u = lowN 1200 u ∧ spD u = lowD 1200 u := ⟨by unfold spN; rw [if_pos h], by unfold spD; rw [if_pos h]⟩
  rw [hn.1, hn.2]
  have HL := Lib.hid (fun W => lowestR_any 1200 u W (by decide) (by decide) (by omega) (by omega))
  obtain ⟨X, hX⟩ : ∃ X, lowN 1200 u = X := ⟨_, rfl⟩
  obtain ⟨Y, hY⟩ : ∃ Y, lowD 1200 u = Y := ⟨_, rfl⟩
  rw [hX, hY] at HL ⊢
  clear hn h hX hY
  go_enter Tryd.func41, Tryd.ntmps41
  go_wp2_with fail
  refine (HL.out _).mono ?_
  rintro _ w1 ⟨rfl, hg1⟩
  have hB1 := hB0.grown hg1 (by simp)
  have hG1 := gr_trans hG0 hg1
  obtain ⟨c0, c1⟩ := blk_cells2 hB1
  have hf := hB1.free
  have hlt := hB1.lt
  go_wp2_with fail
  obtain ⟨q0, q1, q2⟩ := blk_ends2 hB1 (.int .i64 X) (.int .i64 Y)
  refine bodyPost_ret (v := .agg #[.int .i64 X, .int .i64 Y]) (by simp [results, Tryd.results41, go_sem, q0, q1, q2]) rfl ?_
  exact ⟨rfl, gr_put (gr_put hG1 (.inr (Nat.le_refl _)) _) (.inr (Nat.le_refl _)) _⟩
set_option maxRecDepth 100000 in
set_option maxHeartbeats 8000000 in
theorem codedLaw (A : Option Addr) (n c : Nat) (w : World) (hin : In w A n) (hgl : Gl w.heap.size w) :
    Calls Tryd.prog 5 #[.slice A n c] w fun r w' => r = .returned (.bool true) ∧ Below w.heap.size w w' := by
  have hs0 := Str.start (c := c) hin
  have HGL := Lib.hid hgl
  clear hin hgl
  go_enter Tryd.func5, Tryd.ntmps5
  go_wp2_with fail
  have hG0 := World.grownBy_alloc w (.cells #[.slice A n c, .int .i64 0] 25) none
  generalize w.alloc (.cells #[.slice A n c, .int .i64 0] 25) = W0 at *
  generalize hb : w.heap.size = b at *
  have HB := Lib.hid hb
  clear hb
  refine (saying_in b 0 _ hs0 (by decide)).mono ?_
  rintro _ w1 ⟨t, rfl, ht40, hta, hs1, hg1⟩
  have hG1 : w.grownBy w1 none := gr_grown hG0 hg1 (fun g e => by injection e with e; exact .inr (by have := HB.out; omega))
  have HTA := Lib.hid hta
  clear hs0 hG0 hg1 hta
  go_wp2_with fail
  refine (codeStr_in b b _ _ hs1 (by decide) (HGL.out.quiet hG1) (Nat.le_refl _)).mono ?_
  rintro _ w2 ⟨cs, rfl, hcs, _, hs2, hg2⟩
  have hG2 : w.grownBy w2 none := gr_grown hG1 hg2 (fun g e => by injection e with e; exact .inr (by have := HB.out; omega))
  clear hs1 hG1 hg2
  go_wp2_with fail
  refine (pick_at b _ _ 6 6 [1, 20, 25, 100, 0, 101] _ hs2 (by first | rfl | simp) (by decide) rfl (by decide) (by decide)).mono ?_
  rintro _ w3 ⟨k, hk, rfl, hs3, hg3⟩
  have hG3 : w.grownBy w3 none := gr_grown hG2 hg3 (fun g e => by injection e with e; exact .inr (by have := HB.out; omega))
  have hkb : 0 ≤ k ∧ k ≤ 101 := by simp at hk; omega
  clear hs2 hG2 hg3 hk
  go_wp2_with fail
  refine (pick_at b _ _ 5 5 [1, 60, 2000, 0, 2001] _ hs3 (by first | rfl | simp) (by decide) rfl (by decide) (by decide)).mono ?_
  rintro _ w4 ⟨u, hu, rfl, hs4, hg4⟩
  have hG4 : w.grownBy w4 none := gr_grown hG3 hg4 (fun g e => by injection e with e; exact .inr (by have := HB.out; omega))
  clear hs3 hs4 hG3 hg4 hu
  have HRS := Lib.hid (fun W (h : Gl b W) => refSaid_any b t W h HTA.out (by omega))
  have HCS := Lib.hid (fun W (h : Gl b W) => checkSaid_any b t W h (by omega))
  have HCO := Lib.hid (fun W (h : Gl b W) => code_any b t W h (by omega))
  have HUN := Lib.hid (fun W (h : Gl b W) => units_any b t W h (by omega))
  have HRC := Lib.hid (fun W (h : Gl b W) (h0 : saidE t = 0) => refCoded_any b t W h h0)
  have HRU := Lib.hid (fun W (h : Gl b W) (h0 : saidE t = 0) => refUnits_any b t W h h0)
  have HPL := Lib.hid (fun W (h : Gl b W) => plain_any b cs W h (by omega))
  have HRP := Lib.hid (fun W (h : Gl b W) => refPlain_any b cs W h (by omega))
  unfold PlainPost at HPL HRP
  have HCK : Hid (codeK t = if saidE t = 0 then codedL t.data.toList else []) := rfl
  have HOI : Hid (okI (saidE t) (unitsI t) = if saidE t = 0 then unitsI t else 0) := rfl
  generalize unitsI t = UN at *
  generalize codedL t.data.toList = CL at *
  obtain ⟨CK, hCK⟩ : ∃ x, strB (codeK t) = x := ⟨_, rfl⟩
  obtain ⟨PK, hPK⟩ : ∃ x, strB (plainK cs) = x := ⟨_, rfl⟩
  obtain ⟨OI, hOI⟩ : ∃ x, okI (saidE t) UN = x := ⟨_, rfl⟩
  rw [hCK] at HCO
  rw [hPK] at HPL HRP
  rw [hOI] at HUN HOI
  have HCKE := Lib.hid hCK
  clear hCK hPK hOI
  generalize codeK t = CKL at *
  generalize plainE cs = PE at *
  generalize saidE t = F at *
  go_wp2_with fail
  refine (HRS.out _ (HGL.out.quiet hG4)).mono ?_
  rintro _ w5 ⟨rfl, hg5⟩
  have hG5 := gr_trans hG4 hg5
  clear hG4 hg5
  go_wp2_with fail
  refine (codes_any b _ (HGL.out.quiet hG5)).mono ?_
  rintro _ w6 ⟨v6, rfl, hv6, hg6⟩
  have hG6 := gr_trans hG5 hg6
  go_wp2_with fail
  refine (refCodes_any b _ (HGL.out.quiet hG6)).mono ?_
  rintro _ w7 ⟨v7, rfl, hv7, hg7⟩
  have hG7 := gr_trans hG6 hg7
  have HEQ := Lib.hid (equalSgn_same _ _ v6 v7 codeT w7 (hv6.grown hg7) hv7)
  clear hG5 hg6 hG6 hg7 hv6 hv7
  go_wp2_with fail
  refine HEQ.out.mono ?_
  rintro _ w8 ⟨rfl, hg8⟩
  have hG8 := gr_trans hG7 hg8
  clear hG7 hg8 HEQ
  go_wp2_with fail
  refine (HCS.out _ (HGL.out.quiet hG8)).mono ?_
  rintro _ w9 ⟨rfl, hg9⟩
  have hG9 := gr_trans hG8 hg9
  clear hG8 hg9
  go_wp2_with fail
  refine (HCO.out _ (HGL.out.quiet hG9)).mono ?_
  rintro _ w10 ⟨rfl, hg10⟩
  have hG10 := gr_trans hG9 hg10
  clear hG9 hg10
  go_wp2_with fail
  refine (HUN.out _ (HGL.out.quiet hG10)).mono ?_
  rintro _ w11 ⟨rfl, hg11⟩
  have hG11 := gr_trans hG10 hg11
  clear hG10 hg11 HCS HRS HCO HUN
  go_upto_if 56 with fail
  go_cut [9] (fun s wq => s = .string CK ∧ w11.grownBy wq none)
  case first =>
    as_aux_lemma =>
      by_cases h0 : F = 0
      · subst h0
        have e1 : CK = strB CL := by rw [← HCKE.out, HCK.out, if_pos rfl]
        have e2 : OI = UN := by rw [HOI.out, if_pos rfl]
        subst e2
        have H1 := Lib.hid (HRC.out w11 (HGL.out.quiet hG11) rfl)
        rw [← e1] at H1
        have H2 := Lib.hid (fun W (h : Gl b W) => HRU.out W h rfl)
        have hCC : (CK.toList == CK.toList) = true := by simp
        have hUU : (OI == OI) = true := by simp
        clear e1
        go_wp2_with fail
        refine H1.out.mono ?_
        rintro _ wa ⟨rfl, hga⟩
        go_wp2_with fail
        refine (H2.out _ (HGL.out.quiet (gr_trans hG11 hga))).mono ?_
        rintro _ wb ⟨rfl, hgb⟩
        go_wp2_with fail
        go_meet
        exact ⟨rfl, gr_trans hga hgb⟩
      · have e1 : CK = ⟨#[]⟩ := by rw [← HCKE.out, HCK.out, if_neg h0]; rfl
        have e2 : OI = 0 := by rw [HOI.out, if_neg h0]
        subst e1
        subst e2
        have hb0 : (F != 0) = true := by rw [bne_iff_ne]; exact h0
        have hFF : (F == F) = true := by simp
        go_wp2_with fail
        go_meet
        exact ⟨rfl, gr_refl _ _⟩
  case rest =>
    obtain ⟨rfl, hgq⟩ := hcut
    rename World => w12
    have hG12 := gr_trans hG11 hgq
    clear hG11 hgq HRC HRU HCK HOI HCKE
    go_wp2_with fail
    refine (HPL.out _ (HGL.out.quiet hG12)).mono ?_
    rintro _ w13 ⟨rfl, hg13⟩
    have hG13 := gr_trans hG12 hg13
    clear hG12 hg13
    go_wp2_with fail
    refine (HRP.out _ (HGL.out.quiet hG13)).mono ?_
    rintro _ w14 ⟨rfl, hg14⟩
    have hG14 := gr_trans hG13 hg14
    have hPP : (PK.toList == PK.toList) = true := by simp
    have hEE : (PE == PE) = true := by simp
    clear hG13 hg14 HPL HRP
    have HKU := Lib.hid (fun W => unit_any k W)
    have HUV : Hid (unitV k = if spanE k 1 100 = 0 then 1200 / k else 0) := rfl
    have HKS := Lib.hid (spanE_cases k 1 100)
    have HKF := Lib.hid (fun W => spanFault_any k 1 100 W)
    generalize unitV k = UV at *
    generalize spanE k 1 100 = SK at *
    go_wp2_with fail
    refine (HKU.out _).mono ?_
    rintro _ _ ⟨rfl, rfl⟩
    go_wp2_with fail
    refine (HKF.out _).mono ?_
    rintro _ _ ⟨rfl, rfl⟩
    clear HKU HKF
    go_upto_region 19 with (fail)
    go_cut [136] (fun s wq => s = .bool false ∧ w14 = wq)
    case first =>
      as_aux_lemma =>
        rcases HKS.out with ⟨rfl, h1, h2⟩ | ⟨rfl, h1⟩
        · have hv : UV = 1200 / k := by rw [HUV.out, if_pos rfl]
          obtain ⟨q, hq⟩ : ∃ q, (1200 : Int) / k = q := ⟨_, rfl⟩
          have hq0 : 0 ≤ q := by rw [← hq]; exact Int.ediv_nonneg (by decide) (by omega)
          have hq1 : q ≤ 1200 := by rw [← hq]; exact Int.ediv_le_self _ (by decide)
          have hw : IntKind.i64.wrap (Int.tdiv 1200 k) = q := by
            rw [Int.tdiv_eq_ediv_of_nonneg (by decide), hq]
            exact IntWalk.i64_in _ ⟨by omega, by omega⟩
          have hw2 : IntKind.i64.wrap (1200 / k) = q := by
            rw [hq]
            exact IntWalk.i64_in _ ⟨by omega, by omega⟩
          have hne : (k == 0) = false := by rw [beq_eq_false_iff_ne]; omega
          have hne2 : ¬ k = 0 := by omega
          rw [hq] at hv
          subst hv
          go_wp2_with fail
          go_meet
          exact ⟨rfl, rfl⟩
        · have hv : UV = 0 := by rw [HUV.out]; rfl
          subst hv
          go_wp2_with fail
          go_meet
          exact ⟨rfl, rfl⟩
    case rest =>
      obtain ⟨rfl, rfl⟩ := hcut
      have HSE : Hid (spanE u 1 2000 = 0 ∨ (spanE u 1 2000 = 1 ∧ spN u = 0 ∧ spD u = 0)) := by
        rcases spanE_cases u 1 2000 with ⟨h, _⟩ | ⟨h, _⟩
        · exact .inl h
        · exact .inr ⟨h, by unfold spN; rw [h]; rfl, by unfold spD; rw [h]; rfl⟩
      have HSP := Lib.hid (fun W => speed_any u W)
      have HSO := Lib.hid (fun W h => speedOf_any u W h)
      have HSF := Lib.hid (fun W => spanFault_any u 1 2000 W)
      generalize spN u = X at *
      generalize spD u = Y at *
      generalize spanE u 1 2000 = S at *
      go_wp2_with fail
      refine (HSP.out _).mono ?_
      rintro _ w15 ⟨rfl, hg15⟩
      have hG15 := gr_trans hG14 hg15
      have hB16 := Blk.new w15 66 #[.int .i64 X, .int .i64 Y]
      have hG16 := gr_alloc hG15 (.cells #[.int .i64 X, .int .i64 Y] 66)
      clear hG14 hg15 hG15
      go_wp2_with fail
      generalize w15.alloc (.cells #[.int .i64 X, .int .i64 Y] 66) = w16 at *
      generalize w15.heap.size = g16 at *
      refine (HSF.out _).mono ?_
      rintro _ _ ⟨rfl, rfl⟩
      obtain ⟨c0, c1⟩ := blk_cells2 hB16
      rcases HSE.out with rfl | ⟨rfl, rfl, rfl⟩
      · have HSO2 := Lib.hid (fun W => HSO.out W rfl)
        have KX : Hid (∀ W' : World, w16.grownBy W' none → W'.cell? ⟨g16, 0, none⟩ = some (.int .i64 X) ∧ W'.cell? ⟨g16, 1, none⟩ = some (.int .i64 Y) ∧ w16.grownBy W' none) := fun W' hW =>
          ⟨(hB16.grown hW (by simp)).cell 0, (hB16.grown hW (by simp)).cell 1, hW⟩
        have z0 : w16.drew.cell? ⟨g16, 0, none⟩ = some (.int .i64 X) := c0
        have z1 : w16.drew.cell? ⟨g16, 1, none⟩ = some (.int .i64 Y) := c1
        have hXX : (X == X) = true := by simp
        have hYY : (Y == Y) = true := by simp
        clear HSP HSO HSF HSE
        go_wp2_with fail
        go_region_held3 (fun W' => W'.cell? ⟨g16, 0, none⟩ = some (.int .i64 X) ∧ W'.cell? ⟨g16, 1, none⟩ = some (.int .i64 Y) ∧ w16.grownBy W' none)
          ((exact KX.out _ (by repeat (first | exact gr_refl _ _ | assumption | refine gr_drew ?_ | refine gr_alloc ?_ _ | refine gr_trans ?_ (by assumption)))))
          (first | (go_at_call 41; refine (HSO2.out _).mono ?_; rintro _ wE ⟨rfl, hgE⟩) | (go_at_call 22; refine (keyedC_any b _ (HGL.out.quiet (gr_trans hG16 (by repeat (first | exact gr_refl _ _ | assumption | refine gr_drew ?_ | refine gr_alloc ?_ _ | refine gr_trans ?_ (by assumption)))))).mono ?_; rintro _ wR ⟨rfl, hgR⟩) | fail)
        all_goals
          go_wp2_with fail
          go_ret
          exact ⟨rfl, gr_below (gr_trans hG16 (by repeat (first | exact gr_refl _ _ | assumption | refine gr_drew ?_ | refine gr_alloc ?_ _ | refine gr_trans ?_ (by assumption))))⟩
      · go_wp2_with fail
        refine (keyedC_any b _ (HGL.out.quiet hG16)).mono ?_
        rintro _ w17 ⟨rfl, hg17⟩
        go_wp2_with fail
        go_ret
        exact ⟨rfl, gr_below (gr_trans hG16 hg17)⟩
end Go.Proofs.YtcimnlcmpfagnaaDoor
