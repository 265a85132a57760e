/- The walk over the law PlacesStay: it answers true whatever numbers come in. Condition: asciiSpace is Go's own table, MaxLen holds a number. -/
import Derived.Test.YtnapbnkbchaanaaGreatDoorStayBase
import Derived.Test.YtnapbnkbchaanaaGreatDoorLocX
import Derived.Test.YtnapbnkbchaanaaGreatDoorSquares
import Derived.Test.YtnapbnkbchaanaaGreatDoorFarthest
import Derived.Test.YtnapbnkbchaanaaGreatDoorWay
import Derived.Test.YtnapbnkbchaanaaGreatDoorReady
import Derived.Deep.RegionHeld3
import Derived.Deep.DeepCutAuto
namespace Go.Proofs.YtnapbnkbchaanaaGreatDoor
open Go.RowKit
set_option linter.unusedVariables false
set_option linter.unusedSimpArgs false

theorem way3 (n e : Int) (w : World) (hE : siteE n e = 0) :
    Calls Tryz.prog 42 #[.agg #[.int .i64 n, .int .i64 e], .agg #[.int .i64 n, .int .i64 e], .int .i64 3] w fun r w' =>
      ∃ g c xs, r = .returned (.tuple #[.slice (some ⟨g, 0, none⟩) 4 c, .int .i64 0]) ∧ w'.ownsRow w.heap.size 62 2 (.slice (some ⟨g, 0, none⟩) 4 c) 4 xs ∧ xs[0]? = some (.int .i64 n) ∧ xs[1]? = some (.int .i64 e) ∧ w.heap.size ≤ g ∧ w.grownBy w' none := by
  obtain ⟨a0, a1, b0, b1⟩ := siteE_rng hE
  refine (way_ok n e n e 3 w hE hE (by decide) (by decide)).mono ?_
  rintro r w' ⟨u, rfl, hu, hg⟩
  have hl : (wayL n e n e 3).length = 4 := by unfold wayL; simp
  unfold Sites at hu
  rw [hl] at hu
  obtain ⟨A, c, rfl, _, hA⟩ := ownsRow_shape hu
  obtain ⟨g, rfl, hg0, hg1⟩ := hA (by omega)
  have hc := wcells_at (wayL n e n e 3) 0 (by omega)
  have h0 : (wayL n e n e 3)[0]'(by omega) = (n, e) := by
    unfold wayL
    simp only [List.getElem_map, List.getElem_range]
    rw [wayN_0, wayE_0 _ _ b0 b1]
  rw [h0] at hc
  exact ⟨g, c, _, rfl, ownsRow_low hu (by omega), hc.1, hc.2, by omega, hg⟩

theorem far_jn (l : List ByteArray) : (l.length = 0 ∧ (farV ⟨#[106, 110, 53, 56]⟩ l).2.2 = 8) ∨ (0 < l.length ∧ locsE l = 0 ∧ (farV ⟨#[106, 110, 53, 56]⟩ l).2.2 = 0) ∨ (0 < l.length ∧ locsE l = 3 ∧ (farV ⟨#[106, 110, 53, 56]⟩ l).2.2 = 3) := by
  have hs : locB ⟨#[106, 110, 53, 56]⟩ = true := by decide
  unfold farV locsE
  rw [hs, if_pos rfl]
  rcases Nat.eq_zero_or_pos l.length with h0 | h0
  · exact .inl ⟨h0, by rw [if_pos h0]⟩
  · rw [if_neg (by omega)]
    cases ha : l.all fun t => locB t with
    | true => exact .inr (.inl ⟨h0, rfl, rfl⟩)
    | false => exact .inr (.inr ⟨h0, rfl, rfl⟩)

set_option maxRecDepth 100000 in
set_option maxHeartbeats 8000000 in
theorem placesStay (A : Option Addr) (n c : Nat) (w : World) (hin : InX w A n) (hgl : Gl w.heap.size w) :
    Calls Tryz.prog 6 #[.slice A n c] w fun r w' => r = .returned (.bool true) ∧ Below w.heap.size w w' := by
  obtain ⟨hn, L, hL, hcell⟩ := hin
  obtain ⟨W, hW, hb1, hb2, hsz, hG⟩ := two_streams w A n c
  have sA := SX.start hn hL hcell hG hb1 (Nat.le_refl _)
  have sB := SX.start hn hL hcell hG hb2 (Nat.le_succ _)
  have HGL := Lib.hid hgl
  have HW := Lib.hid hW
  have HWT := Lib.hid hG
  clear hn hL hcell hb1 hb2 hgl hW hG
  go_enter Tryz.func6, Tryz.ntmps6
  go_wp2_with fail
  rw [← HW.out]
  have hG : w.grownBy W none := HWT.out
  generalize hb : w.heap.size = b at *
  have HB := Lib.hid hb
  clear hb
  refine (locatorList_e b b L 0 6 _ sA (by decide) (by decide) (by decide)).mono ?_
  rintro _ w1 ⟨v, l, k1, HR, rfl, hv, hlen, hall, hk0, hk1, sA1, hg1⟩
  have sB1 := sB.grown hg1 (fun g e => by injection e with e; omega)
  have hG1 : w.grownBy w1 none := gr_grown hG hg1 (fun g e => by injection e with e; exact .inr (by have := HB.out; omega))
  have HV := Lib.hid (hv.low (base' := b + 2) (by omega))
  have HALL := Lib.hid hall
  have hs1 := hg1.size
  clear sA sB hG hg1 hv hall
  go_wp2_with fail
  refine (locatorList_e b (b + 1) L 0 6 _ sB1 (by decide) (by decide) (by decide)).mono ?_
  rintro _ w2 ⟨v2, l2, k2, HR2, rfl, hv2, _, _, _, _, sB2, hg2⟩
  obtain ⟨rfl, rfl⟩ : l = l2 ∧ k1 = k2 := by
    have h := HR.out.symm.trans HR2.out
    simpa using h
  have sA2 := sA1.grown hg2 (fun g e => by injection e with e; omega)
  have hG2 : w.grownBy w2 none := gr_grown hG1 hg2 (fun g e => by injection e with e; exact .inr (by have := HB.out; omega))
  have HV2 := Lib.hid (HV.out.other hg2 (by omega))
  have HU2 := Lib.hid (hv2.low (base' := b + 2) (by omega))
  have hs2 := hg2.size
  clear sA1 sB1 sB2 hG1 hg2 hv2 HV HR HR2
  go_wp2_with fail
  refine (rightSite_e b b L k1 _ sA2 (by omega)).mono ?_
  rintro _ w3 ⟨pn, pe, k3, _, rfl, hE, _, _, sA3, hg3⟩
  have hG3 : w.grownBy w3 none := gr_grown hG2 hg3 (fun g e => by injection e with e; exact .inr (by have := HB.out; omega))
  have hx3 := Blk.new w3 62 #[.int .i64 pn, .int .i64 pe]
  have hG4 := gr_alloc hG3 (.cells #[.int .i64 pn, .int .i64 pe] 62)
  have HV4 : Hid (StrsFrom (b + 2) (w3.alloc (.cells #[.int .i64 pn, .int .i64 pe] 62)) v l) := (HV2.out.other hg3 (by omega)).grown (World.grownBy_alloc w3 _ none)
  have HU4 : Hid (StrsFrom (b + 2) (w3.alloc (.cells #[.int .i64 pn, .int .i64 pe] 62)) v2 l) := (HU2.out.other hg3 (by omega)).grown (World.grownBy_alloc w3 _ none)
  have HE := Lib.hid hE
  clear sA2 sA3 hG2 hg3 HV2 HU2 hG3 hE
  go_wp2_with fail
  generalize w3.alloc (.cells #[.int .i64 pn, .int .i64 pe] 62) = W3 at *
  generalize w3.heap.size = X at *
  refine (squares_few (b + 2) _ l _ HV4.out (by omega) HALL.out).mono ?_
  intro r w4 hsq
  have hsq2 : ∃ (u : Value) (E : Int) (M : Nat) (xs : List Value), r = .returned (.tuple #[u, .int .i64 E]) ∧ w4.ownsRow W3.heap.size 9 1 u M xs ∧ W3.grownBy w4 none := by
    rcases hsq with ⟨u, ss, _, he, _, _, hrow, hg⟩ | ⟨_, he, hg⟩
    · exact ⟨u, 0, _, _, he, hrow, hg⟩
    · exact ⟨_, 3, 0, [], he, World.ownsRow_nil _ _ _ _, hg⟩
  clear hsq
  obtain ⟨u, E, M, xs, rfl, hM, hgm⟩ := hsq2
  obtain ⟨uA, uc, rfl, hMl, hMs⟩ := ownsRow_shape hM
  have HMS := Lib.hid hMs
  clear hMs
  go_upto_if 35 with fail
  go_cut [9] (fun s9 wq => s9 = .int .i64 E ∧ W3.grownBy wq none)
  case first =>
    as_aux_lemma =>
      by_cases hE0 : E = 0
      · subst hE0
        go_wp2_with fail
        go_loopw [38] (fun i wr2 => ∃ k : Nat, k ≤ M ∧ i = .int .i64 k ∧ (∃ xs, wr2.ownsRow W3.heap.size 9 1 (.slice uA M uc) M xs) ∧ W3.grownBy wr2 none) (fun i _ => M - (intOf i).toNat)
        case atStart => exact ⟨0, by omega, rfl, ⟨_, hM⟩, hgm⟩
        case round =>
          obtain ⟨k, hk, rfl, ⟨ys, hrow⟩, hgr2⟩ := hrel
          by_cases hlt : k < M
          · have hki : (k : Int) < (M : Int) := by omega
            obtain ⟨g, rfl, hg0, hg1⟩ := HMS.out (by omega)
            have hc := hrow.cellAt k (by omega)
            have hlen' := hrow.1
            obtain ⟨u, hu⟩ : ∃ u, ys[k]? = some u := ⟨_, List.getElem?_eq_getElem (by omega)⟩
            rw [hu] at hc
            have hfz := hrow.frozenAt k
            have hst := hrow.stored k (.string ⟨#[115, 112, 111, 105, 108, 116]⟩)
            have HST := Lib.hid hst
            clear hu hst hlen'
            go_wp2_with fail
            go_roundw
            case rel => exact ⟨k + 1, by omega, by go_num, ⟨_, HST.out.1⟩, gr_grown hgr2 HST.out.2 (fun gg e => by injection e with e; exact .inr (by omega))⟩
            case measure => simp [intOf]; omega
          · have hki : ¬ (k : Int) < (M : Int) := by omega
            go_wp2_with fail
            go_meet
            exact ⟨rfl, hgr2⟩
      · have hE1 : (E == 0) = false := by simpa using hE0
        go_wp2_with fail
        go_meet
        exact ⟨rfl, hgm⟩
  case rest =>
    obtain ⟨rfl, hg5⟩ := hcut
    have hG5 := gr_trans hG4 hg5
    have HV5 := Lib.hid (HV4.out.grown hg5)
    have HU5 := Lib.hid (HU4.out.grown hg5)
    have hx5 := hx3.grown hg5 (by simp)
    clear hG4 HV4 HU4 hx3 hM hgm hg5
    obtain ⟨yA, yc, rfl, hyl, hys⟩ := HU5.out.shape
    clear hys
    have hl2 : l.length ≤ 2000 := by omega
    go_wp2_with fail
    refine (farthest_few (b + 2) v ⟨#[106, 110, 53, 56]⟩ l _ HV5.out hl2 (by decide) (Ascii.of_mem (by decide)) HALL.out).mono ?_
    rintro _ w6 ⟨rfl, hg6⟩
    have hG6 := gr_trans hG5 hg6
    have HV6 := Lib.hid (HV5.out.grown hg6)
    have HU6 := Lib.hid (HU5.out.grown hg6)
    have hx6 := hx5.grown hg6 (by simp)
    have HFJ := Lib.hid (far_jn l)
    clear hG5 HV5 HU5 hx5 hg6
    generalize (farV ⟨#[106, 110, 53, 56]⟩ l).1 = F1 at *
    generalize (farV ⟨#[106, 110, 53, 56]⟩ l).2.1 = F2 at *
    generalize (farV ⟨#[106, 110, 53, 56]⟩ l).2.2 = F3 at *
    go_upto_region 12 with (fail)
    go_cut [62] (fun s62 wq => s62 = .bool false ∧ w6.grownBy wq none)
    case first =>
      as_aux_lemma =>
        rcases HFJ.out with ⟨h0, rfl⟩ | ⟨h0, h1, rfl⟩ | ⟨h0, h1, rfl⟩
        · have hli : ¬ (0 : Int) < (l.length : Int) := by omega
          clear h0
          go_wp2_with fail
          go_meet
          exact ⟨rfl, gr_refl _ _⟩
        · clear h0 h1
          go_wp2_with fail
          go_meet
          exact ⟨rfl, gr_refl _ _⟩
        · have hli : (0 : Int) < (l.length : Int) := by omega
          have HLS := Lib.hid (fun W (h : StrsFrom (b + 2) W (.slice yA l.length yc) l) => locatorsFault_few (b + 2) (.slice yA l.length yc) l W h hl2 HALL.out)
          rw [h1] at HLS
          clear h0 h1
          go_wp2_with fail
          refine (HLS.out _ HU6.out).mono ?_
          rintro _ wf ⟨rfl, hgf⟩
          go_wp2_with fail
          go_meet
          exact ⟨rfl, hgf⟩
    case rest =>
      obtain ⟨rfl, hg7⟩ := hcut
      have hG7 := gr_trans hG6 hg7
      have HV7 := Lib.hid (HV6.out.grown hg7)
      have HU7 := Lib.hid (HU6.out.grown hg7)
      have hx7 := hx6.grown hg7 (by simp)
      clear hG6 HV6 HU6 hx6 hg7 HFJ
      obtain ⟨x0, x1⟩ := hx7.cells2
      go_wp2_with fail
      refine (way3 pn pe _ HE.out).mono ?_
      rintro _ w8 ⟨g, c8, xs8, rfl, hrow, hr0, hr1, hgg, hg8⟩
      have c0 := hrow.cellAt 0 (by omega)
      rw [hr0] at c0
      have f0 := hrow.frozenAt 0
      have hgl8 := (hrow.lt g rfl).2
      have hG8 := gr_trans hG7 hg8
      have H9 : wc.grownBy (w8.setCell ⟨g, 0, none⟩ (.int .i64 777)) none := gr_put hg8 (p := (⟨g, 0, none⟩ : Addr)) (.inr hgg) _
      have hG9 := gr_trans hG7 H9
      have HV9 := Lib.hid (HV7.out.grown H9)
      have HU9 := Lib.hid (HU7.out.grown H9)
      have hx9 := hx7.grown H9 (by simp)
      have hx8 := hx7.grown hg8 (by simp)
      clear hG7 HV7 HU7 hx7 x0 x1 hr0 hr1 hrow H9 hg8 hG8 hx8
      obtain ⟨x0, x1⟩ := hx9.cells2
      go_wp2_with fail
      refine (way3 pn pe _ HE.out).mono ?_
      rintro _ w9 ⟨g2, c9, xs9, rfl, hrow, hr0, hr1, hgg2, hg9⟩
      have d0 := hrow.cellAt 0 (by omega)
      have d1 := hrow.cellAt 1 (by omega)
      rw [hr0] at d0
      rw [hr1] at d1
      have hG10 := gr_trans hG9 hg9
      have HV10 := Lib.hid (HV9.out.grown hg9)
      have HU10 := Lib.hid (HU9.out.grown hg9)
      have hx10 := hx9.grown hg9 (by simp)
      have HROW := Lib.hid hrow
      have HR0 := Lib.hid hr0
      have HR1 := Lib.hid hr1
      clear hG9 HV9 HU9 hx9 x0 x1 hr0 hr1 hrow hg9 c0 f0
      obtain ⟨x0, x1⟩ := hx10.cells2
      have KX : Hid (∀ W' : World, w9.grownBy W' none → W'.cell? ⟨g2, 0, none⟩ = some (.int .i64 pn) ∧ W'.cell? ⟨g2, 1, none⟩ = some (.int .i64 pe) ∧ W'.cell? ⟨X, 0, none⟩ = some (.int .i64 pn) ∧ W'.cell? ⟨X, 1, none⟩ = some (.int .i64 pe) ∧ w9.grownBy W' none) := fun W' hW =>
        ⟨((ownsRow_grown HROW.out hW).cellAt 0 (by omega)).trans HR0.out, ((ownsRow_grown HROW.out hW).cellAt 1 (by omega)).trans HR1.out, (hx10.grown hW (by simp)).cell 0, (hx10.grown hW (by simp)).cell 1, hW⟩
      have z0 : w9.drew.cell? ⟨g2, 0, none⟩ = some (.int .i64 pn) := d0
      have z1 : w9.drew.cell? ⟨g2, 1, none⟩ = some (.int .i64 pe) := d1
      have z2 : w9.drew.cell? ⟨X, 0, none⟩ = some (.int .i64 pn) := x0
      have z3 : w9.drew.cell? ⟨X, 1, none⟩ = some (.int .i64 pe) := x1
      go_wp2_with fail
      go_region_held3 (fun W' => W'.cell? ⟨g2, 0, none⟩ = some (.int .i64 pn) ∧ W'.cell? ⟨g2, 1, none⟩ = some (.int .i64 pe) ∧ W'.cell? ⟨X, 0, none⟩ = some (.int .i64 pn) ∧ W'.cell? ⟨X, 1, none⟩ = some (.int .i64 pe) ∧ w9.grownBy W' none)
        ((exact KX.out _ (by repeat (first | exact gr_refl _ _ | assumption | refine gr_drew ?_ | refine gr_alloc ?_ _ | refine gr_trans ?_ (by assumption)))))
        (first | (go_at_call 23; refine (equalStrs_same (b + 2) (b + 2) _ _ l _ (HV10.out.grown (by repeat (first | exact gr_refl _ _ | assumption | refine gr_drew ?_ | refine gr_alloc ?_ _ | refine gr_trans ?_ (by assumption)))) (HU10.out.grown (by repeat (first | exact gr_refl _ _ | assumption | refine gr_drew ?_ | refine gr_alloc ?_ _ | refine gr_trans ?_ (by assumption))))).mono ?_; rintro _ wE ⟨rfl, hgE⟩) | (go_at_call 33; refine (ready_any b _ (HGL.out.quiet (gr_trans hG10 (by repeat (first | exact gr_refl _ _ | assumption | refine gr_drew ?_ | refine gr_alloc ?_ _ | refine gr_trans ?_ (by assumption)))))).mono ?_; rintro _ wR ⟨rfl, hgR⟩) | fail)
      all_goals
        go_wp2_with fail
        go_ret
        exact ⟨rfl, gr_below (gr_trans hG10 (by repeat (first | exact gr_refl _ _ | assumption | refine gr_drew ?_ | refine gr_alloc ?_ _ | refine gr_trans ?_ (by assumption))))⟩
end Go.Proofs.YtnapbnkbchaanaaGreatDoor
