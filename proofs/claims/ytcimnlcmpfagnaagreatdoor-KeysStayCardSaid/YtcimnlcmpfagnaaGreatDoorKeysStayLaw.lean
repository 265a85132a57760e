/- The walk over the law KeysStay: it answers true whatever numbers come in. Condition: asciiSpace is Go's own table, MaxLen holds a number. -/
import Derived.Test.YtcimnlcmpfagnaaGreatDoorStayBase
import Derived.Test.YtcimnlcmpfagnaaGreatDoorKeyedX
import Derived.Test.YtcimnlcmpfagnaaGreatDoorCleanAll
import Derived.Test.YtcimnlcmpfagnaaGreatDoorLeastLaw
import Derived.Test.YtcimnlcmpfagnaaGreatDoorEqualSgn
import Derived.Test.YtcimnlcmpfagnaaGreatDoorIntsEq
namespace Go.Proofs.YtcimnlcmpfagnaaGreatDoor
open Go.RowKit
set_option linter.unusedVariables false
set_option linter.unusedSimpArgs false

set_option maxRecDepth 100000 in
set_option maxHeartbeats 8000000 in
theorem keysStay (A : Option Addr) (n c : Nat) (w : World) (hin : InX w A n) (hgl : Gl w.heap.size w) :
    Calls Tryz.prog 5 #[.slice A n c] w fun r w' => r = .returned (.bool true) ∧ Below w.heap.size w w' := by
  obtain ⟨hn, L, hL, hcell⟩ := hin
  obtain ⟨W, hW, hb1, hb2, hsz, hG⟩ := two_streams w A n c
  have sA := SX.start hn hL hcell hG hb1 (Nat.le_refl _)
  have sB := SX.start hn hL hcell hG hb2 (Nat.le_succ _)
  have HGL := Lib.hid hgl
  have HW := Lib.hid hW
  have HWT := Lib.hid hG
  clear hn hL hcell hb1 hb2 hgl hW hG
  go_enter Tryz.func5, Tryz.ntmps5
  go_wp2_with fail
  rw [← HW.out]
  have hG : w.grownBy W none := HWT.out
  generalize hb : w.heap.size = b at *
  have HB := Lib.hid hb
  clear hb
  refine (rightKeyed_e b b b L 0 _ sA (by decide) (HGL.out.quiet hG) (Nat.le_refl _)).mono ?_
  rintro _ w1 ⟨v, l, k1, HR, rfl, hv, ho, h33, hx, _, _, sA1, hg1⟩
  have sB1 := sB.grown hg1 (fun g e => by injection e with e; omega)
  have hG1 : w.grownBy w1 none := gr_grown hG hg1 (fun g e => by injection e with e; exact .inr (by have := HB.out; omega))
  have HV : Hid (IntsFrom (b + 2) w1 v l) := ownsRow_low hv (show b + 2 ≤ W.heap.size by omega)
  have hs1 := hg1.size
  have hE : marksE l = 0 := marksE_zero ho (by omega) (fun x h => by have := hx x h; omega)
  have hEc : cleanE l 1 = 0 := by
    rw [cleanE_in hE (by decide) (by decide)]
    unfold clndE
    rw [clean_id 1 l ho (fun x h => (hx x h).1), if_neg (fun e => by rw [e] at ho; simp at ho), if_neg]
    intro h
    obtain ⟨x, hx1, hx2⟩ := List.any_eq_true.1 h
    have := hx x hx1
    unfold bigM at hx2
    simp at hx2
    omega
  have hEu : unitE l 60 = 0 := unitE_ok hE (by decide) (by decide)
  have hEh := hear_ok hE (by omega)
  have HE := Lib.hid (show cleanE l 1 = 0 ∧ unitE l 60 = 0 ∧ hearB l = true from ⟨hEc, hEu, hEh⟩)
  clear sA sB hG hg1 hv hE hEc hEu hEh hx
  go_wp2_with fail
  refine (rightKeyed_e b b (b + 1) L 0 _ sB1 (by decide) (HGL.out.quiet hG1) (by omega)).mono ?_
  rintro _ w2 ⟨v2, l2, k2, HR2, rfl, hv2, _, _, _, _, _, sB2, hg2⟩
  obtain ⟨rfl, rfl⟩ : l = l2 ∧ k1 = k2 := by
    have h := HR.out.symm.trans HR2.out
    simpa using h
  have hG2 : w.grownBy w2 none := gr_grown hG1 hg2 (fun g e => by injection e with e; exact .inr (by have := HB.out; omega))
  have HV2 := Lib.hid (IntsFrom.other HV.out hg2 (by omega))
  have HU2 : Hid (IntsFrom (b + 2) w2 v2 l) := ownsRow_low hv2 (show b + 2 ≤ w1.heap.size by omega)
  have hs2 := hg2.size
  clear sA1 sB1 sB2 hG1 hg2 hv2 HV HR HR2
  go_wp2_with fail
  refine (clean_all (b + 2) v l 1 _ HV2.out).mono ?_
  rintro _ w3 ⟨u3, rfl, hu3, hg3⟩
  rw [HE.out.1]
  obtain ⟨uA, uc, rfl, hul, hus⟩ := IntsFrom.shape hu3
  obtain ⟨M, hM⟩ : ∃ M, (cleanK l 1).length = M := ⟨_, rfl⟩
  have HC3 : Hid (∃ xs, w3.ownsRow w2.heap.size 3 1 (.slice uA M uc) M xs) := by rw [← hM]; exact ⟨_, hu3⟩
  rw [hM] at hul hus ⊢
  have HUS := Lib.hid hus
  have hs3 := hg3.size
  clear hM hu3 hus
  go_wp2_with fail
  refine (uneven_any (b + 2) v l 60 _ (HV2.out.grown hg3)).mono ?_
  rintro _ w4 ⟨o4, rfl, ho4, hg4⟩
  rw [HE.out.2.1]
  have hG4 := gr_trans hg3 hg4
  have HC4 : Hid (∃ xs, w4.ownsRow w2.heap.size 3 1 (.slice uA M uc) M xs) := by obtain ⟨xs, h⟩ := HC3.out; exact ⟨xs, ownsRow_grown h hg4⟩
  obtain ⟨oA, oc, rfl, hol, hos⟩ := IntsFrom.shape ho4
  obtain ⟨K, hK⟩ : ∃ K, (if unitE l 60 = 0 then unevTo l 60 l.length else []).length = K := ⟨_, rfl⟩
  have HO4 : Hid (∃ xs, w4.ownsRow w3.heap.size 3 1 (.slice oA K oc) K xs) := by rw [← hK]; exact ⟨_, ho4⟩
  rw [hK] at hol hos ⊢
  have HOS := Lib.hid hos
  have hs4 := hg4.size
  clear hK ho4 hos hg3 hg4 HC3
  go_wp2_with fail
  refine (hear_any (b + 2) b v l _ (HV2.out.grown hG4) (HGL.out.quiet (gr_trans hG2 hG4))).mono ?_
  rintro _ w5 ⟨hg5, hway⟩
  obtain ⟨_, rfl⟩ := hway.resolve_right (fun h => by have := HE.out.2.2; rw [h.1] at this; cases this)
  obtain ⟨T, hT⟩ : ∃ T : ByteArray, ⟨(hearS l).toArray⟩ = T := ⟨_, rfl⟩
  rw [hT]
  obtain ⟨U, hU⟩ : ∃ U, hearU l = U := ⟨_, rfl⟩
  obtain ⟨Q, hQ⟩ : ∃ Q, (hearTo l 2000).2 = Q := ⟨_, rfl⟩
  rw [hU, hQ]
  replace hg5 := gr_trans hg5 (World.grownBy_alloc w5 (.cells #[.string T, .int .i64 U, .int .i64 Q] 55) none)
  have hG5 := gr_trans hG4 hg5
  go_wp2_with fail
  generalize w5.alloc (.cells #[.string T, .int .i64 U, .int .i64 Q] 55) = w5 at *
  have HC5 : Hid (∃ xs, w5.ownsRow w2.heap.size 3 1 (.slice uA M uc) M xs) := by obtain ⟨xs, h⟩ := HC4.out; exact ⟨xs, ownsRow_grown h hg5⟩
  have HO5 : Hid (∃ xs, w5.ownsRow w3.heap.size 3 1 (.slice oA K oc) K xs) := by obtain ⟨xs, h⟩ := HO4.out; exact ⟨xs, ownsRow_grown h hg5⟩
  have hs5 := hg5.size
  clear hway hG4 hg5 HC4 HO4 hT hU hQ
  go_loopw [56] (fun i wr => ∃ k : Nat, k ≤ M ∧ i = .int .i64 k ∧ Hid (∃ xs, wr.ownsRow w2.heap.size 3 1 (.slice uA M uc) M xs) ∧ Hid (∃ xs, wr.ownsRow w3.heap.size 3 1 (.slice oA K oc) K xs) ∧ w2.grownBy wr none) (fun i _ => M - (intOf i).toNat)
  case atStart => exact ⟨0, by omega, rfl, HC5, HO5, hG5⟩
  case round =>
    obtain ⟨k, hk, rfl, ⟨ys, hrow⟩, HO, hgr⟩ := hrel
    by_cases hlt : k < M
    · have hki : (k : Int) < (M : Int) := by omega
      obtain ⟨g, rfl, hg0, hg1⟩ := HUS.out (by omega)
      have hc := hrow.cellAt k (by omega)
      have hlen' := hrow.1
      obtain ⟨u, hu⟩ : ∃ u, ys[k]? = some u := ⟨_, List.getElem?_eq_getElem (by omega)⟩
      rw [hu] at hc
      have hfz := hrow.frozenAt k
      have hst := hrow.stored k (.int .i64 777)
      have HST := Lib.hid hst
      have HO2 : Hid (∃ xs, (wr.setCell ⟨g, k, none⟩ (.int .i64 777)).ownsRow w3.heap.size 3 1 (.slice oA K oc) K xs) := by
        obtain ⟨xs, h⟩ := HO.out
        exact ⟨xs, own_far h HST.out.2 (fun gg e => by injection e with e; omega)⟩
      clear hu hst hlen' HO
      go_wp2_with fail
      go_roundw
      case rel => exact ⟨k + 1, by omega, by go_num, ⟨_, HST.out.1⟩, HO2, gr_grown hgr HST.out.2 (fun gg e => by injection e with e; exact .inr (by omega))⟩
      case measure => simp [intOf]; omega
    · have hki : ¬ (k : Int) < (M : Int) := by omega
      clear hrow HC5 HO5 hG5
      go_wp2_with fail
      go_loopw [65] (fun i wr2 => ∃ q : Nat, q ≤ K ∧ i = .int .i64 q ∧ Hid (∃ xs, wr2.ownsRow w3.heap.size 3 1 (.slice oA K oc) K xs) ∧ w2.grownBy wr2 none) (fun i _ => K - (intOf i).toNat)
      case atStart => exact ⟨0, by omega, rfl, HO, hgr⟩
      case round =>
        obtain ⟨q, hq, rfl, ⟨ys, hrow⟩, hgr2⟩ := hrel
        by_cases hlq : q < K
        · have hki2 : (q : Int) < (K : Int) := by omega
          obtain ⟨g, rfl, hg0, hg1⟩ := HOS.out (by omega)
          have hc := hrow.cellAt q (by omega)
          have hlen' := hrow.1
          obtain ⟨u, hu⟩ : ∃ u, ys[q]? = some u := ⟨_, List.getElem?_eq_getElem (by omega)⟩
          rw [hu] at hc
          have hfz := hrow.frozenAt q
          have hst := hrow.stored q (.int .i64 777)
          have HST := Lib.hid hst
          clear hu hst hlen'
          go_wp2_with fail
          go_roundw
          case rel => exact ⟨q + 1, by omega, by go_num, ⟨_, HST.out.1⟩, gr_grown hgr2 HST.out.2 (fun gg e => by injection e with e; exact .inr (by omega))⟩
          case measure => simp [intOf]; omega
        · have hki2 : ¬ (q : Int) < (K : Int) := by omega
          rename World => wo
          clear hrow
          go_wp2_with fail
          refine (codes_any b _ (HGL.out.quiet (gr_trans hG2 hgr2))).mono ?_
          rintro _ w6 ⟨sv, rfl, hsv, hg6⟩
          obtain ⟨sA, sc, rfl, hsl, hss⟩ := hsv.shape
          have HSS := Lib.hid hss
          rw [codeT_len] at hsl HSS ⊢
          have HS6 : Hid (∃ xs, w6.ownsRow wo.heap.size 61 2 (.slice sA 40 sc) 40 xs) := ⟨_, by have h := hsv; unfold SgnFrom at h; rwa [codeT_len] at h⟩
          have hG6 := gr_trans hgr2 hg6
          have hs6 := hgr2.size
          clear hsv hss hgr2 hg6
          go_wp2_with fail
          go_loopw [75] (fun i wr3 => ∃ j : Nat, j ≤ 40 ∧ i = .int .i64 j ∧ Hid (∃ xs, wr3.ownsRow wo.heap.size 61 2 (.slice sA 40 sc) 40 xs) ∧ w2.grownBy wr3 none) (fun i _ => 40 - (intOf i).toNat)
          case atStart => exact ⟨0, by omega, rfl, HS6, hG6⟩
          case round =>
            obtain ⟨j, hj, rfl, ⟨ys, hrow⟩, hgr3⟩ := hrel
            by_cases hlj : j < 40
            · have hkj : (j : Int) < 40 := by omega
              obtain ⟨g, rfl, hg0, hg1⟩ := HSS.out (by omega)
              have hc := hrow.cellAt (j * 2 + 1) (by omega)
              have hlen' := hrow.1
              obtain ⟨u, hu⟩ : ∃ u, ys[j * 2 + 1]? = some u := ⟨_, List.getElem?_eq_getElem (by omega)⟩
              rw [hu] at hc
              have hfz := hrow.frozenAt (j * 2 + 1)
              have hst := hrow.stored (j * 2 + 1) (.string ⟨#[115, 112, 111, 105, 108, 116]⟩)
              have HST := Lib.hid hst
              clear hu hst hlen'
              go_wp2_with fail
              go_roundw
              case rel => exact ⟨j + 1, by omega, by go_num, ⟨_, HST.out.1⟩, gr_grown hgr3 HST.out.2 (fun gg e => by injection e with e; exact .inr (by omega))⟩
              case measure => simp [intOf]; omega
            · have hkj : ¬ (j : Int) < 40 := by omega
              have HEQ := Lib.hid (equalInts_same v v2 l wr (IntsFrom.low (HV2.out.grown hgr3)) (IntsFrom.low (HU2.out.grown hgr3)))
              clear hrow
              go_wp2_with fail
              refine HEQ.out.mono ?_
              rintro _ w7 ⟨rfl, hg7⟩
              have hG7 := gr_trans (gr_trans hG2 hgr3) hg7
              go_wp2_with fail
              refine (codes_any b _ (HGL.out.quiet hG7)).mono ?_
              rintro _ w8 ⟨c8, rfl, hc8, hg8⟩
              have hG8 := gr_trans hG7 hg8
              go_wp2_with fail
              refine (refCodes_any b _ (HGL.out.quiet hG8)).mono ?_
              rintro _ w9 ⟨c9, rfl, hc9, hg9⟩
              have hG9 := gr_trans hG8 hg9
              have HQ := Lib.hid (equalSgn_same _ _ c8 c9 codeT w9 (hc8.grown hg9) hc9)
              obtain ⟨xA, xc, rfl, _, _⟩ := hc8.shape
              obtain ⟨yA, yc, rfl, _, _⟩ := hc9.shape
              clear hc8 hc9
              go_wp2_with fail
              refine HQ.out.mono ?_
              rintro _ w10 ⟨rfl, hg10⟩
              have hG10 := gr_trans hG9 hg10
              go_wp2_with fail
              refine (ready_any b _ (HGL.out.quiet hG10)).mono ?_
              rintro _ w11 ⟨rfl, hg11⟩
              go_wp2_with fail
              go_ret
              exact ⟨rfl, gr_below (gr_trans hG10 hg11)⟩
end Go.Proofs.YtcimnlcmpfagnaaGreatDoor
