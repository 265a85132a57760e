/- The walk over the law RestsTaken: it answers true whatever numbers come in. No condition. -/
import Derived.Test.YtlbhphfmckhimaaCheapUp
import Derived.Test.YtlbhphfmckhimaaTimesL
import Derived.Test.YtlbhphfmckhimaaShortW
import Derived.Test.YtlbhphfmckhimaaRestsE
import Derived.Test.YtlbhphfmckhimaaTooRef
import Derived.Test.YtlbhphfmckhimaaEqualWins
import Derived.Test.YtlbhphfmckhimaaRateAll
namespace Go.Proofs.Ytlbhphfmckhimaa
open Go.RowKit
set_option linter.unusedVariables false
set_option linter.unusedSimpArgs false

set_option maxRecDepth 100000 in
set_option maxHeartbeats 8000000 in
theorem restsLaw (A : Option Addr) (n c : Nat) (w : World) (hin : In w A n) :
    Calls Try.prog 3 #[.slice A n c] w fun e w' => e = .returned (.bool true) ∧ Below w.heap.size w w' := by
  have hs := Str.start (c := c) hin
  clear hin
  go_enter Try.func3, Try.ntmps3
  go_wp2_with fail
  refine (timesOf_l _ _ _ hs (by omega)).mono ?_
  rintro _ w1 ⟨v, la, a, z, rfl, hl, hlen, ha0, ha1, hto0, hto1, hlong, hs1, hg1⟩
  have hG : w.grownBy w1 none := gr_grown (World.grownBy_alloc w _ none) hg1 (by simp)
  have hb1 := hs1.lt
  have hl1 : IntsFrom (w.heap.size + 1) w1 v la := by
    have h := hl
    rw [World.size_alloc] at h
    exact h
  clear hg1 hl hs
  have hx := Blk.new w1 27 #[.int .i64 a, .int .i64 z]
  have hs2 := hs1.alloc (.cells #[.int .i64 a, .int .i64 z] 27)
  have hG1 := gr_alloc hG (.cells #[.int .i64 a, .int .i64 z] 27)
  have hl2 := hl1.grown (World.grownBy_alloc w1 (.cells #[.int .i64 a, .int .i64 z] 27) none)
  obtain ⟨b, hb⟩ : ∃ b, w.heap.size = b := ⟨_, rfl⟩
  have HB := Lib.hid hb
  rw [hb] at hs2 hl2 hb1
  clear hG hl1 hs1 hb
  go_upto_region 3 with fail
  generalize w1.alloc (.cells #[.int .i64 a, .int .i64 z] 27) = W1 at *
  generalize w1.heap.size = gX at *
  rw [HB.out]
  have hxl := hx.lt
  go_wp2_with fail
  refine (pick_at b _ _ 5 5 [0, 600000, 3000000, 5000000, -1] _ hs2 rfl (by omega) rfl (by decide) (by decide)).mono ?_
  rintro _ w2 ⟨nd, hnd, rfl, hs3, hg2⟩
  have hndb : -1 ≤ nd ∧ nd ≤ 5000000 := by simp at hnd; omega
  have hx2 := hx.grown hg2 (by simp; omega)
  have hl3 := hl2.other hg2 (by omega)
  have hG2 : w.grownBy w2 none := gr_grown hG1 hg2 (fun g e => by injection e with e; exact .inr (by have := HB.out; omega))
  clear hnd hs2 hx hl2 hG1 hg2
  go_wp2_with fail
  refine (pick_at b _ _ 4 4 [1000, 60000, 1800000, 0] _ hs3 rfl (by omega) rfl (by decide) (by decide)).mono ?_
  rintro _ w3 ⟨ls, hls, rfl, hs4, hg3⟩
  have hlsb : 0 ≤ ls ∧ ls ≤ 1800000 := by simp at hls; omega
  have hx3 := hx2.grown hg3 (by simp; omega)
  have hl4 := hl3.other hg3 (by omega)
  have hG3 : w.grownBy w3 none := gr_grown hG2 hg3 (fun g e => by injection e with e; exact .inr (by have := HB.out; omega))
  clear hls hs3 hx2 hl3 hG2 hg3
  go_wp2_with fail
  refine (pick_at b _ _ 4 4 [1000, 60000, 600000, 999] _ hs4 rfl (by omega) rfl (by decide) (by decide)).mono ?_
  rintro _ w4 ⟨least, hle, rfl, hs5, hg4⟩
  have hleb : 999 ≤ least ∧ least ≤ 600000 := by simp at hle; omega
  have hx4 := hx3.grown hg4 (by simp; omega)
  have hl5 := hl4.other hg4 (by omega)
  have hG4 : w.grownBy w4 none := gr_grown hG3 hg4 (fun g e => by injection e with e; exact .inr (by have := HB.out; omega))
  clear hle hs4 hx3 hl4 hG3 hg4
  have hy := Blk.new w4 32 #[.int .i64 nd, .int .i64 ls]
  have hx5 := hx4.alloc (.cells #[.int .i64 nd, .int .i64 ls] 32)
  have hs6 := hs5.alloc (.cells #[.int .i64 nd, .int .i64 ls] 32)
  have hl6 := hl5.grown (World.grownBy_alloc w4 (.cells #[.int .i64 nd, .int .i64 ls] 32) none)
  have hG5 := gr_alloc hG4 (.cells #[.int .i64 nd, .int .i64 ls] 32)
  have hxl4 := hx4.lt
  clear hx4 hs5 hl5 hG4
  go_upto_region 4 with fail
  generalize w4.alloc (.cells #[.int .i64 nd, .int .i64 ls] 32) = W5 at *
  generalize w4.heap.size = gY at *
  have hyl := hy.lt
  go_wp2_with fail
  refine (flip_in b _ _ _ hs6 (by omega) (by omega) (by omega)).mono ?_
  rintro _ w6 ⟨fl, rfl, hs7, hg6⟩
  have hx6 := hx5.grown hg6 (by simp; omega)
  have hy6 := hy.grown hg6 (by simp; omega)
  have hl7 := hl6.other hg6 (by omega)
  have hG6 : w.grownBy w6 none := gr_grown hG5 hg6 (fun g e => by injection e with e; exact .inr (by have := HB.out; omega))
  clear hs6 hx5 hy hl6 hG5 hg6
  go_upto_if 45 with fail
  go_cut [4] (fun s4 wr => ∃ (v : Value) (l : List Int) (a z nd ls : Int), v = s4 ∧ IntsFrom (b + 1) wr v l ∧ l.length ≤ 20 ∧ Blk wr gX 27 #[.int .i64 a, .int .i64 z] ∧ Blk wr gY 32 #[.int .i64 nd, .int .i64 ls] ∧ a ≤ 5000 ∧ 0 ≤ z ∧ z ≤ 345686400001 ∧ (3600000 ≤ z ∨ z = a ∨ z ≤ 24000) ∧ ls ≤ 1800000 ∧ w.grownBy wr none)
  case first =>
    as_aux_lemma =>
      cases fl
      · go_wp2_with fail
        go_meet
        exact ⟨_, la, a, z, nd, ls, rfl, hl7, hlen, hx6, hy6, by omega, by omega, by omega, by omega, by omega, hG6⟩
      · go_wp2_with fail
        refine (short_in b _ _ hs7 (by omega)).mono ?_
        rintro _ w7 ⟨v2, l2, a2, z2, nd2, ls2, rfl, hv2, hlen2, q0, q1, q2, q3, q4, q5, q6, q7, hs8, hg7⟩
        have hx7 := hx6.grown hg7 (by simp; omega)
        have hy7 := hy6.grown hg7 (by simp; omega)
        have hxl6 := hx6.lt
        have hyl6 := hy6.lt
        have hb6 : b < w6.heap.size := hs7.lt
        have hG7 : w.grownBy w7 none := gr_grown hG6 hg7 (fun g e => by injection e with e; exact .inr (by have := HB.out; omega))
        have hne : ∀ k, k < w6.heap.size → v2.ownBlock ≠ some k := fun k hk e => by have := (World.ownsRow.lt hv2 k e).1; omega
        have hv3 := ints_put (ints_put (ints_put (ints_put hv2 ⟨gX, 0, none⟩ (.int .i64 a2) (hne _ hxl6)) ⟨gX, 1, none⟩ (.int .i64 z2) (hne _ hxl6)) ⟨gY, 0, none⟩ (.int .i64 nd2) (hne _ hyl6)) ⟨gY, 1, none⟩ (.int .i64 ls2) (hne _ hyl6)
        have hgXw : w.heap.size ≤ gX ∧ w.heap.size ≤ gY ∧ gX ≠ gY := by have := HB.out; omega
        have hx8 := ((hx7.put01 (.int .i64 a2) (.int .i64 z2)).far (p := ⟨gY, 0, none⟩) hgXw.2.2 (.int .i64 nd2)).far (p := ⟨gY, 1, none⟩) hgXw.2.2 (.int .i64 ls2)
        have hy8 := ((hy7.far (p := ⟨gX, 0, none⟩) (fun e => hgXw.2.2 e.symm) (.int .i64 a2)).far (p := ⟨gX, 1, none⟩) (fun e => hgXw.2.2 e.symm) (.int .i64 z2)).put01 (.int .i64 nd2) (.int .i64 ls2)
        have hG8 := gr_put (p := (⟨gY, 1, none⟩ : Addr)) (gr_put (p := (⟨gY, 0, none⟩ : Addr)) (gr_put (p := (⟨gX, 1, none⟩ : Addr)) (gr_put (p := (⟨gX, 0, none⟩ : Addr)) hG7 (.inr hgXw.1) (.int .i64 a2)) (.inr hgXw.1) (.int .i64 z2)) (.inr hgXw.2.1) (.int .i64 nd2)) (.inr hgXw.2.1) (.int .i64 ls2)
        obtain ⟨x0, x1⟩ := hx7.cells2
        obtain ⟨y0, y1⟩ := hy7.cells2
        have f1 := hx7.free
        have f2 := hy7.free
        clear hv2 hs8 hg7 hG7 hx7 hy7 hx6 hy6 hl7 hG6 hs7
        go_wp2_with fail
        go_meet
        exact ⟨_, l2, a2, z2, nd2, ls2, rfl, ownsRow_low hv3 (by omega), by omega, hx8, hy8, by omega, by omega, by omega, by omega, by omega, hG8⟩
  case rest =>
    as_aux_lemma =>
      obtain ⟨v, l, a, z, nd, ls, rfl, hl, hlen, hx, hy, ha1, hz0, hz1, hlong, hls, hG⟩ := hcut
      rename World => W
      have hT : timesE l a z = timesE l a z := rfl
      have HTF : Hid (∀ W, IntsFrom (b + 1) W v l → Calls Try.prog 8 #[v, .agg #[.int .i64 a, .int .i64 z]] W fun r w' => r = .returned (.int .i64 (timesE l a z)) ∧ W.grownBy w' none) := fun W h => timesFault_any (b + 1) v l a z W h
      have HOF : Hid (∀ W, IntsFrom (b + 1) W v l → Calls Try.prog 11 #[v, .agg #[.int .i64 a, .int .i64 z], .int .i64 least] W fun r w' => ∃ u, r = .returned (.tuple #[u, .int .i64 (restE l a z least)]) ∧ Wins w' u (offAll l a z least) ∧ W.grownBy w' none) := fun W h => off_all (b + 1) v l a z least W h (by omega) (by omega)
      have HWO : Hid (∀ W, IntsFrom (b + 1) W v l → Calls Try.prog 12 #[v, .agg #[.int .i64 a, .int .i64 z], .int .i64 least] W fun r w' => r = .returned (.tuple #[.int .i64 (workAll l a z least), .int .i64 (restE l a z least)]) ∧ W.grownBy w' none) := fun W h => worked_all (b + 1) v l a z least W h (by omega) (by omega)
      have HTL : Hid (∀ W, IntsFrom (b + 1) W v l → Calls Try.prog 13 #[v, .agg #[.int .i64 a, .int .i64 z], .agg #[.int .i64 nd, .int .i64 ls]] W fun r w' => r = .returned (.tuple #[.int .i64 (tooA l a z nd ls), .bool (tooS l a z nd ls), .int .i64 (needE l a z nd ls)]) ∧ W.grownBy w' none) := fun W h => tooLong_all (b + 1) v l a z nd ls W h (by omega) (by omega)
      have HCH : Hid (∀ W, IntsFrom (b + 1) W v l → Calls Try.prog 14 #[v, .agg #[.int .i64 a, .int .i64 z], .agg #[.int .i64 nd, .int .i64 ls]] W fun r w' => ∃ u, r = .returned (.tuple #[u, .int .i64 (chpC l a z nd ls), .bool (chpB l a z nd ls), .int .i64 (chpE l a z nd ls)]) ∧ Wins w' u (chpL l a z nd ls) ∧ W.grownBy w' none) := fun W h => cheapest_all (b + 1) v l a z nd ls W h (by omega) (by omega)
      have HOR : Hid (orE (timesE l a z) (spanE least 1000 86400000) = restE l a z least) := rfl
      have HON : Hid (orE (timesE l a z) (restsE a z nd ls) = needE l a z nd ls) := rfl
      obtain ⟨T, hT⟩ : ∃ x, timesE l a z = x := ⟨_, rfl⟩
      obtain ⟨SP, hSP⟩ : ∃ x, spanE least 1000 86400000 = x := ⟨_, rfl⟩
      obtain ⟨RE, hRE⟩ : ∃ x, restE l a z least = x := ⟨_, rfl⟩
      obtain ⟨OL, hOL⟩ : ∃ x, offAll l a z least = x := ⟨_, rfl⟩
      obtain ⟨WK, hWK⟩ : ∃ x, workAll l a z least = x := ⟨_, rfl⟩
      obtain ⟨TA, hTA⟩ : ∃ x, tooA l a z nd ls = x := ⟨_, rfl⟩
      obtain ⟨TS, hTS⟩ : ∃ x, tooS l a z nd ls = x := ⟨_, rfl⟩
      obtain ⟨NE, hNE⟩ : ∃ x, needE l a z nd ls = x := ⟨_, rfl⟩
      obtain ⟨CC, hCC⟩ : ∃ x, chpC l a z nd ls = x := ⟨_, rfl⟩
      obtain ⟨CB, hCB⟩ : ∃ x, chpB l a z nd ls = x := ⟨_, rfl⟩
      obtain ⟨CE, hCE⟩ : ∃ x, chpE l a z nd ls = x := ⟨_, rfl⟩
      obtain ⟨CL, hCL⟩ : ∃ x, chpL l a z nd ls = x := ⟨_, rfl⟩
      rw [hT] at HTF HOR HON
      rw [hSP] at HOR
      rw [hRE] at HOF HWO HOR
      rw [hOL] at HOF
      rw [hWK] at HWO
      rw [hTA, hTS, hNE] at HTL
      rw [hNE] at HON
      rw [hCC, hCB, hCE, hCL] at HCH
      have KT := Lib.hid hT
      have KSP := Lib.hid hSP
      have KRE := Lib.hid hRE
      have KOL := Lib.hid hOL
      have KWK := Lib.hid hWK
      have KTA := Lib.hid hTA
      have KTS := Lib.hid hTS
      have KNE := Lib.hid hNE
      have KCC := Lib.hid hCC
      have KCB := Lib.hid hCB
      have KCE := Lib.hid hCE
      have KCL := Lib.hid hCL
      clear hT hSP hRE hOL hWK hTA hTS hNE hCC hCB hCE hCL
      have KZ : Hid (a ≤ 5000 ∧ 0 ≤ z ∧ z ≤ 345686400001 ∧ (3600000 ≤ z ∨ z = a ∨ z ≤ 24000) ∧ ls ≤ 1800000 ∧ 999 ≤ least ∧ least ≤ 600000) := ⟨ha1, hz0, hz1, hlong, hls, hleb⟩
      clear ha1 hz0 hz1 hlong hls hlen hleb hx6 hy6 hl7 hG6 hs7 hndb hlsb
      (try clear ha0 hto0 hto1)
      obtain ⟨x0, x1⟩ := hx.cells2
      obtain ⟨y0, y1⟩ := hy.cells2
      go_wp2_with fail
      refine (HTF.out _ hl).mono ?_
      rintro _ w1 ⟨rfl, hg⟩
      replace hl := hl.grown hg
      replace hx := hx.grown hg (by simp)
      replace hy := hy.grown hg (by simp)
      replace hG := gr_trans hG hg
      clear hg x0 x1 y0 y1
      go_wp2_with fail
      refine (leastFault_any least w1).mono ?_
      rintro _ _ ⟨rfl, rfl⟩
      rw [KSP.out]
      go_wp2_with fail
      refine (or2_any T SP _).mono ?_
      rintro _ w2 ⟨rfl, hg⟩
      replace hl := hl.grown hg
      replace hx := hx.grown hg (by simp)
      replace hy := hy.grown hg (by simp)
      replace hG := gr_trans hG hg
      clear hg
      have hor : (if T = 0 then SP else T) = RE := HOR.out
      rw [hor]
      clear hor
      obtain ⟨x0, x1⟩ := hx.cells2
      obtain ⟨y0, y1⟩ := hy.cells2
      go_wp2_with fail
      refine (HOF.out _ hl).mono ?_
      rintro _ w3 ⟨u, rfl, hu, hg⟩
      replace hl := hl.grown hg
      replace hx := hx.grown hg (by simp)
      replace hy := hy.grown hg (by simp)
      replace hG := gr_trans hG hg
      clear hg x0 x1 y0 y1
      obtain ⟨x0, x1⟩ := hx.cells2
      obtain ⟨y0, y1⟩ := hy.cells2
      go_wp2_with fail
      refine (HWO.out _ hl).mono ?_
      rintro _ w4 ⟨rfl, hg⟩
      replace hl := hl.grown hg
      replace hx := hx.grown hg (by simp)
      replace hy := hy.grown hg (by simp)
      replace hG := gr_trans hG hg
      replace hu := hu.grown hg
      clear hg x0 x1 y0 y1
      obtain ⟨x0, x1⟩ := hx.cells2
      obtain ⟨y0, y1⟩ := hy.cells2
      go_wp2_with fail
      refine (HTL.out _ hl).mono ?_
      rintro _ w5 ⟨rfl, hg⟩
      replace hl := hl.grown hg
      replace hx := hx.grown hg (by simp)
      replace hy := hy.grown hg (by simp)
      replace hG := gr_trans hG hg
      replace hu := hu.grown hg
      clear hg x0 x1 y0 y1
      obtain ⟨x0, x1⟩ := hx.cells2
      obtain ⟨y0, y1⟩ := hy.cells2
      go_wp2_with fail
      refine (HCH.out _ hl).mono ?_
      rintro _ w6 ⟨uc, rfl, hc, hg⟩
      replace hl := hl.grown hg
      replace hx := hx.grown hg (by simp)
      replace hy := hy.grown hg (by simp)
      replace hG := gr_trans hG hg
      replace hu := hu.grown hg
      clear hg x0 x1 y0 y1
      clear HTF HOF HWO HTL HCH
      obtain ⟨A1, c1, rfl, hl1, _⟩ := hu.shape
      obtain ⟨A2, c2, rfl, hl2, _⟩ := hc.shape
      obtain ⟨x0, x1⟩ := hx.cells2
      obtain ⟨y0, y1⟩ := hy.cells2
      have hRR : (RE != RE) = false := by simp
      have hWW : (WK != WK) = false := by simp
      go_upto_if 92 with fail
      go_cut [2] (fun s2 wr => w6.grownBy wr none)
      case first =>
        as_aux_lemma =>
          by_cases hR0 : RE = 0
          · have hr0 := KRE.out.trans hR0
            obtain ⟨ht0, hm0, hm1⟩ := restE_0 hr0
            have O := timesE_ok ht0
            have ho : offL l a z least = OL := by rw [← KOL.out]; unfold offAll; rw [if_pos hr0]
            have hw : z - a - sumW (offL l a z least) = WK := by rw [← KWK.out]; unfold workAll; rw [if_pos hr0]
            have HOO : Hid (∀ W, IntsFrom (b + 1) W v l → Calls Try.prog 16 #[v, .agg #[.int .i64 a, .int .i64 z], .int .i64 least] W fun r w' => ∃ u, r = .returned u ∧ Wins w' u OL ∧ W.grownBy w' none) := fun W h => by
              have q1 := O.a0
              have q2 := O.ato
              have q3 := O.to_
              have := offOf_ok (b + 1) v l a z least W h q1 (by omega) (by omega) q3 (fun x hx => by have := O.mem x hx; omega) O.len
              rw [ho] at this
              exact this
            have HWR : Hid (∀ W, IntsFrom (b + 1) W v l → Calls Try.prog 17 #[v, .agg #[.int .i64 a, .int .i64 z], .int .i64 least] W fun r w' => r = .returned (.int .i64 WK) ∧ W.grownBy w' none) := fun W h => by
              have := workedOf_ok (b + 1) v l a z least W h ht0 (by omega) (by omega)
              rw [hw] at this
              exact this
            clear O ho hw hr0 ht0
            subst hR0
            go_wp2_with fail
            refine (HOO.out _ hl).mono ?_
            rintro _ w7 ⟨u2, rfl, hu2, hg7⟩
            go_wp2_with fail
            refine (equalWins_same _ _ OL _ (WinsFrom.grown hu hg7) hu2).mono ?_
            rintro _ w8 ⟨rfl, hg8⟩
            have hg68 := gr_trans hg7 hg8
            have hx8 := hx.grown hg68 (by simp)
            clear x0 x1 y0 y1
            obtain ⟨x0, x1⟩ := hx8.cells2
            go_wp2_with fail
            refine (HWR.out _ (hl.grown hg68)).mono ?_
            rintro _ w9 ⟨rfl, hg9⟩
            go_wp2_with fail
            go_meet
            exact gr_trans hg68 hg9
          · have hRb : (RE != 0) = true := by simpa using hR0
            have hr0 : ¬ restE l a z least = 0 := by rw [KRE.out]; exact hR0
            have ho : OL = [] := by rw [← KOL.out]; unfold offAll; rw [if_neg hr0]
            have hw : WK = 0 := by rw [← KWK.out]; unfold workAll; rw [if_neg hr0]
            subst ho
            subst hw
            clear hr0 hR0
            go_wp2_with fail
            go_meet
            exact gr_refl _ _
      case rest =>
        as_aux_lemma =>
          have hg := hcut
          rename World => w7
          replace hl := hl.grown hg
          replace hx := hx.grown hg (by simp)
          replace hy := hy.grown hg (by simp)
          replace hG := gr_trans hG hg
          replace hc := WinsFrom.grown hc hg
          clear hcut hg x0 x1 y0 y1 hu hRR hWW
          obtain ⟨x0, x1⟩ := hx.cells2
          obtain ⟨y0, y1⟩ := hy.cells2
          go_upto_if 135 with fail
          go_cut [21] (fun s21 wr => s21 = .int .i64 NE ∧ w7.grownBy wr none)
          case first =>
            as_aux_lemma =>
              by_cases hT0 : T = 0
              · have O := timesE_ok (KT.out.trans hT0)
                have q1 := O.a0
                have q2 := O.ato
                have q3 := O.to_
                have HRF := Lib.hid (fun W => restsFault_any a z nd ls W q1 q2 q3)
                have he : restsE a z nd ls = NE := by
                  have := HON.out
                  rw [hT0, orE_z rfl] at this
                  exact this
                rw [he] at HRF
                subst hT0
                clear O he q1 q2 q3
                go_wp2_with fail
                refine (HRF.out _).mono ?_
                rintro _ w8 ⟨rfl, hg8⟩
                go_wp2_with fail
                go_meet
                exact ⟨rfl, hg8⟩
              · have hTb : (T == 0) = false := by simpa using hT0
                have he : T = NE := by
                  have := HON.out
                  rw [orE_ne hT0] at this
                  exact this
                subst he
                clear hT0
                go_wp2_with fail
                go_meet
                exact ⟨rfl, gr_refl _ _⟩
          case rest =>
            as_aux_lemma =>
              obtain ⟨rfl, hg⟩ := hcut
              rename World => w8
              replace hl := hl.grown hg
              replace hx := hx.grown hg (by simp)
              replace hy := hy.grown hg (by simp)
              replace hG := gr_trans hG hg
              replace hc := WinsFrom.grown hc hg
              clear hg x0 x1 y0 y1
              obtain ⟨x0, x1⟩ := hx.cells2
              obtain ⟨y0, y1⟩ := hy.cells2
              obtain ⟨LG, hLG⟩ : ∃ x : Int, (if NE = 0 then tooM (tooI l a z nd ls) else -1) = x := ⟨_, rfl⟩
              have KLG := Lib.hid hLG
              clear hLG
              go_upto_if 140 with fail
              go_cut [22] (fun s22 wr => s22 = .int .i64 LG ∧ w8.grownBy wr none)
              case first =>
                as_aux_lemma =>
                  by_cases hN0 : NE = 0
                  · have hn0 := KNE.out.trans hN0
                    have hn1 := hn0
                    unfold needE at hn1
                    obtain ⟨ht0, hr0⟩ := orE_0' hn1
                    have hlsb : 1000 ≤ ls ∧ ls ≤ 86400000 := by
                      rcases restsE_cases a z nd ls with h | h
                      · omega
                      · omega
                    have HTO : Hid (∀ W, IntsFrom (b + 1) W v l → Calls Try.prog 19 #[v, .agg #[.int .i64 a, .int .i64 z], .agg #[.int .i64 nd, .int .i64 ls]] W fun r w' => r = .returned (.int .i64 LG) ∧ W.grownBy w' none) := fun W h => by
                      have := tooLongOf_ok (b + 1) v l a z nd ls W h ht0 (by omega) (by omega)
                      rw [← KLG.out, if_pos hN0]
                      exact this
                    subst hN0
                    clear hn0 hn1 ht0 hr0 hlsb
                    go_wp2_with fail
                    refine (HTO.out _ hl).mono ?_
                    rintro _ w9 ⟨rfl, hg9⟩
                    go_wp2_with fail
                    go_meet
                    exact ⟨rfl, hg9⟩
                  · have hNb : (NE == 0) = false := by simpa using hN0
                    have he : LG = -1 := by rw [← KLG.out, if_neg hN0]
                    subst he
                    clear hN0
                    go_wp2_with fail
                    go_meet
                    exact ⟨rfl, gr_refl _ _⟩
              case rest =>
                as_aux_lemma =>
                  obtain ⟨rfl, hg⟩ := hcut
                  rename World => w9
                  replace hl := hl.grown hg
                  replace hx := hx.grown hg (by simp)
                  replace hy := hy.grown hg (by simp)
                  replace hG := gr_trans hG hg
                  replace hc := WinsFrom.grown hc hg
                  clear hg x0 x1 y0 y1
                  obtain ⟨x0, x1⟩ := hx.cells2
                  obtain ⟨y0, y1⟩ := hy.cells2
                  have hway : (TS = true ∧ 0 ≤ LG ∧ TA = LG) ∨ (TS = false ∧ LG = -1 ∧ TA = 0) := by
                    rw [← KTS.out, ← KTA.out, ← KLG.out]
                    unfold tooS tooA
                    rw [KNE.out]
                    by_cases hN0 : NE = 0
                    · rw [if_pos hN0, if_pos hN0, if_pos hN0]
                      cases tooI l a z nd ls with
                      | none => exact .inr ⟨rfl, rfl, rfl⟩
                      | some i => exact .inl ⟨rfl, Int.natCast_nonneg i, rfl⟩
                    · rw [if_neg hN0, if_neg hN0, if_neg hN0]
                      exact .inr ⟨rfl, rfl, rfl⟩
                  have hNN : (NE != NE) = false := by simp
                  go_upto_region 23 with fail
                  go_cut [159] (fun s wr => s = .bool false ∧ w9.grownBy wr none)
                  case first =>
                    as_aux_lemma =>
                      rcases hway with ⟨rfl, h0, rfl⟩ | ⟨rfl, rfl, rfl⟩
                      · have hmx : max TA 0 = TA := by omega
                        have hAA : (TA != TA) = false := by simp
                        go_wp2_with fail
                        go_meet
                        exact ⟨rfl, gr_refl _ _⟩
                      · have hmx : max (-1 : Int) 0 = 0 := by decide
                        go_wp2_with fail
                        go_meet
                        exact ⟨rfl, gr_refl _ _⟩
                  case rest =>
                    as_aux_lemma =>
                      obtain ⟨rfl, hg⟩ := hcut
                      rename World => w10
                      replace hl := hl.grown hg
                      replace hx := hx.grown hg (by simp)
                      replace hy := hy.grown hg (by simp)
                      replace hG := gr_trans hG hg
                      replace hc := WinsFrom.grown hc hg
                      clear hg x0 x1 y0 y1 hway hNN KLG KTS KTA
                      obtain ⟨x0, x1⟩ := hx.cells2
                      obtain ⟨y0, y1⟩ := hy.cells2
                      go_upto_if 161 with fail
                      go_cut [21] (fun s21 wr => s21 = .int .i64 CE ∧ w10.grownBy wr none)
                      case first =>
                        as_aux_lemma =>
                          have hce := KCE.out
                          unfold chpE at hce
                          rw [KNE.out] at hce
                          by_cases hN0 : NE = 0
                          · have hn1 := KNE.out.trans hN0
                            unfold needE at hn1
                            obtain ⟨ht0, hr0⟩ := orE_0' hn1
                            have O := timesE_ok ht0
                            have q1 := O.a0
                            have q2 := O.ato
                            have q3 := O.to_
                            rw [if_pos hN0] at hce
                            have HCF := Lib.hid (fun W => cheapestFault_any a z nd ls W q1 q2 q3)
                            rw [hce] at HCF
                            subst hN0
                            clear hce hn1 ht0 hr0 O q1 q2 q3
                            go_wp2_with fail
                            refine (HCF.out _).mono ?_
                            rintro _ w11 ⟨rfl, hg11⟩
                            go_wp2_with fail
                            go_meet
                            exact ⟨rfl, hg11⟩
                          · rw [if_neg hN0] at hce
                            have hNb : (NE == 0) = false := by simpa using hN0
                            subst hce
                            clear hN0
                            go_wp2_with fail
                            go_meet
                            exact ⟨rfl, gr_refl _ _⟩
                      case rest =>
                        as_aux_lemma =>
                          obtain ⟨rfl, hg⟩ := hcut
                          rename World => w11
                          replace hl := hl.grown hg
                          replace hx := hx.grown hg (by simp)
                          replace hy := hy.grown hg (by simp)
                          replace hG := gr_trans hG hg
                          replace hc := WinsFrom.grown hc hg
                          clear hg x0 x1 y0 y1
                          obtain ⟨x0, x1⟩ := hx.cells2
                          obtain ⟨y0, y1⟩ := hy.cells2
                          by_cases hC0 : CE = 0
                          · have hce := KCE.out.trans hC0
                            have O := chpE_ok hce
                            have TO := timesE_ok O.t
                            have hs : z - a ≤ 24000 := by
                              have h1 := KZ.out
                              have h2 := O.z_
                              have h3 := O.n1
                              have h4 := TO.ato
                              have h5 := TO.a0
                              omega
                            have HCO : Hid (∀ W, IntsFrom (b + 1) W v l → Calls Try.prog 22 #[v, .agg #[.int .i64 a, .int .i64 z], .agg #[.int .i64 nd, .int .i64 ls]] W fun r w' => ∃ u, r = .returned (.tuple #[u, .int .i64 CC, .bool CB]) ∧ Wins w' u CL ∧ W.grownBy w' none) := fun W h => by
                              have := cheapestOf_all (b + 1) v l a z nd ls W h hce hs (by have := KZ.out; omega)
                              rw [KCC.out, KCB.out, KCL.out] at this
                              exact this
                            subst hC0
                            have hBB : (CB == CB) = true := by simp
                            have hCC : (CC == CC) = true := by simp
                            clear hce O TO hs
                            go_wp2_with fail
                            refine (HCO.out _ hl).mono ?_
                            rintro _ w12 ⟨u3, rfl, hu3, hg12⟩
                            go_wp2_with fail
                            refine (equalWins_same _ _ CL _ (WinsFrom.grown hc hg12) hu3).mono ?_
                            rintro _ w13 ⟨rfl, hg13⟩
                            go_wp2_with fail
                            refine (rated_any _).mono ?_
                            rintro _ w14 ⟨rfl, hg14⟩
                            go_wp2_with fail
                            go_ret
                            exact ⟨rfl, gr_below (gr_trans (gr_trans (gr_trans hG hg12) hg13) hg14)⟩
                          · have hCb : (CE != 0) = true := by simpa using hC0
                            have hCE : (CE == CE) = true := by simp
                            have hw : chpW l a z nd ls = none := by unfold chpW; rw [if_neg (by rw [KCE.out]; exact hC0)]
                            have e1 : CC = 0 := by rw [← KCC.out]; unfold chpC; rw [hw]
                            have e2 : CB = false := by rw [← KCB.out]; unfold chpB; rw [hw]; rfl
                            have e3 : CL = [] := by rw [← KCL.out]; unfold chpL; rw [hw]
                            subst e1
                            subst e2
                            subst e3
                            clear hw hC0
                            go_wp2_with fail
                            refine (rated_any _).mono ?_
                            rintro _ w14 ⟨rfl, hg14⟩
                            go_wp2_with fail
                            go_ret
                            exact ⟨rfl, gr_below (gr_trans hG hg14)⟩
end Go.Proofs.Ytlbhphfmckhimaa
