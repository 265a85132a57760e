/- The walk over the law CheapRestsAreEnough. Condition: asciiSpace is Go's own table, MaxLen holds a number. -/
import Derived.Test.YtlbhphfmckhimaaDoorCheapLawP
import Derived.Test.YtlbhphfmckhimaaDoorCheapE
import Derived.Test.YtlbhphfmckhimaaDoorShortW
import Derived.Test.YtlbhphfmckhimaaDoorRestsE
import Derived.Test.YtlbhphfmckhimaaDoorSkyR
import Derived.Deep.DeepCutAuto
import Derived.Deep.RegionHeld3
namespace Go.Proofs.YtlbhphfmckhimaaDoor
open Go.RowKit
set_option linter.unusedVariables false

set_option maxRecDepth 100000 in
set_option maxHeartbeats 8000000 in
theorem cheapLaw (A : Option Addr) (n c : Nat) (w : World) (hin : In w A n) (hgl : Gl w.heap.size w) :
    Calls Tryd.prog 3 #[.slice A n c] w fun r w' => r = .returned (.bool true) ∧ Below w.heap.size w w' := by
  have hs0 := Str.start (c := c) hin
  have HGL := Lib.hid hgl
  clear hin hgl
  go_enter Tryd.func3, Tryd.ntmps3
  go_wp2_with fail
  have hG0 := World.grownBy_alloc w (.cells #[.slice A n c, .int .i64 0] 25) none
  have hlt0 := hs0.lt
  generalize w.alloc (.cells #[.slice A n c, .int .i64 0] 25) = W0 at *
  generalize hb : w.heap.size = b at *
  have HB := Lib.hid hb
  clear hb
  refine (short_in b 0 _ hs0 (by decide)).mono ?_
  rintro _ w1 ⟨v, l, a, z, nd, ls, rfl, hv, hlen, a0, a1, z0, z1, nd0, nd1, ls0, ls1, hs1, hg1⟩
  have hG1 : w.grownBy w1 none := gr_grown hG0 hg1 (fun g e => by injection e with e; exact .inr (by have := HB.out; omega))
  have hv1 : IntsFrom (b + 1) w1 v l := ownsRow_low hv (by omega)
  have hX0 := (Blk.new w1 27 #[.int .i64 a, .int .i64 z]).alloc (.cells #[.int .i64 nd, .int .i64 ls] 29)
  have hY0 := Blk.new (w1.alloc (.cells #[.int .i64 a, .int .i64 z] 27)) 29 #[.int .i64 nd, .int .i64 ls]
  rw [World.size_alloc] at hY0
  have hbw1 : b < w1.heap.size := hs1.lt
  have hgXY := gr_alloc (World.grownBy_alloc w1 (.cells #[.int .i64 a, .int .i64 z] 27) none) (.cells #[.int .i64 nd, .int .i64 ls] 29)
  have hs2 := (hs1.alloc (.cells #[.int .i64 a, .int .i64 z] 27)).alloc (.cells #[.int .i64 nd, .int .i64 ls] 29)
  have hv2 := hv1.grown hgXY
  have hG2 := gr_trans hG1 hgXY
  clear hs0 hG0 hv hv1 hs1 hG1 hg1 hlt0 hgXY
  go_upto_region 3 with fail
  generalize (w1.alloc (.cells #[.int .i64 a, .int .i64 z] 27)).alloc (.cells #[.int .i64 nd, .int .i64 ls] 29) = W2 at *
  generalize w1.heap.size = gX at *
  have HTF : Hid (∀ W : World, IntsFrom (b + 1) W v l → Calls Tryd.prog 5 #[v, .agg #[.int .i64 a, .int .i64 z]] W fun r w' => r = .returned (.int .i64 (timesE l a z)) ∧ W.grownBy w' none) := fun W h => timesFault_any (b + 1) v l a z W h
  have hready : ∀ W : World, w.grownBy W none → Calls Tryd.prog 8 #[] W fun r w' => r = .returned (.bool true) ∧ W.grownBy w' none := fun W h => ready_any b W (HGL.out.quiet h)
  have HREADY := Lib.hid hready
  clear hready
  obtain ⟨x0, x1⟩ := hX0.cells2
  obtain ⟨y0, y1⟩ := hY0.cells2
  by_cases hE : timesE l a z = 0
  case neg =>
    generalize timesE l a z = T at *
    have hTb : (T != 0) = true := by simpa using hE
    go_wp2_with fail
    refine (HTF.out _ hv2).mono ?_
    rintro _ w3 ⟨rfl, hg3⟩
    go_wp2_with fail
    refine (HREADY.out _ (gr_trans hG2 hg3)).mono ?_
    rintro _ w4 ⟨rfl, hg4⟩
    go_wp2_with fail
    go_ret
    exact ⟨rfl, gr_below (gr_trans (gr_trans hG2 hg3) hg4)⟩
  have O := timesE_ok hE
  have oz := O.ato
  have ot := O.to_
  have HRF := Lib.hid (fun W => restsFault_any a z nd ls W a0 oz ot)
  have HCF := Lib.hid (fun W => cheapestFault_any a z nd ls W a0 oz ot)
  rw [hE] at HTF
  by_cases hR : restsE a z nd ls = 0
  case neg =>
    generalize restsE a z nd ls = T at *
    have hTb : (T != 0) = true := by simpa using hR
    clear O
    go_wp2_with fail
    refine (HTF.out _ hv2).mono ?_
    rintro _ w3 ⟨rfl, hg3⟩
    have hX3 := hX0.grown hg3 (by simp)
    have hY3 := hY0.grown hg3 (by simp)
    clear x0 x1 y0 y1
    obtain ⟨x0, x1⟩ := hX3.cells2
    obtain ⟨y0, y1⟩ := hY3.cells2
    go_wp2_with fail
    refine (HRF.out _).mono ?_
    rintro _ w4 ⟨rfl, hg4⟩
    go_wp2_with fail
    refine (HREADY.out _ (gr_trans (gr_trans hG2 hg3) hg4)).mono ?_
    rintro _ w5 ⟨rfl, hg5⟩
    go_wp2_with fail
    go_ret
    exact ⟨rfl, gr_below (gr_trans (gr_trans (gr_trans hG2 hg3) hg4) hg5)⟩
  have hRC := restsE_cases a z nd ls
  rw [hR] at HRF
  by_cases hC : cheapE a z nd ls = 0
  case neg =>
    generalize cheapE a z nd ls = T at *
    have hTb : (T != 0) = true := by simpa using hC
    clear O hRC
    go_wp2_with fail
    refine (HTF.out _ hv2).mono ?_
    rintro _ w3 ⟨rfl, hg3⟩
    have hX3 := hX0.grown hg3 (by simp)
    have hY3 := hY0.grown hg3 (by simp)
    clear x0 x1 y0 y1
    obtain ⟨x0, x1⟩ := hX3.cells2
    obtain ⟨y0, y1⟩ := hY3.cells2
    go_wp2_with fail
    refine (HRF.out _).mono ?_
    rintro _ w4 ⟨rfl, hg4⟩
    have hX4 := hX3.grown hg4 (by simp)
    have hY4 := hY3.grown hg4 (by simp)
    clear x0 x1 y0 y1
    obtain ⟨x0, x1⟩ := hX4.cells2
    obtain ⟨y0, y1⟩ := hY4.cells2
    go_wp2_with fail
    refine (HCF.out _).mono ?_
    rintro _ w5 ⟨rfl, hg5⟩
    go_wp2_with fail
    refine (HREADY.out _ (gr_trans (gr_trans (gr_trans hG2 hg3) hg4) hg5)).mono ?_
    rintro _ w6 ⟨rfl, hg6⟩
    go_wp2_with fail
    go_ret
    exact ⟨rfl, gr_below (gr_trans (gr_trans (gr_trans (gr_trans hG2 hg3) hg4) hg5) hg6)⟩
  rw [hC] at HCF
  obtain ⟨cz, ca, cz2, cn, cl⟩ := cheapE_ok hC
  obtain ⟨rn0, rn1, rl0, rl1⟩ : 0 ≤ nd ∧ nd ≤ z - a ∧ 1000 ≤ ls ∧ ls ≤ 86400000 := by
    rcases hRC with h | h
    · exact h.2
    · omega
  have qa := remM_no ca a0
  have qz := remM_no cz2 (by omega)
  have qn := remM_no cn rn0
  have ql := remM_no cl (by omega)
  obtain ⟨N, hN⟩ : ∃ N : Nat, z = a + 1000 * (N : Int) := ⟨((z - a) / 1000).toNat, by omega⟩
  obtain ⟨need, hneed⟩ : ∃ N : Nat, nd = 1000 * (N : Int) := ⟨(nd / 1000).toNat, by omega⟩
  obtain ⟨L, hL⟩ : ∃ N : Nat, ls = 1000 * (N : Int) := ⟨(ls / 1000).toNat, by omega⟩
  have hnE : needE l a z nd ls = 0 := by unfold needE; rw [orE_z hE]; exact hR
  have HCH := Lib.hid (fun W (h : IntsFrom (b + 1) W v l) => cheapest_ok (b + 1) v l a z nd ls N L need W h hnE hE hN hneed hL ca (by omega) (by omega) (by omega) (by omega) (by omega))
  have HIN : Hid (∀ (W : World) (x y : Int), IntsFrom (b + 1) W v l → a ≤ x → x ≤ y → y ≤ z → Calls Tryd.prog 10 #[v, .agg #[.int .i64 a, .int .i64 z], .agg #[.int .i64 x, .int .i64 y]] W fun r w' => r = .returned (.tuple #[.int .i64 (manyI l x y), .int .i64 0]) ∧ W.grownBy w' none) := fun W x y h h1 h2 h3 => by
    have := in_ok (b + 1) v l a z x y W h hE
    rw [winE_0 (by omega)] at this
    exact this
  have HLEN : Hid (l.length ≤ 2000) := by show _ ≤ _; omega
  have hN24 : N ≤ 24 ∧ 0 < N ∧ need ≤ N ∧ 0 < L := by omega
  have HZ := Lib.hid hN
  have HND := Lib.hid hneed
  have HLS := Lib.hid hL
  clear hE hR hC hRC cz ca cz2 cn cl qa qz qn ql hN hneed hL hnE O rn1 rl1
  obtain ⟨hN24, hN0, hneN, hL0⟩ := hN24
  go_wp2_with fail
  refine (HTF.out _ hv2).mono ?_
  rintro _ w3 ⟨rfl, hg3⟩
  have hX3 := hX0.grown hg3 (by simp)
  have hY3 := hY0.grown hg3 (by simp)
  clear x0 x1 y0 y1
  obtain ⟨x0, x1⟩ := hX3.cells2
  obtain ⟨y0, y1⟩ := hY3.cells2
  go_wp2_with fail
  refine (HRF.out _).mono ?_
  rintro _ w4 ⟨rfl, hg4⟩
  have hX4 := hX3.grown hg4 (by simp)
  have hY4 := hY3.grown hg4 (by simp)
  clear x0 x1 y0 y1
  obtain ⟨x0, x1⟩ := hX4.cells2
  obtain ⟨y0, y1⟩ := hY4.cells2
  go_wp2_with fail
  refine (HCF.out _).mono ?_
  rintro _ w5 ⟨rfl, hg5⟩
  have hX5 := hX4.grown hg5 (by simp)
  have hY5 := hY4.grown hg5 (by simp)
  have hg25 := gr_trans (gr_trans hg3 hg4) hg5
  have hG5 := gr_trans hG2 hg25
  have hv5 := hv2.grown hg25
  have hs5 := hs2.grown hg25 (by simp)
  clear x0 x1 y0 y1 hX0 hY0 hX3 hY3 hX4 hY4 hg3 hg4 hg5 hg25 hG2 hv2 hs2 HTF HRF HCF
  obtain ⟨x0, x1⟩ := hX5.cells2
  obtain ⟨y0, y1⟩ := hY5.cells2
  go_wp2_with fail
  refine (HCH.out _ hv5).mono ?_
  rintro _ w6 hpost
  rcases hpost with ⟨hb0, rfl, hg6⟩ | ⟨u, best, hb1, rfl, hu, hg6⟩
  · have hpos := cheap_none l a N L need hb0 hneN
    have hndp : 0 < nd := by have := HND.out; omega
    have hY6 := hY5.grown hg6 (by simp)
    have hG6 := gr_trans hG5 hg6
    clear x0 x1 y0 y1 hX5 hY5 hb0 hpos
    obtain ⟨y0, y1⟩ := hY6.cells2
    go_wp2_with fail
    go_loopw [11, 12, 59] (fun p q i wr => p = .int .i64 0 ∧ q = .int .i64 0 ∧ i = .int .i64 0 ∧ wr = w6) (fun _ _ _ _ => 0)
    case atStart => exact ⟨rfl, rfl, rfl, rfl⟩
    case round =>
      obtain ⟨rfl, rfl, rfl, rfl⟩ := hrel
      go_wp2_with fail
      refine (HREADY.out _ hG6).mono ?_
      rintro _ w7 ⟨rfl, hg7⟩
      go_wp2_with fail
      go_ret
      exact ⟨rfl, gr_below (gr_trans hG6 hg7)⟩
  · obtain ⟨ok, nb, bn, m0, m2⟩ := cheapOk l a z nd ls N L need best HZ.out HND.out HLS.out hL0 hneN hb1
    generalize scaleW a (winsT N L (manyM l a) (N + 2) 0 best) = R at *
    generalize (outT N L (manyM l a) 0 best).1 = M at *
    have OKK := Lib.hid ok
    have hX6 := hX5.grown hg6 (by simp)
    have hY6 := hY5.grown hg6 (by simp)
    have hG6 := gr_trans hG5 hg6
    have hv6 := hv5.grown hg6
    have hs6 := hs5.grown hg6 (by simp)
    obtain ⟨A2, c2, rfl, hl8, hA2⟩ := hu.shape
    have HU := Lib.hid hu
    have HA2 := Lib.hid hA2
    have hRl := ok.len
    have hX6l := hX6.lt
    clear hb1 ok hu hA2 x0 x1 y0 y1 hX5 hY5 hs5 hv5 hG5 hg6
    go_wp2_with fail
    go_loopw [11, 12, 59] (fun p q i wr => ∃ k : Nat, k ≤ R.length ∧ p = .int .i64 (sumW (R.take k)) ∧ q = .int .i64 (sumMW l (R.take k)) ∧ i = .int .i64 k ∧ w6.grownBy wr none) (fun _ _ i _ => R.length - (intOf i).toNat)
    case atStart => exact ⟨0, by omega, rfl, rfl, rfl, gr_refl _ _⟩
    case round =>
      obtain ⟨k, hk, rfl, rfl, rfl, hgr⟩ := hrel
      have hxr := hX6.grown hgr (by simp)
      have hyr := hY6.grown hgr (by simp)
      have hvr := hv6.grown hgr
      have hsr := hs6.grown hgr (by simp)
      have hGr := gr_trans hG6 hgr
      have hbw : b < wr.heap.size := hsr.lt
      have hxl := hxr.lt
      have hyl := hyr.lt
      obtain ⟨x0, x1⟩ := hxr.cells2
      obtain ⟨y0, y1⟩ := hyr.cells2
      by_cases hlt : k < R.length
      · obtain ⟨g, rfl, hg0, _⟩ := HA2.out (by omega)
        obtain ⟨q1, q2⟩ := (HU.out.grown hgr).at1 k hlt
        obtain ⟨p0, p1, p2⟩ := OKK.out.at_ k hlt
        have hsn := sumW_snoc R k hlt
        have hsm := sumMW_snoc l R k hlt
        have hsb := (sumMW_bd l R HLEN.out k (by omega))
        have hmb := manyI_bd l R[k].1 R[k].2
        have hsw := sumW_bd R (fun p hp => by
          obtain ⟨j, hj, rfl⟩ := List.mem_iff_getElem.1 hp
          have := OKK.out.at_ j hj
          omega) k (by omega)
        have hlen2 := HLEN.out
        have HPV : Hid (∀ j, k = j + 1 → ∃ y', wr.cell? ⟨g, j * 2 + 1, none⟩ = some (.int .i64 y') ∧ y' < R[k].1) := fun j hj => by
          subst hj
          exact ⟨_, ((HU.out.grown hgr).at1 j (by omega)).2, OKK.out.apart j hlt⟩
        generalize R[k].1 = x at *
        generalize R[k].2 = y at *
        generalize hT1 : sumW (R.take k) = T1 at *
        generalize hT2 : sumMW l (R.take k) = T2 at *
        generalize hM2 : manyI l x y = M2 at *
        have HI := Lib.hid (HIN.out (wr.alloc (.cells #[.int .i64 x, .int .i64 y] 27)) x y (hvr.grown (World.grownBy_alloc wr _ none)) p0 (by omega) p2)
        rw [hM2] at HI
        have HS1 : Hid (sumW (R.take (k + 1)) = T1 + (y - x)) := by show _ = _; rw [hsn]
        have HS2 : Hid (sumMW l (R.take (k + 1)) = T2 + M2) := by show _ = _; rw [hsm]
        have hki : (k : Int) < (R.length : Int) := by omega
        have hk26 : k ≤ 26 := by omega
        have hnl : decide (y - x < ls) = false := by simp; omega
        have e1 : IntKind.i64.wrap (y - x) = y - x := by rw [IntKind.wrap_i64]; omega
        clear hsn hsm hT1 hT2 hM2
        go_wp2_with fail
        have hB := Blk.new wr 27 #[.int .i64 x, .int .i64 y]
        have hxa := hxr.alloc (.cells #[.int .i64 x, .int .i64 y] 27)
        have hya := hyr.alloc (.cells #[.int .i64 x, .int .i64 y] 27)
        have hga := World.grownBy_alloc wr (.cells #[.int .i64 x, .int .i64 y] 27) none
        refine HI.out.mono ?_
        rintro _ w9 ⟨rfl, hg9⟩
        have hB9 := hB.grown hg9 (by simp)
        have hx9 := hxa.grown hg9 (by simp)
        have hy9 := hya.grown hg9 (by simp)
        have hgE := gr_trans hgr (gr_trans hga hg9)
        have hgC := gr_trans hga hg9
        clear q1 q2 x0 x1 y0 y1 hB hxa hya hga hg9 HI
        obtain ⟨u0, u1⟩ := hB9.cells2
        obtain ⟨x0, x1⟩ := hx9.cells2
        obtain ⟨y0, y1⟩ := hy9.cells2
        generalize wr.heap.size = gW at *
        rcases Nat.eq_zero_or_pos k with hk0 | hk0
        · have hkn : ¬ (0 : Int) < (k : Int) := by omega
          clear HPV
          go_wp2_with fail
          refine wp_region_held_drew (S := fun W => W.cell? ⟨gW, 0, none⟩ = some (.int .i64 x) ∧ W.cell? ⟨gW, 1, none⟩ = some (.int .i64 y) ∧ W.cell? ⟨gX + 1, 1, none⟩ = some (.int .i64 ls)) (by kernel_rfl) ⟨u0, u1, y1⟩ (fun hHeld => ?_)
          refine wpAnyH_take (i := 0) (v := ?_) rfl (by kernel_rfl) (by kernel_rfl) (by kernel_rfl) (fun _ _ _ h => h) (Or.inl ⟨by kernel_rfl, ?_⟩) hHeld ?_
          rotate_left
          · intro w hSw
            (try dsimp only at hSw)
            obtain ⟨hS0, hS1, hS2⟩ := hSw
            go_simp
            (try with_reducible rfl)
          change wpAnyH _ _ _ _ _ _ _ (Act.put _ (some 71) _) _
          simp only [Act.put, List.setIfInBounds_toArray, List.set_cons_zero, List.set_cons_succ]
          refine wpAnyH_take (i := 1) (v := ?_) rfl (by kernel_rfl) (by kernel_rfl) (by kernel_rfl) (fun _ _ _ h => h) (Or.inl ⟨by kernel_rfl, ?_⟩) hHeld ?_
          rotate_left
          · intro w hSw
            (try dsimp only at hSw)
            obtain ⟨hS0, hS1, hS2⟩ := hSw
            go_simp
            (try with_reducible rfl)
          change wpAnyH _ _ _ _ _ _ _ (Act.put _ (some 72) _) _
          simp only [Act.put, List.setIfInBounds_toArray, List.set_cons_zero, List.set_cons_succ]
          refine wpAnyH_take (i := 2) (v := ?_) rfl (by kernel_rfl) (by kernel_rfl) (by kernel_rfl) (fun _ _ _ h => h) (Or.inl ⟨by kernel_rfl, ?_⟩) hHeld ?_
          rotate_left
          · intro w hSw
            (try dsimp only at hSw)
            obtain ⟨hS0, hS1, hS2⟩ := hSw
            go_simp
            (try with_reducible rfl)
          change wpAnyH _ _ _ _ _ _ _ (Act.put _ (some 73) _) _
          simp only [Act.put, List.setIfInBounds_toArray, List.set_cons_zero, List.set_cons_succ]
          refine wpAnyH_take (i := 3) (v := ?_) rfl (by kernel_rfl) (by kernel_rfl) (by kernel_rfl) (fun _ _ _ h => h) (Or.inl ⟨by kernel_rfl, ?_⟩) hHeld ?_
          rotate_left
          · intro w hSw
            (try dsimp only at hSw)
            obtain ⟨hS0, hS1, hS2⟩ := hSw
            go_simp
            (try with_reducible rfl)
          change wpAnyH _ _ _ _ _ _ _ (Act.put _ (some 74) _) _
          simp only [Act.put, List.setIfInBounds_toArray, List.set_cons_zero, List.set_cons_succ]
          refine wpAnyH_take (i := 4) (v := ?_) rfl (by kernel_rfl) (by kernel_rfl) (by kernel_rfl) (fun _ _ _ h => h) (Or.inl ⟨by kernel_rfl, ?_⟩) hHeld ?_
          rotate_left
          · intro w hSw
            (try dsimp only at hSw)
            obtain ⟨hS0, hS1, hS2⟩ := hSw
            go_simp
            (try with_reducible rfl)
          change wpAnyH _ _ _ _ _ _ _ (Act.put _ (some 75) _) _
          simp only [Act.put, List.setIfInBounds_toArray, List.set_cons_zero, List.set_cons_succ]
          refine wpAnyH_take (i := 5) (v := ?_) rfl (by kernel_rfl) (by kernel_rfl) (by kernel_rfl) (fun _ _ _ h => h) (Or.inl ⟨by kernel_rfl, ?_⟩) hHeld ?_
          rotate_left
          · intro w hSw
            (try dsimp only at hSw)
            obtain ⟨hS0, hS1, hS2⟩ := hSw
            go_simp
            (try with_reducible rfl)
          change wpAnyH _ _ _ _ _ _ _ (Act.put _ (some 76) _) _
          simp only [Act.put, List.setIfInBounds_toArray, List.set_cons_zero, List.set_cons_succ]
          refine wpAnyH_take (i := 6) (v := ?_) rfl (by kernel_rfl) (by kernel_rfl) (by kernel_rfl) (fun _ _ _ h => h) (Or.inl ⟨by kernel_rfl, ?_⟩) hHeld ?_
          rotate_left
          · intro w hSw
            (try dsimp only at hSw)
            obtain ⟨hS0, hS1, hS2⟩ := hSw
            go_simp
            (try with_reducible rfl)
          change wpAnyH _ _ _ _ _ _ _ (Act.put _ (some 77) _) _
          simp only [Act.put, List.setIfInBounds_toArray, List.set_cons_zero, List.set_cons_succ]
          refine wpAnyH_take (i := 7) (v := ?_) rfl (by kernel_rfl) (by kernel_rfl) (by kernel_rfl) (fun _ _ _ h => h) (Or.inl ⟨by kernel_rfl, ?_⟩) hHeld ?_
          rotate_left
          · intro w hSw
            (try dsimp only at hSw)
            obtain ⟨hS0, hS1, hS2⟩ := hSw
            go_simp
            (try with_reducible rfl)
          change wpAnyH _ _ _ _ _ _ _ (Act.put _ (some 78) _) _
          simp only [Act.put, List.setIfInBounds_toArray, List.set_cons_zero, List.set_cons_succ]
          refine wpAnyH_take (i := 8) (v := ?_) rfl (by kernel_rfl) (by kernel_rfl) (by kernel_rfl) (fun _ _ _ h => h) (Or.inl ⟨by kernel_rfl, ?_⟩) hHeld ?_
          rotate_left
          · intro w hSw
            (try dsimp only at hSw)
            obtain ⟨hS0, hS1, hS2⟩ := hSw
            go_simp
            (try with_reducible rfl)
          change wpAnyH _ _ _ _ _ _ _ (Act.put _ (some 79) _) _
          simp only [Act.put, List.setIfInBounds_toArray, List.set_cons_zero, List.set_cons_succ]
          refine wpAnyH_take (i := 9) (v := ?_) rfl (by kernel_rfl) (by kernel_rfl) (by kernel_rfl) (fun _ _ _ h => h) (Or.inl ⟨by kernel_rfl, ?_⟩) hHeld ?_
          rotate_left
          · intro w hSw
            (try dsimp only at hSw)
            obtain ⟨hS0, hS1, hS2⟩ := hSw
            go_simp
            (try with_reducible rfl)
          change wpAnyH _ _ _ _ _ _ _ (Act.put _ (some 80) _) _
          simp only [Act.put, List.setIfInBounds_toArray, List.set_cons_zero, List.set_cons_succ]
          refine wpAnyH_take (i := 10) (v := ?_) rfl (by kernel_rfl) (by kernel_rfl) (by kernel_rfl) (fun _ _ _ h => h) (Or.inl ⟨by kernel_rfl, ?_⟩) hHeld ?_
          rotate_left
          · intro w hSw
            (try dsimp only at hSw)
            obtain ⟨hS0, hS1, hS2⟩ := hSw
            go_simp
            (try with_reducible rfl)
          change wpAnyH _ _ _ _ _ _ _ (Act.put _ (some 81) _) _
          simp only [Act.put, List.setIfInBounds_toArray, List.set_cons_zero, List.set_cons_succ]
          refine wpAnyH_take (i := 11) (v := ?_) rfl (by kernel_rfl) (by kernel_rfl) (by kernel_rfl) (fun _ _ _ h => h) (Or.inl ⟨by kernel_rfl, ?_⟩) hHeld ?_
          rotate_left
          · intro w hSw
            (try dsimp only at hSw)
            obtain ⟨hS0, hS1, hS2⟩ := hSw
            go_simp
            (try with_reducible rfl)
          change wpAnyH _ _ _ _ _ _ _ (Act.put _ (some 82) _) _
          simp only [Act.put, List.setIfInBounds_toArray, List.set_cons_zero, List.set_cons_succ]
          refine wpAnyH_take (i := 12) (v := ?_) rfl (by kernel_rfl) (by kernel_rfl) (by kernel_rfl) (fun _ _ _ h => h) (Or.inl ⟨by kernel_rfl, ?_⟩) hHeld ?_
          rotate_left
          · intro w hSw
            (try dsimp only at hSw)
            obtain ⟨hS0, hS1, hS2⟩ := hSw
            go_simp
            (try with_reducible rfl)
          change wpAnyH _ _ _ _ _ _ _ (Act.put _ (some 83) _) _
          simp only [Act.put, List.setIfInBounds_toArray, List.set_cons_zero, List.set_cons_succ]
          refine wpAnyH_take (i := 13) (v := ?_) rfl (by kernel_rfl) (by kernel_rfl) (by kernel_rfl) (fun _ _ _ h => h) (Or.inl ⟨by kernel_rfl, ?_⟩) hHeld ?_
          rotate_left
          · intro w hSw
            (try dsimp only at hSw)
            obtain ⟨hS0, hS1, hS2⟩ := hSw
            go_simp
            (try with_reducible rfl)
          change wpAnyH _ _ _ _ _ _ _ (Act.put _ (some 84) _) _
          simp only [Act.put, List.setIfInBounds_toArray, List.set_cons_zero, List.set_cons_succ]
          refine wpAnyH_take (i := 14) (v := ?_) rfl (by kernel_rfl) (by kernel_rfl) (by kernel_rfl) (fun _ _ _ h => h) (Or.inl ⟨by kernel_rfl, ?_⟩) hHeld ?_
          rotate_left
          · intro w hSw
            (try dsimp only at hSw)
            obtain ⟨hS0, hS1, hS2⟩ := hSw
            go_simp
            (try with_reducible rfl)
          change wpAnyH _ _ _ _ _ _ _ (Act.put _ (some 85) _) _
          simp only [Act.put, List.setIfInBounds_toArray, List.set_cons_zero, List.set_cons_succ]
          refine wpAnyH_take (i := 15) (v := ?_) rfl (by kernel_rfl) (by kernel_rfl) (by kernel_rfl) (fun _ _ _ h => h) (Or.inl ⟨by kernel_rfl, ?_⟩) hHeld ?_
          rotate_left
          · intro w hSw
            (try dsimp only at hSw)
            obtain ⟨hS0, hS1, hS2⟩ := hSw
            go_simp
            (try with_reducible rfl)
          change wpAnyH _ _ _ _ _ _ _ (Act.put _ (some 86) _) _
          simp only [Act.put, List.setIfInBounds_toArray, List.set_cons_zero, List.set_cons_succ]
          refine wpAnyH_take (i := 16) (v := undef) rfl (by kernel_rfl) (by kernel_rfl) (by kernel_rfl) (fun _ _ _ h => h) (Or.inr ⟨by kernel_rfl, rfl⟩) hHeld ?_
          change wpAnyH _ _ _ _ _ _ _ (Act.put _ (some 87) _) _
          simp only [Act.put, List.setIfInBounds_toArray, List.set_cons_zero, List.set_cons_succ]
          refine wpAnyH_take (i := 17) (v := undef) rfl (by kernel_rfl) (by kernel_rfl) (by kernel_rfl) (fun _ _ _ h => h) (Or.inr ⟨by kernel_rfl, rfl⟩) hHeld ?_
          change wpAnyH _ _ _ _ _ _ _ (Act.put _ (some 88) _) _
          simp only [Act.put, List.setIfInBounds_toArray, List.set_cons_zero, List.set_cons_succ]
          refine wpAnyH_take (i := 18) (v := undef) rfl (by kernel_rfl) (by kernel_rfl) (by kernel_rfl) (fun _ _ _ h => h) (Or.inr ⟨by kernel_rfl, rfl⟩) hHeld ?_
          change wpAnyH _ _ _ _ _ _ _ (Act.put _ (some 89) _) _
          simp only [Act.put, List.setIfInBounds_toArray, List.set_cons_zero, List.set_cons_succ]
          refine wpAnyH_take (i := 19) (v := undef) rfl (by kernel_rfl) (by kernel_rfl) (by kernel_rfl) (fun _ _ _ h => h) (Or.inr ⟨by kernel_rfl, rfl⟩) hHeld ?_
          change wpAnyH _ _ _ _ _ _ _ (Act.put _ (some 90) _) _
          simp only [Act.put, List.setIfInBounds_toArray, List.set_cons_zero, List.set_cons_succ]
          refine wpAnyH_take (i := 20) (v := undef) rfl (by kernel_rfl) (by kernel_rfl) (by kernel_rfl) (fun _ _ _ h => h) (Or.inr ⟨by kernel_rfl, rfl⟩) hHeld ?_
          change wpAnyH _ _ _ _ _ _ _ (Act.put _ (some 91) _) _
          simp only [Act.put, List.setIfInBounds_toArray, List.set_cons_zero, List.set_cons_succ]
          refine wpAnyH_take (i := 21) (v := undef) rfl (by kernel_rfl) (by kernel_rfl) (by kernel_rfl) (fun _ _ _ h => h) (Or.inr ⟨by kernel_rfl, rfl⟩) hHeld ?_
          change wpAnyH _ _ _ _ _ _ _ (Act.put _ (some 92) _) _
          simp only [Act.put, List.setIfInBounds_toArray, List.set_cons_zero, List.set_cons_succ]
          refine wpAnyH_take (i := 22) (v := undef) rfl (by kernel_rfl) (by kernel_rfl) (by kernel_rfl) (fun _ _ _ h => h) (Or.inr ⟨by kernel_rfl, rfl⟩) hHeld ?_
          change wpAnyH _ _ _ _ _ _ _ (Act.put _ (some 93) _) _
          simp only [Act.put, List.setIfInBounds_toArray, List.set_cons_zero, List.set_cons_succ]
          refine wpAnyH_take (i := 23) (v := undef) rfl (by kernel_rfl) (by kernel_rfl) (by kernel_rfl) (fun _ _ _ h => h) (Or.inr ⟨by kernel_rfl, rfl⟩) hHeld ?_
          change wpAnyH _ _ _ _ _ _ _ (Act.put _ (some 94) _) _
          simp only [Act.put, List.setIfInBounds_toArray, List.set_cons_zero, List.set_cons_succ]
          refine wpAnyH_take (i := 24) (v := undef) rfl (by kernel_rfl) (by kernel_rfl) (by kernel_rfl) (fun _ _ _ h => h) (Or.inr ⟨by kernel_rfl, rfl⟩) hHeld ?_
          change wpAnyH _ _ _ _ _ _ _ (Act.put _ (some 95) _) _
          simp only [Act.put, List.setIfInBounds_toArray, List.set_cons_zero, List.set_cons_succ]
          refine wpAnyH_take (i := 25) (v := ?_) rfl (by kernel_rfl) (by kernel_rfl) (by kernel_rfl) (fun _ _ _ h => h) (Or.inl ⟨by kernel_rfl, ?_⟩) hHeld ?_
          rotate_left
          · intro w hSw
            (try dsimp only at hSw)
            obtain ⟨hS0, hS1, hS2⟩ := hSw
            go_simp
            (try with_reducible rfl)
          change wpAnyH _ _ _ _ _ _ _ (Act.put _ (some 96) _) _
          simp only [Act.put, List.setIfInBounds_toArray, List.set_cons_zero, List.set_cons_succ]
          refine wpAnyH_take (i := 26) (v := ?_) rfl (by kernel_rfl) (by kernel_rfl) (by kernel_rfl) (fun _ _ _ h => h) (Or.inl ⟨by kernel_rfl, ?_⟩) hHeld ?_
          rotate_left
          · intro w hSw
            (try dsimp only at hSw)
            obtain ⟨hS0, hS1, hS2⟩ := hSw
            go_simp
            (try with_reducible rfl)
          change wpAnyH _ _ _ _ _ _ _ (Act.put _ (some 97) _) _
          simp only [Act.put, List.setIfInBounds_toArray, List.set_cons_zero, List.set_cons_succ]
          refine wpAnyH_done (by kernel_rfl) ?_ _
          go_wp2_with fail
          go_roundw
          case rel => exact ⟨k + 1, by omega, by rw [HS1.out], by rw [HS2.out], by go_num, gr_drew hgE⟩
          case measure => simp [intOf]; omega
        · obtain ⟨j, hj⟩ : ∃ j, k = j + 1 := ⟨k - 1, by omega⟩
          obtain ⟨y', hy', hyx⟩ := HPV.out j hj
          have hy'2 := cell_stay hy' hgC (by simp)
          have hkn : decide ((0 : Int) < (k : Int)) = true := by simp; omega
          have hkn2 : (0 : Int) < (k : Int) := by omega
          have e2 : IntKind.i64.wrap ((k : Int) - 1) = (j : Int) := by rw [show (k : Int) - 1 = (j : Int) by omega, IntKind.wrap_i64]; omega
          have e3 : IntKind.i64.wrap (j : Int) = (j : Int) := by rw [IntKind.wrap_i64]; omega
          have hj0 : (0 : Int) ≤ (j : Int) := by omega
          have hj1 : (j : Int) < (R.length : Int) := by omega
          have hj2 : j < R.length := by omega
          have hnx : decide (x ≤ y') = false := by simp; omega
          have HJ := Lib.hid hj
          clear HPV hj hy'
          go_wp2_with fail
          refine wp_region_held_drew (S := fun W => W.cell? ⟨gW, 0, none⟩ = some (.int .i64 x) ∧ W.cell? ⟨gW, 1, none⟩ = some (.int .i64 y) ∧ W.cell? ⟨gX + 1, 1, none⟩ = some (.int .i64 ls) ∧ W.cell? ⟨g, j * 2 + 1, none⟩ = some (.int .i64 y')) (by kernel_rfl) ⟨u0, u1, y1, hy'2⟩ (fun hHeld => ?_)
          refine wpAnyH_take (i := 0) (v := ?_) rfl (by kernel_rfl) (by kernel_rfl) (by kernel_rfl) (fun _ _ _ h => h) (Or.inl ⟨by kernel_rfl, ?_⟩) hHeld ?_
          rotate_left
          · intro w hSw
            (try dsimp only at hSw)
            obtain ⟨hS0, hS1, hS2, hS3⟩ := hSw
            go_simp
            (try with_reducible rfl)
          change wpAnyH _ _ _ _ _ _ _ (Act.put _ (some 71) _) _
          simp only [Act.put, List.setIfInBounds_toArray, List.set_cons_zero, List.set_cons_succ]
          refine wpAnyH_take (i := 1) (v := ?_) rfl (by kernel_rfl) (by kernel_rfl) (by kernel_rfl) (fun _ _ _ h => h) (Or.inl ⟨by kernel_rfl, ?_⟩) hHeld ?_
          rotate_left
          · intro w hSw
            (try dsimp only at hSw)
            obtain ⟨hS0, hS1, hS2, hS3⟩ := hSw
            go_simp
            (try with_reducible rfl)
          change wpAnyH _ _ _ _ _ _ _ (Act.put _ (some 72) _) _
          simp only [Act.put, List.setIfInBounds_toArray, List.set_cons_zero, List.set_cons_succ]
          refine wpAnyH_take (i := 2) (v := ?_) rfl (by kernel_rfl) (by kernel_rfl) (by kernel_rfl) (fun _ _ _ h => h) (Or.inl ⟨by kernel_rfl, ?_⟩) hHeld ?_
          rotate_left
          · intro w hSw
            (try dsimp only at hSw)
            obtain ⟨hS0, hS1, hS2, hS3⟩ := hSw
            go_simp
            (try with_reducible rfl)
          change wpAnyH _ _ _ _ _ _ _ (Act.put _ (some 73) _) _
          simp only [Act.put, List.setIfInBounds_toArray, List.set_cons_zero, List.set_cons_succ]
          refine wpAnyH_take (i := 3) (v := ?_) rfl (by kernel_rfl) (by kernel_rfl) (by kernel_rfl) (fun _ _ _ h => h) (Or.inl ⟨by kernel_rfl, ?_⟩) hHeld ?_
          rotate_left
          · intro w hSw
            (try dsimp only at hSw)
            obtain ⟨hS0, hS1, hS2, hS3⟩ := hSw
            go_simp
            (try with_reducible rfl)
          change wpAnyH _ _ _ _ _ _ _ (Act.put _ (some 74) _) _
          simp only [Act.put, List.setIfInBounds_toArray, List.set_cons_zero, List.set_cons_succ]
          refine wpAnyH_take (i := 4) (v := ?_) rfl (by kernel_rfl) (by kernel_rfl) (by kernel_rfl) (fun _ _ _ h => h) (Or.inl ⟨by kernel_rfl, ?_⟩) hHeld ?_
          rotate_left
          · intro w hSw
            (try dsimp only at hSw)
            obtain ⟨hS0, hS1, hS2, hS3⟩ := hSw
            go_simp
            (try with_reducible rfl)
          change wpAnyH _ _ _ _ _ _ _ (Act.put _ (some 75) _) _
          simp only [Act.put, List.setIfInBounds_toArray, List.set_cons_zero, List.set_cons_succ]
          refine wpAnyH_take (i := 5) (v := ?_) rfl (by kernel_rfl) (by kernel_rfl) (by kernel_rfl) (fun _ _ _ h => h) (Or.inl ⟨by kernel_rfl, ?_⟩) hHeld ?_
          rotate_left
          · intro w hSw
            (try dsimp only at hSw)
            obtain ⟨hS0, hS1, hS2, hS3⟩ := hSw
            go_simp
            (try with_reducible rfl)
          change wpAnyH _ _ _ _ _ _ _ (Act.put _ (some 76) _) _
          simp only [Act.put, List.setIfInBounds_toArray, List.set_cons_zero, List.set_cons_succ]
          refine wpAnyH_take (i := 6) (v := ?_) rfl (by kernel_rfl) (by kernel_rfl) (by kernel_rfl) (fun _ _ _ h => h) (Or.inl ⟨by kernel_rfl, ?_⟩) hHeld ?_
          rotate_left
          · intro w hSw
            (try dsimp only at hSw)
            obtain ⟨hS0, hS1, hS2, hS3⟩ := hSw
            go_simp
            (try with_reducible rfl)
          change wpAnyH _ _ _ _ _ _ _ (Act.put _ (some 77) _) _
          simp only [Act.put, List.setIfInBounds_toArray, List.set_cons_zero, List.set_cons_succ]
          refine wpAnyH_take (i := 7) (v := ?_) rfl (by kernel_rfl) (by kernel_rfl) (by kernel_rfl) (fun _ _ _ h => h) (Or.inl ⟨by kernel_rfl, ?_⟩) hHeld ?_
          rotate_left
          · intro w hSw
            (try dsimp only at hSw)
            obtain ⟨hS0, hS1, hS2, hS3⟩ := hSw
            go_simp
            (try with_reducible rfl)
          change wpAnyH _ _ _ _ _ _ _ (Act.put _ (some 78) _) _
          simp only [Act.put, List.setIfInBounds_toArray, List.set_cons_zero, List.set_cons_succ]
          refine wpAnyH_take (i := 8) (v := ?_) rfl (by kernel_rfl) (by kernel_rfl) (by kernel_rfl) (fun _ _ _ h => h) (Or.inl ⟨by kernel_rfl, ?_⟩) hHeld ?_
          rotate_left
          · intro w hSw
            (try dsimp only at hSw)
            obtain ⟨hS0, hS1, hS2, hS3⟩ := hSw
            go_simp
            (try with_reducible rfl)
          change wpAnyH _ _ _ _ _ _ _ (Act.put _ (some 79) _) _
          simp only [Act.put, List.setIfInBounds_toArray, List.set_cons_zero, List.set_cons_succ]
          refine wpAnyH_take (i := 9) (v := ?_) rfl (by kernel_rfl) (by kernel_rfl) (by kernel_rfl) (fun _ _ _ h => h) (Or.inl ⟨by kernel_rfl, ?_⟩) hHeld ?_
          rotate_left
          · intro w hSw
            (try dsimp only at hSw)
            obtain ⟨hS0, hS1, hS2, hS3⟩ := hSw
            go_simp
            (try with_reducible rfl)
          change wpAnyH _ _ _ _ _ _ _ (Act.put _ (some 80) _) _
          simp only [Act.put, List.setIfInBounds_toArray, List.set_cons_zero, List.set_cons_succ]
          refine wpAnyH_take (i := 10) (v := ?_) rfl (by kernel_rfl) (by kernel_rfl) (by kernel_rfl) (fun _ _ _ h => h) (Or.inl ⟨by kernel_rfl, ?_⟩) hHeld ?_
          rotate_left
          · intro w hSw
            (try dsimp only at hSw)
            obtain ⟨hS0, hS1, hS2, hS3⟩ := hSw
            go_simp
            (try with_reducible rfl)
          change wpAnyH _ _ _ _ _ _ _ (Act.put _ (some 81) _) _
          simp only [Act.put, List.setIfInBounds_toArray, List.set_cons_zero, List.set_cons_succ]
          refine wpAnyH_take (i := 11) (v := ?_) rfl (by kernel_rfl) (by kernel_rfl) (by kernel_rfl) (fun _ _ _ h => h) (Or.inl ⟨by kernel_rfl, ?_⟩) hHeld ?_
          rotate_left
          · intro w hSw
            (try dsimp only at hSw)
            obtain ⟨hS0, hS1, hS2, hS3⟩ := hSw
            go_simp
            (try with_reducible rfl)
          change wpAnyH _ _ _ _ _ _ _ (Act.put _ (some 82) _) _
          simp only [Act.put, List.setIfInBounds_toArray, List.set_cons_zero, List.set_cons_succ]
          refine wpAnyH_take (i := 12) (v := ?_) rfl (by kernel_rfl) (by kernel_rfl) (by kernel_rfl) (fun _ _ _ h => h) (Or.inl ⟨by kernel_rfl, ?_⟩) hHeld ?_
          rotate_left
          · intro w hSw
            (try dsimp only at hSw)
            obtain ⟨hS0, hS1, hS2, hS3⟩ := hSw
            go_simp
            (try with_reducible rfl)
          change wpAnyH _ _ _ _ _ _ _ (Act.put _ (some 83) _) _
          simp only [Act.put, List.setIfInBounds_toArray, List.set_cons_zero, List.set_cons_succ]
          refine wpAnyH_take (i := 13) (v := ?_) rfl (by kernel_rfl) (by kernel_rfl) (by kernel_rfl) (fun _ _ _ h => h) (Or.inl ⟨by kernel_rfl, ?_⟩) hHeld ?_
          rotate_left
          · intro w hSw
            (try dsimp only at hSw)
            obtain ⟨hS0, hS1, hS2, hS3⟩ := hSw
            go_simp
            (try with_reducible rfl)
          change wpAnyH _ _ _ _ _ _ _ (Act.put _ (some 84) _) _
          simp only [Act.put, List.setIfInBounds_toArray, List.set_cons_zero, List.set_cons_succ]
          refine wpAnyH_take (i := 14) (v := ?_) rfl (by kernel_rfl) (by kernel_rfl) (by kernel_rfl) (fun _ _ _ h => h) (Or.inl ⟨by kernel_rfl, ?_⟩) hHeld ?_
          rotate_left
          · intro w hSw
            (try dsimp only at hSw)
            obtain ⟨hS0, hS1, hS2, hS3⟩ := hSw
            go_simp
            (try with_reducible rfl)
          change wpAnyH _ _ _ _ _ _ _ (Act.put _ (some 85) _) _
          simp only [Act.put, List.setIfInBounds_toArray, List.set_cons_zero, List.set_cons_succ]
          refine wpAnyH_take (i := 15) (v := ?_) rfl (by kernel_rfl) (by kernel_rfl) (by kernel_rfl) (fun _ _ _ h => h) (Or.inl ⟨by kernel_rfl, ?_⟩) hHeld ?_
          rotate_left
          · intro w hSw
            (try dsimp only at hSw)
            obtain ⟨hS0, hS1, hS2, hS3⟩ := hSw
            go_simp
            (try with_reducible rfl)
          change wpAnyH _ _ _ _ _ _ _ (Act.put _ (some 86) _) _
          simp only [Act.put, List.setIfInBounds_toArray, List.set_cons_zero, List.set_cons_succ]
          refine wpAnyH_take (i := 16) (v := ?_) rfl (by kernel_rfl) (by kernel_rfl) (by kernel_rfl) (fun _ _ _ h => h) (Or.inl ⟨by kernel_rfl, ?_⟩) hHeld ?_
          rotate_left
          · intro w hSw
            (try dsimp only at hSw)
            obtain ⟨hS0, hS1, hS2, hS3⟩ := hSw
            go_simp
            (try with_reducible rfl)
          change wpAnyH _ _ _ _ _ _ _ (Act.put _ (some 87) _) _
          simp only [Act.put, List.setIfInBounds_toArray, List.set_cons_zero, List.set_cons_succ]
          refine wpAnyH_take (i := 17) (v := ?_) rfl (by kernel_rfl) (by kernel_rfl) (by kernel_rfl) (fun _ _ _ h => h) (Or.inl ⟨by kernel_rfl, ?_⟩) hHeld ?_
          rotate_left
          · intro w hSw
            (try dsimp only at hSw)
            obtain ⟨hS0, hS1, hS2, hS3⟩ := hSw
            go_simp
            (try with_reducible rfl)
          change wpAnyH _ _ _ _ _ _ _ (Act.put _ (some 88) _) _
          simp only [Act.put, List.setIfInBounds_toArray, List.set_cons_zero, List.set_cons_succ]
          refine wpAnyH_take (i := 18) (v := ?_) rfl (by kernel_rfl) (by kernel_rfl) (by kernel_rfl) (fun _ _ _ h => h) (Or.inl ⟨by kernel_rfl, ?_⟩) hHeld ?_
          rotate_left
          · intro w hSw
            (try dsimp only at hSw)
            obtain ⟨hS0, hS1, hS2, hS3⟩ := hSw
            go_simp
            (try with_reducible rfl)
          change wpAnyH _ _ _ _ _ _ _ (Act.put _ (some 89) _) _
          simp only [Act.put, List.setIfInBounds_toArray, List.set_cons_zero, List.set_cons_succ]
          refine wpAnyH_take (i := 19) (v := ?_) rfl (by kernel_rfl) (by kernel_rfl) (by kernel_rfl) (fun _ _ _ h => h) (Or.inl ⟨by kernel_rfl, ?_⟩) hHeld ?_
          rotate_left
          · intro w hSw
            (try dsimp only at hSw)
            obtain ⟨hS0, hS1, hS2, hS3⟩ := hSw
            go_simp
            (try with_reducible rfl)
          change wpAnyH _ _ _ _ _ _ _ (Act.put _ (some 90) _) _
          simp only [Act.put, List.setIfInBounds_toArray, List.set_cons_zero, List.set_cons_succ]
          refine wpAnyH_take (i := 20) (v := ?_) rfl (by kernel_rfl) (by kernel_rfl) (by kernel_rfl) (fun _ _ _ h => h) (Or.inl ⟨by kernel_rfl, ?_⟩) hHeld ?_
          rotate_left
          · intro w hSw
            (try dsimp only at hSw)
            obtain ⟨hS0, hS1, hS2, hS3⟩ := hSw
            go_simp
            (try with_reducible rfl)
          change wpAnyH _ _ _ _ _ _ _ (Act.put _ (some 91) _) _
          simp only [Act.put, List.setIfInBounds_toArray, List.set_cons_zero, List.set_cons_succ]
          refine wpAnyH_take (i := 21) (v := ?_) rfl (by kernel_rfl) (by kernel_rfl) (by kernel_rfl) (fun _ _ _ h => h) (Or.inl ⟨by kernel_rfl, ?_⟩) hHeld ?_
          rotate_left
          · intro w hSw
            (try dsimp only at hSw)
            obtain ⟨hS0, hS1, hS2, hS3⟩ := hSw
            go_simp
            (try with_reducible rfl)
          change wpAnyH _ _ _ _ _ _ _ (Act.put _ (some 92) _) _
          simp only [Act.put, List.setIfInBounds_toArray, List.set_cons_zero, List.set_cons_succ]
          refine wpAnyH_take (i := 22) (v := ?_) rfl (by kernel_rfl) (by kernel_rfl) (by kernel_rfl) (fun _ _ _ h => h) (Or.inl ⟨by kernel_rfl, ?_⟩) hHeld ?_
          rotate_left
          · intro w hSw
            (try dsimp only at hSw)
            obtain ⟨hS0, hS1, hS2, hS3⟩ := hSw
            go_simp
            (try with_reducible rfl)
          change wpAnyH _ _ _ _ _ _ _ (Act.put _ (some 93) _) _
          simp only [Act.put, List.setIfInBounds_toArray, List.set_cons_zero, List.set_cons_succ]
          refine wpAnyH_take (i := 23) (v := ?_) rfl (by kernel_rfl) (by kernel_rfl) (by kernel_rfl) (fun _ _ _ h => h) (Or.inl ⟨by kernel_rfl, ?_⟩) hHeld ?_
          rotate_left
          · intro w hSw
            (try dsimp only at hSw)
            obtain ⟨hS0, hS1, hS2, hS3⟩ := hSw
            go_simp
            (try with_reducible rfl)
          change wpAnyH _ _ _ _ _ _ _ (Act.put _ (some 94) _) _
          simp only [Act.put, List.setIfInBounds_toArray, List.set_cons_zero, List.set_cons_succ]
          refine wpAnyH_take (i := 24) (v := ?_) rfl (by kernel_rfl) (by kernel_rfl) (by kernel_rfl) (fun _ _ _ h => h) (Or.inl ⟨by kernel_rfl, ?_⟩) hHeld ?_
          rotate_left
          · intro w hSw
            (try dsimp only at hSw)
            obtain ⟨hS0, hS1, hS2, hS3⟩ := hSw
            go_simp
            (try with_reducible rfl)
          change wpAnyH _ _ _ _ _ _ _ (Act.put _ (some 95) _) _
          simp only [Act.put, List.setIfInBounds_toArray, List.set_cons_zero, List.set_cons_succ]
          refine wpAnyH_take (i := 25) (v := ?_) rfl (by kernel_rfl) (by kernel_rfl) (by kernel_rfl) (fun _ _ _ h => h) (Or.inl ⟨by kernel_rfl, ?_⟩) hHeld ?_
          rotate_left
          · intro w hSw
            (try dsimp only at hSw)
            obtain ⟨hS0, hS1, hS2, hS3⟩ := hSw
            go_simp
            (try with_reducible rfl)
          change wpAnyH _ _ _ _ _ _ _ (Act.put _ (some 96) _) _
          simp only [Act.put, List.setIfInBounds_toArray, List.set_cons_zero, List.set_cons_succ]
          refine wpAnyH_take (i := 26) (v := ?_) rfl (by kernel_rfl) (by kernel_rfl) (by kernel_rfl) (fun _ _ _ h => h) (Or.inl ⟨by kernel_rfl, ?_⟩) hHeld ?_
          rotate_left
          · intro w hSw
            (try dsimp only at hSw)
            obtain ⟨hS0, hS1, hS2, hS3⟩ := hSw
            go_simp
            (try with_reducible rfl)
          change wpAnyH _ _ _ _ _ _ _ (Act.put _ (some 97) _) _
          simp only [Act.put, List.setIfInBounds_toArray, List.set_cons_zero, List.set_cons_succ]
          refine wpAnyH_done (by kernel_rfl) ?_ _
          go_wp2_with fail
          go_roundw
          case rel => exact ⟨k + 1, by omega, by rw [HS1.out], by rw [HS2.out], by go_num, gr_drew hgE⟩
          case measure => simp [intOf]; omega
      · obtain rfl : k = R.length := by omega
        have hlong := OKK.out.long
        have hmany := OKK.out.many_
        rw [List.take_length, hlong, hmany]
        clear hlong hmany
        have hkl : ¬ (R.length : Int) < (R.length : Int) := by omega
        obtain ⟨BB, hBB⟩ : ∃ x, 1000 * (best : Int) = x := ⟨_, rfl⟩
        rw [hBB] at nb ⊢
        have hnl : ¬ BB < nd := by omega
        have hmm : (M != M) = false := by simp
        have e1 : IntKind.i64.wrap (z - a) = z - a := by rw [IntKind.wrap_i64]; omega
        have e2 : IntKind.i64.wrap ((z - a).tdiv 1000) = (N : Int) := by
          rw [Int.tdiv_eq_ediv_of_nonneg (by omega), show (z - a) / 1000 = (N : Int) by have := HZ.out; omega, IntKind.wrap_i64]
          omega
        have e0 : (z - a).tdiv 1000 = (N : Int) := by
          rw [Int.tdiv_eq_ediv_of_nonneg (by omega)]
          have := HZ.out
          omega
        have e3 : IntKind.i64.wrap (N : Int) = (N : Int) := by rw [IntKind.wrap_i64]; omega
        clear hBB
        go_wp2_with fail
        refine wp_region_held_drew (S := fun W => W.cell? ⟨gX, 0, none⟩ = some (.int .i64 a) ∧ W.cell? ⟨gX, 1, none⟩ = some (.int .i64 z)) (by kernel_rfl) ⟨x0, x1⟩ (fun hHeld => ?_)
        refine wpAnyH_take (i := 0) (v := ?_) rfl (by kernel_rfl) (by kernel_rfl) (by kernel_rfl) (fun _ _ _ h => h) (Or.inl ⟨by kernel_rfl, ?_⟩) hHeld ?_
        rotate_left
        · intro w hSw
          (try dsimp only at hSw)
          obtain ⟨hS0, hS1⟩ := hSw
          go_simp
          (try with_reducible rfl)
        change wpAnyH _ _ _ _ _ _ _ (Act.put _ (some 131) _) _
        simp only [Act.put, List.setIfInBounds_toArray, List.set_cons_zero, List.set_cons_succ]
        refine wpAnyH_take (i := 1) (v := ?_) rfl (by kernel_rfl) (by kernel_rfl) (by kernel_rfl) (fun _ _ _ h => h) (Or.inl ⟨by kernel_rfl, ?_⟩) hHeld ?_
        rotate_left
        · intro w hSw
          (try dsimp only at hSw)
          obtain ⟨hS0, hS1⟩ := hSw
          go_simp
          (try with_reducible rfl)
        change wpAnyH _ _ _ _ _ _ _ (Act.put _ (some 132) _) _
        simp only [Act.put, List.setIfInBounds_toArray, List.set_cons_zero, List.set_cons_succ]
        refine wpAnyH_take (i := 2) (v := ?_) rfl (by kernel_rfl) (by kernel_rfl) (by kernel_rfl) (fun _ _ _ h => h) (Or.inl ⟨by kernel_rfl, ?_⟩) hHeld ?_
        rotate_left
        · intro w hSw
          (try dsimp only at hSw)
          obtain ⟨hS0, hS1⟩ := hSw
          go_simp
          (try with_reducible rfl)
        change wpAnyH _ _ _ _ _ _ _ (Act.put _ (some 133) _) _
        simp only [Act.put, List.setIfInBounds_toArray, List.set_cons_zero, List.set_cons_succ]
        refine wpAnyH_take (i := 3) (v := ?_) rfl (by kernel_rfl) (by kernel_rfl) (by kernel_rfl) (fun _ _ _ h => h) (Or.inl ⟨by kernel_rfl, ?_⟩) hHeld ?_
        rotate_left
        · intro w hSw
          (try dsimp only at hSw)
          obtain ⟨hS0, hS1⟩ := hSw
          go_simp
          (try with_reducible rfl)
        change wpAnyH _ _ _ _ _ _ _ (Act.put _ (some 134) _) _
        simp only [Act.put, List.setIfInBounds_toArray, List.set_cons_zero, List.set_cons_succ]
        refine wpAnyH_take (i := 4) (v := ?_) rfl (by kernel_rfl) (by kernel_rfl) (by kernel_rfl) (fun _ _ _ h => h) (Or.inl ⟨by kernel_rfl, ?_⟩) hHeld ?_
        rotate_left
        · intro w hSw
          (try dsimp only at hSw)
          obtain ⟨hS0, hS1⟩ := hSw
          go_simp
          (try with_reducible rfl)
        change wpAnyH _ _ _ _ _ _ _ (Act.put _ (some 135) _) _
        simp only [Act.put, List.setIfInBounds_toArray, List.set_cons_zero, List.set_cons_succ]
        refine wpAnyH_take (i := 5) (v := ?_) rfl (by kernel_rfl) (by kernel_rfl) (by kernel_rfl) (fun _ _ _ h => h) (Or.inl ⟨by kernel_rfl, ?_⟩) hHeld ?_
        rotate_left
        · intro w hSw
          (try dsimp only at hSw)
          obtain ⟨hS0, hS1⟩ := hSw
          go_simp
          (try with_reducible rfl)
        change wpAnyH _ _ _ _ _ _ _ (Act.put _ (some 136) _) _
        simp only [Act.put, List.setIfInBounds_toArray, List.set_cons_zero, List.set_cons_succ]
        refine wpAnyH_take (i := 6) (v := ?_) rfl (by kernel_rfl) (by kernel_rfl) (by kernel_rfl) (fun _ _ _ h => h) (Or.inl ⟨by kernel_rfl, ?_⟩) hHeld ?_
        rotate_left
        · intro w hSw
          (try dsimp only at hSw)
          obtain ⟨hS0, hS1⟩ := hSw
          go_simp
          (try with_reducible rfl)
        change wpAnyH _ _ _ _ _ _ _ (Act.put _ (some 137) _) _
        simp only [Act.put, List.setIfInBounds_toArray, List.set_cons_zero, List.set_cons_succ]
        refine wpAnyH_take (i := 7) (v := ?_) rfl (by kernel_rfl) (by kernel_rfl) (by kernel_rfl) (fun _ _ _ h => h) (Or.inl ⟨by kernel_rfl, ?_⟩) hHeld ?_
        rotate_left
        · intro w hSw
          (try dsimp only at hSw)
          obtain ⟨hS0, hS1⟩ := hSw
          go_simp
          (try with_reducible rfl)
        change wpAnyH _ _ _ _ _ _ _ (Act.put _ (some 138) _) _
        simp only [Act.put, List.setIfInBounds_toArray, List.set_cons_zero, List.set_cons_succ]
        refine wpAnyH_take (i := 8) (v := ?_) rfl (by kernel_rfl) (by kernel_rfl) (by kernel_rfl) (fun _ _ _ h => h) (Or.inl ⟨by kernel_rfl, ?_⟩) hHeld ?_
        rotate_left
        · intro w hSw
          (try dsimp only at hSw)
          obtain ⟨hS0, hS1⟩ := hSw
          go_simp
          (try with_reducible rfl)
        change wpAnyH _ _ _ _ _ _ _ (Act.put _ (some 139) _) _
        simp only [Act.put, List.setIfInBounds_toArray, List.set_cons_zero, List.set_cons_succ]
        refine wpAnyH_ready (rs := [9]) (by kernel_rfl) (by simp) ?_
        refine AllReadyH.cons (o := _) rfl (fun K hK => ?_) AllReadyH.nil
        go_simp
        (go_at_call 11; refine (range_in b 40 0 (N : Int) _ hsr.drew (by omega) (by omega) (by omega) (by omega)).mono ?_; rintro _ w7 ⟨s, hs0, hs1, rfl, hs7, hg7⟩; have hx7 := (hxr.drew).grown hg7 (by simp; omega); have hy7 := (hyr.drew).grown hg7 (by simp; omega); have hm7 : IntKind.i64.wrap (1000 * s) = 1000 * s := (by rw [IntKind.wrap_i64]; omega); have hm8 : IntKind.i64.wrap (a + 1000 * s) = a + 1000 * s := (by rw [IntKind.wrap_i64]; omega))
        refine hK.out _ _ ⟨hx7.cell 0, hx7.cell 1⟩ (fun hHeld9 => ?_)
        clear hK K
        (try simp only [Act.put, List.setIfInBounds_toArray, List.set_cons_zero, List.set_cons_succ])
        refine wpAnyH_take (i := 10) (v := ?_) rfl (by kernel_rfl) (by kernel_rfl) (by kernel_rfl) (fun _ _ _ h => h) (Or.inl ⟨by kernel_rfl, ?_⟩) hHeld9 ?_
        rotate_left
        · intro w hSw
          (try dsimp only at hSw)
          obtain ⟨hS0, hS1⟩ := hSw
          go_simp
          (try with_reducible rfl)
        change wpAnyH _ _ _ _ _ _ _ (Act.put _ (some 141) _) _
        simp only [Act.put, List.setIfInBounds_toArray, List.set_cons_zero, List.set_cons_succ]
        refine wpAnyH_take (i := 11) (v := ?_) rfl (by kernel_rfl) (by kernel_rfl) (by kernel_rfl) (fun _ _ _ h => h) (Or.inl ⟨by kernel_rfl, ?_⟩) hHeld9 ?_
        rotate_left
        · intro w hSw
          (try dsimp only at hSw)
          obtain ⟨hS0, hS1⟩ := hSw
          go_simp
          (try with_reducible rfl)
        change wpAnyH _ _ _ _ _ _ _ (Act.put _ (some 142) _) _
        simp only [Act.put, List.setIfInBounds_toArray, List.set_cons_zero, List.set_cons_succ]
        refine wpAnyH_take (i := 12) (v := ?_) rfl (by kernel_rfl) (by kernel_rfl) (by kernel_rfl) (fun _ _ _ h => h) (Or.inl ⟨by kernel_rfl, ?_⟩) hHeld9 ?_
        rotate_left
        · intro w hSw
          (try dsimp only at hSw)
          obtain ⟨hS0, hS1⟩ := hSw
          go_simp
          (try with_reducible rfl)
        change wpAnyH _ _ _ _ _ _ _ (Act.put _ (some 17) _) _
        simp only [Act.put, List.setIfInBounds_toArray, List.set_cons_zero, List.set_cons_succ]
        refine wpAnyH_done (by kernel_rfl) ?_ _
        obtain ⟨F, hF⟩ : ∃ F, a + 1000 * s = F := ⟨_, rfl⟩
        obtain ⟨MX, hMX⟩ : ∃ m, max nd ls = m := ⟨_, rfl⟩
        have hFM : IntKind.i64.wrap (F + MX) = F + MX := by rw [IntKind.wrap_i64]; omega
        have hFB : a ≤ F ∧ F ≤ z ∧ 0 ≤ MX := by have := HZ.out; omega
        have HF := Lib.hid hF
        have HMX := Lib.hid hMX
        rw [hF] at hm8 ⊢
        have hG7 : w.grownBy w7 none := gr_grown (gr_drew hGr) hg7 (fun g e => by injection e with e; exact .inr (by have := HB.out; omega))
        have hv7 : IntsFrom (b + 1) w7 v l := IntsFrom.other (w := wr.drew) hvr hg7 (by omega)
        clear hF x0 x1 y0 y1 hxr hyr hsr hvr hG6 hX6 hY6 hv6 hs6 hGr hgr e0 e1 e2 hg7 hm7
        obtain ⟨x0, x1⟩ := hx7.cells2
        obtain ⟨y0, y1⟩ := hy7.cells2
        have hxl7 := hx7.lt
        have hyl7 := hy7.lt
        have hfew : ∀ K, F + MX ≤ z → manyI l F (F + MX) = K → M ≤ K := fun K hz hK => by
          have h1 := HF.out
          have h2 := HMX.out
          have h3 := HZ.out
          have h4 := HND.out
          have h5 := HLS.out
          have h6 := OKK.out.few s.toNat (max need L) (by omega) (by omega) (by omega)
          rw [show (s.toNat : Int) = s by omega, h1, show 1000 * ((max need L : Nat) : Int) = MX by omega, hK] at h6
          exact h6
        have HFEW := Lib.hid hfew
        clear hfew
        by_cases hgt : z < F + MX
        · go_wp2_with fail
          refine (HREADY.out _ (gr_alloc hG7 _)).mono ?_
          rintro _ w8 ⟨rfl, hg8⟩
          go_wp2_with fail
          go_ret
          exact ⟨rfl, gr_below (gr_trans (gr_alloc hG7 _) hg8)⟩
        · by_cases hn0 : nd = 0
          · have hnb : (nd == 0) = true := by simpa using hn0
            have HN0 := Lib.hid hn0
            clear hn0
            go_wp2_with fail
            refine (HREADY.out _ (gr_alloc hG7 _)).mono ?_
            rintro _ w8 ⟨rfl, hg8⟩
            go_wp2_with fail
            go_ret
            exact ⟨rfl, gr_below (gr_trans (gr_alloc hG7 _) hg8)⟩
          · have hnb : (nd == 0) = false := by simpa using hn0
            obtain ⟨K, hK⟩ : ∃ K, manyI l F (F + MX) = K := ⟨_, rfl⟩
            have HI := Lib.hid (HIN.out (w7.alloc (.cells #[.int .i64 F, .int .i64 (F + MX)] 27)) F (F + MX) (hv7.grown (World.grownBy_alloc w7 _ none)) hFB.1 (by omega) (by omega))
            rw [hK] at HI
            have hMK : M ≤ K := HFEW.out K (by omega) hK
            clear hK hn0
            go_wp2_with fail
            refine HI.out.mono ?_
            rintro _ w8 ⟨rfl, hg8⟩
            go_wp2_with fail
            refine (HREADY.out _ (gr_trans (gr_alloc hG7 _) hg8)).mono ?_
            rintro _ w9 ⟨rfl, hg9⟩
            go_wp2_with fail
            go_ret
            exact ⟨rfl, gr_below (gr_trans (gr_trans (gr_alloc hG7 _) hg8) hg9)⟩
end Go.Proofs.YtlbhphfmckhimaaDoor
