/- The stream's Odd, SiteOf and RightSite, told exactly. Condition: the stream has handed out at most 10^9 numbers. -/
import Derived.Test.YtnapbnkbchaanaaGreatDoorStrX
import Derived.Test.YtnapbnkbchaanaaGreatDoorRightSite
namespace Go.Proofs.YtnapbnkbchaanaaGreatDoor
open Go.RowKit
set_option linter.unusedVariables false

def oddV (L : List Int) (k : Nat) (low high : Int) : Int := if decide (nextV L k 12 = 0) then pickV L (k + 1) [low - 1, high + 1, low, high, -1099511627776, 1099511627776] else rangeV L (k + 1) low high
def OddXPost (base b : Nat) (L : List Int) (k : Nat) (low high : Int) (w : World) (e : Ending) (w' : World) : Prop :=
  ∃ v : Int, -2199023255552 ≤ v ∧ v ≤ 2199023255552 ∧ Hid (oddV L k low high = v) ∧ e = .returned (.int .i64 v) ∧ SX base w' b L (k + 1 + 1) ∧ w.grownBy w' (some b)
def siteF (L : List Int) (k : Nat) : Int × Int × Nat :=
  let n := pickV L (k + 1) [0, 172800, 174599, -324000, 324000, rangeV L k (-324000) 324000]
  let m := pickV L (k + 1 + 1 + 1) [0, 36000, -648000, 647999, rangeV L (k + 1 + 1) (-648000) 647999]
  if decide (nextV L (k + 1 + 1 + 1 + 1) 20 = 0) then (oddV L (k + 1 + 1 + 1 + 1 + 1) (-324000) 324000, oddV L (k + 1 + 1 + 1 + 1 + 1 + 1 + 1) (-648000) 647999, k + 1 + 1 + 1 + 1 + 1 + 1 + 1 + 1 + 1)
  else (n, m, k + 1 + 1 + 1 + 1 + 1)
section
variable {L : List Int} {k : Nat} {n m v1 v2 : Int} (h1 : rangeV L k (-324000) 324000 = v1) (h2 : pickV L (k + 1) [0, 172800, 174599, -324000, 324000, v1] = n) (h3 : rangeV L (k + 1 + 1) (-648000) 647999 = v2) (h4 : pickV L (k + 1 + 1 + 1) [0, 36000, -648000, 647999, v2] = m)
include h1 h2 h3 h4
theorem siteF_no (h5 : decide (nextV L (k + 1 + 1 + 1 + 1) 20 = 0) = false) : siteF L k = (n, m, k + 1 + 1 + 1 + 1 + 1) := by
  unfold siteF
  simp only [h1, h2, h3, h4, h5]
  rfl
theorem siteF_yes {n' m' : Int} (h5 : decide (nextV L (k + 1 + 1 + 1 + 1) 20 = 0) = true) (h6 : oddV L (k + 1 + 1 + 1 + 1 + 1) (-324000) 324000 = n') (h7 : oddV L (k + 1 + 1 + 1 + 1 + 1 + 1 + 1) (-648000) 647999 = m') : siteF L k = (n', m', k + 1 + 1 + 1 + 1 + 1 + 1 + 1 + 1 + 1) := by
  unfold siteF
  simp only [h1, h2, h3, h4, h5, h6, h7]
  rfl
end
def SiteXPost (base b : Nat) (L : List Int) (k : Nat) (w : World) (e : Ending) (w' : World) : Prop :=
  ∃ (n v : Int) (k' : Nat), Hid (siteF L k = (n, v, k')) ∧ -2199023255552 ≤ n ∧ n ≤ 2199023255552 ∧ -2199023255552 ≤ v ∧ v ≤ 2199023255552 ∧ e = .returned (.agg #[.int .i64 n, .int .i64 v]) ∧ k ≤ k' ∧ k' ≤ k + 9 ∧ SX base w' b L k' ∧ w.grownBy w' (some b)
/-- The first right site of so many tries. -/
def rightSiteF (L : List Int) : Nat → Nat → Int × Int × Nat
  | 0, p => (0, 0, p)
  | f + 1, p => if siteE (siteF L p).1 (siteF L p).2.1 = 0 then siteF L p else rightSiteF L f (siteF L p).2.2
def RSiteXPost (base b : Nat) (L : List Int) (k : Nat) (w : World) (e : Ending) (w' : World) : Prop :=
  ∃ (n v : Int) (k' : Nat), Hid (rightSiteF L 6 k = (n, v, k')) ∧ e = .returned (.agg #[.int .i64 n, .int .i64 v]) ∧ siteE n v = 0 ∧ k ≤ k' ∧ k' ≤ k + 54 ∧ SX base w' b L k' ∧ w.grownBy w' (some b)

set_option maxHeartbeats 400000 in
theorem odd_e (base b : Nat) (L : List Int) (k : Nat) (low high : Int) (w : World) (hs : SX base w b L k) (hk : k ≤ 100000000000) (h1 : -1099511627776 ≤ low) (h2 : low ≤ high) (h3 : high ≤ 1099511627776) :
    Calls Tryz.prog 151 #[.pointer (some ⟨b, 0, none⟩), .int .i64 low, .int .i64 high] w (OddXPost base b L k low high w) := by
  go_enter Tryz.func151, Tryz.ntmps151
  go_wp2_with fail
  refine (flip_e base b L k _ _ hs (by omega) (by omega) (by omega)).mono ?_
  rintro e w1 ⟨v, HF, rfl, hs1, hg1⟩
  cases v
  · go_wp2_with fail
    refine (range_e base b L _ _ _ _ hs1 (by omega) (by omega) h2 (by omega)).mono ?_
    rintro e w2 ⟨v, hv0, hv1, HV, rfl, hs2, hg2⟩
    go_wp2_with fail
    go_ret
    exact ⟨v, by omega, by omega, by show _ = _; unfold oddV; rw [HF.out, HV.out]; rfl, rfl, hs2, gr_trans hg1 hg2⟩
  · go_wp2_with fail
    refine (pick_eat base b L _ _ 6 6 [low - 1, high + 1, low, high, -1099511627776, 1099511627776] _ hs1 rfl (by omega) rfl (by decide) (by decide)).mono ?_
    rintro e w2 ⟨v, hv, HV, rfl, hs2, hg2⟩
    have hvb : -2199023255552 ≤ v ∧ v ≤ 2199023255552 := by simp at hv; omega
    go_wp2_with fail
    go_ret
    exact ⟨v, hvb.1, hvb.2, by show _ = _; unfold oddV; rw [HF.out, HV.out]; rfl, rfl, hs2, gr_trans hg1 hg2⟩


set_option maxHeartbeats 1000000 in
theorem siteOf_e (base b : Nat) (L : List Int) (k : Nat) (w : World) (hs : SX base w b L k) (hk : k ≤ 10000000000) :
    Calls Tryz.prog 89 #[.pointer (some ⟨b, 0, none⟩)] w (SiteXPost base b L k w) := by
  have hbase := hs.base
  go_enter Tryz.func89, Tryz.ntmps89
  go_wp2_with fail
  refine (range_e base b L k _ _ _ (hs.alloc _) (by omega) (by omega) (by omega) (by omega)).mono ?_
  rintro e w1 ⟨v1, hv10, hv11, H1, rfl, hs1, hg1⟩
  go_wp2_with fail
  refine (pick_eat base b L _ _ 6 6 [0, 172800, 174599, -324000, 324000, v1] _ hs1 rfl (by omega) rfl (by decide) (by decide)).mono ?_
  rintro e w2 ⟨n, hn, H2, rfl, hs2, hg2⟩
  have hnb : -324000 ≤ n ∧ n ≤ 324000 := by simp at hn; omega
  clear hn
  go_wp2_with fail
  refine (range_e base b L _ _ _ _ hs2 (by omega) (by omega) (by omega) (by omega)).mono ?_
  rintro e w3 ⟨v2, hv20, hv21, H3, rfl, hs3, hg3⟩
  go_wp2_with fail
  refine (pick_eat base b L _ _ 5 5 [0, 36000, -648000, 647999, v2] _ hs3 rfl (by omega) rfl (by decide) (by decide)).mono ?_
  rintro e w4 ⟨m, hm, H4, rfl, hs4, hg4⟩
  have hmb : -648000 ≤ m ∧ m ≤ 647999 := by simp at hm; omega
  clear hm
  have hr4 : Blk w4 w.heap.size 62 #[.int .i64 0, .int .i64 0] :=
    ((((Blk.new w 62 #[.int .i64 0, .int .i64 0]).grown hg1 (by have := hs.lt; simp; omega)).grown hg2 (by have := hs.lt; simp; omega)).grown hg3 (by have := hs.lt; simp; omega)).grown hg4 (by have := hs.lt; simp; omega)
  have hrlt := hr4.lt
  have hbs := hs.lt
  have hG4 : w.grownBy w4 (some b) := gr_trans (gr_trans (gr_trans (gr_trans (World.grownBy_alloc w _ _) hg1) hg2) hg3) hg4
  go_wp2_with fail
  refine (flip_e base b L _ _ _ (hs4.alloc _) (by omega) (by omega) (by omega)).mono ?_
  rintro e w5 ⟨v, H5, rfl, hs5, hg5⟩
  have hp5 : Blk w5 w4.heap.size 62 #[.int .i64 n, .int .i64 m] := (Blk.new w4 _ _).grown hg5 (by simp; omega)
  have hr5 : Blk w5 w.heap.size 62 #[.int .i64 0, .int .i64 0] := (hr4.alloc _).grown hg5 (by simp; omega)
  have hG5 : w.grownBy w5 (some b) := gr_trans (gr_alloc hG4 _) hg5
  clear hg1 hg2 hg3 hg4 hg5 hG4 hr4
  cases v
  · have c0 := hp5.cell 0
    have c1 := hp5.cell 1
    have d0 := hr5.cell 0
    have d1 := hr5.cell 1
    have f0 := hr5.free 0
    have f1 := hr5.free 1
    simp only [List.getElem?_toArray, List.getElem?_cons_zero, List.getElem?_cons_succ] at c0 c1 d0 d1
    go_wp2_with fail
    refine bodyPost_ret (v := .agg #[.int .i64 n, .int .i64 m]) (by simp [results, Tryz.results89, go_sem, d0, d1]) rfl ?_
    have hfin : w.grownBy ((w5.setCell ⟨w.heap.size, 0, none⟩ (.int .i64 n)).setCell ⟨w.heap.size, 1, none⟩ (.int .i64 m)) (some b) := gr_put (gr_put hG5 (.inr (Nat.le_refl _)) _) (.inr (Nat.le_refl _)) _
    exact ⟨n, m, _, siteF_no H1.out H2.out H3.out H4.out H5.out, by omega, by omega, by omega, by omega, rfl, by omega, by omega, hs5.grown (gr_put (gr_put (gr_refl w5 (some w.heap.size)) (p := (⟨w.heap.size, 0, none⟩ : Addr)) (.inl rfl) (.int .i64 n)) (p := (⟨w.heap.size, 1, none⟩ : Addr)) (.inl rfl) (.int .i64 m)) (fun g e => by injection e with e; omega), hfin⟩
  · go_wp2_with fail
    refine (odd_e base b L _ _ _ _ hs5 (by omega) (by omega) (by omega) (by omega)).mono ?_
    rintro e w6 ⟨n', hn0, hn1, H6, rfl, hs6, hg6⟩
    go_wp2_with fail
    refine (odd_e base b L _ _ _ _ hs6 (by omega) (by omega) (by omega) (by omega)).mono ?_
    rintro e w7 ⟨m', hm0, hm1, H7, rfl, hs7, hg7⟩
    have hp7 := (hp5.grown hg6 (by simp; omega)).grown hg7 (by simp; omega)
    have hr7 := (hr5.grown hg6 (by simp; omega)).grown hg7 (by simp; omega)
    have c0 := hp7.cell 0
    have c1 := hp7.cell 1
    have d0 := hr7.cell 0
    have d1 := hr7.cell 1
    have f0 := hr7.free 0
    have f1 := hr7.free 1
    have g0 := hp7.free 0
    have g1 := hp7.free 1
    simp only [List.getElem?_toArray, List.getElem?_cons_zero, List.getElem?_cons_succ] at c0 c1 d0 d1
    go_wp2_with fail
    refine bodyPost_ret (v := .agg #[.int .i64 n', .int .i64 m']) (by simp [results, Tryz.results89, go_sem, d0, d1]) rfl ?_
    have hb4 : b < w4.heap.size := by omega
    exact ⟨n', m', _, siteF_yes H1.out H2.out H3.out H4.out H5.out H6.out H7.out, hn0, hn1, hm0, hm1, rfl, by omega, by omega, (hs7.grown (gr_put (gr_put (gr_refl w7 (some w4.heap.size)) (p := (⟨w4.heap.size, 0, none⟩ : Addr)) (.inl rfl) _) (p := (⟨w4.heap.size, 1, none⟩ : Addr)) (.inl rfl) _) (fun g e => by injection e with e; omega)).grown (gr_put (gr_put (gr_refl _ (some w.heap.size)) (p := (⟨w.heap.size, 0, none⟩ : Addr)) (.inl rfl) _) (p := (⟨w.heap.size, 1, none⟩ : Addr)) (.inl rfl) _) (fun g e => by injection e with e; omega),
      gr_put (gr_put (gr_put (gr_put (gr_trans (gr_trans hG5 hg6) hg7) (.inr (by simp; omega)) _) (.inr (by simp; omega)) _) (.inr (Nat.le_refl _)) _) (.inr (Nat.le_refl _)) _⟩


set_option maxRecDepth 100000 in
set_option maxHeartbeats 2000000 in
theorem rightSite_e (base b : Nat) (L : List Int) (k : Nat) (w : World) (hs : SX base w b L k) (hk : k ≤ 1000000000) :
    Calls Tryz.prog 38 #[.pointer (some ⟨b, 0, none⟩)] w (RSiteXPost base b L k w) := by
  have hbase := hs.base
  have hbs := hs.lt
  go_enter Tryz.func38, Tryz.ntmps38
  go_wp2_with fail
  go_loopw [4] (fun i wr => ∃ j : Nat, j ≤ 6 ∧ i = .int .i64 j ∧ (∃ q, SX base wr b L q ∧ k ≤ q ∧ q ≤ k + 9 * j ∧ Hid (rightSiteF L 6 k = rightSiteF L (6 - j) q)) ∧ Blk wr w.heap.size 62 #[.int .i64 0, .int .i64 0] ∧ w.grownBy wr (some b)) (fun i _ => 6 - (intOf i).toNat)
  case atStart => exact ⟨0, by omega, rfl, ⟨k, hs.alloc _, by omega, by omega, rfl⟩, Blk.new _ _ _, World.grownBy_alloc w _ _⟩
  case round =>
    obtain ⟨j, hj, rfl, ⟨q, hsr, hq0, hq1, HQ⟩, hB, hG⟩ := hrel
    by_cases hlt : j < 6
    · have hlt2 : (j : Int) < 6 := by omega
      go_wp2_with fail
      refine (siteOf_e base b L _ _ hsr (by omega)).mono ?_
      rintro _ w1 ⟨a, z, q', HTF, ha0, ha1, hz0, hz1, rfl, hq2, hq3, hs1, hg⟩
      have HSTEP : Hid (rightSiteF L (6 - j) q = if siteE a z = 0 then (a, z, q') else rightSiteF L (6 - (j + 1)) q') := by
        show _ = _
        rw [show 6 - j = (6 - (j + 1)) + 1 by omega]
        show (if siteE (siteF L q).1 (siteF L q).2.1 = 0 then siteF L q else rightSiteF L (6 - (j + 1)) (siteF L q).2.2) = _
        rw [HTF.out]
      have hgw : w.heap.size ≤ wr.heap.size := hG.size
      replace hB := hB.grown hg (by simp; omega)
      replace hG := gr_trans hG hg
      have hX := Blk.new w1 62 #[.int .i64 a, .int .i64 z]
      have hzr := hG.size
      clear hg
      go_wp2_with fail
      have hB1 := hB.alloc (.cells #[.int .i64 a, .int .i64 z] 62)
      have hs2 := hs1.alloc (.cells #[.int .i64 a, .int .i64 z] 62)
      have hG1 := gr_alloc hG (.cells #[.int .i64 a, .int .i64 z] 62)
      have hBX := hB.lt
      clear hB hs1 hG hsr
      generalize w1.alloc (.cells #[.int .i64 a, .int .i64 z] 62) = W at *
      refine (siteFault_any a z _).mono ?_
      rintro _ w2 ⟨rfl, hg⟩
      replace hB1 := hB1.grown hg (by simp)
      replace hs2 := hs2.grown hg (by simp)
      replace hG1 := gr_trans hG1 (gr_weak hg (some b))
      have hX2 := hX.grown hg (by simp)
      obtain ⟨x0, x1⟩ := hX2.cells2
      obtain ⟨d0, d1⟩ := hB1.cells2
      have hf := hB1.free
      have hz2 := hG1.size
      by_cases hE : siteE a z = 0
      · have HE := Lib.hid hE
        have ht : (siteE a z == 0) = true := by simpa using hE
        clear hE hg
        go_wp2_with fail
        obtain ⟨e0, e1⟩ := (hB1.put01 (.int .i64 a) (.int .i64 z)).cells2
        refine bodyPost_ret (v := .agg #[.int .i64 a, .int .i64 z]) (by simp [results, Tryz.results38, go_sem, e0, e1]) rfl ?_
        have hW : w2.grownBy ((w2.setCell ⟨w.heap.size, 0, none⟩ (.int .i64 a)).setCell ⟨w.heap.size, 1, none⟩ (.int .i64 z)) (some w.heap.size) := by repeat (first | exact gr_refl _ _ | refine gr_put ?_ (.inl rfl) _)
        exact ⟨a, z, q', by show _ = _; rw [HQ.out, HSTEP.out, if_pos HE.out], rfl, HE.out, by omega, by omega, hs2.grown hW (fun g e => by injection e with e; omega), gr_grown hG1 hW (fun g e => by injection e with e; exact .inr (by omega))⟩
      · have ht : (siteE a z == 0) = false := by simpa using hE
        have HQ2 : Hid (rightSiteF L 6 k = rightSiteF L (6 - (j + 1)) q') := by show _ = _; rw [HQ.out, HSTEP.out, if_neg hE]
        clear hE hg
        go_wp2_with fail
        go_roundw
        case rel => exact ⟨j + 1, by omega, by go_num, ⟨q', hs2, by omega, by omega, HQ2⟩, hB1, hG1⟩
        case measure => simp [intOf]; omega
    · obtain rfl : j = 6 := by omega
      obtain ⟨d0, d1⟩ := hB.cells2
      have hf := hB.free
      have hBl := hB.lt
      go_wp2_with fail
      obtain ⟨e0, e1⟩ := (hB.put01 (.int .i64 0) (.int .i64 0)).cells2
      refine bodyPost_ret (v := .agg #[.int .i64 0, .int .i64 0]) (by simp [results, Tryz.results38, go_sem, e0, e1]) rfl ?_
      have hW : wr.grownBy ((wr.setCell ⟨w.heap.size, 0, none⟩ (.int .i64 0)).setCell ⟨w.heap.size, 1, none⟩ (.int .i64 0)) (some w.heap.size) := by repeat (first | exact gr_refl _ _ | refine gr_put ?_ (.inl rfl) _)
      exact ⟨0, 0, q, HQ, rfl, by decide, by omega, by omega, hsr.grown hW (fun g e => by injection e with e; omega), gr_grown hG hW (fun g e => by injection e with e; exact .inr (by omega))⟩
end Go.Proofs.YtnapbnkbchaanaaGreatDoor
