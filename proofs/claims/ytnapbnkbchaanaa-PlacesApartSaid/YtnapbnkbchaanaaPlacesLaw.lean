/- The walk over the law PlacesApart: it answers true whatever numbers come in. No condition. -/
import Derived.Test.YtnapbnkbchaanaaStart
import Derived.Test.YtnapbnkbchaanaaSky
import Derived.Test.YtnapbnkbchaanaaStreamSky
import Derived.Test.YtnapbnkbchaanaaLocText
import Derived.Test.YtnapbnkbchaanaaPlacesAll
import Derived.Test.YtnapbnkbchaanaaWindRef
import Derived.Test.YtnapbnkbchaanaaWayRef
import Derived.Test.YtnapbnkbchaanaaFarthest
import Derived.Deep.RegionHeld3
import Derived.Deep.DeepCutAuto
namespace Go.Proofs.Ytnapbnkbchaanaa
open Go.RowKit
set_option linter.unusedVariables false

theorem or2_both (n e n2 e2 : Int) (g : Nat) (W : World) (hB : Blk W g 35 #[.int .i64 (siteE n e), .int .i64 (siteE n2 e2)]) :
    Calls Try.prog 14 #[.slice (some ⟨g, 0, none⟩) 2 2] W fun r w' => r = .returned (.int .i64 (bothE n e n2 e2)) ∧ W = w' :=
  (or_any [siteE n e, siteE n2 e2] g 2 2 W hB rfl (by decide)).mono fun z w' ⟨he, hw⟩ => ⟨by
    rw [he]
    have h : orL [siteE n e, siteE n2 e2] = bothE n e n2 e2 := by
      rw [orL_cons, orL1]
      unfold bothE
      rcases siteE_01 n e with h | h <;> rw [h] <;> simp
    rw [h], hw⟩

theorem orP1 (x : Int) : orP 1 x = 1 := rfl
theorem or2_p (a b : Int) (W : World) :
    Calls Try.prog 14 #[.slice (some ⟨W.heap.size, 0, none⟩) 2 2] (W.alloc (.cells #[.int .i64 a, .int .i64 b] 35)) fun r w' => r = .returned (.int .i64 (orP a b)) ∧ W.grownBy w' none :=
  (or_any [a, b] _ 2 2 _ (Blk.new W _ _) rfl (by decide)).mono fun z w' ⟨he, hw⟩ => ⟨by
    rw [he]
    have h : orL [a, b] = orP a b := by rw [orL_cons, orL1]; rfl
    rw [h], by rw [← hw]; exact World.grownBy_alloc W _ none⟩
theorem or3_p (a b d e : Int) (W : World) (h : orL [a, b, d] = e) :
    Calls Try.prog 14 #[.slice (some ⟨W.heap.size, 0, none⟩) 3 3] (W.alloc (.cells #[.int .i64 a, .int .i64 b, .int .i64 d] 35)) fun r w' => r = .returned (.int .i64 e) ∧ W.grownBy w' none := by
  rw [← h]; exact or3_any a b d W
theorem none_t (w : World) : Calls Try.prog 21 #[.bool true] w fun r w' => r = .returned (.int .i64 8) ∧ w = w' := noneFault_any true w
theorem none_f (w : World) : Calls Try.prog 21 #[.bool false] w fun r w' => r = .returned (.int .i64 0) ∧ w = w' := noneFault_any false w
theorem wind_cases (a b : Int) : (windErr a b = 8 ∧ windR a b = -1 ∧ windV a b = 0) ∨ (windErr a b = 0 ∧ windR a b = windV a b ∧ 0 ≤ windV a b ∧ windV a b ≤ 7) := by
  unfold windErr windR windV
  split
  · exact .inl ⟨rfl, rfl, rfl⟩
  · refine .inr ⟨rfl, rfl, ?_⟩
    unfold windI
    (repeat' split) <;> omega
theorem apart_cases (n e n2 e2 : Int) :
    (bothE n e n2 e2 = 1 ∧ okI (bothE n e n2 e2) (distI n e n2 e2) = 0 ∧ okI (bothE n e n2 e2) (windV (northI n n2) (eastI n e n2 e2)) = 0 ∧ (if bothE n e n2 e2 = 0 then windErr (northI n n2) (eastI n e n2 e2) else 1) = 1) ∨
    (bothE n e n2 e2 = 0 ∧ (∀ W : World, Calls Try.prog 19 #[.agg #[.int .i64 n, .int .i64 e], .agg #[.int .i64 n2, .int .i64 e2]] W fun r w' => r = .returned (.int .i64 (okI (bothE n e n2 e2) (distI n e n2 e2))) ∧ W.grownBy w' none) ∧
      ∃ WR : Int, (∀ W : World, Calls Try.prog 20 #[.agg #[.int .i64 n, .int .i64 e], .agg #[.int .i64 n2, .int .i64 e2]] W fun r w' => r = .returned (.int .i64 WR) ∧ W.grownBy w' none) ∧
      (((if bothE n e n2 e2 = 0 then windErr (northI n n2) (eastI n e n2 e2) else 1) = 8 ∧ WR = -1 ∧ okI (bothE n e n2 e2) (windV (northI n n2) (eastI n e n2 e2)) = 0) ∨
       ((if bothE n e n2 e2 = 0 then windErr (northI n n2) (eastI n e n2 e2) else 1) = 0 ∧ WR = okI (bothE n e n2 e2) (windV (northI n n2) (eastI n e n2 e2)) ∧ 0 ≤ okI (bothE n e n2 e2) (windV (northI n n2) (eastI n e n2 e2)) ∧ okI (bothE n e n2 e2) (windV (northI n n2) (eastI n e n2 e2)) ≤ 7))) := by
  rcases bothE_01 n e n2 e2 with ⟨h0, h1, h2⟩ | h'
  · refine .inr ⟨h0, ?_, windR (northI n n2) (eastI n e n2 e2), fun W => windOf_ok n e n2 e2 W h1 h2, ?_⟩
    · rw [h0]
      obtain ⟨a0, a1, b0, b1⟩ := siteE_rng h1
      obtain ⟨c0, c1, d0, d1⟩ := siteE_rng h2
      exact fun W => distanceOf_any n e n2 e2 W a0 a1 b0 (by omega) c0 c1 d0 (by omega)
    · rw [h0]
      exact wind_cases _ _
  · rw [h']
    exact .inl ⟨rfl, rfl, rfl, rfl⟩
theorem way_cases (n e n2 e2 p : Int) :
    (orP (bothE n e n2 e2) (spanE p 1 1000) = 1 ∧ wayX n e n2 e2 p = []) ∨
    (orP (bothE n e n2 e2) (spanE p 1 1000) = 0 ∧ ∀ W : World, Calls Try.prog 22 #[.agg #[.int .i64 n, .int .i64 e], .agg #[.int .i64 n2, .int .i64 e2], .int .i64 p] W fun r w' => ∃ u, r = .returned u ∧ Sites (W.heap.size + 1) w' u (wayX n e n2 e2 p) ∧ W.grownBy w' none) := by
  unfold wayX
  rcases bothE_01 n e n2 e2 with ⟨h0, h1, h2⟩ | h'
  · rcases spanE_cases p 1 1000 with ⟨hs, p0, p1⟩ | ⟨hs, p0⟩
    · rw [h0, hs]
      exact .inr ⟨rfl, fun W => wayOf_ok n e n2 e2 p W h1 h2 p0 p1⟩
    · rw [h0, hs]
      exact .inl ⟨rfl, rfl⟩
  · rw [h']
    exact .inl ⟨rfl, rfl⟩
theorem far_cases (s : ByteArray) (l : List ByteArray) :
    (locE s = 3 ∧ farV s l = (0, 0, 3)) ∨ (locE s = 0 ∧ l.length = 0 ∧ farV s l = (0, 0, 8)) ∨ (locE s = 0 ∧ 0 < l.length ∧ locsE l = 3 ∧ farV s l = (0, 0, 3)) ∨
    (locE s = 0 ∧ 0 < l.length ∧ locsE l = 0 ∧ farV s l = ((farTo s l l.length).1, (farTo s l l.length).2, 0) ∧ locB s = true ∧ ∀ t ∈ l, locB t = true) := by
  unfold locE locsE farV
  cases hs : locB s with
  | false => exact .inl ⟨rfl, rfl⟩
  | true =>
    rcases Nat.eq_zero_or_pos l.length with h0 | h0
    · exact .inr (.inl ⟨rfl, h0, by rw [if_pos rfl, if_pos h0]⟩)
    · cases ha : l.all fun t => locB t with
      | false => exact .inr (.inr (.inl ⟨rfl, h0, rfl, by rw [if_pos rfl, if_neg (by omega)]; rfl⟩))
      | true => exact .inr (.inr (.inr ⟨rfl, h0, rfl, by rw [if_pos rfl, if_neg (by omega)]; rfl, rfl, fun t ht => List.all_eq_true.1 ha t ht⟩))

set_option maxRecDepth 100000 in
set_option maxHeartbeats 16000000 in
theorem placesLaw (A : Option Addr) (n c : Nat) (w : World) (hin : In w A n) :
    Calls Try.prog 3 #[.slice A n c] w fun e w' => e = .returned (.bool true) ∧ Below w.heap.size w w' := by
  have hs := Str.start (c := c) hin
  clear hin
  go_enter Try.func3, Try.ntmps3
  go_wp2_with fail
  have hG0 := World.grownBy_alloc w (.cells #[.slice A n c, .int .i64 0] 25) none
  generalize w.alloc (.cells #[.slice A n c, .int .i64 0] 25) = W0 at *
  generalize hb : w.heap.size = b at *
  have HB := Lib.hid hb
  clear hb
  refine (siteOf_in _ _ _ hs (by omega)).mono ?_
  rintro _ w1 ⟨n1, e1, hn0, hn1, he0, he1, rfl, hs1, hg1⟩
  have hG1 : w.grownBy w1 none := gr_grown hG0 hg1 (fun g e => by injection e with e; exact .inr (by have := HB.out; omega))
  clear hs hG0 hg1
  go_wp2_with fail
  refine (siteOf_in _ _ _ hs1 (by omega)).mono ?_
  rintro _ w2 ⟨n2, e2, hm0, hm1, hf0, hf1, rfl, hs2, hg2⟩
  have hG2 : w.grownBy w2 none := gr_grown hG1 hg2 (fun g e => by injection e with e; exact .inr (by have := HB.out; omega))
  clear hs1 hG1 hg2
  go_wp2_with fail
  refine (pick_new _ _ 5 5 [1, 2, 7, 0, 1001] _ hs2 (by omega) rfl (by decide) (by decide)).mono ?_
  rintro _ w3 ⟨p, hp, rfl, hs3, hg3⟩
  have hpb : 0 ≤ p ∧ p ≤ 1001 := by simp at hp; omega
  have hG3 : w.grownBy w3 none := gr_grown hG2 hg3 (fun g e => by injection e with e; exact .inr (by have := HB.out; omega))
  clear hs2 hG2 hg3 hp
  go_wp2_with fail
  refine (locatorText_in _ _ _ hs3 (by omega)).mono ?_
  rintro _ w4 ⟨s, rfl, hsz, hsa, hs4, hg4⟩
  have hG4 : w.grownBy w4 none := gr_grown hG3 hg4 (fun g e => by injection e with e; exact .inr (by have := HB.out; omega))
  have HSA := Lib.hid hsa
  clear hs3 hG3 hg4 hsa
  go_wp2_with fail
  refine (locatorList_in _ _ 5 _ hs4 (by omega) (by decide) (by decide)).mono ?_
  rintro _ w5 ⟨v, l, rfl, hl, hll, hall, hs5, hg5⟩
  have hG5 : w.grownBy w5 none := gr_grown hG4 hg5 (fun g e => by injection e with e; exact .inr (by have := HB.out; omega))
  have HALL := Lib.hid hall
  have hb4 := hs4.lt
  have hl1 := hl.low (base' := b + 1) (by omega)
  clear hs4 hG4 hg5 hall hl
  go_wp2_with fail
  obtain ⟨W, hW, hx, hy, hgW⟩ := two_sites w5 n1 e1 n2 e2
  have hb5 := hs5.lt
  have hs6 := (hs5.alloc (.cells #[.int .i64 n1, .int .i64 e1] 27)).alloc (.cells #[.int .i64 n2, .int .i64 e2] 27)
  rw [← hW] at hs6 ⊢
  have hG6 : w.grownBy W none := gr_trans hG5 hgW
  clear hW hs5 hG5
  refine (flip_in _ _ 6 W hs6 (by omega) (by omega) (by omega)).mono ?_
  rintro _ w7 ⟨fl, rfl, hs7, hg7⟩
  replace hx := hx.grown hg7 (by simp; omega)
  replace hy := hy.grown hg7 (by simp; omega)
  have hG7 : w.grownBy w7 none := gr_grown hG6 hg7 (fun g e => by injection e with e; exact .inr (by have := HB.out; omega))
  have H7 : w5.grownBy w7 (some b) := gr_trans (gr_some hgW) hg7
  clear hs6 hG6 hg7 hgW
  obtain ⟨x0, x1⟩ := hx.cells2
  obtain ⟨y0, y1⟩ := hy.cells2
  have hyf := hy.free
  go_upto_if 45 with fail
  go_cut [4] (fun s4 wr => s4 = .pointer (some ⟨w5.heap.size, 0, none⟩) ∧ ∃ (n3 e3 : Int), -2199023255552 ≤ n3 ∧ n3 ≤ 2199023255552 ∧ -2199023255552 ≤ e3 ∧ e3 ≤ 2199023255552 ∧ Blk wr w5.heap.size 27 #[.int .i64 n1, .int .i64 e1] ∧ Blk wr (w5.heap.size + 1) 27 #[.int .i64 n3, .int .i64 e3] ∧ Str wr b 10000 ∧ w.grownBy wr none ∧ w5.grownBy wr (some b))
  case first =>
    cases fl
    · go_wp2_with fail
      go_meet
      exact ⟨rfl, n2, e2, hm0, hm1, hf0, hf1, hx, hy, hs7.mono (by omega), hG7, H7⟩
    · have hy2 := (hy.put 0 (.int .i64 n1)).put 1 (.int .i64 e1)
      have hx2 := (hx.far (p := ⟨w5.heap.size + 1, 0, none⟩) (by simp) (.int .i64 n1)).far (p := ⟨w5.heap.size + 1, 1, none⟩) (by simp) (.int .i64 e1)
      simp only [List.setIfInBounds_toArray, List.set_cons_zero, List.set_cons_succ] at hy2
      have hbw : w.heap.size ≤ w5.heap.size + 1 := by have := HB.out; omega
      have hG8 := gr_put (gr_put hG7 (p := (⟨w5.heap.size + 1, 0, none⟩ : Addr)) (.inr hbw) (.int .i64 n1)) (p := (⟨w5.heap.size + 1, 1, none⟩ : Addr)) (.inr hbw) (.int .i64 e1)
      have H8 := gr_put (gr_put H7 (p := (⟨w5.heap.size + 1, 0, none⟩ : Addr)) (.inr (Nat.le_succ _)) (.int .i64 n1)) (p := (⟨w5.heap.size + 1, 1, none⟩ : Addr)) (.inr (Nat.le_succ _)) (.int .i64 e1)
      have hs8 := hs7.put_far (p := ⟨w5.heap.size + 1, 0, none⟩) (q := ⟨w5.heap.size + 1, 1, none⟩) (show b < w5.heap.size + 1 by omega) (show b < w5.heap.size + 1 by omega) (.int .i64 n1) (.int .i64 e1)
      go_wp2_with fail
      go_meet
      exact ⟨rfl, n1, e1, hn0, hn1, he0, he1, hx2, hy2, hs8.mono (by omega), hG8, H8⟩
  case rest =>
    obtain ⟨rfl, n3, e3, k0, k1, k2, k3, hxr, hyr, hsr, hGr, Hr⟩ := hcut
    clear hx hy hs7 hG7 H7 x0 x1 y0 y1 hyf
    go_wp2_with fail
    refine (range_in _ _ (-3000000) 3000000 _ hsr (by omega) (by decide) (by decide) (by decide)).mono ?_
    rintro _ w8 ⟨rr, hr0, hr1, rfl, hs8, hg8⟩
    go_wp2_with fail
    refine (pick_new _ _ 9 9 [0, 216000, -216000, 324000, 648000, 1296000, 1000000, rr, 1296000001] _ hs8 (by omega) rfl (by decide) (by decide)).mono ?_
    rintro _ w9 ⟨ang, ha, rfl, hs9, hg9⟩
    have hab : -3000000 ≤ ang ∧ ang ≤ 1296000001 := by simp at ha; omega
    obtain ⟨hab0, hab1⟩ := hab
    have hx9 := (hxr.grown hg8 (by simp; omega)).grown hg9 (by simp; omega)
    have hy9 := (hyr.grown hg8 (by simp; omega)).grown hg9 (by simp; omega)
    have hG9 : w.grownBy w9 none := gr_grown (gr_grown hGr hg8 (fun g e => by injection e with e; exact .inr (by have := HB.out; omega))) hg9 (fun g e => by injection e with e; exact .inr (by have := HB.out; omega))
    have H9 : w5.grownBy w9 (some b) := gr_trans (gr_trans Hr hg8) hg9
    have hlw : StrsFrom (b + 1) w9 v l := hl1.other H9 (by omega)
    clear hxr hyr hsr hGr Hr hg8 hg9 hs8 hs9 ha hr0 hr1 hl1 H9
    go_wp2_with fail
    refine (cosineE_any ang _).mono ?_
    rintro _ _ ⟨rfl, rfl⟩
    have HSP := Lib.hid (fun W => spanFault_any ang (-1296000000) 1296000000 W)
    have hEV : (spanE ang (-1296000000) 1296000000 = 0 ∧ okI (spanE ang (-1296000000) 1296000000) (cosI ang) = cosI ang) ∨ (spanE ang (-1296000000) 1296000000 = 1 ∧ okI (spanE ang (-1296000000) 1296000000) (cosI ang) = 0) := by
      rcases spanE_cases ang (-1296000000) 1296000000 with ⟨he, q1, q2⟩ | ⟨he, q1⟩
      · exact .inl ⟨he, by rw [he]; rfl⟩
      · exact .inr ⟨he, by rw [he]; rfl⟩
    generalize okI (spanE ang (-1296000000) 1296000000) (cosI ang) = V at *
    generalize spanE ang (-1296000000) 1296000000 = E at *
    go_wp2_with fail
    refine (HSP.out _).mono ?_
    rintro _ _ ⟨rfl, rfl⟩
    rcases hEV with ⟨rfl, rfl⟩ | ⟨rfl, rfl⟩
    all_goals go_wp2_with fail
    all_goals try (refine (cosineOf_any ang _ (by omega) (by omega)).mono ?_; rintro _ _ ⟨rfl, rfl⟩; go_wp2_with fail)
    all_goals
      obtain ⟨x0, x1⟩ := hx9.cells2
      obtain ⟨y0, y1⟩ := hy9.cells2
      have KX : Hid (∀ W' : World, w9.grownBy W' none → W'.cell? ⟨w5.heap.size, 0, none⟩ = some (.int .i64 n1) ∧ W'.cell? ⟨w5.heap.size, 1, none⟩ = some (.int .i64 e1) ∧ W'.cell? ⟨w5.heap.size + 1, 0, none⟩ = some (.int .i64 n3) ∧ W'.cell? ⟨w5.heap.size + 1, 1, none⟩ = some (.int .i64 e3) ∧ w9.grownBy W' none) := fun W' hW => ⟨(hx9.grown hW (by simp)).cell 0, (hx9.grown hW (by simp)).cell 1, (hy9.grown hW (by simp)).cell 0, (hy9.grown hW (by simp)).cell 1, hW⟩
      go_cut [13] (fun s13 wr => s13 = .int .i64 (bothE n1 e1 n3 e3) ∧ w9.grownBy wr none)
      case first =>
        as_aux_lemma =>
          have z0 : w9.drew.cell? ⟨w5.heap.size, 0, none⟩ = some (.int .i64 n1) := x0
          have z1 : w9.drew.cell? ⟨w5.heap.size, 1, none⟩ = some (.int .i64 e1) := x1
          have z2 : w9.drew.cell? ⟨w5.heap.size + 1, 0, none⟩ = some (.int .i64 n3) := y0
          have z3 : w9.drew.cell? ⟨w5.heap.size + 1, 1, none⟩ = some (.int .i64 e3) := y1
          go_region_held3 (fun W' => W'.cell? ⟨w5.heap.size, 0, none⟩ = some (.int .i64 n1) ∧ W'.cell? ⟨w5.heap.size, 1, none⟩ = some (.int .i64 e1) ∧ W'.cell? ⟨w5.heap.size + 1, 0, none⟩ = some (.int .i64 n3) ∧ W'.cell? ⟨w5.heap.size + 1, 1, none⟩ = some (.int .i64 e3) ∧ w9.grownBy W' none)
            ((exact KX.out _ (by repeat (first | exact gr_refl _ _ | assumption | refine gr_drew ?_ | refine gr_alloc ?_ _ | refine gr_trans ?_ (by assumption)))))
            (first | (go_at_call 15; refine (siteFault_any _ _ _).mono ?_; rintro _ wS ⟨rfl, hgS⟩) | (go_at_call 14; refine (or2_both _ _ _ _ _ _ (by repeat (first | exact Blk.new _ _ _ | refine Blk.drew ?_ | refine Blk.alloc ?_ _))).mono ?_; rintro _ _ ⟨rfl, rfl⟩) | fail)
          all_goals
            go_wp2_with fail
            go_meet
            exact ⟨rfl, (by repeat (first | exact gr_refl _ _ | assumption | refine gr_drew ?_ | refine gr_alloc ?_ _ | refine gr_trans ?_ (by assumption)))⟩
      case rest =>
        obtain ⟨rfl, hgb⟩ := hcut
        have hGb := gr_trans hG9 hgb
        have hxb := hx9.grown hgb (by simp)
        have hyb := hy9.grown hgb (by simp)
        have hlb := hlw.grown hgb
        clear hG9 hgb hx9 hy9 hlw KX x0 x1 y0 y1
        obtain ⟨x0, x1⟩ := hxb.cells2
        obtain ⟨y0, y1⟩ := hyb.cells2
        have HD := Lib.hid (fun W => distance_all n1 e1 n3 e3 W)
        have HW := Lib.hid (fun W => wind_all n1 e1 n3 e3 W)
        have HY := Lib.hid (fun W => way_all n1 e1 n3 e3 p W)
        have HSP := Lib.hid (fun W => spanFault_any p 1 1000 W)
        have HC := Lib.hid (apart_cases n1 e1 n3 e3)
        have HY2 := Lib.hid (way_cases n1 e1 n3 e3 p)
        generalize okI (bothE n1 e1 n3 e3) (distI n1 e1 n3 e3) = D at *
        generalize okI (bothE n1 e1 n3 e3) (windV (northI n1 n3) (eastI n1 e1 n3 e3)) = V at *
        generalize (if bothE n1 e1 n3 e3 = 0 then windErr (northI n1 n3) (eastI n1 e1 n3 e3) else 1) = WE at *
        generalize wayX n1 e1 n3 e3 p = L at *
        generalize spanE p 1 1000 = sp at *
        generalize bothE n1 e1 n3 e3 = E at *
        have HO := Lib.hid (fun W => or2_p E sp W)
        generalize orP E sp = SP at *
        go_wp2_with fail
        refine (HD.out _).mono ?_
        rintro _ wa ⟨rfl, hg⟩
        have hGa := gr_trans hGb hg
        have hxa := hxb.grown hg (by simp)
        have hya := hyb.grown hg (by simp)
        have hla := hlb.grown hg
        clear hGb hg hxb hyb hlb x0 x1 y0 y1
        obtain ⟨x0, x1⟩ := hxa.cells2
        obtain ⟨y0, y1⟩ := hya.cells2
        go_wp2_with fail
        refine (HW.out _).mono ?_
        rintro _ wb ⟨rfl, hg⟩
        have hGb := gr_trans hGa hg
        have hxb := hxa.grown hg (by simp)
        have hyb := hya.grown hg (by simp)
        have hlb := hla.grown hg
        clear hGa hg hxa hya hla x0 x1 y0 y1
        obtain ⟨x0, x1⟩ := hxb.cells2
        obtain ⟨y0, y1⟩ := hyb.cells2
        go_wp2_with fail
        refine (HY.out _).mono ?_
        rintro _ wa ⟨u, rfl, hu, hg⟩
        have hGa := gr_trans hGb hg
        have hxa := hxb.grown hg (by simp)
        have hya := hyb.grown hg (by simp)
        have hla := hlb.grown hg
        clear hGb hg hxb hyb hlb x0 x1 y0 y1
        go_wp2_with fail
        refine (HSP.out _).mono ?_
        rintro _ _ ⟨rfl, rfl⟩
        go_wp2_with fail
        refine (HO.out _).mono ?_
        rintro _ wb ⟨rfl, hg⟩
        have hGb := gr_trans hGa hg
        have hxb := hxa.grown hg (by simp)
        have hyb := hya.grown hg (by simp)
        have hlb := hla.grown hg
        have hub := hu.grown hg
        clear hGa hg hxa hya hla hu
        obtain ⟨x0, x1⟩ := hxb.cells2
        obtain ⟨y0, y1⟩ := hyb.cells2
        go_upto_if 112 with fail
        go_cut [19, 20, 21] (fun s19 s20 s21 wq => s19 = .int .i64 D ∧ s20 = .int .i64 V ∧ s21 = .int .i64 WE ∧ wb.grownBy wq none)
        case first =>
          as_aux_lemma =>
            rcases HC.out with ⟨rfl, rfl, rfl, rfl⟩ | ⟨rfl, HDR, WR, HWR, hcs⟩
            · go_wp2_with fail
              go_meet
              exact ⟨rfl, rfl, rfl, gr_refl _ _⟩
            · have HDR := Lib.hid HDR
              have HWR := Lib.hid HWR
              rename_i HDR0 HWR0
              clear HDR0 HWR0
              rcases hcs with ⟨rfl, rfl, rfl⟩ | ⟨rfl, rfl, v0, v1⟩
              · go_wp2_with fail
                refine (HDR.out _).mono ?_
                rintro _ wc ⟨rfl, hg⟩
                have hxc := hxb.grown hg (by simp)
                have hyc := hyb.grown hg (by simp)
                obtain ⟨x0', x1'⟩ := hxc.cells2
                obtain ⟨y0', y1'⟩ := hyc.cells2
                go_wp2_with fail
                refine (HWR.out _).mono ?_
                rintro _ wd ⟨rfl, hg2⟩
                go_wp2_with fail
                refine (none_t _).mono ?_
                rintro _ _ ⟨rfl, rfl⟩
                go_wp2_with fail
                go_meet
                exact ⟨rfl, rfl, rfl, gr_trans hg hg2⟩
              · have hb : decide (WR < 0) = false := by simpa using v0
                go_wp2_with fail
                refine (HDR.out _).mono ?_
                rintro _ wc ⟨rfl, hg⟩
                have hxc := hxb.grown hg (by simp)
                have hyc := hyb.grown hg (by simp)
                obtain ⟨x0', x1'⟩ := hxc.cells2
                obtain ⟨y0', y1'⟩ := hyc.cells2
                go_wp2_with fail
                refine (HWR.out _).mono ?_
                rintro _ wd ⟨rfl, hg2⟩
                go_wp2_with fail
                refine (none_f _).mono ?_
                rintro _ _ ⟨rfl, rfl⟩
                have hmx : max WR 0 = WR := by omega
                go_wp2_with fail
                go_meet
                exact ⟨rfl, rfl, rfl, gr_trans hg hg2⟩
        case rest =>
          obtain ⟨rfl, rfl, rfl, hg⟩ := hcut
          have hGa := gr_trans hGb hg
          have hxa := hxb.grown hg (by simp)
          have hya := hyb.grown hg (by simp)
          have hla := hlb.grown hg
          have hua := hub.grown hg
          clear hGb hg hxb hyb hlb hub x0 x1 y0 y1
          obtain ⟨x0, x1⟩ := hxa.cells2
          obtain ⟨y0, y1⟩ := hya.cells2
          go_upto_if 125 with fail
          go_cut [23] (fun s23 wz => Sites 0 wz s23 L ∧ wc.grownBy wz none)
          case first =>
            as_aux_lemma =>
              rcases HY2.out with ⟨rfl, rfl⟩ | ⟨rfl, hWO⟩
              · go_wp2_with fail
                go_meet
                exact ⟨Sites.nil _ _, gr_refl _ _⟩
              · have HWO := Lib.hid hWO
                clear hWO
                go_wp2_with fail
                refine (HWO.out _).mono ?_
                rintro _ wc ⟨u2, rfl, hu2, hg⟩
                go_wp2_with fail
                go_meet
                exact ⟨ownsRow_low hu2 (by omega), hg⟩
          case rest =>
            obtain ⟨hu2, hg⟩ := hcut
            have hGb := gr_trans hGa hg
            have hlb := hla.grown hg
            have hub := hua.grown hg
            clear hGa hg hxa hya hla hua x0 x1 y0 y1
            go_wp2_with fail
            refine (equalSites_same _ _ _ _ _ _ hub hu2).mono ?_
            rintro _ wd ⟨rfl, hg⟩
            have hGd := gr_trans hGb hg
            have hld := hlb.grown hg
            clear hGb hg hlb hub hu2 HC HY2 HD HW HY HSP HO
            obtain ⟨A2, c2, rfl, hlen2, hshp⟩ := hld.shape
            clear hshp
            have hl2000 : l.length ≤ 2000 := by omega
            have HFA := Lib.hid (fun W (h : StrsFrom (b + 1) W (.slice A2 l.length c2) l) => farthest_few (b + 1) (.slice A2 l.length c2) s l W h hl2000 hsz HSA.out HALL.out)
            have HLS := Lib.hid (fun W (h : StrsFrom (b + 1) W (.slice A2 l.length c2) l) => locatorsFault_few (b + 1) (.slice A2 l.length c2) l W h hl2000 HALL.out)
            have HLF := Lib.hid (fun W => locatorFault_any s W (by omega) HSA.out)
            have HFC := Lib.hid (far_cases s l)
            have HFO := Lib.hid (fun W (h : StrsFrom (b + 1) W (.slice A2 l.length c2) l) => farthestOf_any (b + 1) (.slice A2 l.length c2) s l W h hl2000)
            as_aux_lemma =>
              rcases HFC.out with ⟨h1, hV⟩ | ⟨h1, h0, hV⟩ | ⟨h1, h0, h2, hV⟩ | ⟨h1, h0, h2, hV, hs, hall⟩
              · rw [h1] at HLF
                rw [hV] at HFA
                clear HFC HFO h1 hV
                obtain ⟨e3, he3⟩ : ∃ e, locsE l = e := ⟨_, rfl⟩
                rw [he3] at HLS
                clear he3
                by_cases h0 : l.length = 0
                · obtain rfl := List.length_eq_zero_iff.1 h0
                  clear h0
                  go_wp2_with fail
                  refine (HFA.out _ hld).mono ?_
                  rintro _ w1 ⟨rfl, hg1⟩
                  go_wp2_with fail
                  refine (HLF.out _).mono ?_
                  rintro _ w2 ⟨rfl, hg2⟩
                  go_wp2_with fail
                  refine (none_t _).mono ?_
                  rintro _ _ ⟨rfl, rfl⟩
                  go_wp2_with fail
                  refine (HLS.out _ ((hld.grown hg1).grown hg2)).mono ?_
                  rintro _ w3 ⟨rfl, hg3⟩
                  go_wp2_with fail
                  refine (or3_p 3 8 e3 3 _ rfl).mono ?_
                  rintro _ w4 ⟨rfl, hg4⟩
                  go_wp2_with fail
                  refine (placed_any _).mono ?_
                  rintro _ _ ⟨rfl, rfl⟩
                  go_wp2_with fail
                  go_ret
                  exact ⟨rfl, gr_below (gr_trans (gr_trans (gr_trans (gr_trans hGd hg1) hg2) hg3) hg4)⟩
                · have h9 : ((l.length : Int) == 0) = false := by rw [beq_eq_false_iff_ne]; omega
                  clear h0
                  go_wp2_with fail
                  refine (HFA.out _ hld).mono ?_
                  rintro _ w1 ⟨rfl, hg1⟩
                  go_wp2_with fail
                  refine (HLF.out _).mono ?_
                  rintro _ w2 ⟨rfl, hg2⟩
                  go_wp2_with fail
                  refine (none_f _).mono ?_
                  rintro _ _ ⟨rfl, rfl⟩
                  go_wp2_with fail
                  refine (HLS.out _ ((hld.grown hg1).grown hg2)).mono ?_
                  rintro _ w3 ⟨rfl, hg3⟩
                  go_wp2_with fail
                  refine (or3_p 3 0 e3 3 _ rfl).mono ?_
                  rintro _ w4 ⟨rfl, hg4⟩
                  go_wp2_with fail
                  refine (placed_any _).mono ?_
                  rintro _ _ ⟨rfl, rfl⟩
                  go_wp2_with fail
                  go_ret
                  exact ⟨rfl, gr_below (gr_trans (gr_trans (gr_trans (gr_trans hGd hg1) hg2) hg3) hg4)⟩
              · rw [h1] at HLF
                rw [hV] at HFA
                clear HFC HFO h1 hV
                obtain ⟨e3, he3⟩ : ∃ e, locsE l = e := ⟨_, rfl⟩
                rw [he3] at HLS
                clear he3
                obtain rfl := List.length_eq_zero_iff.1 h0
                clear h0
                go_wp2_with fail
                refine (HFA.out _ hld).mono ?_
                rintro _ w1 ⟨rfl, hg1⟩
                go_wp2_with fail
                refine (HLF.out _).mono ?_
                rintro _ w2 ⟨rfl, hg2⟩
                go_wp2_with fail
                refine (none_t _).mono ?_
                rintro _ _ ⟨rfl, rfl⟩
                go_wp2_with fail
                refine (HLS.out _ ((hld.grown hg1).grown hg2)).mono ?_
                rintro _ w3 ⟨rfl, hg3⟩
                go_wp2_with fail
                refine (or3_p 0 8 e3 8 _ rfl).mono ?_
                rintro _ w4 ⟨rfl, hg4⟩
                go_wp2_with fail
                refine (placed_any _).mono ?_
                rintro _ _ ⟨rfl, rfl⟩
                go_wp2_with fail
                go_ret
                exact ⟨rfl, gr_below (gr_trans (gr_trans (gr_trans (gr_trans hGd hg1) hg2) hg3) hg4)⟩
              · rw [h1] at HLF
                rw [hV] at HFA
                rw [h2] at HLS
                clear HFC HFO h1 hV h2
                have h9 : ((l.length : Int) == 0) = false := by rw [beq_eq_false_iff_ne]; omega
                clear h0
                go_wp2_with fail
                refine (HFA.out _ hld).mono ?_
                rintro _ w1 ⟨rfl, hg1⟩
                go_wp2_with fail
                refine (HLF.out _).mono ?_
                rintro _ w2 ⟨rfl, hg2⟩
                go_wp2_with fail
                refine (none_f _).mono ?_
                rintro _ _ ⟨rfl, rfl⟩
                go_wp2_with fail
                refine (HLS.out _ ((hld.grown hg1).grown hg2)).mono ?_
                rintro _ w3 ⟨rfl, hg3⟩
                go_wp2_with fail
                refine (or3_p 0 0 3 3 _ rfl).mono ?_
                rintro _ w4 ⟨rfl, hg4⟩
                go_wp2_with fail
                refine (placed_any _).mono ?_
                rintro _ _ ⟨rfl, rfl⟩
                go_wp2_with fail
                go_ret
                exact ⟨rfl, gr_below (gr_trans (gr_trans (gr_trans (gr_trans hGd hg1) hg2) hg3) hg4)⟩
              · rw [h1] at HLF
                rw [hV] at HFA
                rw [h2] at HLS
                have HFO2 := Lib.hid (fun W h => HFO.out W h hs hall)
                clear HFC HFO h1 hV h2 hs hall
                generalize (farTo s l l.length).1 = F1 at *
                generalize (farTo s l l.length).2 = F2 at *
                have h9 : ((l.length : Int) == 0) = false := by rw [beq_eq_false_iff_ne]; omega
                clear h0
                go_wp2_with fail
                refine (HFA.out _ hld).mono ?_
                rintro _ w1 ⟨rfl, hg1⟩
                go_wp2_with fail
                refine (HLF.out _).mono ?_
                rintro _ w2 ⟨rfl, hg2⟩
                go_wp2_with fail
                refine (none_f _).mono ?_
                rintro _ _ ⟨rfl, rfl⟩
                go_wp2_with fail
                refine (HLS.out _ ((hld.grown hg1).grown hg2)).mono ?_
                rintro _ w3 ⟨rfl, hg3⟩
                go_wp2_with fail
                refine (or3_p 0 0 0 0 _ rfl).mono ?_
                rintro _ w4 ⟨rfl, hg4⟩
                go_wp2_with fail
                refine (HFO2.out _ ((((hld.grown hg1).grown hg2).grown hg3).grown hg4)).mono ?_
                rintro _ w5' ⟨rfl, hg5⟩
                go_wp2_with fail
                refine (placed_any _).mono ?_
                rintro _ _ ⟨rfl, rfl⟩
                go_wp2_with fail
                go_ret
                exact ⟨rfl, gr_below (gr_trans (gr_trans (gr_trans (gr_trans (gr_trans hGd hg1) hg2) hg3) hg4) hg5)⟩
end Go.Proofs.Ytnapbnkbchaanaa
