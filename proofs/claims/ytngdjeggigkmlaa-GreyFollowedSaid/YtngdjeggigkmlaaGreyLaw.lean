/- The walk over the law GreyFollowed: it answers true whatever numbers come in. No condition. -/
import Derived.Test.YtngdjeggigkmlaaStart
import Derived.Test.YtngdjeggigkmlaaGreyE
import Derived.Deep.RegionHeld3
namespace Go.Proofs.Ytngdjeggigkmlaa
open Go.RowKit
set_option linter.unusedVariables false

theorem gr_of_drew {w w' : World} {row : Option Nat} (h : w.drew.grownBy w' row) : w.grownBy w' row := ⟨h.os, h.tape, h.output, h.size, h.block⟩

/-- cmp.Or of three, of four errors that have just been laid. -/
theorem or3_any (a b d : Int) (w : World) :
    Calls Try.prog 14 #[.slice (some ⟨w.heap.size, 0, none⟩) 3 3] (w.alloc (.cells #[.int .i64 a, .int .i64 b, .int .i64 d] 32)) fun r w' =>
      r = .returned (.int .i64 (orL [a, b, d])) ∧ w.grownBy w' none :=
  (or_any [a, b, d] _ 3 3 _ (Blk.new w _ _) rfl (by decide)).mono fun e w' ⟨he, hw⟩ => ⟨he, by rw [← hw]; exact World.grownBy_alloc w _ none⟩
theorem or4_any (a b c d : Int) (w : World) :
    Calls Try.prog 14 #[.slice (some ⟨w.heap.size, 0, none⟩) 4 4] (w.alloc (.cells #[.int .i64 a, .int .i64 b, .int .i64 c, .int .i64 d] 32)) fun r w' =>
      r = .returned (.int .i64 (orL [a, b, c, d])) ∧ w.grownBy w' none :=
  (or_any [a, b, c, d] _ 4 4 _ (Blk.new w _ _) rfl (by decide)).mono fun e w' ⟨he, hw⟩ => ⟨he, by rw [← hw]; exact World.grownBy_alloc w _ none⟩
theorem orL1 (a : Int) : orL [a] = a := by
  by_cases h : a = 0 <;> simp [orL, h]
theorem orL_cons (a : Int) (r : List Int) : orL (a :: r) = if a = 0 then orL r else a := rfl
theorem gtE_or (n e a to every v : Int) : orL [siteE n e, askE a to every, spanE v 0 200000] = gtE n e a to every v := by
  rw [orL_cons, orL_cons, orL1]
  unfold gtE saE
  by_cases h1 : siteE n e = 0 <;> simp [h1]
theorem bgE_or (n e n2 d2 a to every v : Int) : orL [siteE n e, siteE n2 d2, askE a to every, spanE v 0 200000] = bgE n e n2 d2 a to every v := by
  rw [orL_cons, orL_cons, orL_cons, orL1]
  unfold bgE sbE bothE
  by_cases h1 : siteE n e = 0 <;> by_cases h2 : siteE n2 d2 = 0 <;> simp [h1, h2]

theorem Wins.of_own {w : World} {b : Nat} {v : Value} {l : List (Int × Int)} (h : w.ownsRow b 48 2 v l.length (wcells l)) : Wins w v l := ownsRow_low h (Nat.zero_le _)
theorem saE_zero {n e a to every : Int} (h : saE n e a to every = 0) : siteE n e = 0 ∧ askE a to every = 0 := by
  unfold saE at h
  split at h
  · exact ⟨by assumption, h⟩
  · omega
theorem gtE_zero {n e a to every v : Int} (h : gtE n e a to every v = 0) : siteE n e = 0 ∧ askE a to every = 0 ∧ spanE v 0 200000 = 0 ∧ saE n e a to every = 0 := by
  unfold gtE at h
  split at h
  · rename_i h1
    have := saE_zero h1
    exact ⟨this.1, this.2, h, h1⟩
  · omega
theorem bgE_zero {n e n2 d2 a to every v : Int} (h : bgE n e n2 d2 a to every v = 0) :
    siteE n e = 0 ∧ siteE n2 d2 = 0 ∧ askE a to every = 0 ∧ spanE v 0 200000 = 0 ∧ gtE n e a to every v = 0 ∧ saE n e a to every = 0 := by
  unfold bgE sbE at h
  rcases bothE_01 n e n2 d2 with ⟨hb, h1, h2⟩ | hb
  · rw [hb] at h
    by_cases h3 : askE a to every = 0
    · simp [h3] at h
      have h6 : saE n e a to every = 0 := by unfold saE; simp [h1, h3]
      exact ⟨h1, h2, h3, h, by unfold gtE; simp [h6, h], h6⟩
    · simp [h3] at h
  · rw [hb] at h
    simp at h
theorem spanE_rng' {n l h : Int} (he : spanE n l h = 0) : l ≤ n ∧ n ≤ h := by
  rcases spanE_cases n l h with ⟨_, h1, h2⟩ | ⟨h1, _⟩
  · exact ⟨h1, h2⟩
  · omega

set_option maxRecDepth 100000 in
set_option maxHeartbeats 8000000 in
theorem greyLaw (A : Option Addr) (n c : Nat) (w : World) (hin : In w A n) :
    Calls Try.prog 4 #[.slice A n c] w fun e w' => e = .returned (.bool true) ∧ Below w.heap.size w w' := by
  have hs := Str.start (c := c) hin
  clear hin
  go_enter Try.func4, Try.ntmps4
  go_wp2_with fail
  refine (siteOf_in _ _ _ hs (by omega)).mono ?_
  rintro _ w1 ⟨n1, e1, hn0, hn1, he0, he1, rfl, hs1, hg1⟩
  go_wp2_with fail
  refine (siteOf_in _ _ _ hs1 (by omega)).mono ?_
  rintro _ w2 ⟨n2, e2, hn2, hn3, he2, he3, rfl, hs2, hg2⟩
  go_wp2_with fail
  refine (pick_new _ _ 4 4 [20000, 100000, 200000, -1] _ hs2 (by omega) rfl (by decide) (by decide)).mono ?_
  rintro _ w3 ⟨v, hv, rfl, hs3, hg3⟩
  have hvb : -1 ≤ v ∧ v ≤ 200000 := by simp at hv; omega
  clear hv
  go_wp2_with fail
  refine (pick_new _ _ 5 5 [600000, 1800000, 3600000, 7, 86400000] _ hs3 (by omega) rfl (by decide) (by decide)).mono ?_
  rintro _ w4 ⟨q, hq, rfl, hs4, hg4⟩
  have hqb : 7 ≤ q ∧ q ≤ 86400000 := by simp at hq; omega
  clear hq
  have hG4 : w.grownBy w4 none := gr_grown (gr_grown (gr_grown (gr_grown (World.grownBy_alloc w _ none) hg1 (by simp)) hg2 (by simp)) hg3 (by simp)) hg4 (by simp)
  have hb0 : w.heap.size < w4.heap.size := hs4.lt
  clear hg1 hg2 hg3 hg4 hs1 hs2 hs3 hs
  go_wp2_with fail
  refine (skyTime_in _ _ _ (((hs4.alloc _).alloc _).alloc _) (by omega)).mono ?_
  rintro _ w5 ⟨a, ha0, ha1, rfl, hs5, hg5⟩
  have pa5 := (((Blk.new w4 27 #[.int .i64 n1, .int .i64 e1]).alloc (.cells #[.int .i64 n2, .int .i64 e2] 27)).alloc (.cells #[.int .i64 v] 3)).grown hg5 (by simp; omega)
  have pb5 := ((Blk.new (w4.alloc (.cells #[.int .i64 n1, .int .i64 e1] 27)) 27 #[.int .i64 n2, .int .i64 e2]).alloc (.cells #[.int .i64 v] 3)).grown hg5 (by simp; omega)
  have pv5 := (Blk.new ((w4.alloc (.cells #[.int .i64 n1, .int .i64 e1] 27)).alloc (.cells #[.int .i64 n2, .int .i64 e2] 27)) 3 #[.int .i64 v]).grown hg5 (by simp; omega)
  rw [World.size_alloc] at pb5
  rw [World.size_alloc, World.size_alloc] at pv5
  have hG5 : w.grownBy w5 none := gr_grown (gr_alloc (gr_alloc (gr_alloc hG4 _) _) _) hg5 (by simp)
  clear hg5 hG4 hs4
  go_wp2_with fail
  refine (pick_new _ _ 5 5 [0, 1, 86400000, 172800000, -1] _ hs5 (by omega) rfl (by decide) (by decide)).mono ?_
  rintro _ w6 ⟨d, hd, rfl, hs6, hg6⟩
  have hdb : -1 ≤ d ∧ d ≤ 172800000 := by simp at hd; omega
  clear hd
  have pa6 := pa5.grown hg6 (by simp; omega)
  have pb6 := pb5.grown hg6 (by simp; omega)
  have pv6 := pv5.grown hg6 (by simp; omega)
  have hG6 : w.grownBy w6 none := gr_grown hG5 hg6 (by simp)
  clear hg6 hG5 pa5 pb5 pv5 hs5
  go_wp2_with fail
  refine (flip_in _ _ _ _ (hs6.alloc _) (by omega) (by omega) (by omega)).mono ?_
  rintro _ w7 ⟨fl, rfl, hs7, hg7⟩
  have hlt6 := pa6.lt
  have hlt6' := pv6.lt
  have pa7 := (pa6.alloc (.cells #[.int .i64 a, .int .i64 (a + d)] 48)).grown hg7 (by simp; omega)
  have pb7 := (pb6.alloc (.cells #[.int .i64 a, .int .i64 (a + d)] 48)).grown hg7 (by simp; omega)
  have pv7 := (pv6.alloc (.cells #[.int .i64 a, .int .i64 (a + d)] 48)).grown hg7 (by simp; omega)
  have pw7 := (Blk.new w6 48 #[.int .i64 a, .int .i64 (a + d)]).grown hg7 (by simp; omega)
  have hG7 : w.grownBy w7 none := gr_grown (gr_alloc hG6 _) hg7 (by simp)
  clear hg7 hG6 pa6 pb6 pv6 hs6
  have c0 : w7.cell? ⟨w6.heap.size, 0, none⟩ = some (.int .i64 a) := pw7.cell 0
  have c1 : w7.cell? ⟨w6.heap.size, 1, none⟩ = some (.int .i64 (a + d)) := pw7.cell 1
  have c2 := pw7.free 1
  have c3 : w7.cell? ⟨w4.heap.size, 0, none⟩ = some (.int .i64 n1) := pa7.cell 0
  have c4 : w7.cell? ⟨w4.heap.size, 1, none⟩ = some (.int .i64 e1) := pa7.cell 1
  have c5 : w7.cell? ⟨w4.heap.size + 1 + 1, 0, none⟩ = some (.int .i64 v) := pv7.cell 0
  --CUT
  cases fl
  all_goals first
    | (go_wp2_with fail
       go_at_call 21
       have pa := pa7
       have pb := pb7
       have pv := pv7
       have pw := pw7
       have hG := hG7
       clear pa7 pb7 pv7 pw7 hG7 c0 c1 c2 c3 c4 c5 hs7
       obtain ⟨tt, htt, ht0, ht1⟩ : ∃ tt, a + d = tt ∧ -1 ≤ tt ∧ tt ≤ 100000000000 := ⟨_, rfl, by omega, by omega⟩
       rw [htt] at pw ⊢
       clear htt
       generalize w7 = W at *)
    | (go_wp2_with fail
       go_region
       go_wp2_with fail
       have pa := (pa7.far (p := ⟨w6.heap.size, 1, none⟩) (by simp; omega) (.int .i64 (a + 86400000))).drew
       have pb := (pb7.far (p := ⟨w6.heap.size, 1, none⟩) (by simp; omega) (.int .i64 (a + 86400000))).drew
       have pv := (pv7.far (p := ⟨w6.heap.size, 1, none⟩) (by simp; omega) (.int .i64 (a + 86400000))).drew
       have pw : Blk (w7.setCell ⟨w6.heap.size, 1, none⟩ (.int .i64 (a + 86400000))).drew w6.heap.size 48 #[.int .i64 a, .int .i64 (a + 86400000)] := (pw7.put 1 _).drew
       have hG := gr_drew (gr_put (p := ⟨w6.heap.size, 1, none⟩) hG7 (.inr (by simp; omega)) (.int .i64 (a + 86400000)))
       clear pa7 pb7 pv7 pw7 hG7 c0 c1 c2 c3 c4 c5 hs7 hqb
       generalize (w7.setCell ⟨w6.heap.size, 1, none⟩ (.int .i64 (a + 86400000))).drew = W at *
       obtain ⟨tt, htt, ht0, ht1⟩ : ∃ tt, a + 86400000 = tt ∧ -1 ≤ tt ∧ tt ≤ 100000000000 := ⟨_, rfl, by omega, by omega⟩
       rw [htt] at pw ⊢
       clear htt
       clear hdb
       have hqb : (7 : Int) ≤ 1000 ∧ (1000 : Int) ≤ 86400000 := by omega
       generalize (1000 : Int) = q at *)
  all_goals
    have G := gr_refl W none
    have a0 : W.cell? ⟨w4.heap.size, 0, none⟩ = some (.int .i64 n1) := (pa.grown G (by simp)).cell 0
    have a1 : W.cell? ⟨w4.heap.size, 1, none⟩ = some (.int .i64 e1) := (pa.grown G (by simp)).cell 1
    have b0 : W.cell? ⟨w4.heap.size + 1, 0, none⟩ = some (.int .i64 n2) := (pb.grown G (by simp)).cell 0
    have b1 : W.cell? ⟨w4.heap.size + 1, 1, none⟩ = some (.int .i64 e2) := (pb.grown G (by simp)).cell 1
    have v0 : W.cell? ⟨w4.heap.size + 1 + 1, 0, none⟩ = some (.int .i64 v) := (pv.grown G (by simp)).cell 0
    have k0 : W.cell? ⟨w6.heap.size, 0, none⟩ = some (.int .i64 a) := (pw.grown G (by simp)).cell 0
    have k1 : W.cell? ⟨w6.heap.size, 1, none⟩ = some (.int .i64 tt) := (pw.grown G (by simp)).cell 1
    refine (greyTimes_any _ _ _ _ _ _ _).mono ?_
    rintro _ w8 ⟨u1, rfl, hu1, hg⟩
    have G := gr_trans G hg
    have G8 := gr_refl w8 none
    clear hg
    clear a0 a1 b0 b1 v0 k0 k1
    have a0 : w8.cell? ⟨w4.heap.size, 0, none⟩ = some (.int .i64 n1) := (pa.grown G (by simp)).cell 0
    have a1 : w8.cell? ⟨w4.heap.size, 1, none⟩ = some (.int .i64 e1) := (pa.grown G (by simp)).cell 1
    have b0 : w8.cell? ⟨w4.heap.size + 1, 0, none⟩ = some (.int .i64 n2) := (pb.grown G (by simp)).cell 0
    have b1 : w8.cell? ⟨w4.heap.size + 1, 1, none⟩ = some (.int .i64 e2) := (pb.grown G (by simp)).cell 1
    have v0 : w8.cell? ⟨w4.heap.size + 1 + 1, 0, none⟩ = some (.int .i64 v) := (pv.grown G (by simp)).cell 0
    have k0 : w8.cell? ⟨w6.heap.size, 0, none⟩ = some (.int .i64 a) := (pw.grown G (by simp)).cell 0
    have k1 : w8.cell? ⟨w6.heap.size, 1, none⟩ = some (.int .i64 tt) := (pw.grown G (by simp)).cell 1
    go_wp2_with fail
    refine (bothGrey_any _ _ _ _ _ _ _ _ _).mono ?_
    rintro _ w9 ⟨u2, rfl, hu2, hg⟩
    have G := gr_trans G hg
    have G8 := gr_trans G8 hg
    have G9 := gr_refl w9 none
    clear hg
    clear a0 a1 b0 b1 v0 k0 k1
    have a0 : w9.cell? ⟨w4.heap.size, 0, none⟩ = some (.int .i64 n1) := (pa.grown G (by simp)).cell 0
    have a1 : w9.cell? ⟨w4.heap.size, 1, none⟩ = some (.int .i64 e1) := (pa.grown G (by simp)).cell 1
    have b0 : w9.cell? ⟨w4.heap.size + 1, 0, none⟩ = some (.int .i64 n2) := (pb.grown G (by simp)).cell 0
    have b1 : w9.cell? ⟨w4.heap.size + 1, 1, none⟩ = some (.int .i64 e2) := (pb.grown G (by simp)).cell 1
    have v0 : w9.cell? ⟨w4.heap.size + 1 + 1, 0, none⟩ = some (.int .i64 v) := (pv.grown G (by simp)).cell 0
    have k0 : w9.cell? ⟨w6.heap.size, 0, none⟩ = some (.int .i64 a) := (pw.grown G (by simp)).cell 0
    have k1 : w9.cell? ⟨w6.heap.size, 1, none⟩ = some (.int .i64 tt) := (pw.grown G (by simp)).cell 1
    go_wp2_with fail
    refine (light_any _ _ _ _ _ _).mono ?_
    rintro _ w10 ⟨rfl, hg⟩
    have G := gr_trans G hg
    have G9 := gr_trans G9 hg
    clear hg
    clear a0 a1 b0 b1 v0 k0 k1
    have a0 : w10.cell? ⟨w4.heap.size, 0, none⟩ = some (.int .i64 n1) := (pa.grown G (by simp)).cell 0
    have a1 : w10.cell? ⟨w4.heap.size, 1, none⟩ = some (.int .i64 e1) := (pa.grown G (by simp)).cell 1
    have b0 : w10.cell? ⟨w4.heap.size + 1, 0, none⟩ = some (.int .i64 n2) := (pb.grown G (by simp)).cell 0
    have b1 : w10.cell? ⟨w4.heap.size + 1, 1, none⟩ = some (.int .i64 e2) := (pb.grown G (by simp)).cell 1
    have v0 : w10.cell? ⟨w4.heap.size + 1 + 1, 0, none⟩ = some (.int .i64 v) := (pv.grown G (by simp)).cell 0
    have k0 : w10.cell? ⟨w6.heap.size, 0, none⟩ = some (.int .i64 a) := (pw.grown G (by simp)).cell 0
    have k1 : w10.cell? ⟨w6.heap.size, 1, none⟩ = some (.int .i64 tt) := (pw.grown G (by simp)).cell 1
    go_wp2_with fail
    refine (askedFaultR_any _ _ _ _).mono ?_
    rintro _ w11 ⟨rfl, hg⟩
    have G := gr_trans G hg
    have G9 := gr_trans G9 hg
    clear hg
    clear a0 a1 b0 b1 v0 k0 k1
    have a0 : w11.cell? ⟨w4.heap.size, 0, none⟩ = some (.int .i64 n1) := (pa.grown G (by simp)).cell 0
    have a1 : w11.cell? ⟨w4.heap.size, 1, none⟩ = some (.int .i64 e1) := (pa.grown G (by simp)).cell 1
    have b0 : w11.cell? ⟨w4.heap.size + 1, 0, none⟩ = some (.int .i64 n2) := (pb.grown G (by simp)).cell 0
    have b1 : w11.cell? ⟨w4.heap.size + 1, 1, none⟩ = some (.int .i64 e2) := (pb.grown G (by simp)).cell 1
    have v0 : w11.cell? ⟨w4.heap.size + 1 + 1, 0, none⟩ = some (.int .i64 v) := (pv.grown G (by simp)).cell 0
    have k0 : w11.cell? ⟨w6.heap.size, 0, none⟩ = some (.int .i64 a) := (pw.grown G (by simp)).cell 0
    have k1 : w11.cell? ⟨w6.heap.size, 1, none⟩ = some (.int .i64 tt) := (pw.grown G (by simp)).cell 1
    go_wp2_with fail
    have KS : Hid (∀ W' : World, w11.grownBy W' none → W'.cell? ⟨w4.heap.size, 0, none⟩ = some (.int .i64 n1) ∧ W'.cell? ⟨w4.heap.size, 1, none⟩ = some (.int .i64 e1) ∧ W'.cell? ⟨w4.heap.size + 1 + 1, 0, none⟩ = some (.int .i64 v) ∧ w11.grownBy W' none) := fun W' hW => ⟨(pa.grown (gr_trans G hW) (by simp)).cell 0, (pa.grown (gr_trans G hW) (by simp)).cell 1, (pv.grown (gr_trans G hW) (by simp)).cell 0, hW⟩
    go_region_held3 (fun W' => W'.cell? ⟨w4.heap.size, 0, none⟩ = some (.int .i64 n1) ∧ W'.cell? ⟨w4.heap.size, 1, none⟩ = some (.int .i64 e1) ∧ W'.cell? ⟨w4.heap.size + 1 + 1, 0, none⟩ = some (.int .i64 v) ∧ w11.grownBy W' none) ((exact KS.out _ (by first | exact gr_refl _ _ | exact gr_drew (gr_refl _ _) | exact gr_of_drew (by assumption) | exact gr_trans (gr_of_drew (by assumption)) (by assumption) | exact gr_trans (gr_trans (gr_of_drew (by assumption)) (by assumption)) (by assumption) | exact gr_alloc (gr_refl _ _) _ | exact gr_alloc (gr_drew (gr_refl _ _)) _ | exact gr_alloc (gr_of_drew (by assumption)) _ | exact gr_alloc (gr_trans (gr_of_drew (by assumption)) (by assumption)) _ | exact gr_alloc (gr_trans (gr_trans (gr_of_drew (by assumption)) (by assumption)) (by assumption)) _))) (first | (go_at_call 15; refine (siteFault_any _ _ _).mono ?_; rintro _ _ ⟨rfl, hgx⟩) | (go_at_call 16; refine (spanFault_any _ _ _ _).mono ?_; rintro _ _ ⟨rfl, rfl⟩) | (go_at_call 14; refine (or3_any _ _ _ _).mono ?_; rintro _ _ ⟨rfl, hgx⟩))
    rename_i w12 hH
    have hg := hH.2.2.2
    clear hH KS
    have G := gr_trans G hg
    have G9 := gr_trans G9 hg
    clear hg
    clear a0 a1 b0 b1 v0 k0 k1
    have a0 : w12.cell? ⟨w4.heap.size, 0, none⟩ = some (.int .i64 n1) := (pa.grown G (by simp)).cell 0
    have a1 : w12.cell? ⟨w4.heap.size, 1, none⟩ = some (.int .i64 e1) := (pa.grown G (by simp)).cell 1
    have b0 : w12.cell? ⟨w4.heap.size + 1, 0, none⟩ = some (.int .i64 n2) := (pb.grown G (by simp)).cell 0
    have b1 : w12.cell? ⟨w4.heap.size + 1, 1, none⟩ = some (.int .i64 e2) := (pb.grown G (by simp)).cell 1
    have v0 : w12.cell? ⟨w4.heap.size + 1 + 1, 0, none⟩ = some (.int .i64 v) := (pv.grown G (by simp)).cell 0
    have k0 : w12.cell? ⟨w6.heap.size, 0, none⟩ = some (.int .i64 a) := (pw.grown G (by simp)).cell 0
    have k1 : w12.cell? ⟨w6.heap.size, 1, none⟩ = some (.int .i64 tt) := (pw.grown G (by simp)).cell 1
    rw [gtE_or]
    go_wp2_with fail
    have KS : Hid (∀ W' : World, w12.grownBy W' none → W'.cell? ⟨w4.heap.size, 0, none⟩ = some (.int .i64 n1) ∧ W'.cell? ⟨w4.heap.size, 1, none⟩ = some (.int .i64 e1) ∧ W'.cell? ⟨w4.heap.size + 1, 0, none⟩ = some (.int .i64 n2) ∧ W'.cell? ⟨w4.heap.size + 1, 1, none⟩ = some (.int .i64 e2) ∧ W'.cell? ⟨w4.heap.size + 1 + 1, 0, none⟩ = some (.int .i64 v) ∧ w12.grownBy W' none) := fun W' hW => ⟨(pa.grown (gr_trans G hW) (by simp)).cell 0, (pa.grown (gr_trans G hW) (by simp)).cell 1, (pb.grown (gr_trans G hW) (by simp)).cell 0, (pb.grown (gr_trans G hW) (by simp)).cell 1, (pv.grown (gr_trans G hW) (by simp)).cell 0, hW⟩
    go_region_held3 (fun W' => W'.cell? ⟨w4.heap.size, 0, none⟩ = some (.int .i64 n1) ∧ W'.cell? ⟨w4.heap.size, 1, none⟩ = some (.int .i64 e1) ∧ W'.cell? ⟨w4.heap.size + 1, 0, none⟩ = some (.int .i64 n2) ∧ W'.cell? ⟨w4.heap.size + 1, 1, none⟩ = some (.int .i64 e2) ∧ W'.cell? ⟨w4.heap.size + 1 + 1, 0, none⟩ = some (.int .i64 v) ∧ w12.grownBy W' none) ((exact KS.out _ (by first | exact gr_refl _ _ | exact gr_drew (gr_refl _ _) | exact gr_of_drew (by assumption) | exact gr_trans (gr_of_drew (by assumption)) (by assumption) | exact gr_trans (gr_trans (gr_of_drew (by assumption)) (by assumption)) (by assumption) | exact gr_alloc (gr_refl _ _) _ | exact gr_alloc (gr_drew (gr_refl _ _)) _ | exact gr_alloc (gr_of_drew (by assumption)) _ | exact gr_alloc (gr_trans (gr_of_drew (by assumption)) (by assumption)) _ | exact gr_alloc (gr_trans (gr_trans (gr_of_drew (by assumption)) (by assumption)) (by assumption)) _))) (first | (go_at_call 15; refine (siteFault_any _ _ _).mono ?_; rintro _ _ ⟨rfl, hgx⟩) | (go_at_call 16; refine (spanFault_any _ _ _ _).mono ?_; rintro _ _ ⟨rfl, rfl⟩) | (go_at_call 14; refine (or4_any _ _ _ _ _).mono ?_; rintro _ _ ⟨rfl, hgx⟩))
    rename_i w13 hH
    have hg := hH.2.2.2.2.2
    clear hH KS
    have G := gr_trans G hg
    have G9 := gr_trans G9 hg
    clear hg
    clear a0 a1 b0 b1 v0 k0 k1
    have a0 : w13.cell? ⟨w4.heap.size, 0, none⟩ = some (.int .i64 n1) := (pa.grown G (by simp)).cell 0
    have a1 : w13.cell? ⟨w4.heap.size, 1, none⟩ = some (.int .i64 e1) := (pa.grown G (by simp)).cell 1
    have b0 : w13.cell? ⟨w4.heap.size + 1, 0, none⟩ = some (.int .i64 n2) := (pb.grown G (by simp)).cell 0
    have b1 : w13.cell? ⟨w4.heap.size + 1, 1, none⟩ = some (.int .i64 e2) := (pb.grown G (by simp)).cell 1
    have v0 : w13.cell? ⟨w4.heap.size + 1 + 1, 0, none⟩ = some (.int .i64 v) := (pv.grown G (by simp)).cell 0
    have k0 : w13.cell? ⟨w6.heap.size, 0, none⟩ = some (.int .i64 a) := (pw.grown G (by simp)).cell 0
    have k1 : w13.cell? ⟨w6.heap.size, 1, none⟩ = some (.int .i64 tt) := (pw.grown G (by simp)).cell 1
    rw [bgE_or]
    go_wp2_with fail
    refine (siteFault_any _ _ _).mono ?_
    rintro _ w14 ⟨rfl, hg⟩
    have G := gr_trans G hg
    have G9 := gr_trans G9 hg
    clear hg
    clear a0 a1 b0 b1 v0 k0 k1
    have a0 : w14.cell? ⟨w4.heap.size, 0, none⟩ = some (.int .i64 n1) := (pa.grown G (by simp)).cell 0
    have a1 : w14.cell? ⟨w4.heap.size, 1, none⟩ = some (.int .i64 e1) := (pa.grown G (by simp)).cell 1
    have b0 : w14.cell? ⟨w4.heap.size + 1, 0, none⟩ = some (.int .i64 n2) := (pb.grown G (by simp)).cell 0
    have b1 : w14.cell? ⟨w4.heap.size + 1, 1, none⟩ = some (.int .i64 e2) := (pb.grown G (by simp)).cell 1
    have v0 : w14.cell? ⟨w4.heap.size + 1 + 1, 0, none⟩ = some (.int .i64 v) := (pv.grown G (by simp)).cell 0
    have k0 : w14.cell? ⟨w6.heap.size, 0, none⟩ = some (.int .i64 a) := (pw.grown G (by simp)).cell 0
    have k1 : w14.cell? ⟨w6.heap.size, 1, none⟩ = some (.int .i64 tt) := (pw.grown G (by simp)).cell 1
    go_wp2_with fail
    refine (or2_any _ _ _).mono ?_
    rintro _ w15 ⟨rfl, hg⟩
    have G := gr_trans G hg
    have G8 := gr_trans G8 G9
    have G8 := gr_trans G8 hg
    have G9 := gr_trans G9 hg
    clear hg
    clear a0 a1 b0 b1 v0 k0 k1
    have a0 : w15.cell? ⟨w4.heap.size, 0, none⟩ = some (.int .i64 n1) := (pa.grown G (by simp)).cell 0
    have a1 : w15.cell? ⟨w4.heap.size, 1, none⟩ = some (.int .i64 e1) := (pa.grown G (by simp)).cell 1
    have b0 : w15.cell? ⟨w4.heap.size + 1, 0, none⟩ = some (.int .i64 n2) := (pb.grown G (by simp)).cell 0
    have b1 : w15.cell? ⟨w4.heap.size + 1, 1, none⟩ = some (.int .i64 e2) := (pb.grown G (by simp)).cell 1
    have v0 : w15.cell? ⟨w4.heap.size + 1 + 1, 0, none⟩ = some (.int .i64 v) := (pv.grown G (by simp)).cell 0
    have k0 : w15.cell? ⟨w6.heap.size, 0, none⟩ = some (.int .i64 a) := (pw.grown G (by simp)).cell 0
    have k1 : w15.cell? ⟨w6.heap.size, 1, none⟩ = some (.int .i64 tt) := (pw.grown G (by simp)).cell 1
    rw [show (if siteE n1 e1 = 0 then askE a tt q else siteE n1 e1) = saE n1 e1 a tt q from rfl]
    have HG := Lib.hid hG
    clear hG
    by_cases hT : bgE n1 e1 n2 e2 a tt q v = 0
    · have hz := bgE_zero hT
      obtain ⟨z1, z2, z3, z4, z5, z6⟩ := hz
      have r1 := siteE_rng z1
      have r2 := siteE_rng z2
      have r3 := askE_rng z3
      have r4 := spanE_rng' z4
      obtain ⟨r30, r31, r32, r33, r34⟩ := r3
      rw [z5] at hu1
      rw [hT] at hu2
      have o1 : ∀ y : Int, okI 0 y = y := fun _ => rfl
      go_wp2_with fail
      refine (asked1_any _ _ _ _ _ _ _ _ _ ⟨pa.grown G (by simp), by omega, by omega, by omega, by omega⟩ ⟨pv.grown G (by simp), by omega, by omega⟩ (by omega) (by omega) (by omega) (by omega) (by omega)).mono ?_
      rintro _ w16 ⟨u3, rfl, hu3, hg⟩
      have G := gr_trans G hg
      have G8 := gr_trans G8 hg
      have G9 := gr_trans G9 hg
      clear hg
      clear a0 a1 b0 b1 v0 k0 k1
      have a0 : w16.cell? ⟨w4.heap.size, 0, none⟩ = some (.int .i64 n1) := (pa.grown G (by simp)).cell 0
      have a1 : w16.cell? ⟨w4.heap.size, 1, none⟩ = some (.int .i64 e1) := (pa.grown G (by simp)).cell 1
      have b0 : w16.cell? ⟨w4.heap.size + 1, 0, none⟩ = some (.int .i64 n2) := (pb.grown G (by simp)).cell 0
      have b1 : w16.cell? ⟨w4.heap.size + 1, 1, none⟩ = some (.int .i64 e2) := (pb.grown G (by simp)).cell 1
      have v0 : w16.cell? ⟨w4.heap.size + 1 + 1, 0, none⟩ = some (.int .i64 v) := (pv.grown G (by simp)).cell 0
      have k0 : w16.cell? ⟨w6.heap.size, 0, none⟩ = some (.int .i64 a) := (pw.grown G (by simp)).cell 0
      have k1 : w16.cell? ⟨w6.heap.size, 1, none⟩ = some (.int .i64 tt) := (pw.grown G (by simp)).cell 1
      have G10 := gr_refl w16 none
      go_wp2_with fail
      refine (asked2_any _ _ _ _ _ _ _ _ _ _ _ _ ⟨pa.grown G (by simp), by omega, by omega, by omega, by omega⟩ ⟨pv.grown G (by simp), by omega, by omega⟩ ⟨pb.grown G (by simp), by omega, by omega, by omega, by omega⟩ (by omega) (by omega) (by omega) (by omega) (by omega)).mono ?_
      rintro _ w17 ⟨u4, rfl, hu4, hg⟩
      have G := gr_trans G hg
      have G8 := gr_trans G8 hg
      have G9 := gr_trans G9 hg
      have G10 := gr_trans G10 hg
      clear hg
      clear a0 a1 b0 b1 v0 k0 k1
      have a0 : w17.cell? ⟨w4.heap.size, 0, none⟩ = some (.int .i64 n1) := (pa.grown G (by simp)).cell 0
      have a1 : w17.cell? ⟨w4.heap.size, 1, none⟩ = some (.int .i64 e1) := (pa.grown G (by simp)).cell 1
      have b0 : w17.cell? ⟨w4.heap.size + 1, 0, none⟩ = some (.int .i64 n2) := (pb.grown G (by simp)).cell 0
      have b1 : w17.cell? ⟨w4.heap.size + 1, 1, none⟩ = some (.int .i64 e2) := (pb.grown G (by simp)).cell 1
      have v0 : w17.cell? ⟨w4.heap.size + 1 + 1, 0, none⟩ = some (.int .i64 v) := (pv.grown G (by simp)).cell 0
      have k0 : w17.cell? ⟨w6.heap.size, 0, none⟩ = some (.int .i64 a) := (pw.grown G (by simp)).cell 0
      have k1 : w17.cell? ⟨w6.heap.size, 1, none⟩ = some (.int .i64 tt) := (pw.grown G (by simp)).cell 1
      have G11 := gr_refl w17 none
      go_wp2_with fail
      refine (lightOf_any _ _ _ _ _ _ (by omega) (by omega) (by omega) (by omega) (by omega) (by omega) (by omega) (by omega) (by omega)).mono ?_
      rintro _ w18 ⟨rfl, hg⟩
      have G := gr_trans G hg
      have G8 := gr_trans G8 hg
      have G9 := gr_trans G9 hg
      have G10 := gr_trans G10 hg
      have G11 := gr_trans G11 hg
      clear hg
      clear a0 a1 b0 b1 v0 k0 k1
      have a0 : w18.cell? ⟨w4.heap.size, 0, none⟩ = some (.int .i64 n1) := (pa.grown G (by simp)).cell 0
      have a1 : w18.cell? ⟨w4.heap.size, 1, none⟩ = some (.int .i64 e1) := (pa.grown G (by simp)).cell 1
      have b0 : w18.cell? ⟨w4.heap.size + 1, 0, none⟩ = some (.int .i64 n2) := (pb.grown G (by simp)).cell 0
      have b1 : w18.cell? ⟨w4.heap.size + 1, 1, none⟩ = some (.int .i64 e2) := (pb.grown G (by simp)).cell 1
      have v0 : w18.cell? ⟨w4.heap.size + 1 + 1, 0, none⟩ = some (.int .i64 v) := (pv.grown G (by simp)).cell 0
      have k0 : w18.cell? ⟨w6.heap.size, 0, none⟩ = some (.int .i64 a) := (pw.grown G (by simp)).cell 0
      have k1 : w18.cell? ⟨w6.heap.size, 1, none⟩ = some (.int .i64 tt) := (pw.grown G (by simp)).cell 1
      go_wp2_with fail
      refine (equalWins_same _ _ _ _ (hu1.grown G8) ((Wins.of_own hu3).grown G10)).mono ?_
      rintro _ w19 ⟨rfl, hg⟩
      have G := gr_trans G hg
      have G8 := gr_trans G8 hg
      have G9 := gr_trans G9 hg
      have G10 := gr_trans G10 hg
      have G11 := gr_trans G11 hg
      clear hg
      clear a0 a1 b0 b1 v0 k0 k1
      have a0 : w19.cell? ⟨w4.heap.size, 0, none⟩ = some (.int .i64 n1) := (pa.grown G (by simp)).cell 0
      have a1 : w19.cell? ⟨w4.heap.size, 1, none⟩ = some (.int .i64 e1) := (pa.grown G (by simp)).cell 1
      have b0 : w19.cell? ⟨w4.heap.size + 1, 0, none⟩ = some (.int .i64 n2) := (pb.grown G (by simp)).cell 0
      have b1 : w19.cell? ⟨w4.heap.size + 1, 1, none⟩ = some (.int .i64 e2) := (pb.grown G (by simp)).cell 1
      have v0 : w19.cell? ⟨w4.heap.size + 1 + 1, 0, none⟩ = some (.int .i64 v) := (pv.grown G (by simp)).cell 0
      have k0 : w19.cell? ⟨w6.heap.size, 0, none⟩ = some (.int .i64 a) := (pw.grown G (by simp)).cell 0
      have k1 : w19.cell? ⟨w6.heap.size, 1, none⟩ = some (.int .i64 tt) := (pw.grown G (by simp)).cell 1
      go_wp2_with fail
      refine (equalWins_same _ _ _ _ (hu2.grown G9) ((Wins.of_own hu4).grown G11)).mono ?_
      rintro _ w20 ⟨rfl, hg⟩
      have G := gr_trans G hg
      have G8 := gr_trans G8 hg
      have G9 := gr_trans G9 hg
      have G10 := gr_trans G10 hg
      have G11 := gr_trans G11 hg
      clear hg
      clear a0 a1 b0 b1 v0 k0 k1
      have a0 : w20.cell? ⟨w4.heap.size, 0, none⟩ = some (.int .i64 n1) := (pa.grown G (by simp)).cell 0
      have a1 : w20.cell? ⟨w4.heap.size, 1, none⟩ = some (.int .i64 e1) := (pa.grown G (by simp)).cell 1
      have b0 : w20.cell? ⟨w4.heap.size + 1, 0, none⟩ = some (.int .i64 n2) := (pb.grown G (by simp)).cell 0
      have b1 : w20.cell? ⟨w4.heap.size + 1, 1, none⟩ = some (.int .i64 e2) := (pb.grown G (by simp)).cell 1
      have v0 : w20.cell? ⟨w4.heap.size + 1 + 1, 0, none⟩ = some (.int .i64 v) := (pv.grown G (by simp)).cell 0
      have k0 : w20.cell? ⟨w6.heap.size, 0, none⟩ = some (.int .i64 a) := (pw.grown G (by simp)).cell 0
      have k1 : w20.cell? ⟨w6.heap.size, 1, none⟩ = some (.int .i64 tt) := (pw.grown G (by simp)).cell 1
      go_wp2_with fail
      refine (placed_any _).mono ?_
      rintro _ _ ⟨rfl, rfl⟩
      go_wp2_with fail
      go_ret
      exact ⟨rfl, gr_below (gr_trans HG.out G)⟩
    by_cases hS : gtE n1 e1 a tt q v = 0
    · have z5 := hS
      have hz := gtE_zero hS
      obtain ⟨z1, z3, z4, z6⟩ := hz
      have hT' : (bgE n1 e1 n2 e2 a tt q v == 0) = false := beq_eq_false_iff_ne.2 hT
      have r1 := siteE_rng z1
      have r3 := askE_rng z3
      have r4 := spanE_rng' z4
      obtain ⟨r30, r31, r32, r33, r34⟩ := r3
      rw [z5] at hu1
      unfold okL at hu2
      rw [if_neg hT] at hu2
      have HT := Lib.hid hT
      clear hT
      have o1 : ∀ y : Int, okI 0 y = y := fun _ => rfl
      go_wp2_with fail
      refine (asked1_any _ _ _ _ _ _ _ _ _ ⟨pa.grown G (by simp), by omega, by omega, by omega, by omega⟩ ⟨pv.grown G (by simp), by omega, by omega⟩ (by omega) (by omega) (by omega) (by omega) (by omega)).mono ?_
      rintro _ w16 ⟨u3, rfl, hu3, hg⟩
      have G := gr_trans G hg
      have G8 := gr_trans G8 hg
      have G9 := gr_trans G9 hg
      clear hg
      clear a0 a1 b0 b1 v0 k0 k1
      have a0 : w16.cell? ⟨w4.heap.size, 0, none⟩ = some (.int .i64 n1) := (pa.grown G (by simp)).cell 0
      have a1 : w16.cell? ⟨w4.heap.size, 1, none⟩ = some (.int .i64 e1) := (pa.grown G (by simp)).cell 1
      have b0 : w16.cell? ⟨w4.heap.size + 1, 0, none⟩ = some (.int .i64 n2) := (pb.grown G (by simp)).cell 0
      have b1 : w16.cell? ⟨w4.heap.size + 1, 1, none⟩ = some (.int .i64 e2) := (pb.grown G (by simp)).cell 1
      have v0 : w16.cell? ⟨w4.heap.size + 1 + 1, 0, none⟩ = some (.int .i64 v) := (pv.grown G (by simp)).cell 0
      have k0 : w16.cell? ⟨w6.heap.size, 0, none⟩ = some (.int .i64 a) := (pw.grown G (by simp)).cell 0
      have k1 : w16.cell? ⟨w6.heap.size, 1, none⟩ = some (.int .i64 tt) := (pw.grown G (by simp)).cell 1
      have G10 := gr_refl w16 none
      go_wp2_with fail
      refine (lightOf_any _ _ _ _ _ _ (by omega) (by omega) (by omega) (by omega) (by omega) (by omega) (by omega) (by omega) (by omega)).mono ?_
      rintro _ w18 ⟨rfl, hg⟩
      have G := gr_trans G hg
      have G8 := gr_trans G8 hg
      have G9 := gr_trans G9 hg
      have G10 := gr_trans G10 hg
      clear hg
      clear a0 a1 b0 b1 v0 k0 k1
      have a0 : w18.cell? ⟨w4.heap.size, 0, none⟩ = some (.int .i64 n1) := (pa.grown G (by simp)).cell 0
      have a1 : w18.cell? ⟨w4.heap.size, 1, none⟩ = some (.int .i64 e1) := (pa.grown G (by simp)).cell 1
      have b0 : w18.cell? ⟨w4.heap.size + 1, 0, none⟩ = some (.int .i64 n2) := (pb.grown G (by simp)).cell 0
      have b1 : w18.cell? ⟨w4.heap.size + 1, 1, none⟩ = some (.int .i64 e2) := (pb.grown G (by simp)).cell 1
      have v0 : w18.cell? ⟨w4.heap.size + 1 + 1, 0, none⟩ = some (.int .i64 v) := (pv.grown G (by simp)).cell 0
      have k0 : w18.cell? ⟨w6.heap.size, 0, none⟩ = some (.int .i64 a) := (pw.grown G (by simp)).cell 0
      have k1 : w18.cell? ⟨w6.heap.size, 1, none⟩ = some (.int .i64 tt) := (pw.grown G (by simp)).cell 1
      go_wp2_with fail
      refine (equalWins_same _ _ _ _ (hu1.grown G8) ((Wins.of_own hu3).grown G10)).mono ?_
      rintro _ w19 ⟨rfl, hg⟩
      have G := gr_trans G hg
      have G8 := gr_trans G8 hg
      have G9 := gr_trans G9 hg
      have G10 := gr_trans G10 hg
      clear hg
      clear a0 a1 b0 b1 v0 k0 k1
      have a0 : w19.cell? ⟨w4.heap.size, 0, none⟩ = some (.int .i64 n1) := (pa.grown G (by simp)).cell 0
      have a1 : w19.cell? ⟨w4.heap.size, 1, none⟩ = some (.int .i64 e1) := (pa.grown G (by simp)).cell 1
      have b0 : w19.cell? ⟨w4.heap.size + 1, 0, none⟩ = some (.int .i64 n2) := (pb.grown G (by simp)).cell 0
      have b1 : w19.cell? ⟨w4.heap.size + 1, 1, none⟩ = some (.int .i64 e2) := (pb.grown G (by simp)).cell 1
      have v0 : w19.cell? ⟨w4.heap.size + 1 + 1, 0, none⟩ = some (.int .i64 v) := (pv.grown G (by simp)).cell 0
      have k0 : w19.cell? ⟨w6.heap.size, 0, none⟩ = some (.int .i64 a) := (pw.grown G (by simp)).cell 0
      have k1 : w19.cell? ⟨w6.heap.size, 1, none⟩ = some (.int .i64 tt) := (pw.grown G (by simp)).cell 1
      go_wp2_with fail
      refine (equalWins_same _ _ _ _ (hu2.grown G9) (Wins.nil _)).mono ?_
      rintro _ w20 ⟨rfl, hg⟩
      have G := gr_trans G hg
      have G8 := gr_trans G8 hg
      have G9 := gr_trans G9 hg
      have G10 := gr_trans G10 hg
      clear hg
      clear a0 a1 b0 b1 v0 k0 k1
      have a0 : w20.cell? ⟨w4.heap.size, 0, none⟩ = some (.int .i64 n1) := (pa.grown G (by simp)).cell 0
      have a1 : w20.cell? ⟨w4.heap.size, 1, none⟩ = some (.int .i64 e1) := (pa.grown G (by simp)).cell 1
      have b0 : w20.cell? ⟨w4.heap.size + 1, 0, none⟩ = some (.int .i64 n2) := (pb.grown G (by simp)).cell 0
      have b1 : w20.cell? ⟨w4.heap.size + 1, 1, none⟩ = some (.int .i64 e2) := (pb.grown G (by simp)).cell 1
      have v0 : w20.cell? ⟨w4.heap.size + 1 + 1, 0, none⟩ = some (.int .i64 v) := (pv.grown G (by simp)).cell 0
      have k0 : w20.cell? ⟨w6.heap.size, 0, none⟩ = some (.int .i64 a) := (pw.grown G (by simp)).cell 0
      have k1 : w20.cell? ⟨w6.heap.size, 1, none⟩ = some (.int .i64 tt) := (pw.grown G (by simp)).cell 1
      go_wp2_with fail
      refine (placed_any _).mono ?_
      rintro _ _ ⟨rfl, rfl⟩
      go_wp2_with fail
      go_ret
      exact ⟨rfl, gr_below (gr_trans HG.out G)⟩
    by_cases hR : saE n1 e1 a tt q = 0
    · have hz := saE_zero hR
      obtain ⟨z1, z3⟩ := hz
      have hT' : (bgE n1 e1 n2 e2 a tt q v == 0) = false := beq_eq_false_iff_ne.2 hT
      have hS' : (gtE n1 e1 a tt q v == 0) = false := beq_eq_false_iff_ne.2 hS
      have r1 := siteE_rng z1
      have r3 := askE_rng z3
      obtain ⟨r30, r31, r32, r33, r34⟩ := r3
      unfold okL at hu1 hu2
      rw [if_neg hS] at hu1
      rw [if_neg hT] at hu2
      have HT := Lib.hid hT
      have HS := Lib.hid hS
      clear hT hS
      have o1 : ∀ y : Int, okI 0 y = y := fun _ => rfl
      go_wp2_with fail
      refine (lightOf_any _ _ _ _ _ _ (by omega) (by omega) (by omega) (by omega) (by omega) (by omega) (by omega) (by omega) (by omega)).mono ?_
      rintro _ w18 ⟨rfl, hg⟩
      have G := gr_trans G hg
      have G8 := gr_trans G8 hg
      have G9 := gr_trans G9 hg
      clear hg
      clear a0 a1 b0 b1 v0 k0 k1
      have a0 : w18.cell? ⟨w4.heap.size, 0, none⟩ = some (.int .i64 n1) := (pa.grown G (by simp)).cell 0
      have a1 : w18.cell? ⟨w4.heap.size, 1, none⟩ = some (.int .i64 e1) := (pa.grown G (by simp)).cell 1
      have b0 : w18.cell? ⟨w4.heap.size + 1, 0, none⟩ = some (.int .i64 n2) := (pb.grown G (by simp)).cell 0
      have b1 : w18.cell? ⟨w4.heap.size + 1, 1, none⟩ = some (.int .i64 e2) := (pb.grown G (by simp)).cell 1
      have v0 : w18.cell? ⟨w4.heap.size + 1 + 1, 0, none⟩ = some (.int .i64 v) := (pv.grown G (by simp)).cell 0
      have k0 : w18.cell? ⟨w6.heap.size, 0, none⟩ = some (.int .i64 a) := (pw.grown G (by simp)).cell 0
      have k1 : w18.cell? ⟨w6.heap.size, 1, none⟩ = some (.int .i64 tt) := (pw.grown G (by simp)).cell 1
      go_wp2_with fail
      refine (equalWins_same _ _ _ _ (hu1.grown G8) (Wins.nil _)).mono ?_
      rintro _ w19 ⟨rfl, hg⟩
      have G := gr_trans G hg
      have G8 := gr_trans G8 hg
      have G9 := gr_trans G9 hg
      clear hg
      clear a0 a1 b0 b1 v0 k0 k1
      have a0 : w19.cell? ⟨w4.heap.size, 0, none⟩ = some (.int .i64 n1) := (pa.grown G (by simp)).cell 0
      have a1 : w19.cell? ⟨w4.heap.size, 1, none⟩ = some (.int .i64 e1) := (pa.grown G (by simp)).cell 1
      have b0 : w19.cell? ⟨w4.heap.size + 1, 0, none⟩ = some (.int .i64 n2) := (pb.grown G (by simp)).cell 0
      have b1 : w19.cell? ⟨w4.heap.size + 1, 1, none⟩ = some (.int .i64 e2) := (pb.grown G (by simp)).cell 1
      have v0 : w19.cell? ⟨w4.heap.size + 1 + 1, 0, none⟩ = some (.int .i64 v) := (pv.grown G (by simp)).cell 0
      have k0 : w19.cell? ⟨w6.heap.size, 0, none⟩ = some (.int .i64 a) := (pw.grown G (by simp)).cell 0
      have k1 : w19.cell? ⟨w6.heap.size, 1, none⟩ = some (.int .i64 tt) := (pw.grown G (by simp)).cell 1
      go_wp2_with fail
      refine (equalWins_same _ _ _ _ (hu2.grown G9) (Wins.nil _)).mono ?_
      rintro _ w20 ⟨rfl, hg⟩
      have G := gr_trans G hg
      have G8 := gr_trans G8 hg
      have G9 := gr_trans G9 hg
      clear hg
      clear a0 a1 b0 b1 v0 k0 k1
      have a0 : w20.cell? ⟨w4.heap.size, 0, none⟩ = some (.int .i64 n1) := (pa.grown G (by simp)).cell 0
      have a1 : w20.cell? ⟨w4.heap.size, 1, none⟩ = some (.int .i64 e1) := (pa.grown G (by simp)).cell 1
      have b0 : w20.cell? ⟨w4.heap.size + 1, 0, none⟩ = some (.int .i64 n2) := (pb.grown G (by simp)).cell 0
      have b1 : w20.cell? ⟨w4.heap.size + 1, 1, none⟩ = some (.int .i64 e2) := (pb.grown G (by simp)).cell 1
      have v0 : w20.cell? ⟨w4.heap.size + 1 + 1, 0, none⟩ = some (.int .i64 v) := (pv.grown G (by simp)).cell 0
      have k0 : w20.cell? ⟨w6.heap.size, 0, none⟩ = some (.int .i64 a) := (pw.grown G (by simp)).cell 0
      have k1 : w20.cell? ⟨w6.heap.size, 1, none⟩ = some (.int .i64 tt) := (pw.grown G (by simp)).cell 1
      go_wp2_with fail
      refine (placed_any _).mono ?_
      rintro _ _ ⟨rfl, rfl⟩
      go_wp2_with fail
      go_ret
      exact ⟨rfl, gr_below (gr_trans HG.out G)⟩
    have hT' : (bgE n1 e1 n2 e2 a tt q v == 0) = false := beq_eq_false_iff_ne.2 hT
    have hS' : (gtE n1 e1 a tt q v == 0) = false := beq_eq_false_iff_ne.2 hS
    have hR' : (saE n1 e1 a tt q == 0) = false := beq_eq_false_iff_ne.2 hR
    have o2 : ∀ y : Int, okI (saE n1 e1 a tt q) y = 0 := fun _ => by unfold okI; rw [if_neg hR]
    unfold okL at hu1 hu2
    rw [if_neg hS] at hu1
    rw [if_neg hT] at hu2
    have HT := Lib.hid hT
    have HS := Lib.hid hS
    have HR := Lib.hid hR
    clear hT hS hR
    go_wp2_with fail
    refine (equalWins_same _ _ _ _ (hu1.grown G8) (Wins.nil _)).mono ?_
    rintro _ w19 ⟨rfl, hg⟩
    have G := gr_trans G hg
    have G8 := gr_trans G8 hg
    have G9 := gr_trans G9 hg
    clear hg
    clear a0 a1 b0 b1 v0 k0 k1
    have a0 : w19.cell? ⟨w4.heap.size, 0, none⟩ = some (.int .i64 n1) := (pa.grown G (by simp)).cell 0
    have a1 : w19.cell? ⟨w4.heap.size, 1, none⟩ = some (.int .i64 e1) := (pa.grown G (by simp)).cell 1
    have b0 : w19.cell? ⟨w4.heap.size + 1, 0, none⟩ = some (.int .i64 n2) := (pb.grown G (by simp)).cell 0
    have b1 : w19.cell? ⟨w4.heap.size + 1, 1, none⟩ = some (.int .i64 e2) := (pb.grown G (by simp)).cell 1
    have v0 : w19.cell? ⟨w4.heap.size + 1 + 1, 0, none⟩ = some (.int .i64 v) := (pv.grown G (by simp)).cell 0
    have k0 : w19.cell? ⟨w6.heap.size, 0, none⟩ = some (.int .i64 a) := (pw.grown G (by simp)).cell 0
    have k1 : w19.cell? ⟨w6.heap.size, 1, none⟩ = some (.int .i64 tt) := (pw.grown G (by simp)).cell 1
    go_wp2_with fail
    refine (equalWins_same _ _ _ _ (hu2.grown G9) (Wins.nil _)).mono ?_
    rintro _ w20 ⟨rfl, hg⟩
    have G := gr_trans G hg
    have G8 := gr_trans G8 hg
    have G9 := gr_trans G9 hg
    clear hg
    clear a0 a1 b0 b1 v0 k0 k1
    have a0 : w20.cell? ⟨w4.heap.size, 0, none⟩ = some (.int .i64 n1) := (pa.grown G (by simp)).cell 0
    have a1 : w20.cell? ⟨w4.heap.size, 1, none⟩ = some (.int .i64 e1) := (pa.grown G (by simp)).cell 1
    have b0 : w20.cell? ⟨w4.heap.size + 1, 0, none⟩ = some (.int .i64 n2) := (pb.grown G (by simp)).cell 0
    have b1 : w20.cell? ⟨w4.heap.size + 1, 1, none⟩ = some (.int .i64 e2) := (pb.grown G (by simp)).cell 1
    have v0 : w20.cell? ⟨w4.heap.size + 1 + 1, 0, none⟩ = some (.int .i64 v) := (pv.grown G (by simp)).cell 0
    have k0 : w20.cell? ⟨w6.heap.size, 0, none⟩ = some (.int .i64 a) := (pw.grown G (by simp)).cell 0
    have k1 : w20.cell? ⟨w6.heap.size, 1, none⟩ = some (.int .i64 tt) := (pw.grown G (by simp)).cell 1
    go_wp2_with fail
    refine (placed_any _).mono ?_
    rintro _ _ ⟨rfl, rfl⟩
    go_wp2_with fail
    go_ret
    exact ⟨rfl, gr_below (gr_trans HG.out G)⟩
end Go.Proofs.Ytngdjeggigkmlaa
