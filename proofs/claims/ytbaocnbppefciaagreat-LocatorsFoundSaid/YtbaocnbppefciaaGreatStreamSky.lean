/- The stream's Odd, SiteOf, SkyTime: numbers that lie within bounds. Condition: the stream has handed out at most 10^11 numbers. -/
import Derived.Test.YtbaocnbppefciaaGreatStreamA
namespace Go.Proofs.YtbaocnbppefciaaGreat
open Go.RowKit
set_option linter.unusedVariables false

/-- A number within 2^41. -/
def OddPost (b k : Nat) (w : World) (e : Ending) (w' : World) : Prop :=
  ∃ v : Int, -2199023255552 ≤ v ∧ v ≤ 2199023255552 ∧ e = .returned (.int .i64 v) ∧ Str w' b (k + 2) ∧ w.grownBy w' (some b)

theorem gr_some {a c : World} {b : Nat} (h : a.grownBy c none) : a.grownBy c (some b) := gr_weak h _

set_option maxHeartbeats 400000 in
theorem odd_in (b k : Nat) (low high : Int) (w : World) (hs : Str w b k) (hk : k ≤ 100000000000) (h1 : -1099511627776 ≤ low) (h2 : low ≤ high) (h3 : high ≤ 1099511627776) :
    Calls Tryz.prog 31 #[.pointer (some ⟨b, 0, none⟩), .int .i64 low, .int .i64 high] w (OddPost b k w) := by
  go_enter Tryz.func31, Tryz.ntmps31
  go_wp2_with fail
  refine (flip_in b k _ _ hs (by omega) (by omega) (by omega)).mono ?_
  rintro e w1 ⟨v, rfl, hs1, hg1⟩
  cases v
  · go_wp2_with fail
    refine (range_in b _ _ _ _ hs1 (by omega) (by omega) h2 (by omega)).mono ?_
    rintro e w2 ⟨v, hv0, hv1, rfl, hs2, hg2⟩
    go_wp2_with fail
    go_ret
    exact ⟨v, by omega, by omega, rfl, hs2, gr_trans hg1 hg2⟩
  · go_wp2_with fail
    refine (pick_new b _ 6 6 [low - 1, high + 1, low, high, -1099511627776, 1099511627776] _ hs1 (by omega) rfl (by decide) (by decide)).mono ?_
    rintro e w2 ⟨v, hv, rfl, hs2, hg2⟩
    have hvb : -2199023255552 ≤ v ∧ v ≤ 2199023255552 := by simp at hv; omega
    go_wp2_with fail
    go_ret
    exact ⟨v, hvb.1, hvb.2, rfl, hs2, gr_trans hg1 hg2⟩

/-- A site within 2^41. -/
def SitePost (b k : Nat) (w : World) (e : Ending) (w' : World) : Prop :=
  ∃ n v : Int, -2199023255552 ≤ n ∧ n ≤ 2199023255552 ∧ -2199023255552 ≤ v ∧ v ≤ 2199023255552 ∧ e = .returned (.agg #[.int .i64 n, .int .i64 v]) ∧ Str w' b (k + 9) ∧ w.grownBy w' (some b)

set_option maxHeartbeats 1000000 in
theorem siteOf_in (b k : Nat) (w : World) (hs : Str w b k) (hk : k ≤ 10000000000) :
    Calls Tryz.prog 4 #[.pointer (some ⟨b, 0, none⟩)] w (SitePost b k w) := by
  go_enter Tryz.func4, Tryz.ntmps4
  go_wp2_with fail
  refine (range_in b k _ _ _ (hs.alloc _) (by omega) (by omega) (by omega) (by omega)).mono ?_
  rintro e w1 ⟨v1, hv10, hv11, rfl, hs1, hg1⟩
  go_wp2_with fail
  refine (pick_new b _ 6 6 [0, 172800, 174599, -324000, 324000, v1] _ hs1 (by omega) rfl (by decide) (by decide)).mono ?_
  rintro e w2 ⟨n, hn, rfl, hs2, hg2⟩
  have hnb : -324000 ≤ n ∧ n ≤ 324000 := by simp at hn; omega
  clear hn
  go_wp2_with fail
  refine (range_in b _ _ _ _ hs2 (by omega) (by omega) (by omega) (by omega)).mono ?_
  rintro e w3 ⟨v2, hv20, hv21, rfl, hs3, hg3⟩
  go_wp2_with fail
  refine (pick_new b _ 5 5 [0, 36000, -648000, 647999, v2] _ hs3 (by omega) rfl (by decide) (by decide)).mono ?_
  rintro e w4 ⟨m, hm, rfl, hs4, hg4⟩
  have hmb : -648000 ≤ m ∧ m ≤ 647999 := by simp at hm; omega
  clear hm
  have hr4 : Blk w4 w.heap.size 27 #[.int .i64 0, .int .i64 0] :=
    ((((Blk.new w 27 #[.int .i64 0, .int .i64 0]).grown hg1 (by have := hs.lt; simp; omega)).grown hg2 (by have := hs.lt; simp; omega)).grown hg3 (by have := hs.lt; simp; omega)).grown hg4 (by have := hs.lt; simp; omega)
  have hrlt := hr4.lt
  have hbs := hs.lt
  have hG4 : w.grownBy w4 (some b) := gr_trans (gr_trans (gr_trans (gr_trans (World.grownBy_alloc w _ _) hg1) hg2) hg3) hg4
  go_wp2_with fail
  refine (flip_in b _ _ _ (hs4.alloc _) (by omega) (by omega) (by omega)).mono ?_
  rintro e w5 ⟨v, rfl, hs5, hg5⟩
  have hp5 : Blk w5 w4.heap.size 27 #[.int .i64 n, .int .i64 m] := (Blk.new w4 _ _).grown hg5 (by simp; omega)
  have hr5 : Blk w5 w.heap.size 27 #[.int .i64 0, .int .i64 0] := (hr4.alloc _).grown hg5 (by simp; omega)
  have hG5 : w.grownBy w5 (some b) := gr_trans (gr_alloc hG4 _) hg5
  clear hg1 hg2 hg3 hg4 hg5 hG4 hr4
  cases v
  · have c0 := hp5.cell 0
    have c1 := hp5.cell 1
    have d0 := hr5.cell 0
    have d1 := hr5.cell 1
    have f0 := hr5.free 0
    have f1 := hr5.free 1
    simp only [List.getElem?_toArray, List.getElem?_cons_zero, List.getElem?_cons_succ] at c0 c1 d0 d1
    go_wp2_with fail
    refine bodyPost_ret (v := .agg #[.int .i64 n, .int .i64 m]) (by simp [results, Tryz.results4, go_sem, d0, d1]) rfl ?_
    have hfin : w.grownBy ((w5.setCell ⟨w.heap.size, 0, none⟩ (.int .i64 n)).setCell ⟨w.heap.size, 1, none⟩ (.int .i64 m)) (some b) := gr_put (gr_put hG5 (.inr (Nat.le_refl _)) _) (.inr (Nat.le_refl _)) _
    exact ⟨n, m, by omega, by omega, by omega, by omega, rfl, (hs5.put_far (by simp; omega) (by simp; omega) _ _).mono (by omega), hfin⟩
  · go_wp2_with fail
    refine (odd_in b _ _ _ _ hs5 (by omega) (by omega) (by omega) (by omega)).mono ?_
    rintro e w6 ⟨n', hn0, hn1, rfl, hs6, hg6⟩
    go_wp2_with fail
    refine (odd_in b _ _ _ _ hs6 (by omega) (by omega) (by omega) (by omega)).mono ?_
    rintro e w7 ⟨m', hm0, hm1, rfl, hs7, hg7⟩
    have hp7 := (hp5.grown hg6 (by simp; omega)).grown hg7 (by simp; omega)
    have hr7 := (hr5.grown hg6 (by simp; omega)).grown hg7 (by simp; omega)
    have c0 := hp7.cell 0
    have c1 := hp7.cell 1
    have d0 := hr7.cell 0
    have d1 := hr7.cell 1
    have f0 := hr7.free 0
    have f1 := hr7.free 1
    have g0 := hp7.free 0
    have g1 := hp7.free 1
    simp only [List.getElem?_toArray, List.getElem?_cons_zero, List.getElem?_cons_succ] at c0 c1 d0 d1
    go_wp2_with fail
    refine bodyPost_ret (v := .agg #[.int .i64 n', .int .i64 m']) (by simp [results, Tryz.results4, go_sem, d0, d1]) rfl ?_
    have hb4 : b < w4.heap.size := by omega
    exact ⟨n', m', hn0, hn1, hm0, hm1, rfl, (((hs7.put_far (p := ⟨w4.heap.size, 0, none⟩) (q := ⟨w4.heap.size, 1, none⟩) hb4 hb4 _ _).put_far (p := ⟨w.heap.size, 0, none⟩) (q := ⟨w.heap.size, 1, none⟩) hbs hbs _ _)).mono (by omega),
      gr_put (gr_put (gr_put (gr_put (gr_trans (gr_trans hG5 hg6) hg7) (.inr (by simp; omega)) _) (.inr (by simp; omega)) _) (.inr (Nat.le_refl _)) _) (.inr (Nat.le_refl _)) _⟩

/-- A moment. -/
def SkyPost (b k : Nat) (w : World) (e : Ending) (w' : World) : Prop :=
  ∃ v : Int, 0 ≤ v ∧ v ≤ 69206399999 ∧ e = .returned (.int .i64 v) ∧ Str w' b (k + 3) ∧ w.grownBy w' (some b)

end Go.Proofs.YtbaocnbppefciaaGreat
