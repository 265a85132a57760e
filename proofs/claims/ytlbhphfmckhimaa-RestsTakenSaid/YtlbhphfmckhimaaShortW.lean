/- The walk over the stream's ShortTimes: times in a short contest, with rests. Condition: the stream has handed out at most 10^9 numbers. -/
import Derived.Test.YtlbhphfmckhimaaStreamA
import Derived.Test.YtlbhphfmckhimaaInts
import Derived.Deep.RegionWith
import Derived.Deep.RegionHeld3
import Derived.Deep.DeepCutAuto
namespace Go.Proofs.Ytlbhphfmckhimaa
open Go.RowKit
set_option linter.unusedVariables false

theorem ints_put {base : Nat} {w : World} {v : Value} {l : List Int} (h : IntsFrom base w v l) (p : Addr) (u : Value) (hne : v.ownBlock ≠ some p.block) : IntsFrom base (w.setCell p u) v l := by
  have hg : w.grownBy (w.setCell p u) (some p.block) := gr_put (gr_refl _ _) (.inl rfl) u
  refine ⟨h.1, ?_⟩
  rcases h.2 with h0 | ⟨g, cap, cur, h1, h2, h3, h4⟩
  · exact .inl h0
  · refine .inr ⟨g, cap, cur, h1, h2, ?_, h4⟩
    rw [hg.block g (Array.getElem?_eq_some_iff.1 h3).1 (fun e => hne (by rw [h1]; exact e))]
    exact h3
theorem shBlk_new {W : World} {n : Nat} {t : TypeId} {cs cs' : Array Value} (h1 : n = W.heap.size) (h2 : cs' = cs) : Blk (W.alloc (.cells cs t)) n t cs' := by
  subst h1; subst h2; exact Blk.new W t _
theorem shBlk_over (b : Nat) {W wP : World} (h : W.grownBy wP (some b)) : Hid (∀ (g : Nat) (cs : Array Value), Blk W g 3 cs → g ≠ b → Blk wP g 3 cs) := fun g cs hb hg => hb.grown h (by simpa using hg)
def ShortPost (b k : Nat) (w : World) (e : Ending) (w' : World) : Prop :=
  ∃ (v : Value) (l : List Int) (a z nd ls : Int), e = .returned (.tuple #[v, .agg #[.int .i64 a, .int .i64 z], .agg #[.int .i64 nd, .int .i64 ls]]) ∧ IntsFrom w.heap.size w' v l ∧ l.length ≤ 10 ∧ 0 ≤ a ∧ a ≤ 5000 ∧ 6000 ≤ z ∧ z ≤ 24000 ∧ -1 ≤ nd ∧ nd ≤ 8000 ∧ 0 ≤ ls ∧ ls ≤ 4000 ∧ Str w' b (k + 40) ∧ w.grownBy w' (some b)
set_option maxRecDepth 100000 in
set_option maxHeartbeats 4000000 in
theorem short_in (b k : Nat) (w : World) (hs : Str w b k) (hk : k ≤ 1000000000) :
    Calls Try.prog 7 #[.pointer (some ⟨b, 0, none⟩)] w (ShortPost b k w) := by
  obtain ⟨i0, hi, hz0, hz1, hz2⟩ := info_parts intInfo
  have hbs := hs.lt
  have hs0 := (hs.alloc (.cells #[.int .i64 0, .int .i64 0] 27)).alloc (.cells #[.int .i64 0, .int .i64 0] 32)
  have hr0 := (Blk.new w 27 #[.int .i64 0, .int .i64 0]).alloc (.cells #[.int .i64 0, .int .i64 0] 32)
  have hq0 := Blk.new (w.alloc (.cells #[.int .i64 0, .int .i64 0] 27)) 32 #[.int .i64 0, .int .i64 0]
  rw [World.size_alloc] at hq0
  have hG0 := gr_alloc (World.grownBy_alloc w (.cells #[.int .i64 0, .int .i64 0] 27) (some b)) (.cells #[.int .i64 0, .int .i64 0] 32)
  obtain ⟨R0, hR0⟩ : ∃ r, w.heap.size = r := ⟨_, rfl⟩
  have HR0 := Lib.hid hR0
  clear hR0
  go_enter Try.func7, Try.ntmps7
  go_upto_region 1 with fail
  generalize (w.alloc (.cells #[.int .i64 0, .int .i64 0] 27)).alloc (.cells #[.int .i64 0, .int .i64 0] 32) = W0 at *
  rw [HR0.out] at hr0 hq0 hbs
  (try rw [HR0.out])
  go_wp2_with fail
  refine (pick_at b k _ 2 2 [0, 5000] _ hs0 rfl (by omega) rfl (by decide) (by decide)).mono ?_
  rintro e w1 ⟨a, ha, rfl, hs1, hg1⟩
  have hab : 0 ≤ a ∧ a ≤ 5000 := by simp at ha; omega
  have hr1 := hr0.grown hg1 (by simp; omega)
  have hq1 := hq0.grown hg1 (by simp; omega)
  have hG1 := gr_trans hG0 hg1
  clear ha hs0 hr0 hq0 hG0 hg1
  go_wp2_with fail
  refine (range_in b _ _ _ _ hs1 (by omega) (by omega) (by omega) (by omega)).mono ?_
  rintro e w2 ⟨zt, hz0', hz1', rfl, hs2, hg2⟩
  have hr2 := hr1.grown hg2 (by simp; omega)
  have hq2 := hq1.grown hg2 (by simp; omega)
  have hG2 := gr_trans hG1 hg2
  have m1 : IntKind.i64.wrap (1000 * zt) = 1000 * zt := by rw [IntKind.wrap_i64]; omega
  clear hs1 hr1 hq1 hG1 hg2
  have hx3 := Blk.new w2 27 #[.int .i64 a, .int .i64 (1000 * zt)]
  have hr3 := hr2.alloc (.cells #[.int .i64 a, .int .i64 (1000 * zt)] 27)
  have hq3 := hq2.alloc (.cells #[.int .i64 a, .int .i64 (1000 * zt)] 27)
  have hs3 := hs2.alloc (.cells #[.int .i64 a, .int .i64 (1000 * zt)] 27)
  have hG3 := gr_alloc hG2 (.cells #[.int .i64 a, .int .i64 (1000 * zt)] 27)
  have hrB := hr2.lt
  have hqB := hq2.lt
  have hBlt := hx3.lt
  go_wp2_with fail
  generalize w2.alloc (.cells #[.int .i64 a, .int .i64 (1000 * zt)] 27) = W at *
  generalize w2.heap.size = B at *
  clear hr2 hq2 hs2 hG2 m1
  obtain ⟨z, hz⟩ : ∃ z, 1000 * zt = z := ⟨_, rfl⟩
  rw [hz] at hx3 ⊢
  have hzb : 6000 ≤ z ∧ z ≤ 24000 := by omega
  clear hz hz0' hz1'
  refine (range_in b _ _ _ _ hs3 (by omega) (by omega) (by omega) (by omega)).mono ?_
  rintro e w4 ⟨n, hn0, hn1, rfl, hs4, hg4⟩
  have hx4 := hx3.grown hg4 (by simp; omega)
  have hr4 := hr3.grown hg4 (by simp; omega)
  have hq4 := hq3.grown hg4 (by simp; omega)
  have hG4 := gr_trans hG3 hg4
  have hB4 := hx4.lt
  clear hx3 hr3 hq3 hs3 hG3 hg4
  go_wp2_with fail
  go_loopw [6, 7, 20] (fun o t i wr => ∃ (out : List Int) (t' : Int) (j : Nat), j ≤ 10 ∧ (j : Int) ≤ n ∧ i = .int .i64 j ∧ t = .int .i64 t' ∧ 0 ≤ t' ∧ t' ≤ 5000 + 2300 * (j : Int) ∧ out.length ≤ j ∧ IntsFrom w4.heap.size wr o out ∧ Str wr b (k + 3 + j) ∧ Blk wr B 27 #[.int .i64 a, .int .i64 z] ∧ w4.grownBy wr (some b)) (fun _ _ i _ => 10 - (intOf i).toNat)
  case atStart => exact ⟨[], a, 0, by omega, by omega, rfl, rfl, by omega, by omega, by simp, IntsFrom.nil _ _, hs4, hx4, gr_refl _ _⟩
  case round =>
    obtain ⟨out, t, j, hj, hjn, rfl, rfl, ht0, ht1, hol, hown, hsr, hxr, hgr⟩ := hrel
    obtain ⟨A2, c2, rfl, hlen2, hA2⟩ := hown.shape
    by_cases hlt : (j : Int) < n
    · go_wp2_with fail
      refine (pick_at b _ _ 4 4 [0, 500, 1000, 2300] _ hsr rfl (by omega) rfl (by decide) (by decide)).mono ?_
      rintro e w5 ⟨d, hd, rfl, hs5, hg5⟩
      have hdb : 0 ≤ d ∧ d ≤ 2300 := by simp at hd; omega
      have hx5 := hxr.grown hg5 (by simp; omega)
      have hG5 := gr_trans hgr hg5
      have hown0 : IntsFrom w4.heap.size w5 (.slice A2 out.length c2) out := hown.other hg5 (by have := hG4.size; omega)
      have hown1 : w5.ownsRow w4.heap.size 3 1 (.slice A2 out.length c2) out.length (out.map (Value.int .i64)) := hown0
      have x1 := hx5.cell 1
      simp only [List.getElem?_toArray, List.getElem?_cons_zero, List.getElem?_cons_succ] at x1
      have hsz5 := hG5.size
      have hG4s := hG4.size
      clear hd hg5 hown hsr hA2
      by_cases htz : t + d < z
      · go_wp2_with (at_builtin; refine wpList_append_own _ rfl _ _ 22 rfl w4.heap.size 3 i0 _ 1 8 Try.underlying22 hi hz0 hz1 hz2 rfl (by decide) _ _ _ rfl (hown1.alloc _) ⟨w5.heap.size, 0, none⟩ 1 1 [.int .i64 (t + d)] rfl rfl (one_cell w5 (t + d) _) (one_oneCell (t + d)) (by unfold maxLen; omega) (by omega) (by simp; omega) ?_; intro v' w6 hown2 hgrow2 _)
        have hrow : ∀ g, (Value.slice A2 out.length c2).ownBlock = some g → w4.heap.size ≤ g := fun g e => (hown1.lt g e).1
        have hG6 : w4.grownBy w6 (some b) := gr_grown (gr_alloc hG5 _) hgrow2 (fun g e => .inr (hrow g e))
        have hown3 : IntsFrom w4.heap.size w6 v' (out ++ [t + d]) := by
          unfold IntsFrom; rw [List.map_append, List.length_append]; exact hown2
        have hs6 : Str w6 b (k + 3 + (j + 1)) := ((hs5.alloc _).grown hgrow2 (fun g e => by have := hrow g e; omega)).mono (by omega)
        have hx6 : Blk w6 B 27 #[.int .i64 a, .int .i64 z] := (hx5.alloc _).grown hgrow2 (fun e => by have := hrow B e.symm; omega)
        go_wp2_with fail
        go_roundw
        case rel => exact ⟨out ++ [t + d], t + d, j + 1, by omega, by omega, by go_num, rfl, by omega, by omega, by simp; omega, hown3, hs6, hx6, hG6⟩
        case measure => simp [intOf]; omega
      · go_wp2_with fail
        go_roundw
        case rel => exact ⟨out, t + d, j + 1, by omega, by omega, by go_num, rfl, by omega, by omega, by omega, hown0, hs5.mono (by omega), hx5, hG5⟩
        case measure => simp [intOf]; omega
    · have hsw := hG4.size
      have hG5 := gr_trans hG4 hgr
      have hrr : Blk wr R0 27 #[.int .i64 0, .int .i64 0] := hr4.grown hgr (by simp; omega)
      have hqr : Blk wr (R0 + 1) 32 #[.int .i64 0, .int .i64 0] := hq4.grown hgr (by simp; omega)
      replace hsr : Str wr b (k + 13) := hsr.mono (by omega)
      have hll : out.length ≤ 10 := by omega
      obtain ⟨v, hv⟩ : ∃ v, Value.slice A2 out.length c2 = v := ⟨_, rfl⟩
      rw [hv] at hown ⊢
      have hbase : b < w4.heap.size ∧ R0 + 1 < w4.heap.size := by have := hq4.lt; omega
      clear hr4 hq4 hx4 hs4 hgr hG4 hA2 hv hlen2 hol
      go_wp2_with fail
      refine (range_in b _ _ _ _ hsr (by omega) (by omega) (by omega) (by omega)).mono ?_
      rintro e w5 ⟨n1, hn10, hn11, rfl, hs5, hg5⟩
      have hx5 := hxr.grown hg5 (by simp; omega)
      have hr5 := hrr.grown hg5 (by simp; omega)
      have hq5 := hqr.grown hg5 (by simp; omega)
      have hown5 := hown.other hg5 (by omega)
      have hG6 := gr_trans hG5 hg5
      have m1 : IntKind.i64.wrap (1000 * n1) = 1000 * n1 := by rw [IntKind.wrap_i64]; omega
      clear hxr hrr hqr hown hsr hG5 hg5
      go_wp2_with fail
      refine (range_in b _ _ _ _ hs5 (by omega) (by omega) (by omega) (by omega)).mono ?_
      rintro e w6 ⟨n2, hn20, hn21, rfl, hs6, hg6⟩
      have hx6 := hx5.grown hg6 (by simp; omega)
      have hr6 := hr5.grown hg6 (by simp; omega)
      have hq6 := hq5.grown hg6 (by simp; omega)
      have hown6 := hown5.other hg6 (by omega)
      have hG7 := gr_trans hG6 hg6
      have m2 : IntKind.i64.wrap (1000 * n2) = 1000 * n2 := by rw [IntKind.wrap_i64]; omega
      clear hx5 hr5 hq5 hown5 hs5 hG6 hg6
      have hy7 := Blk.new w6 32 #[.int .i64 (1000 * n1), .int .i64 (1000 * n2)]
      have hx7 := hx6.alloc (.cells #[.int .i64 (1000 * n1), .int .i64 (1000 * n2)] 32)
      have hr7 := hr6.alloc (.cells #[.int .i64 (1000 * n1), .int .i64 (1000 * n2)] 32)
      have hq7 := hq6.alloc (.cells #[.int .i64 (1000 * n1), .int .i64 (1000 * n2)] 32)
      have hs7 := hs6.alloc (.cells #[.int .i64 (1000 * n1), .int .i64 (1000 * n2)] 32)
      have hG8 := gr_alloc hG7 (.cells #[.int .i64 (1000 * n1), .int .i64 (1000 * n2)] 32)
      have hown7 := hown6.grown (World.grownBy_alloc w6 (.cells #[.int .i64 (1000 * n1), .int .i64 (1000 * n2)] 32) none)
      have hlt6 := World.ownsRow.lt hown6
      have hR6 := hr6.lt
      have hB6 := hx6.lt
      have hbB : b < w6.heap.size := hs6.lt
      have hRw := hG7.size
      clear hx6 hr6 hq6 hs6 hG7 hown6
      go_wp2_with fail
      generalize w6.alloc (.cells #[.int .i64 (1000 * n1), .int .i64 (1000 * n2)] 32) = W7 at *
      generalize w6.heap.size = B2 at *
      clear m1 m2
      obtain ⟨nd, hnd⟩ : ∃ z, 1000 * n1 = z := ⟨_, rfl⟩
      obtain ⟨ls, hls⟩ : ∃ z, 1000 * n2 = z := ⟨_, rfl⟩
      rw [hnd, hls] at hy7 ⊢
      have hndb : 0 ≤ nd ∧ nd ≤ 8000 := by omega
      have hlsb : 1000 ≤ ls ∧ ls ≤ 4000 := by omega
      clear hnd hls hn10 hn11 hn20 hn21
      have HNE : Hid (v.ownBlock ≠ some R0 ∧ v.ownBlock ≠ some (R0 + 1) ∧ v.ownBlock ≠ some B ∧ v.ownBlock ≠ some B2 ∧ v.ownBlock ≠ some b) :=
        ⟨fun e => by have := (hlt6 _ e).1; omega, fun e => by have := (hlt6 _ e).1; omega, fun e => by have := (hlt6 _ e).1; omega, fun e => by have := (hlt6 _ e).2; omega, fun e => by have := (hlt6 _ e).1; omega⟩
      clear hlt6
      refine (flip_in _ _ _ _ hs7 (by omega) (by omega) (by omega)).mono ?_
      rintro e w8 ⟨fl, rfl, hs8, hg8⟩
      have hx8 := hx7.grown hg8 (by simp; omega)
      have hy8 := hy7.grown hg8 (by simp; omega)
      have hr8 := hr7.grown hg8 (by simp; omega)
      have hq8 := hq7.grown hg8 (by simp; omega)
      have hown8 := hown7.other hg8 (by omega)
      have hG9 := gr_trans hG8 hg8
      replace hs8 : Str w8 b (k + 20) := hs8.mono (by omega)
      clear hx7 hy7 hr7 hq7 hown7 hs7 hG8 hg8
      have HFIN : Hid (∀ (w9 : World) (nd ls : Int), IntsFrom w4.heap.size w9 v out → Str w9 b (k + 30) → w.grownBy w9 (some b) → -1 ≤ nd → nd ≤ 8000 → 0 ≤ ls → ls ≤ 4000 →
          ShortPost b k w (.returned (.tuple #[v, .agg #[.int .i64 a, .int .i64 z], .agg #[.int .i64 nd, .int .i64 ls]])) ((((w9.setCell ⟨R0, 0, none⟩ (.int .i64 a)).setCell ⟨R0, 1, none⟩ (.int .i64 z)).setCell ⟨R0 + 1, 0, none⟩ (.int .i64 nd)).setCell ⟨R0 + 1, 1, none⟩ (.int .i64 ls)).drew) := by
        intro w9 nd ls h1 h2 h3 h4 h5 h6 h7
        have hw := HR0.out
        refine ⟨v, out, a, z, nd, ls, rfl, ?_, hll, by omega, by omega, by omega, by omega, h4, h5, h6, h7, ?_, ?_⟩
        · refine ownsRow_low (ints_put (ints_put (ints_put (ints_put h1 _ _ ?_) _ _ ?_) _ _ ?_) _ _ ?_) (by omega)
          · exact HNE.out.1
          · exact HNE.out.1
          · exact HNE.out.2.1
          · exact HNE.out.2.1
        · exact ((((h2.setCell (p := ⟨R0, 0, none⟩) (by show b < R0; omega) _).setCell (p := ⟨R0, 1, none⟩) (by show b < R0; omega) _).setCell (p := ⟨R0 + 1, 0, none⟩) (by show b < R0 + 1; omega) _).setCell (p := ⟨R0 + 1, 1, none⟩) (by show b < R0 + 1; omega) _).mono (by omega)
        · exact gr_drew (gr_put (gr_put (gr_put (gr_put h3 (p := ⟨R0, 0, none⟩) (.inr (by show _ ≤ R0; omega)) (.int .i64 a)) (p := ⟨R0, 1, none⟩) (.inr (by show _ ≤ R0; omega)) (.int .i64 z)) (p := ⟨R0 + 1, 0, none⟩) (.inr (by show _ ≤ R0 + 1; omega)) (.int .i64 nd)) (p := ⟨R0 + 1, 1, none⟩) (.inr (by show _ ≤ R0 + 1; omega)) (.int .i64 ls))
      cases fl
      · obtain ⟨x0, x1⟩ := hx8.cells2
        obtain ⟨y0, y1⟩ := hy8.cells2
        obtain ⟨r0, r1⟩ := hr8.cells2
        obtain ⟨q0, q1⟩ := hq8.cells2
        have f1 := hr8.free
        have f2 := hq8.free
        go_wp2_with fail
        go_region
        go_wp2_with fail
        obtain ⟨e0, e1⟩ := (((hr8.put01 (.int .i64 a) (.int .i64 z)).far (p := ⟨R0 + 1, 0, none⟩) (by show R0 ≠ R0 + 1; omega) (.int .i64 nd)).far (p := ⟨R0 + 1, 1, none⟩) (by show R0 ≠ R0 + 1; omega) (.int .i64 ls)).cells2
        obtain ⟨e2, e3⟩ := (((hq8.far (p := ⟨R0, 0, none⟩) (by show R0 + 1 ≠ R0; omega) (.int .i64 a)).far (p := ⟨R0, 1, none⟩) (by show R0 + 1 ≠ R0; omega) (.int .i64 z)).put01 (.int .i64 nd) (.int .i64 ls)).cells2
        refine bodyPost_ret (v := .tuple #[v, .agg #[.int .i64 a, .int .i64 z], .agg #[.int .i64 nd, .int .i64 ls]]) (by simp [results, Try.results7, go_sem, e0, e1, e2, e3]) rfl ?_
        exact HFIN.out w8 nd ls hown8 (hs8.mono (by omega)) hG9 (by omega) (by omega) (by omega) (by omega)
      · obtain ⟨y0, y1⟩ := hy8.cells2
        have hb8 : b < w8.heap.size := hs8.lt
        have hB28 := hy8.lt
        have d0 : w8.drew.cell? ⟨B2, 0, none⟩ = some (.int .i64 nd) := y0
        have d1 : w8.drew.cell? ⟨B2, 1, none⟩ = some (.int .i64 ls) := y1
        have hY := Lib.hid hy8
        have hbB2 : B2 ≠ b := by omega
        go_wp2_with fail
        go_region_with (first | (have hq2 := hsP; go_at_call 5; refine (pick_in b (k + 20 + 1) _ 3 3 [ls, 0, 1001] _ (by repeat (first | with_reducible exact hsP | with_reducible refine Str.drew ?_ | with_reducible refine Str.alloc ?_ _)) (by omega) (by first | ((repeat (first | (with_reducible refine shBlk_new ?_ ?_; (first | rfl | simp); (first | rfl | simp)) | with_reducible refine Blk.drew ?_ | with_reducible refine Blk.alloc ?_ _)); done) | (with_reducible refine HBK.out _ _ ?_ (by first | omega | (simp; omega)); (repeat (first | (with_reducible refine shBlk_new ?_ ?_; (first | rfl | simp); (first | rfl | simp)) | with_reducible refine Blk.drew ?_ | with_reducible refine Blk.alloc ?_ _)))) (by first | omega | (simp; omega)) rfl (by decide) (by decide)).mono ?_; rintro _ wS ⟨py, hpy, rfl, hsS, hgS⟩; have hYS := (Blk.grown (row := none) hYP (by repeat (first | exact gr_refl _ _ | assumption | refine gr_alloc ?_ _ | refine gr_drewN ?_ _ | refine gr_drew ?_)) (by simp)).grown hgS (by simpa using hbB2); obtain ⟨f0, f1⟩ := hYS.cells2; have hfzS := hYS.free; have hgS0 := gr_trans (show wP.grownBy _ (some b) from gr_weak (by repeat (first | exact gr_refl _ _ | assumption | refine gr_alloc ?_ _ | refine gr_drewN ?_ _ | refine gr_drew ?_)) _) hgS) | (go_at_call 5; refine (pick_in b (k + 20) _ 3 3 [nd, 1500, -1] _ (by repeat (first | with_reducible exact hs8 | with_reducible refine Str.drew ?_ | with_reducible refine Str.alloc ?_ _)) (by omega) (by repeat (first | (with_reducible refine shBlk_new ?_ ?_; (first | rfl | simp); (first | rfl | simp)) | with_reducible refine Blk.drew ?_ | with_reducible refine Blk.alloc ?_ _)) (by first | omega | (simp; omega)) rfl (by decide) (by decide)).mono ?_; rintro _ wP ⟨px, hpx, rfl, hsP, hgP⟩; have HBK := shBlk_over b hgP; have hYP := (Blk.grown (row := none) hY.out (by repeat (first | exact gr_refl _ _ | assumption | refine gr_alloc ?_ _ | refine gr_drewN ?_ _ | refine gr_drew ?_)) (by simp)).grown hgP (by simpa using hbB2); obtain ⟨e0, e1⟩ := hYP.cells2; have hGP := gr_trans (show w8.grownBy _ (some b) from gr_weak (by repeat (first | exact gr_refl _ _ | assumption | refine gr_alloc ?_ _ | refine gr_drewN ?_ _ | refine gr_drew ?_)) _) hgP; have hszP := hGP.size; have hglP : B2 < wP.heap.size := by omega) | fail)
        all_goals
          have hpxb : -1 ≤ px ∧ px ≤ 8000 := by
            simp only [List.mem_cons, List.not_mem_nil, or_false] at hpx
            omega
          have hpyb : 0 ≤ py ∧ py ≤ 4000 := by
            simp only [List.mem_cons, List.not_mem_nil, or_false] at hpy
            omega
          have hG8S := gr_trans hGP hgS0
          have hxS := ((hx8.grown hG8S (by simp; omega)).far (p := ⟨B2, 0, none⟩) (by show B ≠ B2; omega) (.int .i64 px)).far (p := ⟨B2, 1, none⟩) (by show B ≠ B2; omega) (.int .i64 py)
          have hrS := ((hr8.grown hG8S (by simp; omega)).far (p := ⟨B2, 0, none⟩) (by show R0 ≠ B2; omega) (.int .i64 px)).far (p := ⟨B2, 1, none⟩) (by show R0 ≠ B2; omega) (.int .i64 py)
          have hqS := ((hq8.grown hG8S (by simp; omega)).far (p := ⟨B2, 0, none⟩) (by show R0 + 1 ≠ B2; omega) (.int .i64 px)).far (p := ⟨B2, 1, none⟩) (by show R0 + 1 ≠ B2; omega) (.int .i64 py)
          have hyS := hYS.put01 (.int .i64 px) (.int .i64 py)
          have hoS := ints_put (ints_put (hown8.other hG8S (by omega)) ⟨B2, 0, none⟩ (.int .i64 px) HNE.out.2.2.2.1) ⟨B2, 1, none⟩ (.int .i64 py) HNE.out.2.2.2.1
          have hsT := (hsS.setCell (p := ⟨B2, 0, none⟩) (by show b < B2; omega) (.int .i64 px)).setCell (p := ⟨B2, 1, none⟩) (by show b < B2; omega) (.int .i64 py)
          have hGT := gr_put (gr_put (gr_trans hG9 hG8S) (p := ⟨B2, 0, none⟩) (.inr (by show _ ≤ B2; omega)) (.int .i64 px)) (p := ⟨B2, 1, none⟩) (.inr (by show _ ≤ B2; omega)) (.int .i64 py)
          clear hx8 hy8 hr8 hq8 hown8 hs8 hG9 y0 y1 d0 d1 hY f0 f1 hfzS hYS hYP e0 e1 hgS hgP hsP hsS hGP hgS0 hG8S HBK hpx hpy
          generalize (wS.setCell ⟨B2, 0, none⟩ (.int .i64 px)).setCell ⟨B2, 1, none⟩ (.int .i64 py) = w9 at *
          obtain ⟨x0, x1⟩ := hxS.cells2
          obtain ⟨y0, y1⟩ := hyS.cells2
          obtain ⟨r0, r1⟩ := hrS.cells2
          obtain ⟨q0, q1⟩ := hqS.cells2
          have f1 := hrS.free
          have f2 := hqS.free
          go_wp2_with fail
          go_region
          go_wp2_with fail
          obtain ⟨e0, e1⟩ := (((hrS.put01 (.int .i64 a) (.int .i64 z)).far (p := ⟨R0 + 1, 0, none⟩) (by show R0 ≠ R0 + 1; omega) (.int .i64 px)).far (p := ⟨R0 + 1, 1, none⟩) (by show R0 ≠ R0 + 1; omega) (.int .i64 py)).cells2
          obtain ⟨e2, e3⟩ := (((hqS.far (p := ⟨R0, 0, none⟩) (by show R0 + 1 ≠ R0; omega) (.int .i64 a)).far (p := ⟨R0, 1, none⟩) (by show R0 + 1 ≠ R0; omega) (.int .i64 z)).put01 (.int .i64 px) (.int .i64 py)).cells2
          refine bodyPost_ret (v := .tuple #[v, .agg #[.int .i64 a, .int .i64 z], .agg #[.int .i64 px, .int .i64 py]]) (by simp [results, Try.results7, go_sem, e0, e1, e2, e3]) rfl ?_
          exact HFIN.out w9 px py hoS (hsT.mono (by omega)) hGT (by omega) (by omega) (by omega) (by omega)
end Go.Proofs.Ytlbhphfmckhimaa
