/- The walks over slices.Clone, rate.Gap, pileref1.gaps and GapOf. Condition: the window's end is no number beyond 2^60; times without error where the name says ok. -/
import Derived.Test.YtjhklpffmfdkbaaRateBest
import Derived.Deep.AppendLies
namespace Go.Proofs.Ytjhklpffmfdkbaa
open Go.RowKit
set_option linter.unusedVariables false

theorem clone_any (base : Nat) (v : Value) (l : List Int) (w : World) (hl : IntsFrom base w v l) (hn : l.length ≤ 1000000) :
    Calls Try.prog 63 #[v] w fun r w' => ∃ u, r = .returned u ∧ IntsFrom w.heap.size w' u l ∧ w.grownBy w' none := by
  obtain ⟨A, c, rfl, hlen, hA⟩ := hl.shape
  rcases Nat.eq_zero_or_pos l.length with h0 | h0
  · have hl0 : l = [] := List.eq_nil_of_length_eq_zero h0
    subst hl0
    cases A with
    | none =>
      refine (Try.slices_Clone_int_nil 0 c w).mono ?_
      rintro _ w1 ⟨rfl, rfl⟩
      exact ⟨_, rfl, IntsFrom.nil _ _, gr_refl _ _⟩
    | some ad =>
      refine (Try.slices_Clone_int_zero ad c w).mono ?_
      rintro _ w1 ⟨u, rfl, hown, _, hb⟩
      exact ⟨_, rfl, hown, gr_of_below hb⟩
  · obtain ⟨g, rfl, _, _⟩ := hA h0
    have hc : ∀ j, j < l.length → w.cell? ⟨g, 0 + j, none⟩ = some (.int .i64 (l.getD j 0)) := fun j hj => by
      rw [Nat.zero_add, hl.at_ j hj]
      simp [List.getD, hj]
    refine (Try.slices_Clone_int g 0 l.length c l w (Nat.le_refl _) (by omega) hc).mono ?_
    rintro _ w1 ⟨u, rfl, hown, _, hb⟩
    rw [List.take_length] at hown
    exact ⟨_, rfl, hown, gr_of_below hb⟩

set_option maxHeartbeats 1000000 in
theorem gap_bad (base : Nat) (v : Value) (l : List Int) (a to : Int) (w : World) (hl : IntsFrom base w v l) (hto : -1152921504606846976 ≤ to) (hto2 : to ≤ 1152921504606846976) (hE : timesE l a to ≠ 0) :
    Calls Try.prog 14 #[v, .agg #[.int .i64 a, .int .i64 to]] w fun r w' => r = .returned (.tuple #[.agg #[.int .i64 0, .int .i64 0], .int .i64 (timesE l a to)]) ∧ w.grownBy w' none := by
  have hE1 : (timesE l a to != 0) = true := by rw [bne_iff_ne]; exact hE
  have hG := gr_alloc (World.grownBy_alloc w (.cells #[.int .i64 a, .int .i64 to] 27) none) (.cells #[.int .i64 0, .int .i64 0] 27)
  have HL := Lib.hid ((hl.alloc (.cells #[.int .i64 a, .int .i64 to] 27)).alloc (.cells #[.int .i64 0, .int .i64 0] 27))
  have hr0 := Blk.new (w.alloc (.cells #[.int .i64 a, .int .i64 to] 27)) 27 #[.int .i64 0, .int .i64 0]
  rw [World.size_alloc] at hr0
  have HE := Lib.hid hE
  clear hl hE
  go_enter Try.func14, Try.ntmps14
  go_wp2_with fail
  refine (checkTimes_any base _ _ _ _ _ HL.out hto hto2).mono ?_
  rintro _ w1 ⟨rfl, hg1⟩
  have hr1 := hr0.grown hg1 (by simp)
  have d0 : w1.cell? ⟨w.heap.size + 1, 0, none⟩ = some (.int .i64 0) := hr1.cell 0
  have d1 : w1.cell? ⟨w.heap.size + 1, 1, none⟩ = some (.int .i64 0) := hr1.cell 1
  have f0 := hr1.free 0
  have f1 := hr1.free 1
  go_wp2_with fail
  refine bodyPost_ret (v := .tuple #[.agg #[.int .i64 0, .int .i64 0], .int .i64 (timesE l a to)]) (by simp [results, Try.results14, go_sem, d0, d1]) rfl ?_
  exact ⟨rfl, gr_put (gr_put (gr_trans hG hg1) (.inr (by simp)) _) (.inr (by simp)) _⟩

theorem gapI_drop (l : List Int) (st : (Int × Int) × Int) (k : Nat) (h : k < l.length) : (l.drop k).foldl gapStep st = (l.drop (k + 1)).foldl gapStep (gapStep st l[k]) := by
  rw [List.drop_eq_getElem_cons h]; rfl

theorem one_kept {w w' : World} {x : Int} {t : TypeId} (hg : (w.alloc (.cells #[.int .i64 x] t)).drew.grownBy w' none) : ∀ j u, ([Value.int .i64 x])[j]? = some u → w'.cell? ((⟨w.heap.size, 0, none⟩ : Addr).add j) = some u := fun j u hu =>
  hg.cell (a := (⟨w.heap.size, 0, none⟩ : Addr).add j) (one_cell w x t j u hu) (by simp)

set_option maxRecDepth 100000 in
set_option maxHeartbeats 4000000 in
theorem gap_ok (base : Nat) (v : Value) (l : List Int) (a to : Int) (w : World) (hl : IntsFrom base w v l) (hE : timesE l a to = 0) :
    Calls Try.prog 14 #[v, .agg #[.int .i64 a, .int .i64 to]] w fun r w' => r = .returned (.tuple #[.agg #[.int .i64 (gapI l a to).1, .int .i64 (gapI l a to).2], .int .i64 0]) ∧ w.grownBy w' none := by
  have O := timesE_ok hE
  obtain ⟨i0, hi, hz0, hz1, hz2⟩ := info_parts intInfo
  have hto := O.to_
  have ha0 := O.a0
  have hato := O.ato
  have hll := O.len
  have hG := gr_alloc (World.grownBy_alloc w (.cells #[.int .i64 a, .int .i64 to] 27) none) (.cells #[.int .i64 0, .int .i64 0] 27)
  have HL := Lib.hid ((hl.alloc (.cells #[.int .i64 a, .int .i64 to] 27)).alloc (.cells #[.int .i64 0, .int .i64 0] 27))
  have hr0 := Blk.new (w.alloc (.cells #[.int .i64 a, .int .i64 to] 27)) 27 #[.int .i64 0, .int .i64 0]
  have hx0 := (Blk.new w 27 #[.int .i64 a, .int .i64 to]).alloc (.cells #[.int .i64 0, .int .i64 0] 27)
  rw [World.size_alloc] at hr0
  have HO := Lib.hid O
  have HE := Lib.hid hE
  clear hl O
  go_enter Try.func14, Try.ntmps14
  go_wp2_with fail
  refine (checkTimes_any base _ _ _ _ _ HL.out (by omega) (by omega)).mono ?_
  rintro _ w1 ⟨rfl, hg1⟩
  have hr1 := hr0.grown hg1 (by simp)
  have hx1 := hx0.grown hg1 (by simp)
  have hG1 := gr_trans hG hg1
  have HL1 := Lib.hid (HL.out.grown hg1)
  have c0 : w1.cell? ⟨w.heap.size, 0, none⟩ = some (.int .i64 a) := hx1.cell 0
  have c1 : w1.cell? ⟨w.heap.size, 1, none⟩ = some (.int .i64 to) := hx1.cell 1
  clear hg1 hG hr0 hx0
  have hlt0 := hx1.lt
  have hlt1 := hr1.lt
  go_wp2_with fail
  have hb1 := Blk.new w1 27 #[.int .i64 a, .int .i64 a]
  have hr2 := hr1.alloc (.cells #[.int .i64 a, .int .i64 a] 27)
  have hx2 := hx1.alloc (.cells #[.int .i64 a, .int .i64 a] 27)
  have HL2 := Lib.hid (HL1.out.alloc (.cells #[.int .i64 a, .int .i64 a] 27))
  have hG2 := gr_alloc hG1 (.cells #[.int .i64 a, .int .i64 a] 27)
  have hsz : w1.heap.size < (w1.alloc (.cells #[.int .i64 a, .int .i64 a] 27)).heap.size := by simp
  generalize hB : w1.heap.size = B at *
  generalize w1.alloc (.cells #[.int .i64 a, .int .i64 a] 27) = W at *
  clear hr1 hx1 HL1 hG1 c0 c1 hB
  have c1 : W.cell? ⟨w.heap.size, 1, none⟩ = some (.int .i64 to) := hx2.cell 1
  have KX : Hid (∀ W' : World, W.grownBy W' none → W'.cell? ⟨w.heap.size, 1, none⟩ = some (.int .i64 to) ∧ W.grownBy W' none) := fun W' hW => ⟨(hx2.grown hW (by simp)).cell 1, hW⟩
  go_region_held3 (fun W' => W'.cell? ⟨w.heap.size, 1, none⟩ = some (.int .i64 to) ∧ W.grownBy W' none)
    ((exact KX.out _ (by first | exact gr_refl _ _ | exact gr_drew (gr_refl _ _) | exact gr_drew (gr_alloc (gr_refl _ _) _) | exact hgA | exact gr_alloc hgA _ | exact gr_grown (gr_alloc hgA _) hgr (fun k hk => .inr (hu.lt k hk).1) | exact gr_grown hgA hgr (fun k hk => .inr (hu.lt k hk).1) | fail)))
    (first | (go_at_call 63; refine (clone_any base _ _ _ (HL2.out.grown (by first | exact gr_drew (gr_refl _ _) | exact gr_drew (gr_alloc (gr_refl _ _) _))) (by have := HO.out.len; omega)).mono ?_; rintro _ w2 ⟨u, rfl, hu0, hgA0⟩; have hgA : W.grownBy w2 none := gr_trans (by first | exact gr_drew (gr_refl _ _) | exact gr_drew (gr_alloc (gr_refl _ _) _)) hgA0; have hu : w2.ownsRow W.heap.size 3 1 u l.length (l.map (Value.int .i64)) := ownsRow_low hu0 (by simp); clear hu0) | (refine step_append_lies _ (by rfl) (.tmp 26) (.tmp 29) 22 (by rfl) W.heap.size 3 i0 _ 1 8 Try.underlying22 hi hz0 hz1 hz2 rfl (by decide) u l.length (l.map (Value.int .i64)) (by simp [Act.eval]) (hu.alloc _) ⟨w2.heap.size, 0, none⟩ 1 1 [.int .i64 to] (by simp [Act.eval]) rfl (one_cell w2 to _) (one_oneCell to) (by decide) (by unfold maxLen; omega) (by omega) (by have := hgA.size; simp; omega) _ rfl ?_; intro g cap w3 hown hgr hat hglt) | (refine step_append_lies _ (by rfl) (.tmp 26) (.tmp 29) 22 (by rfl) W.heap.size 3 i0 _ 1 8 Try.underlying22 hi hz0 hz1 hz2 rfl (by decide) u l.length (l.map (Value.int .i64)) (by simp [Act.eval]) hu ⟨W.heap.size, 0, none⟩ 1 1 [.int .i64 to] (by simp [Act.eval]) rfl (one_kept hgA0) (one_oneCell to) (by decide) (by unfold maxLen; omega) (by omega) hgA.size _ rfl ?_; intro g cap w3 hown hgr hat hglt) | fail)
  all_goals
    have hgB := (hown.lt g rfl).1
    have hG3 : W.grownBy w3 none := by
      first
        | exact gr_grown (gr_alloc hgA _) hgr (fun k hk => .inr (hu.lt k hk).1)
        | exact gr_grown hgA hgr (fun k hk => .inr (hu.lt k hk).1)
    have hr3 := hr2.grown hG3 (by simp)
    have hb3 := hb1.grown hG3 (by simp)
    have hgl : ∀ k, (hk : k < (l ++ [to]).length) → ∀ W', w3.grownBy W' (some B) → W'.cell? ⟨g, k, none⟩ = some (.int .i64 (l ++ [to])[k]) := fun k hk W' hW => by
      have h1 := (hown.kept hW (.inr (by simp [Value.ownBlock]; omega))).cellAt k (by simpa using hk)
      rw [h1]
      by_cases hkl : k < l.length
      · rw [List.getElem?_append_left (by simpa using hkl), List.getElem_append_left hkl]
        simp [hkl]
      · have : k = l.length := by simp at hk; omega
        subst this
        simp
    have HGL := Lib.hid hgl
    have hmemb : ∀ x ∈ l ++ [to], 0 ≤ x ∧ x ≤ 345686400000 := fun x hx => by
      rcases List.mem_append.1 hx with h | h
      · have := HO.out.mem x h; omega
      · simp at h; omega
    have HMB := Lib.hid hmemb
    have hll2 : (l ++ [to]).length = l.length + 1 := by simp
    have HB0 : Hid (gapI l a to = ((l ++ [to]).foldl gapStep ((a, a), a)).1) := rfl
    generalize l ++ [to] = ll at *
    have HL3 := Lib.hid hll2
    clear hgl hmemb hll2 hown hgr hat hu hgA hgA0 KX
    go_wp2_with fail
    go_loopw [8, 32] (fun f i wr => ∃ (k : Nat) (st : (Int × Int) × Int), k ≤ l.length + 1 ∧ i = .int .i64 k ∧ f = .int .i64 st.2 ∧ Hid (gapI l a to = ((ll.drop k).foldl gapStep st).1) ∧ Blk wr B 27 #[.int .i64 st.1.1, .int .i64 st.1.2] ∧ w3.grownBy wr (some B) ∧ 0 ≤ st.1.1 ∧ st.1.1 ≤ 345686400000 ∧ 0 ≤ st.1.2 ∧ st.1.2 ≤ 345686400000 ∧ 0 ≤ st.2 ∧ st.2 ≤ 345686400000) (fun _ i _ => l.length + 1 - (intOf i).toNat)
    case atStart => exact ⟨0, ((a, a), a), by omega, rfl, rfl, HB0, hb3, gr_refl _ _, by dsimp only; omega, by dsimp only; omega, by dsimp only; omega, by dsimp only; omega, by dsimp only; omega, by dsimp only; omega⟩
    case round =>
      obtain ⟨k, ⟨⟨p, q⟩, f⟩, hk, rfl, rfl, HR, hbr, hG, hp0, hp1, hq0, hq1, hf0, hf1⟩ := hrel
      dsimp only at hp0 hp1 hq0 hq1 hf0 hf1 hbr
      have e0 : wr.cell? ⟨B, 0, none⟩ = some (.int .i64 p) := hbr.cell 0
      have e1 : wr.cell? ⟨B, 1, none⟩ = some (.int .i64 q) := hbr.cell 1
      have ef0 := hbr.free 0
      have ef1 := hbr.free 1
      by_cases hlt : k < l.length + 1
      · have hkl : (k : Int) < (l.length : Int) + 1 := by omega
        have hlt2 : k < ll.length := by have := HL3.out; omega
        have cx := HGL.out k hlt2 wr hG
        have hs := congrArg Prod.fst (gapI_drop ll ((p, q), f) k hlt2)
        have hxm := HMB.out ll[k] (List.getElem_mem hlt2)
        obtain ⟨x, hx⟩ : ∃ x, x = ll[k] := ⟨_, rfl⟩
        rw [← hx] at cx hs hxm
        have HS := Lib.hid (HR.out.trans hs)
        clear hx hs HR
        by_cases hqm : q - p < x - f
        · have HN : Hid (gapI l a to = ((ll.drop (k + 1)).foldl gapStep ((f, x), x)).1) := by
            show _ = _; rw [HS.out]; unfold gapStep; rw [if_pos hqm]
          go_wp2_with fail
          go_roundw
          case rel => exact ⟨k + 1, ((f, x), x), by omega, by go_num, rfl, HN, (hbr.put 0 _).put 1 _, gr_put (gr_put hG (.inl rfl) _) (.inl rfl) _, hf0, hf1, hxm.1, hxm.2, hxm.1, hxm.2⟩
          case measure => simp [intOf]; omega
        · have HN : Hid (gapI l a to = ((ll.drop (k + 1)).foldl gapStep ((p, q), x)).1) := by
            show _ = _; rw [HS.out]; unfold gapStep; rw [if_neg hqm]
          go_wp2_with fail
          go_roundw
          case rel => exact ⟨k + 1, ((p, q), x), by omega, by go_num, rfl, HN, hbr, hG, hp0, hp1, hq0, hq1, hxm.1, hxm.2⟩
          case measure => simp [intOf]; omega
      · have hkl : ¬ (k : Int) < (l.length : Int) + 1 := by omega
        have hd : ll.drop k = [] := List.drop_eq_nil_of_le (by have := HL3.out; omega)
        have HF : Hid (gapI l a to = (p, q)) := by show _ = _; rw [HR.out, hd]; rfl
        have hr4 := hr3.grown hG (by simp; omega)
        have f0 := hr4.free 0
        have f1 := hr4.free 1
        have z0 : wr.cell? ⟨w.heap.size + 1, 0, none⟩ = some (.int .i64 0) := hr4.cell 0
        have z1 : wr.cell? ⟨w.heap.size + 1, 1, none⟩ = some (.int .i64 0) := hr4.cell 1
        go_wp2_with fail
        have hr5 : Blk ((wr.setCell ⟨w.heap.size + 1, 0, none⟩ (.int .i64 p)).setCell ⟨w.heap.size + 1, 1, none⟩ (.int .i64 q)) (w.heap.size + 1) 27 #[.int .i64 p, .int .i64 q] := (hr4.put 0 _).put 1 _
        have d0 := hr5.cell 0
        have d1 := hr5.cell 1
        refine bodyPost_ret (v := .tuple #[.agg #[.int .i64 p, .int .i64 q], .int .i64 0]) (by simp [results, Try.results14, go_sem, d0, d1]) rfl ?_
        rw [HF.out]
        exact ⟨rfl, gr_put (gr_put (gr_grown (gr_trans hG2 hG3) hG (fun g e => by injection e with e; exact .inr (by omega))) (.inr (by simp)) _) (.inr (by simp)) _⟩
end Go.Proofs.Ytjhklpffmfdkbaa
