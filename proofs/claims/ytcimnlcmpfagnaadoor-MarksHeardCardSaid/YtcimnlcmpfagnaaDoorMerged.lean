/- The walks over the document's merged, for marks and for gaps. Condition: numbers from 1 on that add up to at most 4000000000. -/
import Derived.Test.YtcimnlcmpfagnaaDoorMergePlain
import Derived.Test.YtcimnlcmpfagnaaDoorClosed
namespace Go.Proofs.YtcimnlcmpfagnaaDoor
open Go.RowKit
set_option linter.unusedVariables false
set_option linter.unusedSimpArgs false

set_option maxRecDepth 100000 in
set_option maxHeartbeats 4000000 in
theorem merged_1 (ga a N c : Nat) (l : List Int) (least : Int) (w : World) (hN : l.length = N) (hc : ∀ W : World, w.grownBy W none → ∀ k, k < N → W.cell? ⟨ga, a + k, none⟩ = some (.int .i64 (l.getD k 0)))
    (h20 : N ≤ 20000) (hp : ∀ x ∈ l, 1 ≤ x) (hsm : l.sum ≤ 4000000000) (hcap : N ≤ c) :
    Calls Tryd.prog 70 #[.slice (some ⟨ga, a, none⟩) N c, .int .i64 1, .int .i64 least] w fun r w' => ∃ u, r = .returned u ∧ IntsFrom w.heap.size w' u (mergedL 1 least l) ∧ w.grownBy w' none := by
  obtain ⟨i0, hi, hz0, hz1, hz2⟩ := info_parts intInfo
  have HN := Lib.hid hN
  have HLN := Lib.hid hc
  have HP := Lib.hid hp
  have HST0 := Lib.hid (fun (k : Nat) => nonneg_sum (l := l.drop k) fun x hx => hp x (List.mem_of_mem_drop hx))
  have HSPL := Lib.hid (fun k => sum_split l k)
  have HLB : Hid (∀ k, k < N → 1 ≤ l.getD k 0 ∧ l.getD k 0 ≤ 4000000000) := fun k hk => by
    have h1 := getD_mem (l := l) (show k < l.length by rw [hN]; exact hk)
    have h2 := mem_le_sum hp h1
    have h3 := hp _ h1
    omega
  clear hc hN hp
  go_enter Tryd.func70, Tryd.ntmps70
  go_wp2_with fail
  go_loopw [7, 8] (fun o i wr => ∃ (j f n : Nat) (O : List Int), i = .int .i64 j ∧ j ≤ N ∧ N ≤ j + f ∧ n ≤ j ∧ Hid (mrgF 1 least l f j O = mergedL 1 least l) ∧ Hid (MrgAt l j O) ∧ LFrom w.heap.size wr o n O ∧ w.grownBy wr none) (fun _ i _ => N - (intOf i).toNat)
  case atStart => exact ⟨0, N, 0, [], rfl, by omega, by omega, by omega, by show _ = _; unfold mergedL; rw [HN.out], mrgAt_start l, World.ownsRow_nil _ _ _ _, gr_refl _ _⟩
  case round =>
    obtain ⟨j, f, n, O, rfl, hj, hf, hn, HF, HM, hown, hgr⟩ := hrel
    obtain ⟨A2, c2, rfl, hk9, hA2⟩ := ownsRow_shape hown
    have hlen := hown.len
    by_cases hlt : j < N
    · have hlt2 : (j : Int) < (N : Int) := by omega
      obtain ⟨f, rfl⟩ : ∃ f', f = f' + 1 := ⟨f - 1, by omega⟩
      have hjl : j < l.length := by rw [HN.out]; exact hlt
      have cx := HLN.out wr hgr j hlt
      have bx := HLB.out j hlt
      have hadd := fun hh => (mrgF_add (sort := 1) (least := least) (l := l) (f := f) (i := j) (o := O) hjl hh).symm.trans HF.out
      have hjoin := fun h1 h2 h3 h4 => (mrgF_join (sort := 1) (least := least) (l := l) (f := f) (i := j) (o := O) hjl h1 h2 h3 h4).symm.trans HF.out
      have mAdd := Lib.hid (mrgAt_add HM.out hjl HP.out)
      have mJoin := Lib.hid (fun h1 h2 => mrgAt_join HM.out (i := j) h1 h2 HP.out)
      have hosum := HM.out.sum
      have hsp := HSPL.out j
      have hst := HST0.out j
      have hopos := HM.out.pos
      have HADD := Lib.hid hadd
      have HJOIN := Lib.hid hjoin
      have HOWN := Lib.hid hown
      clear hadd hjoin HF
      obtain ⟨x, hx⟩ : ∃ x, l.getD j 0 = x := ⟨_, rfl⟩
      rw [hx] at cx bx HADD HJOIN mAdd mJoin
      have HX := Lib.hid hx
      have hj0 : (0 : Int) ≤ (j : Int) := by omega
      clear hx
      by_cases hcc : j % 2 = 1 ∧ x < least ∧ 0 < n ∧ j + 1 < N
      · obtain ⟨h1, h2, h3, h4⟩ := hcc
        obtain ⟨g, rfl, hg0, hg1⟩ := hA2 h3
        obtain ⟨m, rfl⟩ : ∃ m, n = m + 1 := ⟨n - 1, by omega⟩
        have cy := HLN.out wr hgr (j + 1) h4
        have byb := HLB.out (j + 1) h4
        have co := hown.at_ m (by omega)
        have hom : O.getD m 0 ∈ O := getD_mem (by omega)
        have hob1 := mem_le_sum hopos hom
        have hob2 := hopos _ hom
        have hJ := HJOIN.out h1 h2 (by omega) (by rw [HN.out]; exact h4)
        have hMJ := mJoin.out (by rw [HN.out]; exact h4) (by omega)
        rw [hlen, Nat.add_sub_cancel] at hJ hMJ
        have hob : 1 ≤ O.getD m 0 ∧ O.getD m 0 ≤ 4000000000 := by omega
        have hs2 : (l.take (j + 2)).sum ≤ 4000000000 := by
          have a1 := HSPL.out (j + 2)
          have a2 := HST0.out (j + 2)
          omega
        have hxy : O.getD m 0 + (x + l.getD (j + 1) 0) ≤ 12000000000 := by omega
        clear hom hob1 hob2 hosum hsp hst hopos HADD HJOIN mAdd mJoin hs2 hlen hA2
        generalize O.getD m 0 = ox at *
        generalize l.getD (j + 1) 0 = y at *
        have HJ := Lib.hid hJ
        have HMJ := Lib.hid hMJ
        have hJ1 : IntKind.i64.wrap ((j : Int) + 1) = ((j + 1 : Nat) : Int) := by
          rw [show (j : Int) + 1 = ((j + 1 : Nat) : Int) by omega]
          exact IntWalk.i64_in _ ⟨by omega, by omega⟩
        obtain ⟨J, hJe⟩ : ∃ J, j + 1 = J := ⟨_, rfl⟩
        rw [hJe] at hJ1 cy h4
        have HJE := Lib.hid hJe
        have hJN : (J : Int) < (N : Int) := by omega
        have hJ0 : (0 : Int) ≤ (J : Int) := by omega
        have hm0 : (0 : Int) ≤ (m : Int) := by omega
        have hw1 : IntKind.i64.wrap (((m + 1 : Nat) : Int) - 1) = (m : Int) := by
          rw [show ((m + 1 : Nat) : Int) - 1 = (m : Int) by omega]
          exact IntWalk.i64_in _ ⟨by omega, by omega⟩
        have hmn : (m : Int) < ((m + 1 : Nat) : Int) := by omega
        have hw2 : IntKind.i64.wrap (m : Int) = (m : Int) := IntWalk.i64_in _ ⟨by omega, by omega⟩
        have hmn2 : (m : Int) < (m : Int) + 1 := by omega
        have hmn3 : m < m + 1 := by omega
        have hn0 : (0 : Int) < ((m + 1 : Nat) : Int) := by omega
        have hn00 : (0 : Int) < (m : Int) + 1 := by omega
        have hpar : (j : Int) % 2 = 1 := by omega
        have cgd : wr.drew.cell? ⟨ga, a + j, none⟩ = some (.int .i64 x) := cx
        have cmd : wr.drew.cell? ⟨ga, a + J, none⟩ = some (.int .i64 y) := cy
        have cod : wr.drew.cell? ⟨g, m, none⟩ = some (.int .i64 ox) := co
        have hs3 := World.ownsRow.stored (show World.ownsRow wr.drew w.heap.size 3 1 (.slice (some ⟨g, 0, none⟩) (m + 1) c2) (m + 1) (O.map (Value.int .i64)) from HOWN.out) m (.int .i64 (ox + (x + y)))
        have hfz : wr.drew.frozen? ⟨g, m, none⟩ = false := World.ownsRow.frozenAt (show wr.ownsRow w.heap.size 3 1 (.slice (some ⟨g, 0, none⟩) (m + 1) c2) (m + 1) (O.map (Value.int .i64)) from HOWN.out) m
        rw [← List.map_set] at hs3
        have HS3 := Lib.hid hs3
        clear hs3 hJ hMJ hJe hown h1 HM
        go_wp2_with fail
        go_still_tail 17, (by kernel_rfl)
        change wpList _ _ _ _ _ wr.drew
        go_wp2_with fail
        have hg3 : w.grownBy (wr.drew.setCell ⟨g, m, none⟩ (.int .i64 (ox + (x + y)))) none := gr_put (gr_drew hgr) (.inr hg0) _
        go_roundw
        case rel => exact ⟨j + 2, f, m + 1, O.set m (ox + (x + y)), by have := HJE.out; go_num, by have := HJE.out; omega, by omega, by omega, HJ.out, HMJ.out, HS3.out.1, hg3⟩
        case measure => have := HJE.out; simp [intOf]; omega
      · have HA := Lib.hid (HADD.out (fun hh => hcc ⟨hh.1, hh.2.1, by omega, by have := hh.2.2.2; rw [HN.out] at this; exact this⟩))
        have hways : (¬ (j : Int) % 2 = 1) ∨ ((j : Int) % 2 = 1 ∧ ¬ x < least) ∨ ((j : Int) % 2 = 1 ∧ x < least ∧ n = 0) ∨ ((j : Int) % 2 = 1 ∧ x < least ∧ 0 < n ∧ ¬ j + 1 < N) := by
          by_cases q1 : j % 2 = 1
          · by_cases q2 : x < least
            · by_cases q3 : 0 < n
              · by_cases q4 : j + 1 < N
                · exact absurd ⟨q1, q2, q3, q4⟩ hcc
                · exact .inr (.inr (.inr ⟨by omega, q2, q3, q4⟩))
              · exact .inr (.inr (.inl ⟨by omega, q2, by omega⟩))
            · exact .inr (.inl ⟨by omega, q2⟩)
          · exact .inl (by omega)
        have hjw : IntKind.i64.wrap ((j : Int) + 1) = (j : Int) + 1 := IntWalk.i64_in _ ⟨by omega, by omega⟩
        have hgs := hgr.size
        clear hcc HADD HJOIN mJoin hosum hsp hst hopos hlen hown HM hA2
        rcases hways with q1 | ⟨q1, q2⟩ | ⟨q1, q2, q3⟩ | ⟨q1, q2, q3, q4⟩
        · have q1' : (j : Int) % 2 = 0 := by omega
          clear q1
          go_wp2_with (at_builtin; refine wpList_append_own _ rfl _ _ 22 rfl w.heap.size 3 i0 _ 1 8 Tryd.underlying22 hi hz0 hz1 hz2 rfl (by decide) _ _ _ rfl (World.ownsRow.alloc (show World.ownsRow _ w.heap.size 3 1 _ n (O.map (Value.int .i64)) from HOWN.out) _) ⟨wr.heap.size, 0, none⟩ 1 1 [.int .i64 x] rfl rfl (one_cell wr x _) (one_oneCell x) (by unfold maxLen; omega) (by omega) (by simp; omega) ?_; intro v' w4 hown2 hgrow2 _)
          have hG4 : w.grownBy w4 none := gr_grown (gr_alloc hgr _) hgrow2 (fun g e => .inr (HOWN.out.lt g e).1)
          have hown3 : LFrom w.heap.size w4 v' (n + 1) (O ++ [x]) := by
            unfold LFrom; rw [List.map_append]; exact hown2
          go_wp2_with fail
          go_roundw
          case rel => exact ⟨j + 1, f, n + 1, O ++ [x], by go_num, by omega, by omega, by omega, HA.out, mAdd.out, hown3, hG4⟩
          case measure => simp [intOf]; omega
        · go_wp2_with (at_builtin; refine wpList_append_own _ rfl _ _ 22 rfl w.heap.size 3 i0 _ 1 8 Tryd.underlying22 hi hz0 hz1 hz2 rfl (by decide) _ _ _ rfl (World.ownsRow.alloc (show World.ownsRow _ w.heap.size 3 1 _ n (O.map (Value.int .i64)) from HOWN.out) _) ⟨wr.heap.size, 0, none⟩ 1 1 [.int .i64 x] rfl rfl (one_cell wr x _) (one_oneCell x) (by unfold maxLen; omega) (by omega) (by simp; omega) ?_; intro v' w4 hown2 hgrow2 _)
          have hG4 : w.grownBy w4 none := gr_grown (gr_alloc hgr _) hgrow2 (fun g e => .inr (HOWN.out.lt g e).1)
          have hown3 : LFrom w.heap.size w4 v' (n + 1) (O ++ [x]) := by
            unfold LFrom; rw [List.map_append]; exact hown2
          go_wp2_with fail
          go_roundw
          case rel => exact ⟨j + 1, f, n + 1, O ++ [x], by go_num, by omega, by omega, by omega, HA.out, mAdd.out, hown3, hG4⟩
          case measure => simp [intOf]; omega
        · have q3' : ¬ (0 : Int) < (n : Int) := by omega
          clear q3
          go_wp2_with (at_builtin; refine wpList_append_own _ rfl _ _ 22 rfl w.heap.size 3 i0 _ 1 8 Tryd.underlying22 hi hz0 hz1 hz2 rfl (by decide) _ _ _ rfl (World.ownsRow.alloc (show World.ownsRow _ w.heap.size 3 1 _ n (O.map (Value.int .i64)) from HOWN.out) _) ⟨wr.heap.size, 0, none⟩ 1 1 [.int .i64 x] rfl rfl (one_cell wr x _) (one_oneCell x) (by unfold maxLen; omega) (by omega) (by simp; omega) ?_; intro v' w4 hown2 hgrow2 _)
          have hG4 : w.grownBy w4 none := gr_grown (gr_alloc hgr _) hgrow2 (fun g e => .inr (HOWN.out.lt g e).1)
          have hown3 : LFrom w.heap.size w4 v' (n + 1) (O ++ [x]) := by
            unfold LFrom; rw [List.map_append]; exact hown2
          go_wp2_with fail
          go_roundw
          case rel => exact ⟨j + 1, f, n + 1, O ++ [x], by go_num, by omega, by omega, by omega, HA.out, mAdd.out, hown3, hG4⟩
          case measure => simp [intOf]; omega
        · have q3' : (0 : Int) < (n : Int) := by omega
          have q4' : ¬ (j : Int) + 1 < (N : Int) := by omega
          clear q3 q4
          go_wp2_with (at_builtin; refine wpList_append_own _ rfl _ _ 22 rfl w.heap.size 3 i0 _ 1 8 Tryd.underlying22 hi hz0 hz1 hz2 rfl (by decide) _ _ _ rfl (World.ownsRow.alloc (show World.ownsRow _ w.heap.size 3 1 _ n (O.map (Value.int .i64)) from HOWN.out) _) ⟨wr.heap.size, 0, none⟩ 1 1 [.int .i64 x] rfl rfl (one_cell wr x _) (one_oneCell x) (by unfold maxLen; omega) (by omega) (by simp; omega) ?_; intro v' w4 hown2 hgrow2 _)
          have hG4 : w.grownBy w4 none := gr_grown (gr_alloc hgr _) hgrow2 (fun g e => .inr (HOWN.out.lt g e).1)
          have hown3 : LFrom w.heap.size w4 v' (n + 1) (O ++ [x]) := by
            unfold LFrom; rw [List.map_append]; exact hown2
          go_wp2_with fail
          go_roundw
          case rel => exact ⟨j + 1, f, n + 1, O ++ [x], by go_num, by omega, by omega, by omega, HA.out, mAdd.out, hown3, hG4⟩
          case measure => simp [intOf]; omega
    · have hlt2 : ¬ (j : Int) < (N : Int) := by omega
      have hR : mrgF 1 least l f j O = O := mrgF_end _ _ _ _ _ _ (by rw [HN.out]; omega)
      have HR : Hid (O = mergedL 1 least l) := hR.symm.trans HF.out
      have HO := Lib.hid hown
      clear hown hR hlen hA2
      go_wp2_with fail
      go_ret
      exact ⟨_, rfl, by rw [← HR.out]; exact HO.out.ints, hgr⟩
set_option maxRecDepth 100000 in
set_option maxHeartbeats 4000000 in
theorem merged_0 (ga a N c : Nat) (l : List Int) (least : Int) (w : World) (hN : l.length = N) (hc : ∀ W : World, w.grownBy W none → ∀ k, k < N → W.cell? ⟨ga, a + k, none⟩ = some (.int .i64 (l.getD k 0)))
    (h20 : N ≤ 20000) (hp : ∀ x ∈ l, 1 ≤ x) (hsm : l.sum ≤ 4000000000) (hcap : N ≤ c) :
    Calls Tryd.prog 70 #[.slice (some ⟨ga, a, none⟩) N c, .int .i64 0, .int .i64 least] w fun r w' => ∃ u, r = .returned u ∧ IntsFrom w.heap.size w' u (mergedL 0 least l) ∧ w.grownBy w' none := by
  obtain ⟨i0, hi, hz0, hz1, hz2⟩ := info_parts intInfo
  have HN := Lib.hid hN
  have HLN := Lib.hid hc
  have HP := Lib.hid hp
  have HST0 := Lib.hid (fun (k : Nat) => nonneg_sum (l := l.drop k) fun x hx => hp x (List.mem_of_mem_drop hx))
  have HSPL := Lib.hid (fun k => sum_split l k)
  have HLB : Hid (∀ k, k < N → 1 ≤ l.getD k 0 ∧ l.getD k 0 ≤ 4000000000) := fun k hk => by
    have h1 := getD_mem (l := l) (show k < l.length by rw [hN]; exact hk)
    have h2 := mem_le_sum hp h1
    have h3 := hp _ h1
    omega
  clear hc hN hp
  go_enter Tryd.func70, Tryd.ntmps70
  go_wp2_with fail
  go_loopw [7, 8] (fun o i wr => ∃ (j f n : Nat) (O : List Int), i = .int .i64 j ∧ j ≤ N ∧ N ≤ j + f ∧ n ≤ j ∧ Hid (mrgF 0 least l f j O = mergedL 0 least l) ∧ Hid (MrgAt l j O) ∧ LFrom w.heap.size wr o n O ∧ w.grownBy wr none) (fun _ i _ => N - (intOf i).toNat)
  case atStart => exact ⟨0, N, 0, [], rfl, by omega, by omega, by omega, by show _ = _; unfold mergedL; rw [HN.out], mrgAt_start l, World.ownsRow_nil _ _ _ _, gr_refl _ _⟩
  case round =>
    obtain ⟨j, f, n, O, rfl, hj, hf, hn, HF, HM, hown, hgr⟩ := hrel
    obtain ⟨A2, c2, rfl, hk9, hA2⟩ := ownsRow_shape hown
    have hlen := hown.len
    by_cases hlt : j < N
    · have hlt2 : (j : Int) < (N : Int) := by omega
      obtain ⟨f, rfl⟩ : ∃ f', f = f' + 1 := ⟨f - 1, by omega⟩
      have hjl : j < l.length := by rw [HN.out]; exact hlt
      have cx := HLN.out wr hgr j hlt
      have bx := HLB.out j hlt
      have hadd := fun hh => (mrgF_add (sort := 0) (least := least) (l := l) (f := f) (i := j) (o := O) hjl hh).symm.trans HF.out
      have hjoin := fun h1 h2 h3 h4 => (mrgF_join (sort := 0) (least := least) (l := l) (f := f) (i := j) (o := O) hjl h1 h2 h3 h4).symm.trans HF.out
      have mAdd := Lib.hid (mrgAt_add HM.out hjl HP.out)
      have mJoin := Lib.hid (fun h1 h2 => mrgAt_join HM.out (i := j) h1 h2 HP.out)
      have hosum := HM.out.sum
      have hsp := HSPL.out j
      have hst := HST0.out j
      have hopos := HM.out.pos
      have HADD := Lib.hid hadd
      have HJOIN := Lib.hid hjoin
      have HOWN := Lib.hid hown
      clear hadd hjoin HF
      obtain ⟨x, hx⟩ : ∃ x, l.getD j 0 = x := ⟨_, rfl⟩
      rw [hx] at cx bx HADD HJOIN mAdd mJoin
      have HX := Lib.hid hx
      have hj0 : (0 : Int) ≤ (j : Int) := by omega
      clear hx
      by_cases hcc : j % 2 = 0 ∧ x < least ∧ 0 < n ∧ j + 1 < N
      · obtain ⟨h1, h2, h3, h4⟩ := hcc
        obtain ⟨g, rfl, hg0, hg1⟩ := hA2 h3
        obtain ⟨m, rfl⟩ : ∃ m, n = m + 1 := ⟨n - 1, by omega⟩
        have cy := HLN.out wr hgr (j + 1) h4
        have byb := HLB.out (j + 1) h4
        have co := hown.at_ m (by omega)
        have hom : O.getD m 0 ∈ O := getD_mem (by omega)
        have hob1 := mem_le_sum hopos hom
        have hob2 := hopos _ hom
        have hJ := HJOIN.out h1 h2 (by omega) (by rw [HN.out]; exact h4)
        have hMJ := mJoin.out (by rw [HN.out]; exact h4) (by omega)
        rw [hlen, Nat.add_sub_cancel] at hJ hMJ
        have hob : 1 ≤ O.getD m 0 ∧ O.getD m 0 ≤ 4000000000 := by omega
        have hs2 : (l.take (j + 2)).sum ≤ 4000000000 := by
          have a1 := HSPL.out (j + 2)
          have a2 := HST0.out (j + 2)
          omega
        have hxy : O.getD m 0 + (x + l.getD (j + 1) 0) ≤ 12000000000 := by omega
        clear hom hob1 hob2 hosum hsp hst hopos HADD HJOIN mAdd mJoin hs2 hlen hA2
        generalize O.getD m 0 = ox at *
        generalize l.getD (j + 1) 0 = y at *
        have HJ := Lib.hid hJ
        have HMJ := Lib.hid hMJ
        have hJ1 : IntKind.i64.wrap ((j : Int) + 1) = ((j + 1 : Nat) : Int) := by
          rw [show (j : Int) + 1 = ((j + 1 : Nat) : Int) by omega]
          exact IntWalk.i64_in _ ⟨by omega, by omega⟩
        obtain ⟨J, hJe⟩ : ∃ J, j + 1 = J := ⟨_, rfl⟩
        rw [hJe] at hJ1 cy h4
        have HJE := Lib.hid hJe
        have hJN : (J : Int) < (N : Int) := by omega
        have hJ0 : (0 : Int) ≤ (J : Int) := by omega
        have hm0 : (0 : Int) ≤ (m : Int) := by omega
        have hw1 : IntKind.i64.wrap (((m + 1 : Nat) : Int) - 1) = (m : Int) := by
          rw [show ((m + 1 : Nat) : Int) - 1 = (m : Int) by omega]
          exact IntWalk.i64_in _ ⟨by omega, by omega⟩
        have hmn : (m : Int) < ((m + 1 : Nat) : Int) := by omega
        have hw2 : IntKind.i64.wrap (m : Int) = (m : Int) := IntWalk.i64_in _ ⟨by omega, by omega⟩
        have hmn2 : (m : Int) < (m : Int) + 1 := by omega
        have hmn3 : m < m + 1 := by omega
        have hn0 : (0 : Int) < ((m + 1 : Nat) : Int) := by omega
        have hn00 : (0 : Int) < (m : Int) + 1 := by omega
        have hpar : (j : Int) % 2 = 0 := by omega
        have cgd : wr.drew.cell? ⟨ga, a + j, none⟩ = some (.int .i64 x) := cx
        have cmd : wr.drew.cell? ⟨ga, a + J, none⟩ = some (.int .i64 y) := cy
        have cod : wr.drew.cell? ⟨g, m, none⟩ = some (.int .i64 ox) := co
        have hs3 := World.ownsRow.stored (show World.ownsRow wr.drew w.heap.size 3 1 (.slice (some ⟨g, 0, none⟩) (m + 1) c2) (m + 1) (O.map (Value.int .i64)) from HOWN.out) m (.int .i64 (ox + (x + y)))
        have hfz : wr.drew.frozen? ⟨g, m, none⟩ = false := World.ownsRow.frozenAt (show wr.ownsRow w.heap.size 3 1 (.slice (some ⟨g, 0, none⟩) (m + 1) c2) (m + 1) (O.map (Value.int .i64)) from HOWN.out) m
        rw [← List.map_set] at hs3
        have HS3 := Lib.hid hs3
        clear hs3 hJ hMJ hJe hown h1 HM
        go_wp2_with fail
        go_still_tail 17, (by kernel_rfl)
        change wpList _ _ _ _ _ wr.drew
        go_wp2_with fail
        have hg3 : w.grownBy (wr.drew.setCell ⟨g, m, none⟩ (.int .i64 (ox + (x + y)))) none := gr_put (gr_drew hgr) (.inr hg0) _
        go_roundw
        case rel => exact ⟨j + 2, f, m + 1, O.set m (ox + (x + y)), by have := HJE.out; go_num, by have := HJE.out; omega, by omega, by omega, HJ.out, HMJ.out, HS3.out.1, hg3⟩
        case measure => have := HJE.out; simp [intOf]; omega
      · have HA := Lib.hid (HADD.out (fun hh => hcc ⟨hh.1, hh.2.1, by omega, by have := hh.2.2.2; rw [HN.out] at this; exact this⟩))
        have hways : (¬ (j : Int) % 2 = 0) ∨ ((j : Int) % 2 = 0 ∧ ¬ x < least) ∨ ((j : Int) % 2 = 0 ∧ x < least ∧ n = 0) ∨ ((j : Int) % 2 = 0 ∧ x < least ∧ 0 < n ∧ ¬ j + 1 < N) := by
          by_cases q1 : j % 2 = 0
          · by_cases q2 : x < least
            · by_cases q3 : 0 < n
              · by_cases q4 : j + 1 < N
                · exact absurd ⟨q1, q2, q3, q4⟩ hcc
                · exact .inr (.inr (.inr ⟨by omega, q2, q3, q4⟩))
              · exact .inr (.inr (.inl ⟨by omega, q2, by omega⟩))
            · exact .inr (.inl ⟨by omega, q2⟩)
          · exact .inl (by omega)
        have hjw : IntKind.i64.wrap ((j : Int) + 1) = (j : Int) + 1 := IntWalk.i64_in _ ⟨by omega, by omega⟩
        have hgs := hgr.size
        clear hcc HADD HJOIN mJoin hosum hsp hst hopos hlen hown HM hA2
        rcases hways with q1 | ⟨q1, q2⟩ | ⟨q1, q2, q3⟩ | ⟨q1, q2, q3, q4⟩
        · have q1' : (j : Int) % 2 = 1 := by omega
          clear q1
          go_wp2_with (at_builtin; refine wpList_append_own _ rfl _ _ 22 rfl w.heap.size 3 i0 _ 1 8 Tryd.underlying22 hi hz0 hz1 hz2 rfl (by decide) _ _ _ rfl (World.ownsRow.alloc (show World.ownsRow _ w.heap.size 3 1 _ n (O.map (Value.int .i64)) from HOWN.out) _) ⟨wr.heap.size, 0, none⟩ 1 1 [.int .i64 x] rfl rfl (one_cell wr x _) (one_oneCell x) (by unfold maxLen; omega) (by omega) (by simp; omega) ?_; intro v' w4 hown2 hgrow2 _)
          have hG4 : w.grownBy w4 none := gr_grown (gr_alloc hgr _) hgrow2 (fun g e => .inr (HOWN.out.lt g e).1)
          have hown3 : LFrom w.heap.size w4 v' (n + 1) (O ++ [x]) := by
            unfold LFrom; rw [List.map_append]; exact hown2
          go_wp2_with fail
          go_roundw
          case rel => exact ⟨j + 1, f, n + 1, O ++ [x], by go_num, by omega, by omega, by omega, HA.out, mAdd.out, hown3, hG4⟩
          case measure => simp [intOf]; omega
        · go_wp2_with (at_builtin; refine wpList_append_own _ rfl _ _ 22 rfl w.heap.size 3 i0 _ 1 8 Tryd.underlying22 hi hz0 hz1 hz2 rfl (by decide) _ _ _ rfl (World.ownsRow.alloc (show World.ownsRow _ w.heap.size 3 1 _ n (O.map (Value.int .i64)) from HOWN.out) _) ⟨wr.heap.size, 0, none⟩ 1 1 [.int .i64 x] rfl rfl (one_cell wr x _) (one_oneCell x) (by unfold maxLen; omega) (by omega) (by simp; omega) ?_; intro v' w4 hown2 hgrow2 _)
          have hG4 : w.grownBy w4 none := gr_grown (gr_alloc hgr _) hgrow2 (fun g e => .inr (HOWN.out.lt g e).1)
          have hown3 : LFrom w.heap.size w4 v' (n + 1) (O ++ [x]) := by
            unfold LFrom; rw [List.map_append]; exact hown2
          go_wp2_with fail
          go_roundw
          case rel => exact ⟨j + 1, f, n + 1, O ++ [x], by go_num, by omega, by omega, by omega, HA.out, mAdd.out, hown3, hG4⟩
          case measure => simp [intOf]; omega
        · have q3' : ¬ (0 : Int) < (n : Int) := by omega
          clear q3
          go_wp2_with (at_builtin; refine wpList_append_own _ rfl _ _ 22 rfl w.heap.size 3 i0 _ 1 8 Tryd.underlying22 hi hz0 hz1 hz2 rfl (by decide) _ _ _ rfl (World.ownsRow.alloc (show World.ownsRow _ w.heap.size 3 1 _ n (O.map (Value.int .i64)) from HOWN.out) _) ⟨wr.heap.size, 0, none⟩ 1 1 [.int .i64 x] rfl rfl (one_cell wr x _) (one_oneCell x) (by unfold maxLen; omega) (by omega) (by simp; omega) ?_; intro v' w4 hown2 hgrow2 _)
          have hG4 : w.grownBy w4 none := gr_grown (gr_alloc hgr _) hgrow2 (fun g e => .inr (HOWN.out.lt g e).1)
          have hown3 : LFrom w.heap.size w4 v' (n + 1) (O ++ [x]) := by
            unfold LFrom; rw [List.map_append]; exact hown2
          go_wp2_with fail
          go_roundw
          case rel => exact ⟨j + 1, f, n + 1, O ++ [x], by go_num, by omega, by omega, by omega, HA.out, mAdd.out, hown3, hG4⟩
          case measure => simp [intOf]; omega
        · have q3' : (0 : Int) < (n : Int) := by omega
          have q4' : ¬ (j : Int) + 1 < (N : Int) := by omega
          clear q3 q4
          go_wp2_with (at_builtin; refine wpList_append_own _ rfl _ _ 22 rfl w.heap.size 3 i0 _ 1 8 Tryd.underlying22 hi hz0 hz1 hz2 rfl (by decide) _ _ _ rfl (World.ownsRow.alloc (show World.ownsRow _ w.heap.size 3 1 _ n (O.map (Value.int .i64)) from HOWN.out) _) ⟨wr.heap.size, 0, none⟩ 1 1 [.int .i64 x] rfl rfl (one_cell wr x _) (one_oneCell x) (by unfold maxLen; omega) (by omega) (by simp; omega) ?_; intro v' w4 hown2 hgrow2 _)
          have hG4 : w.grownBy w4 none := gr_grown (gr_alloc hgr _) hgrow2 (fun g e => .inr (HOWN.out.lt g e).1)
          have hown3 : LFrom w.heap.size w4 v' (n + 1) (O ++ [x]) := by
            unfold LFrom; rw [List.map_append]; exact hown2
          go_wp2_with fail
          go_roundw
          case rel => exact ⟨j + 1, f, n + 1, O ++ [x], by go_num, by omega, by omega, by omega, HA.out, mAdd.out, hown3, hG4⟩
          case measure => simp [intOf]; omega
    · have hlt2 : ¬ (j : Int) < (N : Int) := by omega
      have hR : mrgF 0 least l f j O = O := mrgF_end _ _ _ _ _ _ (by rw [HN.out]; omega)
      have HR : Hid (O = mergedL 0 least l) := hR.symm.trans HF.out
      have HO := Lib.hid hown
      clear hown hR hlen hA2
      go_wp2_with fail
      go_ret
      exact ⟨_, rfl, by rw [← HR.out]; exact HO.out.ints, hgr⟩
end Go.Proofs.YtcimnlcmpfagnaaDoor
