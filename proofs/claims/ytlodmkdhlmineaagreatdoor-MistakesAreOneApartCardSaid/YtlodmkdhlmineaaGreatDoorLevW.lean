/- The walk over key.steps: the least number of elements put in, taken out or replaced. Condition: strings of at most 5000 bytes. -/
import Derived.Test.YtlodmkdhlmineaaGreatDoorStepsP
import Derived.Test.YtlodmkdhlmineaaGreatDoorStepsW
namespace Go.Proofs.YtlodmkdhlmineaaGreatDoor
open Go.RowKit
set_option linter.unusedVariables false
set_option linter.unusedSimpArgs false

theorem lev_next {A B : List UInt8} {I K n : Nat} {L : List Int} (hl : L.length = n + 1) (hK : K ≤ n) (h : ∀ j, j < K → L.getD j 0 = (lev A B I j : Int)) {x : Int} (hx : x = (lev A B I K : Int)) : ∀ j, j < K + 1 → (L.set K x).getD j 0 = (lev A B I j : Int) := fun j hj => by
  rw [set_getD _ _ _ _ (by omega)]
  by_cases e : K = j
  · subst e; rw [if_pos rfl, hx]
  · rw [if_neg e]; exact h j (by omega)
set_option maxRecDepth 100000 in
set_option maxHeartbeats 8000000 in
theorem lev_any (a b : ByteArray) (w : World) (ha : a.size ≤ 5000) (hb : b.size ≤ 5000) :
    Calls Tryz.prog 82 #[.string a, .string b] w fun e w' => e = .returned (.int .i64 (levL a.data.toList b.data.toList : Nat)) ∧ w.grownBy w' none := by
  obtain ⟨A, hA⟩ : ∃ A, a.data.toList = A := ⟨_, rfl⟩
  obtain ⟨B, hB⟩ : ∃ B, b.data.toList = B := ⟨_, rfl⟩
  obtain ⟨N, hN⟩ : ∃ N, a.size = N := ⟨_, rfl⟩
  obtain ⟨M, hM⟩ : ∃ M, b.size = M := ⟨_, rfl⟩
  have hAl : A.length = N := by rw [← hA, ← hN]; simp
  have hBl : B.length = M := by rw [← hB, ← hM]; simp
  have HST : Hid (levL a.data.toList b.data.toList = lev A B N M) := by show _ = _; unfold levL; rw [hA, hB, hAl, hBl]
  have HAA := Lib.hid hA
  have HBB := Lib.hid hB
  have HNN := Lib.hid hN
  have HMM := Lib.hid hM
  have HOB := Lib.hid (fun i j => lev_le A B (i + j) i j (Nat.le_refl _))
  obtain ⟨i0, hi, hz0, hz1, hz2⟩ := info_parts intInfo
  have hN2 : N ≤ 5000 := by omega
  have hM2 : M ≤ 5000 := by omega
  have hmk : ∀ W : World, (Instr.makeSlice 22 (.int .i64 ((M : Int) + 1)) (.int .i64 ((M : Int) + 1))).run Tryz.prog W = .ok (.slice (some ⟨W.heap.size, 0, none⟩) (M + 1) (M + 1)) (W.alloc (.cells (Array.replicate (M + 1) (Value.int .i64 0)) 3)) := fun W => by
    have h := run_make (P := Tryz.prog) W 22 3 i0 _ Tryz.underlying22 hi hz0 .i64 .i64 ((M : Int) + 1) ((M : Int) + 1) (by omega) (by omega) (by rw [hz2]; omega) (by omega)
    rw [h, hz1]
    have e : ((M : Int) + 1).toNat = M + 1 := by omega
    rw [e, made_intsO, Nat.mul_one]
  have hnew0 : ∀ W : World, LFrom W.heap.size (W.alloc (.cells (Array.replicate (M + 1) (Value.int .i64 0)) 3)) (.slice (some ⟨W.heap.size, 0, none⟩) (M + 1) (M + 1)) (M + 1) (List.replicate (M + 1) 0) := fun W => by
    have h := blk_intsO (base := W.heap.size) (l := List.replicate (M + 1) 0) (by rw [List.map_replicate, List.toArray_replicate]; exact Blk.new W 3 (Array.replicate (M + 1) (Value.int .i64 0))) (Nat.le_refl _) (by simp; omega)
    unfold IntsFrom at h
    rw [List.length_replicate] at h
    exact h
  have HNEW := Lib.hid hnew0
  have hnew := hnew0 w
  have hga := World.grownBy_alloc w (.cells (Array.replicate (M + 1) (Value.int .i64 0)) 3) none
  have hM0 : (0 : Int) ≤ (M : Int) + 1 := by omega
  clear hA hB ha hb hAl hBl hnew0
  go_enter Tryz.func82, Tryz.ntmps82
  go_wp2_with fail
  generalize w.alloc (.cells (Array.replicate (M + 1) (Value.int .i64 0)) 3) = W0 at *
  go_loopw [17] (fun i wr => ∃ (K : Nat) (L : List Int), i = .int .i64 K ∧ K ≤ M + 1 ∧ LFrom w.heap.size wr (.slice (some ⟨w.heap.size, 0, none⟩) (M + 1) (M + 1)) (M + 1) L ∧ Hid (∀ j, j < K → L.getD j 0 = (lev A B 0 j : Int)) ∧ w.grownBy wr none) (fun i _ => M + 1 - (intOf i).toNat)
  case atStart => exact ⟨0, _, rfl, by omega, hnew, fun j hj => by omega, hga⟩
  case round =>
    obtain ⟨K, L, rfl, hK, hown, HL, hgx⟩ := hrel
    clear hnew hga
    have hlen := hown.len
    by_cases hlk : K < M + 1
    · have hki : (K : Int) < (M : Int) + 1 := by omega
      have hkn : K < M + 1 := hlk
      have hk0 : (0 : Int) ≤ (K : Int) := by omega
      have hc := hown.at_ K hlk
      have hfz := World.ownsRow.frozenAt hown K
      have hst := (World.ownsRow.stored hown K (.int .i64 (K : Int))).1
      rw [← List.map_set] at hst
      have HST2 := Lib.hid hst
      have HN := Lib.hid (lev_next hlen (show K ≤ M by omega) HL.out (x := (K : Int)) (by rw [lev_0]))
      clear hst hown HL
      go_wp2_with fail
      go_roundw
      case rel => exact ⟨K + 1, L.set K K, by go_num, by omega, HST2.out, HN.out, gr_put hgx (.inr (Nat.le_refl _)) _⟩
      case measure => simp [intOf]; omega
    · have hki : ¬ (K : Int) < (M : Int) + 1 := by omega
      have HROW : Hid (∃ L, LFrom w.heap.size wr (.slice (some ⟨w.heap.size, 0, none⟩) (M + 1) (M + 1)) (M + 1) L ∧ ∀ k, k ≤ M → L.getD k 0 = (lev A B 0 k : Int)) := ⟨L, hown, fun k hk => HL.out k (by omega)⟩
      clear hown HL hlen
      go_wp2_with fail
      go_loopw [5, 27] (fun r i wx => ∃ (I g : Nat) (L : List Int), i = .int .i64 I ∧ I ≤ N ∧ r = .slice (some ⟨g, 0, none⟩) (M + 1) (M + 1) ∧ w.heap.size ≤ g ∧ LFrom w.heap.size wx (.slice (some ⟨g, 0, none⟩) (M + 1) (M + 1)) (M + 1) L ∧ Hid (∀ k, k ≤ M → L.getD k 0 = (lev A B I k : Int)) ∧ w.grownBy wx none) (fun _ i _ => N - (intOf i).toNat)
      case atStart =>
        obtain ⟨L, h1, h2⟩ := HROW.out
        exact ⟨0, _, L, rfl, by omega, rfl, Nat.le_refl _, h1, h2, hgx⟩
      case round =>
        obtain ⟨I, g, L, rfl, hI, rfl, hgb, hrow, HR, hgr⟩ := hrel
        rename World => wo
        clear HROW hgx
        by_cases hlt : I < N
        · have hli : (I : Int) < (N : Int) := by omega
          have hI1 : IntKind.i64.wrap ((I : Int) + 1) = (I : Int) + 1 := IntWalk.i64_in _ ⟨by omega, by omega⟩
          have hM00 : (0 : Int) < (M : Int) + 1 := by omega
          have hst2 : LFrom wo.heap.size (wo.alloc (.cells ((Array.replicate (M + 1) (Value.int .i64 0)).setIfInBounds 0 (.int .i64 ((I : Int) + 1))) 3)) (.slice (some ⟨wo.heap.size, 0, none⟩) (M + 1) (M + 1)) (M + 1) ((List.replicate (M + 1) 0).set 0 ((I : Int) + 1)) := by
            have h := blk_intsO (base := wo.heap.size) (l := (List.replicate (M + 1) 0).set 0 ((I : Int) + 1)) (by
              rw [List.map_set, List.map_replicate, ← List.setIfInBounds_toArray, List.toArray_replicate]
              exact Blk.new wo 3 _) (Nat.le_refl _) (by simp; omega)
            unfold IntsFrom at h
            rw [List.length_set, List.length_replicate] at h
            exact h
          have hgp := World.grownBy_alloc wo (.cells ((Array.replicate (M + 1) (Value.int .i64 0)).setIfInBounds 0 (.int .i64 ((I : Int) + 1))) 3) none
          have HN0 : Hid (∀ j, j < 0 + 1 → ((List.replicate (M + 1) (0 : Int)).set 0 ((I : Int) + 1)).getD j 0 = (lev A B (I + 1) j : Int)) := lev_next (n := M) (by simp) (Nat.zero_le _) (fun j hj => by omega) (by rw [lev_00]; push_cast; rfl)
          go_wp2_with fail
          generalize wo.alloc (.cells ((Array.replicate (M + 1) (Value.int .i64 0)).setIfInBounds 0 (.int .i64 ((I : Int) + 1))) 3) = wa at *
          have hszo : w.heap.size ≤ wo.heap.size := hgr.size
          go_loopw [40] (fun k wx => ∃ (K : Nat) (L2 : List Int), k = .int .i64 K ∧ K ≤ M ∧ LFrom wo.heap.size wx (.slice (some ⟨wo.heap.size, 0, none⟩) (M + 1) (M + 1)) (M + 1) L2 ∧ Hid (∀ j, j < K + 1 → L2.getD j 0 = (lev A B (I + 1) j : Int)) ∧ wo.grownBy wx none) (fun k _ => M - (intOf k).toNat)
          case atStart => exact ⟨0, _, rfl, by omega, hst2, HN0.out, hgp⟩
          case round =>
            obtain ⟨K, L2, rfl, hK, hown, HL, hgx⟩ := hrel
            clear hst2 hgp
            by_cases hlk : K < M
            · have hki : (K : Int) < (M : Int) := by omega
              have hk0 : (0 : Int) ≤ (K : Int) := by omega
              have hI0 : (0 : Int) ≤ (I : Int) := by omega
              have hlen := hown.len
              have hPa : I < a.size := by have := HNN.out; omega
              have hQb : K < b.size := by have := HMM.out; omega
              have hPai : (I : Int) < (a.size : Int) := by omega
              have hQbi : (K : Int) < (b.size : Int) := by omega
              have hPw : IntKind.i64.wrap (I : Int) = (I : Int) := IntWalk.i64_in _ ⟨by omega, by omega⟩
              have hQw : IntKind.i64.wrap (K : Int) = (K : Int) := IntWalk.i64_in _ ⟨by omega, by omega⟩
              have hcq := bytes_at_eq a b I K hPa hQb
              rw [HAA.out, HBB.out] at hcq
              obtain ⟨EQ, hEQ⟩ : ∃ e, ((a[I].toNat : Int) == (b[K].toNat : Int)) = e := ⟨_, rfl⟩
              rw [hEQ] at hcq
              have HCQ := Lib.hid hcq
              have HOW := Lib.hid hown
              have HROWS := Lib.hid hrow
              clear hcq hown
              go_upto_region 16 with fail
              go_cut [49] (fun s wq => s = .bool EQ ∧ wr.grownBy wq none)
              case first =>
                as_aux_lemma =>
                  cases EQ
                  all_goals
                    refine wp_region_held_drew (S := fun _ => True) (by kernel_rfl) trivial (fun hHeld => ?_)
                    refine wpAnyH_take (i := 0) (v := ?_) rfl (by kernel_rfl) (by kernel_rfl) (by kernel_rfl) (fun _ _ _ h => h) (Or.inl ⟨by kernel_rfl, ?_⟩) hHeld ?_
                    rotate_left
                    · intro w hSw
                      (try dsimp only at hSw)
                      go_simp
                      (try with_reducible rfl)
                    change wpAnyH _ _ _ _ _ _ _ (Act.put _ (some 43) _) _
                    simp only [Act.put, List.setIfInBounds_toArray, List.set_cons_zero, List.set_cons_succ]
                    refine wpAnyH_take (i := 1) (v := ?_) rfl (by kernel_rfl) (by kernel_rfl) (by kernel_rfl) (fun _ _ _ h => h) (Or.inl ⟨by kernel_rfl, ?_⟩) hHeld ?_
                    rotate_left
                    · intro w hSw
                      (try dsimp only at hSw)
                      go_simp
                      (try with_reducible rfl)
                    change wpAnyH _ _ _ _ _ _ _ (Act.put _ (some 44) _) _
                    simp only [Act.put, List.setIfInBounds_toArray, List.set_cons_zero, List.set_cons_succ]
                    refine wpAnyH_take (i := 2) (v := ?_) rfl (by kernel_rfl) (by kernel_rfl) (by kernel_rfl) (fun _ _ _ h => h) (Or.inl ⟨by kernel_rfl, ?_⟩) hHeld ?_
                    rotate_left
                    · intro w hSw
                      (try dsimp only at hSw)
                      go_simp
                      (try with_reducible rfl)
                    change wpAnyH _ _ _ _ _ _ _ (Act.put _ (some 45) _) _
                    simp only [Act.put, List.setIfInBounds_toArray, List.set_cons_zero, List.set_cons_succ]
                    refine wpAnyH_take (i := 3) (v := ?_) rfl (by kernel_rfl) (by kernel_rfl) (by kernel_rfl) (fun _ _ _ h => h) (Or.inl ⟨by kernel_rfl, ?_⟩) hHeld ?_
                    rotate_left
                    · intro w hSw
                      (try dsimp only at hSw)
                      go_simp
                      (try with_reducible rfl)
                    change wpAnyH _ _ _ _ _ _ _ (Act.put _ (some 46) _) _
                    simp only [Act.put, List.setIfInBounds_toArray, List.set_cons_zero, List.set_cons_succ]
                    refine wpAnyH_take (i := 4) (v := ?_) rfl (by kernel_rfl) (by kernel_rfl) (by kernel_rfl) (fun _ _ _ h => h) (Or.inl ⟨by kernel_rfl, ?_⟩) hHeld ?_
                    rotate_left
                    · intro w hSw
                      (try dsimp only at hSw)
                      go_simp
                      (try with_reducible rfl)
                    change wpAnyH _ _ _ _ _ _ _ (Act.put _ (some 47) _) _
                    simp only [Act.put, List.setIfInBounds_toArray, List.set_cons_zero, List.set_cons_succ]
                    refine wpAnyH_take (i := 5) (v := ?_) rfl (by kernel_rfl) (by kernel_rfl) (by kernel_rfl) (fun _ _ _ h => h) (Or.inl ⟨by kernel_rfl, ?_⟩) hHeld ?_
                    rotate_left
                    · intro w hSw
                      (try dsimp only at hSw)
                      go_simp
                      (try with_reducible rfl)
                    change wpAnyH _ _ _ _ _ _ _ (Act.put _ (some 48) _) _
                    simp only [Act.put, List.setIfInBounds_toArray, List.set_cons_zero, List.set_cons_succ]
                    refine wpAnyH_take (i := 6) (v := ?_) rfl (by kernel_rfl) (by kernel_rfl) (by kernel_rfl) (fun _ _ _ h => h) (Or.inl ⟨by kernel_rfl, ?_⟩) hHeld ?_
                    rotate_left
                    · intro w hSw
                      (try dsimp only at hSw)
                      go_simp
                      (try with_reducible rfl)
                    change wpAnyH _ _ _ _ _ _ _ (Act.put _ (some 49) _) _
                    simp only [Act.put, List.setIfInBounds_toArray, List.set_cons_zero, List.set_cons_succ]
                    refine wpAnyH_done (by kernel_rfl) ?_ _
                    go_wp2_with fail
                    go_meet
                    exact ⟨rfl, by repeat (first | exact gr_refl _ _ | refine gr_drewN ?_ _ | refine gr_drew ?_)⟩
              case rest =>
                obtain ⟨rfl, hgq⟩ := hcut
                rename World => wq
                obtain ⟨C, hC⟩ : ∃ C : Int, (levC A B I K : Int) = C := ⟨_, rfl⟩
                have hCE : C = if EQ = true then 0 else 1 := by
                  rw [← hC, ← HCQ.out]
                  unfold levC
                  by_cases hh : A.getD I 0 = B.getD K 0
                  · rw [if_pos hh, decide_eq_true hh]; rfl
                  · rw [if_neg hh, decide_eq_false hh]; rfl
                have hCb : 0 ≤ C ∧ C ≤ 1 := by rw [hCE]; cases EQ <;> simp
                have HCE := Lib.hid hCE
                have HC := Lib.hid hC
                clear hCE hC
                go_upto_if 49 with fail
                go_cut [10] (fun s w2 => s = .int .i64 C ∧ wq = w2)
                case first =>
                  as_aux_lemma =>
                    cases EQ
                    · obtain rfl : C = 1 := HCE.out
                      go_wp2_with fail
                      go_meet
                      exact ⟨rfl, rfl⟩
                    · obtain rfl : C = 0 := HCE.out
                      go_wp2_with fail
                      go_meet
                      exact ⟨rfl, rfl⟩
                case rest =>
                  obtain ⟨rfl, rfl⟩ := hcut
                  have hG2 := gr_trans hgx hgq
                  have hown1 : LFrom wo.heap.size wq (.slice (some ⟨wo.heap.size, 0, none⟩) (M + 1) (M + 1)) (M + 1) L2 := ownsRow_grown HOW.out hgq
                  have hrowq : LFrom w.heap.size wq (.slice (some ⟨g, 0, none⟩) (M + 1) (M + 1)) (M + 1) L := ownsRow_grown HROWS.out hG2
                  obtain ⟨J, hJ⟩ : ∃ J, K + 1 = J := ⟨_, rfl⟩
                  have k1 := hrowq.at_ J (by omega)
                  have k3 := hrowq.at_ K (by omega)
                  have k2 := hown1.at_ K (by omega)
                  have kk := hown1.at_ J (by omega)
                  rw [HR.out J (by omega)] at k1
                  rw [HR.out K (by omega)] at k3
                  rw [HL.out K (by omega)] at k2
                  have hl1 : (lev A B (I + 1) J : Int) = min (min ((lev A B I J : Int) + 1) ((lev A B (I + 1) K : Int) + 1)) ((lev A B I K : Int) + C) := by
                    rw [← HC.out, ← hJ, lev_1]; push_cast; omega
                  have b1 := HOB.out I J
                  have b2 := HOB.out (I + 1) K
                  have b3 := HOB.out I K
                  have HO3 := Lib.hid hl1
                  obtain ⟨X1, hX1⟩ : ∃ x : Int, (lev A B I J : Int) = x := ⟨_, rfl⟩
                  obtain ⟨X2, hX2⟩ : ∃ x : Int, (lev A B (I + 1) K : Int) = x := ⟨_, rfl⟩
                  obtain ⟨X3, hX3⟩ : ∃ x : Int, (lev A B I K : Int) = x := ⟨_, rfl⟩
                  have d1 : 0 ≤ X1 ∧ X1 ≤ 15000 := by omega
                  have d2 : 0 ≤ X2 ∧ X2 ≤ 15000 := by omega
                  have d3 : 0 ≤ X3 ∧ X3 ≤ 15000 := by omega
                  rw [hX1, hX2, hX3] at HO3
                  rw [hX1] at k1
                  rw [hX2] at k2
                  rw [hX3] at k3
                  clear hX1 hX2 hX3 hl1 b1 b2 b3
                  have w1 : IntKind.i64.wrap (X1 + 1) = X1 + 1 := IntWalk.i64_in _ ⟨by omega, by omega⟩
                  have w2 : IntKind.i64.wrap (X2 + 1) = X2 + 1 := IntWalk.i64_in _ ⟨by omega, by omega⟩
                  have w3 : IntKind.i64.wrap (X3 + C) = X3 + C := IntWalk.i64_in _ ⟨by omega, by omega⟩
                  have hJ1 : IntKind.i64.wrap ((K : Int) + 1) = (J : Int) := by
                    rw [show (K : Int) + 1 = (J : Int) by omega]; exact IntWalk.i64_in _ ⟨by omega, by omega⟩
                  have hJw : IntKind.i64.wrap (J : Int) = (J : Int) := IntWalk.i64_in _ ⟨by omega, by omega⟩
                  have hJm : (J : Int) < (M : Int) + 1 := by omega
                  have hJ0 : (0 : Int) ≤ (J : Int) := by omega
                  have hJn : J < M + 1 := by omega
                  have hKm : (K : Int) < (M : Int) + 1 := by omega
                  have hKn : K < M + 1 := by omega
                  have hxe : (if X3 + C < if X2 < X1 then X2 + 1 else X1 + 1 then X3 + C else if X2 < X1 then X2 + 1 else X1 + 1) = (lev A B (I + 1) J : Int) := by
                    rw [HO3.out]
                    split <;> split <;> omega
                  have HN := Lib.hid (lev_next hlen (show J ≤ M by omega) (fun j hj => HL.out j (by omega)) hxe)
                  have HJ := Lib.hid hJ
                  have z3 : wq.drew.cell? ⟨g, J, none⟩ = _ := k1
                  have z4 : wq.drew.cell? ⟨g, K, none⟩ = _ := k3
                  have z5 : wq.drew.cell? ⟨wo.heap.size, K, none⟩ = _ := k2
                  have z6 : wq.drew.cell? ⟨wo.heap.size, J, none⟩ = _ := kk
                  have hs3 := (World.ownsRow.stored (show World.ownsRow wq wo.heap.size 3 1 (.slice (some ⟨wo.heap.size, 0, none⟩) (M + 1) (M + 1)) (M + 1) (L2.map (Value.int .i64)) from hown1) J (.int .i64 (if X3 + C < if X2 < X1 then X2 + 1 else X1 + 1 then X3 + C else if X2 < X1 then X2 + 1 else X1 + 1))).1
                  have hfz : wq.drew.frozen? ⟨wo.heap.size, J, none⟩ = false := World.ownsRow.frozenAt (show wq.ownsRow wo.heap.size 3 1 (.slice (some ⟨wo.heap.size, 0, none⟩) (M + 1) (M + 1)) (M + 1) (L2.map (Value.int .i64)) from hown1) J
                  rw [← List.map_set] at hs3
                  have HS3 := Lib.hid (ownsRow_grown hs3 (gr_drew (gr_refl _ none)))
                  have hGW : wo.grownBy (wq.setCell ⟨wo.heap.size, J, none⟩ (.int .i64 (if X3 + C < if X2 < X1 then X2 + 1 else X1 + 1 then X3 + C else if X2 < X1 then X2 + 1 else X1 + 1))).drew none := gr_drew (gr_put hG2 (.inr (Nat.le_refl _)) _)
                  clear hs3 hown1 hrowq hxe hJ hrow hgx hgq hG2
                  go_wp2_with fail
                  go_still_tail 22, (by kernel_rfl)
                  change wpList _ _ _ _ _ wq.drew
                  go_wp2_with fail
                  go_roundw
                  case rel => exact ⟨J, L2.set J (if X3 + C < if X2 < X1 then X2 + 1 else X1 + 1 then X3 + C else if X2 < X1 then X2 + 1 else X1 + 1), rfl, by omega, HS3.out, HN.out, hGW⟩
                  case measure => have := HJ.out; simp [intOf]; omega
            · have hki : ¬ (K : Int) < (M : Int) := by omega
              have hown9 : LFrom w.heap.size wr (.slice (some ⟨wo.heap.size, 0, none⟩) (M + 1) (M + 1)) (M + 1) L2 := ownsRow_low hown hszo
              have HR9 : Hid (∀ k, k ≤ M → L2.getD k 0 = (lev A B (I + 1) k : Int)) := fun k hk => HL.out k (by omega)
              have hg9 := gr_trans hgr hgx
              clear hown hrow
              go_wp2_with fail
              go_roundw
              case rel => exact ⟨I + 1, wo.heap.size, L2, by go_num, by omega, rfl, hszo, hown9, HR9.out, hg9⟩
              case measure => simp [intOf]; omega
        · have hli : ¬ (I : Int) < (N : Int) := by omega
          obtain rfl : I = N := by omega
          have hcM := hrow.at_ M (by omega)
          rw [HR.out M (Nat.le_refl _)] at hcM
          have hMl2 : (M : Int) < (M : Int) + 1 := by omega
          have hMl : M < M + 1 := by omega
          go_wp2_with fail
          go_ret
          exact ⟨by rw [HST.out]; rfl, hgr⟩
end Go.Proofs.YtlodmkdhlmineaaGreatDoor
