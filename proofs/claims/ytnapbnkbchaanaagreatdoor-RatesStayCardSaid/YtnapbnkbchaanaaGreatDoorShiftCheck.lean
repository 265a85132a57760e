/- The walk over rate.CheckShifts. Condition: few shifts, whose numbers and strings are small. -/
import Derived.Test.YtnapbnkbchaanaaGreatDoorShifts
import Derived.Test.YtnapbnkbchaanaaGreatDoorMapS
import Derived.Test.YtnapbnkbchaanaaGreatDoorStream
import Derived.Deep.RegionHeld3
import Derived.Maps.OwnSet
namespace Go.Proofs.YtnapbnkbchaanaaGreatDoor
open Go.RowKit
set_option linter.unusedVariables false
set_option linter.unusedSimpArgs false

theorem i64_in2 (n : Int) (h0 : 0 ≤ n) (h1 : n ≤ 1000000000) : IntKind.i64.wrap n = n := IntWalk.i64_in n ⟨by omega, by omega⟩
set_option maxRecDepth 100000 in
set_option maxHeartbeats 8000000 in
theorem checkShifts_few (base : Nat) (v : Value) (l : List (Int × ByteArray)) (w : World) (hl : ShFrom base w v l) (F : ShFew l) :
    Calls Tryz.prog 110 #[v] w fun r w' => r = .returned (.int .i64 (scanS none l)) ∧ w.grownBy w' none := by
  obtain ⟨A, c, rfl, hlen, hA⟩ := hl.shape
  have HL := Lib.hid hl
  have HF := Lib.hid F
  have h6 := F.len
  have h7 : ¬ (500 : Int) < (l.length : Int) := by omega
  have hM := World.ownsMap_made (H := Unit) w Tryz.prog 9 (plainElem Tryz.prog 4)
  have hG := World.grownBy_alloc w (.map #[] 0) none
  have hmm := @run_makeMap Tryz.prog
  clear hl F
  go_enter Tryz.func110, Tryz.ntmps110
  go_wp2_with fail
  go_loopw [12] (fun i wr => ∃ (k : Nat) (D : DataW Unit), k ≤ l.length ∧ i = .int .i64 k ∧ Hid (scanS none l = scanS (prevS l k) (l.drop k)) ∧ wr.ownsMap Tryz.prog 9 (plainElem Tryz.prog 4) w.heap.size k D ∧ w.grownBy wr none) (fun i _ => l.length - (intOf i).toNat)
  case atStart => exact ⟨0, _, by omega, rfl, rfl, hM, hG⟩
  case round =>
    obtain ⟨k, D, hk, rfl, HR, hD, hgr⟩ := hrel
    by_cases hlt : k < l.length
    · obtain ⟨g, rfl, hg0, hg1⟩ := hA (by omega)
      have hkl : (k : Int) < (l.length : Int) := by omega
      have HLr := Lib.hid (HL.out.grown hgr)
      obtain ⟨c0, c1⟩ := HLr.out.at1 k hlt
      have hd := List.drop_eq_getElem_cons hlt
      have HN : Hid (scanS none l = scanS (prevS l k) (l[k] :: l.drop (k + 1))) := by show _ = _; rw [HR.out, hd]
      have HP : Hid (prevS l (k + 1) = some l[k].1) := prevS_pos l k hlt
      have hnum := HF.out.num _ (List.getElem_mem hlt)
      have hstr := HF.out.str _ (List.getElem_mem hlt)
      have hprev : k = 0 ∨ ∃ m y, k = m + 1 ∧ wr.cell? ⟨g, m * 2, none⟩ = some (.int .i64 y) ∧ prevS l k = some y := by
        cases k with
        | zero => exact .inl rfl
        | succ m => exact .inr ⟨m, _, rfl, (HLr.out.at1 m (by omega)).1, prevS_pos l m (by omega)⟩
      obtain ⟨p, hp⟩ : ∃ p, l[k] = p := ⟨_, rfl⟩
      rw [hp] at c0 c1 HN HP hnum hstr
      obtain ⟨x, who⟩ := p
      have HPP := Lib.hid hp
      clear hd hp HR
      simp only at c0 c1 hnum hstr
      have hB := Blk.new wr 89 #[.int .i64 x, .string who]
      have hDa := hD.alloc (.cells #[.int .i64 x, .string who] 89)
      have hG2 := gr_alloc hgr (.cells #[.int .i64 x, .string who] 89)
      rcases momE_cases x with ⟨me, ms, m0, m1⟩ | ⟨me, ms⟩
      · cases hnm : nameB who.data.toList
        · have HE := Lib.hid (HN.out.trans (scanS_name me hnm))
          have HNM := Lib.hid hnm
          clear hprev hnm me
          go_wp2_with fail
          generalize wr.alloc (.cells #[.int .i64 x, .string who] 89) = W2 at *
          obtain ⟨b0, b1⟩ := hB.cells2
          refine (isMoment_any _ _).mono ?_
          rintro _ _ ⟨rfl, rfl⟩
          rw [ms]
          go_wp2_with fail
          refine (isName_any who _ (by omega)).mono ?_
          rintro _ w3 ⟨rfl, hg⟩
          rw [HNM.out]
          go_wp2_with fail
          go_ret
          exact ⟨ret_of HE.out.symm, gr_trans hG2 hg⟩
        · have HNM := Lib.hid hnm
          rcases hprev with rfl | ⟨m, y, rfl, hpv, hpy⟩
          · have HF2 : Hid (scanS none l = scanS (prevS l (0 + 1)) (l.drop (0 + 1))) := by
              show _ = _
              rw [HN.out, HP.out]
              exact scanS_next me hnm (fun z hz => by simp [prevS] at hz)
            clear hnm me
            go_wp2_with fail
            have hga := World.grownBy_alloc wr (.cells #[.int .i64 x, .string who] 89) none
            generalize wr.alloc (.cells #[.int .i64 x, .string who] 89) = W2 at *
            generalize hBB : wr.heap.size = B at *
            have HBB := Lib.hid hBB
            clear hBB
            obtain ⟨b0, b1⟩ := hB.cells2
            refine (isMoment_any _ _).mono ?_
            rintro _ _ ⟨rfl, rfl⟩
            rw [ms]
            go_wp2_with fail
            refine (isName_any who _ (by omega)).mono ?_
            rintro _ w3 ⟨rfl, hg⟩
            rw [HNM.out]
            have hG3 := gr_drew (gr_trans hG2 hg)
            have hD3 := World.ownsMap.drew (hDa.kept hg (by simp))
            replace hB := hB.grown hg (by simp)
            clear b0 b1
            obtain ⟨b0, b1⟩ := hB.cells2
            have b0d : w3.drew.cell? ⟨B, 0, none⟩ = some (.int .i64 x) := b0
            have b1d : w3.drew.cell? ⟨B, 1, none⟩ = some (.string who) := b1
            go_wp2_with fail
            refine wp_region_held_drew (S := fun W' => W'.cell? ⟨B, 0, none⟩ = some (.int .i64 x)) (by kernel_rfl) b0 (fun hHeld => ?_)
            refine wpAnyH_take (i := 0) (v := ?_) rfl (by kernel_rfl) (by kernel_rfl) (by kernel_rfl) (fun _ _ _ h => h) (Or.inl ⟨by kernel_rfl, ?_⟩) hHeld ?_
            rotate_left
            · intro w hSw
              (try dsimp only at hSw)
              go_simp
              (try with_reducible rfl)
            change wpAnyH _ _ _ _ _ _ _ (Act.put _ (some 28) _) _
            simp only [Act.put, List.setIfInBounds_toArray, List.set_cons_zero, List.set_cons_succ]
            refine wpAnyH_take (i := 1) (v := ?_) rfl (by kernel_rfl) (by kernel_rfl) (by kernel_rfl) (fun _ _ _ h => h) (Or.inl ⟨by kernel_rfl, ?_⟩) hHeld ?_
            rotate_left
            · intro w hSw
              (try dsimp only at hSw)
              go_simp
              (try with_reducible rfl)
            change wpAnyH _ _ _ _ _ _ _ (Act.put _ (some 29) _) _
            simp only [Act.put, List.setIfInBounds_toArray, List.set_cons_zero, List.set_cons_succ]
            refine wpAnyH_take (i := 2) (v := ?_) rfl (by kernel_rfl) (by kernel_rfl) (by kernel_rfl) (fun _ _ _ h => h) (Or.inl ⟨by kernel_rfl, ?_⟩) hHeld ?_
            rotate_left
            · intro w hSw
              (try dsimp only at hSw)
              go_simp
              (try with_reducible rfl)
            change wpAnyH _ _ _ _ _ _ _ (Act.put _ (some 30) _) _
            simp only [Act.put, List.setIfInBounds_toArray, List.set_cons_zero, List.set_cons_succ]
            refine wpAnyH_take (i := 3) (v := undef) rfl (by kernel_rfl) (by kernel_rfl) (by kernel_rfl) (fun _ _ _ h => h) (Or.inr ⟨by kernel_rfl, rfl⟩) hHeld ?_
            change wpAnyH _ _ _ _ _ _ _ (Act.put _ (some 31) _) _
            simp only [Act.put, List.setIfInBounds_toArray, List.set_cons_zero, List.set_cons_succ]
            refine wpAnyH_take (i := 4) (v := undef) rfl (by kernel_rfl) (by kernel_rfl) (by kernel_rfl) (fun _ _ _ h => h) (Or.inr ⟨by kernel_rfl, rfl⟩) hHeld ?_
            change wpAnyH _ _ _ _ _ _ _ (Act.put _ (some 32) _) _
            simp only [Act.put, List.setIfInBounds_toArray, List.set_cons_zero, List.set_cons_succ]
            refine wpAnyH_take (i := 5) (v := undef) rfl (by kernel_rfl) (by kernel_rfl) (by kernel_rfl) (fun _ _ _ h => h) (Or.inr ⟨by kernel_rfl, rfl⟩) hHeld ?_
            change wpAnyH _ _ _ _ _ _ _ (Act.put _ (some 33) _) _
            simp only [Act.put, List.setIfInBounds_toArray, List.set_cons_zero, List.set_cons_succ]
            refine wpAnyH_take (i := 6) (v := undef) rfl (by kernel_rfl) (by kernel_rfl) (by kernel_rfl) (fun _ _ _ h => h) (Or.inr ⟨by kernel_rfl, rfl⟩) hHeld ?_
            change wpAnyH _ _ _ _ _ _ _ (Act.put _ (some 34) _) _
            simp only [Act.put, List.setIfInBounds_toArray, List.set_cons_zero, List.set_cons_succ]
            refine wpAnyH_take (i := 7) (v := undef) rfl (by kernel_rfl) (by kernel_rfl) (by kernel_rfl) (fun _ _ _ h => h) (Or.inr ⟨by kernel_rfl, rfl⟩) hHeld ?_
            change wpAnyH _ _ _ _ _ _ _ (Act.put _ (some 35) _) _
            simp only [Act.put, List.setIfInBounds_toArray, List.set_cons_zero, List.set_cons_succ]
            refine wpAnyH_take (i := 8) (v := undef) rfl (by kernel_rfl) (by kernel_rfl) (by kernel_rfl) (fun _ _ _ h => h) (Or.inr ⟨by kernel_rfl, rfl⟩) hHeld ?_
            change wpAnyH _ _ _ _ _ _ _ (Act.put _ (some 36) _) _
            simp only [Act.put, List.setIfInBounds_toArray, List.set_cons_zero, List.set_cons_succ]
            refine wpAnyH_take (i := 9) (v := undef) rfl (by kernel_rfl) (by kernel_rfl) (by kernel_rfl) (fun _ _ _ h => h) (Or.inr ⟨by kernel_rfl, rfl⟩) hHeld ?_
            change wpAnyH _ _ _ _ _ _ _ (Act.put _ (some 37) _) _
            simp only [Act.put, List.setIfInBounds_toArray, List.set_cons_zero, List.set_cons_succ]
            refine wpAnyH_take (i := 10) (v := undef) rfl (by kernel_rfl) (by kernel_rfl) (by kernel_rfl) (fun _ _ _ h => h) (Or.inr ⟨by kernel_rfl, rfl⟩) hHeld ?_
            change wpAnyH _ _ _ _ _ _ _ (Act.put _ (some 38) _) _
            simp only [Act.put, List.setIfInBounds_toArray, List.set_cons_zero, List.set_cons_succ]
            refine wpAnyH_take (i := 11) (v := undef) rfl (by kernel_rfl) (by kernel_rfl) (by kernel_rfl) (fun _ _ _ h => h) (Or.inr ⟨by kernel_rfl, rfl⟩) hHeld ?_
            change wpAnyH _ _ _ _ _ _ _ (Act.put _ (some 39) _) _
            simp only [Act.put, List.setIfInBounds_toArray, List.set_cons_zero, List.set_cons_succ]
            refine wpAnyH_take (i := 12) (v := ?_) rfl (by kernel_rfl) (by kernel_rfl) (by kernel_rfl) (fun _ _ _ h => h) (Or.inl ⟨by kernel_rfl, ?_⟩) hHeld ?_
            rotate_left
            · intro w hSw
              (try dsimp only at hSw)
              go_simp
              (try with_reducible rfl)
            change wpAnyH _ _ _ _ _ _ _ (Act.put _ (some 40) _) _
            simp only [Act.put, List.setIfInBounds_toArray, List.set_cons_zero, List.set_cons_succ]
            refine wpAnyH_take (i := 13) (v := ?_) rfl (by kernel_rfl) (by kernel_rfl) (by kernel_rfl) (fun _ _ _ h => h) (Or.inl ⟨by kernel_rfl, ?_⟩) hHeld ?_
            rotate_left
            · intro w hSw
              (try dsimp only at hSw)
              go_simp
              (try with_reducible rfl)
            change wpAnyH _ _ _ _ _ _ _ (Act.put _ (some 27) _) _
            simp only [Act.put, List.setIfInBounds_toArray, List.set_cons_zero, List.set_cons_succ]
            refine wpAnyH_done (by kernel_rfl) ?_ _
            by_cases he : who.toList = []
            · go_wp2_with fail
              go_roundw
              case rel => exact ⟨0 + 1, D, by omega, by go_num, HF2, hD3.mono (by omega), hG3⟩
              case measure => first | (simp [intOf]; done) | (simp [intOf]; omega)
            · have he2 : who.toList.isEmpty = false := by cases hh : who.toList with | nil => exact absurd hh he | cons a r => rfl
              clear he
              go_wp2_with (refine wpList_mapUpdate_in _ rfl _ _ _ 127 rfl 9 4 strK Tryz.underlying127 (plainElem Tryz.prog 4) w.heap.size 0 D rfl hD3 (by unfold maxLen; omega) (.string who) (.bool true) _ rfl rfl (str_key who (by omega)) _ _ (plainElem_bool Tryz.underlying4 true) ?_; intro w5 hD5 hturn)
              have hG5 : w.grownBy w5 none := gr_grown hG3 hturn.grown (fun g e => by injection e with e; exact .inr (by omega))
              go_wp2_with fail
              go_roundw
              case rel => exact ⟨0 + 1, _, by omega, by go_num, HF2, hD5, hG5⟩
              case measure => first | (simp [intOf]; done) | (simp [intOf]; omega)
          · have hkp : decide ((0 : Int) < (m : Int) + 1) = true := by first | (simp; done) | (simp; omega)
            have e1' : IntKind.i64.wrap (m : Int) = (m : Int) := i64_in2 _ (by omega) (by omega)
            have hmL : (m : Int) < (l.length : Int) := by omega
            have hmL2 : m < l.length := by omega
            by_cases hxy : x ≤ y
            · have HE : Hid (scanS none l = 7) := by show _ = _; rw [HN.out, hpy]; exact scanS_order me hnm hxy
              have hxd : decide (x ≤ y) = true := by simpa using hxy
              clear hnm me hpy
              go_wp2_with fail
              have hga := World.grownBy_alloc wr (.cells #[.int .i64 x, .string who] 89) none
              generalize wr.alloc (.cells #[.int .i64 x, .string who] 89) = W2 at *
              generalize hBB : wr.heap.size = B at *
              have HBB := Lib.hid hBB
              clear hBB
              obtain ⟨b0, b1⟩ := hB.cells2
              refine (isMoment_any _ _).mono ?_
              rintro _ _ ⟨rfl, rfl⟩
              rw [ms]
              go_wp2_with fail
              refine (isName_any who _ (by omega)).mono ?_
              rintro _ w3 ⟨rfl, hg⟩
              rw [HNM.out]
              have hG3 := gr_drew (gr_trans hG2 hg)
              have hD3 := World.ownsMap.drew (hDa.kept hg (by simp))
              replace hB := hB.grown hg (by simp)
              have hpv2 : w3.cell? ⟨g, m * 2, none⟩ = some (.int .i64 y) := (hg.cell (hga.cell hpv (by simp)) (by simp))
              clear b0 b1
              obtain ⟨b0, b1⟩ := hB.cells2
              have b0d : w3.drew.cell? ⟨B, 0, none⟩ = some (.int .i64 x) := b0
              have b1d : w3.drew.cell? ⟨B, 1, none⟩ = some (.string who) := b1
              go_wp2_with fail
              refine wp_region_held_drew (S := fun W' => W'.cell? ⟨B, 0, none⟩ = some (.int .i64 x) ∧ W'.cell? ⟨g, m * 2, none⟩ = some (.int .i64 y)) (by kernel_rfl) ⟨b0, hpv2⟩ (fun hHeld => ?_)
              refine wpAnyH_take (i := 0) (v := ?_) rfl (by kernel_rfl) (by kernel_rfl) (by kernel_rfl) (fun _ _ _ h => h) (Or.inl ⟨by kernel_rfl, ?_⟩) hHeld ?_
              rotate_left
              · intro w hSw
                (try dsimp only at hSw)
                obtain ⟨hS0, hS1⟩ := hSw
                go_simp
                (try with_reducible rfl)
              change wpAnyH _ _ _ _ _ _ _ (Act.put _ (some 28) _) _
              simp only [Act.put, List.setIfInBounds_toArray, List.set_cons_zero, List.set_cons_succ]
              refine wpAnyH_take (i := 1) (v := ?_) rfl (by kernel_rfl) (by kernel_rfl) (by kernel_rfl) (fun _ _ _ h => h) (Or.inl ⟨by kernel_rfl, ?_⟩) hHeld ?_
              rotate_left
              · intro w hSw
                (try dsimp only at hSw)
                obtain ⟨hS0, hS1⟩ := hSw
                go_simp
                (try with_reducible rfl)
              change wpAnyH _ _ _ _ _ _ _ (Act.put _ (some 29) _) _
              simp only [Act.put, List.setIfInBounds_toArray, List.set_cons_zero, List.set_cons_succ]
              refine wpAnyH_take (i := 2) (v := ?_) rfl (by kernel_rfl) (by kernel_rfl) (by kernel_rfl) (fun _ _ _ h => h) (Or.inl ⟨by kernel_rfl, ?_⟩) hHeld ?_
              rotate_left
              · intro w hSw
                (try dsimp only at hSw)
                obtain ⟨hS0, hS1⟩ := hSw
                go_simp
                (try with_reducible rfl)
              change wpAnyH _ _ _ _ _ _ _ (Act.put _ (some 30) _) _
              simp only [Act.put, List.setIfInBounds_toArray, List.set_cons_zero, List.set_cons_succ]
              refine wpAnyH_take (i := 3) (v := ?_) rfl (by kernel_rfl) (by kernel_rfl) (by kernel_rfl) (fun _ _ _ h => h) (Or.inl ⟨by kernel_rfl, ?_⟩) hHeld ?_
              rotate_left
              · intro w hSw
                (try dsimp only at hSw)
                obtain ⟨hS0, hS1⟩ := hSw
                go_simp
                (try with_reducible rfl)
              change wpAnyH _ _ _ _ _ _ _ (Act.put _ (some 31) _) _
              simp only [Act.put, List.setIfInBounds_toArray, List.set_cons_zero, List.set_cons_succ]
              refine wpAnyH_take (i := 4) (v := ?_) rfl (by kernel_rfl) (by kernel_rfl) (by kernel_rfl) (fun _ _ _ h => h) (Or.inl ⟨by kernel_rfl, ?_⟩) hHeld ?_
              rotate_left
              · intro w hSw
                (try dsimp only at hSw)
                obtain ⟨hS0, hS1⟩ := hSw
                go_simp
                (try with_reducible rfl)
              change wpAnyH _ _ _ _ _ _ _ (Act.put _ (some 32) _) _
              simp only [Act.put, List.setIfInBounds_toArray, List.set_cons_zero, List.set_cons_succ]
              refine wpAnyH_take (i := 5) (v := ?_) rfl (by kernel_rfl) (by kernel_rfl) (by kernel_rfl) (fun _ _ _ h => h) (Or.inl ⟨by kernel_rfl, ?_⟩) hHeld ?_
              rotate_left
              · intro w hSw
                (try dsimp only at hSw)
                obtain ⟨hS0, hS1⟩ := hSw
                go_simp
                (try with_reducible rfl)
              change wpAnyH _ _ _ _ _ _ _ (Act.put _ (some 33) _) _
              simp only [Act.put, List.setIfInBounds_toArray, List.set_cons_zero, List.set_cons_succ]
              refine wpAnyH_take (i := 6) (v := ?_) rfl (by kernel_rfl) (by kernel_rfl) (by kernel_rfl) (fun _ _ _ h => h) (Or.inl ⟨by kernel_rfl, ?_⟩) hHeld ?_
              rotate_left
              · intro w hSw
                (try dsimp only at hSw)
                obtain ⟨hS0, hS1⟩ := hSw
                go_simp
                (try with_reducible rfl)
              change wpAnyH _ _ _ _ _ _ _ (Act.put _ (some 34) _) _
              simp only [Act.put, List.setIfInBounds_toArray, List.set_cons_zero, List.set_cons_succ]
              refine wpAnyH_take (i := 7) (v := ?_) rfl (by kernel_rfl) (by kernel_rfl) (by kernel_rfl) (fun _ _ _ h => h) (Or.inl ⟨by kernel_rfl, ?_⟩) hHeld ?_
              rotate_left
              · intro w hSw
                (try dsimp only at hSw)
                obtain ⟨hS0, hS1⟩ := hSw
                go_simp
                (try with_reducible rfl)
              change wpAnyH _ _ _ _ _ _ _ (Act.put _ (some 35) _) _
              simp only [Act.put, List.setIfInBounds_toArray, List.set_cons_zero, List.set_cons_succ]
              refine wpAnyH_take (i := 8) (v := ?_) rfl (by kernel_rfl) (by kernel_rfl) (by kernel_rfl) (fun _ _ _ h => h) (Or.inl ⟨by kernel_rfl, ?_⟩) hHeld ?_
              rotate_left
              · intro w hSw
                (try dsimp only at hSw)
                obtain ⟨hS0, hS1⟩ := hSw
                go_simp
                (try with_reducible rfl)
              change wpAnyH _ _ _ _ _ _ _ (Act.put _ (some 36) _) _
              simp only [Act.put, List.setIfInBounds_toArray, List.set_cons_zero, List.set_cons_succ]
              refine wpAnyH_take (i := 9) (v := ?_) rfl (by kernel_rfl) (by kernel_rfl) (by kernel_rfl) (fun _ _ _ h => h) (Or.inl ⟨by kernel_rfl, ?_⟩) hHeld ?_
              rotate_left
              · intro w hSw
                (try dsimp only at hSw)
                obtain ⟨hS0, hS1⟩ := hSw
                go_simp
                (try with_reducible rfl)
              change wpAnyH _ _ _ _ _ _ _ (Act.put _ (some 37) _) _
              simp only [Act.put, List.setIfInBounds_toArray, List.set_cons_zero, List.set_cons_succ]
              refine wpAnyH_take (i := 10) (v := ?_) rfl (by kernel_rfl) (by kernel_rfl) (by kernel_rfl) (fun _ _ _ h => h) (Or.inl ⟨by kernel_rfl, ?_⟩) hHeld ?_
              rotate_left
              · intro w hSw
                (try dsimp only at hSw)
                obtain ⟨hS0, hS1⟩ := hSw
                go_simp
                (try with_reducible rfl)
              change wpAnyH _ _ _ _ _ _ _ (Act.put _ (some 38) _) _
              simp only [Act.put, List.setIfInBounds_toArray, List.set_cons_zero, List.set_cons_succ]
              refine wpAnyH_take (i := 11) (v := ?_) rfl (by kernel_rfl) (by kernel_rfl) (by kernel_rfl) (fun _ _ _ h => h) (Or.inl ⟨by kernel_rfl, ?_⟩) hHeld ?_
              rotate_left
              · intro w hSw
                (try dsimp only at hSw)
                obtain ⟨hS0, hS1⟩ := hSw
                go_simp
                (try with_reducible rfl)
              change wpAnyH _ _ _ _ _ _ _ (Act.put _ (some 39) _) _
              simp only [Act.put, List.setIfInBounds_toArray, List.set_cons_zero, List.set_cons_succ]
              refine wpAnyH_take (i := 12) (v := ?_) rfl (by kernel_rfl) (by kernel_rfl) (by kernel_rfl) (fun _ _ _ h => h) (Or.inl ⟨by kernel_rfl, ?_⟩) hHeld ?_
              rotate_left
              · intro w hSw
                (try dsimp only at hSw)
                obtain ⟨hS0, hS1⟩ := hSw
                go_simp
                (try with_reducible rfl)
              change wpAnyH _ _ _ _ _ _ _ (Act.put _ (some 40) _) _
              simp only [Act.put, List.setIfInBounds_toArray, List.set_cons_zero, List.set_cons_succ]
              refine wpAnyH_take (i := 13) (v := ?_) rfl (by kernel_rfl) (by kernel_rfl) (by kernel_rfl) (fun _ _ _ h => h) (Or.inl ⟨by kernel_rfl, ?_⟩) hHeld ?_
              rotate_left
              · intro w hSw
                (try dsimp only at hSw)
                obtain ⟨hS0, hS1⟩ := hSw
                go_simp
                (try with_reducible rfl)
              change wpAnyH _ _ _ _ _ _ _ (Act.put _ (some 27) _) _
              simp only [Act.put, List.setIfInBounds_toArray, List.set_cons_zero, List.set_cons_succ]
              refine wpAnyH_done (by kernel_rfl) ?_ _
              go_wp2_with fail
              go_ret
              exact ⟨ret_of HE.out.symm, hG3⟩
            · have HF2 : Hid (scanS none l = scanS (prevS l (m + 1 + 1)) (l.drop (m + 1 + 1))) := by
                show _ = _
                rw [HN.out, HP.out, hpy]
                exact scanS_next me hnm (fun z hz => by injection hz with hz; subst hz; exact hxy)
              have hxd : decide (x ≤ y) = false := by simpa using hxy
              clear hnm me hpy
              go_wp2_with fail
              have hga := World.grownBy_alloc wr (.cells #[.int .i64 x, .string who] 89) none
              generalize wr.alloc (.cells #[.int .i64 x, .string who] 89) = W2 at *
              generalize hBB : wr.heap.size = B at *
              have HBB := Lib.hid hBB
              clear hBB
              obtain ⟨b0, b1⟩ := hB.cells2
              refine (isMoment_any _ _).mono ?_
              rintro _ _ ⟨rfl, rfl⟩
              rw [ms]
              go_wp2_with fail
              refine (isName_any who _ (by omega)).mono ?_
              rintro _ w3 ⟨rfl, hg⟩
              rw [HNM.out]
              have hG3 := gr_drew (gr_trans hG2 hg)
              have hD3 := World.ownsMap.drew (hDa.kept hg (by simp))
              replace hB := hB.grown hg (by simp)
              have hpv2 : w3.cell? ⟨g, m * 2, none⟩ = some (.int .i64 y) := (hg.cell (hga.cell hpv (by simp)) (by simp))
              clear b0 b1
              obtain ⟨b0, b1⟩ := hB.cells2
              have b0d : w3.drew.cell? ⟨B, 0, none⟩ = some (.int .i64 x) := b0
              have b1d : w3.drew.cell? ⟨B, 1, none⟩ = some (.string who) := b1
              go_wp2_with fail
              refine wp_region_held_drew (S := fun W' => W'.cell? ⟨B, 0, none⟩ = some (.int .i64 x) ∧ W'.cell? ⟨g, m * 2, none⟩ = some (.int .i64 y)) (by kernel_rfl) ⟨b0, hpv2⟩ (fun hHeld => ?_)
              refine wpAnyH_take (i := 0) (v := ?_) rfl (by kernel_rfl) (by kernel_rfl) (by kernel_rfl) (fun _ _ _ h => h) (Or.inl ⟨by kernel_rfl, ?_⟩) hHeld ?_
              rotate_left
              · intro w hSw
                (try dsimp only at hSw)
                obtain ⟨hS0, hS1⟩ := hSw
                go_simp
                (try with_reducible rfl)
              change wpAnyH _ _ _ _ _ _ _ (Act.put _ (some 28) _) _
              simp only [Act.put, List.setIfInBounds_toArray, List.set_cons_zero, List.set_cons_succ]
              refine wpAnyH_take (i := 1) (v := ?_) rfl (by kernel_rfl) (by kernel_rfl) (by kernel_rfl) (fun _ _ _ h => h) (Or.inl ⟨by kernel_rfl, ?_⟩) hHeld ?_
              rotate_left
              · intro w hSw
                (try dsimp only at hSw)
                obtain ⟨hS0, hS1⟩ := hSw
                go_simp
                (try with_reducible rfl)
              change wpAnyH _ _ _ _ _ _ _ (Act.put _ (some 29) _) _
              simp only [Act.put, List.setIfInBounds_toArray, List.set_cons_zero, List.set_cons_succ]
              refine wpAnyH_take (i := 2) (v := ?_) rfl (by kernel_rfl) (by kernel_rfl) (by kernel_rfl) (fun _ _ _ h => h) (Or.inl ⟨by kernel_rfl, ?_⟩) hHeld ?_
              rotate_left
              · intro w hSw
                (try dsimp only at hSw)
                obtain ⟨hS0, hS1⟩ := hSw
                go_simp
                (try with_reducible rfl)
              change wpAnyH _ _ _ _ _ _ _ (Act.put _ (some 30) _) _
              simp only [Act.put, List.setIfInBounds_toArray, List.set_cons_zero, List.set_cons_succ]
              refine wpAnyH_take (i := 3) (v := ?_) rfl (by kernel_rfl) (by kernel_rfl) (by kernel_rfl) (fun _ _ _ h => h) (Or.inl ⟨by kernel_rfl, ?_⟩) hHeld ?_
              rotate_left
              · intro w hSw
                (try dsimp only at hSw)
                obtain ⟨hS0, hS1⟩ := hSw
                go_simp
                (try with_reducible rfl)
              change wpAnyH _ _ _ _ _ _ _ (Act.put _ (some 31) _) _
              simp only [Act.put, List.setIfInBounds_toArray, List.set_cons_zero, List.set_cons_succ]
              refine wpAnyH_take (i := 4) (v := ?_) rfl (by kernel_rfl) (by kernel_rfl) (by kernel_rfl) (fun _ _ _ h => h) (Or.inl ⟨by kernel_rfl, ?_⟩) hHeld ?_
              rotate_left
              · intro w hSw
                (try dsimp only at hSw)
                obtain ⟨hS0, hS1⟩ := hSw
                go_simp
                (try with_reducible rfl)
              change wpAnyH _ _ _ _ _ _ _ (Act.put _ (some 32) _) _
              simp only [Act.put, List.setIfInBounds_toArray, List.set_cons_zero, List.set_cons_succ]
              refine wpAnyH_take (i := 5) (v := ?_) rfl (by kernel_rfl) (by kernel_rfl) (by kernel_rfl) (fun _ _ _ h => h) (Or.inl ⟨by kernel_rfl, ?_⟩) hHeld ?_
              rotate_left
              · intro w hSw
                (try dsimp only at hSw)
                obtain ⟨hS0, hS1⟩ := hSw
                go_simp
                (try with_reducible rfl)
              change wpAnyH _ _ _ _ _ _ _ (Act.put _ (some 33) _) _
              simp only [Act.put, List.setIfInBounds_toArray, List.set_cons_zero, List.set_cons_succ]
              refine wpAnyH_take (i := 6) (v := ?_) rfl (by kernel_rfl) (by kernel_rfl) (by kernel_rfl) (fun _ _ _ h => h) (Or.inl ⟨by kernel_rfl, ?_⟩) hHeld ?_
              rotate_left
              · intro w hSw
                (try dsimp only at hSw)
                obtain ⟨hS0, hS1⟩ := hSw
                go_simp
                (try with_reducible rfl)
              change wpAnyH _ _ _ _ _ _ _ (Act.put _ (some 34) _) _
              simp only [Act.put, List.setIfInBounds_toArray, List.set_cons_zero, List.set_cons_succ]
              refine wpAnyH_take (i := 7) (v := ?_) rfl (by kernel_rfl) (by kernel_rfl) (by kernel_rfl) (fun _ _ _ h => h) (Or.inl ⟨by kernel_rfl, ?_⟩) hHeld ?_
              rotate_left
              · intro w hSw
                (try dsimp only at hSw)
                obtain ⟨hS0, hS1⟩ := hSw
                go_simp
                (try with_reducible rfl)
              change wpAnyH _ _ _ _ _ _ _ (Act.put _ (some 35) _) _
              simp only [Act.put, List.setIfInBounds_toArray, List.set_cons_zero, List.set_cons_succ]
              refine wpAnyH_take (i := 8) (v := ?_) rfl (by kernel_rfl) (by kernel_rfl) (by kernel_rfl) (fun _ _ _ h => h) (Or.inl ⟨by kernel_rfl, ?_⟩) hHeld ?_
              rotate_left
              · intro w hSw
                (try dsimp only at hSw)
                obtain ⟨hS0, hS1⟩ := hSw
                go_simp
                (try with_reducible rfl)
              change wpAnyH _ _ _ _ _ _ _ (Act.put _ (some 36) _) _
              simp only [Act.put, List.setIfInBounds_toArray, List.set_cons_zero, List.set_cons_succ]
              refine wpAnyH_take (i := 9) (v := ?_) rfl (by kernel_rfl) (by kernel_rfl) (by kernel_rfl) (fun _ _ _ h => h) (Or.inl ⟨by kernel_rfl, ?_⟩) hHeld ?_
              rotate_left
              · intro w hSw
                (try dsimp only at hSw)
                obtain ⟨hS0, hS1⟩ := hSw
                go_simp
                (try with_reducible rfl)
              change wpAnyH _ _ _ _ _ _ _ (Act.put _ (some 37) _) _
              simp only [Act.put, List.setIfInBounds_toArray, List.set_cons_zero, List.set_cons_succ]
              refine wpAnyH_take (i := 10) (v := ?_) rfl (by kernel_rfl) (by kernel_rfl) (by kernel_rfl) (fun _ _ _ h => h) (Or.inl ⟨by kernel_rfl, ?_⟩) hHeld ?_
              rotate_left
              · intro w hSw
                (try dsimp only at hSw)
                obtain ⟨hS0, hS1⟩ := hSw
                go_simp
                (try with_reducible rfl)
              change wpAnyH _ _ _ _ _ _ _ (Act.put _ (some 38) _) _
              simp only [Act.put, List.setIfInBounds_toArray, List.set_cons_zero, List.set_cons_succ]
              refine wpAnyH_take (i := 11) (v := ?_) rfl (by kernel_rfl) (by kernel_rfl) (by kernel_rfl) (fun _ _ _ h => h) (Or.inl ⟨by kernel_rfl, ?_⟩) hHeld ?_
              rotate_left
              · intro w hSw
                (try dsimp only at hSw)
                obtain ⟨hS0, hS1⟩ := hSw
                go_simp
                (try with_reducible rfl)
              change wpAnyH _ _ _ _ _ _ _ (Act.put _ (some 39) _) _
              simp only [Act.put, List.setIfInBounds_toArray, List.set_cons_zero, List.set_cons_succ]
              refine wpAnyH_take (i := 12) (v := ?_) rfl (by kernel_rfl) (by kernel_rfl) (by kernel_rfl) (fun _ _ _ h => h) (Or.inl ⟨by kernel_rfl, ?_⟩) hHeld ?_
              rotate_left
              · intro w hSw
                (try dsimp only at hSw)
                obtain ⟨hS0, hS1⟩ := hSw
                go_simp
                (try with_reducible rfl)
              change wpAnyH _ _ _ _ _ _ _ (Act.put _ (some 40) _) _
              simp only [Act.put, List.setIfInBounds_toArray, List.set_cons_zero, List.set_cons_succ]
              refine wpAnyH_take (i := 13) (v := ?_) rfl (by kernel_rfl) (by kernel_rfl) (by kernel_rfl) (fun _ _ _ h => h) (Or.inl ⟨by kernel_rfl, ?_⟩) hHeld ?_
              rotate_left
              · intro w hSw
                (try dsimp only at hSw)
                obtain ⟨hS0, hS1⟩ := hSw
                go_simp
                (try with_reducible rfl)
              change wpAnyH _ _ _ _ _ _ _ (Act.put _ (some 27) _) _
              simp only [Act.put, List.setIfInBounds_toArray, List.set_cons_zero, List.set_cons_succ]
              refine wpAnyH_done (by kernel_rfl) ?_ _
              by_cases he : who.toList = []
              · go_wp2_with fail
                go_roundw
                case rel => exact ⟨m + 1 + 1, D, by omega, by go_num, HF2, hD3.mono (by omega), hG3⟩
                case measure => first | (simp [intOf]; done) | (simp [intOf]; omega)
              · have he2 : who.toList.isEmpty = false := by cases hh : who.toList with | nil => exact absurd hh he | cons a r => rfl
                clear he
                go_wp2_with (refine wpList_mapUpdate_in _ rfl _ _ _ 127 rfl 9 4 strK Tryz.underlying127 (plainElem Tryz.prog 4) w.heap.size (m + 1) D rfl hD3 (by unfold maxLen; omega) (.string who) (.bool true) _ rfl rfl (str_key who (by omega)) _ _ (plainElem_bool Tryz.underlying4 true) ?_; intro w5 hD5 hturn)
                have hG5 : w.grownBy w5 none := gr_grown hG3 hturn.grown (fun g e => by injection e with e; exact .inr (by omega))
                go_wp2_with fail
                go_roundw
                case rel => exact ⟨m + 1 + 1, _, by omega, by go_num, HF2, hD5, hG5⟩
                case measure => first | (simp [intOf]; done) | (simp [intOf]; omega)
      · have HE := Lib.hid (HN.out.trans (scanS_mom me))
        clear hprev me
        go_wp2_with fail
        generalize wr.alloc (.cells #[.int .i64 x, .string who] 89) = W2 at *
        obtain ⟨b0, b1⟩ := hB.cells2
        refine (isMoment_any _ _).mono ?_
        rintro _ _ ⟨rfl, rfl⟩
        rw [ms]
        go_wp2_with fail
        go_ret
        exact ⟨ret_of HE.out.symm, hG2⟩
    · have hkl : ¬ (k : Int) < (l.length : Int) := by omega
      have HE : Hid (scanS none l = 0) := by
        show _ = _
        rw [HR.out, List.drop_eq_nil_of_le (by omega)]
        rfl
      have hsz := hD.size_le
      have hsz2 : ¬ (50 : Int) < (Maps.size D : Int) := by omega
      go_wp2_with (at_len; refine wpList_len_own _ rfl _ 127 rfl 9 4 Tryz.underlying127 (plainElem Tryz.prog 4) w.heap.size k D rfl hD ?_)
      go_ret
      exact ⟨ret_of HE.out.symm, hgr⟩
end Go.Proofs.YtnapbnkbchaanaaGreatDoor
