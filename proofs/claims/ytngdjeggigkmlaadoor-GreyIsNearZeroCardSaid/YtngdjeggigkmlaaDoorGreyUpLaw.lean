/- The law GreyIsNearZero: the walk over it. Condition: asciiSpace is Go's own table, MaxLen holds a number. -/
import Derived.Test.YtngdjeggigkmlaaDoorGreyE
import Derived.Test.YtngdjeggigkmlaaDoorGreyUpPlain
import Derived.Test.YtngdjeggigkmlaaDoorRightSite
import Derived.Test.YtngdjeggigkmlaaDoorReady
import Derived.Test.YtngdjeggigkmlaaDoorStart
import Derived.Deep.RegionHeld3
namespace Go.Proofs.YtngdjeggigkmlaaDoor
open Go.RowKit
set_option linter.unusedVariables false
set_option linter.unusedSimpArgs false

theorem grey_call {n e : Int} (h : siteE n e = 0) {x v : Int} (h0 : 0 ≤ x) (h1 : x ≤ 345686399999) (v0 : 0 ≤ v) (v1 : v ≤ 200000) (w : World) :
    Calls Tryd.prog 22 #[.agg #[.int .i64 n, .int .i64 e], .int .i64 x, .int .i64 v] w fun r w' => r = .returned (.tuple #[.bool (grey1 n e v x), .int .i64 0]) ∧ w.grownBy w' none := by
  have hm : sunE n e x = 0 := by
    rw [sunE_ok h]
    exact spanE_no h0 h1
  have hE : greyE n e x v = 0 := by rw [greyE_ok hm]; exact spanE_no v0 v1
  have hc := greyE_any n e x v w
  rw [hE] at hc
  exact hc

set_option maxRecDepth 100000 in
set_option maxHeartbeats 8000000 in
theorem greyUpLaw (A : Option Addr) (n c : Nat) (w : World) (hin : In w A n) (hgl : Gl w.heap.size w) :
    Calls Tryd.prog 6 #[.slice A n c] w fun r w' => r = .returned (.bool true) ∧ Below w.heap.size w w' := by
  have hs0 := Str.start (c := c) hin
  have HGL := Lib.hid hgl
  clear hin hgl
  go_enter Tryd.func6, Tryd.ntmps6
  go_wp2_with fail
  have hG0 := World.grownBy_alloc w (.cells #[.slice A n c, .int .i64 0] 25) none
  have hlt0 := hs0.lt
  generalize w.alloc (.cells #[.slice A n c, .int .i64 0] 25) = W0 at *
  generalize hb : w.heap.size = b at *
  have HB := Lib.hid hb
  clear hb
  refine (rightSite_in b 0 _ hs0 (by decide)).mono ?_
  rintro _ w1 ⟨n1, e1, rfl, hE1, hs1, hg1⟩
  have hG1 : w.grownBy w1 none := gr_grown hG0 hg1 (fun g e => by injection e with e; exact .inr (by have := HB.out; omega))
  clear hs0 hG0 hg1 hlt0
  have HE1 := Lib.hid hE1
  clear hE1
  go_wp2_with fail
  refine (skyTime_in b _ _ hs1 (by decide)).mono ?_
  rintro _ w2 ⟨a, ha0, ha1, rfl, hs2, hg2⟩
  have hG2 : w.grownBy w2 none := gr_grown hG1 hg2 (fun g e => by injection e with e; exact .inr (by have := HB.out; omega))
  clear hs1 hG1 hg2
  go_wp2_with fail
  refine (pick_at b _ _ 2 2 [50000, 150000] _ hs2 (by simp) (by omega) rfl (by decide) (by decide)).mono ?_
  rintro _ w3 ⟨v, hv, rfl, hs3, hg3⟩
  have hvb : 0 ≤ v ∧ v ≤ 200000 := by simp at hv; omega
  obtain ⟨v0, v1⟩ := hvb
  have hG3 : w.grownBy w3 none := gr_grown hG2 hg3 (fun g e => by injection e with e; exact .inr (by have := HB.out; omega))
  clear hs2 hG2 hg3 hs3 hv
  obtain ⟨z, hz⟩ : ∃ z, a + 86400000 = z := ⟨_, rfl⟩
  have hz0 : a + 86400000 ≤ z := by omega
  have hz1 : z ≤ 69292799999 := by omega
  have r1 := siteE_rng HE1.out
  have hq : askE a z 1800000 = 0 := askE_0 (by omega) (by omega)
  have hsa : saE n1 e1 a z 1800000 = 0 := by rw [saE_ok HE1.out, hq]
  have hgt : gtE n1 e1 a z 1800000 v = 0 := by unfold gtE; rw [if_pos hsa]; exact spanE_no v0 v1
  have HGT : Hid (∀ W : World, Calls Tryd.prog 20 #[.agg #[.int .i64 n1, .int .i64 e1], .agg #[.int .i64 a, .int .i64 z], .int .i64 1800000, .int .i64 v] W fun r w' =>
      ∃ u, r = .returned (.tuple #[u, .int .i64 0]) ∧ Wins w' u (winAll (grey1 n1 e1 v) a 1800000 z) ∧ W.grownBy w' none) := fun W => by
    have := greyTimes_any n1 e1 a z 1800000 v W
    rw [hgt] at this
    exact this
  have hlb := lightI_bd (f := upB n1 e1) (a := a) (zt := z) (every := 1800000) (by omega) (by omega)
  have HLI : Hid (∀ W : World, Calls Tryd.prog 21 #[.agg #[.int .i64 n1, .int .i64 e1], .agg #[.int .i64 a, .int .i64 z], .int .i64 1800000] W fun r w' =>
      r = .returned (.tuple #[.int .i64 (lightI (upB n1 e1) a z 1800000), .int .i64 0]) ∧ W.grownBy w' none) := fun W => by
    have := light_any n1 e1 a z 1800000 W
    rw [hsa] at this
    exact this
  have HGD := Lib.hid (winAll_good (grey1 n1 e1 v) a 1800000 z (by decide))
  generalize winAll (grey1 n1 e1 v) a 1800000 z = L at *
  generalize lightI (upB n1 e1) a z 1800000 = li at *
  obtain ⟨l0, l1⟩ := hlb
  have l2 : li ≤ 86400000 := by omega
  have HZ := Lib.hid hz
  clear r1 hq hsa hgt l1
  go_wp2_with fail
  have hx : Blk ((w3.alloc (.cells #[.int .i64 n1, .int .i64 e1] 27)).alloc (.cells #[.int .i64 a, .int .i64 z] 52)) w3.heap.size 27 #[.int .i64 n1, .int .i64 e1] := (Blk.new w3 _ _).alloc _
  have hy := Blk.new (w3.alloc (.cells #[.int .i64 n1, .int .i64 e1] 27)) 52 #[.int .i64 a, .int .i64 z]
  rw [World.size_alloc] at hy
  replace hG3 := gr_alloc (gr_alloc hG3 (.cells #[.int .i64 n1, .int .i64 e1] 27)) (.cells #[.int .i64 a, .int .i64 z] 52)
  generalize (w3.alloc (.cells #[.int .i64 n1, .int .i64 e1] 27)).alloc (.cells #[.int .i64 a, .int .i64 z] 52) = W3 at *
  generalize w3.heap.size = X at *
  refine (HGT.out _).mono ?_
  rintro _ w4 ⟨u, rfl, hu, hg⟩
  replace hx := hx.grown hg (by simp)
  replace hy := hy.grown hg (by simp)
  replace hG3 := gr_trans hG3 hg
  clear hg
  obtain ⟨x0, x1⟩ := hx.cells2
  obtain ⟨y0, y1⟩ := hy.cells2
  obtain ⟨A2, c2, rfl, hlen2, hA2⟩ := WinsFrom.shape hu
  have HU := Lib.hid hu
  have HA2 := Lib.hid hA2
  clear hu hA2
  go_wp2_with fail
  refine (HLI.out _).mono ?_
  rintro _ w5 ⟨rfl, hg⟩
  replace hx := hx.grown hg (by simp)
  replace hy := hy.grown hg (by simp)
  replace hG3 := gr_trans hG3 hg
  replace HU := Lib.hid (HU.out.grown hg)
  clear hg x0 x1 y0 y1
  obtain ⟨x0, x1⟩ := hx.cells2
  obtain ⟨y0, y1⟩ := hy.cells2
  have hl9 : ¬ li < 0 := by omega
  have hl8 : ¬ 86400000 < li := by omega
  go_wp2_with fail
  go_loopw [61] (fun i wr => ∃ k : Nat, k ≤ L.length ∧ i = .int .i64 k ∧ w5.grownBy wr none) (fun i _ => L.length - (intOf i).toNat)
  case atStart => exact ⟨0, by omega, rfl, gr_refl _ _⟩
  case round =>
    obtain ⟨k, hk, rfl, hgr⟩ := hrel
    have hxr := hx.grown hgr (by simp)
    have hyr := hy.grown hgr (by simp)
    have hGr := gr_trans hG3 hgr
    clear x0 x1 y0 y1
    by_cases hlt : k < L.length
    · obtain ⟨g, rfl, hg0, _⟩ := HA2.out (by omega)
      have HUr := Lib.hid (HU.out.grown hgr)
      obtain ⟨q1, q2⟩ := HUr.out.at1 k hlt
      have hgd := HGD.out.each _ (List.getElem_mem hlt)
      have hst := fun m (hm : m + 1 = k) => HGD.out.step m (by omega)
      obtain ⟨x, hxx⟩ : ∃ x, L[k].1 = x := ⟨_, rfl⟩
      obtain ⟨y, hyy⟩ : ∃ y, L[k].2 = y := ⟨_, rfl⟩
      have HST : Hid (∀ m, (hm : m + 1 = k) → (L[m]'(by omega)).2 < x) := fun m hm => by
        subst hm
        rw [← hxx]
        exact hst m rfl
      rw [hxx] at q1 hgd
      rw [hyy] at q2 hgd
      obtain ⟨d0, d1, d2, d3, d4⟩ := hgd
      have HD1 := Lib.hid d1
      have HD4 := Lib.hid d4
      have hkl : (k : Int) < (L.length : Int) := by omega
      have hnx : ¬ y ≤ x := by omega
      have hnxd : decide (y ≤ x) = false := by simpa using hnx
      clear d1 d4 hst hxx hyy
      obtain ⟨x0, x1⟩ := hxr.cells2
      obtain ⟨y0, y1⟩ := hyr.cells2
      have hXl := hxr.lt
      have hYl := hyr.lt
      have hglt : g < wr.heap.size := World.block_lt_of_cell? wr _ q1
      have hB := Blk.new wr 52 #[.int .i64 x, .int .i64 y]
      have hG4 := gr_alloc hgr (.cells #[.int .i64 x, .int .i64 y] 52)
      go_wp2_with fail
      refine (grey_call HE1.out (by omega) (by omega) v0 v1 _).mono ?_
      rintro _ w6 ⟨rfl, hg⟩
      rw [HD1.out]
      replace hB := hB.grown hg (by simp)
      have hG6 : w5.grownBy w6 none := gr_trans hG4 hg
      have hx6 := hx.grown hG6 (by simp)
      have hy6 := hy.grown hG6 (by simp)
      have hpre : k = 0 ∨ ∃ m pv, k = m + 1 ∧ w6.cell? ⟨g, m * 2 + 1, none⟩ = some (.int .i64 pv) ∧ ¬ x ≤ pv := by
        cases k with
        | zero => exact .inl rfl
        | succ m =>
          refine .inr ⟨m, (L[m]'(by omega)).2, rfl, ((HU.out.grown hG6).at1 m (by omega)).2, ?_⟩
          have := HST.out m rfl
          omega
      clear x0 x1 y0 y1 q1 q2 hG4 hg hxr hyr
      obtain ⟨b0, b1⟩ := hB.cells2
      obtain ⟨x0, x1⟩ := hx6.cells2
      obtain ⟨y0, y1⟩ := hy6.cells2
      rcases hpre with rfl | ⟨m, pv, rfl, hpv, hpx⟩
      · skip
        by_cases hyz : y < z
        · have hb2 := HD4.out hyz
          have HB2 := Lib.hid hb2
          clear hb2
          go_wp2_with fail
          refine wp_region_held_drew (S := fun W' => W'.cell? ⟨wr.heap.size, 0, none⟩ = some (.int .i64 x) ∧ W'.cell? ⟨wr.heap.size, 1, none⟩ = some (.int .i64 y)) (by kernel_rfl) ⟨b0, b1⟩ (fun hHeld => ?_)
          refine wpAnyH_take (i := 0) (v := ?_) rfl (by kernel_rfl) (by kernel_rfl) (by kernel_rfl) (fun _ _ _ h => h) (Or.inl ⟨by kernel_rfl, ?_⟩) hHeld ?_
          rotate_left
          · intro w hSw
            (try dsimp only at hSw)
            obtain ⟨hS0, hS1⟩ := hSw
            go_simp
            (try with_reducible rfl)
          change wpAnyH _ _ _ _ _ _ _ (Act.put _ (some 74) _) _
          simp only [Act.put, List.setIfInBounds_toArray, List.set_cons_zero, List.set_cons_succ]
          refine wpAnyH_take (i := 1) (v := ?_) rfl (by kernel_rfl) (by kernel_rfl) (by kernel_rfl) (fun _ _ _ h => h) (Or.inl ⟨by kernel_rfl, ?_⟩) hHeld ?_
          rotate_left
          · intro w hSw
            (try dsimp only at hSw)
            obtain ⟨hS0, hS1⟩ := hSw
            go_simp
            (try with_reducible rfl)
          change wpAnyH _ _ _ _ _ _ _ (Act.put _ (some 75) _) _
          simp only [Act.put, List.setIfInBounds_toArray, List.set_cons_zero, List.set_cons_succ]
          refine wpAnyH_take (i := 2) (v := ?_) rfl (by kernel_rfl) (by kernel_rfl) (by kernel_rfl) (fun _ _ _ h => h) (Or.inl ⟨by kernel_rfl, ?_⟩) hHeld ?_
          rotate_left
          · intro w hSw
            (try dsimp only at hSw)
            obtain ⟨hS0, hS1⟩ := hSw
            go_simp
            (try with_reducible rfl)
          change wpAnyH _ _ _ _ _ _ _ (Act.put _ (some 76) _) _
          simp only [Act.put, List.setIfInBounds_toArray, List.set_cons_zero, List.set_cons_succ]
          refine wpAnyH_take (i := 3) (v := ?_) rfl (by kernel_rfl) (by kernel_rfl) (by kernel_rfl) (fun _ _ _ h => h) (Or.inl ⟨by kernel_rfl, ?_⟩) hHeld ?_
          rotate_left
          · intro w hSw
            (try dsimp only at hSw)
            obtain ⟨hS0, hS1⟩ := hSw
            go_simp
            (try with_reducible rfl)
          change wpAnyH _ _ _ _ _ _ _ (Act.put _ (some 77) _) _
          simp only [Act.put, List.setIfInBounds_toArray, List.set_cons_zero, List.set_cons_succ]
          refine wpAnyH_take (i := 4) (v := ?_) rfl (by kernel_rfl) (by kernel_rfl) (by kernel_rfl) (fun _ _ _ h => h) (Or.inl ⟨by kernel_rfl, ?_⟩) hHeld ?_
          rotate_left
          · intro w hSw
            (try dsimp only at hSw)
            obtain ⟨hS0, hS1⟩ := hSw
            go_simp
            (try with_reducible rfl)
          change wpAnyH _ _ _ _ _ _ _ (Act.put _ (some 78) _) _
          simp only [Act.put, List.setIfInBounds_toArray, List.set_cons_zero, List.set_cons_succ]
          refine wpAnyH_take (i := 5) (v := ?_) rfl (by kernel_rfl) (by kernel_rfl) (by kernel_rfl) (fun _ _ _ h => h) (Or.inl ⟨by kernel_rfl, ?_⟩) hHeld ?_
          rotate_left
          · intro w hSw
            (try dsimp only at hSw)
            obtain ⟨hS0, hS1⟩ := hSw
            go_simp
            (try with_reducible rfl)
          change wpAnyH _ _ _ _ _ _ _ (Act.put _ (some 79) _) _
          simp only [Act.put, List.setIfInBounds_toArray, List.set_cons_zero, List.set_cons_succ]
          refine wpAnyH_take (i := 6) (v := ?_) rfl (by kernel_rfl) (by kernel_rfl) (by kernel_rfl) (fun _ _ _ h => h) (Or.inl ⟨by kernel_rfl, ?_⟩) hHeld ?_
          rotate_left
          · intro w hSw
            (try dsimp only at hSw)
            obtain ⟨hS0, hS1⟩ := hSw
            go_simp
            (try with_reducible rfl)
          change wpAnyH _ _ _ _ _ _ _ (Act.put _ (some 80) _) _
          simp only [Act.put, List.setIfInBounds_toArray, List.set_cons_zero, List.set_cons_succ]
          refine wpAnyH_take (i := 7) (v := ?_) rfl (by kernel_rfl) (by kernel_rfl) (by kernel_rfl) (fun _ _ _ h => h) (Or.inl ⟨by kernel_rfl, ?_⟩) hHeld ?_
          rotate_left
          · intro w hSw
            (try dsimp only at hSw)
            obtain ⟨hS0, hS1⟩ := hSw
            go_simp
            (try with_reducible rfl)
          change wpAnyH _ _ _ _ _ _ _ (Act.put _ (some 81) _) _
          simp only [Act.put, List.setIfInBounds_toArray, List.set_cons_zero, List.set_cons_succ]
          refine wpAnyH_take (i := 8) (v := ?_) rfl (by kernel_rfl) (by kernel_rfl) (by kernel_rfl) (fun _ _ _ h => h) (Or.inl ⟨by kernel_rfl, ?_⟩) hHeld ?_
          rotate_left
          · intro w hSw
            (try dsimp only at hSw)
            obtain ⟨hS0, hS1⟩ := hSw
            go_simp
            (try with_reducible rfl)
          change wpAnyH _ _ _ _ _ _ _ (Act.put _ (some 82) _) _
          simp only [Act.put, List.setIfInBounds_toArray, List.set_cons_zero, List.set_cons_succ]
          refine wpAnyH_take (i := 9) (v := ?_) rfl (by kernel_rfl) (by kernel_rfl) (by kernel_rfl) (fun _ _ _ h => h) (Or.inl ⟨by kernel_rfl, ?_⟩) hHeld ?_
          rotate_left
          · intro w hSw
            (try dsimp only at hSw)
            obtain ⟨hS0, hS1⟩ := hSw
            go_simp
            (try with_reducible rfl)
          change wpAnyH _ _ _ _ _ _ _ (Act.put _ (some 83) _) _
          simp only [Act.put, List.setIfInBounds_toArray, List.set_cons_zero, List.set_cons_succ]
          refine wpAnyH_take (i := 10) (v := ?_) rfl (by kernel_rfl) (by kernel_rfl) (by kernel_rfl) (fun _ _ _ h => h) (Or.inl ⟨by kernel_rfl, ?_⟩) hHeld ?_
          rotate_left
          · intro w hSw
            (try dsimp only at hSw)
            obtain ⟨hS0, hS1⟩ := hSw
            go_simp
            (try with_reducible rfl)
          change wpAnyH _ _ _ _ _ _ _ (Act.put _ (some 84) _) _
          simp only [Act.put, List.setIfInBounds_toArray, List.set_cons_zero, List.set_cons_succ]
          refine wpAnyH_take (i := 11) (v := ?_) rfl (by kernel_rfl) (by kernel_rfl) (by kernel_rfl) (fun _ _ _ h => h) (Or.inl ⟨by kernel_rfl, ?_⟩) hHeld ?_
          rotate_left
          · intro w hSw
            (try dsimp only at hSw)
            obtain ⟨hS0, hS1⟩ := hSw
            go_simp
            (try with_reducible rfl)
          change wpAnyH _ _ _ _ _ _ _ (Act.put _ (some 85) _) _
          simp only [Act.put, List.setIfInBounds_toArray, List.set_cons_zero, List.set_cons_succ]
          refine wpAnyH_take (i := 12) (v := ?_) rfl (by kernel_rfl) (by kernel_rfl) (by kernel_rfl) (fun _ _ _ h => h) (Or.inl ⟨by kernel_rfl, ?_⟩) hHeld ?_
          rotate_left
          · intro w hSw
            (try dsimp only at hSw)
            obtain ⟨hS0, hS1⟩ := hSw
            go_simp
            (try with_reducible rfl)
          change wpAnyH _ _ _ _ _ _ _ (Act.put _ (some 86) _) _
          simp only [Act.put, List.setIfInBounds_toArray, List.set_cons_zero, List.set_cons_succ]
          refine wpAnyH_take (i := 13) (v := ?_) rfl (by kernel_rfl) (by kernel_rfl) (by kernel_rfl) (fun _ _ _ h => h) (Or.inl ⟨by kernel_rfl, ?_⟩) hHeld ?_
          rotate_left
          · intro w hSw
            (try dsimp only at hSw)
            obtain ⟨hS0, hS1⟩ := hSw
            go_simp
            (try with_reducible rfl)
          change wpAnyH _ _ _ _ _ _ _ (Act.put _ (some 87) _) _
          simp only [Act.put, List.setIfInBounds_toArray, List.set_cons_zero, List.set_cons_succ]
          refine wpAnyH_take (i := 14) (v := ?_) rfl (by kernel_rfl) (by kernel_rfl) (by kernel_rfl) (fun _ _ _ h => h) (Or.inl ⟨by kernel_rfl, ?_⟩) hHeld ?_
          rotate_left
          · intro w hSw
            (try dsimp only at hSw)
            obtain ⟨hS0, hS1⟩ := hSw
            go_simp
            (try with_reducible rfl)
          change wpAnyH _ _ _ _ _ _ _ (Act.put _ (some 88) _) _
          simp only [Act.put, List.setIfInBounds_toArray, List.set_cons_zero, List.set_cons_succ]
          refine wpAnyH_take (i := 15) (v := ?_) rfl (by kernel_rfl) (by kernel_rfl) (by kernel_rfl) (fun _ _ _ h => h) (Or.inl ⟨by kernel_rfl, ?_⟩) hHeld ?_
          rotate_left
          · intro w hSw
            (try dsimp only at hSw)
            obtain ⟨hS0, hS1⟩ := hSw
            go_simp
            (try with_reducible rfl)
          change wpAnyH _ _ _ _ _ _ _ (Act.put _ (some 89) _) _
          simp only [Act.put, List.setIfInBounds_toArray, List.set_cons_zero, List.set_cons_succ]
          refine wpAnyH_take (i := 16) (v := ?_) rfl (by kernel_rfl) (by kernel_rfl) (by kernel_rfl) (fun _ _ _ h => h) (Or.inl ⟨by kernel_rfl, ?_⟩) hHeld ?_
          rotate_left
          · intro w hSw
            (try dsimp only at hSw)
            obtain ⟨hS0, hS1⟩ := hSw
            go_simp
            (try with_reducible rfl)
          change wpAnyH _ _ _ _ _ _ _ (Act.put _ (some 90) _) _
          simp only [Act.put, List.setIfInBounds_toArray, List.set_cons_zero, List.set_cons_succ]
          refine wpAnyH_take (i := 17) (v := undef) rfl (by kernel_rfl) (by kernel_rfl) (by kernel_rfl) (fun _ _ _ h => h) (Or.inr ⟨by kernel_rfl, rfl⟩) hHeld ?_
          change wpAnyH _ _ _ _ _ _ _ (Act.put _ (some 91) _) _
          simp only [Act.put, List.setIfInBounds_toArray, List.set_cons_zero, List.set_cons_succ]
          refine wpAnyH_take (i := 18) (v := undef) rfl (by kernel_rfl) (by kernel_rfl) (by kernel_rfl) (fun _ _ _ h => h) (Or.inr ⟨by kernel_rfl, rfl⟩) hHeld ?_
          change wpAnyH _ _ _ _ _ _ _ (Act.put _ (some 92) _) _
          simp only [Act.put, List.setIfInBounds_toArray, List.set_cons_zero, List.set_cons_succ]
          refine wpAnyH_take (i := 19) (v := undef) rfl (by kernel_rfl) (by kernel_rfl) (by kernel_rfl) (fun _ _ _ h => h) (Or.inr ⟨by kernel_rfl, rfl⟩) hHeld ?_
          change wpAnyH _ _ _ _ _ _ _ (Act.put _ (some 93) _) _
          simp only [Act.put, List.setIfInBounds_toArray, List.set_cons_zero, List.set_cons_succ]
          refine wpAnyH_take (i := 20) (v := undef) rfl (by kernel_rfl) (by kernel_rfl) (by kernel_rfl) (fun _ _ _ h => h) (Or.inr ⟨by kernel_rfl, rfl⟩) hHeld ?_
          change wpAnyH _ _ _ _ _ _ _ (Act.put _ (some 94) _) _
          simp only [Act.put, List.setIfInBounds_toArray, List.set_cons_zero, List.set_cons_succ]
          refine wpAnyH_take (i := 21) (v := undef) rfl (by kernel_rfl) (by kernel_rfl) (by kernel_rfl) (fun _ _ _ h => h) (Or.inr ⟨by kernel_rfl, rfl⟩) hHeld ?_
          change wpAnyH _ _ _ _ _ _ _ (Act.put _ (some 95) _) _
          simp only [Act.put, List.setIfInBounds_toArray, List.set_cons_zero, List.set_cons_succ]
          refine wpAnyH_take (i := 22) (v := undef) rfl (by kernel_rfl) (by kernel_rfl) (by kernel_rfl) (fun _ _ _ h => h) (Or.inr ⟨by kernel_rfl, rfl⟩) hHeld ?_
          change wpAnyH _ _ _ _ _ _ _ (Act.put _ (some 96) _) _
          simp only [Act.put, List.setIfInBounds_toArray, List.set_cons_zero, List.set_cons_succ]
          refine wpAnyH_take (i := 23) (v := undef) rfl (by kernel_rfl) (by kernel_rfl) (by kernel_rfl) (fun _ _ _ h => h) (Or.inr ⟨by kernel_rfl, rfl⟩) hHeld ?_
          change wpAnyH _ _ _ _ _ _ _ (Act.put _ (some 97) _) _
          simp only [Act.put, List.setIfInBounds_toArray, List.set_cons_zero, List.set_cons_succ]
          refine wpAnyH_take (i := 24) (v := undef) rfl (by kernel_rfl) (by kernel_rfl) (by kernel_rfl) (fun _ _ _ h => h) (Or.inr ⟨by kernel_rfl, rfl⟩) hHeld ?_
          change wpAnyH _ _ _ _ _ _ _ (Act.put _ (some 98) _) _
          simp only [Act.put, List.setIfInBounds_toArray, List.set_cons_zero, List.set_cons_succ]
          refine wpAnyH_take (i := 25) (v := undef) rfl (by kernel_rfl) (by kernel_rfl) (by kernel_rfl) (fun _ _ _ h => h) (Or.inr ⟨by kernel_rfl, rfl⟩) hHeld ?_
          change wpAnyH _ _ _ _ _ _ _ (Act.put _ (some 99) _) _
          simp only [Act.put, List.setIfInBounds_toArray, List.set_cons_zero, List.set_cons_succ]
          refine wpAnyH_take (i := 26) (v := ?_) rfl (by kernel_rfl) (by kernel_rfl) (by kernel_rfl) (fun _ _ _ h => h) (Or.inl ⟨by kernel_rfl, ?_⟩) hHeld ?_
          rotate_left
          · intro w hSw
            (try dsimp only at hSw)
            obtain ⟨hS0, hS1⟩ := hSw
            go_simp
            (try with_reducible rfl)
          change wpAnyH _ _ _ _ _ _ _ (Act.put _ (some 100) _) _
          simp only [Act.put, List.setIfInBounds_toArray, List.set_cons_zero, List.set_cons_succ]
          refine wpAnyH_take (i := 27) (v := ?_) rfl (by kernel_rfl) (by kernel_rfl) (by kernel_rfl) (fun _ _ _ h => h) (Or.inl ⟨by kernel_rfl, ?_⟩) hHeld ?_
          rotate_left
          · intro w hSw
            (try dsimp only at hSw)
            obtain ⟨hS0, hS1⟩ := hSw
            go_simp
            (try with_reducible rfl)
          change wpAnyH _ _ _ _ _ _ _ (Act.put _ (some 101) _) _
          simp only [Act.put, List.setIfInBounds_toArray, List.set_cons_zero, List.set_cons_succ]
          refine wpAnyH_done (by kernel_rfl) ?_ _
          have hx7 := hx6.drewN
          go_wp2_with fail
          refine (grey_call HE1.out (by omega) (by omega) v0 v1 _).mono ?_
          rintro _ w7 ⟨rfl, hg7⟩
          rw [HB2.out]
          have hG7 : w5.grownBy w7 none := gr_trans (show w5.grownBy _ none from (by repeat (first | exact gr_refl _ _ | assumption | refine gr_alloc ?_ _ | refine gr_drewN ?_ _ | refine gr_drew ?_))) hg7
          go_wp2_with fail
          go_roundw
          case rel => exact ⟨0 + 1, by omega, by go_num, hG7⟩
          case measure => simp [intOf]; omega
        · go_wp2_with fail
          refine wp_region_held_drew (S := fun W' => W'.cell? ⟨wr.heap.size, 0, none⟩ = some (.int .i64 x) ∧ W'.cell? ⟨wr.heap.size, 1, none⟩ = some (.int .i64 y)) (by kernel_rfl) ⟨b0, b1⟩ (fun hHeld => ?_)
          refine wpAnyH_take (i := 0) (v := ?_) rfl (by kernel_rfl) (by kernel_rfl) (by kernel_rfl) (fun _ _ _ h => h) (Or.inl ⟨by kernel_rfl, ?_⟩) hHeld ?_
          rotate_left
          · intro w hSw
            (try dsimp only at hSw)
            obtain ⟨hS0, hS1⟩ := hSw
            go_simp
            (try with_reducible rfl)
          change wpAnyH _ _ _ _ _ _ _ (Act.put _ (some 74) _) _
          simp only [Act.put, List.setIfInBounds_toArray, List.set_cons_zero, List.set_cons_succ]
          refine wpAnyH_take (i := 1) (v := ?_) rfl (by kernel_rfl) (by kernel_rfl) (by kernel_rfl) (fun _ _ _ h => h) (Or.inl ⟨by kernel_rfl, ?_⟩) hHeld ?_
          rotate_left
          · intro w hSw
            (try dsimp only at hSw)
            obtain ⟨hS0, hS1⟩ := hSw
            go_simp
            (try with_reducible rfl)
          change wpAnyH _ _ _ _ _ _ _ (Act.put _ (some 75) _) _
          simp only [Act.put, List.setIfInBounds_toArray, List.set_cons_zero, List.set_cons_succ]
          refine wpAnyH_take (i := 2) (v := ?_) rfl (by kernel_rfl) (by kernel_rfl) (by kernel_rfl) (fun _ _ _ h => h) (Or.inl ⟨by kernel_rfl, ?_⟩) hHeld ?_
          rotate_left
          · intro w hSw
            (try dsimp only at hSw)
            obtain ⟨hS0, hS1⟩ := hSw
            go_simp
            (try with_reducible rfl)
          change wpAnyH _ _ _ _ _ _ _ (Act.put _ (some 76) _) _
          simp only [Act.put, List.setIfInBounds_toArray, List.set_cons_zero, List.set_cons_succ]
          refine wpAnyH_take (i := 3) (v := ?_) rfl (by kernel_rfl) (by kernel_rfl) (by kernel_rfl) (fun _ _ _ h => h) (Or.inl ⟨by kernel_rfl, ?_⟩) hHeld ?_
          rotate_left
          · intro w hSw
            (try dsimp only at hSw)
            obtain ⟨hS0, hS1⟩ := hSw
            go_simp
            (try with_reducible rfl)
          change wpAnyH _ _ _ _ _ _ _ (Act.put _ (some 77) _) _
          simp only [Act.put, List.setIfInBounds_toArray, List.set_cons_zero, List.set_cons_succ]
          refine wpAnyH_take (i := 4) (v := ?_) rfl (by kernel_rfl) (by kernel_rfl) (by kernel_rfl) (fun _ _ _ h => h) (Or.inl ⟨by kernel_rfl, ?_⟩) hHeld ?_
          rotate_left
          · intro w hSw
            (try dsimp only at hSw)
            obtain ⟨hS0, hS1⟩ := hSw
            go_simp
            (try with_reducible rfl)
          change wpAnyH _ _ _ _ _ _ _ (Act.put _ (some 78) _) _
          simp only [Act.put, List.setIfInBounds_toArray, List.set_cons_zero, List.set_cons_succ]
          refine wpAnyH_take (i := 5) (v := ?_) rfl (by kernel_rfl) (by kernel_rfl) (by kernel_rfl) (fun _ _ _ h => h) (Or.inl ⟨by kernel_rfl, ?_⟩) hHeld ?_
          rotate_left
          · intro w hSw
            (try dsimp only at hSw)
            obtain ⟨hS0, hS1⟩ := hSw
            go_simp
            (try with_reducible rfl)
          change wpAnyH _ _ _ _ _ _ _ (Act.put _ (some 79) _) _
          simp only [Act.put, List.setIfInBounds_toArray, List.set_cons_zero, List.set_cons_succ]
          refine wpAnyH_take (i := 6) (v := ?_) rfl (by kernel_rfl) (by kernel_rfl) (by kernel_rfl) (fun _ _ _ h => h) (Or.inl ⟨by kernel_rfl, ?_⟩) hHeld ?_
          rotate_left
          · intro w hSw
            (try dsimp only at hSw)
            obtain ⟨hS0, hS1⟩ := hSw
            go_simp
            (try with_reducible rfl)
          change wpAnyH _ _ _ _ _ _ _ (Act.put _ (some 80) _) _
          simp only [Act.put, List.setIfInBounds_toArray, List.set_cons_zero, List.set_cons_succ]
          refine wpAnyH_take (i := 7) (v := ?_) rfl (by kernel_rfl) (by kernel_rfl) (by kernel_rfl) (fun _ _ _ h => h) (Or.inl ⟨by kernel_rfl, ?_⟩) hHeld ?_
          rotate_left
          · intro w hSw
            (try dsimp only at hSw)
            obtain ⟨hS0, hS1⟩ := hSw
            go_simp
            (try with_reducible rfl)
          change wpAnyH _ _ _ _ _ _ _ (Act.put _ (some 81) _) _
          simp only [Act.put, List.setIfInBounds_toArray, List.set_cons_zero, List.set_cons_succ]
          refine wpAnyH_take (i := 8) (v := ?_) rfl (by kernel_rfl) (by kernel_rfl) (by kernel_rfl) (fun _ _ _ h => h) (Or.inl ⟨by kernel_rfl, ?_⟩) hHeld ?_
          rotate_left
          · intro w hSw
            (try dsimp only at hSw)
            obtain ⟨hS0, hS1⟩ := hSw
            go_simp
            (try with_reducible rfl)
          change wpAnyH _ _ _ _ _ _ _ (Act.put _ (some 82) _) _
          simp only [Act.put, List.setIfInBounds_toArray, List.set_cons_zero, List.set_cons_succ]
          refine wpAnyH_take (i := 9) (v := ?_) rfl (by kernel_rfl) (by kernel_rfl) (by kernel_rfl) (fun _ _ _ h => h) (Or.inl ⟨by kernel_rfl, ?_⟩) hHeld ?_
          rotate_left
          · intro w hSw
            (try dsimp only at hSw)
            obtain ⟨hS0, hS1⟩ := hSw
            go_simp
            (try with_reducible rfl)
          change wpAnyH _ _ _ _ _ _ _ (Act.put _ (some 83) _) _
          simp only [Act.put, List.setIfInBounds_toArray, List.set_cons_zero, List.set_cons_succ]
          refine wpAnyH_take (i := 10) (v := ?_) rfl (by kernel_rfl) (by kernel_rfl) (by kernel_rfl) (fun _ _ _ h => h) (Or.inl ⟨by kernel_rfl, ?_⟩) hHeld ?_
          rotate_left
          · intro w hSw
            (try dsimp only at hSw)
            obtain ⟨hS0, hS1⟩ := hSw
            go_simp
            (try with_reducible rfl)
          change wpAnyH _ _ _ _ _ _ _ (Act.put _ (some 84) _) _
          simp only [Act.put, List.setIfInBounds_toArray, List.set_cons_zero, List.set_cons_succ]
          refine wpAnyH_take (i := 11) (v := ?_) rfl (by kernel_rfl) (by kernel_rfl) (by kernel_rfl) (fun _ _ _ h => h) (Or.inl ⟨by kernel_rfl, ?_⟩) hHeld ?_
          rotate_left
          · intro w hSw
            (try dsimp only at hSw)
            obtain ⟨hS0, hS1⟩ := hSw
            go_simp
            (try with_reducible rfl)
          change wpAnyH _ _ _ _ _ _ _ (Act.put _ (some 85) _) _
          simp only [Act.put, List.setIfInBounds_toArray, List.set_cons_zero, List.set_cons_succ]
          refine wpAnyH_take (i := 12) (v := ?_) rfl (by kernel_rfl) (by kernel_rfl) (by kernel_rfl) (fun _ _ _ h => h) (Or.inl ⟨by kernel_rfl, ?_⟩) hHeld ?_
          rotate_left
          · intro w hSw
            (try dsimp only at hSw)
            obtain ⟨hS0, hS1⟩ := hSw
            go_simp
            (try with_reducible rfl)
          change wpAnyH _ _ _ _ _ _ _ (Act.put _ (some 86) _) _
          simp only [Act.put, List.setIfInBounds_toArray, List.set_cons_zero, List.set_cons_succ]
          refine wpAnyH_take (i := 13) (v := ?_) rfl (by kernel_rfl) (by kernel_rfl) (by kernel_rfl) (fun _ _ _ h => h) (Or.inl ⟨by kernel_rfl, ?_⟩) hHeld ?_
          rotate_left
          · intro w hSw
            (try dsimp only at hSw)
            obtain ⟨hS0, hS1⟩ := hSw
            go_simp
            (try with_reducible rfl)
          change wpAnyH _ _ _ _ _ _ _ (Act.put _ (some 87) _) _
          simp only [Act.put, List.setIfInBounds_toArray, List.set_cons_zero, List.set_cons_succ]
          refine wpAnyH_take (i := 14) (v := ?_) rfl (by kernel_rfl) (by kernel_rfl) (by kernel_rfl) (fun _ _ _ h => h) (Or.inl ⟨by kernel_rfl, ?_⟩) hHeld ?_
          rotate_left
          · intro w hSw
            (try dsimp only at hSw)
            obtain ⟨hS0, hS1⟩ := hSw
            go_simp
            (try with_reducible rfl)
          change wpAnyH _ _ _ _ _ _ _ (Act.put _ (some 88) _) _
          simp only [Act.put, List.setIfInBounds_toArray, List.set_cons_zero, List.set_cons_succ]
          refine wpAnyH_take (i := 15) (v := ?_) rfl (by kernel_rfl) (by kernel_rfl) (by kernel_rfl) (fun _ _ _ h => h) (Or.inl ⟨by kernel_rfl, ?_⟩) hHeld ?_
          rotate_left
          · intro w hSw
            (try dsimp only at hSw)
            obtain ⟨hS0, hS1⟩ := hSw
            go_simp
            (try with_reducible rfl)
          change wpAnyH _ _ _ _ _ _ _ (Act.put _ (some 89) _) _
          simp only [Act.put, List.setIfInBounds_toArray, List.set_cons_zero, List.set_cons_succ]
          refine wpAnyH_take (i := 16) (v := ?_) rfl (by kernel_rfl) (by kernel_rfl) (by kernel_rfl) (fun _ _ _ h => h) (Or.inl ⟨by kernel_rfl, ?_⟩) hHeld ?_
          rotate_left
          · intro w hSw
            (try dsimp only at hSw)
            obtain ⟨hS0, hS1⟩ := hSw
            go_simp
            (try with_reducible rfl)
          change wpAnyH _ _ _ _ _ _ _ (Act.put _ (some 90) _) _
          simp only [Act.put, List.setIfInBounds_toArray, List.set_cons_zero, List.set_cons_succ]
          refine wpAnyH_take (i := 17) (v := undef) rfl (by kernel_rfl) (by kernel_rfl) (by kernel_rfl) (fun _ _ _ h => h) (Or.inr ⟨by kernel_rfl, rfl⟩) hHeld ?_
          change wpAnyH _ _ _ _ _ _ _ (Act.put _ (some 91) _) _
          simp only [Act.put, List.setIfInBounds_toArray, List.set_cons_zero, List.set_cons_succ]
          refine wpAnyH_take (i := 18) (v := undef) rfl (by kernel_rfl) (by kernel_rfl) (by kernel_rfl) (fun _ _ _ h => h) (Or.inr ⟨by kernel_rfl, rfl⟩) hHeld ?_
          change wpAnyH _ _ _ _ _ _ _ (Act.put _ (some 92) _) _
          simp only [Act.put, List.setIfInBounds_toArray, List.set_cons_zero, List.set_cons_succ]
          refine wpAnyH_take (i := 19) (v := undef) rfl (by kernel_rfl) (by kernel_rfl) (by kernel_rfl) (fun _ _ _ h => h) (Or.inr ⟨by kernel_rfl, rfl⟩) hHeld ?_
          change wpAnyH _ _ _ _ _ _ _ (Act.put _ (some 93) _) _
          simp only [Act.put, List.setIfInBounds_toArray, List.set_cons_zero, List.set_cons_succ]
          refine wpAnyH_take (i := 20) (v := undef) rfl (by kernel_rfl) (by kernel_rfl) (by kernel_rfl) (fun _ _ _ h => h) (Or.inr ⟨by kernel_rfl, rfl⟩) hHeld ?_
          change wpAnyH _ _ _ _ _ _ _ (Act.put _ (some 94) _) _
          simp only [Act.put, List.setIfInBounds_toArray, List.set_cons_zero, List.set_cons_succ]
          refine wpAnyH_take (i := 21) (v := undef) rfl (by kernel_rfl) (by kernel_rfl) (by kernel_rfl) (fun _ _ _ h => h) (Or.inr ⟨by kernel_rfl, rfl⟩) hHeld ?_
          change wpAnyH _ _ _ _ _ _ _ (Act.put _ (some 95) _) _
          simp only [Act.put, List.setIfInBounds_toArray, List.set_cons_zero, List.set_cons_succ]
          refine wpAnyH_take (i := 22) (v := undef) rfl (by kernel_rfl) (by kernel_rfl) (by kernel_rfl) (fun _ _ _ h => h) (Or.inr ⟨by kernel_rfl, rfl⟩) hHeld ?_
          change wpAnyH _ _ _ _ _ _ _ (Act.put _ (some 96) _) _
          simp only [Act.put, List.setIfInBounds_toArray, List.set_cons_zero, List.set_cons_succ]
          refine wpAnyH_take (i := 23) (v := undef) rfl (by kernel_rfl) (by kernel_rfl) (by kernel_rfl) (fun _ _ _ h => h) (Or.inr ⟨by kernel_rfl, rfl⟩) hHeld ?_
          change wpAnyH _ _ _ _ _ _ _ (Act.put _ (some 97) _) _
          simp only [Act.put, List.setIfInBounds_toArray, List.set_cons_zero, List.set_cons_succ]
          refine wpAnyH_take (i := 24) (v := undef) rfl (by kernel_rfl) (by kernel_rfl) (by kernel_rfl) (fun _ _ _ h => h) (Or.inr ⟨by kernel_rfl, rfl⟩) hHeld ?_
          change wpAnyH _ _ _ _ _ _ _ (Act.put _ (some 98) _) _
          simp only [Act.put, List.setIfInBounds_toArray, List.set_cons_zero, List.set_cons_succ]
          refine wpAnyH_take (i := 25) (v := undef) rfl (by kernel_rfl) (by kernel_rfl) (by kernel_rfl) (fun _ _ _ h => h) (Or.inr ⟨by kernel_rfl, rfl⟩) hHeld ?_
          change wpAnyH _ _ _ _ _ _ _ (Act.put _ (some 99) _) _
          simp only [Act.put, List.setIfInBounds_toArray, List.set_cons_zero, List.set_cons_succ]
          refine wpAnyH_take (i := 26) (v := ?_) rfl (by kernel_rfl) (by kernel_rfl) (by kernel_rfl) (fun _ _ _ h => h) (Or.inl ⟨by kernel_rfl, ?_⟩) hHeld ?_
          rotate_left
          · intro w hSw
            (try dsimp only at hSw)
            obtain ⟨hS0, hS1⟩ := hSw
            go_simp
            (try with_reducible rfl)
          change wpAnyH _ _ _ _ _ _ _ (Act.put _ (some 100) _) _
          simp only [Act.put, List.setIfInBounds_toArray, List.set_cons_zero, List.set_cons_succ]
          refine wpAnyH_take (i := 27) (v := ?_) rfl (by kernel_rfl) (by kernel_rfl) (by kernel_rfl) (fun _ _ _ h => h) (Or.inl ⟨by kernel_rfl, ?_⟩) hHeld ?_
          rotate_left
          · intro w hSw
            (try dsimp only at hSw)
            obtain ⟨hS0, hS1⟩ := hSw
            go_simp
            (try with_reducible rfl)
          change wpAnyH _ _ _ _ _ _ _ (Act.put _ (some 101) _) _
          simp only [Act.put, List.setIfInBounds_toArray, List.set_cons_zero, List.set_cons_succ]
          refine wpAnyH_done (by kernel_rfl) ?_ _
          go_wp2_with fail
          go_roundw
          case rel => exact ⟨0 + 1, by omega, by go_num, (by repeat (first | exact gr_refl _ _ | assumption | refine gr_alloc ?_ _ | refine gr_drewN ?_ _ | refine gr_drew ?_))⟩
          case measure => simp [intOf]; omega
      · have hkp : (0 : Int) < ((m + 1 : Nat) : Int) := by omega
        have e1' : IntKind.i64.wrap (m : Int) = (m : Int) := i64_in _ ⟨by omega, by omega⟩
        have hpxd : decide (x ≤ pv) = false := by simpa using hpx
        have hkpd : decide ((0 : Int) < (m : Int) + 1) = true := by first | (simp; done) | (simp; omega)
        have hmL : (m : Int) < (L.length : Int) := by omega
        have hmL2 : m < L.length := by omega
        by_cases hyz : y < z
        · have hb2 := HD4.out hyz
          have HB2 := Lib.hid hb2
          clear hb2
          go_wp2_with fail
          refine wp_region_held_drew (S := fun W' => W'.cell? ⟨wr.heap.size, 0, none⟩ = some (.int .i64 x) ∧ W'.cell? ⟨wr.heap.size, 1, none⟩ = some (.int .i64 y) ∧ W'.cell? ⟨g, m * 2 + 1, none⟩ = some (.int .i64 pv)) (by kernel_rfl) ⟨b0, b1, hpv⟩ (fun hHeld => ?_)
          refine wpAnyH_take (i := 0) (v := ?_) rfl (by kernel_rfl) (by kernel_rfl) (by kernel_rfl) (fun _ _ _ h => h) (Or.inl ⟨by kernel_rfl, ?_⟩) hHeld ?_
          rotate_left
          · intro w hSw
            (try dsimp only at hSw)
            obtain ⟨hS0, hS1, hS2⟩ := hSw
            go_simp
            (try with_reducible rfl)
          change wpAnyH _ _ _ _ _ _ _ (Act.put _ (some 74) _) _
          simp only [Act.put, List.setIfInBounds_toArray, List.set_cons_zero, List.set_cons_succ]
          refine wpAnyH_take (i := 1) (v := ?_) rfl (by kernel_rfl) (by kernel_rfl) (by kernel_rfl) (fun _ _ _ h => h) (Or.inl ⟨by kernel_rfl, ?_⟩) hHeld ?_
          rotate_left
          · intro w hSw
            (try dsimp only at hSw)
            obtain ⟨hS0, hS1, hS2⟩ := hSw
            go_simp
            (try with_reducible rfl)
          change wpAnyH _ _ _ _ _ _ _ (Act.put _ (some 75) _) _
          simp only [Act.put, List.setIfInBounds_toArray, List.set_cons_zero, List.set_cons_succ]
          refine wpAnyH_take (i := 2) (v := ?_) rfl (by kernel_rfl) (by kernel_rfl) (by kernel_rfl) (fun _ _ _ h => h) (Or.inl ⟨by kernel_rfl, ?_⟩) hHeld ?_
          rotate_left
          · intro w hSw
            (try dsimp only at hSw)
            obtain ⟨hS0, hS1, hS2⟩ := hSw
            go_simp
            (try with_reducible rfl)
          change wpAnyH _ _ _ _ _ _ _ (Act.put _ (some 76) _) _
          simp only [Act.put, List.setIfInBounds_toArray, List.set_cons_zero, List.set_cons_succ]
          refine wpAnyH_take (i := 3) (v := ?_) rfl (by kernel_rfl) (by kernel_rfl) (by kernel_rfl) (fun _ _ _ h => h) (Or.inl ⟨by kernel_rfl, ?_⟩) hHeld ?_
          rotate_left
          · intro w hSw
            (try dsimp only at hSw)
            obtain ⟨hS0, hS1, hS2⟩ := hSw
            go_simp
            (try with_reducible rfl)
          change wpAnyH _ _ _ _ _ _ _ (Act.put _ (some 77) _) _
          simp only [Act.put, List.setIfInBounds_toArray, List.set_cons_zero, List.set_cons_succ]
          refine wpAnyH_take (i := 4) (v := ?_) rfl (by kernel_rfl) (by kernel_rfl) (by kernel_rfl) (fun _ _ _ h => h) (Or.inl ⟨by kernel_rfl, ?_⟩) hHeld ?_
          rotate_left
          · intro w hSw
            (try dsimp only at hSw)
            obtain ⟨hS0, hS1, hS2⟩ := hSw
            go_simp
            (try with_reducible rfl)
          change wpAnyH _ _ _ _ _ _ _ (Act.put _ (some 78) _) _
          simp only [Act.put, List.setIfInBounds_toArray, List.set_cons_zero, List.set_cons_succ]
          refine wpAnyH_take (i := 5) (v := ?_) rfl (by kernel_rfl) (by kernel_rfl) (by kernel_rfl) (fun _ _ _ h => h) (Or.inl ⟨by kernel_rfl, ?_⟩) hHeld ?_
          rotate_left
          · intro w hSw
            (try dsimp only at hSw)
            obtain ⟨hS0, hS1, hS2⟩ := hSw
            go_simp
            (try with_reducible rfl)
          change wpAnyH _ _ _ _ _ _ _ (Act.put _ (some 79) _) _
          simp only [Act.put, List.setIfInBounds_toArray, List.set_cons_zero, List.set_cons_succ]
          refine wpAnyH_take (i := 6) (v := ?_) rfl (by kernel_rfl) (by kernel_rfl) (by kernel_rfl) (fun _ _ _ h => h) (Or.inl ⟨by kernel_rfl, ?_⟩) hHeld ?_
          rotate_left
          · intro w hSw
            (try dsimp only at hSw)
            obtain ⟨hS0, hS1, hS2⟩ := hSw
            go_simp
            (try with_reducible rfl)
          change wpAnyH _ _ _ _ _ _ _ (Act.put _ (some 80) _) _
          simp only [Act.put, List.setIfInBounds_toArray, List.set_cons_zero, List.set_cons_succ]
          refine wpAnyH_take (i := 7) (v := ?_) rfl (by kernel_rfl) (by kernel_rfl) (by kernel_rfl) (fun _ _ _ h => h) (Or.inl ⟨by kernel_rfl, ?_⟩) hHeld ?_
          rotate_left
          · intro w hSw
            (try dsimp only at hSw)
            obtain ⟨hS0, hS1, hS2⟩ := hSw
            go_simp
            (try with_reducible rfl)
          change wpAnyH _ _ _ _ _ _ _ (Act.put _ (some 81) _) _
          simp only [Act.put, List.setIfInBounds_toArray, List.set_cons_zero, List.set_cons_succ]
          refine wpAnyH_take (i := 8) (v := ?_) rfl (by kernel_rfl) (by kernel_rfl) (by kernel_rfl) (fun _ _ _ h => h) (Or.inl ⟨by kernel_rfl, ?_⟩) hHeld ?_
          rotate_left
          · intro w hSw
            (try dsimp only at hSw)
            obtain ⟨hS0, hS1, hS2⟩ := hSw
            go_simp
            (try with_reducible rfl)
          change wpAnyH _ _ _ _ _ _ _ (Act.put _ (some 82) _) _
          simp only [Act.put, List.setIfInBounds_toArray, List.set_cons_zero, List.set_cons_succ]
          refine wpAnyH_take (i := 9) (v := ?_) rfl (by kernel_rfl) (by kernel_rfl) (by kernel_rfl) (fun _ _ _ h => h) (Or.inl ⟨by kernel_rfl, ?_⟩) hHeld ?_
          rotate_left
          · intro w hSw
            (try dsimp only at hSw)
            obtain ⟨hS0, hS1, hS2⟩ := hSw
            go_simp
            (try with_reducible rfl)
          change wpAnyH _ _ _ _ _ _ _ (Act.put _ (some 83) _) _
          simp only [Act.put, List.setIfInBounds_toArray, List.set_cons_zero, List.set_cons_succ]
          refine wpAnyH_take (i := 10) (v := ?_) rfl (by kernel_rfl) (by kernel_rfl) (by kernel_rfl) (fun _ _ _ h => h) (Or.inl ⟨by kernel_rfl, ?_⟩) hHeld ?_
          rotate_left
          · intro w hSw
            (try dsimp only at hSw)
            obtain ⟨hS0, hS1, hS2⟩ := hSw
            go_simp
            (try with_reducible rfl)
          change wpAnyH _ _ _ _ _ _ _ (Act.put _ (some 84) _) _
          simp only [Act.put, List.setIfInBounds_toArray, List.set_cons_zero, List.set_cons_succ]
          refine wpAnyH_take (i := 11) (v := ?_) rfl (by kernel_rfl) (by kernel_rfl) (by kernel_rfl) (fun _ _ _ h => h) (Or.inl ⟨by kernel_rfl, ?_⟩) hHeld ?_
          rotate_left
          · intro w hSw
            (try dsimp only at hSw)
            obtain ⟨hS0, hS1, hS2⟩ := hSw
            go_simp
            (try with_reducible rfl)
          change wpAnyH _ _ _ _ _ _ _ (Act.put _ (some 85) _) _
          simp only [Act.put, List.setIfInBounds_toArray, List.set_cons_zero, List.set_cons_succ]
          refine wpAnyH_take (i := 12) (v := ?_) rfl (by kernel_rfl) (by kernel_rfl) (by kernel_rfl) (fun _ _ _ h => h) (Or.inl ⟨by kernel_rfl, ?_⟩) hHeld ?_
          rotate_left
          · intro w hSw
            (try dsimp only at hSw)
            obtain ⟨hS0, hS1, hS2⟩ := hSw
            go_simp
            (try with_reducible rfl)
          change wpAnyH _ _ _ _ _ _ _ (Act.put _ (some 86) _) _
          simp only [Act.put, List.setIfInBounds_toArray, List.set_cons_zero, List.set_cons_succ]
          refine wpAnyH_take (i := 13) (v := ?_) rfl (by kernel_rfl) (by kernel_rfl) (by kernel_rfl) (fun _ _ _ h => h) (Or.inl ⟨by kernel_rfl, ?_⟩) hHeld ?_
          rotate_left
          · intro w hSw
            (try dsimp only at hSw)
            obtain ⟨hS0, hS1, hS2⟩ := hSw
            go_simp
            (try with_reducible rfl)
          change wpAnyH _ _ _ _ _ _ _ (Act.put _ (some 87) _) _
          simp only [Act.put, List.setIfInBounds_toArray, List.set_cons_zero, List.set_cons_succ]
          refine wpAnyH_take (i := 14) (v := ?_) rfl (by kernel_rfl) (by kernel_rfl) (by kernel_rfl) (fun _ _ _ h => h) (Or.inl ⟨by kernel_rfl, ?_⟩) hHeld ?_
          rotate_left
          · intro w hSw
            (try dsimp only at hSw)
            obtain ⟨hS0, hS1, hS2⟩ := hSw
            go_simp
            (try with_reducible rfl)
          change wpAnyH _ _ _ _ _ _ _ (Act.put _ (some 88) _) _
          simp only [Act.put, List.setIfInBounds_toArray, List.set_cons_zero, List.set_cons_succ]
          refine wpAnyH_take (i := 15) (v := ?_) rfl (by kernel_rfl) (by kernel_rfl) (by kernel_rfl) (fun _ _ _ h => h) (Or.inl ⟨by kernel_rfl, ?_⟩) hHeld ?_
          rotate_left
          · intro w hSw
            (try dsimp only at hSw)
            obtain ⟨hS0, hS1, hS2⟩ := hSw
            go_simp
            (try with_reducible rfl)
          change wpAnyH _ _ _ _ _ _ _ (Act.put _ (some 89) _) _
          simp only [Act.put, List.setIfInBounds_toArray, List.set_cons_zero, List.set_cons_succ]
          refine wpAnyH_take (i := 16) (v := ?_) rfl (by kernel_rfl) (by kernel_rfl) (by kernel_rfl) (fun _ _ _ h => h) (Or.inl ⟨by kernel_rfl, ?_⟩) hHeld ?_
          rotate_left
          · intro w hSw
            (try dsimp only at hSw)
            obtain ⟨hS0, hS1, hS2⟩ := hSw
            go_simp
            (try with_reducible rfl)
          change wpAnyH _ _ _ _ _ _ _ (Act.put _ (some 90) _) _
          simp only [Act.put, List.setIfInBounds_toArray, List.set_cons_zero, List.set_cons_succ]
          refine wpAnyH_take (i := 17) (v := ?_) rfl (by kernel_rfl) (by kernel_rfl) (by kernel_rfl) (fun _ _ _ h => h) (Or.inl ⟨by kernel_rfl, ?_⟩) hHeld ?_
          rotate_left
          · intro w hSw
            (try dsimp only at hSw)
            obtain ⟨hS0, hS1, hS2⟩ := hSw
            go_simp
            (try with_reducible rfl)
          change wpAnyH _ _ _ _ _ _ _ (Act.put _ (some 91) _) _
          simp only [Act.put, List.setIfInBounds_toArray, List.set_cons_zero, List.set_cons_succ]
          refine wpAnyH_take (i := 18) (v := ?_) rfl (by kernel_rfl) (by kernel_rfl) (by kernel_rfl) (fun _ _ _ h => h) (Or.inl ⟨by kernel_rfl, ?_⟩) hHeld ?_
          rotate_left
          · intro w hSw
            (try dsimp only at hSw)
            obtain ⟨hS0, hS1, hS2⟩ := hSw
            go_simp
            (try with_reducible rfl)
          change wpAnyH _ _ _ _ _ _ _ (Act.put _ (some 92) _) _
          simp only [Act.put, List.setIfInBounds_toArray, List.set_cons_zero, List.set_cons_succ]
          refine wpAnyH_take (i := 19) (v := ?_) rfl (by kernel_rfl) (by kernel_rfl) (by kernel_rfl) (fun _ _ _ h => h) (Or.inl ⟨by kernel_rfl, ?_⟩) hHeld ?_
          rotate_left
          · intro w hSw
            (try dsimp only at hSw)
            obtain ⟨hS0, hS1, hS2⟩ := hSw
            go_simp
            (try with_reducible rfl)
          change wpAnyH _ _ _ _ _ _ _ (Act.put _ (some 93) _) _
          simp only [Act.put, List.setIfInBounds_toArray, List.set_cons_zero, List.set_cons_succ]
          refine wpAnyH_take (i := 20) (v := ?_) rfl (by kernel_rfl) (by kernel_rfl) (by kernel_rfl) (fun _ _ _ h => h) (Or.inl ⟨by kernel_rfl, ?_⟩) hHeld ?_
          rotate_left
          · intro w hSw
            (try dsimp only at hSw)
            obtain ⟨hS0, hS1, hS2⟩ := hSw
            go_simp
            (try with_reducible rfl)
          change wpAnyH _ _ _ _ _ _ _ (Act.put _ (some 94) _) _
          simp only [Act.put, List.setIfInBounds_toArray, List.set_cons_zero, List.set_cons_succ]
          refine wpAnyH_take (i := 21) (v := ?_) rfl (by kernel_rfl) (by kernel_rfl) (by kernel_rfl) (fun _ _ _ h => h) (Or.inl ⟨by kernel_rfl, ?_⟩) hHeld ?_
          rotate_left
          · intro w hSw
            (try dsimp only at hSw)
            obtain ⟨hS0, hS1, hS2⟩ := hSw
            go_simp
            (try with_reducible rfl)
          change wpAnyH _ _ _ _ _ _ _ (Act.put _ (some 95) _) _
          simp only [Act.put, List.setIfInBounds_toArray, List.set_cons_zero, List.set_cons_succ]
          refine wpAnyH_take (i := 22) (v := ?_) rfl (by kernel_rfl) (by kernel_rfl) (by kernel_rfl) (fun _ _ _ h => h) (Or.inl ⟨by kernel_rfl, ?_⟩) hHeld ?_
          rotate_left
          · intro w hSw
            (try dsimp only at hSw)
            obtain ⟨hS0, hS1, hS2⟩ := hSw
            go_simp
            (try with_reducible rfl)
          change wpAnyH _ _ _ _ _ _ _ (Act.put _ (some 96) _) _
          simp only [Act.put, List.setIfInBounds_toArray, List.set_cons_zero, List.set_cons_succ]
          refine wpAnyH_take (i := 23) (v := ?_) rfl (by kernel_rfl) (by kernel_rfl) (by kernel_rfl) (fun _ _ _ h => h) (Or.inl ⟨by kernel_rfl, ?_⟩) hHeld ?_
          rotate_left
          · intro w hSw
            (try dsimp only at hSw)
            obtain ⟨hS0, hS1, hS2⟩ := hSw
            go_simp
            (try with_reducible rfl)
          change wpAnyH _ _ _ _ _ _ _ (Act.put _ (some 97) _) _
          simp only [Act.put, List.setIfInBounds_toArray, List.set_cons_zero, List.set_cons_succ]
          refine wpAnyH_take (i := 24) (v := ?_) rfl (by kernel_rfl) (by kernel_rfl) (by kernel_rfl) (fun _ _ _ h => h) (Or.inl ⟨by kernel_rfl, ?_⟩) hHeld ?_
          rotate_left
          · intro w hSw
            (try dsimp only at hSw)
            obtain ⟨hS0, hS1, hS2⟩ := hSw
            go_simp
            (try with_reducible rfl)
          change wpAnyH _ _ _ _ _ _ _ (Act.put _ (some 98) _) _
          simp only [Act.put, List.setIfInBounds_toArray, List.set_cons_zero, List.set_cons_succ]
          refine wpAnyH_take (i := 25) (v := ?_) rfl (by kernel_rfl) (by kernel_rfl) (by kernel_rfl) (fun _ _ _ h => h) (Or.inl ⟨by kernel_rfl, ?_⟩) hHeld ?_
          rotate_left
          · intro w hSw
            (try dsimp only at hSw)
            obtain ⟨hS0, hS1, hS2⟩ := hSw
            go_simp
            (try with_reducible rfl)
          change wpAnyH _ _ _ _ _ _ _ (Act.put _ (some 99) _) _
          simp only [Act.put, List.setIfInBounds_toArray, List.set_cons_zero, List.set_cons_succ]
          refine wpAnyH_take (i := 26) (v := ?_) rfl (by kernel_rfl) (by kernel_rfl) (by kernel_rfl) (fun _ _ _ h => h) (Or.inl ⟨by kernel_rfl, ?_⟩) hHeld ?_
          rotate_left
          · intro w hSw
            (try dsimp only at hSw)
            obtain ⟨hS0, hS1, hS2⟩ := hSw
            go_simp
            (try with_reducible rfl)
          change wpAnyH _ _ _ _ _ _ _ (Act.put _ (some 100) _) _
          simp only [Act.put, List.setIfInBounds_toArray, List.set_cons_zero, List.set_cons_succ]
          refine wpAnyH_take (i := 27) (v := ?_) rfl (by kernel_rfl) (by kernel_rfl) (by kernel_rfl) (fun _ _ _ h => h) (Or.inl ⟨by kernel_rfl, ?_⟩) hHeld ?_
          rotate_left
          · intro w hSw
            (try dsimp only at hSw)
            obtain ⟨hS0, hS1, hS2⟩ := hSw
            go_simp
            (try with_reducible rfl)
          change wpAnyH _ _ _ _ _ _ _ (Act.put _ (some 101) _) _
          simp only [Act.put, List.setIfInBounds_toArray, List.set_cons_zero, List.set_cons_succ]
          refine wpAnyH_done (by kernel_rfl) ?_ _
          have hx7 := hx6.drewN
          go_wp2_with fail
          refine (grey_call HE1.out (by omega) (by omega) v0 v1 _).mono ?_
          rintro _ w7 ⟨rfl, hg7⟩
          rw [HB2.out]
          have hG7 : w5.grownBy w7 none := gr_trans (show w5.grownBy _ none from (by repeat (first | exact gr_refl _ _ | assumption | refine gr_alloc ?_ _ | refine gr_drewN ?_ _ | refine gr_drew ?_))) hg7
          go_wp2_with fail
          go_roundw
          case rel => exact ⟨m + 1 + 1, by omega, by go_num, hG7⟩
          case measure => simp [intOf]; omega
        · go_wp2_with fail
          refine wp_region_held_drew (S := fun W' => W'.cell? ⟨wr.heap.size, 0, none⟩ = some (.int .i64 x) ∧ W'.cell? ⟨wr.heap.size, 1, none⟩ = some (.int .i64 y) ∧ W'.cell? ⟨g, m * 2 + 1, none⟩ = some (.int .i64 pv)) (by kernel_rfl) ⟨b0, b1, hpv⟩ (fun hHeld => ?_)
          refine wpAnyH_take (i := 0) (v := ?_) rfl (by kernel_rfl) (by kernel_rfl) (by kernel_rfl) (fun _ _ _ h => h) (Or.inl ⟨by kernel_rfl, ?_⟩) hHeld ?_
          rotate_left
          · intro w hSw
            (try dsimp only at hSw)
            obtain ⟨hS0, hS1, hS2⟩ := hSw
            go_simp
            (try with_reducible rfl)
          change wpAnyH _ _ _ _ _ _ _ (Act.put _ (some 74) _) _
          simp only [Act.put, List.setIfInBounds_toArray, List.set_cons_zero, List.set_cons_succ]
          refine wpAnyH_take (i := 1) (v := ?_) rfl (by kernel_rfl) (by kernel_rfl) (by kernel_rfl) (fun _ _ _ h => h) (Or.inl ⟨by kernel_rfl, ?_⟩) hHeld ?_
          rotate_left
          · intro w hSw
            (try dsimp only at hSw)
            obtain ⟨hS0, hS1, hS2⟩ := hSw
            go_simp
            (try with_reducible rfl)
          change wpAnyH _ _ _ _ _ _ _ (Act.put _ (some 75) _) _
          simp only [Act.put, List.setIfInBounds_toArray, List.set_cons_zero, List.set_cons_succ]
          refine wpAnyH_take (i := 2) (v := ?_) rfl (by kernel_rfl) (by kernel_rfl) (by kernel_rfl) (fun _ _ _ h => h) (Or.inl ⟨by kernel_rfl, ?_⟩) hHeld ?_
          rotate_left
          · intro w hSw
            (try dsimp only at hSw)
            obtain ⟨hS0, hS1, hS2⟩ := hSw
            go_simp
            (try with_reducible rfl)
          change wpAnyH _ _ _ _ _ _ _ (Act.put _ (some 76) _) _
          simp only [Act.put, List.setIfInBounds_toArray, List.set_cons_zero, List.set_cons_succ]
          refine wpAnyH_take (i := 3) (v := ?_) rfl (by kernel_rfl) (by kernel_rfl) (by kernel_rfl) (fun _ _ _ h => h) (Or.inl ⟨by kernel_rfl, ?_⟩) hHeld ?_
          rotate_left
          · intro w hSw
            (try dsimp only at hSw)
            obtain ⟨hS0, hS1, hS2⟩ := hSw
            go_simp
            (try with_reducible rfl)
          change wpAnyH _ _ _ _ _ _ _ (Act.put _ (some 77) _) _
          simp only [Act.put, List.setIfInBounds_toArray, List.set_cons_zero, List.set_cons_succ]
          refine wpAnyH_take (i := 4) (v := ?_) rfl (by kernel_rfl) (by kernel_rfl) (by kernel_rfl) (fun _ _ _ h => h) (Or.inl ⟨by kernel_rfl, ?_⟩) hHeld ?_
          rotate_left
          · intro w hSw
            (try dsimp only at hSw)
            obtain ⟨hS0, hS1, hS2⟩ := hSw
            go_simp
            (try with_reducible rfl)
          change wpAnyH _ _ _ _ _ _ _ (Act.put _ (some 78) _) _
          simp only [Act.put, List.setIfInBounds_toArray, List.set_cons_zero, List.set_cons_succ]
          refine wpAnyH_take (i := 5) (v := ?_) rfl (by kernel_rfl) (by kernel_rfl) (by kernel_rfl) (fun _ _ _ h => h) (Or.inl ⟨by kernel_rfl, ?_⟩) hHeld ?_
          rotate_left
          · intro w hSw
            (try dsimp only at hSw)
            obtain ⟨hS0, hS1, hS2⟩ := hSw
            go_simp
            (try with_reducible rfl)
          change wpAnyH _ _ _ _ _ _ _ (Act.put _ (some 79) _) _
          simp only [Act.put, List.setIfInBounds_toArray, List.set_cons_zero, List.set_cons_succ]
          refine wpAnyH_take (i := 6) (v := ?_) rfl (by kernel_rfl) (by kernel_rfl) (by kernel_rfl) (fun _ _ _ h => h) (Or.inl ⟨by kernel_rfl, ?_⟩) hHeld ?_
          rotate_left
          · intro w hSw
            (try dsimp only at hSw)
            obtain ⟨hS0, hS1, hS2⟩ := hSw
            go_simp
            (try with_reducible rfl)
          change wpAnyH _ _ _ _ _ _ _ (Act.put _ (some 80) _) _
          simp only [Act.put, List.setIfInBounds_toArray, List.set_cons_zero, List.set_cons_succ]
          refine wpAnyH_take (i := 7) (v := ?_) rfl (by kernel_rfl) (by kernel_rfl) (by kernel_rfl) (fun _ _ _ h => h) (Or.inl ⟨by kernel_rfl, ?_⟩) hHeld ?_
          rotate_left
          · intro w hSw
            (try dsimp only at hSw)
            obtain ⟨hS0, hS1, hS2⟩ := hSw
            go_simp
            (try with_reducible rfl)
          change wpAnyH _ _ _ _ _ _ _ (Act.put _ (some 81) _) _
          simp only [Act.put, List.setIfInBounds_toArray, List.set_cons_zero, List.set_cons_succ]
          refine wpAnyH_take (i := 8) (v := ?_) rfl (by kernel_rfl) (by kernel_rfl) (by kernel_rfl) (fun _ _ _ h => h) (Or.inl ⟨by kernel_rfl, ?_⟩) hHeld ?_
          rotate_left
          · intro w hSw
            (try dsimp only at hSw)
            obtain ⟨hS0, hS1, hS2⟩ := hSw
            go_simp
            (try with_reducible rfl)
          change wpAnyH _ _ _ _ _ _ _ (Act.put _ (some 82) _) _
          simp only [Act.put, List.setIfInBounds_toArray, List.set_cons_zero, List.set_cons_succ]
          refine wpAnyH_take (i := 9) (v := ?_) rfl (by kernel_rfl) (by kernel_rfl) (by kernel_rfl) (fun _ _ _ h => h) (Or.inl ⟨by kernel_rfl, ?_⟩) hHeld ?_
          rotate_left
          · intro w hSw
            (try dsimp only at hSw)
            obtain ⟨hS0, hS1, hS2⟩ := hSw
            go_simp
            (try with_reducible rfl)
          change wpAnyH _ _ _ _ _ _ _ (Act.put _ (some 83) _) _
          simp only [Act.put, List.setIfInBounds_toArray, List.set_cons_zero, List.set_cons_succ]
          refine wpAnyH_take (i := 10) (v := ?_) rfl (by kernel_rfl) (by kernel_rfl) (by kernel_rfl) (fun _ _ _ h => h) (Or.inl ⟨by kernel_rfl, ?_⟩) hHeld ?_
          rotate_left
          · intro w hSw
            (try dsimp only at hSw)
            obtain ⟨hS0, hS1, hS2⟩ := hSw
            go_simp
            (try with_reducible rfl)
          change wpAnyH _ _ _ _ _ _ _ (Act.put _ (some 84) _) _
          simp only [Act.put, List.setIfInBounds_toArray, List.set_cons_zero, List.set_cons_succ]
          refine wpAnyH_take (i := 11) (v := ?_) rfl (by kernel_rfl) (by kernel_rfl) (by kernel_rfl) (fun _ _ _ h => h) (Or.inl ⟨by kernel_rfl, ?_⟩) hHeld ?_
          rotate_left
          · intro w hSw
            (try dsimp only at hSw)
            obtain ⟨hS0, hS1, hS2⟩ := hSw
            go_simp
            (try with_reducible rfl)
          change wpAnyH _ _ _ _ _ _ _ (Act.put _ (some 85) _) _
          simp only [Act.put, List.setIfInBounds_toArray, List.set_cons_zero, List.set_cons_succ]
          refine wpAnyH_take (i := 12) (v := ?_) rfl (by kernel_rfl) (by kernel_rfl) (by kernel_rfl) (fun _ _ _ h => h) (Or.inl ⟨by kernel_rfl, ?_⟩) hHeld ?_
          rotate_left
          · intro w hSw
            (try dsimp only at hSw)
            obtain ⟨hS0, hS1, hS2⟩ := hSw
            go_simp
            (try with_reducible rfl)
          change wpAnyH _ _ _ _ _ _ _ (Act.put _ (some 86) _) _
          simp only [Act.put, List.setIfInBounds_toArray, List.set_cons_zero, List.set_cons_succ]
          refine wpAnyH_take (i := 13) (v := ?_) rfl (by kernel_rfl) (by kernel_rfl) (by kernel_rfl) (fun _ _ _ h => h) (Or.inl ⟨by kernel_rfl, ?_⟩) hHeld ?_
          rotate_left
          · intro w hSw
            (try dsimp only at hSw)
            obtain ⟨hS0, hS1, hS2⟩ := hSw
            go_simp
            (try with_reducible rfl)
          change wpAnyH _ _ _ _ _ _ _ (Act.put _ (some 87) _) _
          simp only [Act.put, List.setIfInBounds_toArray, List.set_cons_zero, List.set_cons_succ]
          refine wpAnyH_take (i := 14) (v := ?_) rfl (by kernel_rfl) (by kernel_rfl) (by kernel_rfl) (fun _ _ _ h => h) (Or.inl ⟨by kernel_rfl, ?_⟩) hHeld ?_
          rotate_left
          · intro w hSw
            (try dsimp only at hSw)
            obtain ⟨hS0, hS1, hS2⟩ := hSw
            go_simp
            (try with_reducible rfl)
          change wpAnyH _ _ _ _ _ _ _ (Act.put _ (some 88) _) _
          simp only [Act.put, List.setIfInBounds_toArray, List.set_cons_zero, List.set_cons_succ]
          refine wpAnyH_take (i := 15) (v := ?_) rfl (by kernel_rfl) (by kernel_rfl) (by kernel_rfl) (fun _ _ _ h => h) (Or.inl ⟨by kernel_rfl, ?_⟩) hHeld ?_
          rotate_left
          · intro w hSw
            (try dsimp only at hSw)
            obtain ⟨hS0, hS1, hS2⟩ := hSw
            go_simp
            (try with_reducible rfl)
          change wpAnyH _ _ _ _ _ _ _ (Act.put _ (some 89) _) _
          simp only [Act.put, List.setIfInBounds_toArray, List.set_cons_zero, List.set_cons_succ]
          refine wpAnyH_take (i := 16) (v := ?_) rfl (by kernel_rfl) (by kernel_rfl) (by kernel_rfl) (fun _ _ _ h => h) (Or.inl ⟨by kernel_rfl, ?_⟩) hHeld ?_
          rotate_left
          · intro w hSw
            (try dsimp only at hSw)
            obtain ⟨hS0, hS1, hS2⟩ := hSw
            go_simp
            (try with_reducible rfl)
          change wpAnyH _ _ _ _ _ _ _ (Act.put _ (some 90) _) _
          simp only [Act.put, List.setIfInBounds_toArray, List.set_cons_zero, List.set_cons_succ]
          refine wpAnyH_take (i := 17) (v := ?_) rfl (by kernel_rfl) (by kernel_rfl) (by kernel_rfl) (fun _ _ _ h => h) (Or.inl ⟨by kernel_rfl, ?_⟩) hHeld ?_
          rotate_left
          · intro w hSw
            (try dsimp only at hSw)
            obtain ⟨hS0, hS1, hS2⟩ := hSw
            go_simp
            (try with_reducible rfl)
          change wpAnyH _ _ _ _ _ _ _ (Act.put _ (some 91) _) _
          simp only [Act.put, List.setIfInBounds_toArray, List.set_cons_zero, List.set_cons_succ]
          refine wpAnyH_take (i := 18) (v := ?_) rfl (by kernel_rfl) (by kernel_rfl) (by kernel_rfl) (fun _ _ _ h => h) (Or.inl ⟨by kernel_rfl, ?_⟩) hHeld ?_
          rotate_left
          · intro w hSw
            (try dsimp only at hSw)
            obtain ⟨hS0, hS1, hS2⟩ := hSw
            go_simp
            (try with_reducible rfl)
          change wpAnyH _ _ _ _ _ _ _ (Act.put _ (some 92) _) _
          simp only [Act.put, List.setIfInBounds_toArray, List.set_cons_zero, List.set_cons_succ]
          refine wpAnyH_take (i := 19) (v := ?_) rfl (by kernel_rfl) (by kernel_rfl) (by kernel_rfl) (fun _ _ _ h => h) (Or.inl ⟨by kernel_rfl, ?_⟩) hHeld ?_
          rotate_left
          · intro w hSw
            (try dsimp only at hSw)
            obtain ⟨hS0, hS1, hS2⟩ := hSw
            go_simp
            (try with_reducible rfl)
          change wpAnyH _ _ _ _ _ _ _ (Act.put _ (some 93) _) _
          simp only [Act.put, List.setIfInBounds_toArray, List.set_cons_zero, List.set_cons_succ]
          refine wpAnyH_take (i := 20) (v := ?_) rfl (by kernel_rfl) (by kernel_rfl) (by kernel_rfl) (fun _ _ _ h => h) (Or.inl ⟨by kernel_rfl, ?_⟩) hHeld ?_
          rotate_left
          · intro w hSw
            (try dsimp only at hSw)
            obtain ⟨hS0, hS1, hS2⟩ := hSw
            go_simp
            (try with_reducible rfl)
          change wpAnyH _ _ _ _ _ _ _ (Act.put _ (some 94) _) _
          simp only [Act.put, List.setIfInBounds_toArray, List.set_cons_zero, List.set_cons_succ]
          refine wpAnyH_take (i := 21) (v := ?_) rfl (by kernel_rfl) (by kernel_rfl) (by kernel_rfl) (fun _ _ _ h => h) (Or.inl ⟨by kernel_rfl, ?_⟩) hHeld ?_
          rotate_left
          · intro w hSw
            (try dsimp only at hSw)
            obtain ⟨hS0, hS1, hS2⟩ := hSw
            go_simp
            (try with_reducible rfl)
          change wpAnyH _ _ _ _ _ _ _ (Act.put _ (some 95) _) _
          simp only [Act.put, List.setIfInBounds_toArray, List.set_cons_zero, List.set_cons_succ]
          refine wpAnyH_take (i := 22) (v := ?_) rfl (by kernel_rfl) (by kernel_rfl) (by kernel_rfl) (fun _ _ _ h => h) (Or.inl ⟨by kernel_rfl, ?_⟩) hHeld ?_
          rotate_left
          · intro w hSw
            (try dsimp only at hSw)
            obtain ⟨hS0, hS1, hS2⟩ := hSw
            go_simp
            (try with_reducible rfl)
          change wpAnyH _ _ _ _ _ _ _ (Act.put _ (some 96) _) _
          simp only [Act.put, List.setIfInBounds_toArray, List.set_cons_zero, List.set_cons_succ]
          refine wpAnyH_take (i := 23) (v := ?_) rfl (by kernel_rfl) (by kernel_rfl) (by kernel_rfl) (fun _ _ _ h => h) (Or.inl ⟨by kernel_rfl, ?_⟩) hHeld ?_
          rotate_left
          · intro w hSw
            (try dsimp only at hSw)
            obtain ⟨hS0, hS1, hS2⟩ := hSw
            go_simp
            (try with_reducible rfl)
          change wpAnyH _ _ _ _ _ _ _ (Act.put _ (some 97) _) _
          simp only [Act.put, List.setIfInBounds_toArray, List.set_cons_zero, List.set_cons_succ]
          refine wpAnyH_take (i := 24) (v := ?_) rfl (by kernel_rfl) (by kernel_rfl) (by kernel_rfl) (fun _ _ _ h => h) (Or.inl ⟨by kernel_rfl, ?_⟩) hHeld ?_
          rotate_left
          · intro w hSw
            (try dsimp only at hSw)
            obtain ⟨hS0, hS1, hS2⟩ := hSw
            go_simp
            (try with_reducible rfl)
          change wpAnyH _ _ _ _ _ _ _ (Act.put _ (some 98) _) _
          simp only [Act.put, List.setIfInBounds_toArray, List.set_cons_zero, List.set_cons_succ]
          refine wpAnyH_take (i := 25) (v := ?_) rfl (by kernel_rfl) (by kernel_rfl) (by kernel_rfl) (fun _ _ _ h => h) (Or.inl ⟨by kernel_rfl, ?_⟩) hHeld ?_
          rotate_left
          · intro w hSw
            (try dsimp only at hSw)
            obtain ⟨hS0, hS1, hS2⟩ := hSw
            go_simp
            (try with_reducible rfl)
          change wpAnyH _ _ _ _ _ _ _ (Act.put _ (some 99) _) _
          simp only [Act.put, List.setIfInBounds_toArray, List.set_cons_zero, List.set_cons_succ]
          refine wpAnyH_take (i := 26) (v := ?_) rfl (by kernel_rfl) (by kernel_rfl) (by kernel_rfl) (fun _ _ _ h => h) (Or.inl ⟨by kernel_rfl, ?_⟩) hHeld ?_
          rotate_left
          · intro w hSw
            (try dsimp only at hSw)
            obtain ⟨hS0, hS1, hS2⟩ := hSw
            go_simp
            (try with_reducible rfl)
          change wpAnyH _ _ _ _ _ _ _ (Act.put _ (some 100) _) _
          simp only [Act.put, List.setIfInBounds_toArray, List.set_cons_zero, List.set_cons_succ]
          refine wpAnyH_take (i := 27) (v := ?_) rfl (by kernel_rfl) (by kernel_rfl) (by kernel_rfl) (fun _ _ _ h => h) (Or.inl ⟨by kernel_rfl, ?_⟩) hHeld ?_
          rotate_left
          · intro w hSw
            (try dsimp only at hSw)
            obtain ⟨hS0, hS1, hS2⟩ := hSw
            go_simp
            (try with_reducible rfl)
          change wpAnyH _ _ _ _ _ _ _ (Act.put _ (some 101) _) _
          simp only [Act.put, List.setIfInBounds_toArray, List.set_cons_zero, List.set_cons_succ]
          refine wpAnyH_done (by kernel_rfl) ?_ _
          go_wp2_with fail
          go_roundw
          case rel => exact ⟨m + 1 + 1, by omega, by go_num, (by repeat (first | exact gr_refl _ _ | assumption | refine gr_alloc ?_ _ | refine gr_drewN ?_ _ | refine gr_drew ?_))⟩
          case measure => simp [intOf]; omega
    · have hkl : ¬ (k : Int) < (L.length : Int) := by omega
      go_wp2_with fail
      refine (ready_any b _ (HGL.out.quiet hGr)).mono ?_
      rintro _ w7 ⟨rfl, hg⟩
      go_wp2_with fail
      go_ret
      exact ⟨rfl, gr_below (gr_trans hGr hg)⟩
end Go.Proofs.YtngdjeggigkmlaaDoor
