/- The walk over the law EvenGoalsAreMet. Condition: asciiSpace is Go's own table, MaxLen holds a number. -/
import Derived.Test.YtjhklpffmfdkbaaGreatDoorEvenPlain
import Derived.Test.YtjhklpffmfdkbaaGreatDoorAhead
import Derived.Test.YtjhklpffmfdkbaaGreatDoorEqualWins
import Derived.Test.YtjhklpffmfdkbaaGreatDoorReady
import Derived.Test.YtjhklpffmfdkbaaGreatDoorRightTimes
import Derived.Test.YtjhklpffmfdkbaaGreatDoorStart
import Derived.Deep.RegionHeld3
namespace Go.Proofs.YtjhklpffmfdkbaaGreatDoor
open Go.RowKit
set_option linter.unusedVariables false
set_option linter.unusedSimpArgs false

theorem timesE_nil {a z : Int} (h0 : 0 ≤ a) (h1 : a < z) (h2 : z ≤ 345686400000) : timesE [] a z = 0 := by
  unfold timesE
  have : timeB a z = true := by simp [timeB]; omega
  rw [this]
  simp [scanT]

theorem blkAt {w : World} {g : Nat} {t : TypeId} {cs : Array Value} (h : g = w.heap.size) : Blk (w.alloc (.cells cs t)) g t cs := by subst h; exact Blk.new w t cs
theorem lit_win {w : World} {g : Nat} {x y : Int} (h : Blk w g 27 #[.int .i64 x, .int .i64 y]) : Wins w (.slice (some ⟨g, 0, none⟩) 1 1) [(x, y)] := by
  refine ⟨rfl, .inr ⟨g, 1, _, rfl, Nat.zero_le _, h, Nat.le_refl _, by decide, rfl, rfl⟩⟩

set_option maxRecDepth 100000 in
set_option maxHeartbeats 4000000 in
theorem evenLaw (A : Option Addr) (n c : Nat) (w : World) (hin : In w A n) (hgl : Gl w.heap.size w) :
    Calls Tryz.prog 3 #[.slice A n c] w fun r w' => r = .returned (.bool true) ∧ Below w.heap.size w w' := by
  have hs0 := Str.start (c := c) hin
  have HGL := Lib.hid hgl
  clear hin hgl
  go_enter Tryz.func3, Tryz.ntmps3
  go_wp2_with fail
  have hG0 := World.grownBy_alloc w (.cells #[.slice A n c, .int .i64 0] 25) none
  have hlt0 := hs0.lt
  generalize w.alloc (.cells #[.slice A n c, .int .i64 0] 25) = W0 at *
  generalize hb : w.heap.size = b at *
  have HB := Lib.hid hb
  clear hb
  refine (rightTimes_in b 0 _ hs0 (by decide)).mono ?_
  rintro _ w1 ⟨v, l, a, z, rfl, hv, hlen, hE, hz30, hs1, hg1⟩
  have hG1 : w.grownBy w1 none := gr_grown hG0 hg1 (fun g e => by injection e with e; exact .inr (by have := HB.out; omega))
  have O := timesE_ok hE
  have hbv : b < W0.heap.size := hlt0
  have hv1 : IntsFrom (b + 1) w1 v l := ownsRow_low hv (by omega)
  obtain ⟨A1, c1, rfl, hl9, hA1⟩ := hv1.shape
  have oa := O.a0
  have oz := O.ato
  have hx := Blk.new w1 27 #[.int .i64 a, .int .i64 z]
  have hbw1 : b < w1.heap.size := by have := hg1.size; omega
  have HV := Lib.hid (IntsFrom.grown hv1 (World.grownBy_alloc w1 (.cells #[.int .i64 a, .int .i64 z] 27) none))
  have hs2 := hs1.alloc (.cells #[.int .i64 a, .int .i64 z] 27)
  have hG2 := gr_alloc hG1 (.cells #[.int .i64 a, .int .i64 z] 27)
  have HE := Lib.hid hE
  have HO := Lib.hid O
  have HA1 := Lib.hid hA1
  clear hs0 hG0 hv hv1 hs1 hG1 hg1 O hE hA1 hlt0
  go_wp2_with fail
  generalize w1.alloc (.cells #[.int .i64 a, .int .i64 z] 27) = W1 at *
  generalize w1.heap.size = X at *
  refine (range_in b _ 0 20 _ hs2 (by decide) (by decide) (by decide) (by decide)).mono ?_
  rintro _ w2 ⟨goal, hg0, hg20, rfl, hs3, hg⟩
  replace hx := hx.grown hg (by simp; omega)
  have hG3 : w.grownBy w2 none := gr_grown hG2 hg (fun g e => by injection e with e; exact .inr (by have := HB.out; omega))
  replace HV := Lib.hid (HV.out.other hg (by omega))
  clear hg hs2 hG2 hs3
  obtain ⟨x0, x1⟩ := hx.cells2
  go_wp2_with fail
  have hh : hoursI a z ≤ 1000 := by unfold hoursI; omega
  refine (goal_ok (b + 1) _ l a z goal _ HV.out HE.out hg0 (by omega) hh).mono ?_
  rintro _ w3 ⟨u, rfl, hu, hg⟩
  obtain ⟨N1, hN1, hlast⟩ := goal_last l a z goal HE.out
  obtain ⟨A2, c2, rfl, hl8, hA2⟩ := hu.shape
  obtain ⟨M, hM⟩ : ∃ M, (goalL l a z goal).length = M := ⟨_, rfl⟩
  rw [hM] at hN1 hA2 ⊢
  obtain ⟨g2, rfl, hg2b, _⟩ := hA2 (by omega)
  have hcell : w3.cell? ⟨g2, N1, none⟩ = some (.int .i64 ((l.length : Int) - goal)) := by
    have h2 := hu.at_ N1 (by omega)
    rw [h2]
    rw [List.getElem?_eq_getElem (by omega)] at hlast
    injection hlast with hlast
    rw [hlast]
  have hM1 : (M : Int) - 1 = (N1 : Int) := by omega
  have hM2 : ((M : Int) == 0) = false := by rw [beq_eq_false_iff_ne]; omega
  have hM3 : N1 < M := by omega
  have hM6 : M ≤ 1000 := by
    have h9 : (goalL l a z goal).length = (hoursI a z).toNat := by unfold goalL; simp
    omega
  have hM4 : (N1 : Int) < (M : Int) := by omega
  have hM5 : (0 : Int) ≤ (N1 : Int) := by omega
  replace hx := hx.grown hg (by simp)
  replace hG3 := gr_trans hG3 hg
  replace HV := Lib.hid (HV.out.grown hg)
  have HMM := Lib.hid hM
  have HN1 := Lib.hid hN1
  clear hg x0 x1 hu hA2 hl8 hlast hM hN1 hg2b
  obtain ⟨x0, x1⟩ := hx.cells2
  go_wp2_with fail
  have hEn : timesE [] a z = 0 := timesE_nil HO.out.a0 HO.out.ato HO.out.to_
  refine (ahead_ok (b + 1) _ _ l [] a z _ HV.out (IntsFrom.nil _ _) HE.out hEn).mono ?_
  rintro _ w4 ⟨o1, rfl, ho1, hg⟩
  replace hx := hx.grown hg (by simp)
  replace hG3 := gr_trans hG3 hg
  replace HV := Lib.hid (HV.out.grown hg)
  have HO1 := Lib.hid ho1
  clear hg x0 x1 ho1 hcell
  obtain ⟨x0, x1⟩ := hx.cells2
  go_wp2_with fail
  refine (ahead_ok (b + 1) _ _ l l a z _ HV.out HV.out HE.out HE.out).mono ?_
  rintro _ w5 ⟨o2, rfl, ho2, hg⟩
  replace hx := hx.grown hg (by simp)
  replace hG3 := gr_trans hG3 hg
  replace HV := Lib.hid (HV.out.grown hg)
  replace HO1 := Lib.hid (HO1.out.grown hg)
  rw [ahead_self] at ho2
  obtain ⟨A3, c3, hv3, _, _⟩ := ho2.shape
  rw [show ([] : List (Int × Int)).length = 0 from rfl] at hv3
  subst hv3
  clear hg x0 x1 ho2
  have hXl := hx.lt
  have HAS := Lib.hid (ahead_self l z)
  obtain ⟨N, hN⟩ : ∃ N, l.length = N := ⟨_, rfl⟩
  rw [hN]
  have HNN := Lib.hid hN
  have HW5 : Hid (∀ W' : World, w5.grownBy W' none → Gl b W') := fun W' h => HGL.out.quiet (gr_trans hG3 h)
  by_cases h0 : N = 0
  · have hl0 : l = [] := List.eq_nil_of_length_eq_zero (hN.trans h0)
    have h1 := HO1.out
    rw [hl0, ahead_alone_nil] at h1
    obtain ⟨A4, c4, hv4, _, _⟩ := h1.shape
    rw [show ([] : List (Int × Int)).length = 0 from rfl] at hv4
    subst hv4
    subst h0
    clear h1 HO1 hl0 hN
    go_wp2_with fail
    refine wp_region_held_drew (S := fun W' => w5.grownBy W' none) (by kernel_rfl) (by repeat (first | exact gr_refl _ _ | assumption | refine gr_alloc ?_ _ | refine gr_drewN ?_ _ | refine gr_drew ?_)) (fun hHeld => ?_)
    refine wpAnyH_take (i := 0) (v := ?_) rfl (by kernel_rfl) (by kernel_rfl) (by kernel_rfl) (fun _ _ _ h => h) (Or.inl ⟨by kernel_rfl, ?_⟩) hHeld ?_
    rotate_left
    · intro w hSw
      (try dsimp only at hSw)
      go_simp
      (try with_reducible rfl)
    simp only [Act.put, List.setIfInBounds_toArray, List.set_cons_zero, List.set_cons_succ]
    refine wpAnyH_take (i := 1) (v := ?_) rfl (by kernel_rfl) (by kernel_rfl) (by kernel_rfl) (fun _ _ _ h => h) (Or.inl ⟨by kernel_rfl, ?_⟩) hHeld ?_
    rotate_left
    · intro w hSw
      (try dsimp only at hSw)
      go_simp
      (try with_reducible rfl)
    simp only [Act.put, List.setIfInBounds_toArray, List.set_cons_zero, List.set_cons_succ]
    refine wpAnyH_take (i := 2) (v := ?_) rfl (by kernel_rfl) (by kernel_rfl) (by kernel_rfl) (fun _ _ _ h => h) (Or.inl ⟨by kernel_rfl, ?_⟩) hHeld ?_
    rotate_left
    · intro w hSw
      (try dsimp only at hSw)
      go_simp
      (try with_reducible rfl)
    simp only [Act.put, List.setIfInBounds_toArray, List.set_cons_zero, List.set_cons_succ]
    refine wpAnyH_take (i := 3) (v := ?_) rfl (by kernel_rfl) (by kernel_rfl) (by kernel_rfl) (fun _ _ _ h => h) (Or.inl ⟨by kernel_rfl, ?_⟩) hHeld ?_
    rotate_left
    · intro w hSw
      (try dsimp only at hSw)
      go_simp
      (try with_reducible rfl)
    simp only [Act.put, List.setIfInBounds_toArray, List.set_cons_zero, List.set_cons_succ]
    refine wpAnyH_take (i := 4) (v := ?_) rfl (by kernel_rfl) (by kernel_rfl) (by kernel_rfl) (fun _ _ _ h => h) (Or.inl ⟨by kernel_rfl, ?_⟩) hHeld ?_
    rotate_left
    · intro w hSw
      (try dsimp only at hSw)
      go_simp
      (try with_reducible rfl)
    simp only [Act.put, List.setIfInBounds_toArray, List.set_cons_zero, List.set_cons_succ]
    refine wpAnyH_take (i := 5) (v := ?_) rfl (by kernel_rfl) (by kernel_rfl) (by kernel_rfl) (fun _ _ _ h => h) (Or.inl ⟨by kernel_rfl, ?_⟩) hHeld ?_
    rotate_left
    · intro w hSw
      (try dsimp only at hSw)
      go_simp
      (try with_reducible rfl)
    simp only [Act.put, List.setIfInBounds_toArray, List.set_cons_zero, List.set_cons_succ]
    refine wpAnyH_take (i := 6) (v := ?_) rfl (by kernel_rfl) (by kernel_rfl) (by kernel_rfl) (fun _ _ _ h => h) (Or.inl ⟨by kernel_rfl, ?_⟩) hHeld ?_
    rotate_left
    · intro w hSw
      (try dsimp only at hSw)
      go_simp
      (try with_reducible rfl)
    simp only [Act.put, List.setIfInBounds_toArray, List.set_cons_zero, List.set_cons_succ]
    refine wpAnyH_take (i := 7) (v := ?_) rfl (by kernel_rfl) (by kernel_rfl) (by kernel_rfl) (fun _ _ _ h => h) (Or.inl ⟨by kernel_rfl, ?_⟩) hHeld ?_
    rotate_left
    · intro w hSw
      (try dsimp only at hSw)
      go_simp
      (try with_reducible rfl)
    simp only [Act.put, List.setIfInBounds_toArray, List.set_cons_zero, List.set_cons_succ]
    refine wpAnyH_take (i := 8) (v := ?_) rfl (by kernel_rfl) (by kernel_rfl) (by kernel_rfl) (fun _ _ _ h => h) (Or.inl ⟨by kernel_rfl, ?_⟩) hHeld ?_
    rotate_left
    · intro w hSw
      (try dsimp only at hSw)
      go_simp
      (try with_reducible rfl)
    simp only [Act.put, List.setIfInBounds_toArray, List.set_cons_zero, List.set_cons_succ]
    refine wpAnyH_take (i := 9) (v := undef) rfl (by kernel_rfl) (by kernel_rfl) (by kernel_rfl) (fun _ _ _ h => h) (Or.inr ⟨by kernel_rfl, rfl⟩) hHeld ?_
    simp only [Act.put, List.setIfInBounds_toArray, List.set_cons_zero, List.set_cons_succ]
    refine wpAnyH_take (i := 10) (v := undef) rfl (by kernel_rfl) (by kernel_rfl) (by kernel_rfl) (fun _ _ _ h => h) (Or.inr ⟨by kernel_rfl, rfl⟩) hHeld ?_
    simp only [Act.put, List.setIfInBounds_toArray, List.set_cons_zero, List.set_cons_succ]
    refine wpAnyH_take (i := 11) (v := undef) rfl (by kernel_rfl) (by kernel_rfl) (by kernel_rfl) (fun _ _ _ h => h) (Or.inr ⟨by kernel_rfl, rfl⟩) hHeld ?_
    simp only [Act.put, List.setIfInBounds_toArray, List.set_cons_zero, List.set_cons_succ]
    refine wpAnyH_take (i := 12) (v := undef) rfl (by kernel_rfl) (by kernel_rfl) (by kernel_rfl) (fun _ _ _ h => h) (Or.inr ⟨by kernel_rfl, rfl⟩) hHeld ?_
    simp only [Act.put, List.setIfInBounds_toArray, List.set_cons_zero, List.set_cons_succ]
    refine wpAnyH_take (i := 13) (v := undef) rfl (by kernel_rfl) (by kernel_rfl) (by kernel_rfl) (fun _ _ _ h => h) (Or.inr ⟨by kernel_rfl, rfl⟩) hHeld ?_
    simp only [Act.put, List.setIfInBounds_toArray, List.set_cons_zero, List.set_cons_succ]
    refine wpAnyH_take (i := 14) (v := undef) rfl (by kernel_rfl) (by kernel_rfl) (by kernel_rfl) (fun _ _ _ h => h) (Or.inr ⟨by kernel_rfl, rfl⟩) hHeld ?_
    simp only [Act.put, List.setIfInBounds_toArray, List.set_cons_zero, List.set_cons_succ]
    refine wpAnyH_take (i := 15) (v := undef) rfl (by kernel_rfl) (by kernel_rfl) (by kernel_rfl) (fun _ _ _ h => h) (Or.inr ⟨by kernel_rfl, rfl⟩) hHeld ?_
    simp only [Act.put, List.setIfInBounds_toArray, List.set_cons_zero, List.set_cons_succ]
    refine wpAnyH_take (i := 16) (v := undef) rfl (by kernel_rfl) (by kernel_rfl) (by kernel_rfl) (fun _ _ _ h => h) (Or.inr ⟨by kernel_rfl, rfl⟩) hHeld ?_
    simp only [Act.put, List.setIfInBounds_toArray, List.set_cons_zero, List.set_cons_succ]
    refine wpAnyH_take (i := 17) (v := undef) rfl (by kernel_rfl) (by kernel_rfl) (by kernel_rfl) (fun _ _ _ h => h) (Or.inr ⟨by kernel_rfl, rfl⟩) hHeld ?_
    simp only [Act.put, List.setIfInBounds_toArray, List.set_cons_zero, List.set_cons_succ]
    refine wpAnyH_take (i := 18) (v := undef) rfl (by kernel_rfl) (by kernel_rfl) (by kernel_rfl) (fun _ _ _ h => h) (Or.inr ⟨by kernel_rfl, rfl⟩) hHeld ?_
    simp only [Act.put, List.setIfInBounds_toArray, List.set_cons_zero, List.set_cons_succ]
    refine wpAnyH_take (i := 19) (v := undef) rfl (by kernel_rfl) (by kernel_rfl) (by kernel_rfl) (fun _ _ _ h => h) (Or.inr ⟨by kernel_rfl, rfl⟩) hHeld ?_
    simp only [Act.put, List.setIfInBounds_toArray, List.set_cons_zero, List.set_cons_succ]
    refine wpAnyH_take (i := 20) (v := undef) rfl (by kernel_rfl) (by kernel_rfl) (by kernel_rfl) (fun _ _ _ h => h) (Or.inr ⟨by kernel_rfl, rfl⟩) hHeld ?_
    simp only [Act.put, List.setIfInBounds_toArray, List.set_cons_zero, List.set_cons_succ]
    refine wpAnyH_take (i := 21) (v := undef) rfl (by kernel_rfl) (by kernel_rfl) (by kernel_rfl) (fun _ _ _ h => h) (Or.inr ⟨by kernel_rfl, rfl⟩) hHeld ?_
    simp only [Act.put, List.setIfInBounds_toArray, List.set_cons_zero, List.set_cons_succ]
    refine wpAnyH_take (i := 22) (v := undef) rfl (by kernel_rfl) (by kernel_rfl) (by kernel_rfl) (fun _ _ _ h => h) (Or.inr ⟨by kernel_rfl, rfl⟩) hHeld ?_
    simp only [Act.put, List.setIfInBounds_toArray, List.set_cons_zero, List.set_cons_succ]
    refine wpAnyH_take (i := 23) (v := ?_) rfl (by kernel_rfl) (by kernel_rfl) (by kernel_rfl) (fun _ _ _ h => h) (Or.inl ⟨by kernel_rfl, ?_⟩) hHeld ?_
    rotate_left
    · intro w hSw
      (try dsimp only at hSw)
      go_simp
      (try with_reducible rfl)
    simp only [Act.put, List.setIfInBounds_toArray, List.set_cons_zero, List.set_cons_succ]
    refine wpAnyH_take (i := 24) (v := ?_) rfl (by kernel_rfl) (by kernel_rfl) (by kernel_rfl) (fun _ _ _ h => h) (Or.inl ⟨by kernel_rfl, ?_⟩) hHeld ?_
    rotate_left
    · intro w hSw
      (try dsimp only at hSw)
      go_simp
      (try with_reducible rfl)
    simp only [Act.put, List.setIfInBounds_toArray, List.set_cons_zero, List.set_cons_succ]
    refine wpAnyH_ready (rs := [25]) (by kernel_rfl) (by simp) ?_
    refine AllReadyH.cons (o := _) rfl (fun K hK => ?_) AllReadyH.nil
    go_simp
    (go_at_call 11; refine (ready_any b _ (HW5.out _ (by repeat (first | exact gr_refl _ _ | assumption | refine gr_alloc ?_ _ | refine gr_drewN ?_ _ | refine gr_drew ?_)))).mono ?_; rintro _ w6 ⟨rfl, hg6⟩; have hg6' := gr_trans (show w5.grownBy _ none from (by repeat (first | exact gr_refl _ _ | assumption | refine gr_alloc ?_ _ | refine gr_drewN ?_ _ | refine gr_drew ?_))) hg6)
    refine hK.out _ _ (by repeat (first | exact gr_refl _ _ | assumption | refine gr_alloc ?_ _ | refine gr_drewN ?_ _ | refine gr_drew ?_)) (fun hHeld2 => ?_)
    clear hK K
    try simp only [Act.put, List.setIfInBounds_toArray, List.set_cons_zero, List.set_cons_succ]
    refine wpAnyH_take (i := 26) (v := ?_) rfl (by kernel_rfl) (by kernel_rfl) (by kernel_rfl) (fun _ _ _ h => h) (Or.inl ⟨by kernel_rfl, ?_⟩) hHeld2 ?_
    rotate_left
    · intro w hSw
      (try dsimp only at hSw)
      go_simp
      (try with_reducible rfl)
    change wpAnyH _ _ _ _ _ _ _ (Act.put _ (some 99) (Value.bool true)) _
    simp only [Act.put, List.setIfInBounds_toArray, List.set_cons_zero, List.set_cons_succ]
    refine wpAnyH_take (i := 27) (v := ?_) rfl (by kernel_rfl) (by kernel_rfl) (by kernel_rfl) (fun _ _ _ h => h) (Or.inl ⟨by kernel_rfl, ?_⟩) hHeld2 ?_
    rotate_left
    · intro w hSw
      (try dsimp only at hSw)
      go_simp
      (try with_reducible rfl)
    change wpAnyH _ _ _ _ _ _ _ (Act.put _ (some 2) (Value.bool true)) _
    simp only [Act.put, List.setIfInBounds_toArray, List.set_cons_zero, List.set_cons_succ]
    refine wpAnyH_done (by kernel_rfl) ?_ _
    all_goals
      go_wp2_with fail
      go_ret
      exact ⟨rfl, gr_below (gr_trans hG3 (by repeat (first | exact gr_refl _ _ | assumption | refine gr_alloc ?_ _ | refine gr_drewN ?_ _ | refine gr_drew ?_)))⟩
  · obtain ⟨x, r, hl⟩ : ∃ x r, l = x :: r := by
      cases l with
      | nil => exact absurd hN.symm h0
      | cons x r => exact ⟨x, r, rfl⟩
    have h1 := HO1.out
    have hsr := HO.out.sorted
    rw [hl] at hsr
    rw [hl, ahead_alone x r z hsr] at h1
    obtain ⟨A4, c4, hv4, _, hA4⟩ := h1.shape
    rw [show ([(x, z)] : List (Int × Int)).length = 1 from rfl] at hv4
    subst hv4
    obtain ⟨g1, rfl, hg1b, _⟩ := HA1.out (by omega)
    have HW1 := Lib.hid h1
    have KX : Hid (∀ W' : World, w5.grownBy W' none → W'.cell? ⟨g1, 0, none⟩ = some (.int .i64 x) ∧ W'.cell? ⟨X, 1, none⟩ = some (.int .i64 z) ∧ w5.grownBy W' none) := fun W' h => by
      have q := (HV.out.grown h).at_ 0 (by omega)
      refine ⟨q.trans ?_, (hx.grown h (by simp)).cell 1, h⟩
      simp [hl]
    obtain ⟨k0, k1, -⟩ := KX.out w5 (gr_refl _ _)
    have n1 : ((N : Int) == 0) = false := by rw [beq_eq_false_iff_ne]; omega
    have n2 : decide (0 < N) = true := by simp; omega
    have n3 : 0 < N := by omega
    have hgx : g1 < w5.heap.size := by have := World.block_lt_of_cell? w5 _ k0; exact this
    clear h1 HO1 hA4 hN h0 hl hsr
    go_wp2_with fail
    first | go_region_held (fun W' => W'.cell? ⟨g1, 0, none⟩ = some (.int .i64 x) ∧ W'.cell? ⟨X, 1, none⟩ = some (.int .i64 z) ∧ w5.grownBy W' none) ((exact KX.out _ (by repeat (first | exact gr_refl _ _ | assumption | refine gr_alloc ?_ _ | refine gr_drewN ?_ _ | refine gr_drew ?_)))) (first | (go_at_call 10; refine (equalWins_same _ _ [(x, z)] _ (WinsFrom.low (HW1.out.grown (by repeat (first | exact gr_refl _ _ | assumption | refine gr_alloc ?_ _ | refine gr_drewN ?_ _ | refine gr_drew ?_)))) (by first | exact lit_win (blkAt (by simp)) | exact lit_win (Blk.drewN (blkAt (by simp)) _) | exact lit_win (Blk.drew (blkAt (by simp))))).mono ?_; rintro _ w6 ⟨rfl, hg6⟩; have hg6' := gr_trans (show w5.grownBy _ none from (by repeat (first | exact gr_refl _ _ | assumption | refine gr_alloc ?_ _ | refine gr_drewN ?_ _ | refine gr_drew ?_))) hg6) | (go_at_call 11; refine (ready_any b _ (HW5.out _ (by repeat (first | exact gr_refl _ _ | assumption | refine gr_alloc ?_ _ | refine gr_drewN ?_ _ | refine gr_drew ?_)))).mono ?_; rintro _ w7 ⟨rfl, hg7⟩; have hg7' := gr_trans (show w5.grownBy _ none from (by repeat (first | exact gr_refl _ _ | assumption | refine gr_alloc ?_ _ | refine gr_drewN ?_ _ | refine gr_drew ?_))) hg7)) | fail
    all_goals
      go_wp2_with fail
      go_ret
      exact ⟨rfl, gr_below (gr_trans hG3 (by repeat (first | exact gr_refl _ _ | assumption | refine gr_alloc ?_ _ | refine gr_drewN ?_ _ | refine gr_drew ?_)))⟩
end Go.Proofs.YtjhklpffmfdkbaaGreatDoor
