/- The walks over place.IsLocator and the reference's LocatorRight: both ask the same. Printed by gen_isloc.py. Condition: a string of ASCII of at most 10^9 bytes. -/
import Derived.Test.YtbaocnbppefciaaGreatLoc2
import Derived.Test.YtbaocnbppefciaaGreatChanged
namespace Go.Proofs.YtbaocnbppefciaaGreat
open Go.RowKit
set_option linter.unusedVariables false
set_option linter.unusedSimpArgs false

/-- A sign is right at its place. -/
def signB (l : List UInt8) (k : Nat) : Bool := decide (lvFirst (k / 2) ≤ ((l.getD k 0).toNat : Int)) && decide (((l.getD k 0).toNat : Int) < lvFirst (k / 2) + lvMany (k / 2))
def signsTo (l : List UInt8) : Nat → Bool
  | 0 => true
  | k + 1 => signsTo l k && signB l k
/-- A locator. -/
def locB (s : ByteArray) : Bool := (decide (s.size = 2) || decide (s.size = 4) || decide (s.size = 6)) && signsTo s.data.toList s.size
theorem signsTo_no (l : List UInt8) (n : Nat) (h : signsTo l n = false) (m : Nat) (hm : n ≤ m) : signsTo l m = false := by
  induction m with
  | zero => obtain rfl : n = 0 := by omega
            exact h
  | succ m ih =>
    rcases Nat.lt_or_ge m n with h1 | h1
    · obtain rfl : n = m + 1 := by omega
      exact h
    · unfold signsTo; rw [ih h1]; rfl
theorem signsTo_all (l : List UInt8) (n : Nat) (h : signsTo l n = true) (k : Nat) (hk : k < n) : signB l k = true := by
  rcases hb : signB l k
  · have h1 : signsTo l (k + 1) = false := by unfold signsTo; rw [hb]; simp
    rw [signsTo_no l (k + 1) h1 n hk] at h
    cases h
  · rfl
theorem loc_long {s : ByteArray} (h2 : ((s.size : Int) != 2) = true) (h4 : ((s.size : Int) != 4) = true) (h6 : ((s.size : Int) != 6) = true) : locB s = false := by
  have h2' : ¬ s.size = 2 := fun e => by rw [e] at h2; cases h2
  have h4' : ¬ s.size = 4 := fun e => by rw [e] at h4; cases h4
  have h6' : ¬ s.size = 6 := fun e => by rw [e] at h6; cases h6
  unfold locB
  rw [decide_eq_false h2', decide_eq_false h4', decide_eq_false h6']
  rfl
theorem loc_of {s : ByteArray} (h : s.size = 2 ∨ s.size = 4 ∨ s.size = 6) : locB s = signsTo s.data.toList s.size := by
  unfold locB
  rcases h with h | h | h <;> simp [h]
/-- A locator's signs. -/
theorem locS_right {s : ByteArray} (h : locB s = true) : LocS s (fun k => ((s.data.toList.getD k 0).toNat : Int)) (s.size / 2) := by
  have hz : s.size = 2 ∨ s.size = 4 ∨ s.size = 6 := by
    unfold locB at h
    simp only [Bool.and_eq_true, Bool.or_eq_true, decide_eq_true_eq] at h
    rcases h.1 with (h | h) | h
    · exact .inl h
    · exact .inr (.inl h)
    · exact .inr (.inr h)
  rw [loc_of hz] at h
  refine ⟨by omega, by omega, by omega, fun i hi => ?_, fun j hj => ?_⟩
  · have hl : i < s.data.toList.length := by simpa using hi
    simp only [List.getD, List.getElem?_eq_getElem hl]
    rfl
  · have h1 := signsTo_all _ _ h (2 * j) (by omega)
    have h2 := signsTo_all _ _ h (2 * j + 1) (by omega)
    unfold signB at h1 h2
    rw [show 2 * j / 2 = j by omega] at h1
    rw [show (2 * j + 1) / 2 = j by omega] at h2
    simp only [Bool.and_eq_true, decide_eq_true_eq] at h1 h2
    exact ⟨h1.1, h1.2, h2.1, h2.2⟩

set_option maxRecDepth 100000 in
set_option maxHeartbeats 4000000 in
theorem isLocator_any (s : ByteArray) (w : World) (hs : s.size ≤ 1000000000) (ha : Ascii s) :
    Calls Tryz.prog 12 #[.string s] w fun r w' => r = .returned (.bool (locB s)) ∧ w.grownBy w' none := by
  have HA := Lib.hid ha
  clear ha
  have hway : (((s.size : Int) != 2) = true ∧ ((s.size : Int) != 4) = true ∧ ((s.size : Int) != 6) = true) ∨ ((s.size = 2 ∨ s.size = 4 ∨ s.size = 6) ∧ (((s.size : Int) != 2) = false ∨ (((s.size : Int) != 2) = true ∧ ((s.size : Int) != 4) = false) ∨ (((s.size : Int) != 2) = true ∧ ((s.size : Int) != 4) = true ∧ ((s.size : Int) != 6) = false))) := by
    by_cases h2 : s.size = 2
    · exact .inr ⟨.inl h2, .inl (by rw [h2]; rfl)⟩
    · have n2 : ((s.size : Int) != 2) = true := by simp; omega
      by_cases h4 : s.size = 4
      · exact .inr ⟨.inr (.inl h4), .inr (.inl ⟨n2, by rw [h4]; rfl⟩)⟩
      · have n4 : ((s.size : Int) != 4) = true := by simp; omega
        by_cases h6 : s.size = 6
        · exact .inr ⟨.inr (.inr h6), .inr (.inr ⟨n2, n4, by rw [h6]; rfl⟩)⟩
        · exact .inl ⟨n2, n4, by simp; omega⟩
  rcases hway with ⟨n2, n4, n6⟩ | ⟨hz, hway⟩
  · have HLB := Lib.hid (loc_long n2 n4 n6)
    go_enter Tryz.func12, Tryz.ntmps12
    go_wp2_with fail
    go_ret
    exact ⟨by rw [HLB.out]; rfl, gr_refl _ _⟩
  have HLB := Lib.hid (loc_of hz)
  have hb6 : s.size ≤ 6 := by omega
  clear hz
  rcases hway with w1 | ⟨w1, w2⟩ | ⟨w1, w2, w3⟩
  all_goals
    go_enter Tryz.func12, Tryz.ntmps12
    go_wp2_with fail
    go_loopw [20] (fun i wr => ∃ k : Nat, k ≤ s.size ∧ i = .int .i64 k ∧ Hid (signsTo s.data.toList k = true) ∧ w.grownBy wr none) (fun i _ => s.size - (intOf i).toNat)
    case atStart => exact ⟨0, by omega, rfl, rfl, gr_refl _ _⟩
    case round =>
      obtain ⟨k, hk, rfl, HK, hgr⟩ := hrel
      by_cases hlt : k < s.size
      · have hkl : (k : Int) < (s.size : Int) := by omega
        obtain ⟨j, hj⟩ : ∃ j, k / 2 = j := ⟨_, rfl⟩
        have j3 : j < 3 := by omega
        have hj2 : (k : Int) / 2 = (j : Int) := by omega
        have hj3 : (j : Int) < 3 := by omega
        have hgd : s.data.toList.getD k 0 = s[k] := by
          have hl : k < s.data.toList.length := by simpa using hlt
          simp only [List.getD, List.getElem?_eq_getElem hl]
          rfl
        have hsb : signB s.data.toList k = (decide (lvFirst j ≤ ((s[k].toNat : Nat) : Int)) && decide (((s[k].toNat : Nat) : Int) < lvFirst j + lvMany j)) := by unfold signB; rw [hj, hgd]
        have hs1 : signsTo s.data.toList (k + 1) = (decide (lvFirst j ≤ ((s[k].toNat : Nat) : Int)) && decide (((s[k].toNat : Nat) : Int) < lvFirst j + lvMany j)) := by unfold signsTo; rw [HK.out, hsb]; rfl
        have hc0 := s[k].toNat_lt
        obtain ⟨l0, l1, l2, l3, -⟩ := lv_bd j j3
        have hB := Blk.new wr 68 lvCells
        obtain ⟨c0, c1, c2, c3⟩ := lv_cells hB j j3
        generalize lvMany j = mn at *
        generalize lvFirst j = f at *
        generalize lvWide j = wd at *
        generalize lvHigh j = hg at *
        obtain ⟨c, hc⟩ : ∃ c : Int, ((s[k].toNat : Nat) : Int) = c := ⟨_, rfl⟩
        rw [hc] at hs1
        have hcb : 0 ≤ c ∧ c < 256 := by omega
        have HS1 := Lib.hid hs1
        clear hsb hgd hs1 hc0 hj
        by_cases h1 : c < f
        · have t1 : decide (c < f) = true := by simpa using h1
          have HN : Hid (locB s = false) := by
            show _ = _
            rw [HLB.out]
            exact signsTo_no _ (k + 1) (by rw [HS1.out, decide_eq_false (by omega)]; rfl) _ hlt
          go_wp2_with fail
          refine (levels_any _).mono ?_
          rintro _ _ ⟨rfl, rfl⟩
          go_wp2_with fail
          have hB4 := Blk.new (wr.alloc (.cells lvCells 68)) 68 #[.int .i64 mn, .int .u8 f, .int .i64 wd, .int .i64 hg]
          rw [World.size_alloc] at hB4
          have hG4 : w.grownBy ((wr.alloc (.cells lvCells 68)).alloc (.cells #[.int .i64 mn, .int .u8 f, .int .i64 wd, .int .i64 hg] 68)) none := gr_alloc (gr_alloc hgr _) _
          obtain ⟨b0, b1, -, -⟩ := hB4.cells4
          generalize (wr.alloc (.cells lvCells 68)).alloc (.cells #[.int .i64 mn, .int .u8 f, .int .i64 wd, .int .i64 hg] 68) = W2 at *
          refine wp_region_held_drew (S := fun W' => W'.cell? ⟨wr.heap.size + 1, 0, none⟩ = some (.int .i64 mn) ∧ W'.cell? ⟨wr.heap.size + 1, 1, none⟩ = some (.int .u8 f)) (by kernel_rfl) ⟨b0, b1⟩ (fun hHeld => ?_)
          refine wpAnyH_take (i := 0) (v := ?_) rfl (by kernel_rfl) (by kernel_rfl) (by kernel_rfl) (fun _ _ _ h => h) (Or.inl ⟨by kernel_rfl, ?_⟩) hHeld ?_
          rotate_left
          · intro w hSw
            (try dsimp only at hSw)
            obtain ⟨hS0, hS1⟩ := hSw
            go_simp
            (try with_reducible rfl)
          change wpAnyH _ _ _ _ _ _ _ (Act.put _ (some 28) _) _
          simp only [Act.put, List.setIfInBounds_toArray, List.set_cons_zero, List.set_cons_succ]
          refine wpAnyH_take (i := 1) (v := ?_) rfl (by kernel_rfl) (by kernel_rfl) (by kernel_rfl) (fun _ _ _ h => h) (Or.inl ⟨by kernel_rfl, ?_⟩) hHeld ?_
          rotate_left
          · intro w hSw
            (try dsimp only at hSw)
            obtain ⟨hS0, hS1⟩ := hSw
            go_simp
            (try with_reducible rfl)
          change wpAnyH _ _ _ _ _ _ _ (Act.put _ (some 29) _) _
          simp only [Act.put, List.setIfInBounds_toArray, List.set_cons_zero, List.set_cons_succ]
          refine wpAnyH_take (i := 2) (v := ?_) rfl (by kernel_rfl) (by kernel_rfl) (by kernel_rfl) (fun _ _ _ h => h) (Or.inl ⟨by kernel_rfl, ?_⟩) hHeld ?_
          rotate_left
          · intro w hSw
            (try dsimp only at hSw)
            obtain ⟨hS0, hS1⟩ := hSw
            go_simp
            (try with_reducible rfl)
          change wpAnyH _ _ _ _ _ _ _ (Act.put _ (some 30) _) _
          simp only [Act.put, List.setIfInBounds_toArray, List.set_cons_zero, List.set_cons_succ]
          refine wpAnyH_take (i := 3) (v := ?_) rfl (by kernel_rfl) (by kernel_rfl) (by kernel_rfl) (fun _ _ _ h => h) (Or.inl ⟨by kernel_rfl, ?_⟩) hHeld ?_
          rotate_left
          · intro w hSw
            (try dsimp only at hSw)
            obtain ⟨hS0, hS1⟩ := hSw
            go_simp
            (try with_reducible rfl)
          change wpAnyH _ _ _ _ _ _ _ (Act.put _ (some 31) _) _
          simp only [Act.put, List.setIfInBounds_toArray, List.set_cons_zero, List.set_cons_succ]
          refine wpAnyH_take (i := 4) (v := ?_) rfl (by kernel_rfl) (by kernel_rfl) (by kernel_rfl) (fun _ _ _ h => h) (Or.inl ⟨by kernel_rfl, ?_⟩) hHeld ?_
          rotate_left
          · intro w hSw
            (try dsimp only at hSw)
            obtain ⟨hS0, hS1⟩ := hSw
            go_simp
            (try with_reducible rfl)
          change wpAnyH _ _ _ _ _ _ _ (Act.put _ (some 32) _) _
          simp only [Act.put, List.setIfInBounds_toArray, List.set_cons_zero, List.set_cons_succ]
          refine wpAnyH_take (i := 5) (v := ?_) rfl (by kernel_rfl) (by kernel_rfl) (by kernel_rfl) (fun _ _ _ h => h) (Or.inl ⟨by kernel_rfl, ?_⟩) hHeld ?_
          rotate_left
          · intro w hSw
            (try dsimp only at hSw)
            obtain ⟨hS0, hS1⟩ := hSw
            go_simp
            (try with_reducible rfl)
          change wpAnyH _ _ _ _ _ _ _ (Act.put _ (some 33) _) _
          simp only [Act.put, List.setIfInBounds_toArray, List.set_cons_zero, List.set_cons_succ]
          refine wpAnyH_take (i := 6) (v := ?_) rfl (by kernel_rfl) (by kernel_rfl) (by kernel_rfl) (fun _ _ _ h => h) (Or.inl ⟨by kernel_rfl, ?_⟩) hHeld ?_
          rotate_left
          · intro w hSw
            (try dsimp only at hSw)
            obtain ⟨hS0, hS1⟩ := hSw
            go_simp
            (try with_reducible rfl)
          change wpAnyH _ _ _ _ _ _ _ (Act.put _ (some 34) _) _
          simp only [Act.put, List.setIfInBounds_toArray, List.set_cons_zero, List.set_cons_succ]
          refine wpAnyH_take (i := 7) (v := undef) rfl (by kernel_rfl) (by kernel_rfl) (by kernel_rfl) (fun _ _ _ h => h) (Or.inr ⟨by kernel_rfl, rfl⟩) hHeld ?_
          change wpAnyH _ _ _ _ _ _ _ (Act.put _ (some 35) _) _
          simp only [Act.put, List.setIfInBounds_toArray, List.set_cons_zero, List.set_cons_succ]
          refine wpAnyH_take (i := 8) (v := undef) rfl (by kernel_rfl) (by kernel_rfl) (by kernel_rfl) (fun _ _ _ h => h) (Or.inr ⟨by kernel_rfl, rfl⟩) hHeld ?_
          change wpAnyH _ _ _ _ _ _ _ (Act.put _ (some 36) _) _
          simp only [Act.put, List.setIfInBounds_toArray, List.set_cons_zero, List.set_cons_succ]
          refine wpAnyH_take (i := 9) (v := undef) rfl (by kernel_rfl) (by kernel_rfl) (by kernel_rfl) (fun _ _ _ h => h) (Or.inr ⟨by kernel_rfl, rfl⟩) hHeld ?_
          change wpAnyH _ _ _ _ _ _ _ (Act.put _ (some 37) _) _
          simp only [Act.put, List.setIfInBounds_toArray, List.set_cons_zero, List.set_cons_succ]
          refine wpAnyH_take (i := 10) (v := undef) rfl (by kernel_rfl) (by kernel_rfl) (by kernel_rfl) (fun _ _ _ h => h) (Or.inr ⟨by kernel_rfl, rfl⟩) hHeld ?_
          change wpAnyH _ _ _ _ _ _ _ (Act.put _ (some 38) _) _
          simp only [Act.put, List.setIfInBounds_toArray, List.set_cons_zero, List.set_cons_succ]
          refine wpAnyH_take (i := 11) (v := undef) rfl (by kernel_rfl) (by kernel_rfl) (by kernel_rfl) (fun _ _ _ h => h) (Or.inr ⟨by kernel_rfl, rfl⟩) hHeld ?_
          change wpAnyH _ _ _ _ _ _ _ (Act.put _ (some 39) _) _
          simp only [Act.put, List.setIfInBounds_toArray, List.set_cons_zero, List.set_cons_succ]
          refine wpAnyH_take (i := 12) (v := undef) rfl (by kernel_rfl) (by kernel_rfl) (by kernel_rfl) (fun _ _ _ h => h) (Or.inr ⟨by kernel_rfl, rfl⟩) hHeld ?_
          change wpAnyH _ _ _ _ _ _ _ (Act.put _ (some 40) _) _
          simp only [Act.put, List.setIfInBounds_toArray, List.set_cons_zero, List.set_cons_succ]
          refine wpAnyH_take (i := 13) (v := undef) rfl (by kernel_rfl) (by kernel_rfl) (by kernel_rfl) (fun _ _ _ h => h) (Or.inr ⟨by kernel_rfl, rfl⟩) hHeld ?_
          change wpAnyH _ _ _ _ _ _ _ (Act.put _ (some 41) _) _
          simp only [Act.put, List.setIfInBounds_toArray, List.set_cons_zero, List.set_cons_succ]
          refine wpAnyH_take (i := 14) (v := undef) rfl (by kernel_rfl) (by kernel_rfl) (by kernel_rfl) (fun _ _ _ h => h) (Or.inr ⟨by kernel_rfl, rfl⟩) hHeld ?_
          change wpAnyH _ _ _ _ _ _ _ (Act.put _ (some 42) _) _
          simp only [Act.put, List.setIfInBounds_toArray, List.set_cons_zero, List.set_cons_succ]
          refine wpAnyH_take (i := 15) (v := undef) rfl (by kernel_rfl) (by kernel_rfl) (by kernel_rfl) (fun _ _ _ h => h) (Or.inr ⟨by kernel_rfl, rfl⟩) hHeld ?_
          change wpAnyH _ _ _ _ _ _ _ (Act.put _ (some 43) _) _
          simp only [Act.put, List.setIfInBounds_toArray, List.set_cons_zero, List.set_cons_succ]
          refine wpAnyH_take (i := 16) (v := undef) rfl (by kernel_rfl) (by kernel_rfl) (by kernel_rfl) (fun _ _ _ h => h) (Or.inr ⟨by kernel_rfl, rfl⟩) hHeld ?_
          change wpAnyH _ _ _ _ _ _ _ (Act.put _ (some 44) _) _
          simp only [Act.put, List.setIfInBounds_toArray, List.set_cons_zero, List.set_cons_succ]
          refine wpAnyH_take (i := 17) (v := ?_) rfl (by kernel_rfl) (by kernel_rfl) (by kernel_rfl) (fun _ _ _ h => h) (Or.inl ⟨by kernel_rfl, ?_⟩) hHeld ?_
          rotate_left
          · intro w hSw
            (try dsimp only at hSw)
            obtain ⟨hS0, hS1⟩ := hSw
            go_simp
            (try with_reducible rfl)
          change wpAnyH _ _ _ _ _ _ _ (Act.put _ (some 45) _) _
          simp only [Act.put, List.setIfInBounds_toArray, List.set_cons_zero, List.set_cons_succ]
          refine wpAnyH_done (by kernel_rfl) ?_ _
          go_wp2_with fail
          go_ret
          exact ⟨by rw [HN.out]; rfl, gr_drew hG4⟩
        · have u1 : IntKind.u8.wrap (c - f) = c - f := IntWalk.u8_in _ ⟨by omega, by omega⟩
          have u2 : IntKind.i64.wrap (c - f) = c - f := i64_in _ ⟨by omega, by omega⟩
          have t1 : decide (c < f) = false := by simpa using h1
          by_cases h2 : mn ≤ c - f
          · have t2 : decide (mn ≤ c - f) = true := by simpa using h2
            have HN : Hid (locB s = false) := by
              show _ = _
              rw [HLB.out]
              exact signsTo_no _ (k + 1) (by rw [HS1.out, decide_eq_false (p := c < f + mn) (by omega), Bool.and_false]) _ hlt
            go_wp2_with fail
            refine (levels_any _).mono ?_
            rintro _ _ ⟨rfl, rfl⟩
            go_wp2_with fail
            have hB4 := Blk.new (wr.alloc (.cells lvCells 68)) 68 #[.int .i64 mn, .int .u8 f, .int .i64 wd, .int .i64 hg]
            rw [World.size_alloc] at hB4
            have hG4 : w.grownBy ((wr.alloc (.cells lvCells 68)).alloc (.cells #[.int .i64 mn, .int .u8 f, .int .i64 wd, .int .i64 hg] 68)) none := gr_alloc (gr_alloc hgr _) _
            obtain ⟨b0, b1, -, -⟩ := hB4.cells4
            generalize (wr.alloc (.cells lvCells 68)).alloc (.cells #[.int .i64 mn, .int .u8 f, .int .i64 wd, .int .i64 hg] 68) = W2 at *
            go_region_held3 (fun W' => W'.cell? ⟨wr.heap.size + 1, 0, none⟩ = some (.int .i64 mn) ∧ W'.cell? ⟨wr.heap.size + 1, 1, none⟩ = some (.int .u8 f)) ((exact ⟨b0, b1⟩)) (first | fail)
            go_wp2_with fail
            go_ret
            exact ⟨by rw [HN.out]; rfl, gr_drew hG4⟩
          · have t2 : decide (mn ≤ c - f) = false := by simpa using h2
            have HS2 : Hid (signsTo s.data.toList (k + 1) = true) := by
              show _ = _
              rw [HS1.out, decide_eq_true (p := f ≤ c) (by omega), decide_eq_true (p := c < f + mn) (by omega)]
              rfl
            go_wp2_with fail
            refine (levels_any _).mono ?_
            rintro _ _ ⟨rfl, rfl⟩
            go_wp2_with fail
            have hB4 := Blk.new (wr.alloc (.cells lvCells 68)) 68 #[.int .i64 mn, .int .u8 f, .int .i64 wd, .int .i64 hg]
            rw [World.size_alloc] at hB4
            have hG4 : w.grownBy ((wr.alloc (.cells lvCells 68)).alloc (.cells #[.int .i64 mn, .int .u8 f, .int .i64 wd, .int .i64 hg] 68)) none := gr_alloc (gr_alloc hgr _) _
            obtain ⟨b0, b1, -, -⟩ := hB4.cells4
            generalize (wr.alloc (.cells lvCells 68)).alloc (.cells #[.int .i64 mn, .int .u8 f, .int .i64 wd, .int .i64 hg] 68) = W2 at *
            go_region_held3 (fun W' => W'.cell? ⟨wr.heap.size + 1, 0, none⟩ = some (.int .i64 mn) ∧ W'.cell? ⟨wr.heap.size + 1, 1, none⟩ = some (.int .u8 f)) ((exact ⟨b0, b1⟩)) (first | fail)
            go_wp2_with fail
            go_roundw
            case rel => exact ⟨k + 1, by omega, by go_num, HS2, gr_drew hG4⟩
            case measure => simp [intOf]; omega
      · have hkl : ¬ (k : Int) < (s.size : Int) := by omega
        have hke : k = s.size := by omega
        have HN : Hid (locB s = true) := by show _ = _; rw [HLB.out, ← hke, HK.out]
        clear hke
        go_wp2_with fail
        go_ret
        exact ⟨by rw [HN.out]; rfl, hgr⟩
end Go.Proofs.YtbaocnbppefciaaGreat
