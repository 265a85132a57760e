/- The walks over the reference's sizeOf and AreaFor. Printed by gen_areafor.py. Condition: the signs are right. -/
import Derived.Test.YtbaocnbppefciaaGreatLoc3
namespace Go.Proofs.YtbaocnbppefciaaGreat
open Go.RowKit
set_option linter.unusedVariables false
set_option linter.unusedSimpArgs false

theorem sizeOf_at (m : Nat) (w : World) (h0 : 0 < m) (h3 : m ≤ 3) :
    Calls Tryz.prog 45 #[.int .i64 (2 * m : Nat)] w fun e w' => e = .returned (.int .i64 (lvWide (m - 1))) ∧ w = w' := by
  rcases (by omega : m = 1 ∨ m = 2 ∨ m = 3) with rfl | rfl | rfl
  all_goals
    go_enter Tryz.func45, Tryz.ntmps45
    go_wp2_with fail
    go_ret
    exact ⟨rfl, rfl⟩

set_option maxRecDepth 100000 in
set_option maxHeartbeats 8000000 in
theorem areaFor_ok (s : ByteArray) (x : Nat → Int) (m : Nat) (w : World) (h : LocS s x m) :
    Calls Tryz.prog 16 #[.string s] w fun r w' => r = .returned (.agg #[.int .i64 (lowNo x m), .int .i64 (lowEa x m), .int .i64 (lowNo x m + lvHigh (m - 1)), .int .i64 (lowEa x m + lvWide (m - 1))]) ∧ w.grownBy w' none := by
  have HS := Lib.hid h
  have hsz := h.size
  have h0 := h.m0
  have h3 := h.m3
  have HSZ := Lib.hid hsz
  clear h hsz
  have hb6 : s.size ≤ 6 := by have := HSZ.out; omega
  go_enter Tryz.func16, Tryz.ntmps16
  go_wp2_with fail
  go_loopw [4] (fun i wr => ∃ j : Nat, j ≤ m ∧ i = .int .i64 (2 * j : Nat) ∧ Blk wr (w.heap.size + 1) 27 #[.int .i64 (lowNo x j), .int .i64 (lowEa x j)] ∧ Blk wr w.heap.size 39 #[.int .i64 0, .int .i64 0, .int .i64 0, .int .i64 0] ∧ w.grownBy wr none) (fun i _ => 6 - (intOf i).toNat)
  case atStart =>
    have z1 := Blk.new w 39 #[.int .i64 0, .int .i64 0, .int .i64 0, .int .i64 0]
    have z2 := Blk.new (w.alloc (.cells #[.int .i64 0, .int .i64 0, .int .i64 0, .int .i64 0] 39)) 27 #[.int .i64 (-324000), .int .i64 (-648000)]
    rw [World.size_alloc] at z2
    exact ⟨0, by omega, rfl, z2, z1.alloc _, gr_alloc (gr_alloc (gr_refl _ _) _) _⟩
  case round =>
    obtain ⟨j, hj, rfl, hL, hA, hgr⟩ := hrel
    by_cases hlt : j < m
    · obtain ⟨e0, e1, e2, e3⟩ := low_succ h3 HS.out.ok j hlt
      obtain ⟨o0, o1, o2, o3⟩ := HS.out.ok j hlt
      have hk0 : 2 * j < s.size := by have := HSZ.out; omega
      have hk1 : 2 * j + 1 < s.size := by have := HSZ.out; omega
      have hg0 := HS.out.dig (2 * j) hk0
      have hg1 := HS.out.dig (2 * j + 1) hk1
      have HE : Hid (lowEa x (j + 1) = lowEa x j + (x (2 * j) - lvFirst j) * lvWide j) := rfl
      have HN : Hid (lowNo x (j + 1) = lowNo x j + (x (2 * j + 1) - lvFirst j) * lvHigh j) := rfl
      have HSO := Lib.hid (fun W => sizeOf_at (j + 1) W (by omega) (by omega))
      have hjj : j = 0 ∨ j = 1 ∨ j = 2 := by omega
      rcases hjj with rfl | rfl | rfl
      · have hg0' : ((s[0].toNat : Nat) : Int) = x 0 := hg0
        have hg1' : ((s[1].toNat : Nat) : Int) = x 1 := hg1
        have p0 : (97 : Int) ≤ x 0 := o0
        have p1 : x 0 < 97 + 18 := o1
        have p2 : (97 : Int) ≤ x 1 := o2
        have p3 : x 1 < 97 + 18 := o3
        have hE : lowEa x 1 = lowEa x 0 + (x 0 - 97) * 72000 := HE.out
        have hN : lowNo x 1 = lowNo x 0 + (x 1 - 97) * 36000 := HN.out
        have HE2 := Lib.hid hE
        have HN2 := Lib.hid hN
        have hso : Hid (∀ W : World, Calls Tryz.prog 45 #[.int .i64 2] W fun e w' => e = .returned (.int .i64 72000) ∧ W = w') := HSO.out
        clear o0 o1 o2 o3
        generalize lowEa x 0 = le at *
        generalize lowNo x 0 = ln at *
        generalize x 0 = p at *
        generalize x 1 = q at *
        have u1 : IntKind.u8.wrap (p - 97) = p - 97 := IntWalk.u8_in _ ⟨by omega, by omega⟩
        have u2 : IntKind.i64.wrap (p - 97) = p - 97 := i64_in _ ⟨by omega, by omega⟩
        have u3 : IntKind.u8.wrap (q - 97) = q - 97 := IntWalk.u8_in _ ⟨by omega, by omega⟩
        have u4 : IntKind.i64.wrap (q - 97) = q - 97 := i64_in _ ⟨by omega, by omega⟩
        have u5 : IntKind.i64.wrap ((p - 97) * 72000) = (p - 97) * 72000 := i64_in _ ⟨by omega, by omega⟩
        have u6 : IntKind.i64.wrap ((q - 97) * 72000) = (q - 97) * 72000 := i64_in _ ⟨by omega, by omega⟩
        have u7 : IntKind.i64.wrap (le + (p - 97) * 72000) = le + (p - 97) * 72000 := i64_in _ ⟨by omega, by omega⟩
        have u9 : ((q - 97) * 72000) / 2 = (q - 97) * 36000 := by omega
        have u10 : ((q - 97) * 72000).tdiv 2 = (q - 97) * 36000 := by rw [Int.tdiv_eq_ediv_of_nonneg (by omega)]; exact u9
        have u11 : IntKind.i64.wrap (((q - 97) * 72000).tdiv 2) = (q - 97) * 36000 := by rw [u10]; exact i64_in _ ⟨by omega, by omega⟩
        have u8 : IntKind.i64.wrap (ln + (q - 97) * 36000) = ln + (q - 97) * 36000 := i64_in _ ⟨by omega, by omega⟩
        have hk0' : 0 < s.size := hk0
        have hk1' : 1 < s.size := hk1
        have hk2 : (0 : Int) < (s.size : Int) := by omega
        have hk3 : (1 : Int) < (s.size : Int) := by omega
        have u12 : IntKind.i64.wrap 1 = 1 := rfl
        clear hg0 hg1 hE hN
        obtain ⟨y0, y1⟩ := hL.cells2
        have hLf := hL.free
        go_wp2_with fail
        refine (hso.out _).mono ?_
        rintro _ _ ⟨rfl, rfl⟩
        go_wp2_with fail
        have y1d : wr.drew.cell? ⟨w.heap.size + 1, 1, none⟩ = some (.int .i64 le) := y1
        have hLfd : ∀ i, wr.drew.frozen? ⟨w.heap.size + 1, i, none⟩ = false := hLf
        go_still_tail 11, (by kernel_rfl)
        change wpList _ _ _ _ _ wr.drew
        replace hL := hL.drew
        replace hA := hA.drew
        replace hgr := gr_drew hgr
        clear y1d hLfd y0 y1 hLf
        generalize wr.drew = W4 at *
        obtain ⟨y0, y1⟩ := hL.cells2
        have hLf := hL.free
        go_wp2_with fail
        have hL5 := hL.put 1 (.int .i64 (le + (p - 97) * 72000))
        simp only [List.setIfInBounds_toArray, List.set_cons_zero, List.set_cons_succ] at hL5
        have hA5 := hA.far (p := ⟨w.heap.size + 1, 1, none⟩) (by simp) (.int .i64 (le + (p - 97) * 72000))
        have hG5 : w.grownBy (W4.setCell ⟨w.heap.size + 1, 1, none⟩ (.int .i64 (le + (p - 97) * 72000))) none := gr_put hgr (.inr (by simp)) _
        clear hL hA hgr y0 y1 hLf
        generalize W4.setCell ⟨w.heap.size + 1, 1, none⟩ (.int .i64 (le + (p - 97) * 72000)) = W5 at *
        obtain ⟨y0, y1⟩ := hL5.cells2
        have y0d : W5.drew.cell? ⟨w.heap.size + 1, 0, none⟩ = some (.int .i64 ln) := y0
        go_still_tail 13, (by kernel_rfl)
        change wpList _ _ _ _ _ W5.drew
        replace hL5 := hL5.drew
        replace hA5 := hA5.drew
        replace hG5 := gr_drew hG5
        clear y0 y1 y0d
        generalize W5.drew = W6 at *
        obtain ⟨y0, y1⟩ := hL5.cells2
        have hLf := hL5.free
        go_wp2_with fail
        have hL7 := hL5.put 0 (.int .i64 (ln + (q - 97) * 36000))
        simp only [List.setIfInBounds_toArray, List.set_cons_zero, List.set_cons_succ] at hL7
        have hA7 := hA5.far (p := ⟨w.heap.size + 1, 0, none⟩) (by simp) (.int .i64 (ln + (q - 97) * 36000))
        have hG7 : w.grownBy (W6.setCell ⟨w.heap.size + 1, 0, none⟩ (.int .i64 (ln + (q - 97) * 36000))) none := gr_put hG5 (.inr (by simp)) _
        go_roundw
        case rel => exact ⟨1, by omega, rfl, by rw [HE2.out, HN2.out]; exact hL7, hA7, hG7⟩
        case measure => simp [intOf]
      · have hg0' : ((s[2].toNat : Nat) : Int) = x 2 := hg0
        have hg1' : ((s[3].toNat : Nat) : Int) = x 3 := hg1
        have p0 : (48 : Int) ≤ x 2 := o0
        have p1 : x 2 < 48 + 10 := o1
        have p2 : (48 : Int) ≤ x 3 := o2
        have p3 : x 3 < 48 + 10 := o3
        have hE : lowEa x 2 = lowEa x 1 + (x 2 - 48) * 7200 := HE.out
        have hN : lowNo x 2 = lowNo x 1 + (x 3 - 48) * 3600 := HN.out
        have HE2 := Lib.hid hE
        have HN2 := Lib.hid hN
        have hso : Hid (∀ W : World, Calls Tryz.prog 45 #[.int .i64 4] W fun e w' => e = .returned (.int .i64 7200) ∧ W = w') := HSO.out
        clear o0 o1 o2 o3
        generalize lowEa x 1 = le at *
        generalize lowNo x 1 = ln at *
        generalize x 2 = p at *
        generalize x 3 = q at *
        have u1 : IntKind.u8.wrap (p - 48) = p - 48 := IntWalk.u8_in _ ⟨by omega, by omega⟩
        have u2 : IntKind.i64.wrap (p - 48) = p - 48 := i64_in _ ⟨by omega, by omega⟩
        have u3 : IntKind.u8.wrap (q - 48) = q - 48 := IntWalk.u8_in _ ⟨by omega, by omega⟩
        have u4 : IntKind.i64.wrap (q - 48) = q - 48 := i64_in _ ⟨by omega, by omega⟩
        have u5 : IntKind.i64.wrap ((p - 48) * 7200) = (p - 48) * 7200 := i64_in _ ⟨by omega, by omega⟩
        have u6 : IntKind.i64.wrap ((q - 48) * 7200) = (q - 48) * 7200 := i64_in _ ⟨by omega, by omega⟩
        have u7 : IntKind.i64.wrap (le + (p - 48) * 7200) = le + (p - 48) * 7200 := i64_in _ ⟨by omega, by omega⟩
        have u9 : ((q - 48) * 7200) / 2 = (q - 48) * 3600 := by omega
        have u10 : ((q - 48) * 7200).tdiv 2 = (q - 48) * 3600 := by rw [Int.tdiv_eq_ediv_of_nonneg (by omega)]; exact u9
        have u11 : IntKind.i64.wrap (((q - 48) * 7200).tdiv 2) = (q - 48) * 3600 := by rw [u10]; exact i64_in _ ⟨by omega, by omega⟩
        have u8 : IntKind.i64.wrap (ln + (q - 48) * 3600) = ln + (q - 48) * 3600 := i64_in _ ⟨by omega, by omega⟩
        have hk0' : 2 < s.size := hk0
        have hk1' : 3 < s.size := hk1
        have hk2 : (2 : Int) < (s.size : Int) := by omega
        have hk3 : (3 : Int) < (s.size : Int) := by omega
        have u12 : IntKind.i64.wrap 3 = 3 := rfl
        clear hg0 hg1 hE hN
        obtain ⟨y0, y1⟩ := hL.cells2
        have hLf := hL.free
        go_wp2_with fail
        refine (hso.out _).mono ?_
        rintro _ _ ⟨rfl, rfl⟩
        go_wp2_with fail
        have y1d : wr.drew.cell? ⟨w.heap.size + 1, 1, none⟩ = some (.int .i64 le) := y1
        have hLfd : ∀ i, wr.drew.frozen? ⟨w.heap.size + 1, i, none⟩ = false := hLf
        go_still_tail 11, (by kernel_rfl)
        change wpList _ _ _ _ _ wr.drew
        replace hL := hL.drew
        replace hA := hA.drew
        replace hgr := gr_drew hgr
        clear y1d hLfd y0 y1 hLf
        generalize wr.drew = W4 at *
        obtain ⟨y0, y1⟩ := hL.cells2
        have hLf := hL.free
        go_wp2_with fail
        have hL5 := hL.put 1 (.int .i64 (le + (p - 48) * 7200))
        simp only [List.setIfInBounds_toArray, List.set_cons_zero, List.set_cons_succ] at hL5
        have hA5 := hA.far (p := ⟨w.heap.size + 1, 1, none⟩) (by simp) (.int .i64 (le + (p - 48) * 7200))
        have hG5 : w.grownBy (W4.setCell ⟨w.heap.size + 1, 1, none⟩ (.int .i64 (le + (p - 48) * 7200))) none := gr_put hgr (.inr (by simp)) _
        clear hL hA hgr y0 y1 hLf
        generalize W4.setCell ⟨w.heap.size + 1, 1, none⟩ (.int .i64 (le + (p - 48) * 7200)) = W5 at *
        obtain ⟨y0, y1⟩ := hL5.cells2
        have y0d : W5.drew.cell? ⟨w.heap.size + 1, 0, none⟩ = some (.int .i64 ln) := y0
        go_still_tail 13, (by kernel_rfl)
        change wpList _ _ _ _ _ W5.drew
        replace hL5 := hL5.drew
        replace hA5 := hA5.drew
        replace hG5 := gr_drew hG5
        clear y0 y1 y0d
        generalize W5.drew = W6 at *
        obtain ⟨y0, y1⟩ := hL5.cells2
        have hLf := hL5.free
        go_wp2_with fail
        have hL7 := hL5.put 0 (.int .i64 (ln + (q - 48) * 3600))
        simp only [List.setIfInBounds_toArray, List.set_cons_zero, List.set_cons_succ] at hL7
        have hA7 := hA5.far (p := ⟨w.heap.size + 1, 0, none⟩) (by simp) (.int .i64 (ln + (q - 48) * 3600))
        have hG7 : w.grownBy (W6.setCell ⟨w.heap.size + 1, 0, none⟩ (.int .i64 (ln + (q - 48) * 3600))) none := gr_put hG5 (.inr (by simp)) _
        go_roundw
        case rel => exact ⟨2, by omega, rfl, by rw [HE2.out, HN2.out]; exact hL7, hA7, hG7⟩
        case measure => simp [intOf]
      · have hg0' : ((s[4].toNat : Nat) : Int) = x 4 := hg0
        have hg1' : ((s[5].toNat : Nat) : Int) = x 5 := hg1
        have p0 : (97 : Int) ≤ x 4 := o0
        have p1 : x 4 < 97 + 24 := o1
        have p2 : (97 : Int) ≤ x 5 := o2
        have p3 : x 5 < 97 + 24 := o3
        have hE : lowEa x 3 = lowEa x 2 + (x 4 - 97) * 300 := HE.out
        have hN : lowNo x 3 = lowNo x 2 + (x 5 - 97) * 150 := HN.out
        have HE2 := Lib.hid hE
        have HN2 := Lib.hid hN
        have hso : Hid (∀ W : World, Calls Tryz.prog 45 #[.int .i64 6] W fun e w' => e = .returned (.int .i64 300) ∧ W = w') := HSO.out
        clear o0 o1 o2 o3
        generalize lowEa x 2 = le at *
        generalize lowNo x 2 = ln at *
        generalize x 4 = p at *
        generalize x 5 = q at *
        have u1 : IntKind.u8.wrap (p - 97) = p - 97 := IntWalk.u8_in _ ⟨by omega, by omega⟩
        have u2 : IntKind.i64.wrap (p - 97) = p - 97 := i64_in _ ⟨by omega, by omega⟩
        have u3 : IntKind.u8.wrap (q - 97) = q - 97 := IntWalk.u8_in _ ⟨by omega, by omega⟩
        have u4 : IntKind.i64.wrap (q - 97) = q - 97 := i64_in _ ⟨by omega, by omega⟩
        have u5 : IntKind.i64.wrap ((p - 97) * 300) = (p - 97) * 300 := i64_in _ ⟨by omega, by omega⟩
        have u6 : IntKind.i64.wrap ((q - 97) * 300) = (q - 97) * 300 := i64_in _ ⟨by omega, by omega⟩
        have u7 : IntKind.i64.wrap (le + (p - 97) * 300) = le + (p - 97) * 300 := i64_in _ ⟨by omega, by omega⟩
        have u9 : ((q - 97) * 300) / 2 = (q - 97) * 150 := by omega
        have u10 : ((q - 97) * 300).tdiv 2 = (q - 97) * 150 := by rw [Int.tdiv_eq_ediv_of_nonneg (by omega)]; exact u9
        have u11 : IntKind.i64.wrap (((q - 97) * 300).tdiv 2) = (q - 97) * 150 := by rw [u10]; exact i64_in _ ⟨by omega, by omega⟩
        have u8 : IntKind.i64.wrap (ln + (q - 97) * 150) = ln + (q - 97) * 150 := i64_in _ ⟨by omega, by omega⟩
        have hk0' : 4 < s.size := hk0
        have hk1' : 5 < s.size := hk1
        have hk2 : (4 : Int) < (s.size : Int) := by omega
        have hk3 : (5 : Int) < (s.size : Int) := by omega
        have u12 : IntKind.i64.wrap 5 = 5 := rfl
        clear hg0 hg1 hE hN
        obtain ⟨y0, y1⟩ := hL.cells2
        have hLf := hL.free
        go_wp2_with fail
        refine (hso.out _).mono ?_
        rintro _ _ ⟨rfl, rfl⟩
        go_wp2_with fail
        have y1d : wr.drew.cell? ⟨w.heap.size + 1, 1, none⟩ = some (.int .i64 le) := y1
        have hLfd : ∀ i, wr.drew.frozen? ⟨w.heap.size + 1, i, none⟩ = false := hLf
        go_still_tail 11, (by kernel_rfl)
        change wpList _ _ _ _ _ wr.drew
        replace hL := hL.drew
        replace hA := hA.drew
        replace hgr := gr_drew hgr
        clear y1d hLfd y0 y1 hLf
        generalize wr.drew = W4 at *
        obtain ⟨y0, y1⟩ := hL.cells2
        have hLf := hL.free
        go_wp2_with fail
        have hL5 := hL.put 1 (.int .i64 (le + (p - 97) * 300))
        simp only [List.setIfInBounds_toArray, List.set_cons_zero, List.set_cons_succ] at hL5
        have hA5 := hA.far (p := ⟨w.heap.size + 1, 1, none⟩) (by simp) (.int .i64 (le + (p - 97) * 300))
        have hG5 : w.grownBy (W4.setCell ⟨w.heap.size + 1, 1, none⟩ (.int .i64 (le + (p - 97) * 300))) none := gr_put hgr (.inr (by simp)) _
        clear hL hA hgr y0 y1 hLf
        generalize W4.setCell ⟨w.heap.size + 1, 1, none⟩ (.int .i64 (le + (p - 97) * 300)) = W5 at *
        obtain ⟨y0, y1⟩ := hL5.cells2
        have y0d : W5.drew.cell? ⟨w.heap.size + 1, 0, none⟩ = some (.int .i64 ln) := y0
        go_still_tail 13, (by kernel_rfl)
        change wpList _ _ _ _ _ W5.drew
        replace hL5 := hL5.drew
        replace hA5 := hA5.drew
        replace hG5 := gr_drew hG5
        clear y0 y1 y0d
        generalize W5.drew = W6 at *
        obtain ⟨y0, y1⟩ := hL5.cells2
        have hLf := hL5.free
        go_wp2_with fail
        have hL7 := hL5.put 0 (.int .i64 (ln + (q - 97) * 150))
        simp only [List.setIfInBounds_toArray, List.set_cons_zero, List.set_cons_succ] at hL7
        have hA7 := hA5.far (p := ⟨w.heap.size + 1, 0, none⟩) (by simp) (.int .i64 (ln + (q - 97) * 150))
        have hG7 : w.grownBy (W6.setCell ⟨w.heap.size + 1, 0, none⟩ (.int .i64 (ln + (q - 97) * 150))) none := gr_put hG5 (.inr (by simp)) _
        go_roundw
        case rel => exact ⟨3, by omega, rfl, by rw [HE2.out, HN2.out]; exact hL7, hA7, hG7⟩
        case measure => simp [intOf]
    · obtain rfl : j = m := by omega
      have hsz2 := HSZ.out
      have HSO := Lib.hid (fun W => sizeOf_at j W h0 h3)
      rw [show ((2 * j : Nat) : Int) = (s.size : Int) by rw [hsz2]] at HSO ⊢
      have hb := low_bd x j h3 HS.out.ok j (Nat.le_refl _)
      have hb2 := hb.2.2 h0
      obtain ⟨-, -, -, -, w0, w1, g0, g1, -⟩ := lv_bd (j - 1) (by omega)
      have hq2 : (lvWide (j - 1)) = 2 * lvHigh (j - 1) := by
        rcases (by omega : j = 1 ∨ j = 2 ∨ j = 3) with rfl | rfl | rfl <;> rfl
      generalize e1 : lowEa x j = le at *
      generalize e2 : lowNo x j = ln at *
      generalize e3 : lvWide (j - 1) = wd at *
      generalize e4 : lvHigh (j - 1) = hg at *
      have Q1 := Lib.hid e1
      have Q2 := Lib.hid e2
      have Q3 := Lib.hid e3
      have Q4 := Lib.hid e4
      clear e1 e2 e3 e4
      have q1 : IntKind.i64.wrap (wd.tdiv 2) = hg := by rw [hq2, Int.mul_tdiv_cancel_left _ (by decide)]; exact i64_in _ ⟨by omega, by omega⟩
      have q2 : IntKind.i64.wrap (ln + hg) = ln + hg := i64_in _ ⟨by omega, by omega⟩
      have q3 : IntKind.i64.wrap (le + wd) = le + wd := i64_in _ ⟨by omega, by omega⟩
      have q4 : wd.tdiv 2 = hg := by rw [hq2, Int.mul_tdiv_cancel_left _ (by decide)]
      have q5 : wd / 2 = hg := by omega
      obtain ⟨y0, y1⟩ := hL.cells2
      obtain ⟨a0, a1, a2, a3⟩ := hA.cells4
      have hAl := hA.lt
      have hAf := hA.free
      clear hsz2 hb hq2
      go_wp2_with fail
      refine (HSO.out _).mono ?_
      rintro _ _ ⟨rfl, rfl⟩
      go_wp2_with fail
      have z5 := (((hA.put 0 (.int .i64 ln)).put 1 (.int .i64 le)).put 2 (.int .i64 (ln + hg))).put 3 (.int .i64 (le + wd))
      simp only [List.setIfInBounds_toArray, List.set_cons_zero, List.set_cons_succ] at z5
      obtain ⟨k0, k1, k2, k3⟩ := z5.cells4
      refine bodyPost_ret (v := .agg #[.int .i64 ln, .int .i64 le, .int .i64 (ln + hg), .int .i64 (le + wd)]) (by simp [results, Tryz.results16, go_sem, k0, k1, k2, k3]) rfl ⟨by rw [Q1.out, Q2.out, Q3.out, Q4.out], ?_⟩
      exact gr_put (gr_put (gr_put (gr_put hgr (.inr (by simp)) _) (.inr (by simp)) _) (.inr (by simp)) _) (.inr (by simp)) _
end Go.Proofs.YtbaocnbppefciaaGreat
