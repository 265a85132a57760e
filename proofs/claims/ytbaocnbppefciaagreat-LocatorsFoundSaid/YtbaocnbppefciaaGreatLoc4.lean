/- The walks over AreaOf, Middle, Locator, Within at right sites and strings of right signs. Condition: the signs are right. -/
import Derived.Test.YtbaocnbppefciaaGreatLoc3
namespace Go.Proofs.YtbaocnbppefciaaGreat
open Go.RowKit
set_option linter.unusedVariables false
set_option linter.unusedSimpArgs false

theorem strOf_get (xs : List Int) (i : Nat) (h : i < (strOfNums xs).size) (hb : ∀ y ∈ xs, 0 ≤ y ∧ y < 256) : (((strOfNums xs)[i].toNat : Nat) : Int) = sgn xs i := by
  have hl : i < xs.length := by rw [strOfNums_size] at h; exact h
  have e : (strOfNums xs)[i] = UInt8.ofNat (xs[i]).toNat := by
    show (strOfNums xs).data[i] = _
    simp [strOfNums]
  rw [e]
  have := hb xs[i] (List.getElem_mem hl)
  have hs : sgn xs i = xs[i] := by simp [sgn, List.getD, hl]
  rw [hs, UInt8.toNat_ofNat']
  omega
theorem locS_of (n e : Int) (m : Nat) (h : siteE n e = 0) (hm0 : 0 < m) (hm : m ≤ 3) : LocS (strOfNums (locL n e m)) (sgn (locL n e m)) m := by
  obtain ⟨a0, a1, b0, b1⟩ := siteE_rng h
  have hs := (locL_sgn n e m hm a0 a1 b0 b1 hm0).1
  have hl : (locL n e m).length = 2 * m := locFrom_len _ _ _ _
  refine ⟨hm0, hm, by rw [strOfNums_size, hl], fun i hi => strOf_get _ i hi (fun y hy => ?_), hs⟩
  obtain ⟨k, hk, rfl⟩ := List.getElem_of_mem hy
  have hk2 : sgn (locL n e m) k = (locL n e m)[k] := by simp [sgn, List.getD, hk]
  have h1 := hs (k / 2) (by omega)
  have h2 := lv_bd (k / 2) (by omega)
  rcases (by omega : k = 2 * (k / 2) ∨ k = 2 * (k / 2) + 1) with e' | e'
  · rw [← e', hk2] at h1; omega
  · rw [← e', hk2] at h1; omega

set_option maxHeartbeats 1000000 in
theorem areaOf_ok (s : ByteArray) (x : Nat → Int) (m : Nat) (w : World) (h : LocS s x m) :
    Calls Tryz.prog 13 #[.string s] w fun r w' => r = .returned (.tuple #[.agg #[.int .i64 (lowNo x m), .int .i64 (lowEa x m), .int .i64 (lowNo x m + lvHigh (m - 1)), .int .i64 (lowEa x m + lvWide (m - 1))], .int .i64 0]) ∧ w.grownBy w' none := by
  have HI := Lib.hid (fun W => isLocator_ok s x m W h)
  have HA := Lib.hid (fun W => area_ok s x m W h)
  clear h
  generalize lowNo x m = a0 at *
  generalize lowEa x m = a1 at *
  generalize a0 + lvHigh (m - 1) = a2 at *
  generalize a1 + lvWide (m - 1) = a3 at *
  go_enter Tryz.func13, Tryz.ntmps13
  go_wp2_with fail
  have hB := Blk.new w 39 #[.int .i64 0, .int .i64 0, .int .i64 0, .int .i64 0]
  refine (HI.out _).mono ?_
  rintro _ w1 ⟨rfl, hg⟩
  replace hB := hB.grown hg (by simp)
  have hG := gr_trans (World.grownBy_alloc w (.cells #[.int .i64 0, .int .i64 0, .int .i64 0, .int .i64 0] 39) none) hg
  clear hg
  go_wp2_with fail
  refine (HA.out _).mono ?_
  rintro _ w2 ⟨rfl, hg⟩
  replace hB := hB.grown hg (by simp)
  replace hG := gr_trans hG hg
  obtain ⟨v0, v1, v2, v3⟩ := hB.cells4
  have hf := hB.free
  have hBl := hB.lt
  clear hg
  go_wp2_with fail
  have hR := ((((hB.put 0 (.int .i64 a0)).put 1 (.int .i64 a1)).put 2 (.int .i64 a2)).put 3 (.int .i64 a3))
  simp only [List.setIfInBounds_toArray, List.set_cons_zero, List.set_cons_succ] at hR
  obtain ⟨r0, r1, r2, r3⟩ := hR.cells4
  refine bodyPost_ret (v := .tuple #[.agg #[.int .i64 a0, .int .i64 a1, .int .i64 a2, .int .i64 a3], .int .i64 0]) (by simp [results, Tryz.results13, go_sem, r0, r1, r2, r3]) rfl ⟨rfl, ?_⟩
  exact gr_put (gr_put (gr_put (gr_put hG (.inr (by simp)) _) (.inr (by simp)) _) (.inr (by simp)) _) (.inr (by simp)) _

set_option maxHeartbeats 2000000 in
theorem middle_ok (s : ByteArray) (x : Nat → Int) (m : Nat) (w : World) (h : LocS s x m) :
    Calls Tryz.prog 40 #[.string s] w fun r w' => r = .returned (.agg #[.int .i64 (lowNo x m + lvHigh (m - 1) / 2), .int .i64 (lowEa x m + lvWide (m - 1) / 2)]) ∧ w.grownBy w' none := by
  have HA := Lib.hid (fun W => area_ok s x m W h)
  have hb := low_bd x m h.m3 h.ok m (Nat.le_refl _)
  obtain ⟨b0, b1, b2⟩ := hb
  obtain ⟨b3, b4⟩ := b2 h.m0
  obtain ⟨-, -, -, -, w0, w1, g0, g1, -⟩ := lv_bd (m - 1) (by have := h.m3; have := h.m0; omega)
  clear h b2
  generalize q1 : lowEa x m = le at *
  generalize q2 : lowNo x m = ln at *
  generalize q3 : lvWide (m - 1) = wd at *
  generalize q4 : lvHigh (m - 1) = hg at *
  have Q1 := Lib.hid q1
  have Q2 := Lib.hid q2
  have Q3 := Lib.hid q3
  have Q4 := Lib.hid q4
  clear q1 q2 q3 q4
  go_enter Tryz.func40, Tryz.ntmps40
  go_wp2_with fail
  have hB := Blk.new w 27 #[.int .i64 0, .int .i64 0]
  refine (HA.out _).mono ?_
  rintro _ w2 ⟨rfl, hgg⟩
  replace hB := hB.grown hgg (by simp)
  have hG := gr_trans (World.grownBy_alloc w (.cells #[.int .i64 0, .int .i64 0] 27) none) hgg
  obtain ⟨v0, v1⟩ := hB.cells2
  have hf := hB.free
  have hBl := hB.lt
  clear hgg
  have e1 : 0 ≤ ln + hg - ln := by omega
  have e2 : 0 ≤ le + wd - le := by omega
  go_wp2_with fail
  have hR := (((hB.put 0 (.int .i64 (ln + (ln + hg - ln) / 2))).put 1 (.int .i64 (le + (le + wd - le) / 2))))
  simp only [List.setIfInBounds_toArray, List.set_cons_zero, List.set_cons_succ] at hR
  have hR2 := hR.alloc (.cells #[.int .i64 ln, .int .i64 le, .int .i64 (ln + hg), .int .i64 (le + wd)] 39)
  obtain ⟨r0, r1⟩ := hR2.cells2
  refine bodyPost_ret (v := .agg #[.int .i64 (ln + (ln + hg - ln) / 2), .int .i64 (le + (le + wd - le) / 2)]) (by simp [results, Tryz.results40, go_sem, r0, r1]) rfl ⟨?_, ?_⟩
  · rw [show ln + (ln + hg - ln) / 2 = ln + hg / 2 by omega, show le + (le + wd - le) / 2 = le + wd / 2 by omega]
  · exact gr_alloc (gr_put (gr_put hG (.inr (by simp)) _) (.inr (by simp)) _) _

set_option maxHeartbeats 1000000 in
theorem middleS_ok (s : ByteArray) (x : Nat → Int) (m : Nat) (w : World) (h : LocS s x m) :
    Calls Tryz.prog 14 #[.string s] w fun r w' => r = .returned (.tuple #[.agg #[.int .i64 (lowNo x m + lvHigh (m - 1) / 2), .int .i64 (lowEa x m + lvWide (m - 1) / 2)], .int .i64 0]) ∧ w.grownBy w' none := by
  have HI := Lib.hid (fun W => isLocator_ok s x m W h)
  have HA := Lib.hid (fun W => middle_ok s x m W h)
  clear h
  generalize lowNo x m + lvHigh (m - 1) / 2 = a0 at *
  generalize lowEa x m + lvWide (m - 1) / 2 = a1 at *
  go_enter Tryz.func14, Tryz.ntmps14
  go_wp2_with fail
  have hB := Blk.new w 27 #[.int .i64 0, .int .i64 0]
  refine (HI.out _).mono ?_
  rintro _ w1 ⟨rfl, hg⟩
  replace hB := hB.grown hg (by simp)
  have hG := gr_trans (World.grownBy_alloc w (.cells #[.int .i64 0, .int .i64 0] 27) none) hg
  clear hg
  go_wp2_with fail
  refine (HA.out _).mono ?_
  rintro _ w2 ⟨rfl, hg⟩
  replace hB := hB.grown hg (by simp)
  replace hG := gr_trans hG hg
  obtain ⟨v0, v1⟩ := hB.cells2
  have hf := hB.free
  have hBl := hB.lt
  clear hg
  go_wp2_with fail
  have hR := ((hB.put 0 (.int .i64 a0)).put 1 (.int .i64 a1))
  simp only [List.setIfInBounds_toArray, List.set_cons_zero, List.set_cons_succ] at hR
  obtain ⟨r0, r1⟩ := hR.cells2
  refine bodyPost_ret (v := .tuple #[.agg #[.int .i64 a0, .int .i64 a1], .int .i64 0]) (by simp [results, Tryz.results14, go_sem, r0, r1]) rfl ⟨rfl, ?_⟩
  exact gr_put (gr_put hG (.inr (by simp)) _) (.inr (by simp)) _

set_option maxHeartbeats 1000000 in
theorem locatorE_ok (n e : Int) (m : Nat) (w : World) (hm0 : 0 < m) (hm : m ≤ 3) (h : siteE n e = 0) :
    Calls Tryz.prog 20 #[.agg #[.int .i64 n, .int .i64 e], .int .i64 (2 * m : Nat)] w fun r w' => r = .returned (.tuple #[.string (strOfNums (locL n e m)), .int .i64 0]) ∧ w.grownBy w' none := by
  obtain ⟨a0, a1, b0, b1⟩ := siteE_rng h
  have HLo := Lib.hid (fun W => locator_any n e m W hm0 hm a0 a1 b0 b1)
  have HE := Lib.hid h
  generalize locL n e m = L at *
  clear h
  have hx := Blk.new w 27 #[.int .i64 n, .int .i64 e]
  have hG := World.grownBy_alloc w (.cells #[.int .i64 n, .int .i64 e] 27) none
  rcases (by omega : m = 1 ∨ m = 2 ∨ m = 3) with rfl | rfl | rfl
  all_goals
    go_enter Tryz.func20, Tryz.ntmps20
    go_wp2_with fail
    refine (checkSite_any n e _).mono ?_
    rintro _ w1 ⟨rfl, hg⟩
    rw [HE.out]
    replace hx := hx.grown hg (by simp)
    replace hG := gr_trans hG hg
    obtain ⟨x0, x1⟩ := hx.cells2
    clear hg
    go_wp2_with fail
    refine (HLo.out _).mono ?_
    rintro _ w2 ⟨rfl, hg⟩
    go_wp2_with fail
    go_ret2
    exact ⟨rfl, gr_trans hG hg⟩

set_option maxHeartbeats 2000000 in
theorem within_ok (a b : ByteArray) (xa xb : Nat → Int) (ma mb : Nat) (w : World) (ha : LocS a xa ma) (hb : LocS b xb mb) (hle : b.size ≤ a.size) (hex : a.extract 0 b.size = b) :
    Calls Tryz.prog 24 #[.string a, .string b] w fun r w' => r = .returned (.tuple #[.bool true, .int .i64 0]) ∧ w.grownBy w' none := by
  have HI := Lib.hid (fun W => isLocator_ok a xa ma W ha)
  have HJ := Lib.hid (fun W => isLocator_ok b xb mb W hb)
  have hle2 : (b.size : Int) ≤ (a.size : Int) := by omega
  clear ha hb
  go_enter Tryz.func24, Tryz.ntmps24
  go_wp2_with fail
  refine (HI.out _).mono ?_
  rintro _ w1 ⟨rfl, hg1⟩
  go_wp2_with fail
  refine (HJ.out _).mono ?_
  rintro _ w2 ⟨rfl, hg2⟩
  go_wp2_with fail
  go_ret2
  exact ⟨by simp [hex], gr_trans hg1 hg2⟩
end Go.Proofs.YtbaocnbppefciaaGreat
