/- The walks over AreaOf, Middle, Locator, Within at right sites and strings of right signs. Condition: the signs are right. -/
import Derived.Test.YtnapbnkbchaanaaGreatDoorLoc3
namespace Go.Proofs.YtnapbnkbchaanaaGreatDoor
open Go.RowKit
set_option linter.unusedVariables false
set_option linter.unusedSimpArgs false

theorem strOf_get (xs : List Int) (i : Nat) (h : i < (strOfNums xs).size) (hb : ∀ y ∈ xs, 0 ≤ y ∧ y < 256) : (((strOfNums xs)[i].toNat : Nat) : Int) = sgn xs i := by
  have hl : i < xs.length := by rw [strOfNums_size] at h; exact h
  have e : (strOfNums xs)[i] = UInt8.ofNat (xs[i]).toNat := by
    show (strOfNums xs).data[i] = _
    simp [strOfNums]
  rw [e]
  have := hb xs[i] (List.getElem_mem hl)
  have hs : sgn xs i = xs[i] := by simp [sgn, List.getD, hl]
  rw [hs, UInt8.toNat_ofNat']
  omega
theorem locS_of (n e : Int) (m : Nat) (h : siteE n e = 0) (hm0 : 0 < m) (hm : m ≤ 3) : LocS (strOfNums (locL n e m)) (sgn (locL n e m)) m := by
  obtain ⟨a0, a1, b0, b1⟩ := siteE_rng h
  have hs := (locL_sgn n e m hm a0 a1 b0 b1 hm0).1
  have hl : (locL n e m).length = 2 * m := locFrom_len _ _ _ _
  refine ⟨hm0, hm, by rw [strOfNums_size, hl], fun i hi => strOf_get _ i hi (fun y hy => ?_), hs⟩
  obtain ⟨k, hk, rfl⟩ := List.getElem_of_mem hy
  have hk2 : sgn (locL n e m) k = (locL n e m)[k] := by simp [sgn, List.getD, hk]
  have h1 := hs (k / 2) (by omega)
  have h2 := lv_bd (k / 2) (by omega)
  rcases (by omega : k = 2 * (k / 2) ∨ k = 2 * (k / 2) + 1) with e' | e'
  · rw [← e', hk2] at h1; omega
  · rw [← e', hk2] at h1; omega

set_option maxHeartbeats 2000000 in
theorem middle_ok (s : ByteArray) (x : Nat → Int) (m : Nat) (w : World) (h : LocS s x m) :
    Calls Tryz.prog 95 #[.string s] w fun r w' => r = .returned (.agg #[.int .i64 (lowNo x m + lvHigh (m - 1) / 2), .int .i64 (lowEa x m + lvWide (m - 1) / 2)]) ∧ w.grownBy w' none := by
  have HA := Lib.hid (fun W => area_ok s x m W h)
  have hb := low_bd x m h.m3 h.ok m (Nat.le_refl _)
  obtain ⟨b0, b1, b2⟩ := hb
  obtain ⟨b3, b4⟩ := b2 h.m0
  obtain ⟨-, -, -, -, w0, w1, g0, g1, -⟩ := lv_bd (m - 1) (by have := h.m3; have := h.m0; omega)
  clear h b2
  generalize q1 : lowEa x m = le at *
  generalize q2 : lowNo x m = ln at *
  generalize q3 : lvWide (m - 1) = wd at *
  generalize q4 : lvHigh (m - 1) = hg at *
  have Q1 := Lib.hid q1
  have Q2 := Lib.hid q2
  have Q3 := Lib.hid q3
  have Q4 := Lib.hid q4
  clear q1 q2 q3 q4
  go_enter Tryz.func95, Tryz.ntmps95
  go_wp2_with fail
  have hB := Blk.new w 62 #[.int .i64 0, .int .i64 0]
  refine (HA.out _).mono ?_
  rintro _ w2 ⟨rfl, hgg⟩
  replace hB := hB.grown hgg (by simp)
  have hG := gr_trans (World.grownBy_alloc w (.cells #[.int .i64 0, .int .i64 0] 62) none) hgg
  obtain ⟨v0, v1⟩ := hB.cells2
  have hf := hB.free
  have hBl := hB.lt
  clear hgg
  have e1 : 0 ≤ ln + hg - ln := by omega
  have e2 : 0 ≤ le + wd - le := by omega
  go_wp2_with fail
  have hR := (((hB.put 0 (.int .i64 (ln + (ln + hg - ln) / 2))).put 1 (.int .i64 (le + (le + wd - le) / 2))))
  simp only [List.setIfInBounds_toArray, List.set_cons_zero, List.set_cons_succ] at hR
  have hR2 := hR.alloc (.cells #[.int .i64 ln, .int .i64 le, .int .i64 (ln + hg), .int .i64 (le + wd)] 194)
  obtain ⟨r0, r1⟩ := hR2.cells2
  refine bodyPost_ret (v := .agg #[.int .i64 (ln + (ln + hg - ln) / 2), .int .i64 (le + (le + wd - le) / 2)]) (by simp [results, Tryz.results95, go_sem, r0, r1]) rfl ⟨?_, ?_⟩
  · rw [show ln + (ln + hg - ln) / 2 = ln + hg / 2 by omega, show le + (le + wd - le) / 2 = le + wd / 2 by omega]
  · exact gr_alloc (gr_put (gr_put hG (.inr (by simp)) _) (.inr (by simp)) _) _

end Go.Proofs.YtnapbnkbchaanaaGreatDoor
