/- The walk over the reference's MiddleOf. Condition: the signs are right. -/
import Derived.Test.YtbaocnbppefciaaGreatAreaFor
namespace Go.Proofs.YtbaocnbppefciaaGreat
open Go.RowKit
set_option linter.unusedVariables false

set_option maxHeartbeats 2000000 in
theorem middleOf_ok (s : ByteArray) (x : Nat → Int) (m : Nat) (w : World) (h : LocS s x m) :
    Calls Tryz.prog 17 #[.string s] w fun r w' => r = .returned (.agg #[.int .i64 (lowNo x m + lvHigh (m - 1) / 2), .int .i64 (lowEa x m + lvWide (m - 1) / 2)]) ∧ w.grownBy w' none := by
  have HA := Lib.hid (fun W => areaFor_ok s x m W h)
  have hb := low_bd x m h.m3 h.ok m (Nat.le_refl _)
  obtain ⟨b0, b1, b2⟩ := hb
  obtain ⟨b3, b4⟩ := b2 h.m0
  have hm0 := h.m0
  have hm3 := h.m3
  have hev : lvHigh (m - 1) = 2 * (lvHigh (m - 1) / 2) ∧ lvWide (m - 1) = 2 * (lvWide (m - 1) / 2) := by
    rcases (by omega : m = 1 ∨ m = 2 ∨ m = 3) with rfl | rfl | rfl <;> exact ⟨rfl, rfl⟩
  obtain ⟨v1, v2⟩ := hev
  obtain ⟨-, -, -, -, w0, w1, g0, g1, -⟩ := lv_bd (m - 1) (by have := h.m3; have := h.m0; omega)
  clear h b2
  generalize q1 : lowEa x m = le at *
  generalize q2 : lowNo x m = ln at *
  generalize q3 : lvWide (m - 1) = wd at *
  generalize q4 : lvHigh (m - 1) = hg at *
  have Q1 := Lib.hid q1
  have Q2 := Lib.hid q2
  have Q3 := Lib.hid q3
  have Q4 := Lib.hid q4
  obtain ⟨c, hc⟩ : ∃ c, hg / 2 = c := ⟨_, rfl⟩
  obtain ⟨d, hd⟩ : ∃ d, wd / 2 = d := ⟨_, rfl⟩
  rw [hc] at v1 ⊢
  rw [hd] at v2 ⊢
  have t1 : (ln + (ln + hg)).tdiv 2 = ln + c := by rw [show ln + (ln + hg) = 2 * (ln + c) by omega, Int.mul_tdiv_cancel_left _ (by decide)]
  have t2 : (le + (le + wd)).tdiv 2 = le + d := by rw [show le + (le + wd) = 2 * (le + d) by omega, Int.mul_tdiv_cancel_left _ (by decide)]
  have u1 : IntKind.i64.wrap (ln + (ln + hg)) = ln + (ln + hg) := i64_in _ ⟨by omega, by omega⟩
  have u2 : IntKind.i64.wrap (le + (le + wd)) = le + (le + wd) := i64_in _ ⟨by omega, by omega⟩
  have u3 : IntKind.i64.wrap ((ln + (ln + hg)).tdiv 2) = ln + c := by rw [t1]; exact i64_in _ ⟨by omega, by omega⟩
  have u4 : IntKind.i64.wrap ((le + (le + wd)).tdiv 2) = le + d := by rw [t2]; exact i64_in _ ⟨by omega, by omega⟩
  clear q1 q2 q3 q4 hc hd v1 v2 t1 t2
  go_enter Tryz.func17, Tryz.ntmps17
  go_wp2_with fail
  have hB := Blk.new w 27 #[.int .i64 0, .int .i64 0]
  refine (HA.out _).mono ?_
  rintro _ w2 ⟨rfl, hgg⟩
  replace hB := hB.grown hgg (by simp)
  have hG := gr_trans (World.grownBy_alloc w (.cells #[.int .i64 0, .int .i64 0] 27) none) hgg
  obtain ⟨v0, v1⟩ := hB.cells2
  have hf := hB.free
  have hBl := hB.lt
  clear hgg
  go_wp2_with fail
  have hR := (((hB.put 0 (.int .i64 (ln + c))).put 1 (.int .i64 (le + d))))
  simp only [List.setIfInBounds_toArray, List.set_cons_zero, List.set_cons_succ] at hR
  have hR2 := hR.alloc (.cells #[.int .i64 ln, .int .i64 le, .int .i64 (ln + hg), .int .i64 (le + wd)] 39)
  obtain ⟨r0, r1⟩ := hR2.cells2
  refine bodyPost_ret (v := .agg #[.int .i64 (ln + c), .int .i64 (le + d)]) (by simp [results, Tryz.results17, go_sem, r0, r1]) rfl ⟨rfl, ?_⟩
  exact gr_alloc (gr_put (gr_put hG (.inr (by simp)) _) (.inr (by simp)) _) _
end Go.Proofs.YtbaocnbppefciaaGreat
