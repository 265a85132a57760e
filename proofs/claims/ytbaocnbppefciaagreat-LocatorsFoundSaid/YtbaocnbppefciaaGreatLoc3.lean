/- The walks over area and middle at strings of right signs. Condition: the signs are right. -/
import Derived.Test.YtbaocnbppefciaaGreatLoc2
import Derived.Deep.RegionLaw
import Derived.StillTailTactics
namespace Go.Proofs.YtbaocnbppefciaaGreat
open Go.RowKit
set_option linter.unusedVariables false
set_option linter.unusedSimpArgs false

theorem low_succ {x : Nat → Int} {m : Nat} (hm : m ≤ 3) (h : LocOk x m) (j : Nat) (hj : j < m) :
    -648000 ≤ lowEa x j ∧ lowEa x j ≤ 648000 ∧ -324000 ≤ lowNo x j ∧ lowNo x j ≤ 324000 := by
  have hb := low_bd x m hm h j (by omega)
  refine ⟨hb.1, ?_, hb.2.1, ?_⟩
  · rcases Nat.eq_zero_or_pos j with rfl | h0
    · simp [lowEa]
    · have := (hb.2.2 h0).1
      have := (lv_bd (j - 1) (by omega)).2.2.2.2.1
      omega
  · rcases Nat.eq_zero_or_pos j with rfl | h0
    · simp [lowNo]
    · have := (hb.2.2 h0).2
      have := (lv_bd (j - 1) (by omega)).2.2.2.2.2.2.1
      omega

set_option maxRecDepth 100000 in
set_option maxHeartbeats 4000000 in
theorem area_ok (s : ByteArray) (x : Nat → Int) (m : Nat) (w : World) (h : LocS s x m) :
    Calls Tryz.prog 39 #[.string s] w fun r w' => r = .returned (.agg #[.int .i64 (lowNo x m), .int .i64 (lowEa x m), .int .i64 (lowNo x m + lvHigh (m - 1)), .int .i64 (lowEa x m + lvWide (m - 1))]) ∧ w.grownBy w' none := by
  have HS := Lib.hid h
  have hsz := h.size
  have h0 := h.m0
  have h3 := h.m3
  have HSZ := Lib.hid hsz
  clear h hsz
  have hb6 : s.size ≤ 6 := by have := HSZ.out; omega
  go_enter Tryz.func39, Tryz.ntmps39
  go_wp2_with fail
  go_loopw [5] (fun i wr => ∃ (j : Nat) (a b c d : Value), j ≤ m ∧ i = .int .i64 (2 * j : Nat) ∧ Blk wr (w.heap.size + 1) 27 #[.int .i64 (lowNo x j), .int .i64 (lowEa x j)] ∧ Blk wr (w.heap.size + 1 + 1) 68 #[a, b, c, d] ∧ (0 < j → c = .int .i64 (lvWide (j - 1)) ∧ d = .int .i64 (lvHigh (j - 1))) ∧ Blk wr w.heap.size 39 #[.int .i64 0, .int .i64 0, .int .i64 0, .int .i64 0] ∧ w.grownBy wr none) (fun i _ => 6 - (intOf i).toNat)
  case atStart =>
    have z1 := Blk.new w 39 #[.int .i64 0, .int .i64 0, .int .i64 0, .int .i64 0]
    have z2 := Blk.new (w.alloc (.cells #[.int .i64 0, .int .i64 0, .int .i64 0, .int .i64 0] 39)) 27 #[.int .i64 (-324000), .int .i64 (-648000)]
    have z3 := Blk.new ((w.alloc (.cells #[.int .i64 0, .int .i64 0, .int .i64 0, .int .i64 0] 39)).alloc (.cells #[.int .i64 (-324000), .int .i64 (-648000)] 27)) 68 #[.int .i64 0, .int .u8 0, .int .i64 0, .int .i64 0]
    rw [World.size_alloc] at z2
    rw [World.size_alloc, World.size_alloc] at z3
    exact ⟨0, _, _, _, _, by omega, rfl, z2.alloc _, z3, fun hh => absurd hh (by omega), (z1.alloc _).alloc _, gr_alloc (gr_alloc (gr_alloc (gr_refl _ _) _) _) _⟩
  case round =>
    obtain ⟨j, a, b, c, d, hj, rfl, hL, hV, hcd, hA, hgr⟩ := hrel
    by_cases hlt : j < m
    · obtain ⟨e0, e1, e2, e3⟩ := low_succ h3 HS.out.ok j hlt
      obtain ⟨o0, o1, o2, o3⟩ := HS.out.ok j hlt
      have hg0 := HS.out.dig (2 * j) (by have := HSZ.out; omega)
      have hg1 := HS.out.dig (2 * j + 1) (by have := HSZ.out; omega)
      obtain ⟨l0, l1, l2, l3, l4, l5, l6, l7, -⟩ := lv_bd j (by omega)
      have hB := Blk.new wr 68 lvCells
      obtain ⟨c0, c1, c2, c3⟩ := lv_cells hB j (by omega)
      have HE : Hid (lowEa x (j + 1) = lowEa x j + (x (2 * j) - lvFirst j) * lvWide j) := rfl
      have HN : Hid (lowNo x (j + 1) = lowNo x j + (x (2 * j + 1) - lvFirst j) * lvHigh j) := rfl
      have HWd : Hid (lvWide (j + 1 - 1) = lvWide j) := rfl
      have HHg : Hid (lvHigh (j + 1 - 1) = lvHigh j) := rfl
      generalize lvMany j = mn at *
      generalize lvFirst j = f at *
      generalize lvWide j = wd at *
      generalize lvHigh j = hg at *
      generalize lowEa x j = le at *
      generalize lowNo x j = ln at *
      generalize x (2 * j) = p at *
      generalize x (2 * j + 1) = q at *
      obtain ⟨K, hK⟩ : ∃ K, 2 * j = K := ⟨_, rfl⟩
      rw [hK]
      have hsz2 := HSZ.out
      have hK1 : K < s.size := by omega
      obtain ⟨M, hM⟩ : ∃ M, K + 1 = M := ⟨_, rfl⟩
      have hK2 : M < s.size := by omega
      have hg0' : ((s[K].toNat : Nat) : Int) = p := by subst hK; exact hg0
      have hg1' : ((s[M].toNat : Nat) : Int) = q := by subst hM; subst hK; exact hg1
      have hK3 : (K : Int) < (s.size : Int) := by omega
      have hK4 : (M : Int) < (s.size : Int) := by omega
      have hj2 : (K : Int) / 2 = (j : Int) := by omega
      have hj3 : (j : Int) < 3 := by omega
      obtain ⟨Z1, hZ1⟩ : ∃ Z, (p - f) * wd = Z := ⟨_, rfl⟩
      obtain ⟨Z2, hZ2⟩ : ∃ Z, (q - f) * hg = Z := ⟨_, rfl⟩
      have hb1 : 0 ≤ Z1 ∧ Z1 ≤ 1728000 := by
        rw [← hZ1]
        exact ⟨Int.mul_nonneg (by omega) (by omega), by have := Int.mul_le_mul (a := p - f) (b := wd) (c := 24) (d := 72000) (by omega) (by omega) (by omega) (by omega); omega⟩
      have hb2 : 0 ≤ Z2 ∧ Z2 ≤ 1728000 := by
        rw [← hZ2]
        exact ⟨Int.mul_nonneg (by omega) (by omega), by have := Int.mul_le_mul (a := q - f) (b := hg) (c := 24) (d := 72000) (by omega) (by omega) (by omega) (by omega); omega⟩
      rw [hZ1] at HE
      rw [hZ2] at HN
      obtain ⟨z10, z11⟩ := hb1
      obtain ⟨z20, z21⟩ := hb2
      have u1 : IntKind.u8.wrap (p - f) = p - f := IntWalk.u8_in _ ⟨by omega, by omega⟩
      have u2 : IntKind.i64.wrap (p - f) = p - f := i64_in _ ⟨by omega, by omega⟩
      have u3 : IntKind.u8.wrap (q - f) = q - f := IntWalk.u8_in _ ⟨by omega, by omega⟩
      have u4 : IntKind.i64.wrap (q - f) = q - f := i64_in _ ⟨by omega, by omega⟩
      have u5 : IntKind.i64.wrap ((p - f) * wd) = Z1 := by rw [hZ1]; exact i64_in _ ⟨by omega, by omega⟩
      have u6 : IntKind.i64.wrap ((q - f) * hg) = Z2 := by rw [hZ2]; exact i64_in _ ⟨by omega, by omega⟩
      have u7 : IntKind.i64.wrap (le + Z1) = le + Z1 := i64_in _ ⟨by omega, by omega⟩
      have u8 : IntKind.i64.wrap (ln + Z2) = ln + Z2 := i64_in _ ⟨by omega, by omega⟩
      have u9 : IntKind.i64.wrap ((K : Int) + 1) = (M : Int) := by rw [show (K : Int) + 1 = (M : Int) by omega]; exact i64_in _ ⟨by omega, by omega⟩
      have hKM : (K : Int) + 1 = (M : Int) := by omega
      have u10 : IntKind.i64.wrap (M : Int) = (M : Int) := i64_in _ ⟨by omega, by omega⟩
      have HK := Lib.hid hK
      clear hK hM hsz2 hg0 hg1 hZ1 hZ2
      have hLl := hL.lt
      have hVl := hV.lt
      have hVf := hV.free
      have hLf := hL.free
      obtain ⟨v0, v1, v2, v3⟩ := hV.cells4
      go_wp2_with fail
      refine (levels_any _).mono ?_
      rintro _ _ ⟨rfl, rfl⟩
      have hV2 := hV.alloc (.cells lvCells 68)
      have hL2 := hL.alloc (.cells lvCells 68)
      have hA2 := hA.alloc (.cells lvCells 68)
      have hG2 := gr_alloc hgr (.cells lvCells 68)
      obtain ⟨v0', v1', v2', v3'⟩ := hV2.cells4
      have hVf2 := hV2.free
      go_wp2_with fail
      have hV3 := ((((hV.put 0 (.int .i64 mn)).put 1 (.int .u8 f)).put 2 (.int .i64 wd)).put 3 (.int .i64 hg)).alloc (.cells lvCells 68)
      simp only [List.setIfInBounds_toArray, List.set_cons_zero, List.set_cons_succ] at hV3
      have hL3 := ((((hL.far (p := ⟨w.heap.size + 1 + 1, 0, none⟩) (by simp) (.int .i64 mn)).far (p := ⟨w.heap.size + 1 + 1, 1, none⟩) (by simp) (.int .u8 f)).far (p := ⟨w.heap.size + 1 + 1, 2, none⟩) (by simp) (.int .i64 wd)).far (p := ⟨w.heap.size + 1 + 1, 3, none⟩) (by simp) (.int .i64 hg)).alloc (.cells lvCells 68)
      have hA3 := ((((hA.far (p := ⟨w.heap.size + 1 + 1, 0, none⟩) (by simp; omega) (.int .i64 mn)).far (p := ⟨w.heap.size + 1 + 1, 1, none⟩) (by simp; omega) (.int .u8 f)).far (p := ⟨w.heap.size + 1 + 1, 2, none⟩) (by simp; omega) (.int .i64 wd)).far (p := ⟨w.heap.size + 1 + 1, 3, none⟩) (by simp; omega) (.int .i64 hg)).alloc (.cells lvCells 68)
      have hG3 : w.grownBy (((((wr.setCell ⟨w.heap.size + 1 + 1, 0, none⟩ (.int .i64 mn)).setCell ⟨w.heap.size + 1 + 1, 1, none⟩ (.int .u8 f)).setCell ⟨w.heap.size + 1 + 1, 2, none⟩ (.int .i64 wd)).setCell ⟨w.heap.size + 1 + 1, 3, none⟩ (.int .i64 hg)).alloc (.cells lvCells 68)) none := gr_alloc (gr_put (gr_put (gr_put (gr_put hgr (.inr (by simp; omega)) _) (.inr (by simp; omega)) _) (.inr (by simp; omega)) _) (.inr (by simp; omega)) _) _
      generalize (((((wr.setCell ⟨w.heap.size + 1 + 1, 0, none⟩ (.int .i64 mn)).setCell ⟨w.heap.size + 1 + 1, 1, none⟩ (.int .u8 f)).setCell ⟨w.heap.size + 1 + 1, 2, none⟩ (.int .i64 wd)).setCell ⟨w.heap.size + 1 + 1, 3, none⟩ (.int .i64 hg)).alloc (.cells lvCells 68)) = W3 at *
      clear hV2 hL2 hA2 hG2 v0 v1 v2 v3 v0' v1' v2' v3' hVf hVf2 hLf hgr hL hV hA c0 c1 c2 c3 hB
      obtain ⟨v0, v1, v2, v3⟩ := hV3.cells4
      obtain ⟨y0, y1⟩ := hL3.cells2
      have hLf := hL3.free
      have y1d : W3.drew.cell? ⟨w.heap.size + 1, 1, none⟩ = some (.int .i64 le) := y1
      have hLfd : ∀ i, W3.drew.frozen? ⟨w.heap.size + 1, i, none⟩ = false := hLf
      go_still_tail 13, (by kernel_rfl)
      change wpList _ _ _ _ _ W3.drew
      replace hV3 := hV3.drew
      replace hL3 := hL3.drew
      replace hA3 := hA3.drew
      replace hG3 := gr_drew hG3
      clear y1d hLfd v0 v1 v2 v3 y0 y1 hLf
      generalize W3.drew = W4 at *
      obtain ⟨y0, y1⟩ := hL3.cells2
      have hLf := hL3.free
      go_wp2_with fail
      have hV5 := hV3.far (p := ⟨w.heap.size + 1, 1, none⟩) (by simp) (.int .i64 (le + Z1))
      have hL5 := hL3.put 1 (.int .i64 (le + Z1))
      simp only [List.setIfInBounds_toArray, List.set_cons_zero, List.set_cons_succ] at hL5
      have hA5 := hA3.far (p := ⟨w.heap.size + 1, 1, none⟩) (by simp) (.int .i64 (le + Z1))
      have hG5 : w.grownBy (W4.setCell ⟨w.heap.size + 1, 1, none⟩ (.int .i64 (le + Z1))) none := gr_put hG3 (.inr (by simp)) _
      clear hV3 hL3 hA3 hG3 y0 y1 hLf
      generalize W4.setCell ⟨w.heap.size + 1, 1, none⟩ (.int .i64 (le + Z1)) = W5 at *
      obtain ⟨v0, v1, v2, v3⟩ := hV5.cells4
      obtain ⟨y0, y1⟩ := hL5.cells2
      go_still_tail 14, (by kernel_rfl)
      change wpList _ _ _ _ _ W5.drew
      replace hV5 := hV5.drew
      replace hL5 := hL5.drew
      replace hA5 := hA5.drew
      replace hG5 := gr_drew hG5
      clear v0 v1 v2 v3 y0 y1
      generalize W5.drew = W6 at *
      obtain ⟨y0, y1⟩ := hL5.cells2
      have hLf := hL5.free
      go_wp2_with fail
      have hV7 := hV5.far (p := ⟨w.heap.size + 1, 0, none⟩) (by simp) (.int .i64 (ln + Z2))
      have hL7 := hL5.put 0 (.int .i64 (ln + Z2))
      simp only [List.setIfInBounds_toArray, List.set_cons_zero, List.set_cons_succ] at hL7
      have hA7 := hA5.far (p := ⟨w.heap.size + 1, 0, none⟩) (by simp) (.int .i64 (ln + Z2))
      have hG7 : w.grownBy (W6.setCell ⟨w.heap.size + 1, 0, none⟩ (.int .i64 (ln + Z2))) none := gr_put hG5 (.inr (by simp)) _
      go_roundw
      case rel => exact ⟨j + 1, _, _, _, _, by omega, by have := HK.out; show _ = Value.int .i64 _; congr 1; omega, by rw [HE.out, HN.out]; exact hL7, hV7, fun _ => ⟨by rw [HWd.out], by rw [HHg.out]⟩, hA7, hG7⟩
      case measure => have := HK.out; have := HSZ.out; simp [intOf]; omega
    · obtain rfl : j = m := by omega
      obtain ⟨hc1, hd1⟩ := hcd h0
      subst hc1
      subst hd1
      have hsz2 := HSZ.out
      obtain ⟨K, hK⟩ : ∃ K, 2 * j = K := ⟨_, rfl⟩
      rw [hK]
      have hK3 : ¬ (K : Int) < (s.size : Int) := by omega
      clear hK hsz2
      have hb := low_bd x j h3 HS.out.ok j (Nat.le_refl _)
      obtain ⟨b0, b1, b2⟩ := hb
      obtain ⟨b3, b4⟩ := b2 h0
      have hlv := lv_bd (j - 1) (by omega)
      obtain ⟨-, -, -, -, w0, w1, g0, g1, -⟩ := hlv
      obtain ⟨v0, v1, v2, v3⟩ := hV.cells4
      obtain ⟨y0, y1⟩ := hL.cells2
      obtain ⟨a0, a1, a2, a3⟩ := hA.cells4
      have hAf := hA.free
      have hAl := hA.lt
      generalize q1 : lowEa x j = le at *
      generalize q2 : lowNo x j = ln at *
      generalize q3 : lvWide (j - 1) = wd at *
      generalize q4 : lvHigh (j - 1) = hg at *
      have Q1 := Lib.hid q1
      have Q2 := Lib.hid q2
      have Q3 := Lib.hid q3
      have Q4 := Lib.hid q4
      clear q1 q2 q3 q4
      go_wp2_with fail
      have hR := ((((hA.put 0 (.int .i64 ln)).put 1 (.int .i64 le)).put 2 (.int .i64 (ln + hg))).put 3 (.int .i64 (le + wd)))
      simp only [List.setIfInBounds_toArray, List.set_cons_zero, List.set_cons_succ] at hR
      obtain ⟨r0, r1, r2, r3⟩ := hR.cells4
      refine bodyPost_ret (v := .agg #[.int .i64 ln, .int .i64 le, .int .i64 (ln + hg), .int .i64 (le + wd)]) (by simp [results, Tryz.results39, go_sem, r0, r1, r2, r3]) rfl ⟨by rw [Q1.out, Q2.out, Q3.out, Q4.out], ?_⟩
      exact gr_put (gr_put (gr_put (gr_put hgr (.inr (by simp)) _) (.inr (by simp)) _) (.inr (by simp)) _) (.inr (by simp)) _
end Go.Proofs.YtbaocnbppefciaaGreat
