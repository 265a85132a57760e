/- The walk over the reference's LocatorFor. Condition: a right site; two, four or six signs. -/
import Derived.Test.YtbaocnbppefciaaGreatLoc4
namespace Go.Proofs.YtbaocnbppefciaaGreat
open Go.RowKit
set_option linter.unusedVariables false
set_option linter.unusedSimpArgs false

theorem enc_num (v : Int) (h0 : 0 ≤ v) (h1 : v < 128) : Utf8.encode v = strOfNums [v] := by
  have h' : ∀ n : Fin 128, Utf8.encode ((n.val : Nat) : Int) = strOfNums [((n.val : Nat) : Int)] := by decide +kernel
  obtain ⟨k, rfl⟩ := Int.eq_ofNat_of_zero_le h0
  exact h' ⟨k, by omega⟩
theorem strOfNums_app (a b : List Int) : strOfNums (a ++ b) = strOfNums a ++ strOfNums b := by
  apply ByteArray.ext
  apply Array.toList_inj.1
  rw [ByteArray.data_append, Array.toList_append, strOfNums_data, strOfNums_data, strOfNums_data, List.map_append]
theorem strNum_one (v : Int) : (strOfNums [v]).size = 1 := strOfNums_size _

set_option maxRecDepth 100000 in
set_option maxHeartbeats 2000000 in
theorem letters_any (x q : Int) (w : World) (x0 : 0 ≤ x) (x1 : x ≤ 1000000) (q0 : 1 ≤ q) (q1 : q ≤ 24) :
    Calls Tryz.prog 51 #[.int .i64 x, .int .i64 q] w fun e w' => e = .returned (.string (strOfNums [97 + x % q])) ∧ w = w' := by
  have ht : x.tmod q = x % q := Int.tmod_eq_emod_of_nonneg x0
  have hm0 : 0 ≤ x % q := Int.emod_nonneg _ (by omega)
  have hm1 : x % q < q := Int.emod_lt_of_pos _ (by omega)
  have HE := Lib.hid (enc_num (97 + x % q) (by omega) (by omega))
  obtain ⟨y, hy⟩ : ∃ y, x % q = y := ⟨_, rfl⟩
  rw [hy] at ht hm0 hm1 HE ⊢
  have u1 : IntKind.i64.wrap (x.tmod q) = y := by rw [ht]; exact i64_in _ ⟨by omega, by omega⟩
  have u2 : IntKind.i64.wrap (97 + y) = 97 + y := i64_in _ ⟨by omega, by omega⟩
  have u3 : IntKind.i32.wrap (97 + y) = 97 + y := IntWalk.i32_in _ ⟨by omega, by omega⟩
  have v1 : ¬ q = 0 := by omega
  clear hy
  go_enter Tryz.func51, Tryz.ntmps51
  go_wp2_with fail
  go_ret
  exact ⟨by rw [HE.out]; rfl, rfl⟩

theorem locFor1 (E N : Int) : locFrom 0 1 E N = [97 + E / 72000] ++ [97 + N / 36000] := by simp [locFrom, lvFirst, lvWide, lvHigh]
theorem locFor2 (E N : Int) : locFrom 0 2 E N = (([97 + E / 72000] ++ [97 + N / 36000]) ++ ([48 + E / 7200 % 10] ++ [48 + N / 3600 % 10])) := by
  simp [locFrom, lvFirst, lvWide, lvHigh]; omega
theorem locFor3 (E N : Int) : locFrom 0 3 E N = ((([97 + E / 72000] ++ [97 + N / 36000]) ++ ([48 + E / 7200 % 10] ++ [48 + N / 3600 % 10])) ++ ([97 + E / 300 % 24] ++ [97 + N / 150 % 24])) := by
  simp [locFrom, lvFirst, lvWide, lvHigh]; omega
theorem quo_of {e d x : Int} (h0 : 0 ≤ e) (h1 : e < 2000000) (hd : 1 ≤ d) (hx : e / d = x) : 0 ≤ x ∧ x < 2000000 ∧ e.tdiv d = x ∧ IntKind.i64.wrap (e.tdiv d) = x := by
  have h2 : 0 ≤ x := by rw [← hx]; exact Int.ediv_nonneg h0 (by omega)
  have h3 : x ≤ e := by rw [← hx]; exact Int.ediv_le_self _ h0
  have h4 : e.tdiv d = x := by rw [← hx]; exact Int.tdiv_eq_ediv_of_nonneg h0
  exact ⟨h2, by omega, h4, by rw [h4]; exact i64_in _ ⟨by omega, by omega⟩⟩

set_option maxRecDepth 100000 in
set_option maxHeartbeats 4000000 in
theorem locatorFor_any (n e : Int) (m : Nat) (w : World) (hm0 : 0 < m) (hm : m ≤ 3) (n0 : -324000 ≤ n) (n1 : n ≤ 324000) (e0 : -648000 ≤ e) (e1 : e ≤ 647999) :
    Calls Tryz.prog 23 #[.agg #[.int .i64 n, .int .i64 e], .int .i64 (2 * m : Nat)] w fun r w' => r = .returned (.string (strOfNums (locL n e m))) ∧ w.grownBy w' none := by
  have hx := Blk.new w 27 #[.int .i64 n, .int .i64 e]
  have hG := World.grownBy_alloc w (.cells #[.int .i64 n, .int .i64 e] 27) none
  have HL : Hid (locL n e m = locFrom 0 m (e + 648000) (min (n + 324000) 647999)) := rfl
  have m1 : IntKind.i64.wrap (e + 648000) = e + 648000 := i64_in _ ⟨by omega, by omega⟩
  have m2 : IntKind.i64.wrap (n + 324000) = n + 324000 := i64_in _ ⟨by omega, by omega⟩
  have hNN : ∃ N0 : Int, min (n + 324000) 647999 = N0 ∧ ((n + 324000 ≤ 647999 ∧ N0 = n + 324000) ∨ (647999 < n + 324000 ∧ N0 = 647999)) := ⟨_, rfl, by omega⟩
  obtain ⟨N0, hN1, hN2⟩ := hNN
  rw [hN1] at HL
  have hN3 : 0 ≤ N0 ∧ N0 ≤ 647999 := by omega
  have HN1 := Lib.hid hN1
  clear hN1
  obtain ⟨c0, c1⟩ := hx.cells2
  have hE0 : 0 ≤ e + 648000 ∧ e + 648000 < 1296000 := by omega
  obtain ⟨x0, hx0⟩ : ∃ x, (e + 648000) / 72000 = x := ⟨_, rfl⟩
  obtain ⟨y0, hy0⟩ : ∃ x, N0 / 36000 = x := ⟨_, rfl⟩
  obtain ⟨x1, hx1⟩ : ∃ x, (e + 648000) / 7200 = x := ⟨_, rfl⟩
  obtain ⟨y1, hy1⟩ : ∃ x, N0 / 3600 = x := ⟨_, rfl⟩
  obtain ⟨x2, hx2⟩ : ∃ x, (e + 648000) / 300 = x := ⟨_, rfl⟩
  obtain ⟨y2, hy2⟩ : ∃ x, N0 / 150 = x := ⟨_, rfl⟩
  obtain ⟨a0, a1, a2, a3⟩ := quo_of (e := e + 648000) (by omega) (by omega) (by decide) hx0
  obtain ⟨b0, b1, b2, b3⟩ := quo_of (e := N0) (by omega) (by omega) (by decide) hy0
  obtain ⟨a4, a5, a6, a7⟩ := quo_of (e := e + 648000) (by omega) (by omega) (by decide) hx1
  obtain ⟨b4, b5, b6, b7⟩ := quo_of (e := N0) (by omega) (by omega) (by decide) hy1
  obtain ⟨a8, a9, a10, a11⟩ := quo_of (e := e + 648000) (by omega) (by omega) (by decide) hx2
  obtain ⟨b8, b9, b10, b11⟩ := quo_of (e := N0) (by omega) (by omega) (by decide) hy2
  have r0 : x0 % 18 = x0 := by omega
  have r1 : y0 % 18 = y0 := by omega
  have t1 : x1.tmod 10 = x1 % 10 := Int.tmod_eq_emod_of_nonneg a4
  have t2 : y1.tmod 10 = y1 % 10 := Int.tmod_eq_emod_of_nonneg b4
  have hd10 : 0 ≤ (x1 % 10) ∧ (x1 % 10) < 10 := by omega
  have hd20 : 0 ≤ (y1 % 10) ∧ (y1 % 10) < 10 := by omega
  have u1 : IntKind.i64.wrap (x1.tmod 10) = (x1 % 10) := by rw [t1]; exact i64_in _ ⟨by omega, by omega⟩
  have u2 : IntKind.i64.wrap (y1.tmod 10) = (y1 % 10) := by rw [t2]; exact i64_in _ ⟨by omega, by omega⟩
  have u3 : IntKind.i64.wrap (48 + (x1 % 10)) = 48 + (x1 % 10) := i64_in _ ⟨by omega, by omega⟩
  have u4 : IntKind.i64.wrap (48 + (y1 % 10)) = 48 + (y1 % 10) := i64_in _ ⟨by omega, by omega⟩
  have u5 : IntKind.i32.wrap (48 + (x1 % 10)) = 48 + (x1 % 10) := IntWalk.i32_in _ ⟨by omega, by omega⟩
  have u6 : IntKind.i32.wrap (48 + (y1 % 10)) = 48 + (y1 % 10) := IntWalk.i32_in _ ⟨by omega, by omega⟩
  have HE1 := Lib.hid (enc_num (48 + (x1 % 10)) (by omega) (by omega))
  have HE2 := Lib.hid (enc_num (48 + (y1 % 10)) (by omega) (by omega))
  have hz1 : (Utf8.encode (48 + x1 % 10)).size = 1 := by rw [HE1.out]; exact strNum_one _
  have hz2 : (Utf8.encode (48 + y1 % 10)).size = 1 := by rw [HE2.out]; exact strNum_one _
  have hz3 : (Utf8.encode 57).size = 1 := by decide +kernel
  have HL1 : Hid (m = 1 → strOfNums (locL n e m) = strOfNums [97 + x0] ++ strOfNums [97 + y0]) := fun h => by
    rw [HL.out, h, locFor1, hx0, hy0, strOfNums_app]
  have HL2 : Hid (m = 2 → strOfNums (locL n e m) = (strOfNums [97 + x0] ++ strOfNums [97 + y0]) ++ (strOfNums [48 + (x1 % 10)] ++ strOfNums [48 + (y1 % 10)])) := fun h => by
    rw [HL.out, h, locFor2, hx0, hy0, hx1, hy1, strOfNums_app, strOfNums_app, strOfNums_app]
  have HL3 : Hid (m = 3 → strOfNums (locL n e m) = ((strOfNums [97 + x0] ++ strOfNums [97 + y0]) ++ (strOfNums [48 + (x1 % 10)] ++ strOfNums [48 + (y1 % 10)])) ++ (strOfNums [97 + x2 % 24] ++ strOfNums [97 + y2 % 24])) := fun h => by
    rw [HL.out, h, locFor3, hx0, hy0, hx1, hy1, hx2, hy2, strOfNums_app, strOfNums_app, strOfNums_app, strOfNums_app, strOfNums_app]
  have HR0 := Lib.hid r0
  have HR1 := Lib.hid r1
  have hx02 : x0 ≤ 17 := by omega
  have hy02 : y0 ≤ 17 := by omega
  have hx22 : x2 ≤ 10000 := by omega
  have hy22 : y2 ≤ 10000 := by omega
  have HY0 := Lib.hid hy0
  have HY1 := Lib.hid hy1
  have HY2 := Lib.hid hy2
  clear hx0 hy0 hx1 hy1 hx2 hy2 r0 r1 t1 t2 a2 b2 a6 b6 a10 b10 HL
  have hmm : m = 1 ∨ m = 2 ∨ m = 3 := by omega
  rcases hmm with rfl | rfl | rfl <;> rcases hN2 with ⟨hq, rfl⟩ | ⟨hq, rfl⟩ <;> have hN1' := HN1.out
  · have HLL := Lib.hid (HL1.out rfl)
    clear HL1 HL2 HL3
    go_enter Tryz.func23, Tryz.ntmps23
    go_wp2_with fail
    go_quiet (fail)
    go_wp2_with fail
    refine (letters_any _ _ _ (by omega) (by omega) (by decide) (by decide)).mono ?_
    rintro _ _ ⟨rfl, rfl⟩
    go_wp2_with fail
    refine (letters_any _ _ _ (by omega) (by omega) (by decide) (by decide)).mono ?_
    rintro _ _ ⟨rfl, rfl⟩
    rw [HR0.out, HR1.out]
    go_wp2_with fail
    go_ret
    refine ⟨?_, gr_drewN hG _⟩
    rw [HLL.out]
    rfl
  · have HLL := Lib.hid (HL1.out rfl)
    clear HL1 HL2 HL3
    obtain rfl : y0 = 17 := by have := HY0.out; omega
    obtain rfl : y1 = 179 := by have := HY1.out; omega
    obtain rfl : y2 = 4319 := by have := HY2.out; omega
    go_enter Tryz.func23, Tryz.ntmps23
    go_wp2_with fail
    go_quiet (fail)
    go_wp2_with fail
    refine (letters_any _ _ _ (by omega) (by omega) (by decide) (by decide)).mono ?_
    rintro _ _ ⟨rfl, rfl⟩
    go_wp2_with fail
    refine (letters_any _ _ _ (by omega) (by omega) (by decide) (by decide)).mono ?_
    rintro _ _ ⟨rfl, rfl⟩
    rw [HR0.out]
    go_wp2_with fail
    go_ret
    refine ⟨?_, gr_drewN hG _⟩
    rw [HLL.out]
    rfl
  · have HLL := Lib.hid (HL2.out rfl)
    clear HL1 HL2 HL3
    go_enter Tryz.func23, Tryz.ntmps23
    go_wp2_with fail
    go_quiet (fail)
    go_wp2_with fail
    refine (letters_any _ _ _ (by omega) (by omega) (by decide) (by decide)).mono ?_
    rintro _ _ ⟨rfl, rfl⟩
    go_wp2_with fail
    refine (letters_any _ _ _ (by omega) (by omega) (by decide) (by decide)).mono ?_
    rintro _ _ ⟨rfl, rfl⟩
    rw [HR0.out, HR1.out]
    go_wp2_with fail
    go_ret
    refine ⟨?_, gr_drewN hG _⟩
    rw [HLL.out]
    first
      | rfl
      | (simp only [HE1.out, HE2.out]; rfl)
      | trace_state
  · have HLL := Lib.hid (HL2.out rfl)
    clear HL1 HL2 HL3
    obtain rfl : y0 = 17 := by have := HY0.out; omega
    obtain rfl : y1 = 179 := by have := HY1.out; omega
    obtain rfl : y2 = 4319 := by have := HY2.out; omega
    go_enter Tryz.func23, Tryz.ntmps23
    go_wp2_with fail
    go_quiet (fail)
    go_wp2_with fail
    refine (letters_any _ _ _ (by omega) (by omega) (by decide) (by decide)).mono ?_
    rintro _ _ ⟨rfl, rfl⟩
    go_wp2_with fail
    refine (letters_any _ _ _ (by omega) (by omega) (by decide) (by decide)).mono ?_
    rintro _ _ ⟨rfl, rfl⟩
    rw [HR0.out]
    go_wp2_with fail
    go_ret
    refine ⟨?_, gr_drewN hG _⟩
    rw [HLL.out]
    first
      | rfl
      | (simp only [HE1.out, HE2.out]; rfl)
      | trace_state
  · have HLL := Lib.hid (HL3.out rfl)
    clear HL1 HL2 HL3
    go_enter Tryz.func23, Tryz.ntmps23
    go_wp2_with fail
    go_quiet (fail)
    go_wp2_with fail
    refine (letters_any _ _ _ (by omega) (by omega) (by decide) (by decide)).mono ?_
    rintro _ _ ⟨rfl, rfl⟩
    go_wp2_with fail
    refine (letters_any _ _ _ (by omega) (by omega) (by decide) (by decide)).mono ?_
    rintro _ _ ⟨rfl, rfl⟩
    rw [HR0.out, HR1.out]
    go_wp2_with fail
    refine (letters_any _ _ _ (by omega) (by omega) (by decide) (by decide)).mono ?_
    rintro _ _ ⟨rfl, rfl⟩
    go_wp2_with fail
    refine (letters_any _ _ _ (by omega) (by omega) (by decide) (by decide)).mono ?_
    rintro _ _ ⟨rfl, rfl⟩
    go_wp2_with fail
    go_ret
    refine ⟨?_, gr_drewN hG _⟩
    rw [HLL.out]
    first
      | rfl
      | (simp only [HE1.out, HE2.out]; rfl)
      | trace_state
  · have HLL := Lib.hid (HL3.out rfl)
    clear HL1 HL2 HL3
    obtain rfl : y0 = 17 := by have := HY0.out; omega
    obtain rfl : y1 = 179 := by have := HY1.out; omega
    obtain rfl : y2 = 4319 := by have := HY2.out; omega
    go_enter Tryz.func23, Tryz.ntmps23
    go_wp2_with fail
    go_quiet (fail)
    go_wp2_with fail
    refine (letters_any _ _ _ (by omega) (by omega) (by decide) (by decide)).mono ?_
    rintro _ _ ⟨rfl, rfl⟩
    go_wp2_with fail
    refine (letters_any _ _ _ (by omega) (by omega) (by decide) (by decide)).mono ?_
    rintro _ _ ⟨rfl, rfl⟩
    rw [HR0.out]
    go_wp2_with fail
    refine (letters_any _ _ _ (by omega) (by omega) (by decide) (by decide)).mono ?_
    rintro _ _ ⟨rfl, rfl⟩
    go_wp2_with fail
    refine (letters_any _ _ _ (by omega) (by omega) (by decide) (by decide)).mono ?_
    rintro _ _ ⟨rfl, rfl⟩
    go_wp2_with fail
    go_ret
    refine ⟨?_, gr_drewN hG _⟩
    rw [HLL.out]
    first
      | rfl
      | (simp only [HE1.out, HE2.out]; rfl)
      | trace_state
end Go.Proofs.YtbaocnbppefciaaGreat
