/- The walk over the reference's PartsOf, with a slash, where it is no begin ahead of a base call; printed by gen_parts.py. Condition: a string of ASCII. -/
import Derived.Test.YtffddmgnjecmdaaDoorPartsOf2
namespace Go.Proofs.YtffddmgnjecmdaaDoor
open Go.RowKit
set_option linter.unusedVariables false
set_option linter.unusedSimpArgs false

theorem dig_any (c : UInt8) (W : World) : Calls Tryd.prog 47 #[.string ⟨#[48, 49, 50, 51, 52, 53, 54, 55, 56, 57]⟩, .string ⟨#[c]⟩] W fun e w' => e = .returned (.bool (dgB c)) ∧ W = w' :=
  (Tryd.strings_Contains_one _ c W).mono fun e w' ⟨he, hw⟩ => ⟨by
    rw [he]
    have h : ∀ n : Fin 256, decide (0 ≤ Lib.indexByte (⟨#[48, 49, 50, 51, 52, 53, 54, 55, 56, 57]⟩ : ByteArray).data.toList (UInt8.ofNat n.val)) = dgB (UInt8.ofNat n.val) := by decide +kernel
    have := h ⟨c.toNat, c.toNat_lt⟩
    simp only [UInt8.ofNat_toNat] at this
    rw [this], hw.symm⟩
theorem parts_tail {s a b : ByteArray} {i k : Nat} (h : ¬ 14 < s.size) (hi : Lib.indexByte s.data.toList 47 = (i : Int)) (hea : s.extract 0 i = a) (heb : s.extract (i + 1) s.size = b)
    (hn : ¬ (0 ≤ baseI b.data.toList ∧ beginB a.data.toList = true)) (hk : baseI a.data.toList = (k : Int)) (ht : tailK b.data.toList ≠ 0) : partsOf s = some (a, k, tailK b.data.toList, tailS b) := by
  rw [partsOf_cut h (slash_base hi) hi, hea, heb, if_neg hn, if_pos ⟨by omega, ht⟩, hk]; rfl
theorem parts_none {s a b : ByteArray} {i : Nat} (h : ¬ 14 < s.size) (hi : Lib.indexByte s.data.toList 47 = (i : Int)) (hea : s.extract 0 i = a) (heb : s.extract (i + 1) s.size = b)
    (hn : ¬ (0 ≤ baseI b.data.toList ∧ beginB a.data.toList = true)) (ht : ¬ (0 ≤ baseI a.data.toList ∧ tailK b.data.toList ≠ 0)) : partsOf s = none := by
  rw [partsOf_cut h (slash_base hi) hi, hea, heb, if_neg hn, if_neg ht]

set_option maxRecDepth 100000 in
set_option maxHeartbeats 4000000 in
theorem refParts_n_no (s a b : ByteArray) (i : Nat) (w : World) (hs : s.size ≤ 1000000000) (ha : Ascii s) (h : ¬ 14 < s.size) (hi : Lib.indexByte s.data.toList 47 = (i : Int)) (hea : s.extract 0 i = a) (heb : s.extract (i + 1) s.size = b) (hv : baseI b.data.toList = -1) (hk : baseI a.data.toList = -1) :
    Calls Tryd.prog 10 #[.string s] w (PartsPost s w) := by
  have h14 : ¬ (14 : Int) < (s.size : Int) := by omega
  have has : a.size ≤ 1000000000 := by rw [← hea]; simp; omega
  have hbs : b.size ≤ 1000000000 := by rw [← heb]; simp; omega
  have haa := Lib.hid (show Ascii a by rw [← hea]; exact ha.take _)
  have hba := Lib.hid (show Ascii b by rw [← heb]; exact ha.drop _)
  have hn : ¬ (0 ≤ baseI b.data.toList ∧ beginB a.data.toList = true) := fun hh => by omega
  have HP := Lib.hid (parts_none h hi hea heb hn (fun hh => by omega))
  have HC : Hid (∀ W : World, Calls Tryd.prog 60 #[.string s, .string ⟨#[47]⟩] W fun e w' => e = .returned (.tuple #[.string a, .string b, .bool true]) ∧ W.grownBy w' none) := fun W => by
    have := cut_hit s 47 i W (by omega) hi
    rw [hea, heb] at this
    exact this
  have HV := Lib.hid hv
  have HK := Lib.hid hk
  clear hi hea heb ha h hn hv hk
  go_enter Tryd.func10, Tryd.ntmps10
  go_wp2_with fail
  refine (HC.out _).mono ?_
  rintro _ w1 ⟨rfl, hg⟩
  have hB := (Blk.new w 28 #[.string ⟨#[]⟩, .string ⟨#[]⟩, .string ⟨#[]⟩, .int .i64 0, .string ⟨#[]⟩]).grown hg (by simp)
  have hG := gr_trans (World.grownBy_alloc w (.cells #[.string ⟨#[]⟩, .string ⟨#[]⟩, .string ⟨#[]⟩, .int .i64 0, .string ⟨#[]⟩] 28) none) hg
  clear hg
  go_wp2_with fail
  refine (baseAt_any b _ hbs hba.out).mono ?_
  rintro _ w2 ⟨rfl, hg⟩
  rw [HV.out]
  replace hB := hB.grown hg (by simp)
  replace hG := gr_trans hG hg
  clear hg
  go_wp2_with fail
  refine (baseAt_any a _ has haa.out).mono ?_
  rintro _ w4 ⟨rfl, hg⟩
  rw [HK.out]
  replace hB := hB.grown hg (by simp)
  replace hG := gr_trans hG hg
  clear hg
  have hf := hB.free
  have hlt := hB.lt
  obtain ⟨c0, c1, c2, c3, c4⟩ := hB.cells5
  go_wp2_with fail
  refine bodyPost_ret (v := .tuple #[.agg #[.string ⟨#[]⟩, .string ⟨#[]⟩, .string ⟨#[]⟩, .int .i64 0, .string ⟨#[]⟩], .bool false]) (by simp [results, Tryd.results10, go_sem, c0, c1, c2, c3, c4]) rfl ?_
  exact parts_no HP.out (gr_put5 hG (Nat.le_refl _) _ _ _ _ _)

set_option maxRecDepth 100000 in
set_option maxHeartbeats 4000000 in
theorem refParts_n_p (s a b : ByteArray) (i : Nat) (w : World) (hs : s.size ≤ 1000000000) (ha : Ascii s) (h : ¬ 14 < s.size) (hi : Lib.indexByte s.data.toList 47 = (i : Int)) (hea : s.extract 0 i = a) (heb : s.extract (i + 1) s.size = b) (hv : baseI b.data.toList = -1) (k : Nat) (hk : baseI a.data.toList = (k : Int)) (yp : (b.toList == [112]) = true) (hT : tailK b.data.toList = 3) :
    Calls Tryd.prog 10 #[.string s] w (PartsPost s w) := by
  have h14 : ¬ (14 : Int) < (s.size : Int) := by omega
  have has : a.size ≤ 1000000000 := by rw [← hea]; simp; omega
  have hbs : b.size ≤ 1000000000 := by rw [← heb]; simp; omega
  have haa := Lib.hid (show Ascii a by rw [← hea]; exact ha.take _)
  have hba := Lib.hid (show Ascii b by rw [← heb]; exact ha.drop _)
  have hn : ¬ (0 ≤ baseI b.data.toList ∧ beginB a.data.toList = true) := fun hh => by omega
  have HP : Hid (partsOf s = some (a, k, 3, ⟨#[]⟩)) := by
    show _ = _
    rw [parts_tail h hi hea heb hn hk (by omega), hT]
    have : tailS b = ⟨#[]⟩ := by unfold tailS; rw [if_neg (by omega)]
    rw [this]
  have HC : Hid (∀ W : World, Calls Tryd.prog 60 #[.string s, .string ⟨#[47]⟩] W fun e w' => e = .returned (.tuple #[.string a, .string b, .bool true]) ∧ W.grownBy w' none) := fun W => by
    have := cut_hit s 47 i W (by omega) hi
    rw [hea, heb] at this
    exact this
  have HV := Lib.hid hv
  have HK := Lib.hid hk
  have hka : ¬ (k : Int) < 0 := by omega
  clear hi hea heb ha h hn hv hk hT
  go_enter Tryd.func10, Tryd.ntmps10
  go_wp2_with fail
  refine (HC.out _).mono ?_
  rintro _ w1 ⟨rfl, hg⟩
  have hB := (Blk.new w 28 #[.string ⟨#[]⟩, .string ⟨#[]⟩, .string ⟨#[]⟩, .int .i64 0, .string ⟨#[]⟩]).grown hg (by simp)
  have hG := gr_trans (World.grownBy_alloc w (.cells #[.string ⟨#[]⟩, .string ⟨#[]⟩, .string ⟨#[]⟩, .int .i64 0, .string ⟨#[]⟩] 28) none) hg
  clear hg
  go_wp2_with fail
  refine (baseAt_any b _ hbs hba.out).mono ?_
  rintro _ w2 ⟨rfl, hg⟩
  rw [HV.out]
  replace hB := hB.grown hg (by simp)
  replace hG := gr_trans hG hg
  clear hg
  go_wp2_with fail
  refine (baseAt_any a _ has haa.out).mono ?_
  rintro _ w4 ⟨rfl, hg⟩
  rw [HK.out]
  replace hB := hB.grown hg (by simp)
  replace hG := gr_trans hG hg
  clear hg
  go_wp2_with fail
  refine (refBase_any a k _ has haa.out HK.out).mono ?_
  rintro _ w5 ⟨rfl, hg⟩
  replace hB := hB.grown hg (by simp)
  replace hG := gr_trans hG hg
  clear hg
  have hf := hB.free
  have hlt := hB.lt
  obtain ⟨c0, c1, c2, c3, c4⟩ := hB.cells5
  go_wp2_with fail
  obtain ⟨d0, d1, d2, d3, d4⟩ := ((hB.put5 (.string a) (.string (a.extract 0 (k + 1))) (.string (a.extract (k + 1) a.size)) (.int .i64 3) (.string ⟨#[]⟩)).alloc (.cells #[.string a, .string (a.extract 0 (k + 1)), .string (a.extract (k + 1) a.size), .int .i64 3, .string ⟨#[]⟩] 28)).cells5
  refine bodyPost_ret (v := .tuple #[.agg #[.string a, .string (a.extract 0 (k + 1)), .string (a.extract (k + 1) a.size), .int .i64 3, .string ⟨#[]⟩], .bool true]) (by simp [results, Tryd.results10, go_sem, d0, d1, d2, d3, d4]) rfl ?_
  exact parts_yes HP.out (gr_alloc (gr_put5 hG (Nat.le_refl _) _ _ _ _ _) _)

set_option maxRecDepth 100000 in
set_option maxHeartbeats 4000000 in
theorem refParts_n_m (s a b : ByteArray) (i : Nat) (w : World) (hs : s.size ≤ 1000000000) (ha : Ascii s) (h : ¬ 14 < s.size) (hi : Lib.indexByte s.data.toList 47 = (i : Int)) (hea : s.extract 0 i = a) (heb : s.extract (i + 1) s.size = b) (hv : baseI b.data.toList = -1) (k : Nat) (hk : baseI a.data.toList = (k : Int)) (np : (b.toList == [112]) = false) (ym : (b.toList == [109]) = true) (hT : tailK b.data.toList = 4) :
    Calls Tryd.prog 10 #[.string s] w (PartsPost s w) := by
  have h14 : ¬ (14 : Int) < (s.size : Int) := by omega
  have has : a.size ≤ 1000000000 := by rw [← hea]; simp; omega
  have hbs : b.size ≤ 1000000000 := by rw [← heb]; simp; omega
  have haa := Lib.hid (show Ascii a by rw [← hea]; exact ha.take _)
  have hba := Lib.hid (show Ascii b by rw [← heb]; exact ha.drop _)
  have hn : ¬ (0 ≤ baseI b.data.toList ∧ beginB a.data.toList = true) := fun hh => by omega
  have HP : Hid (partsOf s = some (a, k, 4, ⟨#[]⟩)) := by
    show _ = _
    rw [parts_tail h hi hea heb hn hk (by omega), hT]
    have : tailS b = ⟨#[]⟩ := by unfold tailS; rw [if_neg (by omega)]
    rw [this]
  have HC : Hid (∀ W : World, Calls Tryd.prog 60 #[.string s, .string ⟨#[47]⟩] W fun e w' => e = .returned (.tuple #[.string a, .string b, .bool true]) ∧ W.grownBy w' none) := fun W => by
    have := cut_hit s 47 i W (by omega) hi
    rw [hea, heb] at this
    exact this
  have HV := Lib.hid hv
  have HK := Lib.hid hk
  have hka : ¬ (k : Int) < 0 := by omega
  clear hi hea heb ha h hn hv hk hT
  go_enter Tryd.func10, Tryd.ntmps10
  go_wp2_with fail
  refine (HC.out _).mono ?_
  rintro _ w1 ⟨rfl, hg⟩
  have hB := (Blk.new w 28 #[.string ⟨#[]⟩, .string ⟨#[]⟩, .string ⟨#[]⟩, .int .i64 0, .string ⟨#[]⟩]).grown hg (by simp)
  have hG := gr_trans (World.grownBy_alloc w (.cells #[.string ⟨#[]⟩, .string ⟨#[]⟩, .string ⟨#[]⟩, .int .i64 0, .string ⟨#[]⟩] 28) none) hg
  clear hg
  go_wp2_with fail
  refine (baseAt_any b _ hbs hba.out).mono ?_
  rintro _ w2 ⟨rfl, hg⟩
  rw [HV.out]
  replace hB := hB.grown hg (by simp)
  replace hG := gr_trans hG hg
  clear hg
  go_wp2_with fail
  refine (baseAt_any a _ has haa.out).mono ?_
  rintro _ w4 ⟨rfl, hg⟩
  rw [HK.out]
  replace hB := hB.grown hg (by simp)
  replace hG := gr_trans hG hg
  clear hg
  go_wp2_with fail
  refine (refBase_any a k _ has haa.out HK.out).mono ?_
  rintro _ w5 ⟨rfl, hg⟩
  replace hB := hB.grown hg (by simp)
  replace hG := gr_trans hG hg
  clear hg
  have hf := hB.free
  have hlt := hB.lt
  obtain ⟨c0, c1, c2, c3, c4⟩ := hB.cells5
  go_wp2_with fail
  obtain ⟨d0, d1, d2, d3, d4⟩ := ((hB.put5 (.string a) (.string (a.extract 0 (k + 1))) (.string (a.extract (k + 1) a.size)) (.int .i64 4) (.string ⟨#[]⟩)).alloc (.cells #[.string a, .string (a.extract 0 (k + 1)), .string (a.extract (k + 1) a.size), .int .i64 4, .string ⟨#[]⟩] 28)).cells5
  refine bodyPost_ret (v := .tuple #[.agg #[.string a, .string (a.extract 0 (k + 1)), .string (a.extract (k + 1) a.size), .int .i64 4, .string ⟨#[]⟩], .bool true]) (by simp [results, Tryd.results10, go_sem, d0, d1, d2, d3, d4]) rfl ?_
  exact parts_yes HP.out (gr_alloc (gr_put5 hG (Nat.le_refl _) _ _ _ _ _) _)

set_option maxRecDepth 100000 in
set_option maxHeartbeats 4000000 in
theorem refParts_n_mm (s a b : ByteArray) (i : Nat) (w : World) (hs : s.size ≤ 1000000000) (ha : Ascii s) (h : ¬ 14 < s.size) (hi : Lib.indexByte s.data.toList 47 = (i : Int)) (hea : s.extract 0 i = a) (heb : s.extract (i + 1) s.size = b) (hv : baseI b.data.toList = -1) (k : Nat) (hk : baseI a.data.toList = (k : Int)) (np : (b.toList == [112]) = false) (nm : (b.toList == [109]) = false) (ymm : (b.toList == [109, 109]) = true) (hT : tailK b.data.toList = 5) :
    Calls Tryd.prog 10 #[.string s] w (PartsPost s w) := by
  have h14 : ¬ (14 : Int) < (s.size : Int) := by omega
  have has : a.size ≤ 1000000000 := by rw [← hea]; simp; omega
  have hbs : b.size ≤ 1000000000 := by rw [← heb]; simp; omega
  have haa := Lib.hid (show Ascii a by rw [← hea]; exact ha.take _)
  have hba := Lib.hid (show Ascii b by rw [← heb]; exact ha.drop _)
  have hn : ¬ (0 ≤ baseI b.data.toList ∧ beginB a.data.toList = true) := fun hh => by omega
  have HP : Hid (partsOf s = some (a, k, 5, ⟨#[]⟩)) := by
    show _ = _
    rw [parts_tail h hi hea heb hn hk (by omega), hT]
    have : tailS b = ⟨#[]⟩ := by unfold tailS; rw [if_neg (by omega)]
    rw [this]
  have HC : Hid (∀ W : World, Calls Tryd.prog 60 #[.string s, .string ⟨#[47]⟩] W fun e w' => e = .returned (.tuple #[.string a, .string b, .bool true]) ∧ W.grownBy w' none) := fun W => by
    have := cut_hit s 47 i W (by omega) hi
    rw [hea, heb] at this
    exact this
  have HV := Lib.hid hv
  have HK := Lib.hid hk
  have hka : ¬ (k : Int) < 0 := by omega
  clear hi hea heb ha h hn hv hk hT
  go_enter Tryd.func10, Tryd.ntmps10
  go_wp2_with fail
  refine (HC.out _).mono ?_
  rintro _ w1 ⟨rfl, hg⟩
  have hB := (Blk.new w 28 #[.string ⟨#[]⟩, .string ⟨#[]⟩, .string ⟨#[]⟩, .int .i64 0, .string ⟨#[]⟩]).grown hg (by simp)
  have hG := gr_trans (World.grownBy_alloc w (.cells #[.string ⟨#[]⟩, .string ⟨#[]⟩, .string ⟨#[]⟩, .int .i64 0, .string ⟨#[]⟩] 28) none) hg
  clear hg
  go_wp2_with fail
  refine (baseAt_any b _ hbs hba.out).mono ?_
  rintro _ w2 ⟨rfl, hg⟩
  rw [HV.out]
  replace hB := hB.grown hg (by simp)
  replace hG := gr_trans hG hg
  clear hg
  go_wp2_with fail
  refine (baseAt_any a _ has haa.out).mono ?_
  rintro _ w4 ⟨rfl, hg⟩
  rw [HK.out]
  replace hB := hB.grown hg (by simp)
  replace hG := gr_trans hG hg
  clear hg
  go_wp2_with fail
  refine (refBase_any a k _ has haa.out HK.out).mono ?_
  rintro _ w5 ⟨rfl, hg⟩
  replace hB := hB.grown hg (by simp)
  replace hG := gr_trans hG hg
  clear hg
  have hf := hB.free
  have hlt := hB.lt
  obtain ⟨c0, c1, c2, c3, c4⟩ := hB.cells5
  go_wp2_with fail
  obtain ⟨d0, d1, d2, d3, d4⟩ := ((hB.put5 (.string a) (.string (a.extract 0 (k + 1))) (.string (a.extract (k + 1) a.size)) (.int .i64 5) (.string ⟨#[]⟩)).alloc (.cells #[.string a, .string (a.extract 0 (k + 1)), .string (a.extract (k + 1) a.size), .int .i64 5, .string ⟨#[]⟩] 28)).cells5
  refine bodyPost_ret (v := .tuple #[.agg #[.string a, .string (a.extract 0 (k + 1)), .string (a.extract (k + 1) a.size), .int .i64 5, .string ⟨#[]⟩], .bool true]) (by simp [results, Tryd.results10, go_sem, d0, d1, d2, d3, d4]) rfl ?_
  exact parts_yes HP.out (gr_alloc (gr_put5 hG (Nat.le_refl _) _ _ _ _ _) _)

set_option maxRecDepth 100000 in
set_option maxHeartbeats 4000000 in
theorem refParts_n_am (s a b : ByteArray) (i : Nat) (w : World) (hs : s.size ≤ 1000000000) (ha : Ascii s) (h : ¬ 14 < s.size) (hi : Lib.indexByte s.data.toList 47 = (i : Int)) (hea : s.extract 0 i = a) (heb : s.extract (i + 1) s.size = b) (hv : baseI b.data.toList = -1) (k : Nat) (hk : baseI a.data.toList = (k : Int)) (np : (b.toList == [112]) = false) (nm : (b.toList == [109]) = false) (nmm : (b.toList == [109, 109]) = false) (yam : (b.toList == [97, 109]) = true) (hT : tailK b.data.toList = 6) :
    Calls Tryd.prog 10 #[.string s] w (PartsPost s w) := by
  have h14 : ¬ (14 : Int) < (s.size : Int) := by omega
  have has : a.size ≤ 1000000000 := by rw [← hea]; simp; omega
  have hbs : b.size ≤ 1000000000 := by rw [← heb]; simp; omega
  have haa := Lib.hid (show Ascii a by rw [← hea]; exact ha.take _)
  have hba := Lib.hid (show Ascii b by rw [← heb]; exact ha.drop _)
  have hn : ¬ (0 ≤ baseI b.data.toList ∧ beginB a.data.toList = true) := fun hh => by omega
  have HP : Hid (partsOf s = some (a, k, 6, ⟨#[]⟩)) := by
    show _ = _
    rw [parts_tail h hi hea heb hn hk (by omega), hT]
    have : tailS b = ⟨#[]⟩ := by unfold tailS; rw [if_neg (by omega)]
    rw [this]
  have HC : Hid (∀ W : World, Calls Tryd.prog 60 #[.string s, .string ⟨#[47]⟩] W fun e w' => e = .returned (.tuple #[.string a, .string b, .bool true]) ∧ W.grownBy w' none) := fun W => by
    have := cut_hit s 47 i W (by omega) hi
    rw [hea, heb] at this
    exact this
  have HV := Lib.hid hv
  have HK := Lib.hid hk
  have hka : ¬ (k : Int) < 0 := by omega
  clear hi hea heb ha h hn hv hk hT
  go_enter Tryd.func10, Tryd.ntmps10
  go_wp2_with fail
  refine (HC.out _).mono ?_
  rintro _ w1 ⟨rfl, hg⟩
  have hB := (Blk.new w 28 #[.string ⟨#[]⟩, .string ⟨#[]⟩, .string ⟨#[]⟩, .int .i64 0, .string ⟨#[]⟩]).grown hg (by simp)
  have hG := gr_trans (World.grownBy_alloc w (.cells #[.string ⟨#[]⟩, .string ⟨#[]⟩, .string ⟨#[]⟩, .int .i64 0, .string ⟨#[]⟩] 28) none) hg
  clear hg
  go_wp2_with fail
  refine (baseAt_any b _ hbs hba.out).mono ?_
  rintro _ w2 ⟨rfl, hg⟩
  rw [HV.out]
  replace hB := hB.grown hg (by simp)
  replace hG := gr_trans hG hg
  clear hg
  go_wp2_with fail
  refine (baseAt_any a _ has haa.out).mono ?_
  rintro _ w4 ⟨rfl, hg⟩
  rw [HK.out]
  replace hB := hB.grown hg (by simp)
  replace hG := gr_trans hG hg
  clear hg
  go_wp2_with fail
  refine (refBase_any a k _ has haa.out HK.out).mono ?_
  rintro _ w5 ⟨rfl, hg⟩
  replace hB := hB.grown hg (by simp)
  replace hG := gr_trans hG hg
  clear hg
  have hf := hB.free
  have hlt := hB.lt
  obtain ⟨c0, c1, c2, c3, c4⟩ := hB.cells5
  go_wp2_with fail
  obtain ⟨d0, d1, d2, d3, d4⟩ := ((hB.put5 (.string a) (.string (a.extract 0 (k + 1))) (.string (a.extract (k + 1) a.size)) (.int .i64 6) (.string ⟨#[]⟩)).alloc (.cells #[.string a, .string (a.extract 0 (k + 1)), .string (a.extract (k + 1) a.size), .int .i64 6, .string ⟨#[]⟩] 28)).cells5
  refine bodyPost_ret (v := .tuple #[.agg #[.string a, .string (a.extract 0 (k + 1)), .string (a.extract (k + 1) a.size), .int .i64 6, .string ⟨#[]⟩], .bool true]) (by simp [results, Tryd.results10, go_sem, d0, d1, d2, d3, d4]) rfl ?_
  exact parts_yes HP.out (gr_alloc (gr_put5 hG (Nat.le_refl _) _ _ _ _ _) _)

set_option maxRecDepth 100000 in
set_option maxHeartbeats 4000000 in
theorem refParts_n_dig (s a b : ByteArray) (i : Nat) (w : World) (hs : s.size ≤ 1000000000) (ha : Ascii s) (h : ¬ 14 < s.size) (hi : Lib.indexByte s.data.toList 47 = (i : Int)) (hea : s.extract 0 i = a) (heb : s.extract (i + 1) s.size = b) (hv : baseI b.data.toList = -1) (k : Nat) (hk : baseI a.data.toList = (k : Int)) (np : (b.toList == [112]) = false) (nm : (b.toList == [109]) = false) (nmm : (b.toList == [109, 109]) = false) (nam : (b.toList == [97, 109]) = false) (c : UInt8) (hbc : b = ⟨#[c]⟩) (hz : ((b.size : Int) == 1) = true) (hd : dgB c = true) (hT : tailK b.data.toList = 2) :
    Calls Tryd.prog 10 #[.string s] w (PartsPost s w) := by
  have h14 : ¬ (14 : Int) < (s.size : Int) := by omega
  have has : a.size ≤ 1000000000 := by rw [← hea]; simp; omega
  have hbs : b.size ≤ 1000000000 := by rw [← heb]; simp; omega
  have haa := Lib.hid (show Ascii a by rw [← hea]; exact ha.take _)
  have hba := Lib.hid (show Ascii b by rw [← heb]; exact ha.drop _)
  have hn : ¬ (0 ≤ baseI b.data.toList ∧ beginB a.data.toList = true) := fun hh => by omega
  have HP : Hid (partsOf s = some (a, k, 2, b)) := by
    show _ = _
    rw [parts_tail h hi hea heb hn hk (by omega), hT]
    have : tailS b = b := by unfold tailS; rw [if_pos (by omega)]
    rw [this]
  have HC : Hid (∀ W : World, Calls Tryd.prog 60 #[.string s, .string ⟨#[47]⟩] W fun e w' => e = .returned (.tuple #[.string a, .string b, .bool true]) ∧ W.grownBy w' none) := fun W => by
    have := cut_hit s 47 i W (by omega) hi
    rw [hea, heb] at this
    exact this
  have HV := Lib.hid hv
  have HK := Lib.hid hk
  have hka : ¬ (k : Int) < 0 := by omega
  have HD : Hid (∀ W : World, Calls Tryd.prog 47 #[.string ⟨#[48, 49, 50, 51, 52, 53, 54, 55, 56, 57]⟩, .string b] W fun e w' => e = .returned (.bool (dgB c)) ∧ W = w') := fun W => by rw [hbc]; exact dig_any c W
  rw [hd] at HD
  clear hi hea heb ha h hn hv hk hT hbc hd
  go_enter Tryd.func10, Tryd.ntmps10
  go_wp2_with fail
  refine (HC.out _).mono ?_
  rintro _ w1 ⟨rfl, hg⟩
  have hB := (Blk.new w 28 #[.string ⟨#[]⟩, .string ⟨#[]⟩, .string ⟨#[]⟩, .int .i64 0, .string ⟨#[]⟩]).grown hg (by simp)
  have hG := gr_trans (World.grownBy_alloc w (.cells #[.string ⟨#[]⟩, .string ⟨#[]⟩, .string ⟨#[]⟩, .int .i64 0, .string ⟨#[]⟩] 28) none) hg
  clear hg
  go_wp2_with fail
  refine (baseAt_any b _ hbs hba.out).mono ?_
  rintro _ w2 ⟨rfl, hg⟩
  rw [HV.out]
  replace hB := hB.grown hg (by simp)
  replace hG := gr_trans hG hg
  clear hg
  go_wp2_with fail
  refine (baseAt_any a _ has haa.out).mono ?_
  rintro _ w4 ⟨rfl, hg⟩
  rw [HK.out]
  replace hB := hB.grown hg (by simp)
  replace hG := gr_trans hG hg
  clear hg
  go_wp2_with fail
  refine (refBase_any a k _ has haa.out HK.out).mono ?_
  rintro _ w5 ⟨rfl, hg⟩
  replace hB := hB.grown hg (by simp)
  replace hG := gr_trans hG hg
  clear hg
  have hP := Blk.new w5 28 #[.string a, .string (a.extract 0 (k + 1)), .string (a.extract (k + 1) a.size), .int .i64 0, .string ⟨#[]⟩]
  replace hG := gr_alloc hG (.cells #[.string a, .string (a.extract 0 (k + 1)), .string (a.extract (k + 1) a.size), .int .i64 0, .string ⟨#[]⟩] 28)
  have hne : ¬ w.heap.size = w5.heap.size := by have := hB.lt; omega
  have hww : w.heap.size ≤ w5.heap.size := by have := hB.lt; omega
  replace hB := hB.alloc (.cells #[.string a, .string (a.extract 0 (k + 1)), .string (a.extract (k + 1) a.size), .int .i64 0, .string ⟨#[]⟩] 28)
  go_wp2_with fail
  generalize w5.alloc (.cells #[.string a, .string (a.extract 0 (k + 1)), .string (a.extract (k + 1) a.size), .int .i64 0, .string ⟨#[]⟩] 28) = W5 at *
  refine (HD.out _).mono ?_
  rintro _ _ ⟨rfl, rfl⟩
  have hf := hB.free
  have hlt := hB.lt
  have hpf := hP.free
  have hplt := hP.lt
  obtain ⟨c0, c1, c2, c3, c4⟩ := hB.cells5
  obtain ⟨p0, p1, p2, p3, p4⟩ := hP.cells5
  go_wp2_with fail
  refine bodyPost_ret (v := .tuple #[.agg #[.string a, .string (a.extract 0 (k + 1)), .string (a.extract (k + 1) a.size), .int .i64 2, .string b], .bool true]) (by simp [results, Tryd.results10, go_sem, c0, c1, c2, c3, c4]) rfl ?_
  exact parts_yes HP.out (gr_put5 (gr_put (gr_put hG (.inr hww) _) (.inr hww) _) (Nat.le_refl _) _ _ _ _ _)

set_option maxRecDepth 100000 in
set_option maxHeartbeats 4000000 in
theorem refParts_n_one_begin (s a b : ByteArray) (i : Nat) (w : World) (hs : s.size ≤ 1000000000) (ha : Ascii s) (h : ¬ 14 < s.size) (hi : Lib.indexByte s.data.toList 47 = (i : Int)) (hea : s.extract 0 i = a) (heb : s.extract (i + 1) s.size = b) (hv : baseI b.data.toList = -1) (k : Nat) (hk : baseI a.data.toList = (k : Int)) (np : (b.toList == [112]) = false) (nm : (b.toList == [109]) = false) (nmm : (b.toList == [109, 109]) = false) (nam : (b.toList == [97, 109]) = false) (c : UInt8) (hbc : b = ⟨#[c]⟩) (hz : ((b.size : Int) == 1) = true) (hd : dgB c = false) (hgb : beginB b.data.toList = true) (hT : tailK b.data.toList = 1) :
    Calls Tryd.prog 10 #[.string s] w (PartsPost s w) := by
  have h14 : ¬ (14 : Int) < (s.size : Int) := by omega
  have has : a.size ≤ 1000000000 := by rw [← hea]; simp; omega
  have hbs : b.size ≤ 1000000000 := by rw [← heb]; simp; omega
  have haa := Lib.hid (show Ascii a by rw [← hea]; exact ha.take _)
  have hba := Lib.hid (show Ascii b by rw [← heb]; exact ha.drop _)
  have hn : ¬ (0 ≤ baseI b.data.toList ∧ beginB a.data.toList = true) := fun hh => by omega
  have HP : Hid (partsOf s = some (a, k, 1, b)) := by
    show _ = _
    rw [parts_tail h hi hea heb hn hk (by omega), hT]
    have : tailS b = b := by unfold tailS; rw [if_pos (by omega)]
    rw [this]
  have HC : Hid (∀ W : World, Calls Tryd.prog 60 #[.string s, .string ⟨#[47]⟩] W fun e w' => e = .returned (.tuple #[.string a, .string b, .bool true]) ∧ W.grownBy w' none) := fun W => by
    have := cut_hit s 47 i W (by omega) hi
    rw [hea, heb] at this
    exact this
  have HV := Lib.hid hv
  have HK := Lib.hid hk
  have hka : ¬ (k : Int) < 0 := by omega
  have HD : Hid (∀ W : World, Calls Tryd.prog 47 #[.string ⟨#[48, 49, 50, 51, 52, 53, 54, 55, 56, 57]⟩, .string b] W fun e w' => e = .returned (.bool (dgB c)) ∧ W = w') := fun W => by rw [hbc]; exact dig_any c W
  rw [hd] at HD
  have HGB := Lib.hid hgb
  clear hi hea heb ha h hn hv hk hT hbc hd hgb
  go_enter Tryd.func10, Tryd.ntmps10
  go_wp2_with fail
  refine (HC.out _).mono ?_
  rintro _ w1 ⟨rfl, hg⟩
  have hB := (Blk.new w 28 #[.string ⟨#[]⟩, .string ⟨#[]⟩, .string ⟨#[]⟩, .int .i64 0, .string ⟨#[]⟩]).grown hg (by simp)
  have hG := gr_trans (World.grownBy_alloc w (.cells #[.string ⟨#[]⟩, .string ⟨#[]⟩, .string ⟨#[]⟩, .int .i64 0, .string ⟨#[]⟩] 28) none) hg
  clear hg
  go_wp2_with fail
  refine (baseAt_any b _ hbs hba.out).mono ?_
  rintro _ w2 ⟨rfl, hg⟩
  rw [HV.out]
  replace hB := hB.grown hg (by simp)
  replace hG := gr_trans hG hg
  clear hg
  go_wp2_with fail
  refine (baseAt_any a _ has haa.out).mono ?_
  rintro _ w4 ⟨rfl, hg⟩
  rw [HK.out]
  replace hB := hB.grown hg (by simp)
  replace hG := gr_trans hG hg
  clear hg
  go_wp2_with fail
  refine (refBase_any a k _ has haa.out HK.out).mono ?_
  rintro _ w5 ⟨rfl, hg⟩
  replace hB := hB.grown hg (by simp)
  replace hG := gr_trans hG hg
  clear hg
  have hP := Blk.new w5 28 #[.string a, .string (a.extract 0 (k + 1)), .string (a.extract (k + 1) a.size), .int .i64 0, .string ⟨#[]⟩]
  replace hG := gr_alloc hG (.cells #[.string a, .string (a.extract 0 (k + 1)), .string (a.extract (k + 1) a.size), .int .i64 0, .string ⟨#[]⟩] 28)
  have hne : ¬ w.heap.size = w5.heap.size := by have := hB.lt; omega
  have hww : w.heap.size ≤ w5.heap.size := by have := hB.lt; omega
  replace hB := hB.alloc (.cells #[.string a, .string (a.extract 0 (k + 1)), .string (a.extract (k + 1) a.size), .int .i64 0, .string ⟨#[]⟩] 28)
  go_wp2_with fail
  generalize w5.alloc (.cells #[.string a, .string (a.extract 0 (k + 1)), .string (a.extract (k + 1) a.size), .int .i64 0, .string ⟨#[]⟩] 28) = W5 at *
  refine (HD.out _).mono ?_
  rintro _ _ ⟨rfl, rfl⟩
  go_wp2_with fail
  refine (refBegin_any b _ hbs hba.out).mono ?_
  rintro _ w6 ⟨rfl, hg⟩
  rw [HGB.out]
  replace hP := hP.grown hg (by simp)
  replace hB := hB.grown hg (by simp)
  replace hG := gr_trans hG hg
  clear hg
  have hf := hB.free
  have hlt := hB.lt
  have hpf := hP.free
  have hplt := hP.lt
  obtain ⟨c0, c1, c2, c3, c4⟩ := hB.cells5
  obtain ⟨p0, p1, p2, p3, p4⟩ := hP.cells5
  go_wp2_with fail
  refine bodyPost_ret (v := .tuple #[.agg #[.string a, .string (a.extract 0 (k + 1)), .string (a.extract (k + 1) a.size), .int .i64 1, .string b], .bool true]) (by simp [results, Tryd.results10, go_sem, c0, c1, c2, c3, c4]) rfl ?_
  exact parts_yes HP.out (gr_put5 (gr_put (gr_put hG (.inr hww) _) (.inr hww) _) (Nat.le_refl _) _ _ _ _ _)

set_option maxRecDepth 100000 in
set_option maxHeartbeats 4000000 in
theorem refParts_n_one_none (s a b : ByteArray) (i : Nat) (w : World) (hs : s.size ≤ 1000000000) (ha : Ascii s) (h : ¬ 14 < s.size) (hi : Lib.indexByte s.data.toList 47 = (i : Int)) (hea : s.extract 0 i = a) (heb : s.extract (i + 1) s.size = b) (hv : baseI b.data.toList = -1) (k : Nat) (hk : baseI a.data.toList = (k : Int)) (np : (b.toList == [112]) = false) (nm : (b.toList == [109]) = false) (nmm : (b.toList == [109, 109]) = false) (nam : (b.toList == [97, 109]) = false) (c : UInt8) (hbc : b = ⟨#[c]⟩) (hz : ((b.size : Int) == 1) = true) (hd : dgB c = false) (hgb : beginB b.data.toList = false) (hT : tailK b.data.toList = 0) :
    Calls Tryd.prog 10 #[.string s] w (PartsPost s w) := by
  have h14 : ¬ (14 : Int) < (s.size : Int) := by omega
  have has : a.size ≤ 1000000000 := by rw [← hea]; simp; omega
  have hbs : b.size ≤ 1000000000 := by rw [← heb]; simp; omega
  have haa := Lib.hid (show Ascii a by rw [← hea]; exact ha.take _)
  have hba := Lib.hid (show Ascii b by rw [← heb]; exact ha.drop _)
  have hn : ¬ (0 ≤ baseI b.data.toList ∧ beginB a.data.toList = true) := fun hh => by omega
  have HP := Lib.hid (parts_none h hi hea heb hn (fun hh => hh.2 hT))
  have HC : Hid (∀ W : World, Calls Tryd.prog 60 #[.string s, .string ⟨#[47]⟩] W fun e w' => e = .returned (.tuple #[.string a, .string b, .bool true]) ∧ W.grownBy w' none) := fun W => by
    have := cut_hit s 47 i W (by omega) hi
    rw [hea, heb] at this
    exact this
  have HV := Lib.hid hv
  have HK := Lib.hid hk
  have hka : ¬ (k : Int) < 0 := by omega
  have HD : Hid (∀ W : World, Calls Tryd.prog 47 #[.string ⟨#[48, 49, 50, 51, 52, 53, 54, 55, 56, 57]⟩, .string b] W fun e w' => e = .returned (.bool (dgB c)) ∧ W = w') := fun W => by rw [hbc]; exact dig_any c W
  rw [hd] at HD
  have HGB := Lib.hid hgb
  clear hi hea heb ha h hn hv hk hT hbc hd hgb
  go_enter Tryd.func10, Tryd.ntmps10
  go_wp2_with fail
  refine (HC.out _).mono ?_
  rintro _ w1 ⟨rfl, hg⟩
  have hB := (Blk.new w 28 #[.string ⟨#[]⟩, .string ⟨#[]⟩, .string ⟨#[]⟩, .int .i64 0, .string ⟨#[]⟩]).grown hg (by simp)
  have hG := gr_trans (World.grownBy_alloc w (.cells #[.string ⟨#[]⟩, .string ⟨#[]⟩, .string ⟨#[]⟩, .int .i64 0, .string ⟨#[]⟩] 28) none) hg
  clear hg
  go_wp2_with fail
  refine (baseAt_any b _ hbs hba.out).mono ?_
  rintro _ w2 ⟨rfl, hg⟩
  rw [HV.out]
  replace hB := hB.grown hg (by simp)
  replace hG := gr_trans hG hg
  clear hg
  go_wp2_with fail
  refine (baseAt_any a _ has haa.out).mono ?_
  rintro _ w4 ⟨rfl, hg⟩
  rw [HK.out]
  replace hB := hB.grown hg (by simp)
  replace hG := gr_trans hG hg
  clear hg
  go_wp2_with fail
  refine (refBase_any a k _ has haa.out HK.out).mono ?_
  rintro _ w5 ⟨rfl, hg⟩
  replace hB := hB.grown hg (by simp)
  replace hG := gr_trans hG hg
  clear hg
  have hP := Blk.new w5 28 #[.string a, .string (a.extract 0 (k + 1)), .string (a.extract (k + 1) a.size), .int .i64 0, .string ⟨#[]⟩]
  replace hG := gr_alloc hG (.cells #[.string a, .string (a.extract 0 (k + 1)), .string (a.extract (k + 1) a.size), .int .i64 0, .string ⟨#[]⟩] 28)
  have hne : ¬ w.heap.size = w5.heap.size := by have := hB.lt; omega
  have hww : w.heap.size ≤ w5.heap.size := by have := hB.lt; omega
  replace hB := hB.alloc (.cells #[.string a, .string (a.extract 0 (k + 1)), .string (a.extract (k + 1) a.size), .int .i64 0, .string ⟨#[]⟩] 28)
  go_wp2_with fail
  generalize w5.alloc (.cells #[.string a, .string (a.extract 0 (k + 1)), .string (a.extract (k + 1) a.size), .int .i64 0, .string ⟨#[]⟩] 28) = W5 at *
  refine (HD.out _).mono ?_
  rintro _ _ ⟨rfl, rfl⟩
  go_wp2_with fail
  refine (refBegin_any b _ hbs hba.out).mono ?_
  rintro _ w6 ⟨rfl, hg⟩
  rw [HGB.out]
  replace hP := hP.grown hg (by simp)
  replace hB := hB.grown hg (by simp)
  replace hG := gr_trans hG hg
  clear hg
  have hf := hB.free
  have hlt := hB.lt
  have hpf := hP.free
  have hplt := hP.lt
  obtain ⟨c0, c1, c2, c3, c4⟩ := hB.cells5
  obtain ⟨p0, p1, p2, p3, p4⟩ := hP.cells5
  go_wp2_with fail
  refine bodyPost_ret (v := .tuple #[.agg #[.string ⟨#[]⟩, .string ⟨#[]⟩, .string ⟨#[]⟩, .int .i64 0, .string ⟨#[]⟩], .bool false]) (by simp [results, Tryd.results10, go_sem, c0, c1, c2, c3, c4]) rfl ?_
  exact parts_no HP.out (gr_put5 hG (Nat.le_refl _) _ _ _ _ _)

set_option maxRecDepth 100000 in
set_option maxHeartbeats 4000000 in
theorem refParts_n_many_begin (s a b : ByteArray) (i : Nat) (w : World) (hs : s.size ≤ 1000000000) (ha : Ascii s) (h : ¬ 14 < s.size) (hi : Lib.indexByte s.data.toList 47 = (i : Int)) (hea : s.extract 0 i = a) (heb : s.extract (i + 1) s.size = b) (hv : baseI b.data.toList = -1) (k : Nat) (hk : baseI a.data.toList = (k : Int)) (np : (b.toList == [112]) = false) (nm : (b.toList == [109]) = false) (nmm : (b.toList == [109, 109]) = false) (nam : (b.toList == [97, 109]) = false) (hz : ((b.size : Int) == 1) = false) (hgb : beginB b.data.toList = true) (hT : tailK b.data.toList = 1) :
    Calls Tryd.prog 10 #[.string s] w (PartsPost s w) := by
  have h14 : ¬ (14 : Int) < (s.size : Int) := by omega
  have has : a.size ≤ 1000000000 := by rw [← hea]; simp; omega
  have hbs : b.size ≤ 1000000000 := by rw [← heb]; simp; omega
  have haa := Lib.hid (show Ascii a by rw [← hea]; exact ha.take _)
  have hba := Lib.hid (show Ascii b by rw [← heb]; exact ha.drop _)
  have hn : ¬ (0 ≤ baseI b.data.toList ∧ beginB a.data.toList = true) := fun hh => by omega
  have HP : Hid (partsOf s = some (a, k, 1, b)) := by
    show _ = _
    rw [parts_tail h hi hea heb hn hk (by omega), hT]
    have : tailS b = b := by unfold tailS; rw [if_pos (by omega)]
    rw [this]
  have HC : Hid (∀ W : World, Calls Tryd.prog 60 #[.string s, .string ⟨#[47]⟩] W fun e w' => e = .returned (.tuple #[.string a, .string b, .bool true]) ∧ W.grownBy w' none) := fun W => by
    have := cut_hit s 47 i W (by omega) hi
    rw [hea, heb] at this
    exact this
  have HV := Lib.hid hv
  have HK := Lib.hid hk
  have hka : ¬ (k : Int) < 0 := by omega
  have HGB := Lib.hid hgb
  clear hi hea heb ha h hn hv hk hT hgb
  go_enter Tryd.func10, Tryd.ntmps10
  go_wp2_with fail
  refine (HC.out _).mono ?_
  rintro _ w1 ⟨rfl, hg⟩
  have hB := (Blk.new w 28 #[.string ⟨#[]⟩, .string ⟨#[]⟩, .string ⟨#[]⟩, .int .i64 0, .string ⟨#[]⟩]).grown hg (by simp)
  have hG := gr_trans (World.grownBy_alloc w (.cells #[.string ⟨#[]⟩, .string ⟨#[]⟩, .string ⟨#[]⟩, .int .i64 0, .string ⟨#[]⟩] 28) none) hg
  clear hg
  go_wp2_with fail
  refine (baseAt_any b _ hbs hba.out).mono ?_
  rintro _ w2 ⟨rfl, hg⟩
  rw [HV.out]
  replace hB := hB.grown hg (by simp)
  replace hG := gr_trans hG hg
  clear hg
  go_wp2_with fail
  refine (baseAt_any a _ has haa.out).mono ?_
  rintro _ w4 ⟨rfl, hg⟩
  rw [HK.out]
  replace hB := hB.grown hg (by simp)
  replace hG := gr_trans hG hg
  clear hg
  go_wp2_with fail
  refine (refBase_any a k _ has haa.out HK.out).mono ?_
  rintro _ w5 ⟨rfl, hg⟩
  replace hB := hB.grown hg (by simp)
  replace hG := gr_trans hG hg
  clear hg
  have hP := Blk.new w5 28 #[.string a, .string (a.extract 0 (k + 1)), .string (a.extract (k + 1) a.size), .int .i64 0, .string ⟨#[]⟩]
  replace hG := gr_alloc hG (.cells #[.string a, .string (a.extract 0 (k + 1)), .string (a.extract (k + 1) a.size), .int .i64 0, .string ⟨#[]⟩] 28)
  have hne : ¬ w.heap.size = w5.heap.size := by have := hB.lt; omega
  have hww : w.heap.size ≤ w5.heap.size := by have := hB.lt; omega
  replace hB := hB.alloc (.cells #[.string a, .string (a.extract 0 (k + 1)), .string (a.extract (k + 1) a.size), .int .i64 0, .string ⟨#[]⟩] 28)
  go_wp2_with fail
  generalize w5.alloc (.cells #[.string a, .string (a.extract 0 (k + 1)), .string (a.extract (k + 1) a.size), .int .i64 0, .string ⟨#[]⟩] 28) = W5 at *
  clear hz
  refine (refBegin_any b _ hbs hba.out).mono ?_
  rintro _ w6 ⟨rfl, hg⟩
  rw [HGB.out]
  replace hP := hP.grown hg (by simp)
  replace hB := hB.grown hg (by simp)
  replace hG := gr_trans hG hg
  clear hg
  have hf := hB.free
  have hlt := hB.lt
  have hpf := hP.free
  have hplt := hP.lt
  obtain ⟨c0, c1, c2, c3, c4⟩ := hB.cells5
  obtain ⟨p0, p1, p2, p3, p4⟩ := hP.cells5
  go_wp2_with fail
  refine bodyPost_ret (v := .tuple #[.agg #[.string a, .string (a.extract 0 (k + 1)), .string (a.extract (k + 1) a.size), .int .i64 1, .string b], .bool true]) (by simp [results, Tryd.results10, go_sem, c0, c1, c2, c3, c4]) rfl ?_
  exact parts_yes HP.out (gr_put5 (gr_put (gr_put hG (.inr hww) _) (.inr hww) _) (Nat.le_refl _) _ _ _ _ _)

set_option maxRecDepth 100000 in
set_option maxHeartbeats 4000000 in
theorem refParts_n_many_none (s a b : ByteArray) (i : Nat) (w : World) (hs : s.size ≤ 1000000000) (ha : Ascii s) (h : ¬ 14 < s.size) (hi : Lib.indexByte s.data.toList 47 = (i : Int)) (hea : s.extract 0 i = a) (heb : s.extract (i + 1) s.size = b) (hv : baseI b.data.toList = -1) (k : Nat) (hk : baseI a.data.toList = (k : Int)) (np : (b.toList == [112]) = false) (nm : (b.toList == [109]) = false) (nmm : (b.toList == [109, 109]) = false) (nam : (b.toList == [97, 109]) = false) (hz : ((b.size : Int) == 1) = false) (hgb : beginB b.data.toList = false) (hT : tailK b.data.toList = 0) :
    Calls Tryd.prog 10 #[.string s] w (PartsPost s w) := by
  have h14 : ¬ (14 : Int) < (s.size : Int) := by omega
  have has : a.size ≤ 1000000000 := by rw [← hea]; simp; omega
  have hbs : b.size ≤ 1000000000 := by rw [← heb]; simp; omega
  have haa := Lib.hid (show Ascii a by rw [← hea]; exact ha.take _)
  have hba := Lib.hid (show Ascii b by rw [← heb]; exact ha.drop _)
  have hn : ¬ (0 ≤ baseI b.data.toList ∧ beginB a.data.toList = true) := fun hh => by omega
  have HP := Lib.hid (parts_none h hi hea heb hn (fun hh => hh.2 hT))
  have HC : Hid (∀ W : World, Calls Tryd.prog 60 #[.string s, .string ⟨#[47]⟩] W fun e w' => e = .returned (.tuple #[.string a, .string b, .bool true]) ∧ W.grownBy w' none) := fun W => by
    have := cut_hit s 47 i W (by omega) hi
    rw [hea, heb] at this
    exact this
  have HV := Lib.hid hv
  have HK := Lib.hid hk
  have hka : ¬ (k : Int) < 0 := by omega
  have HGB := Lib.hid hgb
  clear hi hea heb ha h hn hv hk hT hgb
  go_enter Tryd.func10, Tryd.ntmps10
  go_wp2_with fail
  refine (HC.out _).mono ?_
  rintro _ w1 ⟨rfl, hg⟩
  have hB := (Blk.new w 28 #[.string ⟨#[]⟩, .string ⟨#[]⟩, .string ⟨#[]⟩, .int .i64 0, .string ⟨#[]⟩]).grown hg (by simp)
  have hG := gr_trans (World.grownBy_alloc w (.cells #[.string ⟨#[]⟩, .string ⟨#[]⟩, .string ⟨#[]⟩, .int .i64 0, .string ⟨#[]⟩] 28) none) hg
  clear hg
  go_wp2_with fail
  refine (baseAt_any b _ hbs hba.out).mono ?_
  rintro _ w2 ⟨rfl, hg⟩
  rw [HV.out]
  replace hB := hB.grown hg (by simp)
  replace hG := gr_trans hG hg
  clear hg
  go_wp2_with fail
  refine (baseAt_any a _ has haa.out).mono ?_
  rintro _ w4 ⟨rfl, hg⟩
  rw [HK.out]
  replace hB := hB.grown hg (by simp)
  replace hG := gr_trans hG hg
  clear hg
  go_wp2_with fail
  refine (refBase_any a k _ has haa.out HK.out).mono ?_
  rintro _ w5 ⟨rfl, hg⟩
  replace hB := hB.grown hg (by simp)
  replace hG := gr_trans hG hg
  clear hg
  have hP := Blk.new w5 28 #[.string a, .string (a.extract 0 (k + 1)), .string (a.extract (k + 1) a.size), .int .i64 0, .string ⟨#[]⟩]
  replace hG := gr_alloc hG (.cells #[.string a, .string (a.extract 0 (k + 1)), .string (a.extract (k + 1) a.size), .int .i64 0, .string ⟨#[]⟩] 28)
  have hne : ¬ w.heap.size = w5.heap.size := by have := hB.lt; omega
  have hww : w.heap.size ≤ w5.heap.size := by have := hB.lt; omega
  replace hB := hB.alloc (.cells #[.string a, .string (a.extract 0 (k + 1)), .string (a.extract (k + 1) a.size), .int .i64 0, .string ⟨#[]⟩] 28)
  go_wp2_with fail
  generalize w5.alloc (.cells #[.string a, .string (a.extract 0 (k + 1)), .string (a.extract (k + 1) a.size), .int .i64 0, .string ⟨#[]⟩] 28) = W5 at *
  clear hz
  refine (refBegin_any b _ hbs hba.out).mono ?_
  rintro _ w6 ⟨rfl, hg⟩
  rw [HGB.out]
  replace hP := hP.grown hg (by simp)
  replace hB := hB.grown hg (by simp)
  replace hG := gr_trans hG hg
  clear hg
  have hf := hB.free
  have hlt := hB.lt
  have hpf := hP.free
  have hplt := hP.lt
  obtain ⟨c0, c1, c2, c3, c4⟩ := hB.cells5
  obtain ⟨p0, p1, p2, p3, p4⟩ := hP.cells5
  go_wp2_with fail
  refine bodyPost_ret (v := .tuple #[.agg #[.string ⟨#[]⟩, .string ⟨#[]⟩, .string ⟨#[]⟩, .int .i64 0, .string ⟨#[]⟩], .bool false]) (by simp [results, Tryd.results10, go_sem, c0, c1, c2, c3, c4]) rfl ?_
  exact parts_no HP.out (gr_put5 hG (Nat.le_refl _) _ _ _ _ _)

set_option maxRecDepth 100000 in
set_option maxHeartbeats 4000000 in
theorem refParts_y_no (s a b : ByteArray) (i : Nat) (w : World) (hs : s.size ≤ 1000000000) (ha : Ascii s) (h : ¬ 14 < s.size) (hi : Lib.indexByte s.data.toList 47 = (i : Int)) (hea : s.extract 0 i = a) (heb : s.extract (i + 1) s.size = b) (kb : Nat) (hv : baseI b.data.toList = (kb : Int)) (hga : beginB a.data.toList = false) (hk : baseI a.data.toList = -1) :
    Calls Tryd.prog 10 #[.string s] w (PartsPost s w) := by
  have h14 : ¬ (14 : Int) < (s.size : Int) := by omega
  have has : a.size ≤ 1000000000 := by rw [← hea]; simp; omega
  have hbs : b.size ≤ 1000000000 := by rw [← heb]; simp; omega
  have haa := Lib.hid (show Ascii a by rw [← hea]; exact ha.take _)
  have hba := Lib.hid (show Ascii b by rw [← heb]; exact ha.drop _)
  have hn : ¬ (0 ≤ baseI b.data.toList ∧ beginB a.data.toList = true) := fun hh => by rw [hga] at hh; simp at hh
  have HP := Lib.hid (parts_none h hi hea heb hn (fun hh => by omega))
  have HC : Hid (∀ W : World, Calls Tryd.prog 60 #[.string s, .string ⟨#[47]⟩] W fun e w' => e = .returned (.tuple #[.string a, .string b, .bool true]) ∧ W.grownBy w' none) := fun W => by
    have := cut_hit s 47 i W (by omega) hi
    rw [hea, heb] at this
    exact this
  have HV := Lib.hid hv
  have HK := Lib.hid hk
  have HGA := Lib.hid hga
  have hkb : (0 : Int) ≤ (kb : Int) := by omega
  clear hi hea heb ha h hn hv hk hga
  go_enter Tryd.func10, Tryd.ntmps10
  go_wp2_with fail
  refine (HC.out _).mono ?_
  rintro _ w1 ⟨rfl, hg⟩
  have hB := (Blk.new w 28 #[.string ⟨#[]⟩, .string ⟨#[]⟩, .string ⟨#[]⟩, .int .i64 0, .string ⟨#[]⟩]).grown hg (by simp)
  have hG := gr_trans (World.grownBy_alloc w (.cells #[.string ⟨#[]⟩, .string ⟨#[]⟩, .string ⟨#[]⟩, .int .i64 0, .string ⟨#[]⟩] 28) none) hg
  clear hg
  go_wp2_with fail
  refine (baseAt_any b _ hbs hba.out).mono ?_
  rintro _ w2 ⟨rfl, hg⟩
  rw [HV.out]
  replace hB := hB.grown hg (by simp)
  replace hG := gr_trans hG hg
  clear hg
  go_wp2_with fail
  refine (refBegin_any a _ has haa.out).mono ?_
  rintro _ w3 ⟨rfl, hg⟩
  rw [HGA.out]
  replace hB := hB.grown hg (by simp)
  replace hG := gr_trans hG hg
  clear hg
  go_wp2_with fail
  refine (baseAt_any a _ has haa.out).mono ?_
  rintro _ w4 ⟨rfl, hg⟩
  rw [HK.out]
  replace hB := hB.grown hg (by simp)
  replace hG := gr_trans hG hg
  clear hg
  have hf := hB.free
  have hlt := hB.lt
  obtain ⟨c0, c1, c2, c3, c4⟩ := hB.cells5
  go_wp2_with fail
  refine bodyPost_ret (v := .tuple #[.agg #[.string ⟨#[]⟩, .string ⟨#[]⟩, .string ⟨#[]⟩, .int .i64 0, .string ⟨#[]⟩], .bool false]) (by simp [results, Tryd.results10, go_sem, c0, c1, c2, c3, c4]) rfl ?_
  exact parts_no HP.out (gr_put5 hG (Nat.le_refl _) _ _ _ _ _)

set_option maxRecDepth 100000 in
set_option maxHeartbeats 4000000 in
theorem refParts_y_p (s a b : ByteArray) (i : Nat) (w : World) (hs : s.size ≤ 1000000000) (ha : Ascii s) (h : ¬ 14 < s.size) (hi : Lib.indexByte s.data.toList 47 = (i : Int)) (hea : s.extract 0 i = a) (heb : s.extract (i + 1) s.size = b) (kb : Nat) (hv : baseI b.data.toList = (kb : Int)) (hga : beginB a.data.toList = false) (k : Nat) (hk : baseI a.data.toList = (k : Int)) (yp : (b.toList == [112]) = true) (hT : tailK b.data.toList = 3) :
    Calls Tryd.prog 10 #[.string s] w (PartsPost s w) := by
  have h14 : ¬ (14 : Int) < (s.size : Int) := by omega
  have has : a.size ≤ 1000000000 := by rw [← hea]; simp; omega
  have hbs : b.size ≤ 1000000000 := by rw [← heb]; simp; omega
  have haa := Lib.hid (show Ascii a by rw [← hea]; exact ha.take _)
  have hba := Lib.hid (show Ascii b by rw [← heb]; exact ha.drop _)
  have hn : ¬ (0 ≤ baseI b.data.toList ∧ beginB a.data.toList = true) := fun hh => by rw [hga] at hh; simp at hh
  have HP : Hid (partsOf s = some (a, k, 3, ⟨#[]⟩)) := by
    show _ = _
    rw [parts_tail h hi hea heb hn hk (by omega), hT]
    have : tailS b = ⟨#[]⟩ := by unfold tailS; rw [if_neg (by omega)]
    rw [this]
  have HC : Hid (∀ W : World, Calls Tryd.prog 60 #[.string s, .string ⟨#[47]⟩] W fun e w' => e = .returned (.tuple #[.string a, .string b, .bool true]) ∧ W.grownBy w' none) := fun W => by
    have := cut_hit s 47 i W (by omega) hi
    rw [hea, heb] at this
    exact this
  have HV := Lib.hid hv
  have HK := Lib.hid hk
  have HGA := Lib.hid hga
  have hkb : (0 : Int) ≤ (kb : Int) := by omega
  have hka : ¬ (k : Int) < 0 := by omega
  clear hi hea heb ha h hn hv hk hga hT
  go_enter Tryd.func10, Tryd.ntmps10
  go_wp2_with fail
  refine (HC.out _).mono ?_
  rintro _ w1 ⟨rfl, hg⟩
  have hB := (Blk.new w 28 #[.string ⟨#[]⟩, .string ⟨#[]⟩, .string ⟨#[]⟩, .int .i64 0, .string ⟨#[]⟩]).grown hg (by simp)
  have hG := gr_trans (World.grownBy_alloc w (.cells #[.string ⟨#[]⟩, .string ⟨#[]⟩, .string ⟨#[]⟩, .int .i64 0, .string ⟨#[]⟩] 28) none) hg
  clear hg
  go_wp2_with fail
  refine (baseAt_any b _ hbs hba.out).mono ?_
  rintro _ w2 ⟨rfl, hg⟩
  rw [HV.out]
  replace hB := hB.grown hg (by simp)
  replace hG := gr_trans hG hg
  clear hg
  go_wp2_with fail
  refine (refBegin_any a _ has haa.out).mono ?_
  rintro _ w3 ⟨rfl, hg⟩
  rw [HGA.out]
  replace hB := hB.grown hg (by simp)
  replace hG := gr_trans hG hg
  clear hg
  go_wp2_with fail
  refine (baseAt_any a _ has haa.out).mono ?_
  rintro _ w4 ⟨rfl, hg⟩
  rw [HK.out]
  replace hB := hB.grown hg (by simp)
  replace hG := gr_trans hG hg
  clear hg
  go_wp2_with fail
  refine (refBase_any a k _ has haa.out HK.out).mono ?_
  rintro _ w5 ⟨rfl, hg⟩
  replace hB := hB.grown hg (by simp)
  replace hG := gr_trans hG hg
  clear hg
  have hf := hB.free
  have hlt := hB.lt
  obtain ⟨c0, c1, c2, c3, c4⟩ := hB.cells5
  go_wp2_with fail
  obtain ⟨d0, d1, d2, d3, d4⟩ := ((hB.put5 (.string a) (.string (a.extract 0 (k + 1))) (.string (a.extract (k + 1) a.size)) (.int .i64 3) (.string ⟨#[]⟩)).alloc (.cells #[.string a, .string (a.extract 0 (k + 1)), .string (a.extract (k + 1) a.size), .int .i64 3, .string ⟨#[]⟩] 28)).cells5
  refine bodyPost_ret (v := .tuple #[.agg #[.string a, .string (a.extract 0 (k + 1)), .string (a.extract (k + 1) a.size), .int .i64 3, .string ⟨#[]⟩], .bool true]) (by simp [results, Tryd.results10, go_sem, d0, d1, d2, d3, d4]) rfl ?_
  exact parts_yes HP.out (gr_alloc (gr_put5 hG (Nat.le_refl _) _ _ _ _ _) _)

set_option maxRecDepth 100000 in
set_option maxHeartbeats 4000000 in
theorem refParts_y_m (s a b : ByteArray) (i : Nat) (w : World) (hs : s.size ≤ 1000000000) (ha : Ascii s) (h : ¬ 14 < s.size) (hi : Lib.indexByte s.data.toList 47 = (i : Int)) (hea : s.extract 0 i = a) (heb : s.extract (i + 1) s.size = b) (kb : Nat) (hv : baseI b.data.toList = (kb : Int)) (hga : beginB a.data.toList = false) (k : Nat) (hk : baseI a.data.toList = (k : Int)) (np : (b.toList == [112]) = false) (ym : (b.toList == [109]) = true) (hT : tailK b.data.toList = 4) :
    Calls Tryd.prog 10 #[.string s] w (PartsPost s w) := by
  have h14 : ¬ (14 : Int) < (s.size : Int) := by omega
  have has : a.size ≤ 1000000000 := by rw [← hea]; simp; omega
  have hbs : b.size ≤ 1000000000 := by rw [← heb]; simp; omega
  have haa := Lib.hid (show Ascii a by rw [← hea]; exact ha.take _)
  have hba := Lib.hid (show Ascii b by rw [← heb]; exact ha.drop _)
  have hn : ¬ (0 ≤ baseI b.data.toList ∧ beginB a.data.toList = true) := fun hh => by rw [hga] at hh; simp at hh
  have HP : Hid (partsOf s = some (a, k, 4, ⟨#[]⟩)) := by
    show _ = _
    rw [parts_tail h hi hea heb hn hk (by omega), hT]
    have : tailS b = ⟨#[]⟩ := by unfold tailS; rw [if_neg (by omega)]
    rw [this]
  have HC : Hid (∀ W : World, Calls Tryd.prog 60 #[.string s, .string ⟨#[47]⟩] W fun e w' => e = .returned (.tuple #[.string a, .string b, .bool true]) ∧ W.grownBy w' none) := fun W => by
    have := cut_hit s 47 i W (by omega) hi
    rw [hea, heb] at this
    exact this
  have HV := Lib.hid hv
  have HK := Lib.hid hk
  have HGA := Lib.hid hga
  have hkb : (0 : Int) ≤ (kb : Int) := by omega
  have hka : ¬ (k : Int) < 0 := by omega
  clear hi hea heb ha h hn hv hk hga hT
  go_enter Tryd.func10, Tryd.ntmps10
  go_wp2_with fail
  refine (HC.out _).mono ?_
  rintro _ w1 ⟨rfl, hg⟩
  have hB := (Blk.new w 28 #[.string ⟨#[]⟩, .string ⟨#[]⟩, .string ⟨#[]⟩, .int .i64 0, .string ⟨#[]⟩]).grown hg (by simp)
  have hG := gr_trans (World.grownBy_alloc w (.cells #[.string ⟨#[]⟩, .string ⟨#[]⟩, .string ⟨#[]⟩, .int .i64 0, .string ⟨#[]⟩] 28) none) hg
  clear hg
  go_wp2_with fail
  refine (baseAt_any b _ hbs hba.out).mono ?_
  rintro _ w2 ⟨rfl, hg⟩
  rw [HV.out]
  replace hB := hB.grown hg (by simp)
  replace hG := gr_trans hG hg
  clear hg
  go_wp2_with fail
  refine (refBegin_any a _ has haa.out).mono ?_
  rintro _ w3 ⟨rfl, hg⟩
  rw [HGA.out]
  replace hB := hB.grown hg (by simp)
  replace hG := gr_trans hG hg
  clear hg
  go_wp2_with fail
  refine (baseAt_any a _ has haa.out).mono ?_
  rintro _ w4 ⟨rfl, hg⟩
  rw [HK.out]
  replace hB := hB.grown hg (by simp)
  replace hG := gr_trans hG hg
  clear hg
  go_wp2_with fail
  refine (refBase_any a k _ has haa.out HK.out).mono ?_
  rintro _ w5 ⟨rfl, hg⟩
  replace hB := hB.grown hg (by simp)
  replace hG := gr_trans hG hg
  clear hg
  have hf := hB.free
  have hlt := hB.lt
  obtain ⟨c0, c1, c2, c3, c4⟩ := hB.cells5
  go_wp2_with fail
  obtain ⟨d0, d1, d2, d3, d4⟩ := ((hB.put5 (.string a) (.string (a.extract 0 (k + 1))) (.string (a.extract (k + 1) a.size)) (.int .i64 4) (.string ⟨#[]⟩)).alloc (.cells #[.string a, .string (a.extract 0 (k + 1)), .string (a.extract (k + 1) a.size), .int .i64 4, .string ⟨#[]⟩] 28)).cells5
  refine bodyPost_ret (v := .tuple #[.agg #[.string a, .string (a.extract 0 (k + 1)), .string (a.extract (k + 1) a.size), .int .i64 4, .string ⟨#[]⟩], .bool true]) (by simp [results, Tryd.results10, go_sem, d0, d1, d2, d3, d4]) rfl ?_
  exact parts_yes HP.out (gr_alloc (gr_put5 hG (Nat.le_refl _) _ _ _ _ _) _)

set_option maxRecDepth 100000 in
set_option maxHeartbeats 4000000 in
theorem refParts_y_mm (s a b : ByteArray) (i : Nat) (w : World) (hs : s.size ≤ 1000000000) (ha : Ascii s) (h : ¬ 14 < s.size) (hi : Lib.indexByte s.data.toList 47 = (i : Int)) (hea : s.extract 0 i = a) (heb : s.extract (i + 1) s.size = b) (kb : Nat) (hv : baseI b.data.toList = (kb : Int)) (hga : beginB a.data.toList = false) (k : Nat) (hk : baseI a.data.toList = (k : Int)) (np : (b.toList == [112]) = false) (nm : (b.toList == [109]) = false) (ymm : (b.toList == [109, 109]) = true) (hT : tailK b.data.toList = 5) :
    Calls Tryd.prog 10 #[.string s] w (PartsPost s w) := by
  have h14 : ¬ (14 : Int) < (s.size : Int) := by omega
  have has : a.size ≤ 1000000000 := by rw [← hea]; simp; omega
  have hbs : b.size ≤ 1000000000 := by rw [← heb]; simp; omega
  have haa := Lib.hid (show Ascii a by rw [← hea]; exact ha.take _)
  have hba := Lib.hid (show Ascii b by rw [← heb]; exact ha.drop _)
  have hn : ¬ (0 ≤ baseI b.data.toList ∧ beginB a.data.toList = true) := fun hh => by rw [hga] at hh; simp at hh
  have HP : Hid (partsOf s = some (a, k, 5, ⟨#[]⟩)) := by
    show _ = _
    rw [parts_tail h hi hea heb hn hk (by omega), hT]
    have : tailS b = ⟨#[]⟩ := by unfold tailS; rw [if_neg (by omega)]
    rw [this]
  have HC : Hid (∀ W : World, Calls Tryd.prog 60 #[.string s, .string ⟨#[47]⟩] W fun e w' => e = .returned (.tuple #[.string a, .string b, .bool true]) ∧ W.grownBy w' none) := fun W => by
    have := cut_hit s 47 i W (by omega) hi
    rw [hea, heb] at this
    exact this
  have HV := Lib.hid hv
  have HK := Lib.hid hk
  have HGA := Lib.hid hga
  have hkb : (0 : Int) ≤ (kb : Int) := by omega
  have hka : ¬ (k : Int) < 0 := by omega
  clear hi hea heb ha h hn hv hk hga hT
  go_enter Tryd.func10, Tryd.ntmps10
  go_wp2_with fail
  refine (HC.out _).mono ?_
  rintro _ w1 ⟨rfl, hg⟩
  have hB := (Blk.new w 28 #[.string ⟨#[]⟩, .string ⟨#[]⟩, .string ⟨#[]⟩, .int .i64 0, .string ⟨#[]⟩]).grown hg (by simp)
  have hG := gr_trans (World.grownBy_alloc w (.cells #[.string ⟨#[]⟩, .string ⟨#[]⟩, .string ⟨#[]⟩, .int .i64 0, .string ⟨#[]⟩] 28) none) hg
  clear hg
  go_wp2_with fail
  refine (baseAt_any b _ hbs hba.out).mono ?_
  rintro _ w2 ⟨rfl, hg⟩
  rw [HV.out]
  replace hB := hB.grown hg (by simp)
  replace hG := gr_trans hG hg
  clear hg
  go_wp2_with fail
  refine (refBegin_any a _ has haa.out).mono ?_
  rintro _ w3 ⟨rfl, hg⟩
  rw [HGA.out]
  replace hB := hB.grown hg (by simp)
  replace hG := gr_trans hG hg
  clear hg
  go_wp2_with fail
  refine (baseAt_any a _ has haa.out).mono ?_
  rintro _ w4 ⟨rfl, hg⟩
  rw [HK.out]
  replace hB := hB.grown hg (by simp)
  replace hG := gr_trans hG hg
  clear hg
  go_wp2_with fail
  refine (refBase_any a k _ has haa.out HK.out).mono ?_
  rintro _ w5 ⟨rfl, hg⟩
  replace hB := hB.grown hg (by simp)
  replace hG := gr_trans hG hg
  clear hg
  have hf := hB.free
  have hlt := hB.lt
  obtain ⟨c0, c1, c2, c3, c4⟩ := hB.cells5
  go_wp2_with fail
  obtain ⟨d0, d1, d2, d3, d4⟩ := ((hB.put5 (.string a) (.string (a.extract 0 (k + 1))) (.string (a.extract (k + 1) a.size)) (.int .i64 5) (.string ⟨#[]⟩)).alloc (.cells #[.string a, .string (a.extract 0 (k + 1)), .string (a.extract (k + 1) a.size), .int .i64 5, .string ⟨#[]⟩] 28)).cells5
  refine bodyPost_ret (v := .tuple #[.agg #[.string a, .string (a.extract 0 (k + 1)), .string (a.extract (k + 1) a.size), .int .i64 5, .string ⟨#[]⟩], .bool true]) (by simp [results, Tryd.results10, go_sem, d0, d1, d2, d3, d4]) rfl ?_
  exact parts_yes HP.out (gr_alloc (gr_put5 hG (Nat.le_refl _) _ _ _ _ _) _)

set_option maxRecDepth 100000 in
set_option maxHeartbeats 4000000 in
theorem refParts_y_am (s a b : ByteArray) (i : Nat) (w : World) (hs : s.size ≤ 1000000000) (ha : Ascii s) (h : ¬ 14 < s.size) (hi : Lib.indexByte s.data.toList 47 = (i : Int)) (hea : s.extract 0 i = a) (heb : s.extract (i + 1) s.size = b) (kb : Nat) (hv : baseI b.data.toList = (kb : Int)) (hga : beginB a.data.toList = false) (k : Nat) (hk : baseI a.data.toList = (k : Int)) (np : (b.toList == [112]) = false) (nm : (b.toList == [109]) = false) (nmm : (b.toList == [109, 109]) = false) (yam : (b.toList == [97, 109]) = true) (hT : tailK b.data.toList = 6) :
    Calls Tryd.prog 10 #[.string s] w (PartsPost s w) := by
  have h14 : ¬ (14 : Int) < (s.size : Int) := by omega
  have has : a.size ≤ 1000000000 := by rw [← hea]; simp; omega
  have hbs : b.size ≤ 1000000000 := by rw [← heb]; simp; omega
  have haa := Lib.hid (show Ascii a by rw [← hea]; exact ha.take _)
  have hba := Lib.hid (show Ascii b by rw [← heb]; exact ha.drop _)
  have hn : ¬ (0 ≤ baseI b.data.toList ∧ beginB a.data.toList = true) := fun hh => by rw [hga] at hh; simp at hh
  have HP : Hid (partsOf s = some (a, k, 6, ⟨#[]⟩)) := by
    show _ = _
    rw [parts_tail h hi hea heb hn hk (by omega), hT]
    have : tailS b = ⟨#[]⟩ := by unfold tailS; rw [if_neg (by omega)]
    rw [this]
  have HC : Hid (∀ W : World, Calls Tryd.prog 60 #[.string s, .string ⟨#[47]⟩] W fun e w' => e = .returned (.tuple #[.string a, .string b, .bool true]) ∧ W.grownBy w' none) := fun W => by
    have := cut_hit s 47 i W (by omega) hi
    rw [hea, heb] at this
    exact this
  have HV := Lib.hid hv
  have HK := Lib.hid hk
  have HGA := Lib.hid hga
  have hkb : (0 : Int) ≤ (kb : Int) := by omega
  have hka : ¬ (k : Int) < 0 := by omega
  clear hi hea heb ha h hn hv hk hga hT
  go_enter Tryd.func10, Tryd.ntmps10
  go_wp2_with fail
  refine (HC.out _).mono ?_
  rintro _ w1 ⟨rfl, hg⟩
  have hB := (Blk.new w 28 #[.string ⟨#[]⟩, .string ⟨#[]⟩, .string ⟨#[]⟩, .int .i64 0, .string ⟨#[]⟩]).grown hg (by simp)
  have hG := gr_trans (World.grownBy_alloc w (.cells #[.string ⟨#[]⟩, .string ⟨#[]⟩, .string ⟨#[]⟩, .int .i64 0, .string ⟨#[]⟩] 28) none) hg
  clear hg
  go_wp2_with fail
  refine (baseAt_any b _ hbs hba.out).mono ?_
  rintro _ w2 ⟨rfl, hg⟩
  rw [HV.out]
  replace hB := hB.grown hg (by simp)
  replace hG := gr_trans hG hg
  clear hg
  go_wp2_with fail
  refine (refBegin_any a _ has haa.out).mono ?_
  rintro _ w3 ⟨rfl, hg⟩
  rw [HGA.out]
  replace hB := hB.grown hg (by simp)
  replace hG := gr_trans hG hg
  clear hg
  go_wp2_with fail
  refine (baseAt_any a _ has haa.out).mono ?_
  rintro _ w4 ⟨rfl, hg⟩
  rw [HK.out]
  replace hB := hB.grown hg (by simp)
  replace hG := gr_trans hG hg
  clear hg
  go_wp2_with fail
  refine (refBase_any a k _ has haa.out HK.out).mono ?_
  rintro _ w5 ⟨rfl, hg⟩
  replace hB := hB.grown hg (by simp)
  replace hG := gr_trans hG hg
  clear hg
  have hf := hB.free
  have hlt := hB.lt
  obtain ⟨c0, c1, c2, c3, c4⟩ := hB.cells5
  go_wp2_with fail
  obtain ⟨d0, d1, d2, d3, d4⟩ := ((hB.put5 (.string a) (.string (a.extract 0 (k + 1))) (.string (a.extract (k + 1) a.size)) (.int .i64 6) (.string ⟨#[]⟩)).alloc (.cells #[.string a, .string (a.extract 0 (k + 1)), .string (a.extract (k + 1) a.size), .int .i64 6, .string ⟨#[]⟩] 28)).cells5
  refine bodyPost_ret (v := .tuple #[.agg #[.string a, .string (a.extract 0 (k + 1)), .string (a.extract (k + 1) a.size), .int .i64 6, .string ⟨#[]⟩], .bool true]) (by simp [results, Tryd.results10, go_sem, d0, d1, d2, d3, d4]) rfl ?_
  exact parts_yes HP.out (gr_alloc (gr_put5 hG (Nat.le_refl _) _ _ _ _ _) _)

set_option maxRecDepth 100000 in
set_option maxHeartbeats 4000000 in
theorem refParts_y_dig (s a b : ByteArray) (i : Nat) (w : World) (hs : s.size ≤ 1000000000) (ha : Ascii s) (h : ¬ 14 < s.size) (hi : Lib.indexByte s.data.toList 47 = (i : Int)) (hea : s.extract 0 i = a) (heb : s.extract (i + 1) s.size = b) (kb : Nat) (hv : baseI b.data.toList = (kb : Int)) (hga : beginB a.data.toList = false) (k : Nat) (hk : baseI a.data.toList = (k : Int)) (np : (b.toList == [112]) = false) (nm : (b.toList == [109]) = false) (nmm : (b.toList == [109, 109]) = false) (nam : (b.toList == [97, 109]) = false) (c : UInt8) (hbc : b = ⟨#[c]⟩) (hz : ((b.size : Int) == 1) = true) (hd : dgB c = true) (hT : tailK b.data.toList = 2) :
    Calls Tryd.prog 10 #[.string s] w (PartsPost s w) := by
  have h14 : ¬ (14 : Int) < (s.size : Int) := by omega
  have has : a.size ≤ 1000000000 := by rw [← hea]; simp; omega
  have hbs : b.size ≤ 1000000000 := by rw [← heb]; simp; omega
  have haa := Lib.hid (show Ascii a by rw [← hea]; exact ha.take _)
  have hba := Lib.hid (show Ascii b by rw [← heb]; exact ha.drop _)
  have hn : ¬ (0 ≤ baseI b.data.toList ∧ beginB a.data.toList = true) := fun hh => by rw [hga] at hh; simp at hh
  have HP : Hid (partsOf s = some (a, k, 2, b)) := by
    show _ = _
    rw [parts_tail h hi hea heb hn hk (by omega), hT]
    have : tailS b = b := by unfold tailS; rw [if_pos (by omega)]
    rw [this]
  have HC : Hid (∀ W : World, Calls Tryd.prog 60 #[.string s, .string ⟨#[47]⟩] W fun e w' => e = .returned (.tuple #[.string a, .string b, .bool true]) ∧ W.grownBy w' none) := fun W => by
    have := cut_hit s 47 i W (by omega) hi
    rw [hea, heb] at this
    exact this
  have HV := Lib.hid hv
  have HK := Lib.hid hk
  have HGA := Lib.hid hga
  have hkb : (0 : Int) ≤ (kb : Int) := by omega
  have hka : ¬ (k : Int) < 0 := by omega
  have HD : Hid (∀ W : World, Calls Tryd.prog 47 #[.string ⟨#[48, 49, 50, 51, 52, 53, 54, 55, 56, 57]⟩, .string b] W fun e w' => e = .returned (.bool (dgB c)) ∧ W = w') := fun W => by rw [hbc]; exact dig_any c W
  rw [hd] at HD
  clear hi hea heb ha h hn hv hk hga hT hbc hd
  go_enter Tryd.func10, Tryd.ntmps10
  go_wp2_with fail
  refine (HC.out _).mono ?_
  rintro _ w1 ⟨rfl, hg⟩
  have hB := (Blk.new w 28 #[.string ⟨#[]⟩, .string ⟨#[]⟩, .string ⟨#[]⟩, .int .i64 0, .string ⟨#[]⟩]).grown hg (by simp)
  have hG := gr_trans (World.grownBy_alloc w (.cells #[.string ⟨#[]⟩, .string ⟨#[]⟩, .string ⟨#[]⟩, .int .i64 0, .string ⟨#[]⟩] 28) none) hg
  clear hg
  go_wp2_with fail
  refine (baseAt_any b _ hbs hba.out).mono ?_
  rintro _ w2 ⟨rfl, hg⟩
  rw [HV.out]
  replace hB := hB.grown hg (by simp)
  replace hG := gr_trans hG hg
  clear hg
  go_wp2_with fail
  refine (refBegin_any a _ has haa.out).mono ?_
  rintro _ w3 ⟨rfl, hg⟩
  rw [HGA.out]
  replace hB := hB.grown hg (by simp)
  replace hG := gr_trans hG hg
  clear hg
  go_wp2_with fail
  refine (baseAt_any a _ has haa.out).mono ?_
  rintro _ w4 ⟨rfl, hg⟩
  rw [HK.out]
  replace hB := hB.grown hg (by simp)
  replace hG := gr_trans hG hg
  clear hg
  go_wp2_with fail
  refine (refBase_any a k _ has haa.out HK.out).mono ?_
  rintro _ w5 ⟨rfl, hg⟩
  replace hB := hB.grown hg (by simp)
  replace hG := gr_trans hG hg
  clear hg
  have hP := Blk.new w5 28 #[.string a, .string (a.extract 0 (k + 1)), .string (a.extract (k + 1) a.size), .int .i64 0, .string ⟨#[]⟩]
  replace hG := gr_alloc hG (.cells #[.string a, .string (a.extract 0 (k + 1)), .string (a.extract (k + 1) a.size), .int .i64 0, .string ⟨#[]⟩] 28)
  have hne : ¬ w.heap.size = w5.heap.size := by have := hB.lt; omega
  have hww : w.heap.size ≤ w5.heap.size := by have := hB.lt; omega
  replace hB := hB.alloc (.cells #[.string a, .string (a.extract 0 (k + 1)), .string (a.extract (k + 1) a.size), .int .i64 0, .string ⟨#[]⟩] 28)
  go_wp2_with fail
  generalize w5.alloc (.cells #[.string a, .string (a.extract 0 (k + 1)), .string (a.extract (k + 1) a.size), .int .i64 0, .string ⟨#[]⟩] 28) = W5 at *
  refine (HD.out _).mono ?_
  rintro _ _ ⟨rfl, rfl⟩
  have hf := hB.free
  have hlt := hB.lt
  have hpf := hP.free
  have hplt := hP.lt
  obtain ⟨c0, c1, c2, c3, c4⟩ := hB.cells5
  obtain ⟨p0, p1, p2, p3, p4⟩ := hP.cells5
  go_wp2_with fail
  refine bodyPost_ret (v := .tuple #[.agg #[.string a, .string (a.extract 0 (k + 1)), .string (a.extract (k + 1) a.size), .int .i64 2, .string b], .bool true]) (by simp [results, Tryd.results10, go_sem, c0, c1, c2, c3, c4]) rfl ?_
  exact parts_yes HP.out (gr_put5 (gr_put (gr_put hG (.inr hww) _) (.inr hww) _) (Nat.le_refl _) _ _ _ _ _)

set_option maxRecDepth 100000 in
set_option maxHeartbeats 4000000 in
theorem refParts_y_one_begin (s a b : ByteArray) (i : Nat) (w : World) (hs : s.size ≤ 1000000000) (ha : Ascii s) (h : ¬ 14 < s.size) (hi : Lib.indexByte s.data.toList 47 = (i : Int)) (hea : s.extract 0 i = a) (heb : s.extract (i + 1) s.size = b) (kb : Nat) (hv : baseI b.data.toList = (kb : Int)) (hga : beginB a.data.toList = false) (k : Nat) (hk : baseI a.data.toList = (k : Int)) (np : (b.toList == [112]) = false) (nm : (b.toList == [109]) = false) (nmm : (b.toList == [109, 109]) = false) (nam : (b.toList == [97, 109]) = false) (c : UInt8) (hbc : b = ⟨#[c]⟩) (hz : ((b.size : Int) == 1) = true) (hd : dgB c = false) (hgb : beginB b.data.toList = true) (hT : tailK b.data.toList = 1) :
    Calls Tryd.prog 10 #[.string s] w (PartsPost s w) := by
  have h14 : ¬ (14 : Int) < (s.size : Int) := by omega
  have has : a.size ≤ 1000000000 := by rw [← hea]; simp; omega
  have hbs : b.size ≤ 1000000000 := by rw [← heb]; simp; omega
  have haa := Lib.hid (show Ascii a by rw [← hea]; exact ha.take _)
  have hba := Lib.hid (show Ascii b by rw [← heb]; exact ha.drop _)
  have hn : ¬ (0 ≤ baseI b.data.toList ∧ beginB a.data.toList = true) := fun hh => by rw [hga] at hh; simp at hh
  have HP : Hid (partsOf s = some (a, k, 1, b)) := by
    show _ = _
    rw [parts_tail h hi hea heb hn hk (by omega), hT]
    have : tailS b = b := by unfold tailS; rw [if_pos (by omega)]
    rw [this]
  have HC : Hid (∀ W : World, Calls Tryd.prog 60 #[.string s, .string ⟨#[47]⟩] W fun e w' => e = .returned (.tuple #[.string a, .string b, .bool true]) ∧ W.grownBy w' none) := fun W => by
    have := cut_hit s 47 i W (by omega) hi
    rw [hea, heb] at this
    exact this
  have HV := Lib.hid hv
  have HK := Lib.hid hk
  have HGA := Lib.hid hga
  have hkb : (0 : Int) ≤ (kb : Int) := by omega
  have hka : ¬ (k : Int) < 0 := by omega
  have HD : Hid (∀ W : World, Calls Tryd.prog 47 #[.string ⟨#[48, 49, 50, 51, 52, 53, 54, 55, 56, 57]⟩, .string b] W fun e w' => e = .returned (.bool (dgB c)) ∧ W = w') := fun W => by rw [hbc]; exact dig_any c W
  rw [hd] at HD
  have HGB := Lib.hid hgb
  clear hi hea heb ha h hn hv hk hga hT hbc hd hgb
  go_enter Tryd.func10, Tryd.ntmps10
  go_wp2_with fail
  refine (HC.out _).mono ?_
  rintro _ w1 ⟨rfl, hg⟩
  have hB := (Blk.new w 28 #[.string ⟨#[]⟩, .string ⟨#[]⟩, .string ⟨#[]⟩, .int .i64 0, .string ⟨#[]⟩]).grown hg (by simp)
  have hG := gr_trans (World.grownBy_alloc w (.cells #[.string ⟨#[]⟩, .string ⟨#[]⟩, .string ⟨#[]⟩, .int .i64 0, .string ⟨#[]⟩] 28) none) hg
  clear hg
  go_wp2_with fail
  refine (baseAt_any b _ hbs hba.out).mono ?_
  rintro _ w2 ⟨rfl, hg⟩
  rw [HV.out]
  replace hB := hB.grown hg (by simp)
  replace hG := gr_trans hG hg
  clear hg
  go_wp2_with fail
  refine (refBegin_any a _ has haa.out).mono ?_
  rintro _ w3 ⟨rfl, hg⟩
  rw [HGA.out]
  replace hB := hB.grown hg (by simp)
  replace hG := gr_trans hG hg
  clear hg
  go_wp2_with fail
  refine (baseAt_any a _ has haa.out).mono ?_
  rintro _ w4 ⟨rfl, hg⟩
  rw [HK.out]
  replace hB := hB.grown hg (by simp)
  replace hG := gr_trans hG hg
  clear hg
  go_wp2_with fail
  refine (refBase_any a k _ has haa.out HK.out).mono ?_
  rintro _ w5 ⟨rfl, hg⟩
  replace hB := hB.grown hg (by simp)
  replace hG := gr_trans hG hg
  clear hg
  have hP := Blk.new w5 28 #[.string a, .string (a.extract 0 (k + 1)), .string (a.extract (k + 1) a.size), .int .i64 0, .string ⟨#[]⟩]
  replace hG := gr_alloc hG (.cells #[.string a, .string (a.extract 0 (k + 1)), .string (a.extract (k + 1) a.size), .int .i64 0, .string ⟨#[]⟩] 28)
  have hne : ¬ w.heap.size = w5.heap.size := by have := hB.lt; omega
  have hww : w.heap.size ≤ w5.heap.size := by have := hB.lt; omega
  replace hB := hB.alloc (.cells #[.string a, .string (a.extract 0 (k + 1)), .string (a.extract (k + 1) a.size), .int .i64 0, .string ⟨#[]⟩] 28)
  go_wp2_with fail
  generalize w5.alloc (.cells #[.string a, .string (a.extract 0 (k + 1)), .string (a.extract (k + 1) a.size), .int .i64 0, .string ⟨#[]⟩] 28) = W5 at *
  refine (HD.out _).mono ?_
  rintro _ _ ⟨rfl, rfl⟩
  go_wp2_with fail
  refine (refBegin_any b _ hbs hba.out).mono ?_
  rintro _ w6 ⟨rfl, hg⟩
  rw [HGB.out]
  replace hP := hP.grown hg (by simp)
  replace hB := hB.grown hg (by simp)
  replace hG := gr_trans hG hg
  clear hg
  have hf := hB.free
  have hlt := hB.lt
  have hpf := hP.free
  have hplt := hP.lt
  obtain ⟨c0, c1, c2, c3, c4⟩ := hB.cells5
  obtain ⟨p0, p1, p2, p3, p4⟩ := hP.cells5
  go_wp2_with fail
  refine bodyPost_ret (v := .tuple #[.agg #[.string a, .string (a.extract 0 (k + 1)), .string (a.extract (k + 1) a.size), .int .i64 1, .string b], .bool true]) (by simp [results, Tryd.results10, go_sem, c0, c1, c2, c3, c4]) rfl ?_
  exact parts_yes HP.out (gr_put5 (gr_put (gr_put hG (.inr hww) _) (.inr hww) _) (Nat.le_refl _) _ _ _ _ _)

set_option maxRecDepth 100000 in
set_option maxHeartbeats 4000000 in
theorem refParts_y_one_none (s a b : ByteArray) (i : Nat) (w : World) (hs : s.size ≤ 1000000000) (ha : Ascii s) (h : ¬ 14 < s.size) (hi : Lib.indexByte s.data.toList 47 = (i : Int)) (hea : s.extract 0 i = a) (heb : s.extract (i + 1) s.size = b) (kb : Nat) (hv : baseI b.data.toList = (kb : Int)) (hga : beginB a.data.toList = false) (k : Nat) (hk : baseI a.data.toList = (k : Int)) (np : (b.toList == [112]) = false) (nm : (b.toList == [109]) = false) (nmm : (b.toList == [109, 109]) = false) (nam : (b.toList == [97, 109]) = false) (c : UInt8) (hbc : b = ⟨#[c]⟩) (hz : ((b.size : Int) == 1) = true) (hd : dgB c = false) (hgb : beginB b.data.toList = false) (hT : tailK b.data.toList = 0) :
    Calls Tryd.prog 10 #[.string s] w (PartsPost s w) := by
  have h14 : ¬ (14 : Int) < (s.size : Int) := by omega
  have has : a.size ≤ 1000000000 := by rw [← hea]; simp; omega
  have hbs : b.size ≤ 1000000000 := by rw [← heb]; simp; omega
  have haa := Lib.hid (show Ascii a by rw [← hea]; exact ha.take _)
  have hba := Lib.hid (show Ascii b by rw [← heb]; exact ha.drop _)
  have hn : ¬ (0 ≤ baseI b.data.toList ∧ beginB a.data.toList = true) := fun hh => by rw [hga] at hh; simp at hh
  have HP := Lib.hid (parts_none h hi hea heb hn (fun hh => hh.2 hT))
  have HC : Hid (∀ W : World, Calls Tryd.prog 60 #[.string s, .string ⟨#[47]⟩] W fun e w' => e = .returned (.tuple #[.string a, .string b, .bool true]) ∧ W.grownBy w' none) := fun W => by
    have := cut_hit s 47 i W (by omega) hi
    rw [hea, heb] at this
    exact this
  have HV := Lib.hid hv
  have HK := Lib.hid hk
  have HGA := Lib.hid hga
  have hkb : (0 : Int) ≤ (kb : Int) := by omega
  have hka : ¬ (k : Int) < 0 := by omega
  have HD : Hid (∀ W : World, Calls Tryd.prog 47 #[.string ⟨#[48, 49, 50, 51, 52, 53, 54, 55, 56, 57]⟩, .string b] W fun e w' => e = .returned (.bool (dgB c)) ∧ W = w') := fun W => by rw [hbc]; exact dig_any c W
  rw [hd] at HD
  have HGB := Lib.hid hgb
  clear hi hea heb ha h hn hv hk hga hT hbc hd hgb
  go_enter Tryd.func10, Tryd.ntmps10
  go_wp2_with fail
  refine (HC.out _).mono ?_
  rintro _ w1 ⟨rfl, hg⟩
  have hB := (Blk.new w 28 #[.string ⟨#[]⟩, .string ⟨#[]⟩, .string ⟨#[]⟩, .int .i64 0, .string ⟨#[]⟩]).grown hg (by simp)
  have hG := gr_trans (World.grownBy_alloc w (.cells #[.string ⟨#[]⟩, .string ⟨#[]⟩, .string ⟨#[]⟩, .int .i64 0, .string ⟨#[]⟩] 28) none) hg
  clear hg
  go_wp2_with fail
  refine (baseAt_any b _ hbs hba.out).mono ?_
  rintro _ w2 ⟨rfl, hg⟩
  rw [HV.out]
  replace hB := hB.grown hg (by simp)
  replace hG := gr_trans hG hg
  clear hg
  go_wp2_with fail
  refine (refBegin_any a _ has haa.out).mono ?_
  rintro _ w3 ⟨rfl, hg⟩
  rw [HGA.out]
  replace hB := hB.grown hg (by simp)
  replace hG := gr_trans hG hg
  clear hg
  go_wp2_with fail
  refine (baseAt_any a _ has haa.out).mono ?_
  rintro _ w4 ⟨rfl, hg⟩
  rw [HK.out]
  replace hB := hB.grown hg (by simp)
  replace hG := gr_trans hG hg
  clear hg
  go_wp2_with fail
  refine (refBase_any a k _ has haa.out HK.out).mono ?_
  rintro _ w5 ⟨rfl, hg⟩
  replace hB := hB.grown hg (by simp)
  replace hG := gr_trans hG hg
  clear hg
  have hP := Blk.new w5 28 #[.string a, .string (a.extract 0 (k + 1)), .string (a.extract (k + 1) a.size), .int .i64 0, .string ⟨#[]⟩]
  replace hG := gr_alloc hG (.cells #[.string a, .string (a.extract 0 (k + 1)), .string (a.extract (k + 1) a.size), .int .i64 0, .string ⟨#[]⟩] 28)
  have hne : ¬ w.heap.size = w5.heap.size := by have := hB.lt; omega
  have hww : w.heap.size ≤ w5.heap.size := by have := hB.lt; omega
  replace hB := hB.alloc (.cells #[.string a, .string (a.extract 0 (k + 1)), .string (a.extract (k + 1) a.size), .int .i64 0, .string ⟨#[]⟩] 28)
  go_wp2_with fail
  generalize w5.alloc (.cells #[.string a, .string (a.extract 0 (k + 1)), .string (a.extract (k + 1) a.size), .int .i64 0, .string ⟨#[]⟩] 28) = W5 at *
  refine (HD.out _).mono ?_
  rintro _ _ ⟨rfl, rfl⟩
  go_wp2_with fail
  refine (refBegin_any b _ hbs hba.out).mono ?_
  rintro _ w6 ⟨rfl, hg⟩
  rw [HGB.out]
  replace hP := hP.grown hg (by simp)
  replace hB := hB.grown hg (by simp)
  replace hG := gr_trans hG hg
  clear hg
  have hf := hB.free
  have hlt := hB.lt
  have hpf := hP.free
  have hplt := hP.lt
  obtain ⟨c0, c1, c2, c3, c4⟩ := hB.cells5
  obtain ⟨p0, p1, p2, p3, p4⟩ := hP.cells5
  go_wp2_with fail
  refine bodyPost_ret (v := .tuple #[.agg #[.string ⟨#[]⟩, .string ⟨#[]⟩, .string ⟨#[]⟩, .int .i64 0, .string ⟨#[]⟩], .bool false]) (by simp [results, Tryd.results10, go_sem, c0, c1, c2, c3, c4]) rfl ?_
  exact parts_no HP.out (gr_put5 hG (Nat.le_refl _) _ _ _ _ _)

set_option maxRecDepth 100000 in
set_option maxHeartbeats 4000000 in
theorem refParts_y_many_begin (s a b : ByteArray) (i : Nat) (w : World) (hs : s.size ≤ 1000000000) (ha : Ascii s) (h : ¬ 14 < s.size) (hi : Lib.indexByte s.data.toList 47 = (i : Int)) (hea : s.extract 0 i = a) (heb : s.extract (i + 1) s.size = b) (kb : Nat) (hv : baseI b.data.toList = (kb : Int)) (hga : beginB a.data.toList = false) (k : Nat) (hk : baseI a.data.toList = (k : Int)) (np : (b.toList == [112]) = false) (nm : (b.toList == [109]) = false) (nmm : (b.toList == [109, 109]) = false) (nam : (b.toList == [97, 109]) = false) (hz : ((b.size : Int) == 1) = false) (hgb : beginB b.data.toList = true) (hT : tailK b.data.toList = 1) :
    Calls Tryd.prog 10 #[.string s] w (PartsPost s w) := by
  have h14 : ¬ (14 : Int) < (s.size : Int) := by omega
  have has : a.size ≤ 1000000000 := by rw [← hea]; simp; omega
  have hbs : b.size ≤ 1000000000 := by rw [← heb]; simp; omega
  have haa := Lib.hid (show Ascii a by rw [← hea]; exact ha.take _)
  have hba := Lib.hid (show Ascii b by rw [← heb]; exact ha.drop _)
  have hn : ¬ (0 ≤ baseI b.data.toList ∧ beginB a.data.toList = true) := fun hh => by rw [hga] at hh; simp at hh
  have HP : Hid (partsOf s = some (a, k, 1, b)) := by
    show _ = _
    rw [parts_tail h hi hea heb hn hk (by omega), hT]
    have : tailS b = b := by unfold tailS; rw [if_pos (by omega)]
    rw [this]
  have HC : Hid (∀ W : World, Calls Tryd.prog 60 #[.string s, .string ⟨#[47]⟩] W fun e w' => e = .returned (.tuple #[.string a, .string b, .bool true]) ∧ W.grownBy w' none) := fun W => by
    have := cut_hit s 47 i W (by omega) hi
    rw [hea, heb] at this
    exact this
  have HV := Lib.hid hv
  have HK := Lib.hid hk
  have HGA := Lib.hid hga
  have hkb : (0 : Int) ≤ (kb : Int) := by omega
  have hka : ¬ (k : Int) < 0 := by omega
  have HGB := Lib.hid hgb
  clear hi hea heb ha h hn hv hk hga hT hgb
  go_enter Tryd.func10, Tryd.ntmps10
  go_wp2_with fail
  refine (HC.out _).mono ?_
  rintro _ w1 ⟨rfl, hg⟩
  have hB := (Blk.new w 28 #[.string ⟨#[]⟩, .string ⟨#[]⟩, .string ⟨#[]⟩, .int .i64 0, .string ⟨#[]⟩]).grown hg (by simp)
  have hG := gr_trans (World.grownBy_alloc w (.cells #[.string ⟨#[]⟩, .string ⟨#[]⟩, .string ⟨#[]⟩, .int .i64 0, .string ⟨#[]⟩] 28) none) hg
  clear hg
  go_wp2_with fail
  refine (baseAt_any b _ hbs hba.out).mono ?_
  rintro _ w2 ⟨rfl, hg⟩
  rw [HV.out]
  replace hB := hB.grown hg (by simp)
  replace hG := gr_trans hG hg
  clear hg
  go_wp2_with fail
  refine (refBegin_any a _ has haa.out).mono ?_
  rintro _ w3 ⟨rfl, hg⟩
  rw [HGA.out]
  replace hB := hB.grown hg (by simp)
  replace hG := gr_trans hG hg
  clear hg
  go_wp2_with fail
  refine (baseAt_any a _ has haa.out).mono ?_
  rintro _ w4 ⟨rfl, hg⟩
  rw [HK.out]
  replace hB := hB.grown hg (by simp)
  replace hG := gr_trans hG hg
  clear hg
  go_wp2_with fail
  refine (refBase_any a k _ has haa.out HK.out).mono ?_
  rintro _ w5 ⟨rfl, hg⟩
  replace hB := hB.grown hg (by simp)
  replace hG := gr_trans hG hg
  clear hg
  have hP := Blk.new w5 28 #[.string a, .string (a.extract 0 (k + 1)), .string (a.extract (k + 1) a.size), .int .i64 0, .string ⟨#[]⟩]
  replace hG := gr_alloc hG (.cells #[.string a, .string (a.extract 0 (k + 1)), .string (a.extract (k + 1) a.size), .int .i64 0, .string ⟨#[]⟩] 28)
  have hne : ¬ w.heap.size = w5.heap.size := by have := hB.lt; omega
  have hww : w.heap.size ≤ w5.heap.size := by have := hB.lt; omega
  replace hB := hB.alloc (.cells #[.string a, .string (a.extract 0 (k + 1)), .string (a.extract (k + 1) a.size), .int .i64 0, .string ⟨#[]⟩] 28)
  go_wp2_with fail
  generalize w5.alloc (.cells #[.string a, .string (a.extract 0 (k + 1)), .string (a.extract (k + 1) a.size), .int .i64 0, .string ⟨#[]⟩] 28) = W5 at *
  clear hz
  refine (refBegin_any b _ hbs hba.out).mono ?_
  rintro _ w6 ⟨rfl, hg⟩
  rw [HGB.out]
  replace hP := hP.grown hg (by simp)
  replace hB := hB.grown hg (by simp)
  replace hG := gr_trans hG hg
  clear hg
  have hf := hB.free
  have hlt := hB.lt
  have hpf := hP.free
  have hplt := hP.lt
  obtain ⟨c0, c1, c2, c3, c4⟩ := hB.cells5
  obtain ⟨p0, p1, p2, p3, p4⟩ := hP.cells5
  go_wp2_with fail
  refine bodyPost_ret (v := .tuple #[.agg #[.string a, .string (a.extract 0 (k + 1)), .string (a.extract (k + 1) a.size), .int .i64 1, .string b], .bool true]) (by simp [results, Tryd.results10, go_sem, c0, c1, c2, c3, c4]) rfl ?_
  exact parts_yes HP.out (gr_put5 (gr_put (gr_put hG (.inr hww) _) (.inr hww) _) (Nat.le_refl _) _ _ _ _ _)

set_option maxRecDepth 100000 in
set_option maxHeartbeats 4000000 in
theorem refParts_y_many_none (s a b : ByteArray) (i : Nat) (w : World) (hs : s.size ≤ 1000000000) (ha : Ascii s) (h : ¬ 14 < s.size) (hi : Lib.indexByte s.data.toList 47 = (i : Int)) (hea : s.extract 0 i = a) (heb : s.extract (i + 1) s.size = b) (kb : Nat) (hv : baseI b.data.toList = (kb : Int)) (hga : beginB a.data.toList = false) (k : Nat) (hk : baseI a.data.toList = (k : Int)) (np : (b.toList == [112]) = false) (nm : (b.toList == [109]) = false) (nmm : (b.toList == [109, 109]) = false) (nam : (b.toList == [97, 109]) = false) (hz : ((b.size : Int) == 1) = false) (hgb : beginB b.data.toList = false) (hT : tailK b.data.toList = 0) :
    Calls Tryd.prog 10 #[.string s] w (PartsPost s w) := by
  have h14 : ¬ (14 : Int) < (s.size : Int) := by omega
  have has : a.size ≤ 1000000000 := by rw [← hea]; simp; omega
  have hbs : b.size ≤ 1000000000 := by rw [← heb]; simp; omega
  have haa := Lib.hid (show Ascii a by rw [← hea]; exact ha.take _)
  have hba := Lib.hid (show Ascii b by rw [← heb]; exact ha.drop _)
  have hn : ¬ (0 ≤ baseI b.data.toList ∧ beginB a.data.toList = true) := fun hh => by rw [hga] at hh; simp at hh
  have HP := Lib.hid (parts_none h hi hea heb hn (fun hh => hh.2 hT))
  have HC : Hid (∀ W : World, Calls Tryd.prog 60 #[.string s, .string ⟨#[47]⟩] W fun e w' => e = .returned (.tuple #[.string a, .string b, .bool true]) ∧ W.grownBy w' none) := fun W => by
    have := cut_hit s 47 i W (by omega) hi
    rw [hea, heb] at this
    exact this
  have HV := Lib.hid hv
  have HK := Lib.hid hk
  have HGA := Lib.hid hga
  have hkb : (0 : Int) ≤ (kb : Int) := by omega
  have hka : ¬ (k : Int) < 0 := by omega
  have HGB := Lib.hid hgb
  clear hi hea heb ha h hn hv hk hga hT hgb
  go_enter Tryd.func10, Tryd.ntmps10
  go_wp2_with fail
  refine (HC.out _).mono ?_
  rintro _ w1 ⟨rfl, hg⟩
  have hB := (Blk.new w 28 #[.string ⟨#[]⟩, .string ⟨#[]⟩, .string ⟨#[]⟩, .int .i64 0, .string ⟨#[]⟩]).grown hg (by simp)
  have hG := gr_trans (World.grownBy_alloc w (.cells #[.string ⟨#[]⟩, .string ⟨#[]⟩, .string ⟨#[]⟩, .int .i64 0, .string ⟨#[]⟩] 28) none) hg
  clear hg
  go_wp2_with fail
  refine (baseAt_any b _ hbs hba.out).mono ?_
  rintro _ w2 ⟨rfl, hg⟩
  rw [HV.out]
  replace hB := hB.grown hg (by simp)
  replace hG := gr_trans hG hg
  clear hg
  go_wp2_with fail
  refine (refBegin_any a _ has haa.out).mono ?_
  rintro _ w3 ⟨rfl, hg⟩
  rw [HGA.out]
  replace hB := hB.grown hg (by simp)
  replace hG := gr_trans hG hg
  clear hg
  go_wp2_with fail
  refine (baseAt_any a _ has haa.out).mono ?_
  rintro _ w4 ⟨rfl, hg⟩
  rw [HK.out]
  replace hB := hB.grown hg (by simp)
  replace hG := gr_trans hG hg
  clear hg
  go_wp2_with fail
  refine (refBase_any a k _ has haa.out HK.out).mono ?_
  rintro _ w5 ⟨rfl, hg⟩
  replace hB := hB.grown hg (by simp)
  replace hG := gr_trans hG hg
  clear hg
  have hP := Blk.new w5 28 #[.string a, .string (a.extract 0 (k + 1)), .string (a.extract (k + 1) a.size), .int .i64 0, .string ⟨#[]⟩]
  replace hG := gr_alloc hG (.cells #[.string a, .string (a.extract 0 (k + 1)), .string (a.extract (k + 1) a.size), .int .i64 0, .string ⟨#[]⟩] 28)
  have hne : ¬ w.heap.size = w5.heap.size := by have := hB.lt; omega
  have hww : w.heap.size ≤ w5.heap.size := by have := hB.lt; omega
  replace hB := hB.alloc (.cells #[.string a, .string (a.extract 0 (k + 1)), .string (a.extract (k + 1) a.size), .int .i64 0, .string ⟨#[]⟩] 28)
  go_wp2_with fail
  generalize w5.alloc (.cells #[.string a, .string (a.extract 0 (k + 1)), .string (a.extract (k + 1) a.size), .int .i64 0, .string ⟨#[]⟩] 28) = W5 at *
  clear hz
  refine (refBegin_any b _ hbs hba.out).mono ?_
  rintro _ w6 ⟨rfl, hg⟩
  rw [HGB.out]
  replace hP := hP.grown hg (by simp)
  replace hB := hB.grown hg (by simp)
  replace hG := gr_trans hG hg
  clear hg
  have hf := hB.free
  have hlt := hB.lt
  have hpf := hP.free
  have hplt := hP.lt
  obtain ⟨c0, c1, c2, c3, c4⟩ := hB.cells5
  obtain ⟨p0, p1, p2, p3, p4⟩ := hP.cells5
  go_wp2_with fail
  refine bodyPost_ret (v := .tuple #[.agg #[.string ⟨#[]⟩, .string ⟨#[]⟩, .string ⟨#[]⟩, .int .i64 0, .string ⟨#[]⟩], .bool false]) (by simp [results, Tryd.results10, go_sem, c0, c1, c2, c3, c4]) rfl ?_
  exact parts_no HP.out (gr_put5 hG (Nat.le_refl _) _ _ _ _ _)
end Go.Proofs.YtffddmgnjecmdaaDoor
