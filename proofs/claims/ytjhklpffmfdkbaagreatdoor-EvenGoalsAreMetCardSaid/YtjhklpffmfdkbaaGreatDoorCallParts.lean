/- The walks over split, based, tail, Parts, Apart: a call sign taken apart. Condition: the string is ASCII and shorter than 2^32 bytes. -/
import Derived.Test.YtjhklpffmfdkbaaGreatDoorLastAny
namespace Go.Proofs.YtjhklpffmfdkbaaGreatDoor
open Go.RowKit
set_option linter.unusedVariables false

theorem ext_take (s : ByteArray) (k : Nat) : (s.extract 0 k).data.toList = s.data.toList.take k := by simp [ByteArray.data_extract]
theorem ext_drop (s : ByteArray) (k : Nat) : (s.extract k s.size).data.toList = s.data.toList.drop k := by
  simp [ByteArray.data_extract]
  rw [List.take_of_length_le (by simp)]
theorem Ascii.take {s : ByteArray} (h : Ascii s) (k : Nat) : Ascii (s.extract 0 k) := by
  intro j b hb
  rw [ext_take] at hb
  rw [List.getElem?_take] at hb
  split at hb
  · exact h j b hb
  · cases hb
theorem Ascii.drop {s : ByteArray} (h : Ascii s) (k : Nat) : Ascii (s.extract k s.size) := by
  intro j b hb
  rw [ext_drop, List.getElem?_drop] at hb
  exact h _ b hb
theorem plainL_take {l : List UInt8} (h : plainL l = true) (k : Nat) : plainL (l.take k) = true := by
  unfold plainL at h ⊢
  rw [List.all_eq_true] at h ⊢
  exact fun x hx => h x (List.mem_of_mem_take hx)

def SplitPost (s : ByteArray) (w : World) (e : Ending) (w' : World) : Prop :=
  ∃ d : Int, e = .returned (.tuple #[.int .i64 d, .bool (decide (0 ≤ baseI s.data.toList))]) ∧ (0 ≤ baseI s.data.toList → d = baseI s.data.toList) ∧ w.grownBy w' none
theorem split_fail {s : ByteArray} {w w' : World} {d : Int} (hb : baseI s.data.toList = -1) (hg : w.grownBy w' none) : SplitPost s w (.returned (.tuple #[.int .i64 d, .bool false])) w' :=
  ⟨d, by rw [hb]; rfl, fun h => by omega, hg⟩

set_option maxHeartbeats 2000000 in
theorem split_any (s : ByteArray) (w : World) (hs : s.size < 4294967281) (ha : Ascii s) :
    Calls Tryz.prog 112 #[.string s] w (SplitPost s w) := by
  have hl : s.data.toList.length = s.size := by simp
  have hbd := lastP_bd dgB s.data.toList
  rw [hl] at hbd
  obtain ⟨b1, b2⟩ := hbd
  obtain ⟨D, hD⟩ : ∃ D, lastP dgB s.data.toList = D := ⟨_, rfl⟩
  rw [hD] at b1 b2
  rcases hp : plainL s.data.toList
  · have HB := Lib.hid (baseI_no s.data.toList (by rw [hp]; simp))
    clear hl hD
    go_enter Tryz.func112, Tryz.ntmps112
    go_wp2_with (go_at_call 114; refine (isPlain_any _ _ (by omega)).mono ?_; rintro _ _ ⟨rfl, rfl⟩)
    go_ret2
    exact split_fail HB.out (gr_refl _ _)
  by_cases h10 : 10 < s.size
  · have HB := Lib.hid (baseI_no s.data.toList (by rw [hl]; omega))
    have h10' : (10 : Int) < (s.size : Int) := by omega
    clear hl hD
    go_enter Tryz.func112, Tryz.ntmps112
    go_wp2_with (go_at_call 114; refine (isPlain_any _ _ (by omega)).mono ?_; rintro _ _ ⟨rfl, rfl⟩)
    go_ret2
    exact split_fail HB.out (gr_refl _ _)
  have h10' : ¬ (10 : Int) < (s.size : Int) := by omega
  by_cases h1 : D < 1
  · have HB := Lib.hid (baseI_no s.data.toList (by rw [hD]; omega))
    have HD := Lib.hid hD
    clear hl hD
    go_enter Tryz.func112, Tryz.ntmps112
    go_wp2_with (first | (go_at_call 114; refine (isPlain_any _ _ (by omega)).mono ?_; rintro _ _ ⟨rfl, rfl⟩) | (go_at_call 133; refine (lastDig_any _ _ hs ha).mono ?_; rintro _ _ ⟨rfl, hg⟩; rw [HD.out]))
    go_ret2
    exact split_fail HB.out hg
  by_cases h3 : 3 < D
  · have HB := Lib.hid (baseI_no s.data.toList (by rw [hD]; omega))
    have HD := Lib.hid hD
    clear hl hD
    go_enter Tryz.func112, Tryz.ntmps112
    go_wp2_with (first | (go_at_call 114; refine (isPlain_any _ _ (by omega)).mono ?_; rintro _ _ ⟨rfl, rfl⟩) | (go_at_call 133; refine (lastDig_any _ _ hs ha).mono ?_; rintro _ _ ⟨rfl, hg⟩; rw [HD.out]))
    go_ret2
    exact split_fail HB.out hg
  by_cases h4 : (s.size : Int) - D - 1 < 1
  · have HB := Lib.hid (baseI_no s.data.toList (by rw [hD, hl]; omega))
    have HD := Lib.hid hD
    clear hl hD
    go_enter Tryz.func112, Tryz.ntmps112
    go_wp2_with (first | (go_at_call 114; refine (isPlain_any _ _ (by omega)).mono ?_; rintro _ _ ⟨rfl, rfl⟩) | (go_at_call 133; refine (lastDig_any _ _ hs ha).mono ?_; rintro _ _ ⟨rfl, hg⟩; rw [HD.out]))
    go_ret2
    exact split_fail HB.out hg
  by_cases h5 : 4 < (s.size : Int) - D - 1
  · have HB := Lib.hid (baseI_no s.data.toList (by rw [hD, hl]; omega))
    have HD := Lib.hid hD
    clear hl hD
    go_enter Tryz.func112, Tryz.ntmps112
    go_wp2_with (first | (go_at_call 114; refine (isPlain_any _ _ (by omega)).mono ?_; rintro _ _ ⟨rfl, rfl⟩) | (go_at_call 133; refine (lastDig_any _ _ hs ha).mono ?_; rintro _ _ ⟨rfl, hg⟩; rw [HD.out]))
    go_ret2
    exact split_fail HB.out hg
  obtain ⟨k, rfl⟩ := Int.eq_ofNat_of_zero_le (show 0 ≤ D by omega)
  have hpt := plainL_take hp k
  have hplN : plN (s.extract 0 k).data.toList = (lettN (s.data.toList.take k) : Int) := by
    rw [ext_take]; unfold plN; rw [hpt]; rfl
  have hplB : plainL (s.extract 0 k).data.toList = true := by rw [ext_take]; exact hpt
  obtain ⟨m, hm⟩ : ∃ m, lettN (s.data.toList.take k) = m := ⟨_, rfl⟩
  rw [hm] at hplN
  have hkn : k ≤ s.size := by omega
  have HB : Hid (baseI s.data.toList = if 0 < m then (k : Int) else -1) := by
    show _ = _
    by_cases h : 0 < m
    · rw [if_pos h, baseI_yes s.data.toList ⟨hp, by rw [hl]; omega, by rw [hD]; omega, by rw [hD]; omega, by rw [hD, hl]; omega, by rw [hD, hl]; omega, by rw [hD, Int.toNat_natCast, hm]; exact h⟩, hD]
    · rw [if_neg h, baseI_no]
      rw [hD, Int.toNat_natCast, hm]
      omega
  have HD := Lib.hid hD
  have HP := Lib.hid hplN
  have HQ := Lib.hid hplB
  have hes : (s.extract 0 k).size ≤ 9223372036854775807 := by simp; omega
  clear hl hD hm hplN hplB hpt
  have HR : ∀ W : World, Calls Tryz.prog 114 #[.string (s.extract 0 k)] W fun e w' => e = .returned (.tuple #[.int .i64 (m : Int), .bool true]) ∧ W = w' := fun W => by
    have := isPlain_any (s.extract 0 k) W hes
    rw [HP.out, HQ.out] at this
    exact this
  have HRR := Lib.hid HR
  clear HR hes
  go_enter Tryz.func112, Tryz.ntmps112
  go_wp2_with fail
  refine (isPlain_any _ _ (by omega)).mono ?_
  rintro _ _ ⟨rfl, rfl⟩
  go_wp2_with fail
  refine (lastDig_any _ _ hs ha).mono ?_
  rintro _ _ ⟨rfl, hg⟩
  rw [HD.out]
  go_wp2_with fail
  refine (HRR.out _).mono ?_
  rintro _ _ ⟨rfl, rfl⟩
  go_wp2_with fail
  go_ret2
  refine ⟨(k : Int), ret_ib rfl ?_, fun h => ?_, hg⟩
  · rw [HB.out]
    by_cases h : 0 < m
    · rw [if_pos h]; simp [h]
    · rw [if_neg h]; simp; omega
  · have := HB.out
    by_cases h' : 0 < m
    · rw [if_pos h'] at this; exact this.symm
    · rw [if_neg h'] at this; omega

def tailS (s : ByteArray) : ByteArray := if tailK s.data.toList = 1 ∨ tailK s.data.toList = 2 then s else ⟨#[]⟩
def TailPost (s : ByteArray) (w : World) (e : Ending) (w' : World) : Prop :=
  ∃ (d : Int) (t : ByteArray), e = .returned (.tuple #[.int .i64 d, .string t, .bool (decide (tailK s.data.toList ≠ 0))]) ∧ (tailK s.data.toList ≠ 0 → d = tailK s.data.toList ∧ t = tailS s) ∧ w = w'
theorem tail_done {s : ByteArray} {w : World} {d : Int} {t : ByteArray} (h : tailK s.data.toList = d) (hd : d ≠ 0) (ht : t = tailS s) : TailPost s w (.returned (.tuple #[.int .i64 d, .string t, .bool true])) w :=
  ⟨d, t, by rw [h]; simp [hd], fun _ => ⟨h.symm, ht⟩, rfl⟩
theorem tailS_own {s : ByteArray} (h : tailK s.data.toList = 1 ∨ tailK s.data.toList = 2) : s = tailS s := by unfold tailS; rw [if_pos h]
theorem tailS_none {s : ByteArray} (h1 : tailK s.data.toList ≠ 1) (h2 : tailK s.data.toList ≠ 2) : (⟨#[]⟩ : ByteArray) = tailS s := by unfold tailS; rw [if_neg (by omega)]

set_option maxHeartbeats 2000000 in
theorem tail_any (s : ByteArray) (w : World) (hs : s.size < 4294967281) :
    Calls Tryz.prog 91 #[.string s] w (TailPost s w) := by
  have hl : s.data.toList.length = s.size := by simp
  have hd : s.toList = s.data.toList := Lib.toList_data s
  by_cases h1 : (s.toList == [112]) = true
  · have HK : Hid (tailK s.data.toList = 3) := by
      show _ = _
      rw [hd, beq_iff_eq] at h1; unfold tailK; rw [if_pos h1]
    clear hl hd
    go_enter Tryz.func91, Tryz.ntmps91
    go_wp2_with fail
    go_ret3
    exact tail_done HK.out (by decide) (tailS_none (by rw [HK.out]; decide) (by rw [HK.out]; decide))
  have n1 : (s.toList == [112]) = false := by simpa using h1
  have m1 : ¬ s.data.toList = [112] := by rw [← hd]; simpa using h1
  clear h1
  by_cases h1 : (s.toList == [109]) = true
  · have HK : Hid (tailK s.data.toList = 4) := by
      show _ = _
      rw [hd, beq_iff_eq] at h1; unfold tailK; rw [if_neg m1, if_pos h1]
    clear hl hd m1
    go_enter Tryz.func91, Tryz.ntmps91
    go_wp2_with fail
    go_ret3
    exact tail_done HK.out (by decide) (tailS_none (by rw [HK.out]; decide) (by rw [HK.out]; decide))
  have n2 : (s.toList == [109]) = false := by simpa using h1
  have m2 : ¬ s.data.toList = [109] := by rw [← hd]; simpa using h1
  clear h1
  by_cases h1 : (s.toList == [109, 109]) = true
  · have HK : Hid (tailK s.data.toList = 5) := by
      show _ = _
      rw [hd, beq_iff_eq] at h1; unfold tailK; rw [if_neg m1, if_neg m2, if_pos h1]
    clear hl hd m1 m2
    go_enter Tryz.func91, Tryz.ntmps91
    go_wp2_with fail
    go_ret3
    exact tail_done HK.out (by decide) (tailS_none (by rw [HK.out]; decide) (by rw [HK.out]; decide))
  have n3 : (s.toList == [109, 109]) = false := by simpa using h1
  have m3 : ¬ s.data.toList = [109, 109] := by rw [← hd]; simpa using h1
  clear h1
  by_cases h1 : (s.toList == [97, 109]) = true
  · have HK : Hid (tailK s.data.toList = 6) := by
      show _ = _
      rw [hd, beq_iff_eq] at h1; unfold tailK; rw [if_neg m1, if_neg m2, if_neg m3, if_pos h1]
    clear hl hd m1 m2 m3
    go_enter Tryz.func91, Tryz.ntmps91
    go_wp2_with fail
    go_ret3
    exact tail_done HK.out (by decide) (tailS_none (by rw [HK.out]; decide) (by rw [HK.out]; decide))
  have n4 : (s.toList == [97, 109]) = false := by simpa using h1
  have m4 : ¬ s.data.toList = [97, 109] := by rw [← hd]; simpa using h1
  clear h1
  have HT : Hid (tailK s.data.toList = if s.data.toList.length = 1 ∧ s.data.toList.all dgB = true then 2 else if beginB s.data.toList then 1 else 0) := by
    show _ = _
    unfold tailK; rw [if_neg m1, if_neg m2, if_neg m3, if_neg m4]
  clear m1 m2 m3 m4
  have HFin : ∀ (W : World), W = w → Hid (tailK s.data.toList = if beginB s.data.toList then 1 else 0) → TailPost s w (.returned (.tuple #[.int .i64 1, .string s, .bool (beginB s.data.toList)])) W := fun W hW H => by
    subst hW
    cases hb : beginB s.data.toList
    · have h0 : tailK s.data.toList = 0 := by rw [H.out, hb]; rfl
      exact ⟨1, s, by rw [h0]; rfl, fun h => absurd h0 h, rfl⟩
    · have h0 : tailK s.data.toList = 1 := by rw [H.out, hb]; rfl
      exact tail_done h0 (by decide) (tailS_own (.inl h0))
  have HF := Lib.hid HFin
  clear HFin
  by_cases h1 : s.size = 1
  · have h0 : 0 < s.size := by omega
    have hz : ((s.size : Int) == 1) = true := by rw [beq_iff_eq]; omega
    obtain ⟨c, hc⟩ : ∃ c, s[0] = c := ⟨_, rfl⟩
    have hsl : s.data.toList = [c] := by
      obtain ⟨x, hx⟩ := List.length_eq_one_iff.1 (hl.trans h1)
      have : s.data.toList[0]'(by omega) = c := hc
      simp only [hx, List.getElem_cons_zero] at this
      rw [hx, this]
    have HC : Hid (s.data.toList.length = 1 ∧ s.data.toList.all dgB = dgB c) := ⟨by rw [hl, h1], by rw [hsl]; simp⟩
    have HS1 := Lib.hid h1
    clear hl hd hsl h1
    cases hdg : dgB c
    · have HK : Hid (tailK s.data.toList = if beginB s.data.toList then 1 else 0) := by
        show _ = _
        rw [HT.out, if_neg (by rw [HC.out.2, hdg]; simp)]
      go_enter Tryz.func91, Tryz.ntmps91
      go_wp2_with fail
      refine (isDigit_any _ _).mono ?_
      rintro _ _ ⟨rfl, rfl⟩
      rw [hdg]
      go_wp2_with fail
      refine (isBegin_any _ _ (by omega)).mono ?_
      rintro _ _ ⟨rfl, rfl⟩
      go_wp2_with fail
      go_ret3
      exact HF.out _ rfl HK
    · have HK : Hid (tailK s.data.toList = 2) := by
        show _ = _
        rw [HT.out, if_pos ⟨HC.out.1, by rw [HC.out.2, hdg]⟩]
      go_enter Tryz.func91, Tryz.ntmps91
      go_wp2_with fail
      refine (isDigit_any _ _).mono ?_
      rintro _ _ ⟨rfl, rfl⟩
      rw [hdg]
      go_wp2_with fail
      go_ret3
      exact tail_done HK.out (by decide) (tailS_own (.inr HK.out))
  · have hz : ((s.size : Int) == 1) = false := by rw [beq_eq_false_iff_ne]; omega
    have HK : Hid (tailK s.data.toList = if beginB s.data.toList then 1 else 0) := by
      show _ = _
      rw [HT.out, if_neg (by omega)]
    clear hl hd h1
    go_enter Tryz.func91, Tryz.ntmps91
    go_wp2_with fail
    refine (isBegin_any _ _ (by omega)).mono ?_
    rintro _ _ ⟨rfl, rfl⟩
    go_wp2_with fail
    go_ret3
    exact HF.out _ rfl HK

theorem dec_neg1 : (decide ((0 : Int) ≤ -1)) = false := by decide

set_option maxHeartbeats 2000000 in
theorem based_no (s : ByteArray) (w : World) (hs : s.size < 4294967281) (ha : Ascii s) (hb : baseI s.data.toList = -1) :
    Calls Tryz.prog 88 #[.string s] w fun e w' => e = .returned (.tuple #[.agg #[.string ⟨#[]⟩, .string ⟨#[]⟩, .string ⟨#[]⟩, .int .i64 0, .string ⟨#[]⟩], .bool false]) ∧ w.grownBy w' none := by
  have HB := Lib.hid hb
  clear hb
  go_enter Tryz.func88, Tryz.ntmps88
  go_wp2_with fail
  refine (split_any s _ hs ha).mono ?_
  rintro _ w1 ⟨d, rfl, -, hg⟩
  rw [HB.out, dec_neg1]
  have hB := (Blk.new w 69 #[.string ⟨#[]⟩, .string ⟨#[]⟩, .string ⟨#[]⟩, .int .i64 0, .string ⟨#[]⟩]).grown hg (by simp)
  have c0 := hB.cell 0
  have c1 := hB.cell 1
  have c2 := hB.cell 2
  have c3 := hB.cell 3
  have c4 := hB.cell 4
  have f0 := hB.free 0
  have f1 := hB.free 1
  have f2 := hB.free 2
  have f3 := hB.free 3
  have f4 := hB.free 4
  simp only [List.getElem?_toArray, List.getElem?_cons_zero, List.getElem?_cons_succ] at c0 c1 c2 c3 c4
  go_wp2_with fail
  refine bodyPost_ret (v := .tuple #[.agg #[.string ⟨#[]⟩, .string ⟨#[]⟩, .string ⟨#[]⟩, .int .i64 0, .string ⟨#[]⟩], .bool false]) (by simp [results, Tryz.results88, go_sem, c0, c1, c2, c3, c4]) rfl ?_
  refine ⟨rfl, ?_⟩
  have hg0 := gr_trans (World.grownBy_alloc w _ none) hg
  exact gr_put (gr_put (gr_put (gr_put (gr_put hg0 (.inr (Nat.le_refl _)) _) (.inr (Nat.le_refl _)) _) (.inr (Nat.le_refl _)) _) (.inr (Nat.le_refl _)) _) (.inr (Nat.le_refl _)) _

set_option maxHeartbeats 2000000 in
theorem based_yes (s : ByteArray) (k : Nat) (w : World) (hs : s.size < 4294967281) (ha : Ascii s) (hb : baseI s.data.toList = k) :
    Calls Tryz.prog 88 #[.string s] w fun e w' => e = .returned (.tuple #[.agg #[.string s, .string (s.extract 0 (k + 1)), .string (s.extract (k + 1) s.size), .int .i64 0, .string ⟨#[]⟩], .bool true]) ∧ w.grownBy w' none := by
  have hl : s.data.toList.length = s.size := by simp
  have hk1 : k + 1 ≤ s.size := by
    have := baseI_cases s.data.toList
    rw [hb, hl] at this
    omega
  have HB := Lib.hid hb
  have e1 : IntKind.i64.wrap ((k : Int) + 1) = (k : Int) + 1 := IntWalk.i64_in _ ⟨by omega, by omega⟩
  have e2 : ((k : Int) + 1).toNat = k + 1 := by omega
  have e3 : (0 : Int) ≤ (k : Int) + 1 := by omega
  have e4 : (k : Int) + 1 ≤ (s.size : Int) := by omega
  have e5 : decide (0 ≤ (k : Int)) = true := by simp
  clear hb hl
  go_enter Tryz.func88, Tryz.ntmps88
  go_wp2_with fail
  refine (split_any s _ hs ha).mono ?_
  rintro _ w1 ⟨d, rfl, hd, hg⟩
  rw [HB.out] at hd
  obtain rfl := hd (by omega)
  rw [HB.out, e5]
  have hB := (Blk.new w 69 #[.string ⟨#[]⟩, .string ⟨#[]⟩, .string ⟨#[]⟩, .int .i64 0, .string ⟨#[]⟩]).grown hg (by simp)
  have c0 := hB.cell 0
  have c1 := hB.cell 1
  have c2 := hB.cell 2
  have c3 := hB.cell 3
  have c4 := hB.cell 4
  have f0 := hB.free 0
  have f1 := hB.free 1
  have f2 := hB.free 2
  have f3 := hB.free 3
  have f4 := hB.free 4
  simp only [List.getElem?_toArray, List.getElem?_cons_zero, List.getElem?_cons_succ] at c0 c1 c2 c3 c4
  clear hd e5
  go_wp2_with fail
  go_region
  go_wp2_with fail
  refine bodyPost_ret (v := .tuple #[.agg #[.string s, .string (s.extract 0 (k + 1)), .string (s.extract (k + 1) s.size), .int .i64 0, .string ⟨#[]⟩], .bool true]) (by simp [results, Tryz.results88, go_sem, c0, c1, c2, c3, c4]) rfl ?_
  refine ⟨rfl, ?_⟩
  have hg0 := gr_trans (World.grownBy_alloc w _ none) hg
  exact gr_drew (gr_put (gr_put (gr_put (gr_put (gr_put hg0 (.inr (Nat.le_refl _)) _) (.inr (Nat.le_refl _)) _) (.inr (Nat.le_refl _)) _) (.inr (Nat.le_refl _)) _) (.inr (Nat.le_refl _)) _)
end Go.Proofs.YtjhklpffmfdkbaaGreatDoor
