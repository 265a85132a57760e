/- The reference's way to take call signs apart: plain, begin, baseAt, the base's parts. Condition: strings of ASCII. -/
import Derived.Test.YtffddmgnjecmdaaDoorPartsPlain
namespace Go.Proofs.YtffddmgnjecmdaaDoor
open Go.RowKit
set_option linter.unusedVariables false
set_option linter.unusedSimpArgs false

theorem trim_pl (s : ByteArray) (w : World) (hs : s.size ≤ 1000000000) : Calls Tryd.prog 131 #[.string s, .string ⟨#[97, 98, 99, 100, 101, 102, 103, 104, 105, 106, 107, 108, 109, 110, 111, 112, 113, 114, 115, 116, 117, 118, 119, 120, 121, 122, 48, 49, 50, 51, 52, 53, 54, 55, 56, 57]⟩] w fun e w' => e = .returned (.string ⟨(Lib.trimS s.data.toList plL).toArray⟩) ∧ w.grownBy w' none :=
  trim_any s _ w (by omega) (by decide) (by decide +kernel)
theorem trim_empty (l : List UInt8) : ((⟨(Lib.trimS l plL).toArray⟩ : ByteArray).toList.isEmpty) = plainL l := by
  rw [ByteArray.toList_eq]
  have h : (⟨(Lib.trimS l plL).toArray⟩ : ByteArray).data.toList = Lib.trimS l plL := by simp
  rw [h, ← all_pl]
  cases h2 : l.all plL.contains
  · have := trimS_nil l plL
    rw [h2] at this
    cases h3 : Lib.trimS l plL with
    | nil => exact absurd (this.1 h3) (by simp)
    | cons a r => rfl
  · rw [(trimS_nil l plL).2 h2]; rfl
theorem small_ascii : ∀ (j : Nat) b, (⟨#[97, 98, 99, 100, 101, 102, 103, 104, 105, 106, 107, 108, 109, 110, 111, 112, 113, 114, 115, 116, 117, 118, 119, 120, 121, 122]⟩ : ByteArray).data.toList[j]? = some b → b.toNat < 128 := by
  intro j b h
  have hm := List.mem_of_getElem? h
  have hall : ∀ b ∈ (⟨#[97, 98, 99, 100, 101, 102, 103, 104, 105, 106, 107, 108, 109, 110, 111, 112, 113, 114, 115, 116, 117, 118, 119, 120, 121, 122]⟩ : ByteArray).data.toList, b.toNat < 128 := by decide +kernel
  exact hall b hm
theorem containsSmall (s : ByteArray) (w : World) (hs : s.size < 4294967281) (ha : Ascii s) :
    Calls Tryd.prog 116 #[.string s, .string ⟨#[97, 98, 99, 100, 101, 102, 103, 104, 105, 106, 107, 108, 109, 110, 111, 112, 113, 114, 115, 116, 117, 118, 119, 120, 121, 122]⟩] w fun e w' => e = .returned (.bool (decide (0 < lettN s.data.toList))) ∧ w.grownBy w' none := by
  refine (Tryd.strings_ContainsAny_laid s _ w hs (by decide) ha small_ascii).mono ?_
  rintro e w' ⟨he, hb⟩
  refine ⟨?_, gr_of_below hb⟩
  rw [he, indexAny_any]
  have : s.data.toList.any (List.contains (⟨#[97, 98, 99, 100, 101, 102, 103, 104, 105, 106, 107, 108, 109, 110, 111, 112, 113, 114, 115, 116, 117, 118, 119, 120, 121, 122]⟩ : ByteArray).data.toList) = decide (0 < lettN s.data.toList) := any_small s.data.toList
  rw [this]
theorem not_out (n l h : Int) : (!outB n l h) = decide (l ≤ n ∧ n ≤ h) := by
  by_cases hh : l ≤ n ∧ n ≤ h
  · rw [outB_no hh.1 hh.2]; simp [hh]
  · rw [outB_yes (by omega)]; simp [hh]

set_option maxRecDepth 100000 in
set_option maxHeartbeats 1000000 in
theorem refPlain_any (s : ByteArray) (low high : Int) (w : World) (hs : s.size ≤ 1000000000) (ha : Ascii s) :
    Calls Tryd.prog 115 #[.string s, .int .i64 low, .int .i64 high] w fun e w' => e = .returned (.bool (plainR s.data.toList low high)) ∧ w.grownBy w' none := by
  have hin : Hid (∀ W : World, Calls Tryd.prog 76 #[.int .i64 s.size, .int .i64 low, .int .i64 high] W fun e w' => e = .returned (.bool (!outB s.size low high)) ∧ W = w') := fun W => in_any _ _ _ W
  by_cases h1 : low ≤ (s.size : Int) ∧ (s.size : Int) ≤ high
  · have hb : outB s.size low high = false := outB_no h1.1 h1.2
    cases h2 : plainL s.data.toList
    · have HR : Hid (plainR s.data.toList low high = false) := by show _ = _; unfold plainR; rw [h2]; simp
      have HT : Hid ((⟨(Lib.trimS s.data.toList plL).toArray⟩ : ByteArray).toList.isEmpty = false) := by show _ = _; rw [trim_empty, h2]
      obtain ⟨T, hT⟩ : ∃ T : ByteArray, (⟨(Lib.trimS s.data.toList plL).toArray⟩ : ByteArray) = T := ⟨_, rfl⟩
      rw [hT] at HT
      have HTR : Hid (∀ W : World, Calls Tryd.prog 131 #[.string s, .string ⟨#[97, 98, 99, 100, 101, 102, 103, 104, 105, 106, 107, 108, 109, 110, 111, 112, 113, 114, 115, 116, 117, 118, 119, 120, 121, 122, 48, 49, 50, 51, 52, 53, 54, 55, 56, 57]⟩] W fun e w' => e = .returned (.string T) ∧ W.grownBy w' none) := fun W => by rw [← hT]; exact trim_pl s W hs
      have hT2 := HT.out
      clear hT h2
      go_enter Tryd.func115, Tryd.ntmps115
      go_wp2_with fail
      refine (hin.out _).mono ?_
      rintro _ _ ⟨rfl, rfl⟩
      rw [hb]
      go_wp2_with fail
      refine (HTR.out _).mono ?_
      rintro _ w1 ⟨rfl, hg1⟩
      go_wp2_with fail
      go_ret
      exact ⟨ret_b HR.out.symm, hg1⟩
    · have HR : Hid (plainR s.data.toList low high = decide (0 < lettN s.data.toList)) := by
        show _ = _
        unfold plainR
        rw [h2]
        have hsz := size_len s
        have h3 : low ≤ (s.data.toList.length : Int) ∧ (s.data.toList.length : Int) ≤ high := by omega
        rw [decide_eq_true h3, Bool.true_and, Bool.true_and]
      have HT : Hid ((⟨(Lib.trimS s.data.toList plL).toArray⟩ : ByteArray).toList.isEmpty = true) := by show _ = _; rw [trim_empty, h2]
      obtain ⟨T, hT⟩ : ∃ T : ByteArray, (⟨(Lib.trimS s.data.toList plL).toArray⟩ : ByteArray) = T := ⟨_, rfl⟩
      rw [hT] at HT
      have HTR : Hid (∀ W : World, Calls Tryd.prog 131 #[.string s, .string ⟨#[97, 98, 99, 100, 101, 102, 103, 104, 105, 106, 107, 108, 109, 110, 111, 112, 113, 114, 115, 116, 117, 118, 119, 120, 121, 122, 48, 49, 50, 51, 52, 53, 54, 55, 56, 57]⟩] W fun e w' => e = .returned (.string T) ∧ W.grownBy w' none) := fun W => by rw [← hT]; exact trim_pl s W hs
      have hT2 := HT.out
      have HA := Lib.hid ha
      clear hT h2 ha
      go_enter Tryd.func115, Tryd.ntmps115
      go_wp2_with fail
      refine (hin.out _).mono ?_
      rintro _ _ ⟨rfl, rfl⟩
      rw [hb]
      go_wp2_with fail
      refine (HTR.out _).mono ?_
      rintro _ w1 ⟨rfl, hg1⟩
      have hT3 : T.toList = [] := by simpa using hT2
      go_wp2_with fail
      refine (containsSmall s _ (by omega) HA.out).mono ?_
      rintro _ w2 ⟨rfl, hg2⟩
      go_wp2_with fail
      go_ret
      exact ⟨ret_b HR.out.symm, gr_trans hg1 hg2⟩
  · have hb : outB s.size low high = true := outB_yes (by omega)
    have HR : Hid (plainR s.data.toList low high = false) := by
      show _ = _
      unfold plainR
      have hsz := size_len s
      have h3 : ¬ (low ≤ (s.data.toList.length : Int) ∧ (s.data.toList.length : Int) ≤ high) := by omega
      rw [decide_eq_false h3, Bool.false_and, Bool.false_and]
    go_enter Tryd.func115, Tryd.ntmps115
    go_wp2_with fail
    refine (hin.out _).mono ?_
    rintro _ _ ⟨rfl, rfl⟩
    rw [hb]
    go_wp2_with fail
    go_ret
    exact ⟨ret_b HR.out.symm, gr_refl _ _⟩

theorem refBegin_any (s : ByteArray) (w : World) (hs : s.size ≤ 1000000000) (ha : Ascii s) :
    Calls Tryd.prog 63 #[.string s] w fun e w' => e = .returned (.bool (beginB s.data.toList)) ∧ w.grownBy w' none := by
  have HA := Lib.hid ha
  clear ha
  go_enter Tryd.func63, Tryd.ntmps63
  go_wp2_with fail
  refine (refPlain_any s 1 4 _ hs HA.out).mono ?_
  rintro _ w1 ⟨rfl, hg1⟩
  rw [begin_plain]
  go_wp2_with fail
  go_ret
  exact ⟨rfl, hg1⟩
end Go.Proofs.YtffddmgnjecmdaaDoor
