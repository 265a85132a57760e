/- Plain law: a call sign can be said: it has letters, digits and slashes alone. No condition. -/
import Derived.Test.YtlodmkdhlmineaaGreatDoorIsCall
import Derived.Test.YtlodmkdhlmineaaGreatDoorSaidPlain
import Derived.Test.YtlodmkdhlmineaaGreatDoorStepsP
namespace Go.Proofs.YtlodmkdhlmineaaGreatDoor
set_option linter.unusedVariables false
set_option linter.unusedSimpArgs false

/-- A letter, a digit or a slash. -/
def callC (c : UInt8) : Bool := plB c || c == 47
theorem callC_code {c : UInt8} (h : callC c = true) : c ≠ 32 ∧ codeOf c ≠ [] ∧ c ≠ 63 := by
  have H : ∀ n : Fin 256, callC (UInt8.ofNat n.val) = true → UInt8.ofNat n.val ≠ 32 ∧ codeOf (UInt8.ofNat n.val) ≠ [] ∧ UInt8.ofNat n.val ≠ 63 := by decide +kernel
  have := H ⟨c.toNat, c.toNat_lt⟩
  simp only [UInt8.ofNat_toNat] at this
  exact this h
theorem plain_callC {l : List UInt8} (h : plainL l = true) : ∀ c ∈ l, callC c = true := fun c hc => by
  unfold plainL at h
  have := List.all_eq_true.1 h c hc
  unfold callC
  rw [this]; rfl
theorem baseI_plain {l : List UInt8} (h : 0 ≤ baseI l) : plainL l = true ∧ l ≠ [] := by
  rcases baseI_cases l with e | ⟨_, h1, _, h3, _, h5, _⟩
  · omega
  · refine ⟨h1, fun e => ?_⟩
    rw [e] at h5 h3
    simp at h5
    omega
theorem tailK_plain {l : List UInt8} (h : tailK l ≠ 0) : ∀ c ∈ l, callC c = true := by
  unfold tailK at h
  by_cases h1 : l = [112]
  · rw [h1]; decide
  rw [if_neg h1] at h
  by_cases h2 : l = [109]
  · rw [h2]; decide
  rw [if_neg h2] at h
  by_cases h3 : l = [109, 109]
  · rw [h3]; decide
  rw [if_neg h3] at h
  by_cases h4 : l = [97, 109]
  · rw [h4]; decide
  rw [if_neg h4] at h
  by_cases h5 : l.length = 1 ∧ l.all dgB = true
  · intro c hc
    have := List.all_eq_true.1 h5.2 c hc
    unfold callC plB
    rw [this]; simp
  rw [if_neg h5] at h
  by_cases h6 : beginB l = true
  · unfold beginB at h6
    simp only [Bool.and_eq_true] at h6
    exact plain_callC h6.1.1
  · rw [if_neg h6] at h
    exact absurd rfl h
theorem call_signs {s : ByteArray} (h : isCall s = true) : s.size ≤ 14 ∧ 0 < s.size ∧ ∀ c ∈ s.data.toList, callC c = true := by
  have hl : s.data.toList.length = s.size := by simp
  unfold isCall partsOf at h
  by_cases h14 : 14 < s.size
  · rw [if_pos h14] at h; cases h
  rw [if_neg h14] at h
  refine ⟨by omega, ?_⟩
  by_cases hb : 0 ≤ baseI s.data.toList
  · obtain ⟨h1, h2⟩ := baseI_plain hb
    refine ⟨?_, plain_callC h1⟩
    rw [← hl]
    exact List.length_pos_iff.2 h2
  rw [if_neg hb] at h
  by_cases hi : Lib.indexByte s.data.toList 47 < 0
  · rw [if_pos hi] at h; cases h
  rw [if_neg hi] at h
  obtain ⟨i, hie⟩ := Int.eq_ofNat_of_zero_le (show 0 ≤ Lib.indexByte s.data.toList 47 by omega)
  rw [hie] at h
  simp only [Int.toNat_natCast] at h
  have h47 := (Lib.indexByte_some hie).1
  have hil : i < s.data.toList.length := by
    rcases Nat.lt_or_ge i s.data.toList.length with hh | hh
    · exact hh
    · rw [List.getElem?_eq_none hh] at h47; cases h47
  refine ⟨by omega, ?_⟩
  have hab : (∀ c ∈ (s.extract 0 i).data.toList, callC c = true) ∧ ∀ c ∈ (s.extract (i + 1) s.size).data.toList, callC c = true := by
    by_cases c1 : 0 ≤ baseI (s.extract (i + 1) s.size).data.toList ∧ beginB (s.extract 0 i).data.toList = true
    · refine ⟨?_, plain_callC (baseI_plain c1.1).1⟩
      have := c1.2
      unfold beginB at this
      simp only [Bool.and_eq_true] at this
      exact plain_callC this.1.1
    · rw [if_neg c1] at h
      by_cases c2 : 0 ≤ baseI (s.extract 0 i).data.toList ∧ tailK (s.extract (i + 1) s.size).data.toList ≠ 0
      · exact ⟨plain_callC (baseI_plain c2.1).1, tailK_plain c2.2⟩
      · rw [if_neg c2] at h; cases h
  rw [ext_take, Lib.extract_to_end] at hab
  intro c hc
  obtain ⟨j, hj, rfl⟩ := List.mem_iff_getElem.1 hc
  rcases Nat.lt_trichotomy j i with hlt | rfl | hgt
  · exact hab.1 _ (List.mem_iff_getElem.2 ⟨j, by rw [List.length_take]; omega, by rw [List.getElem_take]⟩)
  · rw [List.getElem?_eq_getElem hj] at h47
    injection h47 with e
    rw [e]; decide
  · exact hab.2 _ (List.mem_iff_getElem.2 ⟨j - (i + 1), by rw [List.length_drop]; omega, by rw [List.getElem_drop]; congr 1; omega⟩)
/-- A call sign can be said. -/
theorem call_said {s : ByteArray} (h : isCall s = true) : saidE s = 0 ∧ ∀ c ∈ s.data.toList, c ≠ 32 ∧ codeOf c ≠ [] ∧ c ≠ 63 := by
  obtain ⟨h1, h2, h3⟩ := call_signs h
  have h4 : ∀ c ∈ s.data.toList, c ≠ 32 ∧ codeOf c ≠ [] ∧ c ≠ 63 := fun c hc => callC_code (h3 c hc)
  refine ⟨(saidE_is s).2 ⟨by omega, fun hm => ?_, fun c hc => .inr (h4 c hc).2.1⟩, h4⟩
  have hl : s.data.toList.length = s.size := by simp
  cases hd : s.data.toList with
  | nil => rw [hd] at hl; simp at hl; omega
  | cons a r =>
    have hno : ∀ l : List UInt8, (∀ c ∈ l, c ≠ 32) → l ≠ [] → [] ∉ cutW l := fun l hl hne => by
      cases l with
      | nil => exact absurd rfl hne
      | cons x r =>
        have key : ∀ l : List UInt8, (∀ c ∈ l, c ≠ 32) → cutW l = [l] := fun l => by
          induction l with
          | nil => intro _; rfl
          | cons x r ih =>
            intro hx
            unfold cutW
            rw [if_neg (hx x (by simp)), ih (fun c hc => hx c (by simp [hc]))]
        rw [key _ hl]
        simp
    exact hno s.data.toList (fun c hc => (h4 c hc).1) (by rw [hd]; simp) hm
end Go.Proofs.YtlodmkdhlmineaaGreatDoor
