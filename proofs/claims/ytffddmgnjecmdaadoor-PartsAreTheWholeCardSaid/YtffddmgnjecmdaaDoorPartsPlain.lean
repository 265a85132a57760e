/- Plain law: the reference's base call is the program's; a base call is its own, stands in the call sign, and is its prefix and its suffix. No condition. -/
import Derived.Test.YtffddmgnjecmdaaDoorCall
import Derived.Test.YtffddmgnjecmdaaDoorKeyName
import Derived.Lib.IndexAny
import Derived.Lib.IndexMore
namespace Go.Proofs.YtffddmgnjecmdaaDoor
set_option linter.unusedVariables false

theorem indexAny_any (cs : List UInt8) : ∀ l : List UInt8, Lib.containsAny l cs = l.any cs.contains
  | [] => by simp [Lib.containsAny, Lib.indexAny]
  | c :: r => by
    have ih := indexAny_any cs r
    have hg := Lib.indexAny_ge cs r
    unfold Lib.containsAny at ih ⊢
    unfold Lib.indexAny
    rw [List.any_cons, ← ih]
    cases h : cs.contains c
    · simp only [Bool.false_eq_true, if_false, Bool.false_or]
      split
      · rename_i h1
        have : Lib.indexAny r cs = -1 := by simpa using h1
        rw [this]
      · rename_i h1
        have : Lib.indexAny r cs ≠ -1 := by simpa using h1
        congr 1
        simp only [eq_iff_iff]
        omega
    · simp
theorem small_lt (c : UInt8) : smallL.contains c = ltB c := by
  have h : ∀ n : Fin 256, smallL.contains (UInt8.ofNat n.val) = ltB (UInt8.ofNat n.val) := by decide +kernel
  have := h ⟨c.toNat, c.toNat_lt⟩
  simpa using this
def plL : List UInt8 := smallL ++ [48, 49, 50, 51, 52, 53, 54, 55, 56, 57]
theorem plL_is (c : UInt8) : plL.contains c = plB c := by
  have h : ∀ n : Fin 256, plL.contains (UInt8.ofNat n.val) = plB (UInt8.ofNat n.val) := by decide +kernel
  have := h ⟨c.toNat, c.toNat_lt⟩
  simpa using this
theorem any_small (l : List UInt8) : l.any smallL.contains = decide (0 < lettN l) := by
  induction l with
  | nil => rfl
  | cons c r ih =>
    rw [List.any_cons, ih, small_lt]
    unfold lettN
    rw [List.countP_cons]
    cases ltB c <;> simp
theorem all_pl (l : List UInt8) : l.all plL.contains = plainL l := by
  unfold plainL
  congr 1
  funext c
  exact plL_is c
/-- A string of small letters and digits, so many of them, with a letter. -/
def plainR (l : List UInt8) (low high : Int) : Bool := decide (low ≤ (l.length : Int) ∧ (l.length : Int) ≤ high) && plainL l && decide (0 < lettN l)
theorem begin_plain (l : List UInt8) : plainR l 1 4 = beginB l := by
  unfold plainR beginB
  have := lettN_le l
  by_cases h : 0 < lettN l
  · have h1 : 1 ≤ (l.length : Int) := by omega
    by_cases h2 : l.length ≤ 4
    · have h3 : (l.length : Int) ≤ 4 := by omega
      first
        | (simp [h, h1, h2, h3]; done)
        | (simp [h, h1, h2, h3]; omega)
    · have h3 : ¬ (l.length : Int) ≤ 4 := by omega
      simp [h2, h3]
  · simp [h]
/-- The reference's base call, as it asks. -/
def baseR (l : List UInt8) : Int :=
  let k := lastP dgB l
  if plainR l 3 10 = true ∧ (1 ≤ k ∧ k ≤ 3) ∧ (1 ≤ (l.length : Int) - 1 - k ∧ (l.length : Int) - 1 - k ≤ 4) ∧ 0 < lettN (l.take k.toNat) then k else -1
theorem baseR_eq (l : List UInt8) : baseR l = baseI l := by
  unfold baseR baseI
  simp only
  have hsub : lettN (l.take (lastP dgB l).toNat) ≤ lettN l := (List.take_sublist _ _).countP_le
  split
  · rename_i h
    obtain ⟨h1, h2, h3, h4⟩ := h
    unfold plainR at h1
    simp only [Bool.and_eq_true, decide_eq_true_eq] at h1
    rw [if_pos ⟨h1.1.2, by omega, by omega, by omega, by omega, by omega, h4⟩]
  · rename_i h
    rw [if_neg]
    rintro ⟨h1, h2, h3, h4, h5, h6, h7⟩
    refine h ⟨?_, ⟨h3, h4⟩, ⟨by omega, by omega⟩, h7⟩
    unfold plainR
    simp only [Bool.and_eq_true, decide_eq_true_eq]
    exact ⟨⟨⟨by omega, by omega⟩, h1⟩, by omega⟩

theorem contains_mid (x t y : List UInt8) : Lib.contains (x ++ t ++ y) t = true := by
  have hocc : Lib.occAt (x ++ t ++ y) t x.length = true := by
    unfold Lib.occAt
    rw [List.append_assoc, List.drop_left]
    simp
  have hg := Lib.index_ge (x ++ t ++ y) t
  unfold Lib.contains
  rw [decide_eq_true_iff]
  generalize hs : x ++ t ++ y = s at *
  have hle : x.length ≤ s.length := by rw [← hs]; simp
  -- the first of all places
  clear hs hg
  generalize x.length = i at *
  clear x y
  induction s generalizing i with
  | nil =>
    have : i = 0 := by simpa using hle
    subst this
    unfold Lib.index
    cases t with
    | nil => simp
    | cons a t => simp [Lib.occAt] at hocc
  | cons b l ih =>
    unfold Lib.index
    cases i with
    | zero => rw [if_pos (by simpa [Lib.occAt] using hocc)]; omega
    | succ i =>
      have := ih i (by simpa [Lib.occAt] using hocc) (by simpa using hle)
      split
      · omega
      · split
        · rename_i h
          have : Lib.index l t = -1 := by simpa using h
          omega
        · omega
theorem bytes_eq {a b : ByteArray} (h : a.data.toList = b.data.toList) : a = b := by
  cases a; cases b; congr 1; exact Array.toList_inj.1 h
structure Based (s t : ByteArray) (k : Nat) : Prop where
  base : baseI t.data.toList = k
  own : partsOf t = some (t, k, 0, ⟨#[]⟩)
  has : Lib.contains s.data.toList t.data.toList = true
  lt : k + 1 ≤ t.size
  few : t.size ≤ 10
theorem based_of {s t : ByteArray} (h0 : 0 ≤ baseI t.data.toList) (x y : List UInt8) (hs : s.data.toList = x ++ t.data.toList ++ y) : Based s t (baseI t.data.toList).toNat := by
  have hsz := size_len t
  rcases baseI_cases t.data.toList with h | ⟨h1, h2, h3, h4, h5, h6, h7, h8⟩
  · omega
  · refine ⟨by omega, ?_, by rw [hs]; exact contains_mid x _ y, by omega, by omega⟩
    exact partsOf_base (by omega) h0
theorem parts_based {s t : ByteArray} {k : Nat} {kd : Int} {ad : ByteArray} (h : partsOf s = some (t, k, kd, ad)) : Based s t k := by
  have hb := Lib.index_ge s.data.toList [47]
  by_cases h14 : 14 < s.size
  · rw [partsOf_long h14] at h; cases h
  by_cases h0 : 0 ≤ baseI s.data.toList
  · rw [partsOf_base h14 h0] at h
    injection h with h
    injection h with e1 h
    injection h with e2 _
    subst e1; subst e2
    exact based_of h0 [] [] (by simp)
  by_cases hi : Lib.indexByte s.data.toList 47 < 0
  · rw [partsOf_bare h14 h0 hi] at h; cases h
  obtain ⟨i, hi2⟩ := Int.eq_ofNat_of_zero_le (show 0 ≤ Lib.indexByte s.data.toList 47 by omega)
  rw [partsOf_cut h14 h0 hi2] at h
  split at h
  · rename_i hc
    injection h with h
    injection h with e1 h
    injection h with e2 _
    subst e1; subst e2
    exact based_of hc.1 (s.data.toList.take (i + 1)) [] (by rw [ext_drop, List.append_nil, List.take_append_drop])
  · split at h
    · rename_i hc
      injection h with h
      injection h with e1 h
      injection h with e2 _
      subst e1; subst e2
      exact based_of hc.1 [] (s.data.toList.drop i) (by rw [ext_take, List.nil_append, List.take_append_drop])
    · cases h
end Go.Proofs.YtffddmgnjecmdaaDoor
