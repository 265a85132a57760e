/- The walks over kit.IsKey, kit.IsName and the reference's Key; strings.Trim at a set of ASCII bytes. Condition: strings of at most 10^9 bytes. -/
import Derived.Test.YtlodmkdhlmineaaGreatDoorFaults
import Derived.Test.YtlodmkdhlmineaaGreatDoorShelf
import Derived.Shelf.Strings.SlTrimAscii
import Derived.Lib.IndexAny
namespace Go.Proofs.YtlodmkdhlmineaaGreatDoor
open Go.RowKit
set_option linter.unusedVariables false

theorem infoSet : (Tryz.prog.info? 145).map (fun i => (i.zero, i.size)) = some (some (.agg (Array.replicate 256 (.bool false))), 256) := by kernel_rfl
theorem trim_any (s cutset : ByteArray) (w : World) (hs : s.size ≤ 9223372036854775807) (hc : cutset.size ≤ 1000) (ha : cutset.data.toList.all (fun b => decide (b.toNat < 128)) = true) :
    Calls Tryz.prog 60 #[.string s, .string cutset] w fun e w' => e = .returned (.string ⟨(Lib.trimS s.data.toList cutset.data.toList).toArray⟩) ∧ w.grownBy w' none :=
  (Any.strings_Trim_laid Tryz.lays160 infoSet s cutset w hs (by omega) (ascii_of_all ha)).mono fun e w' ⟨he, hb⟩ => ⟨he, gr_of_below hb⟩
theorem dropWhile_nil {α : Type} (p : α → Bool) : ∀ l : List α, l.dropWhile p = [] ↔ l.all p = true
  | [] => by simp
  | a :: r => by
    rw [List.dropWhile_cons, List.all_cons]
    cases h : p a
    · simp
    · simp [dropWhile_nil p r]
theorem trimS_nil (l cs : List UInt8) : Lib.trimS l cs = [] ↔ l.all cs.contains = true := by
  unfold Lib.trimS Lib.trimLeftS Lib.trimRightS
  rw [dropWhile_nil]
  have e : ∀ m : List UInt8, (m.reverse.dropWhile (cs.contains ·)).reverse.all cs.contains = true ↔ m.all cs.contains = true := by
    intro m
    rw [List.all_reverse]
    constructor
    · intro h
      cases hd : m.reverse.dropWhile (cs.contains ·) with
      | nil =>
        have := (dropWhile_nil _ _).1 hd
        rwa [List.all_reverse] at this
      | cons x r =>
        rw [hd, List.all_cons] at h
        have h2 := List.head?_dropWhile_not (p := (cs.contains ·)) (l := m.reverse)
        rw [hd] at h2
        simp at h2
        simp [h2] at h
    · intro h
      have : m.reverse.dropWhile (cs.contains ·) = [] := (dropWhile_nil _ _).2 (by rwa [List.all_reverse])
      rw [this]
      rfl
  exact e l

def smallL : List UInt8 := [97, 98, 99, 100, 101, 102, 103, 104, 105, 106, 107, 108, 109, 110, 111, 112, 113, 114, 115, 116, 117, 118, 119, 120, 121, 122]
def keyL : List UInt8 := smallL ++ [48, 49, 50, 51, 52, 53, 54, 55, 56, 57, 45, 95]
/-- A key: from 1 to 40 bytes, the first a small letter, all small letters, digits, - or _. -/
def keyB (l : List UInt8) : Bool := decide (1 ≤ l.length) && decide (l.length ≤ 40) && smallL.contains (l.headD 0) && l.all keyL.contains
def nameB (l : List UInt8) : Bool := l.isEmpty || keyB l
theorem size_len (s : ByteArray) : s.size = s.data.toList.length := by rw [Lib.size_eq]
theorem ret_bool {a b : Bool} (h : a = b) : Ending.returned (.bool a) = .returned (.bool b) := by rw [h]

/-- What is asked of a string that is no key, or one, in the order in which it is asked. -/
inductive KeyWay (s : ByteArray) : Prop
  | none (h : s.size = 0) (e : s.toList = []) (k : keyB s.data.toList = false)
  | long (h : 40 < s.size) (e : s.toList.isEmpty = false) (k : keyB s.data.toList = false)
  | odd (h0 : 1 ≤ s.size) (h : s.size ≤ 40) (e : s.toList.isEmpty = false) (n : Lib.indexByte smallL (s[0]'(by omega)) < 0) (k : keyB s.data.toList = false)
  | bad (h0 : 1 ≤ s.size) (h : s.size ≤ 40) (e : s.toList.isEmpty = false) (n : 0 ≤ Lib.indexByte smallL (s[0]'(by omega))) (t : (Lib.trimS s.data.toList keyL).isEmpty = false) (k : keyB s.data.toList = false)
  | ok (h0 : 1 ≤ s.size) (h : s.size ≤ 40) (e : s.toList.isEmpty = false) (n : 0 ≤ Lib.indexByte smallL (s[0]'(by omega))) (t : Lib.trimS s.data.toList keyL = []) (k : keyB s.data.toList = true)
theorem headD_get (s : ByteArray) (h : 0 < s.size) : s.data.toList.headD 0 = s[0] := by
  have hl : 0 < s.data.toList.length := by rw [← size_len]; exact h
  cases hd : s.data.toList with
  | nil => rw [hd] at hl; exact absurd hl (by decide)
  | cons a r =>
    have : s[0] = s.data.toList[0]'hl := rfl
    rw [this]
    simp [hd]
theorem keyWay (s : ByteArray) : KeyWay s := by
  have hsz := size_len s
  by_cases h0 : s.size = 0
  · have hl : s.data.toList = [] := List.eq_nil_of_length_eq_zero (by omega)
    exact .none h0 (by rw [Lib.toList_data, hl]) (by rw [hl]; rfl)
  have hne : s.toList.isEmpty = false := by
    rw [Lib.toList_data]
    cases hd : s.data.toList with
    | nil => rw [hd] at hsz; exact absurd hsz h0
    | cons a r => rfl
  by_cases h1 : 40 < s.size
  · exact .long h1 hne (by unfold keyB; have : decide (s.data.toList.length ≤ 40) = false := by simp; omega
                           rw [this]; simp)
  have d1 : decide (1 ≤ s.data.toList.length) = true := by simp; omega
  have d2 : decide (s.data.toList.length ≤ 40) = true := by simp; omega
  have hk : keyB s.data.toList = (smallL.contains s[0] && s.data.toList.all keyL.contains) := by
    unfold keyB
    rw [d1, d2, headD_get s (by omega)]
    rfl
  have hc := Lib.contains_iff_indexByte smallL s[0]
  by_cases h2 : 0 ≤ Lib.indexByte smallL s[0]
  · have hc1 : smallL.contains s[0] = true := by rw [hc]; simpa using h2
    cases ht : s.data.toList.all keyL.contains
    · have : Lib.trimS s.data.toList keyL ≠ [] := fun e => by rw [(trimS_nil _ _).1 e] at ht; cases ht
      exact .bad (by omega) (by omega) hne h2 (by cases hh : Lib.trimS s.data.toList keyL with | nil => exact absurd hh this | cons a r => rfl) (by rw [hk, hc1, ht]; rfl)
    · exact .ok (by omega) (by omega) hne h2 ((trimS_nil _ _).2 ht) (by rw [hk, hc1, ht]; rfl)
  · have hc1 : smallL.contains s[0] = false := by rw [hc]; simpa using h2
    exact .odd (by omega) (by omega) hne (by omega) (by rw [hk, hc1]; rfl)

theorem index_small (x : UInt8) (w : World) : Calls Tryz.prog 96 #[.string ⟨#[97, 98, 99, 100, 101, 102, 103, 104, 105, 106, 107, 108, 109, 110, 111, 112, 113, 114, 115, 116, 117, 118, 119, 120, 121, 122]⟩, .int .u8 x.toNat] w fun e w' => e = .returned (.int .i64 (Lib.indexByte smallL x)) ∧ w = w' :=
  (Tryz.strings_IndexByte _ _ w).mono fun e w' ⟨he, hw⟩ => ⟨by
    rw [he]
    have : ((x.toNat : Int)).toNat.toUInt8 = x := by simp
    rw [this]
    rfl, hw.symm⟩
theorem trim_key (s : ByteArray) (w : World) (hs : s.size ≤ 1000000000) : Calls Tryz.prog 60 #[.string s, .string ⟨#[97, 98, 99, 100, 101, 102, 103, 104, 105, 106, 107, 108, 109, 110, 111, 112, 113, 114, 115, 116, 117, 118, 119, 120, 121, 122, 48, 49, 50, 51, 52, 53, 54, 55, 56, 57, 45, 95]⟩] w fun e w' => e = .returned (.string ⟨(Lib.trimS s.data.toList keyL).toArray⟩) ∧ w.grownBy w' none :=
  trim_any s _ w (by omega) (by decide) (by decide +kernel)

end Go.Proofs.YtlodmkdhlmineaaGreatDoor
