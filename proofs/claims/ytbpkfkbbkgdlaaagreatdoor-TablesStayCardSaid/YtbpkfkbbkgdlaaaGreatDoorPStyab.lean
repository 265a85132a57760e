/- The walks over kit.IsKey, kit.IsName and the reference's Key; strings.Trim at a set of ASCII bytes. Condition: strings of at most 10^9 bytes. Entities and prefixes in memory, and the errors of lists of entities. No condition. The walk over the stream's spanOf. Condition: the stream has handed out at most 10^10 numbers. The walk over call.entityAt: a binary search for an entity. Condition: lists of at most 1000 entities whose keys are in order. -/
import Derived.Test.YtbpkfkbbkgdlaaaGreatDoorPStyaa
import Derived.Shelf.Strings.SlTrimAscii
import Derived.Lib.IndexAny
import Derived.Deep.DeepCutAuto
import Derived.Deep.RegionWith
import Derived.Deep.RegionHeld3
namespace Go.Proofs.YtbpkfkbbkgdlaaaGreatDoor
open Go.RowKit
set_option linter.unusedVariables false

theorem infoSet : (Tryz.prog.info? 175).map (fun i => (i.zero, i.size)) = some (some (.agg (Array.replicate 256 (.bool false))), 256) := by kernel_rfl
theorem trim_any (s cutset : ByteArray) (w : World) (hs : s.size ≤ 9223372036854775807) (hc : cutset.size ≤ 1000) (ha : cutset.data.toList.all (fun b => decide (b.toNat < 128)) = true) :
 Calls Tryz.prog 85 #[.string s, .string cutset] w fun e w' => e = .returned (.string ⟨(Lib.trimS s.data.toList cutset.data.toList).toArray⟩) ∧ w.grownBy w' none :=
 (Any.strings_Trim_laid Tryz.lays160 infoSet s cutset w hs (by omega) (ascii_of_all ha)).mono fun e w' ⟨he, hb⟩ => ⟨he, gr_of_below hb⟩
theorem dropWhile_nil {α : Type} (p : α → Bool) : ∀ l : List α, l.dropWhile p = [] ↔ l.all p = true
 | [] => by simp
 | a :: r => by
   rw [List.dropWhile_cons, List.all_cons]
   cases h : p a
   ·simp
   ·simp [dropWhile_nil p r]
theorem trimS_nil (l cs : List UInt8) : Lib.trimS l cs = [] ↔ l.all cs.contains = true := by
 unfold Lib.trimS Lib.trimLeftS Lib.trimRightS
 rw [dropWhile_nil]
 have e : ∀ m : List UInt8, (m.reverse.dropWhile (cs.contains ·)).reverse.all cs.contains = true ↔ m.all cs.contains = true := by
  intro m
  rw [List.all_reverse]
  constructor
  ·intro h
   cases hd : m.reverse.dropWhile (cs.contains ·) with
   | nil =>
     have := (dropWhile_nil _ _).1 hd
     rwa [List.all_reverse] at this
   | cons x r =>
     rw [hd, List.all_cons] at h
     have h2 := List.head?_dropWhile_not (p := (cs.contains ·)) (l := m.reverse)
     rw [hd] at h2
     simp at h2
     simp [h2] at h
  ·intro h
   have : m.reverse.dropWhile (cs.contains ·) = [] := (dropWhile_nil _ _).2 (by rwa [List.all_reverse])
   rw [this]
   rfl
 exact e l
def smallL : List UInt8 := [97, 98, 99, 100, 101, 102, 103, 104, 105, 106, 107, 108, 109, 110, 111, 112, 113, 114, 115, 116, 117, 118, 119, 120, 121, 122]
def keyL : List UInt8 := smallL ++ [48, 49, 50, 51, 52, 53, 54, 55, 56, 57, 45, 95]
/-- A key: from 1 to 40 bytes, the first a small letter, all small letters, digits, - or _. -/
def keyB (l : List UInt8) : Bool := decide (1 ≤ l.length) && decide (l.length ≤ 40) && smallL.contains (l.headD 0) && l.all keyL.contains
theorem size_len (s : ByteArray) : s.size = s.data.toList.length := by rw [Lib.size_eq]
theorem ret_bool {a b : Bool} (h : a = b) : Ending.returned (.bool a) = .returned (.bool b) := by rw [h]
/-- What is asked of a string that is no key, or one, in the order in which it is asked. -/
inductive KeyWay (s : ByteArray) : Prop
 | none (h : s.size = 0) (e : s.toList = []) (k : keyB s.data.toList = false)
 | long (h : 40 < s.size) (e : s.toList.isEmpty = false) (k : keyB s.data.toList = false)
 | odd (h0 : 1 ≤ s.size) (h : s.size ≤ 40) (e : s.toList.isEmpty = false) (n : Lib.indexByte smallL (s[0]'(by omega)) < 0) (k : keyB s.data.toList = false)
 | bad (h0 : 1 ≤ s.size) (h : s.size ≤ 40) (e : s.toList.isEmpty = false) (n : 0 ≤ Lib.indexByte smallL (s[0]'(by omega))) (t : (Lib.trimS s.data.toList keyL).isEmpty = false) (k : keyB s.data.toList = false)
 | ok (h0 : 1 ≤ s.size) (h : s.size ≤ 40) (e : s.toList.isEmpty = false) (n : 0 ≤ Lib.indexByte smallL (s[0]'(by omega))) (t : Lib.trimS s.data.toList keyL = []) (k : keyB s.data.toList = true)
theorem headD_get (s : ByteArray) (h : 0 < s.size) : s.data.toList.headD 0 = s[0] := by
 have hl : 0 < s.data.toList.length := by rw [← size_len]; exact h
 cases hd : s.data.toList with
 | nil => rw [hd] at hl; exact absurd hl (by decide)
 | cons a r =>
   have : s[0] = s.data.toList[0]'hl := rfl
   rw [this]
   simp [hd]
theorem keyWay (s : ByteArray) : KeyWay s := by
 have hsz := size_len s
 by_cases h0 : s.size = 0
 ·have hl : s.data.toList = [] := List.eq_nil_of_length_eq_zero (by omega)
  exact .none h0 (by rw [Lib.toList_data, hl]) (by rw [hl]; rfl)
 have hne : s.toList.isEmpty = false := by
  rw [Lib.toList_data]
  cases hd : s.data.toList with
  | nil => rw [hd] at hsz; exact absurd hsz h0
  | cons a r => rfl
 by_cases h1 : 40 < s.size
 ·exact .long h1 hne (by unfold keyB; have : decide (s.data.toList.length ≤ 40) = false := by simp; omega
                         rw [this]; simp)
 have d1 : decide (1 ≤ s.data.toList.length) = true := by simp; omega
 have d2 : decide (s.data.toList.length ≤ 40) = true := by simp; omega
 have hk : keyB s.data.toList = (smallL.contains s[0] && s.data.toList.all keyL.contains) := by
  unfold keyB
  rw [d1, d2, headD_get s (by omega)]
  rfl
 have hc := Lib.contains_iff_indexByte smallL s[0]
 by_cases h2 : 0 ≤ Lib.indexByte smallL s[0]
 ·have hc1 : smallL.contains s[0] = true := by rw [hc]; simpa using h2
  cases ht : s.data.toList.all keyL.contains
  ·have : Lib.trimS s.data.toList keyL ≠ [] := fun e => by rw [(trimS_nil _ _).1 e] at ht; cases ht
   exact .bad (by omega) (by omega) hne h2 (by cases hh : Lib.trimS s.data.toList keyL with | nil => exact absurd hh this | cons a r => rfl) (by rw [hk, hc1, ht]; rfl)
  ·exact .ok (by omega) (by omega) hne h2 ((trimS_nil _ _).2 ht) (by rw [hk, hc1, ht]; rfl)
 ·have hc1 : smallL.contains s[0] = false := by rw [hc]; simpa using h2
  exact .odd (by omega) (by omega) hne (by omega) (by rw [hk, hc1]; rfl)
theorem index_small (x : UInt8) (w : World) : Calls Tryz.prog 98 #[.string ⟨#[97, 98, 99, 100, 101, 102, 103, 104, 105, 106, 107, 108, 109, 110, 111, 112, 113, 114, 115, 116, 117, 118, 119, 120, 121, 122]⟩, .int .u8 x.toNat] w fun e w' => e = .returned (.int .i64 (Lib.indexByte smallL x)) ∧ w = w' :=
 (Tryz.strings_IndexByte _ _ w).mono fun e w' ⟨he, hw⟩ => ⟨by
  rw [he]
  have : ((x.toNat : Int)).toNat.toUInt8 = x := by simp
  rw [this]
  rfl, hw.symm⟩
theorem trim_key (s : ByteArray) (w : World) (hs : s.size ≤ 1000000000) : Calls Tryz.prog 85 #[.string s, .string ⟨#[97, 98, 99, 100, 101, 102, 103, 104, 105, 106, 107, 108, 109, 110, 111, 112, 113, 114, 115, 116, 117, 118, 119, 120, 121, 122, 48, 49, 50, 51, 52, 53, 54, 55, 56, 57, 45, 95]⟩] w fun e w' => e = .returned (.string ⟨(Lib.trimS s.data.toList keyL).toArray⟩) ∧ w.grownBy w' none :=
 trim_any s _ w (by omega) (by decide) (by decide +kernel)
set_option maxRecDepth 100000 in
set_option maxHeartbeats 2000000 in
theorem isKey_any (s : ByteArray) (w : World) (hs : s.size ≤ 1000000000) :
 Calls Tryz.prog 95 #[.string s] w fun e w' => e = .returned (.bool (keyB s.data.toList)) ∧ w.grownBy w' none := by
 cases keyWay s with
 | none h e k =>
   have HK := Lib.hid k
   clear k
   go_enter Tryz.func95, Tryz.ntmps95
   go_wp2_with fail
   go_ret
   exact ⟨ret_bool HK.out.symm, gr_refl _ _⟩
 | long h e k =>
   have HK := Lib.hid k
   have h2 : (40 : Int) < (s.size : Int) := by omega
   clear k
   go_enter Tryz.func95, Tryz.ntmps95
   go_wp2_with fail
   go_ret
   exact ⟨ret_bool HK.out.symm, gr_refl _ _⟩
 | odd h0 h e n k =>
   have HK := Lib.hid k
   have h1 : (0 : Int) < (s.size : Int) := by omega
   have h2 : (s.size : Int) ≤ 40 := by omega
   clear k
   go_enter Tryz.func95, Tryz.ntmps95
   go_wp2_with fail
   refine (index_small _ _).mono ?_
   rintro _ _ ⟨rfl, rfl⟩
   go_wp2_with fail
   go_ret
   exact ⟨ret_bool HK.out.symm, gr_refl _ _⟩
 | bad h0 h e n t k =>
   have HK := Lib.hid k
   have h1 : (0 : Int) < (s.size : Int) := by omega
   have h2 : (s.size : Int) ≤ 40 := by omega
   have HT := Lib.hid t
   clear k t
   go_enter Tryz.func95, Tryz.ntmps95
   go_wp2_with fail
   refine (index_small _ _).mono ?_
   rintro _ _ ⟨rfl, rfl⟩
   go_wp2_with fail
   refine (trim_key _ _ hs).mono ?_
   rintro _ w1 ⟨rfl, hg⟩
   obtain ⟨T, hT⟩ : ∃ T : ByteArray, T = ⟨(Lib.trimS s.data.toList keyL).toArray⟩ := ⟨_, rfl⟩
   have hTe : T.toList.isEmpty = false := by rw [Lib.toList_data, hT]; exact HT.out
   rw [← hT]
   clear hT
   go_wp2_with fail
   go_ret
   exact ⟨ret_bool HK.out.symm, hg⟩
 | ok h0 h e n t k =>
   have HK := Lib.hid k
   have h1 : (0 : Int) < (s.size : Int) := by omega
   have h2 : (s.size : Int) ≤ 40 := by omega
   have HT := Lib.hid t
   clear k t
   go_enter Tryz.func95, Tryz.ntmps95
   go_wp2_with fail
   refine (index_small _ _).mono ?_
   rintro _ _ ⟨rfl, rfl⟩
   go_wp2_with fail
   refine (trim_key _ _ hs).mono ?_
   rintro _ w1 ⟨rfl, hg⟩
   obtain ⟨T, hT⟩ : ∃ T : ByteArray, T = ⟨(Lib.trimS s.data.toList keyL).toArray⟩ := ⟨_, rfl⟩
   have hTe : T.toList = [] := by rw [Lib.toList_data, hT]; exact HT.out
   rw [← hT]
   clear hT
   go_wp2_with fail
   go_ret
   exact ⟨ret_bool HK.out.symm, hg⟩
set_option maxRecDepth 100000 in
set_option maxHeartbeats 2000000 in
theorem refKey_any (s : ByteArray) (w : World) (hs : s.size ≤ 1000000000) :
 Calls Tryz.prog 53 #[.string s] w fun e w' => e = .returned (.bool (keyB s.data.toList)) ∧ w.grownBy w' none := by
 have hin : ∀ W : World, Calls Tryz.prog 50 #[.int .i64 s.size, .int .i64 1, .int .i64 40] W fun e w' => e = .returned (.bool (decide (1 ≤ s.size ∧ s.size ≤ 40))) ∧ W = w' := fun W =>
  (in_any _ _ _ W).mono fun e w' ⟨he, hw⟩ => ⟨by
   rw [he]
   refine ret_bool ?_
   by_cases hh : 1 ≤ s.size ∧ s.size ≤ 40
   ·rw [outB_no (by omega) (by omega)]; simp [hh]
   ·rw [outB_yes (by omega)]; simp; omega, hw⟩
 have HIN := Lib.hid hin
 clear hin
 cases keyWay s with
 | none h e k =>
   have HK := Lib.hid k
   have hd : decide (1 ≤ s.size ∧ s.size ≤ 40) = false := by simp; omega
   have HH := Lib.hid h
   clear k h
   go_enter Tryz.func53, Tryz.ntmps53
   go_wp2_with fail
   refine (HIN.out _).mono ?_
   rintro _ _ ⟨rfl, rfl⟩
   rw [hd]
   go_wp2_with fail
   go_ret
   exact ⟨ret_bool HK.out.symm, gr_refl _ _⟩
 | long h e k =>
   have HK := Lib.hid k
   have hd : decide (1 ≤ s.size ∧ s.size ≤ 40) = false := by simp; omega
   clear k
   go_enter Tryz.func53, Tryz.ntmps53
   go_wp2_with fail
   refine (HIN.out _).mono ?_
   rintro _ _ ⟨rfl, rfl⟩
   rw [hd]
   go_wp2_with fail
   go_ret
   exact ⟨ret_bool HK.out.symm, gr_refl _ _⟩
 | odd h0 h e n k =>
   have HK := Lib.hid k
   have hd : decide (1 ≤ s.size ∧ s.size ≤ 40) = true := by simp; omega
   have h1 : (0 : Int) < (s.size : Int) := by omega
   clear k
   go_enter Tryz.func53, Tryz.ntmps53
   go_wp2_with fail
   refine (HIN.out _).mono ?_
   rintro _ _ ⟨rfl, rfl⟩
   rw [hd]
   go_wp2_with fail
   refine (trim_key _ _ hs).mono ?_
   rintro _ w1 ⟨rfl, hg⟩
   obtain ⟨T, hT⟩ : ∃ T : ByteArray, T = ⟨(Lib.trimS s.data.toList keyL).toArray⟩ := ⟨_, rfl⟩
   rw [← hT]
   clear hT
   cases hTe : T.toList.isEmpty
   ·go_wp2_with fail
    go_ret
    exact ⟨ret_bool HK.out.symm, hg⟩
   ·have hTn : T.toList = [] := by simpa using hTe
    clear hTe
    go_wp2_with fail
    refine (index_small _ _).mono ?_
    rintro _ _ ⟨rfl, rfl⟩
    go_wp2_with fail
    go_ret
    exact ⟨ret_bool (by rw [HK.out]; exact decide_eq_false (by omega)), hg⟩
 | bad h0 h e n t k =>
   have HK := Lib.hid k
   have hd : decide (1 ≤ s.size ∧ s.size ≤ 40) = true := by simp; omega
   have HT := Lib.hid t
   clear k t
   go_enter Tryz.func53, Tryz.ntmps53
   go_wp2_with fail
   refine (HIN.out _).mono ?_
   rintro _ _ ⟨rfl, rfl⟩
   rw [hd]
   go_wp2_with fail
   refine (trim_key _ _ hs).mono ?_
   rintro _ w1 ⟨rfl, hg⟩
   obtain ⟨T, hT⟩ : ∃ T : ByteArray, T = ⟨(Lib.trimS s.data.toList keyL).toArray⟩ := ⟨_, rfl⟩
   have hTe : T.toList.isEmpty = false := by rw [Lib.toList_data, hT]; exact HT.out
   rw [← hT]
   clear hT
   go_wp2_with fail
   go_ret
   exact ⟨ret_bool HK.out.symm, hg⟩
 | ok h0 h e n t k =>
   have HK := Lib.hid k
   have hd : decide (1 ≤ s.size ∧ s.size ≤ 40) = true := by simp; omega
   have h1 : (0 : Int) < (s.size : Int) := by omega
   have HT := Lib.hid t
   clear k t
   go_enter Tryz.func53, Tryz.ntmps53
   go_wp2_with fail
   refine (HIN.out _).mono ?_
   rintro _ _ ⟨rfl, rfl⟩
   rw [hd]
   go_wp2_with fail
   refine (trim_key _ _ hs).mono ?_
   rintro _ w1 ⟨rfl, hg⟩
   obtain ⟨T, hT⟩ : ∃ T : ByteArray, T = ⟨(Lib.trimS s.data.toList keyL).toArray⟩ := ⟨_, rfl⟩
   have hTe : T.toList = [] := by rw [Lib.toList_data, hT]; exact HT.out
   rw [← hT]
   clear hT
   go_wp2_with fail
   refine (index_small _ _).mono ?_
   rintro _ _ ⟨rfl, rfl⟩
   go_wp2_with fail
   go_ret
   exact ⟨ret_bool (by rw [HK.out]; exact decide_eq_true n), hg⟩
end Go.Proofs.YtbpkfkbbkgdlaaaGreatDoor

namespace Go.Proofs.YtbpkfkbbkgdlaaaGreatDoor
open Go.RowKit
set_option linter.unusedVariables false

theorem flat_at {α : Type} (enc : α → List Value) (m : Nat) (hm : ∀ x, (enc x).length = m) : ∀ (l : List α) (k j : Nat) (hk : k < l.length), j < m → (l.flatMap enc)[k * m + j]? = (enc l[k])[j]?
 | x :: r, 0, j, hk, hj => by
   rw [List.flatMap_cons, Nat.zero_mul, Nat.zero_add, List.getElem?_append_left (by rw [hm]; exact hj)]
   rfl
 | x :: r, k + 1, j, hk, hj => by
   have ih := flat_at enc m hm r k j (by simpa using hk) hj
   rw [List.flatMap_cons, List.getElem?_append_right (by rw [hm, Nat.add_mul]; omega), hm, show (k + 1) * m + j - m = k * m + j by rw [Nat.add_mul]; omega, ih]
   rfl
structure Ent where
 key : ByteArray
 cont : Int
 zone : Int
 a : Int
 z : Int
structure Pfx where
 beg : ByteArray
 ent : ByteArray
 a : Int
 z : Int
 whole : Bool
 zone : Int
def encE (e : Ent) : List Value := [.string e.key, .int .i64 e.cont, .int .i64 e.zone, .int .i64 e.a, .int .i64 e.z]
def encP (p : Pfx) : List Value := [.string p.beg, .string p.ent, .int .i64 p.a, .int .i64 p.z, .bool p.whole, .int .i64 p.zone]
def EntsFrom (base : Nat) (w : World) (v : Value) (l : List Ent) : Prop := w.ownsRow base 77 5 v l.length (l.flatMap encE)
def PfxsFrom (base : Nat) (w : World) (v : Value) (l : List Pfx) : Prop := w.ownsRow base 72 6 v l.length (l.flatMap encP)
theorem EntsFrom.grown {base : Nat} {w w' : World} {v : Value} {l : List Ent} (h : EntsFrom base w v l) (hg : w.grownBy w' none) : EntsFrom base w' v l := ownsRow_grown h hg
theorem PfxsFrom.grown {base : Nat} {w w' : World} {v : Value} {l : List Pfx} (h : PfxsFrom base w v l) (hg : w.grownBy w' none) : PfxsFrom base w' v l := ownsRow_grown h hg
theorem EntsFrom.other {base b : Nat} {w w' : World} {v : Value} {l : List Ent} (h : EntsFrom base w v l) (hg : w.grownBy w' (some b)) (hb : b < base) : EntsFrom base w' v l := ownsRow_other h hg hb
theorem PfxsFrom.other {base b : Nat} {w w' : World} {v : Value} {l : List Pfx} (h : PfxsFrom base w v l) (hg : w.grownBy w' (some b)) (hb : b < base) : PfxsFrom base w' v l := ownsRow_other h hg hb
theorem EntsFrom.shape {base : Nat} {w : World} {v : Value} {l : List Ent} (h : EntsFrom base w v l) :
 ∃ A c, v = .slice A l.length c ∧ l.length ≤ 9223372036854775807 ∧ (0 < l.length → ∃ g, A = some ⟨g, 0, none⟩ ∧ base ≤ g ∧ g < w.heap.size) := ownsRow_shape h
theorem PfxsFrom.shape {base : Nat} {w : World} {v : Value} {l : List Pfx} (h : PfxsFrom base w v l) :
 ∃ A c, v = .slice A l.length c ∧ l.length ≤ 9223372036854775807 ∧ (0 < l.length → ∃ g, A = some ⟨g, 0, none⟩ ∧ base ≤ g ∧ g < w.heap.size) := ownsRow_shape h
theorem EntsFrom.at_ {base : Nat} {w : World} {g c : Nat} {l : List Ent} (h : EntsFrom base w (.slice (some ⟨g, 0, none⟩) l.length c) l) (k : Nat) (hk : k < l.length) :
 w.cell? ⟨g, k * 5, none⟩ = some (.string l[k].key) ∧ w.cell? ⟨g, k * 5 + 1, none⟩ = some (.int .i64 l[k].cont) ∧ w.cell? ⟨g, k * 5 + 2, none⟩ = some (.int .i64 l[k].zone) ∧ w.cell? ⟨g, k * 5 + 3, none⟩ = some (.int .i64 l[k].a) ∧ w.cell? ⟨g, k * 5 + 4, none⟩ = some (.int .i64 l[k].z) := by
 have hf := flat_at encE 5 (fun _ => rfl) l k
 have h0 := hf 0 hk (by decide)
 rw [Nat.add_zero] at h0
 refine ⟨?_, ?_, ?_, ?_, ?_⟩
 ·rw [World.ownsRow.cellAt h _ (by omega), h0]; rfl
 ·rw [World.ownsRow.cellAt h _ (by omega), hf 1 hk (by decide)]; rfl
 ·rw [World.ownsRow.cellAt h _ (by omega), hf 2 hk (by decide)]; rfl
 ·rw [World.ownsRow.cellAt h _ (by omega), hf 3 hk (by decide)]; rfl
 ·rw [World.ownsRow.cellAt h _ (by omega), hf 4 hk (by decide)]; rfl
theorem PfxsFrom.at_ {base : Nat} {w : World} {g c : Nat} {l : List Pfx} (h : PfxsFrom base w (.slice (some ⟨g, 0, none⟩) l.length c) l) (k : Nat) (hk : k < l.length) :
 w.cell? ⟨g, k * 6, none⟩ = some (.string l[k].beg) ∧ w.cell? ⟨g, k * 6 + 1, none⟩ = some (.string l[k].ent) ∧ w.cell? ⟨g, k * 6 + 2, none⟩ = some (.int .i64 l[k].a) ∧ w.cell? ⟨g, k * 6 + 3, none⟩ = some (.int .i64 l[k].z) ∧ w.cell? ⟨g, k * 6 + 4, none⟩ = some (.bool l[k].whole) ∧ w.cell? ⟨g, k * 6 + 5, none⟩ = some (.int .i64 l[k].zone) := by
 have hf := flat_at encP 6 (fun _ => rfl) l k
 have h0 := hf 0 hk (by decide)
 rw [Nat.add_zero] at h0
 refine ⟨?_, ?_, ?_, ?_, ?_, ?_⟩
 ·rw [World.ownsRow.cellAt h _ (by omega), h0]; rfl
 ·rw [World.ownsRow.cellAt h _ (by omega), hf 1 hk (by decide)]; rfl
 ·rw [World.ownsRow.cellAt h _ (by omega), hf 2 hk (by decide)]; rfl
 ·rw [World.ownsRow.cellAt h _ (by omega), hf 3 hk (by decide)]; rfl
 ·rw [World.ownsRow.cellAt h _ (by omega), hf 4 hk (by decide)]; rfl
 ·rw [World.ownsRow.cellAt h _ (by omega), hf 5 hk (by decide)]; rfl
/-- Strings in order: at most. -/
def leS (a b : ByteArray) : Bool := Op.bytesLess a.toList b.toList || a.toList == b.toList
def prevL {α : Type} (l : List α) (k : Nat) : Option α := if k = 0 then none else l[k - 1]?
theorem prevL_succ {α : Type} (l : List α) (k : Nat) (h : k < l.length) : prevL l (k + 1) = some l[k] := by unfold prevL; simp [h]
/-- What is wrong with an entity behind another one. -/
def entE1 (p : Option Ent) (e : Ent) : Int :=
 if keyB e.key.data.toList = false then 5
 else if outB e.cont 1 7 then 4
 else if outB e.zone 1 90 then 1
 else if timeB e.a e.z = false then 1
 else match p with
  | none => 0
  | some q => if leS e.key q.key then 7 else 0
def entsScan : Option Ent → List Ent → Int
 | _, [] => 0
 | p, e :: r => if entE1 p e = 0 then entsScan (some e) r else entE1 p e
def entsE (l : List Ent) : Int := if 400 < l.length then 2 else entsScan none l
theorem entsScan_step (l : List Ent) (k : Nat) (h : k < l.length) : entsScan (prevL l k) (l.drop k) = if entE1 (prevL l k) l[k] = 0 then entsScan (prevL l (k + 1)) (l.drop (k + 1)) else entE1 (prevL l k) l[k] := by
 rw [List.drop_eq_getElem_cons h, prevL_succ l k h]
 rfl
theorem entsScan_end (l : List Ent) (p : Option Ent) : entsScan p (l.drop l.length) = 0 := by rw [List.drop_length]; rfl
theorem entE1_cases (p : Option Ent) (e : Ent) : (keyB e.key.data.toList = false ∧ entE1 p e = 5) ∨ (keyB e.key.data.toList = true ∧ outB e.cont 1 7 = true ∧ entE1 p e = 4) ∨ (keyB e.key.data.toList = true ∧ outB e.cont 1 7 = false ∧ outB e.zone 1 90 = true ∧ entE1 p e = 1) ∨ (keyB e.key.data.toList = true ∧ outB e.cont 1 7 = false ∧ outB e.zone 1 90 = false ∧ timeB e.a e.z = false ∧ entE1 p e = 1) ∨
 (keyB e.key.data.toList = true ∧ outB e.cont 1 7 = false ∧ outB e.zone 1 90 = false ∧ timeB e.a e.z = true ∧ entE1 p e = match p with | none => 0 | some q => if leS e.key q.key then 7 else 0) := by
 unfold entE1
 cases keyB e.key.data.toList <;> cases outB e.cont 1 7 <;> cases outB e.zone 1 90 <;> cases timeB e.a e.z <;> simp
/-- Entities whose parts are of a size. -/
def EntSm (e : Ent) : Prop := e.key.size ≤ 1000000000 ∧ -1152921504606846976 ≤ e.z ∧ e.z ≤ 1152921504606846976
end Go.Proofs.YtbpkfkbbkgdlaaaGreatDoor

namespace Go.Proofs.YtbpkfkbbkgdlaaaGreatDoor
open Go.RowKit
set_option linter.unusedVariables false
set_option linter.unusedSimpArgs false

theorem closKey (K s : ByteArray) (a b c d : Int) (x : Nat) (w : World) (hx : w.cell? ⟨x, 0, none⟩ = some (.string s)) :
 Calls Tryz.prog 78 #[.agg #[.string K, .int .i64 a, .int .i64 b, .int .i64 c, .int .i64 d], .pointer (some ⟨x, 0, none⟩)] w fun r w' => r = .returned (.bool (decide (K = s))) ∧ w.grownBy w' none := by
 have hlx : x < w.heap.size := World.block_lt_of_cell? w _ hx
 have hB := (Blk.new w 77 #[.string K, .int .i64 a, .int .i64 b, .int .i64 c, .int .i64 d]).cell 0
 simp only [List.getElem?_toArray, List.getElem?_cons_zero] at hB
 obtain ⟨B, hB2⟩ : ∃ B, (K.toList == s.toList) = B := ⟨_, rfl⟩
 have HBX : Hid (decide (K = s) = B) := by
  show _ = _
  rw [← hB2]
  by_cases h : K = s
  ·rw [h]; simp
  ·have : ¬ K.toList = s.toList := fun e => h (by
    have h1 : K.data.toList = s.data.toList := by rw [← Lib.toList_data, ← Lib.toList_data]; exact e
    have h2 : K.data = s.data := Array.ext' h1
    cases K; cases s; simp_all)
   rw [decide_eq_false h]
   symm
   rw [beq_eq_false_iff_ne]
   exact this
 go_enter Tryz.func78, Tryz.ntmps78
 go_wp2_with fail
 go_ret
 exact ⟨ret_b HBX.out.symm, World.grownBy_alloc w _ _⟩
def hasEnt (l : List Ent) (s : ByteArray) : Bool := l.any fun e => decide (e.key = s)
def IdxEnt (l : List Ent) (s : ByteArray) (w : World) (e : Ending) (w' : World) : Prop := ∃ i : Int, e = .returned (.int .i64 i) ∧ (i = -1 ∧ hasEnt l s = false ∨ 0 ≤ i ∧ hasEnt l s = true) ∧ w.grownBy w' none
set_option maxRecDepth 100000 in
set_option maxHeartbeats 2000000 in
theorem indexEnt (base x : Nat) (v : Value) (l : List Ent) (s : ByteArray) (w : World) (hl : EntsFrom base w v l) (hbig : l.length ≤ 1000) (hx : w.cell? ⟨x, 0, none⟩ = some (.string s)) :
 Calls Tryz.prog 128 #[v, .func (.func 78) #[] #[.pointer (some ⟨x, 0, none⟩)]] w (IdxEnt l s w) := by
 obtain ⟨A, c, rfl, hlen, hA⟩ := hl.shape
 have HL := Lib.hid hl
 have HA := Lib.hid hA
 have HX : Hid (∀ W, w.grownBy W none → W.cell? ⟨x, 0, none⟩ = some (.string s)) := fun W h => h.cell hx (by simp)
 clear hl hA hx
 go_enter Tryz.func128, Tryz.ntmps128
 go_wp2_with fail
 go_loopw [8] (fun i wr => ∃ k : Nat, k ≤ l.length ∧ i = .int .i64 k ∧ Hid (hasEnt (l.take k) s = false) ∧ w.grownBy wr none) (fun i _ => l.length - (intOf i).toNat)
 case atStart => exact ⟨0, by omega, rfl, by show List.any (List.take 0 l) _ = _; simp, gr_refl _ _⟩
 case round =>
  obtain ⟨k, hk, rfl, HN, hg⟩ := hrel
  by_cases hlt : k < l.length
  ·obtain ⟨g, rfl, _, hgl⟩ := HA.out (by omega)
   obtain ⟨q0, q1, q2, q3, q4⟩ := (HL.out.grown hg).at_ k hlt
   have hkl : (k : Int) < (l.length : Int) := by omega
   have htk : hasEnt (l.take (k + 1)) s = (hasEnt (l.take k) s || decide (l[k].key = s)) := by
    unfold hasEnt
    rw [List.take_succ_eq_append_getElem hlt, List.any_append]; simp
   have hyes : l[k].key = s → hasEnt l s = true := fun h => List.any_eq_true.2 ⟨l[k], List.getElem_mem hlt, by simpa using h⟩
   rw [HN.out] at htk
   have HC := Lib.hid (fun W hW => closKey l[k].key s l[k].cont l[k].zone l[k].a l[k].z x W (HX.out W hW))
   generalize l[k].key = K at *
   generalize l[k].cont = C at *
   generalize l[k].zone = Z at *
   generalize l[k].a = ea at *
   generalize l[k].z = ez at *
   by_cases hd : K = s
   ·have HY := Lib.hid (hyes hd)
    have hdd : Hid (decide (K = s) = true) := by show _ = _; simpa using hd
    clear htk hyes hd
    go_wp2_with fail
    refine (HC.out _ hg).mono ?_
    rintro _ w1 ⟨rfl, hg1⟩
    rw [hdd.out]
    go_wp2_with fail
    go_ret
    exact ⟨k, rfl, .inr ⟨by omega, HY.out⟩, gr_trans hg hg1⟩
   ·have hdd : Hid (decide (K = s) = false) := by show _ = _; simpa using hd
    have HN2 : Hid (hasEnt (l.take (k + 1)) s = false) := by show _ = _; rw [htk, hdd.out]; rfl
    clear htk hyes hd
    go_wp2_with fail
    refine (HC.out _ hg).mono ?_
    rintro _ w1 ⟨rfl, hg1⟩
    rw [hdd.out]
    go_wp2_with fail
    go_roundw
    case rel => exact ⟨k + 1, by omega, by go_num, HN2, gr_trans hg hg1⟩
    case measure => simp [intOf]; omega
  ·have hkl : ¬ (k : Int) < (l.length : Int) := by omega
   have HN3 : Hid (hasEnt l s = false) := by
    show _ = _
    have := HN.out
    rwa [List.take_of_length_le (by omega)] at this
   go_wp2_with fail
   go_ret
   exact ⟨-1, rfl, .inl ⟨rfl, HN3.out⟩, hg⟩
theorem hasEnt_any (base x : Nat) (v : Value) (l : List Ent) (s : ByteArray) (w : World) (hl : EntsFrom base w v l) (hbig : l.length ≤ 1000) (hx : w.cell? ⟨x, 0, none⟩ = some (.string s)) :
 Calls Tryz.prog 77 #[v, .func (.func 78) #[] #[.pointer (some ⟨x, 0, none⟩)]] w fun r w' => r = .returned (.bool (hasEnt l s)) ∧ w.grownBy w' none := by
 have HI := Lib.hid (indexEnt base x v l s w hl hbig hx)
 clear hl hx
 go_enter Tryz.func77, Tryz.ntmps77
 go_wp2_with fail
 refine HI.out.mono ?_
 rintro _ w1 ⟨i, rfl, hi, hg⟩
 rcases hi with ⟨rfl, h⟩ | ⟨h0, h⟩
 ·have H := Lib.hid h
  clear h
  go_wp2_with fail
  go_ret
  exact ⟨ret_b (by rw [H.out]), hg⟩
 ·have H := Lib.hid h
  clear h
  go_wp2_with fail
  go_ret
  exact ⟨ret_b (by rw [H.out]), hg⟩
end Go.Proofs.YtbpkfkbbkgdlaaaGreatDoor

namespace Go.Proofs.YtbpkfkbbkgdlaaaGreatDoor
open Go.RowKit
set_option linter.unusedVariables false
set_option linter.unusedSimpArgs false

def cmpS (a b : ByteArray) : Int := Lib.compareBytes a.data.toList b.data.toList
theorem cmpB_cases : ∀ a b : List UInt8, (Lib.compareBytes a b = -1 ∧ a < b) ∨ (Lib.compareBytes a b = 0 ∧ a = b) ∨ (Lib.compareBytes a b = 1 ∧ b < a)
 | [], [] => .inr (.inl ⟨rfl, rfl⟩)
 | [], _ :: _ => .inl ⟨rfl, by simp⟩
 | _ :: _, [] => .inr (.inr ⟨rfl, by simp⟩)
 | x :: a, y :: b => by
   unfold Lib.compareBytes
   by_cases h1 : x < y
   ·rw [if_pos h1]
    exact .inl ⟨rfl, List.cons_lt_cons_iff.2 (.inl h1)⟩
   ·rw [if_neg h1]
    by_cases h2 : y < x
    ·rw [if_pos h2]
     exact .inr (.inr ⟨rfl, List.cons_lt_cons_iff.2 (.inl h2)⟩)
    ·rw [if_neg h2]
     have hxy : x = y := UInt8.le_antisymm (UInt8.not_lt.1 h2) (UInt8.not_lt.1 h1)
     subst hxy
     rcases cmpB_cases a b with ⟨h, h3⟩ | ⟨h, h3⟩ | ⟨h, h3⟩
     ·exact .inl ⟨h, List.cons_lt_cons_iff.2 (.inr ⟨rfl, h3⟩)⟩
     ·exact .inr (.inl ⟨h, by rw [h3]⟩)
     ·exact .inr (.inr ⟨h, List.cons_lt_cons_iff.2 (.inr ⟨rfl, h3⟩)⟩)
theorem cmpS_bd (a b : ByteArray) : -1 ≤ cmpS a b ∧ cmpS a b ≤ 1 := by
 unfold cmpS
 rcases cmpB_cases a.data.toList b.data.toList with ⟨h, _⟩ | ⟨h, _⟩ | ⟨h, _⟩ <;> omega
theorem cmpS_0 {a b : ByteArray} : cmpS a b = 0 ↔ a = b := by
 unfold cmpS
 rcases cmpB_cases a.data.toList b.data.toList with ⟨h, h2⟩ | ⟨h, h2⟩ | ⟨h, h2⟩
 ·rw [h]
  refine ⟨fun e => by omega, fun e => ?_⟩
  rw [e] at h2
  exact absurd h2 (List.lt_irrefl _)
 ·rw [h]
  refine ⟨fun _ => ?_, fun _ => rfl⟩
  have : a.data = b.data := by
   apply Array.ext'
   exact h2
  cases a; cases b; simp_all
 ·rw [h]
  refine ⟨fun e => by omega, fun e => ?_⟩
  rw [e] at h2
  exact absurd h2 (List.lt_irrefl _)
theorem cmpS_lt {a b : ByteArray} : cmpS a b < 0 ↔ a.data.toList < b.data.toList := by
 unfold cmpS
 rcases cmpB_cases a.data.toList b.data.toList with ⟨h, h2⟩ | ⟨h, h2⟩ | ⟨h, h2⟩
 ·rw [h]; exact ⟨fun _ => h2, fun _ => by decide⟩
 ·rw [h, h2]
  exact ⟨fun e => by omega, fun e => absurd e (List.lt_irrefl _)⟩
 ·rw [h]
  exact ⟨fun e => by omega, fun e => absurd (List.lt_trans e h2) (List.lt_irrefl _)⟩
theorem entCmp (K s : ByteArray) (a b c d : Int) (w : World) :
 Calls Tryz.prog 154 #[.agg #[.string K, .int .i64 a, .int .i64 b, .int .i64 c, .int .i64 d], .string s] w fun r w' => r = .returned (.int .i64 (cmpS K s)) ∧ w.grownBy w' none := by
 have HC : Hid (∀ W, Calls Tryz.prog 92 #[.string K, .string s] W fun e w' => e = .returned (.int .i64 (cmpS K s)) ∧ W = w') := fun W => (Tryz.strings_Compare K s W).mono fun e w' ⟨h1, h2⟩ => ⟨h1, h2.symm⟩
 have hB := (Blk.new w 77 #[.string K, .int .i64 a, .int .i64 b, .int .i64 c, .int .i64 d]).cell 0
 simp only [List.getElem?_toArray, List.getElem?_cons_zero] at hB
 generalize cmpS K s = R at *
 go_enter Tryz.func154, Tryz.ntmps154
 go_wp2_with fail
 refine (HC.out _).mono ?_
 rintro _ _ ⟨rfl, rfl⟩
 go_wp2_with fail
 go_ret
 exact ⟨rfl, World.grownBy_alloc w _ _⟩
def SearchPost (l : List Ent) (s : ByteArray) (w : World) (r : Ending) (w' : World) : Prop :=
 ∃ (i : Nat) (f : Bool), r = .returned (.tuple #[.int .i64 i, .bool f]) ∧ i ≤ l.length ∧ (∀ q (hq : q < l.length), q < i → cmpS l[q].key s < 0) ∧ (∀ q (hq : q < l.length), i ≤ q → 0 ≤ cmpS l[q].key s) ∧ (f = true ↔ ∃ h : i < l.length, l[i].key = s) ∧ w.grownBy w' none
set_option maxRecDepth 100000 in
set_option maxHeartbeats 4000000 in
theorem searchEnt (base : Nat) (v : Value) (l : List Ent) (s : ByteArray) (w : World) (hl : EntsFrom base w v l) (hbig : l.length ≤ 1000) (hmono : ∀ p q (hp : p < l.length) (hq : q < l.length), p ≤ q → cmpS l[q].key s < 0 → cmpS l[p].key s < 0) :
 Calls Tryz.prog 153 #[v, .string s, .func (.func 154) #[] #[]] w (SearchPost l s w) := by
 obtain ⟨A, c, rfl, hlen, hA⟩ := hl.shape
 have HL := Lib.hid hl
 have HA := Lib.hid hA
 have HMO := Lib.hid hmono
 clear hl hA hmono
 go_enter Tryz.func153, Tryz.ntmps153
 go_wp2_with fail
 go_loopw [9, 10] (fun iv jv wr => ∃ i j : Nat, iv = .int .i64 i ∧ jv = .int .i64 j ∧ i ≤ j ∧ j ≤ l.length ∧ Hid (∀ q (hq : q < l.length), q < i → cmpS l[q].key s < 0) ∧ Hid (∀ q (hq : q < l.length), j ≤ q → 0 ≤ cmpS l[q].key s) ∧ w.grownBy wr none) (fun iv jv _ => (intOf jv).toNat - (intOf iv).toNat)
 case atStart => exact ⟨0, l.length, rfl, rfl, by omega, by omega, fun q hq h => by omega, fun q hq h => by omega, gr_refl _ _⟩
 case round =>
  obtain ⟨i, j, rfl, rfl, hij, hj, HI, HJ, hg⟩ := hrel
  have hgs := hg.size
  by_cases hlt : i < j
  ·obtain ⟨g, rfl, hg0, hg1⟩ := HA.out (by omega)
   obtain ⟨h, hh⟩ : ∃ h : Nat, (i + j) / 2 = h := ⟨_, rfl⟩
   have hh1 : i ≤ h ∧ h < j := by omega
   have hhl : h < l.length := by omega
   obtain ⟨q0, q1, q2, q3, q4⟩ := (HL.out.grown hg).at_ h hhl
   have HK : Hid (∀ x : Int, x = cmpS l[h].key s → (x < 0 → (∀ q (hq : q < l.length), q < h + 1 → cmpS l[q].key s < 0)) ∧ (0 ≤ x → ∀ q (hq : q < l.length), h ≤ q → 0 ≤ cmpS l[q].key s)) := fun x hx => by
    refine ⟨fun h2 q hq hqh => ?_, fun h2 q hq hqh => Int.not_lt.1 fun h3 => ?_⟩
    ·exact HMO.out q h hq hhl (by omega) (by rw [← hx]; exact h2)
    ·have := HMO.out h q hhl hq hqh h3
     omega
   have HC := Lib.hid (fun W => entCmp l[h].key s l[h].cont l[h].zone l[h].a l[h].z W)
   have HBD := cmpS_bd l[h].key s
   have HX := HK.out _ rfl
   generalize cmpS l[h].key s = X at *
   generalize l[h].key = K at *
   generalize l[h].cont = C at *
   generalize l[h].zone = Z at *
   generalize l[h].a = ea at *
   generalize l[h].z = ez at *
   have HX2 := Lib.hid HX
   clear HX HK
   obtain ⟨S, hS⟩ : ∃ S : Int, (i : Int) + (j : Int) = S := ⟨_, rfl⟩
   have e1 : IntKind.i64.wrap S = S := by rw [IntKind.wrap_i64]; omega
   have e2 : IntKind.u64.wrap S = S := by rw [IntKind.wrap_u64]; omega
   have e3 : S / 2 = (h : Int) := by omega
   have e4 : IntKind.i64.wrap (h : Int) = (h : Int) := by rw [IntKind.wrap_i64]; omega
   have e5 : IntKind.u64.wrap (h : Int) = (h : Int) := by rw [IntKind.wrap_u64]; omega
   have e6 : IntKind.i64.wrap ((h : Int) + 1) = (h : Int) + 1 := by rw [IntKind.wrap_i64]; omega
   have hlti : (i : Int) < (j : Int) := by omega
   have hh0 : (0 : Int) ≤ (h : Int) := by omega
   have hhi : (h : Int) < (l.length : Int) := by omega
   have HH := Lib.hid hh
   clear hh
   go_wp2_with fail
   refine (HC.out _).mono ?_
   rintro _ w2 ⟨rfl, hg2⟩
   by_cases hx : X < 0
   ·have HI2 : Hid (∀ q (hq : q < l.length), q < h + 1 → cmpS l[q].key s < 0) := HX2.out.1 hx
    go_wp2_with fail
    go_roundw
    case rel => exact ⟨h + 1, j, by go_num, rfl, by omega, by omega, HI2, HJ, gr_trans hg hg2⟩
    case measure => simp [intOf]; omega
   ·have HJ2 : Hid (∀ q (hq : q < l.length), h ≤ q → 0 ≤ cmpS l[q].key s) := HX2.out.2 (Int.not_lt.1 hx)
    go_wp2_with fail
    go_roundw
    case rel => exact ⟨i, h, rfl, rfl, by omega, by omega, HI, HJ2, gr_trans hg hg2⟩
    case measure => simp [intOf]; omega
  ·obtain rfl : j = i := by omega
   have hlti : ¬ (j : Int) < (j : Int) := by omega
   by_cases hjn : j < l.length
   ·obtain ⟨g, rfl, hg0, hg1⟩ := HA.out (by omega)
    obtain ⟨q0, q1, q2, q3, q4⟩ := (HL.out.grown hg).at_ j hjn
    have HC := Lib.hid (fun W => entCmp l[j].key s l[j].cont l[j].zone l[j].a l[j].z W)
    have HQ : Hid (cmpS l[j].key s = 0 ↔ l[j].key = s) := cmpS_0
    have HQ2 : Hid ((∃ h : j < l.length, l[j].key = s) ↔ l[j].key = s) := ⟨fun ⟨_, h⟩ => h, fun h => ⟨hjn, h⟩⟩
    have hjni : (j : Int) < (l.length : Int) := by omega
    have hj0 : (0 : Int) ≤ (j : Int) := by omega
    generalize cmpS l[j].key s = X at *
    generalize l[j].key = K at *
    generalize l[j].cont = C at *
    generalize l[j].zone = Z at *
    generalize l[j].a = ea at *
    generalize l[j].z = ez at *
    obtain ⟨B, hB⟩ : ∃ B, (X == 0) = B := ⟨_, rfl⟩
    have HBX : Hid (B = true ↔ K = s) := by
     show _ ↔ _
     rw [← hB, beq_iff_eq]
     exact HQ.out
    go_wp2_with fail
    refine (HC.out _).mono ?_
    rintro _ w2 ⟨rfl, hg2⟩
    go_wp2_with fail
    go_ret2
    exact ⟨j, B, rfl, hj, HI.out, HJ.out, by rw [HQ2.out]; exact HBX.out, gr_trans hg hg2⟩
   ·have hjni : ¬ (j : Int) < (l.length : Int) := by omega
    go_wp2_with fail
    go_ret2
    exact ⟨j, false, rfl, hj, HI.out, HJ.out, ⟨fun h => by simp at h, fun ⟨h, _⟩ => absurd h hjn⟩, hg⟩
end Go.Proofs.YtbpkfkbbkgdlaaaGreatDoor
