/- Parts of a proof: KeyName, Tab, KeyA. Conditions: as each statement says. -/
import Derived.Test.YtbamhgaghngjiaaGreatDoorCoaa
import Derived.Shelf.Strings.SlTrimAscii
import Derived.Lib.IndexAny
import Derived.Lib.Fields
import Derived.Lib.SmallJoins
import Derived.Deep.AppendLies
import Derived.Maps.OwnOps
import Derived.Maps.Views
import Derived.Maps.StringElems
namespace Go.Proofs.YtbamhgaghngjiaaGreatDoor
open Go.RowKit
set_option linter.unusedVariables false

theorem jtw : (Tryz.prog.info? 199).map (fun i => (i.zero, i.size)) = some (some (.agg (Array.replicate 256 (.bool false))), 256) := by kernel_rfl
theorem jlo (s cutset : ByteArray) (w : World) (hs : s.size ≤ 9223372036854775807) (hc : cutset.size ≤ 1000) (ha : cutset.data.toList.all (fun b => decide (b.toNat < 128)) = true) :
 Calls Tryz.prog 82 #[.string s, .string cutset] w fun e w' => e = .returned (.string ⟨(Lib.trimS s.data.toList cutset.data.toList).toArray⟩) ∧ w.grownBy w' none :=
 (Any.strings_Trim_laid Tryz.lays160 jtw s cutset w hs (by omega) (ascii_of_all ha)).mono fun e w' ⟨he, hb⟩ => ⟨he, jep hb⟩
theorem zb {α : Type} (p : α → Bool) : ∀ l : List α, l.dropWhile p = [] ↔ l.all p = true
 | [] => by simp
 | a :: r => by
   rw [List.dropWhile_cons, List.all_cons]
   cases h : p a
   ·simp
   simp [zb p r]
theorem jc1 (l cs : List UInt8) : Lib.trimS l cs = [] ↔ l.all cs.contains = true := by
 unfold Lib.trimS Lib.trimLeftS Lib.trimRightS
 rw [zb]
 have e : ∀ m : List UInt8, (m.reverse.dropWhile (cs.contains ·)).reverse.all cs.contains = true ↔ m.all cs.contains = true := by
  intro m
  rw [List.all_reverse]
  constructor
  ·intro h
   cases hd : m.reverse.dropWhile (cs.contains ·) with
   | nil =>
     have := (zb _ _).1 hd
     rwa [List.all_reverse] at this
   | cons x r =>
     rw [hd, List.all_cons] at h
     have h2 := List.head?_dropWhile_not (p := (cs.contains ·)) (l := m.reverse)
     rw [hd] at h2
     simp at h2
     simp [h2] at h
  intro h
  have : m.reverse.dropWhile (cs.contains ·) = [] := (zb _ _).2 (by rwa [List.all_reverse])
  rw [this]
  rfl
 exact e l
def smallL : List UInt8 := [97, 98, 99, 100, 101, 102, 103, 104, 105, 106, 107, 108, 109, 110, 111, 112, 113, 114, 115, 116, 117, 118, 119, 120, 121, 122]
def keyL : List UInt8 := smallL ++ [48, 49, 50, 51, 52, 53, 54, 55, 56, 57, 45, 95]
def jaq (l : List UInt8) : Bool := decide (1 ≤ l.length) && decide (l.length ≤ 40) && smallL.contains (l.headD 0) && l.all keyL.contains
def jg5 (l : List UInt8) : Bool := l.isEmpty || jaq l
theorem zw (s : ByteArray) : s.size = s.data.toList.length := by rw [Lib.size_eq]
theorem xh {a b : Bool} (h : a = b) : Ending.returned (.bool a) = .returned (.bool b) := by rw [h]
inductive KeyWay (s : ByteArray) : Prop
 | none (h : s.size = 0) (e : s.toList = []) (k : jaq s.data.toList = false)
 | long (h : 40 < s.size) (e : s.toList.isEmpty = false) (k : jaq s.data.toList = false)
 | odd (h0 : 1 ≤ s.size) (h : s.size ≤ 40) (e : s.toList.isEmpty = false) (n : Lib.indexByte smallL (s[0]'(by omega)) < 0) (k : jaq s.data.toList = false)
 | bad (h0 : 1 ≤ s.size) (h : s.size ≤ 40) (e : s.toList.isEmpty = false) (n : 0 ≤ Lib.indexByte smallL (s[0]'(by omega))) (t : (Lib.trimS s.data.toList keyL).isEmpty = false) (k : jaq s.data.toList = false)
 | ok (h0 : 1 ≤ s.size) (h : s.size ≤ 40) (e : s.toList.isEmpty = false) (n : 0 ≤ Lib.indexByte smallL (s[0]'(by omega))) (t : Lib.trimS s.data.toList keyL = []) (k : jaq s.data.toList = true)
theorem jog (s : ByteArray) (h : 0 < s.size) : s.data.toList.headD 0 = s[0] := by
 have hl : 0 < s.data.toList.length := by rw [← zw]; exact h
 cases hd : s.data.toList with
 | nil => rw [hd] at hl; exact absurd hl (by decide)
 | cons a r =>
   have : s[0] = s.data.toList[0]'hl := rfl
   rw [this]
   simp [hd]
theorem jsp (s : ByteArray) : KeyWay s := by
 have hsz := zw s
 by_cases h0 : s.size = 0
 ·have hl : s.data.toList = [] := List.eq_nil_of_length_eq_zero (by omega)
  exact .none h0 (by rw [Lib.toList_data, hl]) (by rw [hl]; rfl)
 have hne : s.toList.isEmpty = false := by
  rw [Lib.toList_data]
  cases hd : s.data.toList with
  | nil => rw [hd] at hsz; exact absurd hsz h0
  | cons a r => rfl
 by_cases h1 : 40 < s.size
 ·exact .long h1 hne (by unfold jaq; have : decide (s.data.toList.length ≤ 40) = false := by simp; omega
                         rw [this]; simp)
 have d1 : decide (1 ≤ s.data.toList.length) = true := by simp; omega
 have d2 : decide (s.data.toList.length ≤ 40) = true := by simp; omega
 have hk : jaq s.data.toList = (smallL.contains s[0] && s.data.toList.all keyL.contains) := by
  unfold jaq
  rw [d1, d2, jog s (by omega)]
  rfl
 have hc := Lib.contains_iff_indexByte smallL s[0]
 by_cases h2 : 0 ≤ Lib.indexByte smallL s[0]
 ·have hc1 : smallL.contains s[0] = true := by rw [hc]; simpa using h2
  cases ht : s.data.toList.all keyL.contains
  ·have : Lib.trimS s.data.toList keyL ≠ [] := fun e => by rw [(jc1 _ _).1 e] at ht; cases ht
   exact .bad (by omega) (by omega) hne h2 (by cases hh : Lib.trimS s.data.toList keyL with | nil => exact absurd hh this | cons a r => rfl) (by rw [hk, hc1, ht]; rfl)
  exact .ok (by omega) (by omega) hne h2 ((jc1 _ _).2 ht) (by rw [hk, hc1, ht]; rfl)
 have hc1 : smallL.contains s[0] = false := by rw [hc]; simpa using h2
 exact .odd (by omega) (by omega) hne (by omega) (by rw [hk, hc1]; rfl)
theorem zh (x : UInt8) (w : World) : Calls Tryz.prog 83 #[.string ⟨#[97, 98, 99, 100, 101, 102, 103, 104, 105, 106, 107, 108, 109, 110, 111, 112, 113, 114, 115, 116, 117, 118, 119, 120, 121, 122]⟩, .int .u8 x.toNat] w fun e w' => e = .returned (.int .i64 (Lib.indexByte smallL x)) ∧ w = w' :=
 (Tryz.strings_IndexByte _ _ w).mono fun e w' ⟨he, hw⟩ => ⟨by
  rw [he]
  have : ((x.toNat : Int)).toNat.toUInt8 = x := by simp
  rw [this]
  rfl, hw.symm⟩
theorem jc2 (s : ByteArray) (w : World) (hs : s.size ≤ 1000000000) : Calls Tryz.prog 82 #[.string s, .string ⟨#[97, 98, 99, 100, 101, 102, 103, 104, 105, 106, 107, 108, 109, 110, 111, 112, 113, 114, 115, 116, 117, 118, 119, 120, 121, 122, 48, 49, 50, 51, 52, 53, 54, 55, 56, 57, 45, 95]⟩] w fun e w' => e = .returned (.string ⟨(Lib.trimS s.data.toList keyL).toArray⟩) ∧ w.grownBy w' none :=
 jlo s _ w (by omega) (by decide) (by decide +kernel)
set_option maxRecDepth 100000 in
set_option maxHeartbeats 2000000 in
theorem jes (s : ByteArray) (w : World) (hs : s.size ≤ 1000000000) :
 Calls Tryz.prog 114 #[.string s] w fun e w' => e = .returned (.bool (jaq s.data.toList)) ∧ w.grownBy w' none := by
 cases jsp s with
 | none h e k =>
   have HK := Lib.hid k
   clear k
   go_enter Tryz.func114, Tryz.ntmps114
   go_wp2_with fail
   go_ret
   exact ⟨xh HK.out.symm, jf _ _⟩
 | long h e k =>
   have HK := Lib.hid k
   have h2 : (40 : Int) < (s.size : Int) := by omega
   clear k
   go_enter Tryz.func114, Tryz.ntmps114
   go_wp2_with fail
   go_ret
   exact ⟨xh HK.out.symm, jf _ _⟩
 | odd h0 h e n k =>
   have HK := Lib.hid k
   have h1 : (0 : Int) < (s.size : Int) := by omega
   have h2 : (s.size : Int) ≤ 40 := by omega
   clear k
   go_enter Tryz.func114, Tryz.ntmps114
   go_wp2_with fail
   refine (zh _ _).mono ?_
   rintro _ _ ⟨rfl, rfl⟩
   go_wp2_with fail
   go_ret
   exact ⟨xh HK.out.symm, jf _ _⟩
 | bad h0 h e n t k =>
   have HK := Lib.hid k
   have h1 : (0 : Int) < (s.size : Int) := by omega
   have h2 : (s.size : Int) ≤ 40 := by omega
   have HT := Lib.hid t
   clear k t
   go_enter Tryz.func114, Tryz.ntmps114
   go_wp2_with fail
   refine (zh _ _).mono ?_
   rintro _ _ ⟨rfl, rfl⟩
   go_wp2_with fail
   refine (jc2 _ _ hs).mono ?_
   rintro _ w1 ⟨rfl, hg⟩
   obtain ⟨T, hT⟩ : ∃ T : ByteArray, T = ⟨(Lib.trimS s.data.toList keyL).toArray⟩ := ⟨_, rfl⟩
   have hTe : T.toList.isEmpty = false := by rw [Lib.toList_data, hT]; exact HT.out
   rw [← hT]
   clear hT
   go_wp2_with fail
   go_ret
   exact ⟨xh HK.out.symm, hg⟩
 | ok h0 h e n t k =>
   have HK := Lib.hid k
   have h1 : (0 : Int) < (s.size : Int) := by omega
   have h2 : (s.size : Int) ≤ 40 := by omega
   have HT := Lib.hid t
   clear k t
   go_enter Tryz.func114, Tryz.ntmps114
   go_wp2_with fail
   refine (zh _ _).mono ?_
   rintro _ _ ⟨rfl, rfl⟩
   go_wp2_with fail
   refine (jc2 _ _ hs).mono ?_
   rintro _ w1 ⟨rfl, hg⟩
   obtain ⟨T, hT⟩ : ∃ T : ByteArray, T = ⟨(Lib.trimS s.data.toList keyL).toArray⟩ := ⟨_, rfl⟩
   have hTe : T.toList = [] := by rw [Lib.toList_data, hT]; exact HT.out
   rw [← hT]
   clear hT
   go_wp2_with fail
   go_ret
   exact ⟨xh HK.out.symm, hg⟩
set_option maxRecDepth 100000 in
set_option maxHeartbeats 2000000 in
theorem jaf (s : ByteArray) (w : World) (hs : s.size ≤ 1000000000) :
 Calls Tryz.prog 39 #[.string s] w fun e w' => e = .returned (.bool (jaq s.data.toList)) ∧ w.grownBy w' none := by
 have hin : ∀ W : World, Calls Tryz.prog 38 #[.int .i64 s.size, .int .i64 1, .int .i64 40] W fun e w' => e = .returned (.bool (decide (1 ≤ s.size ∧ s.size ≤ 40))) ∧ W = w' := fun W =>
  (xx _ _ _ W).mono fun e w' ⟨he, hw⟩ => ⟨by
   rw [he]
   refine xh ?_
   by_cases hh : 1 ≤ s.size ∧ s.size ≤ 40
   ·rw [zx (by omega) (by omega)]; simp [hh]
   ·rw [xq (by omega)]; simp; omega, hw⟩
 have HIN := Lib.hid hin
 clear hin
 cases jsp s with
 | none h e k =>
   have HK := Lib.hid k
   have hd : decide (1 ≤ s.size ∧ s.size ≤ 40) = false := by simp; omega
   have HH := Lib.hid h
   clear k h
   go_enter Tryz.func39, Tryz.ntmps39
   go_wp2_with fail
   refine (HIN.out _).mono ?_
   rintro _ _ ⟨rfl, rfl⟩
   rw [hd]
   go_wp2_with fail
   go_ret
   exact ⟨xh HK.out.symm, jf _ _⟩
 | long h e k =>
   have HK := Lib.hid k
   have hd : decide (1 ≤ s.size ∧ s.size ≤ 40) = false := by simp; omega
   clear k
   go_enter Tryz.func39, Tryz.ntmps39
   go_wp2_with fail
   refine (HIN.out _).mono ?_
   rintro _ _ ⟨rfl, rfl⟩
   rw [hd]
   go_wp2_with fail
   go_ret
   exact ⟨xh HK.out.symm, jf _ _⟩
 | odd h0 h e n k =>
   have HK := Lib.hid k
   have hd : decide (1 ≤ s.size ∧ s.size ≤ 40) = true := by simp; omega
   have h1 : (0 : Int) < (s.size : Int) := by omega
   clear k
   go_enter Tryz.func39, Tryz.ntmps39
   go_wp2_with fail
   refine (HIN.out _).mono ?_
   rintro _ _ ⟨rfl, rfl⟩
   rw [hd]
   go_wp2_with fail
   refine (jc2 _ _ hs).mono ?_
   rintro _ w1 ⟨rfl, hg⟩
   obtain ⟨T, hT⟩ : ∃ T : ByteArray, T = ⟨(Lib.trimS s.data.toList keyL).toArray⟩ := ⟨_, rfl⟩
   rw [← hT]
   clear hT
   cases hTe : T.toList.isEmpty
   ·go_wp2_with fail
    go_ret
    exact ⟨xh HK.out.symm, hg⟩
   have hTn : T.toList = [] := by simpa using hTe
   clear hTe
   go_wp2_with fail
   refine (zh _ _).mono ?_
   rintro _ _ ⟨rfl, rfl⟩
   go_wp2_with fail
   go_ret
   exact ⟨xh (by rw [HK.out]; exact decide_eq_false (by omega)), hg⟩
 | bad h0 h e n t k =>
   have HK := Lib.hid k
   have hd : decide (1 ≤ s.size ∧ s.size ≤ 40) = true := by simp; omega
   have HT := Lib.hid t
   clear k t
   go_enter Tryz.func39, Tryz.ntmps39
   go_wp2_with fail
   refine (HIN.out _).mono ?_
   rintro _ _ ⟨rfl, rfl⟩
   rw [hd]
   go_wp2_with fail
   refine (jc2 _ _ hs).mono ?_
   rintro _ w1 ⟨rfl, hg⟩
   obtain ⟨T, hT⟩ : ∃ T : ByteArray, T = ⟨(Lib.trimS s.data.toList keyL).toArray⟩ := ⟨_, rfl⟩
   have hTe : T.toList.isEmpty = false := by rw [Lib.toList_data, hT]; exact HT.out
   rw [← hT]
   clear hT
   go_wp2_with fail
   go_ret
   exact ⟨xh HK.out.symm, hg⟩
 | ok h0 h e n t k =>
   have HK := Lib.hid k
   have hd : decide (1 ≤ s.size ∧ s.size ≤ 40) = true := by simp; omega
   have h1 : (0 : Int) < (s.size : Int) := by omega
   have HT := Lib.hid t
   clear k t
   go_enter Tryz.func39, Tryz.ntmps39
   go_wp2_with fail
   refine (HIN.out _).mono ?_
   rintro _ _ ⟨rfl, rfl⟩
   rw [hd]
   go_wp2_with fail
   refine (jc2 _ _ hs).mono ?_
   rintro _ w1 ⟨rfl, hg⟩
   obtain ⟨T, hT⟩ : ∃ T : ByteArray, T = ⟨(Lib.trimS s.data.toList keyL).toArray⟩ := ⟨_, rfl⟩
   have hTe : T.toList = [] := by rw [Lib.toList_data, hT]; exact HT.out
   rw [← hT]
   clear hT
   go_wp2_with fail
   refine (zh _ _).mono ?_
   rintro _ _ ⟨rfl, rfl⟩
   go_wp2_with fail
   go_ret
   exact ⟨xh (by rw [HK.out]; exact decide_eq_true n), hg⟩
set_option maxHeartbeats 400000 in
theorem jde (s : ByteArray) (w : World) (hs : s.size ≤ 1000000000) :
 Calls Tryz.prog 115 #[.string s] w fun e w' => e = .returned (.bool (jg5 s.data.toList)) ∧ w.grownBy w' none := by
 cases he : s.toList.isEmpty
 ·have HK : Hid (jg5 s.data.toList = jaq s.data.toList) := by
   show _ = _
   rw [Lib.toList_data] at he
   unfold jg5
   rw [he]
   rfl
  go_enter Tryz.func115, Tryz.ntmps115
  go_wp2_with fail
  refine (jes _ _ hs).mono ?_
  rintro _ w1 ⟨rfl, hg⟩
  go_wp2_with fail
  go_ret
  exact ⟨xh HK.out.symm, hg⟩
 have HK : Hid (jg5 s.data.toList = true) := by
  show _ = _
  rw [Lib.toList_data] at he
  unfold jg5
  rw [he]
  rfl
 have hn : s.toList = [] := by simpa using he
 clear he
 go_enter Tryz.func115, Tryz.ntmps115
 go_wp2_with fail
 go_ret
 exact ⟨xh HK.out.symm, jf _ _⟩
theorem zc {α : Type} (enc : α → List Value) (m : Nat) (hm : ∀ x, (enc x).length = m) : ∀ l : List α, (l.flatMap enc).length = l.length * m
 | [] => by simp
 | x :: r => by
   rw [List.flatMap_cons, List.length_append, zc enc m hm r, hm x, List.length_cons, Nat.add_mul]
   omega
theorem jb7 {α : Type} (enc : α → List Value) (m : Nat) (hm : ∀ x, (enc x).length = m) : ∀ (l : List α) (k j : Nat) (hk : k < l.length), j < m → (l.flatMap enc)[k * m + j]? = (enc l[k])[j]?
 | x :: r, 0, j, hk, hj => by
   rw [List.flatMap_cons, Nat.zero_mul, Nat.zero_add, List.getElem?_append_left (by rw [hm]; exact hj)]
   rfl
 | x :: r, k + 1, j, hk, hj => by
   have ih := jb7 enc m hm r k j (by simpa using hk) hj
   rw [List.flatMap_cons, List.getElem?_append_right (by rw [hm, Nat.add_mul]; omega), hm, show (k + 1) * m + j - m = k * m + j by rw [Nat.add_mul]; omega, ih]
   rfl
structure Ent where
 key : ByteArray
 cont : Int
 zone : Int
 a : Int
 z : Int
structure Pfx where
 beg : ByteArray
 ent : ByteArray
 a : Int
 z : Int
 whole : Bool
 zone : Int
def jvj (e : Ent) : List Value := [.string e.key, .int .i64 e.cont, .int .i64 e.zone, .int .i64 e.a, .int .i64 e.z]
def ju5 (p : Pfx) : List Value := [.string p.beg, .string p.ent, .int .i64 p.a, .int .i64 p.z, .bool p.whole, .int .i64 p.zone]
def EntsFrom (base : Nat) (w : World) (v : Value) (l : List Ent) : Prop := w.ownsRow base 139 5 v l.length (l.flatMap jvj)
def PfxsFrom (base : Nat) (w : World) (v : Value) (l : List Pfx) : Prop := w.ownsRow base 134 6 v l.length (l.flatMap ju5)
theorem EntsFrom.grown {base : Nat} {w w' : World} {v : Value} {l : List Ent} (h : EntsFrom base w v l) (hg : w.grownBy w' none) : EntsFrom base w' v l := j7 h hg
theorem PfxsFrom.grown {base : Nat} {w w' : World} {v : Value} {l : List Pfx} (h : PfxsFrom base w v l) (hg : w.grownBy w' none) : PfxsFrom base w' v l := j7 h hg
theorem EntsFrom.other {base b : Nat} {w w' : World} {v : Value} {l : List Ent} (h : EntsFrom base w v l) (hg : w.grownBy w' (some b)) (hb : b < base) : EntsFrom base w' v l := jy h hg hb
theorem PfxsFrom.other {base b : Nat} {w w' : World} {v : Value} {l : List Pfx} (h : PfxsFrom base w v l) (hg : w.grownBy w' (some b)) (hb : b < base) : PfxsFrom base w' v l := jy h hg hb
theorem EntsFrom.shape {base : Nat} {w : World} {v : Value} {l : List Ent} (h : EntsFrom base w v l) :
 ∃ A c, v = .slice A l.length c ∧ l.length ≤ 9223372036854775807 ∧ (0 < l.length → ∃ g, A = some ⟨g, 0, none⟩ ∧ base ≤ g ∧ g < w.heap.size) := j1 h
theorem PfxsFrom.shape {base : Nat} {w : World} {v : Value} {l : List Pfx} (h : PfxsFrom base w v l) :
 ∃ A c, v = .slice A l.length c ∧ l.length ≤ 9223372036854775807 ∧ (0 < l.length → ∃ g, A = some ⟨g, 0, none⟩ ∧ base ≤ g ∧ g < w.heap.size) := j1 h
theorem EntsFrom.at_ {base : Nat} {w : World} {g c : Nat} {l : List Ent} (h : EntsFrom base w (.slice (some ⟨g, 0, none⟩) l.length c) l) (k : Nat) (hk : k < l.length) :
 w.cell? ⟨g, k * 5, none⟩ = some (.string l[k].key) ∧ w.cell? ⟨g, k * 5 + 1, none⟩ = some (.int .i64 l[k].cont) ∧ w.cell? ⟨g, k * 5 + 2, none⟩ = some (.int .i64 l[k].zone) ∧ w.cell? ⟨g, k * 5 + 3, none⟩ = some (.int .i64 l[k].a) ∧ w.cell? ⟨g, k * 5 + 4, none⟩ = some (.int .i64 l[k].z) := by
 have hf := jb7 jvj 5 (fun _ => rfl) l k
 have h0 := hf 0 hk (by decide)
 rw [Nat.add_zero] at h0
 refine ⟨?_, ?_, ?_, ?_, ?_⟩
 ·rw [World.ownsRow.cellAt h _ (by omega), h0]; rfl
 ·rw [World.ownsRow.cellAt h _ (by omega), hf 1 hk (by decide)]; rfl
 ·rw [World.ownsRow.cellAt h _ (by omega), hf 2 hk (by decide)]; rfl
 ·rw [World.ownsRow.cellAt h _ (by omega), hf 3 hk (by decide)]; rfl
 rw [World.ownsRow.cellAt h _ (by omega), hf 4 hk (by decide)]; rfl
theorem PfxsFrom.at_ {base : Nat} {w : World} {g c : Nat} {l : List Pfx} (h : PfxsFrom base w (.slice (some ⟨g, 0, none⟩) l.length c) l) (k : Nat) (hk : k < l.length) :
 w.cell? ⟨g, k * 6, none⟩ = some (.string l[k].beg) ∧ w.cell? ⟨g, k * 6 + 1, none⟩ = some (.string l[k].ent) ∧ w.cell? ⟨g, k * 6 + 2, none⟩ = some (.int .i64 l[k].a) ∧ w.cell? ⟨g, k * 6 + 3, none⟩ = some (.int .i64 l[k].z) ∧ w.cell? ⟨g, k * 6 + 4, none⟩ = some (.bool l[k].whole) ∧ w.cell? ⟨g, k * 6 + 5, none⟩ = some (.int .i64 l[k].zone) := by
 have hf := jb7 ju5 6 (fun _ => rfl) l k
 have h0 := hf 0 hk (by decide)
 rw [Nat.add_zero] at h0
 refine ⟨?_, ?_, ?_, ?_, ?_, ?_⟩
 ·rw [World.ownsRow.cellAt h _ (by omega), h0]; rfl
 ·rw [World.ownsRow.cellAt h _ (by omega), hf 1 hk (by decide)]; rfl
 ·rw [World.ownsRow.cellAt h _ (by omega), hf 2 hk (by decide)]; rfl
 ·rw [World.ownsRow.cellAt h _ (by omega), hf 3 hk (by decide)]; rfl
 ·rw [World.ownsRow.cellAt h _ (by omega), hf 4 hk (by decide)]; rfl
 rw [World.ownsRow.cellAt h _ (by omega), hf 5 hk (by decide)]; rfl
def leS (a b : ByteArray) : Bool := Op.bytesLess a.toList b.toList || a.toList == b.toList
def qy {α : Type} (l : List α) (k : Nat) : Option α := if k = 0 then none else l[k - 1]?
theorem yq {α : Type} (l : List α) (k : Nat) (h : k < l.length) : qy l (k + 1) = some l[k] := by unfold qy; simp [h]
def jcq (p : Option Ent) (e : Ent) : Int :=
 if jaq e.key.data.toList = false then 5
 else if qu e.cont 1 7 then 4
 else if qu e.zone 1 90 then 1
 else if xu e.a e.z = false then 1
 else match p with
  | none => 0
  | some q => if leS e.key q.key then 7 else 0
def q8 : Option Ent → List Ent → Int
 | _, [] => 0
 | p, e :: r => if jcq p e = 0 then q8 (some e) r else jcq p e
def xj (l : List Ent) : Int := if 400 < l.length then 2 else q8 none l
theorem jcr (l : List Ent) (k : Nat) (h : k < l.length) : q8 (qy l k) (l.drop k) = if jcq (qy l k) l[k] = 0 then q8 (qy l (k + 1)) (l.drop (k + 1)) else jcq (qy l k) l[k] := by
 rw [List.drop_eq_getElem_cons h, yq l k h]
 rfl
theorem jdm (l : List Ent) (p : Option Ent) : q8 p (l.drop l.length) = 0 := by rw [List.drop_length]; rfl
theorem jao (p : Option Ent) (e : Ent) : (jaq e.key.data.toList = false ∧ jcq p e = 5) ∨ (jaq e.key.data.toList = true ∧ qu e.cont 1 7 = true ∧ jcq p e = 4) ∨ (jaq e.key.data.toList = true ∧ qu e.cont 1 7 = false ∧ qu e.zone 1 90 = true ∧ jcq p e = 1) ∨ (jaq e.key.data.toList = true ∧ qu e.cont 1 7 = false ∧ qu e.zone 1 90 = false ∧ xu e.a e.z = false ∧ jcq p e = 1) ∨
 (jaq e.key.data.toList = true ∧ qu e.cont 1 7 = false ∧ qu e.zone 1 90 = false ∧ xu e.a e.z = true ∧ jcq p e = match p with | none => 0 | some q => if leS e.key q.key then 7 else 0) := by
 unfold jcq
 cases jaq e.key.data.toList <;> cases qu e.cont 1 7 <;> cases qu e.zone 1 90 <;> cases xu e.a e.z <;> simp
def jjc (e : Ent) : Prop := e.key.size ≤ 1000000000 ∧ -1152921504606846976 ≤ e.z ∧ e.z ≤ 1152921504606846976
def codeT : List (UInt8 × List UInt8) := [
 (97, [46, 45]), (98, [45, 46, 46, 46]), (99, [45, 46, 45, 46]), (100, [45, 46, 46]), (101, [46]), (102, [46, 46, 45, 46]), (103, [45, 45, 46]), (104, [46, 46, 46, 46]),
 (105, [46, 46]), (106, [46, 45, 45, 45]), (107, [45, 46, 45]), (108, [46, 45, 46, 46]), (109, [45, 45]), (110, [45, 46]), (111, [45, 45, 45]), (112, [46, 45, 45, 46]),
 (113, [45, 45, 46, 45]), (114, [46, 45, 46]), (115, [46, 46, 46]), (116, [45]), (117, [46, 46, 45]), (118, [46, 46, 46, 45]), (119, [46, 45, 45]), (120, [45, 46, 46, 45]),
 (121, [45, 46, 45, 45]), (122, [45, 45, 46, 46]), (48, [45, 45, 45, 45, 45]), (49, [46, 45, 45, 45, 45]), (50, [46, 46, 45, 45, 45]), (51, [46, 46, 46, 45, 45]), (52, [46, 46, 46, 46, 45]), (53, [46, 46, 46, 46, 46]),
 (54, [45, 46, 46, 46, 46]), (55, [45, 45, 46, 46, 46]), (56, [45, 45, 45, 46, 46]), (57, [45, 45, 45, 45, 46]), (47, [45, 46, 46, 45, 46]), (63, [46, 46, 45, 45, 46, 46]), (61, [45, 46, 46, 46, 45]), (43, [46, 45, 46, 45, 46])]
theorem xo : codeT.length = 40 := by decide +kernel
def zr (c : UInt8) : List UInt8 := ((codeT.find? fun p => p.1 == c).map (·.2)).getD []
def wdL (l : List (UInt8 × List UInt8)) : List (List UInt8) := l.flatMap fun p => [[p.1], p.2]
def xw (l : List (UInt8 × List UInt8)) : List Value := l.flatMap fun p => [.string ⟨#[p.1]⟩, .string ⟨p.2.toArray⟩]
theorem ji7 (l : List (UInt8 × List UInt8)) (x : UInt8) (y : List UInt8) : xw (l ++ [(x, y)]) = xw l ++ [.string ⟨#[x]⟩, .string ⟨y.toArray⟩] := by
 simp [xw]
theorem jgb (l : List (UInt8 × List UInt8)) (k : Nat) (h : k < l.length) : (xw l)[k * 2]? = some (.string ⟨#[l[k].1]⟩) ∧ (xw l)[k * 2 + 1]? = some (.string ⟨l[k].2.toArray⟩) := by
 induction l generalizing k with
 | nil => simp at h
 | cons p r ih =>
   have e : xw (p :: r) = .string ⟨#[p.1]⟩ :: .string ⟨p.2.toArray⟩ :: xw r := rfl
   rw [e]
   cases k with
   | zero => simp
   | succ k =>
     have := ih k (by simpa using h)
     rw [show (k + 1) * 2 = k * 2 + 1 + 1 from by omega]
     simpa using this
theorem jm2 (l : List (UInt8 × List UInt8)) : (wdL l).map (fun x => Value.string ⟨x.toArray⟩) = xw l := by
 induction l with
 | nil => rfl
 | cons p r ih => simp only [wdL, xw, List.flatMap_cons, List.map_append] at ih ⊢; rw [ih]; rfl
def jus (s : ByteArray) : Bool := decide (s.size < 100000) && s.data.toList.all (fun b => decide (b.toNat < 128)) && (Lib.fields s.data.toList == wdL codeT)
theorem jsg {s : ByteArray} (h : jus s = true) : s.size < 4294967281 ∧ (∀ (j : Nat) b, s.data.toList[j]? = some b → b.toNat < 128) ∧ Lib.fields s.data.toList = wdL codeT := by
 unfold jus at h
 rw [Bool.and_eq_true, Bool.and_eq_true, decide_eq_true_eq, List.all_eq_true, beq_iff_eq] at h
 obtain ⟨⟨h1, h2⟩, h3⟩ := h
 exact ⟨by omega, fun j b hb => by simpa using h2 b (List.mem_of_getElem? hb), h3⟩
def SgnFrom (base : Nat) (w : World) (v : Value) (l : List (UInt8 × List UInt8)) : Prop := w.ownsRow base 246 2 v l.length (xw l)
theorem SgnFrom.low {base base' : Nat} {w : World} {v : Value} {l : List (UInt8 × List UInt8)} (h : SgnFrom base w v l) (hb : base' ≤ base) : SgnFrom base' w v l := jq h hb
theorem SgnFrom.grown {base : Nat} {w w' : World} {v : Value} {l : List (UInt8 × List UInt8)} (h : SgnFrom base w v l) (hg : w.grownBy w' none) : SgnFrom base w' v l := j7 h hg
theorem SgnFrom.other {base b : Nat} {w w' : World} {v : Value} {l : List (UInt8 × List UInt8)} (h : SgnFrom base w v l) (hg : w.grownBy w' (some b)) (hb : b < base) : SgnFrom base w' v l := jy h hg hb
theorem SgnFrom.nil (base : Nat) (w : World) : SgnFrom base w (.slice none 0 0) [] := World.ownsRow_nil _ _ _ _
theorem SgnFrom.shape {base : Nat} {w : World} {v : Value} {l : List (UInt8 × List UInt8)} (h : SgnFrom base w v l) :
 ∃ A c, v = .slice A l.length c ∧ l.length ≤ 9223372036854775807 ∧ (0 < l.length → ∃ g, A = some ⟨g, 0, none⟩ ∧ base ≤ g ∧ g < w.heap.size) := j1 h
theorem SgnFrom.at1 {base : Nat} {w : World} {g c : Nat} {l : List (UInt8 × List UInt8)} (h : SgnFrom base w (.slice (some ⟨g, 0, none⟩) l.length c) l) (k : Nat) (hk : k < l.length) : w.cell? ⟨g, k * 2, none⟩ = some (.string ⟨#[l[k].1]⟩) ∧ w.cell? ⟨g, k * 2 + 1, none⟩ = some (.string ⟨l[k].2.toArray⟩) := by
 have hc := jgb l k hk
 rw [World.ownsRow.cellAt h (k * 2) (by omega), World.ownsRow.cellAt h (k * 2 + 1) (by omega)]
 exact hc
theorem juk : (Tryz.prog.info? 246).map (fun i => (i.zero, i.size, i.bytes)) = some (some (.agg #[.string ⟨#[]⟩, .string ⟨#[]⟩]), 2, 32) := by kernel_rfl
theorem jeh (w : World) (cs : List Value) (t : TypeId) : ∀ j u, cs[j]? = some u → (w.alloc (.cells cs.toArray t)).cell? ((⟨w.heap.size, 0, none⟩ : Addr).add j) = some u := by
 intro j u hu
 have hb := (Blk.new w t cs.toArray).cell j
 have hadd : (⟨w.heap.size, 0, none⟩ : Addr).add j = ⟨w.heap.size, j, none⟩ := by unfold Addr.add; split <;> simp_all
 rw [hadd, hb]
 simpa using hu
theorem juv (x y : ByteArray) : ∀ u ∈ [Value.string x, .string y], u.oneCell' = true := by
 intro u hu; simp at hu; rcases hu with rfl | rfl <;> rfl
end Go.Proofs.YtbamhgaghngjiaaGreatDoor

namespace Go.Proofs.YtbamhgaghngjiaaGreatDoor
open Go.RowKit
set_option linter.unusedVariables false

structure Gl (b : Nat) (w : World) : Prop where
 mx : ∃ m : Int, w.cell? ⟨0, 0, none⟩ = some (.int .i64 m)
 sp : Lib.TabIs Tryz.prog w "strings.asciiSpace" .u8 Lib.asciiSpaceTab
 lm : 0 < b
 ls : 3 < b
 lb : b ≤ w.heap.size
theorem ji3 {w w' : World} {row : Option Nat} {g : Nat} {n : String} {k : IntKind} {zs : List Int} (hn : Tryz.prog.globalNamed n = some g) (h : Lib.TabIs Tryz.prog w n k zs) (hg : w.grownBy w' row) (hb : g < w.heap.size) (hr : some g ≠ row) : Lib.TabIs Tryz.prog w' n k zs := by
 unfold Lib.TabIs World.var? at h ⊢
 rw [hn] at h ⊢
 simp only [Option.bind_some] at h ⊢
 rw [hg.block g hb hr]
 exact h
theorem Gl.grown {b : Nat} {w w' : World} {row : Option Nat} (h : Gl b w) (hg : w.grownBy w' row) (hr : ∀ g, row = some g → b ≤ g) : Gl b w' := by
 obtain ⟨⟨m, hm⟩, hs, h1, h2, h3⟩ := h
 refine ⟨⟨m, ?_⟩, ji3 (by kernel_rfl) hs hg (Nat.lt_of_lt_of_le h2 h3) (fun e => by have h9 : b ≤ 3 := hr _ e.symm; omega), h1, h2, Nat.le_trans h3 hg.size⟩
 exact (World.cell?_of_block (hg.block _ (Nat.lt_of_lt_of_le h1 h3) (fun e => by have h9 : b ≤ 0 := hr _ e.symm; omega))).trans hm
theorem Gl.quiet {b : Nat} {w w' : World} (h : Gl b w) (hg : w.grownBy w' none) : Gl b w' := h.grown hg (by simp)
end Go.Proofs.YtbamhgaghngjiaaGreatDoor

namespace Go.Proofs.YtbamhgaghngjiaaGreatDoor
open Go.RowKit
set_option linter.unusedVariables false

theorem jl2 (s : ByteArray) (w : World) (h : jus s = true) (hs : Lib.TabIs Tryz.prog w "strings.asciiSpace" .u8 Lib.asciiSpaceTab) :
 Calls Tryz.prog 216 #[.string s] w fun e w' => e = .returned (.slice (some ⟨w.heap.size, 0, none⟩) 80 80) ∧ w' = w.alloc (.cells (xw codeT).toArray 9) := by
 obtain ⟨h1, h2, h3⟩ := jsg h
 refine (Tryz.strings_Fields s w h1 h2 hs).mono ?_
 rintro e w' ⟨he, hw⟩
 rw [h3] at he hw
 rw [jm2] at hw
 exact ⟨he, hw⟩
def js1 (l : List (UInt8 × List UInt8)) (w : World) (e : Ending) (w' : World) : Prop := ∃ v, e = .returned v ∧ SgnFrom w.heap.size w' v l ∧ w.grownBy w' none
set_option maxRecDepth 100000 in
set_option maxHeartbeats 2000000 in
theorem jnu (b : Nat) (w : World) (hgl : Gl b w) :
 Calls Tryz.prog 195 #[] w (js1 codeT w) := by
 have HGL := Lib.hid hgl
 clear hgl
 obtain ⟨i0, hi, hz0, hz1, hz2⟩ := info_parts juk
 go_enter Tryz.func195, Tryz.ntmps195
 go_wp2_with fail
 refine (jl2 _ _ (by kernel_rfl) HGL.out.sp).mono ?_
 rintro _ w1 ⟨rfl, hw1⟩
 have hG1 : w.grownBy w1 none := by rw [hw1]; exact World.grownBy_alloc w _ none
 have hW1 : Blk w1 w.heap.size 9 (xw codeT).toArray := by rw [hw1]; exact Blk.new _ _ _
 have HW1 := Lib.hid hw1
 clear hw1
 go_wp2_with fail
 go_loopw [2, 3] (fun o i wr => ∃ k j : Nat, k ≤ 40 ∧ Hid (j = k * 2) ∧ j ≤ 80 ∧ i = .int .i64 j ∧ SgnFrom w1.heap.size wr o (codeT.take k) ∧ w1.grownBy wr none) (fun _ i _ => 82 - (intOf i).toNat)
 case atStart => exact ⟨0, 0, by omega, rfl, by omega, rfl, SgnFrom.nil _ _, jf _ _⟩
 case round =>
  obtain ⟨k, j, hk, HJ, hj, rfl, hown, hgr⟩ := hrel
  have hlen : (codeT.take k).length = k := by rw [List.length_take, xo]; omega
  have hown1 : wr.ownsRow w1.heap.size 246 2 u2 k (xw (codeT.take k)) := by
   have h := hown
   unfold SgnFrom at h
   rwa [hlen] at h
  clear hown
  obtain ⟨A2, c2, rfl, hk9, hA2⟩ := j1 hown1
  by_cases hlt : k < 40
  ·have hkl : k < codeT.length := by rw [xo]; exact hlt
   have hat1 := jgb codeT k hkl
   have htk : codeT.take (k + 1) = codeT.take k ++ [(codeT[k].1, codeT[k].2)] := by
    rw [List.take_succ_eq_append_getElem hkl]
   obtain ⟨x, hx⟩ : ∃ x, codeT[k].1 = x := ⟨_, rfl⟩
   obtain ⟨y, hy⟩ : ∃ y, codeT[k].2 = y := ⟨_, rfl⟩
   rw [hx, hy] at hat1 htk
   have HJ2 := HJ.out
   rw [← HJ2] at hat1
   have KX : Hid (∀ W' : World, w1.grownBy W' none → W'.cell? ⟨w.heap.size, j, none⟩ = some (.string ⟨#[x]⟩) ∧ W'.cell? ⟨w.heap.size, j + 1, none⟩ = some (.string ⟨y.toArray⟩) ∧ w1.grownBy W' none) :=
    fun W' hW => ⟨((hW1.grown hW (by simp)).cell j).trans (by simpa using hat1.1), ((hW1.grown hW (by simp)).cell (j + 1)).trans (by simpa using hat1.2), hW⟩
   have HT := Lib.hid htk
   have HO := Lib.hid hown1
   obtain ⟨q1, q2, -⟩ := KX.out wr hgr
   have hj1 : (j : Int) < 80 := by omega
   have hj2 : (j : Int) + 1 < 80 := by omega
   have hj3 : (0 : Int) ≤ (j : Int) + 1 := by omega
   have hj4 : j < 80 := by omega
   have hj5 : j + 1 < 80 := by omega
   have e1 : IntKind.i64.wrap ((j : Int) + 1) = (j : Int) + 1 := IntWalk.i64_in _ ⟨by omega, by omega⟩
   have e2 : ((j : Int) + 1).toNat = j + 1 := by omega
   have hzw := hgr.size
   clear hat1 htk hx hy HJ2 hown1 hlen hA2
   go_wp2_with fail
   go_region_held3 (fun W' => W'.cell? ⟨w.heap.size, j, none⟩ = some (.string ⟨#[x]⟩) ∧ W'.cell? ⟨w.heap.size, j + 1, none⟩ = some (.string ⟨y.toArray⟩) ∧ w1.grownBy W' none)
    ((exact KX.out _ (by first | exact jk (show w1.grownBy _ none from (by repeat (first | exact jf _ _ | assumption | refine jd ?_ _ | refine q9 ?_ _ | refine jn ?_))) hgq (fun kk h => .inr (HO.out.lt kk h).1) | exact (by repeat (first | exact jf _ _ | assumption | refine jd ?_ _ | refine q9 ?_ _ | refine jn ?_)))))
    ((refine step_append_lies _ (by rfl) (.tmp 11) (.tmp 22) 243 (by rfl) w1.heap.size 246 i0 _ 2 32 Tryz.underlying243 hi hz0 hz1 hz2 rfl (by decide) _ k (xw (codeT.take k)) (by simp [Act.eval]) (World.ownsRow.alloc (show World.ownsRow _ w1.heap.size 246 2 _ k (xw (codeT.take k)) from HO.out) _) ⟨_, 0, none⟩ 1 1 [.string ⟨#[x]⟩, .string ⟨y.toArray⟩] (by simp [Act.eval]) rfl (jeh _ _ _) (juv _ _) (by decide) (by unfold maxLen; omega) (by omega) (by simp; omega) _ rfl ?_; intro gq cap w9 hqq hgq hat hglt))
   have hgF : w1.grownBy w9 none := jk (show w1.grownBy _ none from (by repeat (first | exact jf _ _ | assumption | refine jd ?_ _ | refine q9 ?_ _ | refine jn ?_))) hgq (fun kk h => .inr (HO.out.lt kk h).1)
   have hw9 : SgnFrom w1.heap.size w9 (.slice (some ⟨gq, 0, none⟩) (k + 1) cap) (codeT.take (k + 1)) := by
    unfold SgnFrom
    rw [HT.out, ji7, show (codeT.take k ++ [(x, y)]).length = k + 1 by simp [xo]; omega]
    exact hqq
   go_wp2_with fail
   go_roundw
   case rel => exact ⟨k + 1, j + 2, by omega, by show _ = _; have := HJ.out; omega, by have := HJ.out; omega, by go_num, hw9, hgF⟩
   case measure => simp [intOf]; omega
  have hf : codeT.take k = codeT := List.take_of_length_le (by rw [xo]; omega)
  have HF := Lib.hid hf
  have hj0 : ¬ (j : Int) < 80 := by have := HJ.out; omega
  have HO := Lib.hid hown1
  clear hf hown1 hlen hA2
  go_wp2_with fail
  go_ret
  refine ⟨_, rfl, ?_, ja hG1 hgr⟩
  have h := HO.out
  rw [HF.out] at h
  obtain rfl : k = 40 := by omega
  unfold SgnFrom
  rw [xo]
  exact jq h hG1.size
end Go.Proofs.YtbamhgaghngjiaaGreatDoor

namespace Go.Proofs.YtbamhgaghngjiaaGreatDoor
open Go.RowKit
set_option linter.unusedVariables false

def look (l : List (UInt8 × List UInt8)) (c : UInt8) : List UInt8 := l.foldl (fun acc p => if p.1 = c then p.2 else acc) []
theorem jop (l : List (UInt8 × List UInt8)) (x : UInt8) (y : List UInt8) (c : UInt8) : look (l ++ [(x, y)]) c = if x = c then y else look l c := by simp [look]
theorem jme (c : UInt8) : look codeT c = zr c := by
 have h : ∀ n : Fin 256, look codeT (UInt8.ofNat n.val) = zr (UInt8.ofNat n.val) := by decide +kernel
 have := h ⟨c.toNat, c.toNat_lt⟩
 simpa using this
def MapB (w : World) (bm n : Nat) (l : List (UInt8 × List UInt8)) : Prop :=
 ∃ D : DataW Unit, w.ownsMap Tryz.prog 5 (plainElem Tryz.prog 9) bm n D ∧ Maps.IsMap D ∧ ∀ c : UInt8, D.atKey (.int .u8 c.toNat) (.lit (.string [])) = .lit (.string (look l c))
theorem MapB.lt {w : World} {bm n : Nat} {l : List (UInt8 × List UInt8)} (h : MapB w bm n l) : bm < w.heap.size := by obtain ⟨D, h1, _⟩ := h; exact h1.lt
theorem MapB.made (w : World) : MapB (w.alloc (.map #[] 0)) w.heap.size 0 [] := ⟨_, World.ownsMap_made w _ _ _, Maps.isMap_empty, fun c => rfl⟩
theorem MapB.kept {w w' : World} {bm n : Nat} {l : List (UInt8 × List UInt8)} (h : MapB w bm n l) {row : Option Nat} (hg : w.grownBy w' row) (hr : some bm ≠ row) : MapB w' bm n l := by
 obtain ⟨D, h1, h2, h3⟩ := h
 exact ⟨D, h1.kept hg hr, h2, h3⟩
theorem MapB.quiet {w w' : World} {bm n : Nat} {l : List (UInt8 × List UInt8)} (h : MapB w bm n l) (hg : w.grownBy w' none) : MapB w' bm n l := h.kept hg (by simp)
theorem jws (c : UInt8) : (Lit.int .u8 (c.toNat : Int)).wf = true := by
 have := c.toNat_lt
 simp [Lit.wf, IntKind.min, IntKind.max, IntKind.signed, IntKind.bits]
 omega
theorem jsy (c : UInt8) : keyOf Tryz.prog 5 (.int .u8 (c.toNat : Int)) = some (.int .u8 (c.toNat : Int)) := Maps.keyOf_int_mk Tryz.underlying5 (jws c)
theorem MapB.look {w : World} {bm n : Nat} {l : List (UInt8 × List UInt8)} (h : MapB w bm n l) (c : UInt8) :
 (Instr.lookup 140 (.map (some bm)) (.int .u8 (c.toNat : Int)) false).run Tryz.prog w = .ok (.string ⟨(look l c).toArray⟩) w := by
 obtain ⟨D, h1, h2, h3⟩ := h
 obtain ⟨v, ps, hrun, hv⟩ := h1.lookup (Maps.int_keyed Tryz.underlying5) Tryz.underlying140 (z := .string ⟨#[]⟩) (by kernel_rfl) (plainElem_string Tryz.underlying9 (by decide)) (jsy c)
 rw [show (⟨#[]⟩ : ByteArray).data.toList = [] from rfl, h3 c] at hv
 obtain ⟨s, rfl, hs, _⟩ := plainElem_string_inv Tryz.underlying9 hv
 simp only [Prod.mk.injEq, DataW.lit.injEq, Lit.string.injEq] at hs
 rw [hs.1]
 exact hrun
theorem MapB.put {w : World} {bm n : Nat} {l : List (UInt8 × List UInt8)} (h : MapB w bm n l) (hn : n ≤ 1000000) (x : UInt8) (y : List UInt8) (hy : y.length ≤ 1000000) :
 ∃ w', (Instr.mapUpdate 140 (.map (some bm)) (.int .u8 (x.toNat : Int)) (.string ⟨y.toArray⟩)).run Tryz.prog w = .ok () w' ∧ MapB w' bm (n + 1) (l ++ [(x, y)]) ∧ w.grownBy w' (some bm) := by
 obtain ⟨D, h1, h2, h3⟩ := h
 obtain ⟨w', hrun, ho, hg⟩ := h1.update (Maps.int_keyed Tryz.underlying5) Tryz.underlying140 (by unfold maxLen; omega) (jsy x) (plainElem_string (s := ⟨y.toArray⟩) Tryz.underlying9 (by unfold maxLen; show y.toArray.size ≤ _; simp; omega))
 refine ⟨w', hrun, ⟨_, ho, h2.put _ _, fun c => ?_⟩, hg⟩
 rw [jop]
 by_cases e : x = c
 ·subst e
  rw [if_pos rfl, Maps.atKey_put_same h2 (k := .int .u8 x.toNat) (by trivial)]
 rw [if_neg e, Maps.atKey_put_other (by
  intro h
  injection h with _ h
  exact e (UInt8.toNat_inj.1 (by omega)).symm), h3 c]
end Go.Proofs.YtbamhgaghngjiaaGreatDoor

namespace Go.Proofs.YtbamhgaghngjiaaGreatDoor
open Go.RowKit
set_option linter.unusedVariables false

theorem jjm : ∀ p ∈ codeT, p.2.length ≤ 6 := by decide +kernel
def jsz (w : World) (e : Ending) (w' : World) : Prop := ∃ bm, e = .returned (.map (some bm)) ∧ w.heap.size ≤ bm ∧ MapB w' bm 40 codeT ∧ w.grownBy w' none
set_option maxRecDepth 100000 in
set_option maxHeartbeats 2000000 in
theorem jee (b : Nat) (w : World) (hgl : Gl b w) :
 Calls Tryz.prog 148 #[] w (jsz w) := by
 have HGL := Lib.hid hgl
 clear hgl
 have hmm := @run_makeMap Tryz.prog
 go_enter Tryz.func148, Tryz.ntmps148
 go_wp2_with fail
 clear hmm
 have hM0 := MapB.made w
 have hlt0 := hM0.lt
 refine (jnu b _ (HGL.out.quiet (World.grownBy_alloc w _ none))).mono ?_
 rintro _ w1 ⟨v, rfl, hv, hg1⟩
 have hM1 := hM0.quiet hg1
 have hG1 := ja (World.grownBy_alloc w (.map #[] 0) none) hg1
 obtain ⟨A, c, hve, hvl, hvA⟩ := hv.shape
 subst hve
 obtain ⟨g, hAg, hg0, _⟩ := hvA (by rw [xo]; decide)
 subst hAg
 rw [xo] at hv ⊢
 have hgm : w.heap.size < g := by simp at hg0; omega
 have HV := Lib.hid (show SgnFrom (w.alloc (.map #[] 0)).heap.size w1 (.slice (some ⟨g, 0, none⟩) codeT.length c) codeT by rw [xo]; exact hv)
 have hsz1 := hg1.size
 clear hv hvl hvA hM0 hg1
 go_wp2_with fail
 go_loopw [7] (fun i wr => ∃ k : Nat, k ≤ 40 ∧ i = .int .i64 k ∧ MapB wr w.heap.size k (codeT.take k) ∧ w1.grownBy wr (some w.heap.size)) (fun i _ => 40 - (intOf i).toNat)
 case atStart => exact ⟨0, by omega, rfl, hM1, jf _ _⟩
 case round =>
  obtain ⟨k, hk, rfl, hM, hgr⟩ := hrel
  by_cases hlt : k < 40
  ·have hkl : k < codeT.length := by rw [xo]; exact hlt
   have hat1 := (SgnFrom.other HV.out hgr (by simp)).at1 k hkl
   have hsh := jjm codeT[k] (List.getElem_mem hkl)
   have htk : codeT.take (k + 1) = codeT.take k ++ [(codeT[k].1, codeT[k].2)] := by
    rw [List.take_succ_eq_append_getElem hkl]
   obtain ⟨x, hx⟩ : ∃ x, codeT[k].1 = x := ⟨_, rfl⟩
   obtain ⟨y, hy⟩ : ∃ y, codeT[k].2 = y := ⟨_, rfl⟩
   rw [hx, hy] at hat1 htk
   rw [hy] at hsh
   obtain ⟨q1, q2⟩ := hat1
   have HT := Lib.hid htk
   have hlt2 : (k : Int) < 40 := by omega
   have hzr := hgr.size
   have hMlt := hM.lt
   clear htk hx hy hM1
   go_wp2_with fail
   have hB := Blk.new wr 246 #[.string ⟨#[x]⟩, .string ⟨y.toArray⟩]
   have hMA := hM.quiet (World.grownBy_alloc wr (.cells #[.string ⟨#[x]⟩, .string ⟨y.toArray⟩] 246) none)
   have hGA := jd hgr (.cells #[.string ⟨#[x]⟩, .string ⟨y.toArray⟩] 246)
   have hBl : wr.heap.size < (wr.alloc (.cells #[.string ⟨#[x]⟩, .string ⟨y.toArray⟩] 246)).heap.size := hB.lt
   generalize wr.alloc (.cells #[.string ⟨#[x]⟩, .string ⟨y.toArray⟩] 246) = W at *
   have b0 : W.cell? ⟨wr.heap.size, 0, none⟩ = some (.string ⟨#[x]⟩) := hB.cell 0
   have b1 : W.cell? ⟨wr.heap.size, 1, none⟩ = some (.string ⟨y.toArray⟩) := hB.cell 1
   obtain ⟨w9, hrun, hM9, hg9⟩ := MapB.put (w := W.drew) hMA (by omega) x y (by omega)
   have hrun' : (Instr.mapUpdate 140 (.map (some w.heap.size)) (.int .u8 (((⟨#[x]⟩ : ByteArray)[0]'(by show 0 < 1; decide)).toNat : Int)) (.string ⟨y.toArray⟩)).run Tryz.prog W.drew = .ok () w9 := hrun
   clear hrun
   go_region
   go_wp2_with fail
   go_roundw
   case rel => exact ⟨k + 1, by omega, by go_num, by rw [HT.out]; exact hM9, jk (jn hGA) hg9 (fun g e => .inl e)⟩
   case measure => simp [intOf]; omega
  have hf : codeT.take k = codeT := List.take_of_length_le (by rw [xo]; omega)
  rw [hf] at hM
  obtain rfl : k = 40 := by omega
  clear hf hM1
  go_wp2_with fail
  go_ret
  exact ⟨_, rfl, Nat.le_refl _, hM, jk hG1 hgr (fun g e => by injection e with e; exact .inr (by omega))⟩
end Go.Proofs.YtbamhgaghngjiaaGreatDoor
