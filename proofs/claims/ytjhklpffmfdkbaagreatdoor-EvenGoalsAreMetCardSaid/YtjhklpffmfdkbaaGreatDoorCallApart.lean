/- The walks over Parts and Apart: a call sign taken apart at its slash. Condition: the string is ASCII and shorter than 2^32 bytes. -/
import Derived.Test.YtjhklpffmfdkbaaGreatDoorCallParts
import Derived.Lib.IndexLaws
namespace Go.Proofs.YtjhklpffmfdkbaaGreatDoor
open Go.RowKit
set_option linter.unusedVariables false

theorem index_bd (s : ByteArray) (c : UInt8) (i : Nat) (h : Lib.indexByte s.data.toList c = (i : Int)) : i < s.size := by
  have := (Lib.indexByte_some h).1
  have h2 := (List.getElem?_eq_some_iff.1 this).1
  simpa using h2

set_option maxHeartbeats 1000000 in
theorem lcut_hit (s : ByteArray) (c : UInt8) (i : Nat) (w : World) (hs : s.size < 4294967281) (h : Lib.indexByte s.data.toList c = (i : Int)) :
    Calls Tryz.prog 113 #[.string s, .string ⟨#[c]⟩] w fun e w' => e = .returned (.tuple #[.string (s.extract 0 i), .string (s.extract (i + 1) s.size), .bool true]) ∧ w.grownBy w' none := by
  have hi := index_bd s c i h
  have h1 : (i : Int) + 1 ≤ (s.size : Int) := by omega
  have h2 : (0 : Int) ≤ (i : Int) + 1 := by omega
  have h3 : ((i : Int) + 1).toNat = i + 1 := by omega
  have h4 : i ≤ s.size := by omega
  have e1 : IntKind.i64.wrap ((i : Int) + 1) = (i : Int) + 1 := IntWalk.i64_in _ ⟨by omega, by omega⟩
  have HH := Lib.hid h
  clear h
  go_enter Tryz.func113, Tryz.ntmps113
  go_wp2_with fail
  refine (same_back (Tryz.stringslite_Index_one s c _)).mono ?_
  rintro _ _ ⟨rfl, rfl⟩
  rw [HH.out]
  go_wp2_with fail
  go_quiet (fail)
  go_wp2_with fail
  go_ret3
  exact ⟨rfl, by repeat (first | exact gr_refl _ _ | refine gr_drewN ?_ _ | refine gr_drew ?_)⟩

set_option maxHeartbeats 1000000 in
theorem lcut_miss (s : ByteArray) (c : UInt8) (w : World) (hs : s.size < 4294967281) (h : Lib.indexByte s.data.toList c = -1) :
    Calls Tryz.prog 113 #[.string s, .string ⟨#[c]⟩] w fun e w' => e = .returned (.tuple #[.string s, .string ⟨#[]⟩, .bool false]) ∧ w.grownBy w' none := by
  have HH := Lib.hid h
  clear h
  go_enter Tryz.func113, Tryz.ntmps113
  go_wp2_with fail
  refine (same_back (Tryz.stringslite_Index_one s c _)).mono ?_
  rintro _ _ ⟨rfl, rfl⟩
  rw [HH.out]
  go_wp2_with fail
  go_ret3
  exact ⟨rfl, gr_refl _ _⟩

set_option maxHeartbeats 1000000 in
theorem cut_hit (s : ByteArray) (c : UInt8) (i : Nat) (w : World) (hs : s.size < 4294967281) (h : Lib.indexByte s.data.toList c = (i : Int)) :
    Calls Tryz.prog 89 #[.string s, .string ⟨#[c]⟩] w fun e w' => e = .returned (.tuple #[.string (s.extract 0 i), .string (s.extract (i + 1) s.size), .bool true]) ∧ w.grownBy w' none := by
  have HH := Lib.hid (lcut_hit s c i w hs h)
  clear h
  go_enter Tryz.func89, Tryz.ntmps89
  go_wp2_with fail
  refine HH.out.mono ?_
  rintro _ w1 ⟨rfl, hg⟩
  go_wp2_with fail
  go_ret3
  exact ⟨rfl, hg⟩
set_option maxHeartbeats 1000000 in
theorem cut_miss (s : ByteArray) (c : UInt8) (w : World) (hs : s.size < 4294967281) (h : Lib.indexByte s.data.toList c = -1) :
    Calls Tryz.prog 89 #[.string s, .string ⟨#[c]⟩] w fun e w' => e = .returned (.tuple #[.string s, .string ⟨#[]⟩, .bool false]) ∧ w.grownBy w' none := by
  have HH := Lib.hid (lcut_miss s c w hs h)
  clear h
  go_enter Tryz.func89, Tryz.ntmps89
  go_wp2_with fail
  refine HH.out.mono ?_
  rintro _ w1 ⟨rfl, hg⟩
  go_wp2_with fail
  go_ret3
  exact ⟨rfl, hg⟩

/-- What a call sign is made of: its base call, where that has its last digit, what was added and how; none: it is none. -/
def partsOf (s : ByteArray) : Option (ByteArray × Nat × Int × ByteArray) :=
  if 14 < s.size then none
  else if 0 ≤ baseI s.data.toList then some (s, (baseI s.data.toList).toNat, 0, ⟨#[]⟩)
  else if Lib.indexByte s.data.toList 47 < 0 then none
  else
    let i := (Lib.indexByte s.data.toList 47).toNat
    let a := s.extract 0 i
    let b := s.extract (i + 1) s.size
    if 0 ≤ baseI b.data.toList ∧ beginB a.data.toList = true then some (b, (baseI b.data.toList).toNat, 1, a)
    else if 0 ≤ baseI a.data.toList ∧ tailK b.data.toList ≠ 0 then some (a, (baseI a.data.toList).toNat, tailK b.data.toList, tailS b)
    else none
theorem partsOf_long {s : ByteArray} (h : 14 < s.size) : partsOf s = none := by unfold partsOf; rw [if_pos h]
theorem partsOf_base {s : ByteArray} (h : ¬ 14 < s.size) (hb : 0 ≤ baseI s.data.toList) : partsOf s = some (s, (baseI s.data.toList).toNat, 0, ⟨#[]⟩) := by unfold partsOf; rw [if_neg h, if_pos hb]
theorem partsOf_bare {s : ByteArray} (h : ¬ 14 < s.size) (hb : ¬ 0 ≤ baseI s.data.toList) (hi : Lib.indexByte s.data.toList 47 < 0) : partsOf s = none := by unfold partsOf; rw [if_neg h, if_neg hb, if_pos hi]
theorem partsOf_cut {s : ByteArray} {i : Nat} (h : ¬ 14 < s.size) (hb : ¬ 0 ≤ baseI s.data.toList) (hi : Lib.indexByte s.data.toList 47 = (i : Int)) :
    partsOf s = if 0 ≤ baseI (s.extract (i + 1) s.size).data.toList ∧ beginB (s.extract 0 i).data.toList = true then some (s.extract (i + 1) s.size, (baseI (s.extract (i + 1) s.size).data.toList).toNat, 1, s.extract 0 i)
    else if 0 ≤ baseI (s.extract 0 i).data.toList ∧ tailK (s.extract (i + 1) s.size).data.toList ≠ 0 then some (s.extract 0 i, (baseI (s.extract 0 i).data.toList).toNat, tailK (s.extract (i + 1) s.size).data.toList, tailS (s.extract (i + 1) s.size))
    else none := by
  unfold partsOf
  rw [if_neg h, if_neg hb, if_neg (by omega)]
  simp only [hi, Int.toNat_natCast]

/-- What Parts hands back. -/
def PartsPost (s : ByteArray) (w : World) (e : Ending) (w' : World) : Prop :=
  w.grownBy w' none ∧ ((partsOf s = none ∧ e = .returned (.tuple #[.agg #[.string ⟨#[]⟩, .string ⟨#[]⟩, .string ⟨#[]⟩, .int .i64 0, .string ⟨#[]⟩], .bool false])) ∨
  ∃ t k kd ad, partsOf s = some (t, k, kd, ad) ∧ e = .returned (.tuple #[.agg #[.string t, .string (t.extract 0 (k + 1)), .string (t.extract (k + 1) t.size), .int .i64 kd, .string ad], .bool true]))
theorem parts_no {s : ByteArray} {w w' : World} (h : partsOf s = none) (hg : w.grownBy w' none) : PartsPost s w (.returned (.tuple #[.agg #[.string ⟨#[]⟩, .string ⟨#[]⟩, .string ⟨#[]⟩, .int .i64 0, .string ⟨#[]⟩], .bool false])) w' :=
  ⟨hg, .inl ⟨h, rfl⟩⟩
theorem parts_yes {s : ByteArray} {w w' : World} {t : ByteArray} {k : Nat} {kd : Int} {ad : ByteArray} (h : partsOf s = some (t, k, kd, ad)) (hg : w.grownBy w' none) :
    PartsPost s w (.returned (.tuple #[.agg #[.string t, .string (t.extract 0 (k + 1)), .string (t.extract (k + 1) t.size), .int .i64 kd, .string ad], .bool true])) w' :=
  ⟨hg, .inr ⟨t, k, kd, ad, h, rfl⟩⟩

set_option maxRecDepth 100000 in
set_option maxHeartbeats 2000000 in
theorem parts_long (s : ByteArray) (w : World) (hs : s.size < 4294967281) (h : 14 < s.size) :
    Calls Tryz.prog 59 #[.string s] w (PartsPost s w) := by
  have h14 : (14 : Int) < (s.size : Int) := by omega
  have HP := Lib.hid (partsOf_long h)
  go_enter Tryz.func59, Tryz.ntmps59
  go_wp2_with fail
  refine bodyPost_ret (v := .tuple #[.agg #[.string ⟨#[]⟩, .string ⟨#[]⟩, .string ⟨#[]⟩, .int .i64 0, .string ⟨#[]⟩], .bool false]) (by simp [results, Tryz.results59, go_sem]) rfl ?_
  exact parts_no HP.out (by repeat (first | exact gr_refl _ _ | refine gr_alloc ?_ _))

theorem Blk.put5 {w : World} {g : Nat} {t : TypeId} {a0 a1 a2 a3 a4 : Value} (h : Blk w g t #[a0, a1, a2, a3, a4]) (b0 b1 b2 b3 b4 : Value) :
    Blk (((((w.setCell ⟨g, 0, none⟩ b0).setCell ⟨g, 1, none⟩ b1).setCell ⟨g, 2, none⟩ b2).setCell ⟨g, 3, none⟩ b3).setCell ⟨g, 4, none⟩ b4) g t #[b0, b1, b2, b3, b4] := by
  have := ((((h.put 0 b0).put 1 b1).put 2 b2).put 3 b3).put 4 b4
  simpa using this
theorem Blk.put34 {w : World} {g : Nat} {t : TypeId} {a0 a1 a2 a3 a4 : Value} (h : Blk w g t #[a0, a1, a2, a3, a4]) (b3 b4 : Value) :
    Blk ((w.setCell ⟨g, 3, none⟩ b3).setCell ⟨g, 4, none⟩ b4) g t #[a0, a1, a2, b3, b4] := by
  have := (h.put 3 b3).put 4 b4
  simpa using this
theorem Blk.cells5 {w : World} {g : Nat} {t : TypeId} {a0 a1 a2 a3 a4 : Value} (h : Blk w g t #[a0, a1, a2, a3, a4]) :
    w.cell? ⟨g, 0, none⟩ = some a0 ∧ w.cell? ⟨g, 1, none⟩ = some a1 ∧ w.cell? ⟨g, 2, none⟩ = some a2 ∧ w.cell? ⟨g, 3, none⟩ = some a3 ∧ w.cell? ⟨g, 4, none⟩ = some a4 :=
  ⟨h.cell 0, h.cell 1, h.cell 2, h.cell 3, h.cell 4⟩
theorem gr_put5 {a w : World} {g : Nat} (h : a.grownBy w none) (hg : a.heap.size ≤ g) (b0 b1 b2 b3 b4 : Value) :
    a.grownBy (((((w.setCell ⟨g, 0, none⟩ b0).setCell ⟨g, 1, none⟩ b1).setCell ⟨g, 2, none⟩ b2).setCell ⟨g, 3, none⟩ b3).setCell ⟨g, 4, none⟩ b4) none :=
  gr_put (gr_put (gr_put (gr_put (gr_put h (.inr hg) _) (.inr hg) _) (.inr hg) _) (.inr hg) _) (.inr hg) _

/-- What based hands back, whichever it is. -/
def BasedPost (s : ByteArray) (b : Bool) (w : World) (e : Ending) (w' : World) : Prop :=
  ∃ t0 t1 t2 : ByteArray, e = .returned (.tuple #[.agg #[.string t0, .string t1, .string t2, .int .i64 0, .string ⟨#[]⟩], .bool b]) ∧ w.grownBy w' none ∧
    (b = true → t0 = s ∧ t1 = s.extract 0 ((baseI s.data.toList).toNat + 1) ∧ t2 = s.extract ((baseI s.data.toList).toNat + 1) s.size)
theorem based_any (s : ByteArray) (b : Bool) (w : World) (hs : s.size < 4294967281) (ha : Ascii s) (hb : decide (0 ≤ baseI s.data.toList) = b) :
    Calls Tryz.prog 88 #[.string s] w (BasedPost s b w) := by
  by_cases h : 0 ≤ baseI s.data.toList
  · obtain rfl : b = true := by rw [← hb]; simpa using h
    obtain ⟨k, hk⟩ := Int.eq_ofNat_of_zero_le h
    exact (based_yes s k w hs ha hk).mono fun e w' ⟨he, hg⟩ => ⟨_, _, _, he, hg, fun _ => by rw [hk]; exact ⟨rfl, rfl, rfl⟩⟩
  · obtain rfl : b = false := by rw [← hb]; simpa using h
    have h1 := baseI_cases s.data.toList
    exact (based_no s w hs ha (by omega)).mono fun e w' ⟨he, hg⟩ => ⟨_, _, _, he, hg, fun h => by cases h⟩

set_option maxRecDepth 100000 in
set_option maxHeartbeats 2000000 in
theorem parts_base (s : ByteArray) (w : World) (hs : s.size < 4294967281) (ha : Ascii s) (h : ¬ 14 < s.size) (hb : 0 ≤ baseI s.data.toList) :
    Calls Tryz.prog 59 #[.string s] w (PartsPost s w) := by
  have h14 : ¬ (14 : Int) < (s.size : Int) := by omega
  have HP := Lib.hid (partsOf_base h hb)
  obtain ⟨k, hk⟩ := Int.eq_ofNat_of_zero_le hb
  rw [hk, Int.toNat_natCast] at HP
  have HK := Lib.hid hk
  clear hk hb
  go_enter Tryz.func59, Tryz.ntmps59
  go_wp2_with fail
  refine (based_yes s k _ hs ha HK.out).mono ?_
  rintro _ w1 ⟨rfl, hg⟩
  have hB := (Blk.new w 69 #[.string ⟨#[]⟩, .string ⟨#[]⟩, .string ⟨#[]⟩, .int .i64 0, .string ⟨#[]⟩]).grown hg (by simp)
  obtain ⟨c0, c1, c2, c3, c4⟩ := hB.cells5
  have hf := hB.free
  have hlt := hB.lt
  go_wp2_with fail
  obtain ⟨d0, d1, d2, d3, d4⟩ := ((hB.put5 (.string s) (.string (s.extract 0 (k + 1))) (.string (s.extract (k + 1) s.size)) (.int .i64 0) (.string ⟨#[]⟩)).alloc (.cells #[.string s, .string (s.extract 0 (k + 1)), .string (s.extract (k + 1) s.size), .int .i64 0, .string ⟨#[]⟩] 69)).cells5
  refine bodyPost_ret (v := .tuple #[.agg #[.string s, .string (s.extract 0 (k + 1)), .string (s.extract (k + 1) s.size), .int .i64 0, .string ⟨#[]⟩], .bool true]) (by simp [results, Tryz.results59, go_sem, d0, d1, d2, d3, d4]) rfl ?_
  exact parts_yes HP.out (gr_alloc (gr_put5 (gr_trans (World.grownBy_alloc w _ none) hg) (Nat.le_refl _) _ _ _ _ _) _)

theorem baseI_neg {l : List UInt8} (h : ¬ 0 ≤ baseI l) : decide (0 ≤ baseI l) = false := by simpa using h

set_option maxRecDepth 100000 in
set_option maxHeartbeats 2000000 in
theorem parts_bare (s : ByteArray) (w : World) (hs : s.size < 4294967281) (ha : Ascii s) (h : ¬ 14 < s.size) (hb : ¬ 0 ≤ baseI s.data.toList) (hi : Lib.indexByte s.data.toList 47 = -1) :
    Calls Tryz.prog 59 #[.string s] w (PartsPost s w) := by
  have h14 : ¬ (14 : Int) < (s.size : Int) := by omega
  have HP := Lib.hid (partsOf_bare h hb (by omega))
  have HI := Lib.hid hi
  have HB := Lib.hid (baseI_neg hb)
  clear hi hb
  go_enter Tryz.func59, Tryz.ntmps59
  go_wp2_with fail
  refine (based_any s false _ hs ha HB.out).mono ?_
  rintro _ w1 ⟨t0, t1, t2, rfl, hg, -⟩
  have hB := (Blk.new w 69 #[.string ⟨#[]⟩, .string ⟨#[]⟩, .string ⟨#[]⟩, .int .i64 0, .string ⟨#[]⟩]).grown hg (by simp)
  have hG := gr_trans (World.grownBy_alloc w (.cells #[.string ⟨#[]⟩, .string ⟨#[]⟩, .string ⟨#[]⟩, .int .i64 0, .string ⟨#[]⟩] 69) none) hg
  clear hg
  go_wp2_with fail
  refine (cut_miss s 47 _ hs HI.out).mono ?_
  rintro _ w2 ⟨rfl, hg⟩
  replace hB := hB.grown (gr_trans (World.grownBy_alloc w1 _ none) hg) (by simp)
  replace hG := gr_trans hG (gr_trans (World.grownBy_alloc w1 _ none) hg)
  have c0 := hB.cell 0
  have c1 := hB.cell 1
  have c2 := hB.cell 2
  have c3 := hB.cell 3
  have c4 := hB.cell 4
  have hf := hB.free
  have hlt := hB.lt
  simp only [List.getElem?_toArray, List.getElem?_cons_zero, List.getElem?_cons_succ] at c0 c1 c2 c3 c4
  go_wp2_with fail
  refine bodyPost_ret (v := .tuple #[.agg #[.string ⟨#[]⟩, .string ⟨#[]⟩, .string ⟨#[]⟩, .int .i64 0, .string ⟨#[]⟩], .bool false]) (by simp [results, Tryz.results59, go_sem, c0, c1, c2, c3, c4]) rfl ?_
  exact parts_no HP.out (gr_put (gr_put (gr_put (gr_put (gr_put hG (.inr (Nat.le_refl _)) _) (.inr (Nat.le_refl _)) _) (.inr (Nat.le_refl _)) _) (.inr (Nat.le_refl _)) _) (.inr (Nat.le_refl _)) _)

set_option maxRecDepth 100000 in
set_option maxHeartbeats 4000000 in
/-- What is ahead of the slash is a begin, and what is behind it a base call. -/
theorem parts_begin (s a b : ByteArray) (i : Nat) (w : World) (hs : s.size < 4294967281) (ha : Ascii s) (h : ¬ 14 < s.size) (hb : ¬ 0 ≤ baseI s.data.toList) (hi : Lib.indexByte s.data.toList 47 = (i : Int))
    (hea : s.extract 0 i = a) (heb : s.extract (i + 1) s.size = b) (h1 : 0 ≤ baseI b.data.toList) (h2 : beginB a.data.toList = true) :
    Calls Tryz.prog 59 #[.string s] w (PartsPost s w) := by
  have h14 : ¬ (14 : Int) < (s.size : Int) := by omega
  have hii := index_bd s 47 i hi
  have has : a.size < 4294967281 := by rw [← hea]; simp; omega
  have hbs : b.size < 4294967281 := by rw [← heb]; simp; omega
  have haa : Ascii a := by rw [← hea]; exact ha.take _
  have hba : Ascii b := by rw [← heb]; exact ha.drop _
  have HP : Hid (partsOf s = some (b, (baseI b.data.toList).toNat, 1, a)) := by
    show _ = _
    rw [partsOf_cut h hb hi, hea, heb, if_pos ⟨h1, h2⟩]
  have HC : Hid (∀ W : World, Calls Tryz.prog 89 #[.string s, .string ⟨#[47]⟩] W fun e w' => e = .returned (.tuple #[.string a, .string b, .bool true]) ∧ W.grownBy w' none) := fun W => by
    have := cut_hit s 47 i W hs hi
    rw [hea, heb] at this
    exact this
  have HB := Lib.hid (baseI_neg hb)
  have H1 : Hid (decide (0 ≤ baseI b.data.toList) = true) := by show _ = _; simpa using h1
  have H2 := Lib.hid h2
  clear hi hb hea heb h1 h2
  go_enter Tryz.func59, Tryz.ntmps59
  go_wp2_with fail
  refine (based_any s false _ hs ha HB.out).mono ?_
  rintro _ w1 ⟨t0, t1, t2, rfl, hg, -⟩
  have hB := (Blk.new w 69 #[.string ⟨#[]⟩, .string ⟨#[]⟩, .string ⟨#[]⟩, .int .i64 0, .string ⟨#[]⟩]).grown hg (by simp)
  have hG := gr_trans (World.grownBy_alloc w (.cells #[.string ⟨#[]⟩, .string ⟨#[]⟩, .string ⟨#[]⟩, .int .i64 0, .string ⟨#[]⟩] 69) none) hg
  clear hg
  go_wp2_with fail
  refine (HC.out _).mono ?_
  rintro _ w2 ⟨rfl, hg⟩
  replace hB := hB.grown (gr_trans (World.grownBy_alloc w1 _ none) hg) (by simp)
  replace hG := gr_trans hG (gr_trans (World.grownBy_alloc w1 _ none) hg)
  clear hg
  go_wp2_with fail
  refine (based_any b true _ hbs hba H1.out).mono ?_
  rintro _ w3 ⟨u0, u1, u2, rfl, hg, hu⟩
  obtain ⟨e0, e1, e2⟩ := hu rfl
  have E0 := Lib.hid e0
  have E1 := Lib.hid e1
  have E2 := Lib.hid e2
  clear e0 e1 e2 hu
  replace hB := hB.grown hg (by simp)
  replace hG := gr_trans hG hg
  clear hg
  have hf := hB.free
  have hlt := hB.lt
  obtain ⟨c0, c1, c2, c3, c4⟩ := hB.cells5
  go_wp2_with fail
  refine (isBegin_any a _ (by omega)).mono ?_
  rintro _ _ ⟨rfl, rfl⟩
  rw [H2.out]
  go_wp2_with fail
  obtain ⟨d0, d1, d2, d3, d4⟩ := ((hB.put5 (.string u0) (.string u1) (.string u2) (.int .i64 1) (.string a)).alloc (.cells #[.string u0, .string u1, .string u2, .int .i64 1, .string a] 69)).cells5
  refine bodyPost_ret (v := .tuple #[.agg #[.string u0, .string u1, .string u2, .int .i64 1, .string a], .bool true]) (by simp [results, Tryz.results59, go_sem, d0, d1, d2, d3, d4]) rfl ?_
  rw [E1.out, E2.out]
  obtain rfl := E0.out
  exact parts_yes HP.out (gr_alloc (gr_put5 hG (Nat.le_refl _) _ _ _ _ _) _)

set_option maxRecDepth 100000 in
set_option maxHeartbeats 4000000 in
/-- What is ahead of the slash is no begin, or what is behind it no base call. -/
theorem parts_rest (s a b : ByteArray) (i : Nat) (β γ α τ : Bool) (w : World) (hs : s.size < 4294967281) (ha : Ascii s) (h : ¬ 14 < s.size) (hb : ¬ 0 ≤ baseI s.data.toList) (hi : Lib.indexByte s.data.toList 47 = (i : Int))
    (hea : s.extract 0 i = a) (heb : s.extract (i + 1) s.size = b) (h1 : decide (0 ≤ baseI b.data.toList) = β) (h2 : beginB a.data.toList = γ) (hn : (β && γ) = false)
    (h3 : decide (0 ≤ baseI a.data.toList) = α) (h4 : decide (tailK b.data.toList ≠ 0) = τ) :
    Calls Tryz.prog 59 #[.string s] w (PartsPost s w) := by
  have h14 : ¬ (14 : Int) < (s.size : Int) := by omega
  have hii := index_bd s 47 i hi
  have has : a.size < 4294967281 := by rw [← hea]; simp; omega
  have hbs : b.size < 4294967281 := by rw [← heb]; simp; omega
  have haa : Ascii a := by rw [← hea]; exact ha.take _
  have hba : Ascii b := by rw [← heb]; exact ha.drop _
  have HP : Hid (partsOf s = if (α && τ) = true then some (a, (baseI a.data.toList).toNat, tailK b.data.toList, tailS b) else none) := by
    show _ = _
    rw [partsOf_cut h hb hi, hea, heb, if_neg (by rw [← h1, ← h2] at hn; intro hh; simp [hh.1, hh.2] at hn)]
    by_cases hh : 0 ≤ baseI a.data.toList ∧ tailK b.data.toList ≠ 0
    · rw [if_pos hh, if_pos (by rw [← h3, ← h4]; simp [hh.1, hh.2])]
    · rw [if_neg hh, if_neg (by rw [← h3, ← h4]; simpa using hh)]
  have HC : Hid (∀ W : World, Calls Tryz.prog 89 #[.string s, .string ⟨#[47]⟩] W fun e w' => e = .returned (.tuple #[.string a, .string b, .bool true]) ∧ W.grownBy w' none) := fun W => by
    have := cut_hit s 47 i W hs hi
    rw [hea, heb] at this
    exact this
  have HT : Hid (τ = true → tailK b.data.toList ≠ 0) := fun e => by rw [e] at h4; simpa using h4
  have HB := Lib.hid (baseI_neg hb)
  have H1 := Lib.hid h1
  have H2 := Lib.hid h2
  have H3 := Lib.hid h3
  have H4 := Lib.hid h4
  clear hi hb hea heb h1 h2 h3 h4
  go_enter Tryz.func59, Tryz.ntmps59
  go_wp2_with fail
  refine (based_any s false _ hs ha HB.out).mono ?_
  rintro _ w1 ⟨t0, t1, t2, rfl, hg, -⟩
  have hB := (Blk.new w 69 #[.string ⟨#[]⟩, .string ⟨#[]⟩, .string ⟨#[]⟩, .int .i64 0, .string ⟨#[]⟩]).grown hg (by simp)
  have hG := gr_trans (World.grownBy_alloc w (.cells #[.string ⟨#[]⟩, .string ⟨#[]⟩, .string ⟨#[]⟩, .int .i64 0, .string ⟨#[]⟩] 69) none) hg
  clear hg
  go_wp2_with fail
  refine (HC.out _).mono ?_
  rintro _ w2 ⟨rfl, hg⟩
  replace hB := hB.grown (gr_trans (World.grownBy_alloc w1 _ none) hg) (by simp)
  replace hG := gr_trans hG (gr_trans (World.grownBy_alloc w1 _ none) hg)
  clear hg
  go_wp2_with fail
  refine (based_any b β _ hbs hba H1.out).mono ?_
  rintro _ w3 ⟨v0, v1, v2, rfl, hg, -⟩
  replace hB := hB.grown hg (by simp)
  replace hG := gr_trans hG hg
  clear hg
  cases β <;> cases γ <;> try (exfalso; revert hn; decide)
  all_goals
    clear hn
    go_wp2_with (go_at_call 90; refine (isBegin_any a _ (by omega)).mono ?_; rintro _ _ ⟨rfl, rfl⟩; rw [H2.out])
    refine (based_any a α _ has haa H3.out).mono ?_
    rintro _ w4 ⟨u0, u1, u2, rfl, hg, hu⟩
    have HU := Lib.hid hu
    clear hu
    replace hB := hB.grown (gr_trans (World.grownBy_alloc w3 _ none) hg) (by simp)
    replace hG := gr_trans hG (gr_trans (World.grownBy_alloc w3 _ none) hg)
    clear hg
    go_wp2_with fail
    refine (tail_any b _ hbs).mono ?_
    rintro _ w5 ⟨kd, ad, rfl, hk, hw5⟩
    rw [H4.out]
    have HKK := Lib.hid hk
    have hg5 : w.grownBy w5 none := by rw [← hw5]; exact gr_alloc hG _
    have hB5 : Blk w5 w.heap.size 69 #[.string ⟨#[]⟩, .string ⟨#[]⟩, .string ⟨#[]⟩, .int .i64 0, .string ⟨#[]⟩] := by rw [← hw5]; exact hB.alloc _
    have hX5 : Blk w5 w4.heap.size 69 #[.string u0, .string u1, .string u2, .int .i64 0, .string ⟨#[]⟩] := by rw [← hw5]; exact Blk.new _ _ _
    have hlt4 := hB.lt
    clear hk hw5 hB hG
    obtain ⟨c0, c1, c2, c3, c4⟩ := hB5.cells5
    obtain ⟨x0, x1, x2, x3, x4⟩ := hX5.cells5
    have hf := hB5.free
    have hxf := hX5.free
    cases α <;> cases τ
    case true.true =>
      obtain ⟨e0, e1, e2⟩ := HU.out rfl
      obtain ⟨k1, k2⟩ := HKK.out (HT.out rfl)
      have HS : Hid (partsOf s = some (a, (baseI a.data.toList).toNat, tailK b.data.toList, tailS b)) := by show _ = _; rw [HP.out]; rfl
      have E0 := Lib.hid e0
      have E1 := Lib.hid e1
      have E2 := Lib.hid e2
      have K1 := Lib.hid k1
      have K2 := Lib.hid k2
      clear e0 e1 e2 k1 k2
      go_wp2_with fail
      have hBn : Blk ((w5.setCell ⟨w4.heap.size, 3, none⟩ (.int .i64 kd)).setCell ⟨w4.heap.size, 4, none⟩ (.string ad)) w.heap.size 69 #[.string ⟨#[]⟩, .string ⟨#[]⟩, .string ⟨#[]⟩, .int .i64 0, .string ⟨#[]⟩] :=
        (hB5.far (by simp; omega) _).far (by simp; omega) _
      obtain ⟨d0, d1, d2, d3, d4⟩ := (hBn.put5 (.string u0) (.string u1) (.string u2) (.int .i64 kd) (.string ad)).cells5
      refine bodyPost_ret (v := .tuple #[.agg #[.string u0, .string u1, .string u2, .int .i64 kd, .string ad], .bool true]) (by simp [results, Tryz.results59, go_sem, d0, d1, d2, d3, d4]) rfl ?_
      rw [E1.out, E2.out, K1.out, K2.out]
      obtain rfl := E0.out
      exact parts_yes HS.out (gr_put5 (gr_put (gr_put hg5 (.inr (Nat.le_of_lt hlt4)) _) (.inr (Nat.le_of_lt hlt4)) _) (Nat.le_refl _) _ _ _ _ _)
    all_goals
      have HN : Hid (partsOf s = none) := by show _ = _; rw [HP.out]; rfl
      go_wp2_with fail
      obtain ⟨d0, d1, d2, d3, d4⟩ := (hB5.put5 (.string ⟨#[]⟩) (.string ⟨#[]⟩) (.string ⟨#[]⟩) (.int .i64 0) (.string ⟨#[]⟩)).cells5
      refine bodyPost_ret (v := .tuple #[.agg #[.string ⟨#[]⟩, .string ⟨#[]⟩, .string ⟨#[]⟩, .int .i64 0, .string ⟨#[]⟩], .bool false]) (by simp [results, Tryz.results59, go_sem, d0, d1, d2, d3, d4]) rfl ?_
      exact parts_no HN.out (gr_put5 hg5 (Nat.le_refl _) _ _ _ _ _)

/-- A call sign taken apart. -/
theorem parts_any (s : ByteArray) (w : World) (hs : s.size < 4294967281) (ha : Ascii s) :
    Calls Tryz.prog 59 #[.string s] w (PartsPost s w) := by
  by_cases h : 14 < s.size
  · exact parts_long s w hs h
  · by_cases hb : 0 ≤ baseI s.data.toList
    · exact parts_base s w hs ha h hb
    · by_cases hi : Lib.indexByte s.data.toList 47 < 0
      · have := Lib.indexByte_ge s.data.toList 47
        exact parts_bare s w hs ha h hb (by omega)
      · obtain ⟨i, hi'⟩ := Int.eq_ofNat_of_zero_le (show 0 ≤ Lib.indexByte s.data.toList 47 by omega)
        rcases h1 : decide (0 ≤ baseI (s.extract (i + 1) s.size).data.toList)
        · exact parts_rest s _ _ i false _ _ _ w hs ha h hb hi' rfl rfl h1 rfl (by simp) rfl rfl
        · rcases h2 : beginB (s.extract 0 i).data.toList
          · exact parts_rest s _ _ i true false _ _ w hs ha h hb hi' rfl rfl h1 h2 rfl rfl rfl
          · exact parts_begin s _ _ i w hs ha h hb hi' rfl rfl (by simpa using h1) h2

/-- What Apart hands back. -/
def ApartPost (s : ByteArray) (w : World) (e : Ending) (w' : World) : Prop :=
  w.grownBy w' none ∧ ((partsOf s = none ∧ e = .returned (.tuple #[.agg #[.string ⟨#[]⟩, .string ⟨#[]⟩, .string ⟨#[]⟩, .int .i64 0, .string ⟨#[]⟩], .int .i64 3])) ∨
  ∃ t k kd ad, partsOf s = some (t, k, kd, ad) ∧ e = .returned (.tuple #[.agg #[.string t, .string (t.extract 0 (k + 1)), .string (t.extract (k + 1) t.size), .int .i64 kd, .string ad], .int .i64 0]))

set_option maxRecDepth 100000 in
set_option maxHeartbeats 2000000 in
theorem apart_any (s : ByteArray) (w : World) (hs : s.size < 4294967281) (ha : Ascii s) :
    Calls Tryz.prog 32 #[.string s] w (ApartPost s w) := by
  go_enter Tryz.func32, Tryz.ntmps32
  go_wp2_with fail
  refine (parts_any s _ hs ha).mono ?_
  rintro _ w1 ⟨hg, hpost⟩
  have hB := (Blk.new w 69 #[.string ⟨#[]⟩, .string ⟨#[]⟩, .string ⟨#[]⟩, .int .i64 0, .string ⟨#[]⟩]).grown hg (by simp)
  have hG := gr_trans (World.grownBy_alloc w (.cells #[.string ⟨#[]⟩, .string ⟨#[]⟩, .string ⟨#[]⟩, .int .i64 0, .string ⟨#[]⟩] 69) none) hg
  clear hg
  obtain ⟨c0, c1, c2, c3, c4⟩ := hB.cells5
  have hf := hB.free
  have hlt := hB.lt
  rcases hpost with ⟨hn, rfl⟩ | ⟨t, k, kd, ad, hn, rfl⟩
  · have HN := Lib.hid hn
    clear hn
    go_wp2_with fail
    obtain ⟨d0, d1, d2, d3, d4⟩ := ((hB.put5 (.string ⟨#[]⟩) (.string ⟨#[]⟩) (.string ⟨#[]⟩) (.int .i64 0) (.string ⟨#[]⟩)).alloc (.cells #[.string ⟨#[]⟩, .string ⟨#[]⟩, .string ⟨#[]⟩, .int .i64 0, .string ⟨#[]⟩] 69)).cells5
    refine bodyPost_ret (v := .tuple #[.agg #[.string ⟨#[]⟩, .string ⟨#[]⟩, .string ⟨#[]⟩, .int .i64 0, .string ⟨#[]⟩], .int .i64 3]) (by simp [results, Tryz.results32, go_sem, d0, d1, d2, d3, d4]) rfl ?_
    exact ⟨gr_alloc (gr_put5 hG (Nat.le_refl _) _ _ _ _ _) _, .inl ⟨HN.out, rfl⟩⟩
  · have HN := Lib.hid hn
    clear hn
    go_wp2_with fail
    obtain ⟨d0, d1, d2, d3, d4⟩ := ((hB.put5 (.string t) (.string (t.extract 0 (k + 1))) (.string (t.extract (k + 1) t.size)) (.int .i64 kd) (.string ad)).alloc (.cells #[.string t, .string (t.extract 0 (k + 1)), .string (t.extract (k + 1) t.size), .int .i64 kd, .string ad] 69)).cells5
    refine bodyPost_ret (v := .tuple #[.agg #[.string t, .string (t.extract 0 (k + 1)), .string (t.extract (k + 1) t.size), .int .i64 kd, .string ad], .int .i64 0]) (by simp [results, Tryz.results32, go_sem, d0, d1, d2, d3, d4]) rfl ?_
    exact ⟨gr_alloc (gr_put5 hG (Nat.le_refl _) _ _ _ _ _) _, .inr ⟨t, k, kd, ad, HN.out, rfl⟩⟩

/-- The call sign that 'ready' takes apart. -/
theorem partsOf_ready : partsOf ⟨#[111, 104, 50, 97, 98, 99, 47, 52]⟩ = some (⟨#[111, 104, 50, 97, 98, 99]⟩, 2, 2, ⟨#[52]⟩) := by decide +kernel
end Go.Proofs.YtjhklpffmfdkbaaGreatDoor
