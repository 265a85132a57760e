/- Plain words for the bytes of a call sign: letters, digits, where the last digit is, a base call, a begin, what stands behind a slash. No program in sight. The walks over the bytes of a call sign: isDigit, isLetter, isPlain, isBegin. Condition: strings fit into memory. strings.LastIndexAny at bytes of ASCII: where the last byte is that is one of some. Condition: both strings are ASCII; the second one has two bytes or more. The walks over split, based, tail, Parts, Apart: a call sign taken apart. Condition: the string is ASCII and shorter than 2^32 bytes. The walks over Parts and Apart: a call sign taken apart at its slash. Condition: the string is ASCII and shorter than 2^32 bytes. -/
import Derived.Test.YtbaocnbppefciaaGreatBase
import Derived.Test.YtbaocnbppefciaaGreatShelf
import Derived.Lib.AsciiSet
import Derived.Lib.IndexAny
import Derived.Lib.IndexLaws
namespace Go.Proofs.YtbaocnbppefciaaGreat
set_option linter.unusedVariables false

def dgB (c : UInt8) : Bool := decide (48 ≤ c.toNat) && decide (c.toNat ≤ 57)
def ltB (c : UInt8) : Bool := decide (97 ≤ c.toNat) && decide (c.toNat ≤ 122)
def plB (c : UInt8) : Bool := ltB c || dgB c
def plainL (l : List UInt8) : Bool := l.all plB
def lettN (l : List UInt8) : Nat := l.countP ltB

theorem plainL_snoc (l : List UInt8) (c : UInt8) : plainL (l ++ [c]) = (plainL l && plB c) := by simp [plainL]
theorem lettN_snoc (l : List UInt8) (c : UInt8) : lettN (l ++ [c]) = lettN l + if ltB c then 1 else 0 := by
  unfold lettN; rw [List.countP_append]; cases h : ltB c <;> simp [h]
theorem lettN_le (l : List UInt8) : lettN l ≤ l.length := List.countP_le_length

/-- Where the last byte is that is so; -1: none is. -/
def lastP (p : UInt8 → Bool) : List UInt8 → Int
  | [] => -1
  | c :: r => if 0 ≤ lastP p r then lastP p r + 1 else if p c then 0 else -1
theorem lastP_bd (p : UInt8 → Bool) (l : List UInt8) : -1 ≤ lastP p l ∧ lastP p l < l.length := by
  induction l with
  | nil => simp [lastP]
  | cons c r ih =>
    simp only [lastP, List.length_cons]
    split
    · omega
    · split <;> omega
theorem lastP_none (p : UInt8 → Bool) (l : List UInt8) (h : ∀ j (hj : j < l.length), p l[j] = false) : lastP p l = -1 := by
  induction l with
  | nil => rfl
  | cons c r ih =>
    have h0 := h 0 (by simp)
    have ih' := ih (fun j hj => by have := h (j + 1) (by simp; omega); simpa using this)
    simp only [List.getElem_cons_zero] at h0
    simp [lastP, ih', h0]
theorem lastP_at (p : UInt8 → Bool) (l : List UInt8) (k : Nat) (hk : k < l.length) (h0 : p l[k] = true) (h : ∀ j (hj : j < l.length), k < j → p l[j] = false) : lastP p l = k := by
  induction l generalizing k with
  | nil => simp at hk
  | cons c r ih =>
    cases k with
    | zero =>
      have hr : lastP p r = -1 := lastP_none p r (fun j hj => by have := h (j + 1) (by simp; omega) (by omega); simpa using this)
      simp only [List.getElem_cons_zero] at h0
      simp [lastP, hr, h0]
    | succ k =>
      have hr := ih k (by simpa using hk) (by simpa using h0) (fun j hj hkj => by have := h (j + 1) (by simp; omega) (by omega); simpa using this)
      simp only [lastP, hr]
      rw [if_pos (by omega)]
      omega
theorem lastP_is (p : UInt8 → Bool) (l : List UInt8) (h : 0 ≤ lastP p l) : ∃ k, ∃ hk : k < l.length, lastP p l = (k : Int) ∧ p l[k] = true := by
  induction l with
  | nil => simp [lastP] at h
  | cons c r ih =>
    simp only [lastP] at h ⊢
    split
    · rename_i h1
      obtain ⟨k, hk, he, hp⟩ := ih h1
      exact ⟨k + 1, by simpa using hk, by omega, by simpa using hp⟩
    · rename_i h1
      rw [if_neg h1] at h
      split
      · rename_i h2; exact ⟨0, by simp, rfl, by simpa using h2⟩
      · rename_i h2; rw [if_neg h2] at h; omega

/-- Where the last digit of a base call is; -1: it is none. -/
def baseI (l : List UInt8) : Int :=
  let d := lastP dgB l
  if plainL l = true ∧ l.length ≤ 10 ∧ 1 ≤ d ∧ d ≤ 3 ∧ 1 ≤ (l.length : Int) - d - 1 ∧ (l.length : Int) - d - 1 ≤ 4 ∧ 0 < lettN (l.take d.toNat) then d else -1
def beginB (l : List UInt8) : Bool := plainL l && decide (0 < lettN l) && decide (l.length ≤ 4)

theorem baseI_cases (l : List UInt8) : baseI l = -1 ∨ (baseI l = lastP dgB l ∧ plainL l = true ∧ l.length ≤ 10 ∧ 1 ≤ baseI l ∧ baseI l ≤ 3 ∧ 1 ≤ (l.length : Int) - baseI l - 1 ∧ (l.length : Int) - baseI l - 1 ≤ 4 ∧ 0 < lettN (l.take (baseI l).toNat)) := by
  by_cases h : plainL l = true ∧ l.length ≤ 10 ∧ 1 ≤ lastP dgB l ∧ lastP dgB l ≤ 3 ∧ 1 ≤ (l.length : Int) - lastP dgB l - 1 ∧ (l.length : Int) - lastP dgB l - 1 ≤ 4 ∧ 0 < lettN (l.take (lastP dgB l).toNat)
  · have e : baseI l = lastP dgB l := by unfold baseI; exact if_pos h
    rw [e]
    exact .inr ⟨rfl, h⟩
  · exact .inl (by unfold baseI; exact if_neg h)
theorem baseI_no (l : List UInt8) (h : ¬ (plainL l = true ∧ l.length ≤ 10 ∧ 1 ≤ lastP dgB l ∧ lastP dgB l ≤ 3 ∧ 1 ≤ (l.length : Int) - lastP dgB l - 1 ∧ (l.length : Int) - lastP dgB l - 1 ≤ 4 ∧ 0 < lettN (l.take (lastP dgB l).toNat))) : baseI l = -1 := by
  unfold baseI; exact if_neg h
theorem baseI_yes (l : List UInt8) (h : plainL l = true ∧ l.length ≤ 10 ∧ 1 ≤ lastP dgB l ∧ lastP dgB l ≤ 3 ∧ 1 ≤ (l.length : Int) - lastP dgB l - 1 ∧ (l.length : Int) - lastP dgB l - 1 ≤ 4 ∧ 0 < lettN (l.take (lastP dgB l).toNat)) : baseI l = lastP dgB l := by
  unfold baseI; exact if_pos h

/-- What something behind a base call is (0: nothing that can be), and whether it is told. -/
def tailK (l : List UInt8) : Int :=
  if l = [112] then 3 else if l = [109] then 4 else if l = [109, 109] then 5 else if l = [97, 109] then 6
  else if l.length = 1 ∧ l.all dgB = true then 2 else if beginB l then 1 else 0
end Go.Proofs.YtbaocnbppefciaaGreat

namespace Go.Proofs.YtbaocnbppefciaaGreat
open Go.RowKit
set_option linter.unusedVariables false

theorem dgB_of (c : UInt8) (b : Bool) (h : (48 ≤ c.toNat ∧ c.toNat ≤ 57) ↔ b = true) : dgB c = b := by
  unfold dgB
  cases b
  · by_cases h1 : 48 ≤ c.toNat <;> by_cases h2 : c.toNat ≤ 57 <;> simp_all
  · obtain ⟨h1, h2⟩ := h.2 rfl
    simp [h1, h2]
theorem ltB_of (c : UInt8) (b : Bool) (h : (97 ≤ c.toNat ∧ c.toNat ≤ 122) ↔ b = true) : ltB c = b := by
  unfold ltB
  cases b
  · by_cases h1 : 97 ≤ c.toNat <;> by_cases h2 : c.toNat ≤ 122 <;> simp_all
  · obtain ⟨h1, h2⟩ := h.2 rfl
    simp [h1, h2]

theorem take_snoc (s : ByteArray) (k : Nat) (h : k < s.size) : s.data.toList.take (k + 1) = s.data.toList.take k ++ [s[k]] := by
  rw [List.take_succ_eq_append_getElem (by simpa using h)]; rfl
theorem plainL_fail (s : ByteArray) (k : Nat) (h : k < s.size) (hb : plB s[k] = false) : plainL s.data.toList = false := by
  unfold plainL
  rw [List.all_eq_false]
  exact ⟨s[k], by show s.data[k] ∈ _; simp, by simp [hb]⟩
/-- How many letters, if all are letters and digits. -/
def plN (l : List UInt8) : Int := if plainL l then (lettN l : Int) else 0
theorem ret_ib {a b : Int} {c d : Bool} (h : a = b) (h' : c = d) : Ending.returned (.tuple #[.int .i64 a, .bool c]) = .returned (.tuple #[.int .i64 b, .bool d]) := by rw [h, h']

end Go.Proofs.YtbaocnbppefciaaGreat

namespace Go.Proofs.YtbaocnbppefciaaGreat
open Go.RowKit
set_option linter.unusedVariables false

theorem same_back {P : Program} {f : FuncId} {args : Array Value} {w : World} {v : Ending} (h : Calls P f args w fun e w' => e = v ∧ w' = w) : Calls P f args w fun e w' => e = v ∧ w = w' :=
  h.mono fun _ _ ⟨he, hm⟩ => ⟨he, hm.symm⟩
def Ascii (s : ByteArray) : Prop := ∀ (j : Nat) b, s.data.toList[j]? = some b → b.toNat < 128
theorem Ascii.at_ {s : ByteArray} (h : Ascii s) (k : Nat) (hk : k < s.size) : (s[k].toNat : Int) < 128 := by
  have := h k s[k] (by rw [List.getElem?_eq_getElem (by simpa using hk)]; rfl)
  omega

theorem lastP_snocN (p : UInt8 → Bool) (s : ByteArray) (z : Int) (h : -1 ≤ z) (H : ∀ j (hj : j < s.size), z < (j : Int) → p s[j] = false) (hz : z < 0) : lastP p s.data.toList = -1 :=
  lastP_none p _ (fun j hj => H j (by simpa using hj) (by omega))
theorem lastP_atS (p : UInt8 → Bool) (s : ByteArray) (k : Nat) (hk : k < s.size) (h0 : p s[k] = true) (H : ∀ j (hj : j < s.size), (k : Int) < (j : Int) → p s[j] = false) : lastP p s.data.toList = (k : Int) :=
  lastP_at p _ k (by simpa using hk) h0 (fun j hj hkj => H j (by simpa using hj) (by omega))

/-- The ten digits. -/
def digS : ByteArray := ⟨#[48, 49, 50, 51, 52, 53, 54, 55, 56, 57]⟩
theorem digS_has (c : UInt8) : digS.data.toList.contains c = dgB c := by
  revert c
  have h : ∀ n : Fin 256, digS.data.toList.contains (UInt8.ofNat n.val) = dgB (UInt8.ofNat n.val) := by decide +kernel
  intro c
  have := h ⟨c.toNat, c.toNat_lt⟩
  simpa using this
theorem lastP_congr {p q : UInt8 → Bool} (h : ∀ c, p c = q c) (l : List UInt8) : lastP p l = lastP q l := by
  have : p = q := funext h
  rw [this]
theorem digS_ascii : Ascii digS := by
  intro j b h
  have hm : b ∈ digS.data.toList := List.mem_of_getElem? h
  have hall : ∀ b ∈ digS.data.toList, b.toNat < 128 := by decide +kernel
  exact hall b hm
end Go.Proofs.YtbaocnbppefciaaGreat

namespace Go.Proofs.YtbaocnbppefciaaGreat
open Go.RowKit
set_option linter.unusedVariables false

theorem ext_take (s : ByteArray) (k : Nat) : (s.extract 0 k).data.toList = s.data.toList.take k := by simp [ByteArray.data_extract]
theorem ext_drop (s : ByteArray) (k : Nat) : (s.extract k s.size).data.toList = s.data.toList.drop k := by
  simp [ByteArray.data_extract]
  rw [List.take_of_length_le (by simp)]
theorem Ascii.take {s : ByteArray} (h : Ascii s) (k : Nat) : Ascii (s.extract 0 k) := by
  intro j b hb
  rw [ext_take] at hb
  rw [List.getElem?_take] at hb
  split at hb
  · exact h j b hb
  · cases hb
theorem Ascii.drop {s : ByteArray} (h : Ascii s) (k : Nat) : Ascii (s.extract k s.size) := by
  intro j b hb
  rw [ext_drop, List.getElem?_drop] at hb
  exact h _ b hb
theorem plainL_take {l : List UInt8} (h : plainL l = true) (k : Nat) : plainL (l.take k) = true := by
  unfold plainL at h ⊢
  rw [List.all_eq_true] at h ⊢
  exact fun x hx => h x (List.mem_of_mem_take hx)

def SplitPost (s : ByteArray) (w : World) (e : Ending) (w' : World) : Prop :=
  ∃ d : Int, e = .returned (.tuple #[.int .i64 d, .bool (decide (0 ≤ baseI s.data.toList))]) ∧ (0 ≤ baseI s.data.toList → d = baseI s.data.toList) ∧ w.grownBy w' none
theorem split_fail {s : ByteArray} {w w' : World} {d : Int} (hb : baseI s.data.toList = -1) (hg : w.grownBy w' none) : SplitPost s w (.returned (.tuple #[.int .i64 d, .bool false])) w' :=
  ⟨d, by rw [hb]; rfl, fun h => by omega, hg⟩

def tailS (s : ByteArray) : ByteArray := if tailK s.data.toList = 1 ∨ tailK s.data.toList = 2 then s else ⟨#[]⟩
def TailPost (s : ByteArray) (w : World) (e : Ending) (w' : World) : Prop :=
  ∃ (d : Int) (t : ByteArray), e = .returned (.tuple #[.int .i64 d, .string t, .bool (decide (tailK s.data.toList ≠ 0))]) ∧ (tailK s.data.toList ≠ 0 → d = tailK s.data.toList ∧ t = tailS s) ∧ w = w'
theorem tail_done {s : ByteArray} {w : World} {d : Int} {t : ByteArray} (h : tailK s.data.toList = d) (hd : d ≠ 0) (ht : t = tailS s) : TailPost s w (.returned (.tuple #[.int .i64 d, .string t, .bool true])) w :=
  ⟨d, t, by rw [h]; simp [hd], fun _ => ⟨h.symm, ht⟩, rfl⟩
theorem tailS_own {s : ByteArray} (h : tailK s.data.toList = 1 ∨ tailK s.data.toList = 2) : s = tailS s := by unfold tailS; rw [if_pos h]
theorem tailS_none {s : ByteArray} (h1 : tailK s.data.toList ≠ 1) (h2 : tailK s.data.toList ≠ 2) : (⟨#[]⟩ : ByteArray) = tailS s := by unfold tailS; rw [if_neg (by omega)]

theorem dec_neg1 : (decide ((0 : Int) ≤ -1)) = false := by decide

end Go.Proofs.YtbaocnbppefciaaGreat

namespace Go.Proofs.YtbaocnbppefciaaGreat
open Go.RowKit
set_option linter.unusedVariables false

theorem index_bd (s : ByteArray) (c : UInt8) (i : Nat) (h : Lib.indexByte s.data.toList c = (i : Int)) : i < s.size := by
  have := (Lib.indexByte_some h).1
  have h2 := (List.getElem?_eq_some_iff.1 this).1
  simpa using h2

/-- What a call sign is made of: its base call, where that has its last digit, what was added and how; none: it is none. -/
def partsOf (s : ByteArray) : Option (ByteArray × Nat × Int × ByteArray) :=
  if 14 < s.size then none
  else if 0 ≤ baseI s.data.toList then some (s, (baseI s.data.toList).toNat, 0, ⟨#[]⟩)
  else if Lib.indexByte s.data.toList 47 < 0 then none
  else
    let i := (Lib.indexByte s.data.toList 47).toNat
    let a := s.extract 0 i
    let b := s.extract (i + 1) s.size
    if 0 ≤ baseI b.data.toList ∧ beginB a.data.toList = true then some (b, (baseI b.data.toList).toNat, 1, a)
    else if 0 ≤ baseI a.data.toList ∧ tailK b.data.toList ≠ 0 then some (a, (baseI a.data.toList).toNat, tailK b.data.toList, tailS b)
    else none
theorem partsOf_long {s : ByteArray} (h : 14 < s.size) : partsOf s = none := by unfold partsOf; rw [if_pos h]
theorem partsOf_base {s : ByteArray} (h : ¬ 14 < s.size) (hb : 0 ≤ baseI s.data.toList) : partsOf s = some (s, (baseI s.data.toList).toNat, 0, ⟨#[]⟩) := by unfold partsOf; rw [if_neg h, if_pos hb]
theorem partsOf_bare {s : ByteArray} (h : ¬ 14 < s.size) (hb : ¬ 0 ≤ baseI s.data.toList) (hi : Lib.indexByte s.data.toList 47 < 0) : partsOf s = none := by unfold partsOf; rw [if_neg h, if_neg hb, if_pos hi]
theorem partsOf_cut {s : ByteArray} {i : Nat} (h : ¬ 14 < s.size) (hb : ¬ 0 ≤ baseI s.data.toList) (hi : Lib.indexByte s.data.toList 47 = (i : Int)) :
    partsOf s = if 0 ≤ baseI (s.extract (i + 1) s.size).data.toList ∧ beginB (s.extract 0 i).data.toList = true then some (s.extract (i + 1) s.size, (baseI (s.extract (i + 1) s.size).data.toList).toNat, 1, s.extract 0 i)
    else if 0 ≤ baseI (s.extract 0 i).data.toList ∧ tailK (s.extract (i + 1) s.size).data.toList ≠ 0 then some (s.extract 0 i, (baseI (s.extract 0 i).data.toList).toNat, tailK (s.extract (i + 1) s.size).data.toList, tailS (s.extract (i + 1) s.size))
    else none := by
  unfold partsOf
  rw [if_neg h, if_neg hb, if_neg (by omega)]
  simp only [hi, Int.toNat_natCast]

/-- What Parts hands back. -/
def PartsPost (s : ByteArray) (w : World) (e : Ending) (w' : World) : Prop :=
  w.grownBy w' none ∧ ((partsOf s = none ∧ e = .returned (.tuple #[.agg #[.string ⟨#[]⟩, .string ⟨#[]⟩, .string ⟨#[]⟩, .int .i64 0, .string ⟨#[]⟩], .bool false])) ∨
  ∃ t k kd ad, partsOf s = some (t, k, kd, ad) ∧ e = .returned (.tuple #[.agg #[.string t, .string (t.extract 0 (k + 1)), .string (t.extract (k + 1) t.size), .int .i64 kd, .string ad], .bool true]))
theorem parts_no {s : ByteArray} {w w' : World} (h : partsOf s = none) (hg : w.grownBy w' none) : PartsPost s w (.returned (.tuple #[.agg #[.string ⟨#[]⟩, .string ⟨#[]⟩, .string ⟨#[]⟩, .int .i64 0, .string ⟨#[]⟩], .bool false])) w' :=
  ⟨hg, .inl ⟨h, rfl⟩⟩
theorem parts_yes {s : ByteArray} {w w' : World} {t : ByteArray} {k : Nat} {kd : Int} {ad : ByteArray} (h : partsOf s = some (t, k, kd, ad)) (hg : w.grownBy w' none) :
    PartsPost s w (.returned (.tuple #[.agg #[.string t, .string (t.extract 0 (k + 1)), .string (t.extract (k + 1) t.size), .int .i64 kd, .string ad], .bool true])) w' :=
  ⟨hg, .inr ⟨t, k, kd, ad, h, rfl⟩⟩

theorem Blk.put5 {w : World} {g : Nat} {t : TypeId} {a0 a1 a2 a3 a4 : Value} (h : Blk w g t #[a0, a1, a2, a3, a4]) (b0 b1 b2 b3 b4 : Value) :
    Blk (((((w.setCell ⟨g, 0, none⟩ b0).setCell ⟨g, 1, none⟩ b1).setCell ⟨g, 2, none⟩ b2).setCell ⟨g, 3, none⟩ b3).setCell ⟨g, 4, none⟩ b4) g t #[b0, b1, b2, b3, b4] := by
  have := ((((h.put 0 b0).put 1 b1).put 2 b2).put 3 b3).put 4 b4
  simpa using this
theorem Blk.put34 {w : World} {g : Nat} {t : TypeId} {a0 a1 a2 a3 a4 : Value} (h : Blk w g t #[a0, a1, a2, a3, a4]) (b3 b4 : Value) :
    Blk ((w.setCell ⟨g, 3, none⟩ b3).setCell ⟨g, 4, none⟩ b4) g t #[a0, a1, a2, b3, b4] := by
  have := (h.put 3 b3).put 4 b4
  simpa using this
theorem Blk.cells5 {w : World} {g : Nat} {t : TypeId} {a0 a1 a2 a3 a4 : Value} (h : Blk w g t #[a0, a1, a2, a3, a4]) :
    w.cell? ⟨g, 0, none⟩ = some a0 ∧ w.cell? ⟨g, 1, none⟩ = some a1 ∧ w.cell? ⟨g, 2, none⟩ = some a2 ∧ w.cell? ⟨g, 3, none⟩ = some a3 ∧ w.cell? ⟨g, 4, none⟩ = some a4 :=
  ⟨h.cell 0, h.cell 1, h.cell 2, h.cell 3, h.cell 4⟩
theorem gr_put5 {a w : World} {g : Nat} (h : a.grownBy w none) (hg : a.heap.size ≤ g) (b0 b1 b2 b3 b4 : Value) :
    a.grownBy (((((w.setCell ⟨g, 0, none⟩ b0).setCell ⟨g, 1, none⟩ b1).setCell ⟨g, 2, none⟩ b2).setCell ⟨g, 3, none⟩ b3).setCell ⟨g, 4, none⟩ b4) none :=
  gr_put (gr_put (gr_put (gr_put (gr_put h (.inr hg) _) (.inr hg) _) (.inr hg) _) (.inr hg) _) (.inr hg) _

/-- What based hands back, whichever it is. -/
def BasedPost (s : ByteArray) (b : Bool) (w : World) (e : Ending) (w' : World) : Prop :=
  ∃ t0 t1 t2 : ByteArray, e = .returned (.tuple #[.agg #[.string t0, .string t1, .string t2, .int .i64 0, .string ⟨#[]⟩], .bool b]) ∧ w.grownBy w' none ∧
    (b = true → t0 = s ∧ t1 = s.extract 0 ((baseI s.data.toList).toNat + 1) ∧ t2 = s.extract ((baseI s.data.toList).toNat + 1) s.size)
theorem baseI_neg {l : List UInt8} (h : ¬ 0 ≤ baseI l) : decide (0 ≤ baseI l) = false := by simpa using h

/-- What Apart hands back. -/
def ApartPost (s : ByteArray) (w : World) (e : Ending) (w' : World) : Prop :=
  w.grownBy w' none ∧ ((partsOf s = none ∧ e = .returned (.tuple #[.agg #[.string ⟨#[]⟩, .string ⟨#[]⟩, .string ⟨#[]⟩, .int .i64 0, .string ⟨#[]⟩], .int .i64 3])) ∨
  ∃ t k kd ad, partsOf s = some (t, k, kd, ad) ∧ e = .returned (.tuple #[.agg #[.string t, .string (t.extract 0 (k + 1)), .string (t.extract (k + 1) t.size), .int .i64 kd, .string ad], .int .i64 0]))

/-- The call sign that 'ready' takes apart. -/
theorem partsOf_ready : partsOf ⟨#[111, 104, 50, 97, 98, 99, 47, 52]⟩ = some (⟨#[111, 104, 50, 97, 98, 99]⟩, 2, 2, ⟨#[52]⟩) := by decide +kernel
end Go.Proofs.YtbaocnbppefciaaGreat
