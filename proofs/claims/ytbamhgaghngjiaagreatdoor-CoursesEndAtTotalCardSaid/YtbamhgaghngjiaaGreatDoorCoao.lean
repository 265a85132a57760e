/- Parts of a proof: TabPlain, TabBest, MapSl, Times, TableOf. Conditions: as each statement says. -/
import Derived.Test.YtbamhgaghngjiaaGreatDoorCoan
import Derived.WideKeyPair
import Derived.WalkArith
import Derived.Sort.OwnSortedInts
import Derived.Lib.OwnBridge
import Derived.Lib.SlicesCompact
import Derived.Lib.RowBridge
import Derived.Laws.OwnMore
namespace Go.Proofs.YtbamhgaghngjiaaGreatDoor
open Go.RowKit
set_option linter.unusedVariables false
set_option linter.unusedSimpArgs false

structure PfxOk (l : List Ent) (x : Pfx) : Prop where
 form : jjs x = false
 has : (xi l x.ent).isSome = true
 time : xu x.a x.z = true
 z0 : 0 ≤ x.zone
 z1 : x.zone ≤ 90
theorem jt6 {l : List Ent} {o : Option Pfx} {x : Pfx} (h : jd1 l o x = 0) : PfxOk l x ∧ ∀ y, o = some y → ja5 y x < 0 ∧ ¬ (y.beg = x.beg ∧ y.whole = x.whole ∧ x.a < y.z) := by
 unfold jd1 at h
 by_cases h1 : jjs x = true
 ·rw [if_pos h1] at h; omega
 rw [if_neg h1] at h
 by_cases h2 : (xi l x.ent).isSome = false
 ·rw [if_pos h2] at h; omega
 rw [if_neg h2] at h
 by_cases h3 : xu x.a x.z = false
 ·rw [if_pos h3] at h; omega
 rw [if_neg h3] at h
 by_cases h4 : qu x.zone 0 90 = true
 ·rw [if_pos h4] at h; omega
 rw [if_neg h4] at h
 have hz : 0 ≤ x.zone ∧ x.zone ≤ 90 := by
  have h5 : qu x.zone 0 90 = false := by simpa using h4
  unfold qu at h5
  simp at h5
  omega
 refine ⟨⟨by simpa using h1, (by cases hc : (xi l x.ent).isSome with | true => rfl | false => exact absurd hc h2), by simpa using h3, hz.1, hz.2⟩, fun y hy => ?_⟩
 subst hy
 by_cases h5 : 0 ≤ ja5 y x
 ·have h6 : (if 0 ≤ ja5 y x then (7 : Int) else if y.beg = x.beg ∧ y.whole = x.whole ∧ x.a < y.z then 13 else 0) = 0 := h
  rw [if_pos h5] at h6; omega
 have h6 : (if 0 ≤ ja5 y x then (7 : Int) else if y.beg = x.beg ∧ y.whole = x.whole ∧ x.a < y.z then 13 else 0) = 0 := h
 rw [if_neg h5] at h6
 refine ⟨by omega, fun h7 => ?_⟩
 rw [if_pos h7] at h6
 omega
theorem jim {l : List Ent} : ∀ {p : List Pfx} {o : Option Pfx}, xr l o p = 0 → (∀ x ∈ p, PfxOk l x) ∧ (∀ y x r, o = some y → p = x :: r → ja5 y x < 0 ∧ ¬ (y.beg = x.beg ∧ y.whole = x.whole ∧ x.a < y.z)) ∧ ∀ k (hk : k + 1 < p.length), ja5 p[k] p[k + 1] < 0 ∧ ¬ (p[k].beg = p[k + 1].beg ∧ p[k].whole = p[k + 1].whole ∧ p[k + 1].a < p[k].z)
 | [], o, _ => ⟨fun x hx => by simp at hx, fun y x r _ h => by simp at h, fun k hk => by simp at hk⟩
 | x :: r, o, h => by
   unfold xr at h
   split at h
   ·rename_i h0
    obtain ⟨h1, h2⟩ := jt6 h0
    obtain ⟨h3, h4, h5⟩ := jim h
    refine ⟨fun y hy => ?_, fun y x' r' ho hp => ?_, fun k hk => ?_⟩
    ·rcases List.mem_cons.1 hy with rfl | hy
     ·exact h1
     exact h3 y hy
    ·injection hp with hp1 hp2
     subst hp1
     exact h2 y ho
    cases k with
    | zero =>
      cases r with
      | nil => simp at hk
      | cons x2 r2 => exact h4 x x2 r2 rfl rfl
    | succ k => exact h5 k (by simpa using hk)
   rename_i h0
   exact absurd h h0
structure TabRight (l : List Ent) (p : List Pfx) : Prop where
 ok : TabOk l p
 pfx : ∀ x ∈ p, PfxOk l x
 next : ∀ k (hk : k + 1 < p.length), ja5 p[k] p[k + 1] < 0 ∧ ¬ (p[k].beg = p[k + 1].beg ∧ p[k].whole = p[k + 1].whole ∧ p[k + 1].a < p[k].z)
theorem jpu {l : List Ent} {p : List Pfx} (h : jah l p = 0) : TabRight l p := by
 unfold jah at h
 by_cases hE : xj l = 0
 ·rw [if_neg (by simpa using hE)] at h
  by_cases hb : 2000 < p.length
  ·rw [if_pos hb] at h; omega
  rw [if_neg hb] at h
  obtain ⟨h1, _, h3⟩ := jim h
  exact ⟨⟨jd2 hE, by omega, fun x hx => (h1 x hx).has⟩, h1, h3⟩
 rw [if_pos hE] at h
 exact absurd h hE
theorem jec {t : ByteArray} (h : 0 ≤ jp t.data.toList) : t.size ≤ 10 ∧ (jp t.data.toList).toNat < t.size := by
 have hl : t.data.toList.length = t.size := by simp
 rcases xk t.data.toList with h1 | ⟨_, _, h2, h3, h4, h5, _⟩
 ·omega
 omega
theorem jbo {s : ByteArray} {q : ByteArray × Nat × Int × ByteArray} (h : jo s = some q) : q.1.size ≤ 100 ∧ q.2.2.2.size ≤ 100 ∧ q.2.1 < q.1.size := by
 unfold jo at h
 by_cases h1 : 14 < s.size
 ·rw [if_pos h1] at h; simp at h
 rw [if_neg h1] at h
 by_cases h2 : 0 ≤ jp s.data.toList
 ·rw [if_pos h2] at h
  obtain rfl := Option.some.inj h
  have := jec h2
  exact ⟨by show s.size ≤ 100; omega, by show (0 : Nat) ≤ 100; omega, this.2⟩
 rw [if_neg h2] at h
 by_cases h3 : Lib.indexByte s.data.toList 47 < 0
 ·rw [if_pos h3] at h; simp at h
 rw [if_neg h3] at h
 simp only at h
 generalize (Lib.indexByte s.data.toList 47).toNat = i at h
 have ha : (s.extract 0 i).size ≤ 14 := by rw [ByteArray.size_extract]; omega
 have hb : (s.extract (i + 1) s.size).size ≤ 14 := by rw [ByteArray.size_extract]; omega
 generalize s.extract 0 i = a at *
 generalize s.extract (i + 1) s.size = b at *
 by_cases h4 : 0 ≤ jp b.data.toList ∧ jr a.data.toList = true
 ·rw [if_pos h4] at h
  obtain rfl := Option.some.inj h
  have := jec h4.1
  exact ⟨by show b.size ≤ 100; omega, by show a.size ≤ 100; omega, this.2⟩
 rw [if_neg h4] at h
 by_cases h5 : 0 ≤ jp a.data.toList ∧ qk b.data.toList ≠ 0
 ·rw [if_pos h5] at h
  obtain rfl := Option.some.inj h
  have := jec h5.1
  refine ⟨by show a.size ≤ 100; omega, ?_, this.2⟩
  show (xb b).size ≤ 100
  unfold xb
  split
  ·omega
  show (0 : Nat) ≤ 100; omega
 rw [if_neg h5] at h; simp at h
def Best (C : Nat → Prop) (len : Nat → Nat) (r : Int) : Prop := (r = -1 ∧ ∀ j, ¬ C j) ∨ ∃ i : Nat, r = i ∧ C i ∧ ∀ j, C j → len j < len i ∨ (len j = len i ∧ i ≤ j)
theorem Best.one {C : Nat → Prop} {len : Nat → Nat} {r s : Int} (h : Best C len r) (h' : Best C len s) : r = s := by
 rcases h with ⟨rfl, h⟩ | ⟨i, rfl, hi, h⟩ <;> rcases h' with ⟨rfl, h'⟩ | ⟨i', rfl, hi', h'⟩
 ·rfl
 ·exact absurd hi' (h _)
 ·exact absurd hi (h' _)
 have a := h i' hi'
 have b := h' i hi
 omega
theorem Best.of {C C' : Nat → Prop} {len : Nat → Nat} {r : Int} (h : Best C len r) (hc : ∀ j, C j ↔ C' j) : Best C' len r := by
 rcases h with ⟨rfl, h⟩ | ⟨i, rfl, hi, h⟩
 ·exact .inl ⟨rfl, fun j hj => h j ((hc j).2 hj)⟩
 exact .inr ⟨i, rfl, (hc i).1 hi, fun j hj => h j ((hc j).2 hj)⟩
def jmc (p : List Pfx) (j : Nat) : Nat := match p[j]? with | none => 0 | some y => y.beg.size
theorem jey (p : List Pfx) (j : Nat) (h : j < p.length) : jmc p j = p[j].beg.size := by
 unfold jmc; rw [List.getElem?_eq_getElem h]
theorem jf3 (l : List Ent) (p : List Pfx) (place : ByteArray) (t but : Int) : ∀ k : Nat, k ≤ p.length →
 Best (fun j => j < k ∧ ∃ h : j < p.length, jtx l place t but j p[j] = true) (jmc p) (jbu l p place t but k)
 | 0, _ => .inl ⟨rfl, fun j hj => by omega⟩
 | k + 1, hk => by
   have ih := jf3 l p place t but k (by omega)
   rw [jmd l p place t but k (by omega)]
   have hlk := jey p k (by omega)
   by_cases hb : jtx l place t but k p[k] = true
   ·rcases ih with ⟨hr, ih⟩ | ⟨i, hr, hi, ih⟩
    ·rw [hr, hb]
     refine .inr ⟨k, by simp, ⟨by omega, by omega, hb⟩, fun j hj => ?_⟩
     rcases Nat.lt_or_ge j k with h | h
     ·exact absurd ⟨h, hj.2⟩ (ih j)
     obtain rfl : j = k := by omega
     exact .inr ⟨rfl, Nat.le_refl _⟩
    rw [hr, hb]
    have hbn : jwg p (i : Int) = jmc p i := rfl
    rw [hbn]
    have hi0 : decide ((i : Int) < 0) = false := by rw [decide_eq_false_iff_not]; omega
    rw [hi0]
    by_cases hlt : jmc p i < p[k].beg.size
    ·rw [if_pos (by simpa using hlt)]
     refine .inr ⟨k, rfl, ⟨by omega, by omega, hb⟩, fun j hj => ?_⟩
     rcases Nat.lt_or_ge j k with h | h
     ·have := ih j ⟨h, hj.2⟩
      left
      omega
     obtain rfl : j = k := by omega
     exact .inr ⟨rfl, Nat.le_refl _⟩
    rw [if_neg (by simpa using hlt)]
    refine .inr ⟨i, rfl, ⟨by have := hi.1; omega, hi.2⟩, fun j hj => ?_⟩
    rcases Nat.lt_or_ge j k with h | h
    ·exact ih j ⟨h, hj.2⟩
    obtain rfl : j = k := by omega
    have := hi.1
    omega
   have hb2 : jtx l place t but k p[k] = false := by simpa using hb
   rw [hb2, Bool.false_and, if_neg (by simp)]
   refine ih.of fun j => ?_
   constructor
   ·exact fun h => ⟨by omega, h.2⟩
   intro h
   rcases Nat.lt_or_ge j k with h1 | h1
   ·exact ⟨h1, h.2⟩
   obtain rfl : j = k := by omega
   obtain ⟨_, h3⟩ := h.2
   exact absurd h3 hb
def ju8 (p : List Pfx) (flag : Bool) (s : ByteArray) (i : Nat) : Bool := match p[i]? with | none => false | some x => (x.whole == flag) && decide (x.beg = s)
def xm (p : List Pfx) (flag : Bool) (s : ByteArray) (k : Nat) : List Nat := (List.range k).filter (ju8 p flag s)
def jfd (p : List Pfx) (flag : Bool) (s : ByteArray) : List Nat := xm p flag s p.length
theorem jfz (p : List Pfx) (flag : Bool) (s : ByteArray) (k : Nat) (h : k < p.length) : xm p flag s (k + 1) = if p[k].whole = flag ∧ p[k].beg = s then xm p flag s k ++ [k] else xm p flag s k := by
 unfold xm
 rw [List.range_succ, List.filter_append]
 have hc : ju8 p flag s k = decide (p[k].whole = flag ∧ p[k].beg = s) := by
  unfold ju8
  rw [List.getElem?_eq_getElem h]
  simp [Bool.decide_and]
  cases p[k].whole <;> cases flag <;> rfl
 by_cases hh : p[k].whole = flag ∧ p[k].beg = s
 ·rw [if_pos hh, List.filter_cons, hc, decide_eq_true hh]; rfl
 rw [if_neg hh, List.filter_cons, hc, decide_eq_false hh]; simp
theorem jk3 {p : List Pfx} {flag : Bool} {s : ByteArray} {i : Nat} : ju8 p flag s i = true ↔ ∃ h : i < p.length, p[i].whole = flag ∧ p[i].beg = s := by
 unfold ju8
 by_cases h : i < p.length
 ·rw [List.getElem?_eq_getElem h]
  constructor
  ·intro hh
   simp at hh
   exact ⟨h, hh.1, hh.2⟩
  rintro ⟨_, h1, h2⟩
  simp [h1, h2]
 rw [List.getElem?_eq_none (by omega)]
 constructor
 ·intro hh; cases hh
 rintro ⟨h1, _⟩; exact absurd h1 h
theorem idxL_mem {p : List Pfx} {flag : Bool} {s : ByteArray} {i : Nat} : i ∈ jfd p flag s ↔ ∃ h : i < p.length, p[i].whole = flag ∧ p[i].beg = s := by
 unfold jfd xm
 rw [List.mem_filter, jk3]
 constructor
 ·exact fun h => h.2
 exact fun h => ⟨List.mem_range.2 h.1, h⟩
theorem jct {p : List Pfx} {flag : Bool} {s : ByteArray} {i k : Nat} (h : i ∈ xm p flag s k) : i < k ∧ ∃ h : i < p.length, p[i].whole = flag ∧ p[i].beg = s := by
 unfold xm at h
 rw [List.mem_filter, jk3] at h
 exact ⟨List.mem_range.1 h.1, h.2⟩
theorem jer (p : List Pfx) (flag : Bool) (s : ByteArray) : (jfd p flag s).Pairwise (· < ·) := List.Pairwise.filter _ List.pairwise_lt_range
theorem jei (l : List Ent) (p : List Pfx) (t : Int) : ∀ js : List Nat, js.Pairwise (· < ·) → (∀ j ∈ js, j < p.length) →
 (jcm l p t js = -1 ∧ ∀ j ∈ js, ∀ h : j < p.length, jns l p[j] t = false) ∨ ∃ i ∈ js, ∃ h : i < p.length, jcm l p t js = i ∧ jns l p[i] t = true ∧ ∀ j ∈ js, (∃ h : j < p.length, jns l p[j] t = true) → i ≤ j
 | [], _, _ => .inl ⟨rfl, fun j hj => by simp at hj⟩
 | a :: r, hs, hl => by
   have hal := hl a (by simp)
   have hst : jcm l p t (a :: r) = if jns l p[a] t then (a : Int) else jcm l p t r := by
    show (match p[a]? with | none => _ | some q => _) = _
    rw [List.getElem?_eq_getElem hal]
    simp only [jtn]
   rw [hst]
   obtain ⟨h1, h2⟩ := List.pairwise_cons.1 hs
   by_cases hc : jns l p[a] t = true
   ·rw [if_pos hc]
    refine .inr ⟨a, by simp, hal, rfl, hc, fun j hj _ => ?_⟩
    rcases List.mem_cons.1 hj with rfl | hj
    ·exact Nat.le_refl _
    exact Nat.le_of_lt (h1 j hj)
   rw [if_neg hc]
   rcases jei l p t r h2 (fun j hj => hl j (by simp [hj])) with ⟨h3, h4⟩ | ⟨i, hi, hil, h3, h4, h5⟩
   ·refine .inl ⟨h3, fun j hj h => ?_⟩
    rcases List.mem_cons.1 hj with rfl | hj
    ·simpa using hc
    exact h4 j hj h
   refine .inr ⟨i, by simp [hi], hil, h3, h4, fun j hj hjc => ?_⟩
   rcases List.mem_cons.1 hj with rfl | hj
   ·obtain ⟨_, h6⟩ := hjc
    exact absurd h6 hc
   exact h5 j hj hjc
def jrs (l : List Ent) (p : List Pfx) (t : Int) (place : ByteArray) (but : Nat → Bool) : Nat → Int
 | 0 => -1
 | n + 1 => if 0 ≤ jcm l p t ((jfd p false (place.extract 0 (n + 1))).filter fun i => !but i) then jcm l p t ((jfd p false (place.extract 0 (n + 1))).filter fun i => !but i) else jrs l p t place but n
def jwf (l : List Ent) (p : List Pfx) (t : Int) (place : ByteArray) (but : Nat → Bool) (j : Nat) : Prop := ∃ h : j < p.length, but j = false ∧ p[j].whole = false ∧ jns l p[j] t = true ∧ Lib.hasPrefix place.data.toList p[j].beg.data.toList = true
theorem has_beg {place b : ByteArray} : Lib.hasPrefix place.data.toList b.data.toList = true ↔ b.size ≤ place.size ∧ b = place.extract 0 b.size := by
 unfold Lib.hasPrefix
 rw [List.isPrefixOf_iff_prefix, List.prefix_iff_eq_take]
 have hl : b.data.toList.length = b.size := by simp
 have hl2 : place.data.toList.length = place.size := by simp
 have he : (place.extract 0 b.size).data.toList = place.data.toList.take b.size := by simp
 constructor
 ·intro h
  refine ⟨?_, ?_⟩
  ·have := congrArg List.length h
   rw [List.length_take, hl, hl2] at this
   omega
  rw [hl] at h
  have h2 : b.data.toList = (place.extract 0 b.size).data.toList := h.trans he.symm
  have h3 := Array.ext' h2
  cases b
  generalize hx : ByteArray.extract place 0 _ = x at *
  cases x
  simp_all
 rintro ⟨h1, h2⟩
 rw [hl, ← he, ← h2]
theorem jig (l : List Ent) (p : List Pfx) (t : Int) (place : ByteArray) (but : Nat → Bool) (hp : ∀ x ∈ p, x.whole = false → 1 ≤ x.beg.size) : ∀ n : Nat, n ≤ place.size →
 Best (fun j => jwf l p t place but j ∧ jmc p j ≤ n) (jmc p) (jrs l p t place but n)
 | 0, _ => .inl ⟨rfl, fun j ⟨⟨h, _, h2, _⟩, h3⟩ => by
  have := hp _ (List.getElem_mem h) h2
  rw [jey p j h] at h3
  omega⟩
 | n + 1, hn => by
   have ih := jig l p t place but hp n (by omega)
   have hes : (place.extract 0 (n + 1)).size = n + 1 := by rw [ByteArray.size_extract]; omega
   have hsp := jei l p t ((jfd p false (place.extract 0 (n + 1))).filter fun i => !but i) ((jer _ _ _).filter _) (fun j hj => (idxL_mem.1 (List.mem_filter.1 hj).1).1)
   unfold jrs
   have hin : ∀ j, jwf l p t place but j → jmc p j = n + 1 → j ∈ (jfd p false (place.extract 0 (n + 1))).filter fun i => !but i := by
    rintro j ⟨h, h1, h2, h3, h4⟩ h5
    rw [jey p j h] at h5
    refine List.mem_filter.2 ⟨idxL_mem.2 ⟨h, h2, ?_⟩, by simp [h1]⟩
    have := (has_beg.1 h4).2
    rw [h5] at this
    exact this
   rcases hsp with ⟨h1, h2⟩ | ⟨i, hi, hil, h1, h2, h3⟩
   ·rw [h1, if_neg (by decide)]
    refine ih.of fun j => ?_
    constructor
    ·exact fun h => ⟨h.1, by omega⟩
    rintro ⟨h, h4⟩
    refine ⟨h, ?_⟩
    rcases Nat.lt_or_ge n (jmc p j) with h5 | h5
    ·have h6 := hin j h (by omega)
     obtain ⟨q1, _, _, q2, _⟩ := h
     have := h2 j h6 q1
     rw [q2] at this
     cases this
    exact h5
   rw [h1, if_pos (by omega)]
   obtain ⟨hm1, hm2⟩ := List.mem_filter.1 hi
   obtain ⟨_, hw, hb⟩ := idxL_mem.1 hm1
   have hli : jmc p i = n + 1 := by rw [jey p i hil, hb, hes]
   refine .inr ⟨i, rfl, ⟨⟨hil, by simpa using hm2, hw, h2, has_beg.2 ⟨by rw [hb, hes]; omega, by rw [hb, hes]⟩⟩, by omega⟩, fun j hj => ?_⟩
   rcases Nat.lt_or_ge (jmc p j) (n + 1) with h5 | h5
   ·left; omega
   have h6 : jmc p j = n + 1 := by have := hj.2; omega
   right
   refine ⟨by omega, h3 j (hin j hj.1 h6) ?_⟩
   obtain ⟨q1, _, _, q2, _⟩ := hj.1
   exact ⟨q1, q2⟩
def jol (l : List Ent) (p : List Pfx) (t : Int) (place : ByteArray) (but : Nat → Bool) : Int := jrs l p t place but (min 4 place.size)
theorem jom (l : List Ent) (p : List Pfx) (t : Int) (place : ByteArray) (but : Nat → Bool) (hp : ∀ x ∈ p, x.whole = false → 1 ≤ x.beg.size ∧ x.beg.size ≤ 4) : Best (jwf l p t place but) (jmc p) (jol l p t place but) := by
 refine (jig l p t place but (fun x hx hw => (hp x hx hw).1) _ (Nat.min_le_right _ _)).of fun j => ⟨fun h => h.1, fun h => ⟨h, ?_⟩⟩
 obtain ⟨h1, _, h2, _, h4⟩ := h
 rw [jey p j h1]
 have := hp _ (List.getElem_mem h1) h2
 have := (has_beg.1 h4).1
 omega
theorem jon (l : List Ent) (p : List Pfx) (t but : Int) (place : ByteArray) (hp : ∀ x ∈ p, x.whole = false → 1 ≤ x.beg.size ∧ x.beg.size ≤ 4) : jbu l p place t but p.length = jol l p t place (fun j => decide ((j : Int) = but)) := by
 refine (jf3 l p place t but p.length (Nat.le_refl _)).one ((jom l p t place _ hp).of fun j => ?_)
 constructor
 ·rintro ⟨h, h1, h2, h3, h4⟩
  refine ⟨h, h, ?_⟩
  unfold jtx
  rw [h2, h3, h4]
  simpa using h1
 rintro ⟨_, h, h1⟩
 unfold jtx at h1
 simp only [Bool.and_eq_true, Bool.not_eq_true', decide_eq_true_eq] at h1
 exact ⟨h, by simpa using h1.1, h1.2.1, h1.2.2.1, h1.2.2.2⟩
theorem joa {x : Pfx} (h : jjs x = false) (hw : x.whole = false) : 1 ≤ x.beg.size ∧ x.beg.size ≤ 4 := by
 unfold jjs at h
 rw [hw] at h
 simp only [Bool.false_eq_true, if_false, Bool.not_eq_false'] at h
 unfold jr at h
 simp only [Bool.and_eq_true, decide_eq_true_eq] at h
 have hl : x.beg.data.toList.length = x.beg.size := by simp
 obtain ⟨⟨_, h2⟩, h3⟩ := h
 refine ⟨?_, by omega⟩
 rcases Nat.eq_zero_or_pos x.beg.size with h0 | h0
 ·have h1 : x.beg.data.toList = [] := List.eq_nil_of_length_eq_zero (by omega)
  rw [h1] at h2
  exact absurd h2 (by decide)
 exact h0
theorem jul : Maps.Keyed Tryz.prog 9 := Maps.string_keyed Tryz.underlying9
theorem jpm (s : ByteArray) (h : s.size ≤ 1000000) : keyOf Tryz.prog 9 (.string s) = some (.string s.data.toList) :=
 WideMaps.keyOf_string_mk Tryz.underlying9 (by unfold maxLen; omega)
def slR (v : Value) : Option (DataW Unit × List MemPlace) :=
 match v with
 | .slice none n c => if n = 0 ∧ c = 0 then some (.lit (.int .i64 (-1)), []) else none
 | .slice (some p) n c => if p.off = 0 ∧ p.spot = none then some (.agg [.lit (.int .i64 (p.block : Int)), .lit (.int .i64 (n : Int)), .lit (.int .i64 (c : Int))], []) else none
 | _ => none
theorem jhh : slR (.slice none 0 0) = some (.lit (.int .i64 (-1)), []) := by simp [slR]
theorem jpj (g n c : Nat) : slR (.slice (some ⟨g, 0, none⟩) n c) = some (.agg [.lit (.int .i64 (g : Int)), .lit (.int .i64 (n : Int)), .lit (.int .i64 (c : Int))], []) := by simp [slR]
theorem jpk {v : Value} {d : DataW Unit} {ps : List MemPlace} (h : slR v = some (d, ps)) : (v = .slice none 0 0 ∧ d = .lit (.int .i64 (-1))) ∨ ∃ g n c : Nat, v = .slice (some ⟨g, 0, none⟩) n c ∧ d = .agg [.lit (.int .i64 (g : Int)), .lit (.int .i64 (n : Int)), .lit (.int .i64 (c : Int))] := by
 cases v with
 | slice p n c =>
   cases p with
   | none =>
     by_cases hc : n = 0 ∧ c = 0
     ·obtain ⟨rfl, rfl⟩ := hc
      rw [jhh] at h
      injection h with h
      injection h with h1 h2
      exact .inl ⟨rfl, h1.symm⟩
     simp [slR, hc] at h
   | some p =>
     obtain ⟨g, o, s⟩ := p
     by_cases hc : o = 0 ∧ s = none
     ·obtain ⟨rfl, rfl⟩ := hc
      rw [jpj] at h
      injection h with h
      injection h with h1 h2
      exact .inr ⟨g, n, c, rfl, h1.symm⟩
     simp [slR, hc] at h
 | _ => simp [slR] at h
theorem jpl {u v : Value} {d : DataW Unit} {ps qs : List MemPlace} (hu : slR u = some (d, ps)) (hv : slR v = some (d, qs)) : u = v := by
 rcases jpk hu with ⟨rfl, rfl⟩ | ⟨g, n, c, rfl, rfl⟩ <;> rcases jpk hv with ⟨rfl, h⟩ | ⟨g', n', c', rfl, h⟩
 ·rfl
 ·cases h
 ·cases h
 simp only [DataW.agg.injEq, List.cons.injEq, DataW.lit.injEq, Lit.int.injEq, and_true, true_and] at h
 obtain ⟨h1, h2, h3⟩ := h
 rw [show g = g' by omega, show n = n' by omega, show c = c' by omega]
def MapSl (base : Nat) (f : ByteArray → List Nat) (W : World) (bm cnt : Nat) : Prop :=
 ∃ D : DataW Unit, W.ownsMap Tryz.prog 9 slR bm cnt D ∧ Maps.IsMap D ∧ ∀ s : ByteArray, s.size ≤ 1000000 → ∃ u, IntsFrom base W u (qn (f s)) ∧ (f s = [] → u = .slice none 0 0) ∧ slR u = some (D.atKey (.string s.data.toList) (.lit (.int .i64 (-1))), [])
theorem MapSl.made (base : Nat) (w : World) : MapSl base (fun _ => []) (w.alloc (.map #[] 0)) w.heap.size 0 :=
 ⟨_, World.ownsMap_made w _ _ _, Maps.isMap_empty, fun s _ => ⟨.slice none 0 0, IntsFrom.nil _ _, fun _ => rfl, jhh⟩⟩
theorem MapSl.kept {base : Nat} {f : ByteArray → List Nat} {w w' : World} {bm cnt : Nat} (h : MapSl base f w bm cnt) {row : Option Nat} (hg : w.grownBy w' row) (hr : some bm ≠ row) (hr2 : ∀ g, base ≤ g → some g ≠ row) : MapSl base f w' bm cnt := by
 obtain ⟨D, h1, h2, h3⟩ := h
 refine ⟨D, h1.kept hg hr, h2, fun s hs => ?_⟩
 obtain ⟨u, q1, q0, q2⟩ := h3 s hs
 refine ⟨u, World.ownsRow.kept q1 hg ?_, q0, q2⟩
 cases hu : u.ownBlock with
 | none => exact .inl rfl
 | some k => exact .inr (hr2 k (World.ownsRow.lt q1 k hu).1)
theorem MapSl.look {base : Nat} {f : ByteArray → List Nat} {w : World} {bm cnt : Nat} (h : MapSl base f w bm cnt) (s : ByteArray) (hs : s.size ≤ 1000000) :
 ∃ u, IntsFrom base w u (qn (f s)) ∧ (f s = [] → u = .slice none 0 0) ∧ (Instr.lookup 163 (.map (some bm)) (.string s) false).run Tryz.prog w = .ok u w := by
 obtain ⟨D, h1, h2, h3⟩ := h
 obtain ⟨u, q1, q0, q2⟩ := h3 s hs
 obtain ⟨v, ps, hrun, hv⟩ := h1.lookup jul Tryz.underlying163 (z := .slice none 0 0) (by kernel_rfl) jhh (jpm s hs)
 rw [jpl hv q2] at hrun
 exact ⟨u, q1, q0, hrun⟩
theorem jar {js : List Nat} (h : js ≠ []) : 0 < (qn js).length := by
 unfold qn
 rw [List.length_map]
 exact List.length_pos_iff.2 h
theorem je7 {base : Nat} {w : World} {u v : Value} {a b : List Nat} (hu : IntsFrom base w u (qn a)) (hv : IntsFrom base w v (qn b)) (ha : a ≠ []) (hb : b ≠ []) (hd : ∀ x ∈ a, x ∉ b) : u.ownBlock ≠ v.ownBlock := by
 obtain ⟨A, c, rfl, _, hA⟩ := hu.shape
 obtain ⟨B, c', rfl, _, hB⟩ := hv.shape
 obtain ⟨g, rfl, _, _⟩ := hA (jar ha)
 obtain ⟨g', rfl, _, _⟩ := hB (jar hb)
 intro e
 simp only [Value.ownBlock, Option.some.injEq] at e
 subst e
 have h1 := IntsFrom.at_ hu 0 (jar ha)
 have h2 := IntsFrom.at_ hv 0 (jar hb)
 rw [h1] at h2
 cases a with
 | nil => exact ha rfl
 | cons x a =>
   cases b with
   | nil => exact hb rfl
   | cons y b =>
     have hxy : x = y := by
      simp [qn] at h2
      omega
     exact hd x (by simp) (by rw [hxy]; simp)
theorem MapSl.put {base : Nat} {f : ByteArray → List Nat} {w0 w1 : World} {bm cnt : Nat} (h : MapSl base f w0 bm cnt) (hb : bm < base) (hn : cnt < maxLen) (s : ByteArray) (hs : s.size ≤ 1000000) (u0 : Value) (hu0 : IntsFrom base w0 u0 (qn (f s))) (hn0 : f s = [] → u0 = .slice none 0 0) (hg : w0.grownBy w1 u0.ownBlock) (i : Nat) (u1 : Value) (hu1 : IntsFrom base w1 u1 (qn (f s ++ [i]))) (hdis : ∀ s', s' ≠ s → ∀ x ∈ f s', x ∉ f s) :
 ∃ w2, (Instr.mapUpdate 163 (.map (some bm)) (.string s) u1).run Tryz.prog w1 = .ok () w2 ∧ MapSl base (fun x => if x = s then f s ++ [i] else f x) w2 bm (cnt + 1) ∧ w1.grownBy w2 (some bm) := by
 obtain ⟨D, h1, h2, h3⟩ := h
 have hbm : some bm ≠ u0.ownBlock := fun e => by
  have := (World.ownsRow.lt hu0 bm e.symm).1
  omega
 have hne : f s ++ [i] ≠ [] := by simp
 obtain ⟨A, c, rfl, _, hA⟩ := hu1.shape
 obtain ⟨g, rfl, _, _⟩ := hA (jar hne)
 obtain ⟨w2, hrun, ho, hg2⟩ := (h1.kept hg hbm).update jul Tryz.underlying163 hn (jpm s hs) (jpj g _ c)
 have hover : ∀ {x : Value} {js : List Nat}, IntsFrom base w1 x (qn js) → IntsFrom base w2 x (qn js) := fun {x js} hx => World.ownsRow.kept hx hg2 (by
  cases hk : x.ownBlock with
  | none => exact .inl rfl
  | some k => exact .inr (fun e => by injection e with e; have := (World.ownsRow.lt hx k hk).1; omega))
 refine ⟨w2, hrun, ⟨_, ho, h2.put _ _, fun s' hs' => ?_⟩, hg2⟩
 by_cases e : s' = s
 ·subst e
  have hf1 : (if s' = s' then f s' ++ [i] else f s') = f s' ++ [i] := if_pos rfl
  refine ⟨.slice (some ⟨g, 0, none⟩) (qn (f s' ++ [i])).length c, by show IntsFrom base w2 _ (qn (if s' = s' then f s' ++ [i] else f s')); rw [hf1]; exact hover hu1, fun h => absurd (hf1.symm.trans h) hne, ?_⟩
  rw [Maps.atKey_put_same h2 (k := .string s'.data.toList) (by trivial)]
  exact jpj g _ c
 obtain ⟨u', q1, q0, q2⟩ := h3 s' hs'
 have hrow : IntsFrom base w1 u' (qn (f s')) := by
  refine World.ownsRow.kept q1 hg ?_
  by_cases hf' : f s' = []
  ·rw [q0 hf']; exact .inl rfl
  by_cases hf : f s = []
  ·refine .inr ?_
   rw [hn0 hf]
   intro h5
   obtain ⟨A', c', rfl, _, hA'⟩ := q1.shape
   obtain ⟨g', rfl, _, _⟩ := hA' (jar hf')
   simp [Value.ownBlock] at h5
  exact .inr (je7 q1 hu0 hf' hf (hdis s' e))
 have hf1 : (if s' = s then f s ++ [i] else f s') = f s' := if_neg e
 refine ⟨u', by show IntsFrom base w2 _ (qn (if s' = s then f s ++ [i] else f s')); rw [hf1]; exact hover hrow, fun h => q0 (hf1.symm.trans h), ?_⟩
 have hke : (Lit.string s'.data.toList) ≠ Lit.string s.data.toList := fun h5 => e (jpr (by
  rw [Lib.toList_data, Lib.toList_data]
  exact Lit.string.inj h5))
 rw [Maps.atKey_put_other hke]
 exact q2
theorem IntsFrom.take {base : Nat} {w : World} {A : Option Addr} {c : Nat} {l : List Int} (h : IntsFrom base w (.slice A l.length c) l) (m : Nat) (hm : m ≤ l.length) : IntsFrom base w (.slice A m c) (l.take m) := by
 have hl : (l.take m).length = m := by simp; omega
 unfold IntsFrom
 rw [hl]
 refine ⟨by simp; omega, ?_⟩
 rcases h.2 with ⟨h1, h2⟩ | ⟨g, cap, cur, h1, h2, h3, h4, h5, h6, h7⟩
 ·injection h1 with e1 e2 e3
  subst e1; subst e3
  exact .inl ⟨by rw [show m = 0 by omega], by omega⟩
 injection h1 with e1 e2 e3
 subst e1; subst e3
 refine .inr ⟨g, _, cur, rfl, h2, h3, by omega, h5, h6, ?_⟩
 rw [List.map_take, ← h7, List.take_take]
 congr 1
 omega
theorem IntsFrom.cap {base : Nat} {w : World} {A : Option Addr} {c n : Nat} {l : List Int} (h : IntsFrom base w (.slice A n c) l) : n ≤ c := by
 rcases h.2 with ⟨h1, h2⟩ | ⟨g, cap, cur, h1, h2, h3, h4, h5, h6, h7⟩
 ·injection h1 with e1 e2 e3
  omega
 injection h1 with e1 e2 e3
 omega
structure TabFull (base base2 gT bB bW : Nat) (u v : Value) (l : List Ent) (p : List Pfx) (W : World) : Prop where
 at_ : TabAt base gT u v l p W
 cB : W.cell? ⟨gT, 2, none⟩ = some (.map (some bB))
 cW : W.cell? ⟨gT, 3, none⟩ = some (.map (some bW))
 mB : ∃ n, MapSl base2 (jfd p false) W bB n
 mW : ∃ n, MapSl base2 (jfd p true) W bW n
theorem TabFull.grown {base base2 gT bB bW : Nat} {u v : Value} {l : List Ent} {p : List Pfx} {W W' : World} (h : TabFull base base2 gT bB bW u v l p W) (hg : W.grownBy W' none) : TabFull base base2 gT bB bW u v l p W' := by
 obtain ⟨n, hn⟩ := h.mB
 obtain ⟨m, hm⟩ := h.mW
 exact ⟨h.at_.grown hg, hg.cell h.cB (by simp), hg.cell h.cW (by simp), ⟨n, hn.kept hg (by simp) (by simp)⟩, ⟨m, hm.kept hg (by simp) (by simp)⟩⟩
theorem jh9 (p : List Pfx) (flag : Bool) (k : Nat) (h : k < p.length) (hw : p[k].whole = flag) : (fun x => if x = p[k].beg then xm p flag p[k].beg k ++ [k] else xm p flag x k) = fun x => xm p flag x (k + 1) := by
 funext x
 rw [jfz p flag x k h]
 by_cases e : x = p[k].beg
 ·rw [if_pos e, if_pos ⟨hw, e.symm⟩, e]
 rw [if_neg e, if_neg (fun h2 => e h2.2.symm)]
theorem jfy (p : List Pfx) (flag : Bool) (k : Nat) (h : k < p.length) (hw : p[k].whole ≠ flag) : (fun x => xm p flag x k) = fun x => xm p flag x (k + 1) := by
 funext x
 rw [jfz p flag x k h, if_neg (fun h2 => hw h2.1)]
theorem MapSl.to {base : Nat} {f g : ByteArray → List Nat} {w : World} {bm cnt : Nat} (h : MapSl base f w bm cnt) (e : f = g) : MapSl base g w bm cnt := e ▸ h
def Fill (base2 bB bW : Nat) (p : List Pfx) (k : Nat) (W : World) : Prop :=
 (∃ n, n ≤ k ∧ MapSl base2 (fun s => xm p false s k) W bB n) ∧ ∃ n, n ≤ k ∧ MapSl base2 (fun s => xm p true s k) W bW n
theorem Fill.kept {base2 bB bW : Nat} {p : List Pfx} {k : Nat} {W W' : World} (h : Fill base2 bB bW p k W) {row : Option Nat} (hg : W.grownBy W' row) (hr : ∀ g, row = some g → g ≠ bB ∧ g ≠ bW ∧ g < base2) : Fill base2 bB bW p k W' := by
 obtain ⟨⟨n, hn, h1⟩, ⟨m, hm, h2⟩⟩ := h
 exact ⟨⟨n, hn, h1.kept hg (fun e => (hr _ e.symm).1 rfl) (fun g hb e => by have := (hr _ e.symm).2.2; omega)⟩, ⟨m, hm, h2.kept hg (fun e => (hr _ e.symm).2.1 rfl) (fun g hb e => by have := (hr _ e.symm).2.2; omega)⟩⟩
theorem jia {p : List Pfx} {flag : Bool} {k : Nat} {s : ByteArray} : ∀ s', s' ≠ s → ∀ x ∈ xm p flag s' k, x ∉ xm p flag s k := fun s' h x h1 h2 => by
 obtain ⟨_, _, _, e1⟩ := jct h1
 obtain ⟨_, _, _, e2⟩ := jct h2
 exact h (e1.symm.trans e2)
theorem MapSl.apart {base : Nat} {f : ByteArray → List Nat} {w0 w1 : World} {bm cnt : Nat} (h : MapSl base f w0 bm cnt) (hb : bm < base) (u0 : Value) (js : List Nat) (hu0 : IntsFrom base w0 u0 (qn js)) (hn0 : js = [] → u0 = .slice none 0 0) (hg : w0.grownBy w1 u0.ownBlock) (hdis : ∀ s, ∀ x ∈ f s, x ∉ js) : MapSl base f w1 bm cnt := by
 obtain ⟨D, h1, h2, h3⟩ := h
 have hbm : some bm ≠ u0.ownBlock := fun e => by
  have := (World.ownsRow.lt hu0 bm e.symm).1
  omega
 refine ⟨D, h1.kept hg hbm, h2, fun s hs => ?_⟩
 obtain ⟨u, q1, q0, q2⟩ := h3 s hs
 refine ⟨u, World.ownsRow.kept q1 hg ?_, q0, q2⟩
 by_cases hf' : f s = []
 ·rw [q0 hf']; exact .inl rfl
 by_cases hf : js = []
 ·refine .inr ?_
  rw [hn0 hf]
  intro h5
  obtain ⟨A', c', rfl, _, hA'⟩ := q1.shape
  obtain ⟨g', rfl, _, _⟩ := hA' (jar hf')
  simp [Value.ownBlock] at h5
 exact .inr (je7 q1 hu0 hf' hf (hdis s))
theorem jcv (js : List Nat) (k : Nat) : qn (js ++ [k]) = qn js ++ [(k : Int)] := by unfold qn; simp
def jnj (base : Nat) (u v : Value) (l : List Ent) (p : List Pfx) (w : World) (r : Ending) (w' : World) : Prop :=
 ∃ base2 gT bB bW, r = .returned (.pointer (some ⟨gT, 0, none⟩)) ∧ TabFull base base2 gT bB bW u v l p w' ∧ w.heap.size ≤ gT ∧ w.grownBy w' none
theorem MapSl.look2 {base : Nat} {f : ByteArray → List Nat} {w : World} {bm cnt : Nat} (h : MapSl base f w bm cnt) (s : ByteArray) (hs : s.size ≤ 1000000) :
 ∃ u, IntsFrom base w u (qn (f s)) ∧ (f s = [] → u = .slice none 0 0) ∧ ∀ w' row, w.grownBy w' row → some bm ≠ row → (Instr.lookup 163 (.map (some bm)) (.string s) false).run Tryz.prog w' = .ok u w' := by
 obtain ⟨D, h1, h2, h3⟩ := h
 obtain ⟨u, q1, q0, q2⟩ := h3 s hs
 refine ⟨u, q1, q0, fun w' row hg hr => ?_⟩
 obtain ⟨v, ps, hrun, hv⟩ := (h1.kept hg hr).lookup jul Tryz.underlying163 (z := .slice none 0 0) (by kernel_rfl) jhh (jpm s hs)
 rw [jpl hv q2] at hrun
 exact hrun
theorem jn5 {base2 bB bW : Nat} {p : List Pfx} {k : Nat} {W : World} (h : Fill base2 bB bW p k W) (flag : Bool) (s : ByteArray) (hs : s.size ≤ 1000000) :
 ∃ u, IntsFrom base2 W u (qn (xm p flag s k)) ∧ (xm p flag s k = [] → u = .slice none 0 0) ∧ ∀ w' , W.grownBy w' none → (Instr.lookup 163 (.map (some (if flag then bW else bB))) (.string s) false).run Tryz.prog w' = .ok u w' := by
 obtain ⟨⟨n, hn, h1⟩, ⟨m, hm, h2⟩⟩ := h
 cases flag
 ·obtain ⟨u, q1, q2, q3⟩ := h1.look2 s hs
  exact ⟨u, q1, q2, fun w' hg => q3 w' none hg (by simp)⟩
 obtain ⟨u, q1, q2, q3⟩ := h2.look2 s hs
 exact ⟨u, q1, q2, fun w' hg => q3 w' none hg (by simp)⟩
theorem jre (base2 bB bW : Nat) (p : List Pfx) (k : Nat) (h : k < p.length) (W W9 : World) (flag : Bool) (hw : p[k].whole = flag) (hF : Fill base2 bB bW p k W) (hb : bB < base2) (hb2 : bW < base2) (hne : bB ≠ bW) (hlen : p.length ≤ 2000) (hs : p[k].beg.size ≤ 14)
 (u0 : Value) (hu0 : IntsFrom base2 W u0 (qn (xm p flag p[k].beg k))) (hn0 : xm p flag p[k].beg k = [] → u0 = .slice none 0 0) (hg : W.grownBy W9 u0.ownBlock) (u1 : Value) (hu1 : IntsFrom base2 W9 u1 (qn (xm p flag p[k].beg k ++ [k]))) :
 ∃ W5, (Instr.mapUpdate 163 (.map (some (if flag then bW else bB))) (.string p[k].beg) u1).run Tryz.prog W9 = .ok () W5 ∧ Fill base2 bB bW p (k + 1) W5 ∧ W9.grownBy W5 (some (if flag then bW else bB)) := by
 obtain ⟨⟨n, hn, h1⟩, ⟨m, hm, h2⟩⟩ := hF
 have hdis : ∀ s, ∀ x ∈ xm p (!flag) s k, x ∉ xm p flag p[k].beg k := fun s x hx1 hx2 => by
  obtain ⟨_, _, e1, _⟩ := jct hx1
  obtain ⟨_, _, e2, _⟩ := jct hx2
  rw [e1] at e2
  cases flag <;> cases e2
 cases flag
 ·obtain ⟨W5, hrun, h3, hg5⟩ := MapSl.put h1 hb (by unfold maxLen; omega) p[k].beg (by omega) u0 hu0 hn0 hg k u1 hu1 (fun s' hs' => jia s' hs')
  refine ⟨W5, hrun, ⟨⟨n + 1, by omega, h3.to (jh9 p false k h hw)⟩, ⟨m, by omega, ?_⟩⟩, hg5⟩
  have h4 := h2.apart hb2 u0 _ hu0 hn0 hg hdis
  exact (h4.kept hg5 (fun e => hne (Option.some.inj e).symm) (fun g hg' e => by have := Option.some.inj e; omega)).to (jfy p true k h (by rw [hw]; simp))
 obtain ⟨W5, hrun, h3, hg5⟩ := MapSl.put h2 hb2 (by unfold maxLen; omega) p[k].beg (by omega) u0 hu0 hn0 hg k u1 hu1 (fun s' hs' => jia s' hs')
 refine ⟨W5, hrun, ⟨⟨n, by omega, ?_⟩, ⟨m + 1, by omega, h3.to (jh9 p true k h hw)⟩⟩, hg5⟩
 have h4 := h1.apart hb u0 _ hu0 hn0 hg hdis
 exact (h4.kept hg5 (fun e => hne (Option.some.inj e)) (fun g hg' e => by have := Option.some.inj e; omega)).to (jfy p false k h (by rw [hw]; simp))
set_option maxRecDepth 100000 in
set_option maxHeartbeats 8000000 in
theorem jm0 (base : Nat) (u v : Value) (l : List Ent) (p : List Pfx) (w : World) (hu : EntsFrom base w u l) (hv : PfxsFrom base w v p) (hlen : p.length ≤ 2000) (hbs : ∀ x ∈ p, x.beg.size ≤ 14) :
 Calls Tryz.prog 55 #[u, v] w (jnj base u v l p w) := by
 obtain ⟨A, c, rfl, hlen1, hA⟩ := hv.shape
 obtain ⟨A', c', rfl, hlen2, hA'⟩ := hu.shape
 obtain ⟨i0, hi, hz0, hz1, hz2⟩ := info_parts jdd
 have HV := Lib.hid hv
 have HU := Lib.hid hu
 have HA := Lib.hid hA
 have HBS := Lib.hid hbs
 have hmm := @run_makeMap Tryz.prog
 have m1 := MapSl.made (w.heap.size + 3) w
 have m2 := MapSl.made (w.heap.size + 3) (w.alloc (.map #[] 0))
 have m1' := m1.kept (World.grownBy_alloc (w.alloc (.map #[] 0)) (.map #[] 0) none) (by simp) (by simp)
 have hB := Blk.new ((w.alloc (.map #[] 0)).alloc (.map #[] 0)) 165 #[.slice A' l.length c', .slice A p.length c, .map (some w.heap.size), .map (some (w.heap.size + 1))]
 have m1'' := m1'.kept (World.grownBy_alloc ((w.alloc (.map #[] 0)).alloc (.map #[] 0)) (.cells #[.slice A' l.length c', .slice A p.length c, .map (some w.heap.size), .map (some (w.heap.size + 1))] 165) none) (by simp) (by simp)
 have m2' := m2.kept (World.grownBy_alloc ((w.alloc (.map #[] 0)).alloc (.map #[] 0)) (.cells #[.slice A' l.length c', .slice A p.length c, .map (some w.heap.size), .map (some (w.heap.size + 1))] 165) none) (by simp) (by simp)
 have hg3 := jd (jd (World.grownBy_alloc w (.map #[] 0) none) (.map #[] 0)) (.cells #[.slice A' l.length c', .slice A p.length c, .map (some w.heap.size), .map (some (w.heap.size + 1))] 165)
 have hsz : (((w.alloc (.map #[] 0)).alloc (.map #[] 0)).alloc (.cells #[.slice A' l.length c', .slice A p.length c, .map (some w.heap.size), .map (some (w.heap.size + 1))] 165)).heap.size = w.heap.size + 3 := by simp
 simp only [World.size_alloc] at m2' hB
 have HF0 : Hid (Fill (w.heap.size + 3) w.heap.size (w.heap.size + 1) p 0 (((w.alloc (.map #[] 0)).alloc (.map #[] 0)).alloc (.cells #[.slice A' l.length c', .slice A p.length c, .map (some w.heap.size), .map (some (w.heap.size + 1))] 165))) :=
  ⟨⟨0, by omega, m1''⟩, ⟨0, by omega, m2'⟩⟩
 clear hv hu hA hA' m1 m2 m1' m1'' m2' hbs
 go_enter Tryz.func55, Tryz.ntmps55
 go_upto_region 2 with fail
 generalize ((w.alloc (.map #[] 0)).alloc (.map #[] 0)).alloc (.cells #[.slice A' l.length c', .slice A p.length c, .map (some w.heap.size), .map (some (w.heap.size + 1))] 165) = w3 at *
 obtain ⟨bB, hbB⟩ : ∃ x, w.heap.size = x := ⟨_, rfl⟩
 rw [hbB] at hB HF0 hsz ⊢
 obtain ⟨bW, hbW⟩ : ∃ x, bB + 1 = x := ⟨_, rfl⟩
 rw [hbW] at hB HF0 ⊢
 obtain ⟨gT, hgT⟩ : ∃ x, bW + 1 = x := ⟨_, rfl⟩
 rw [hgT] at hB ⊢
 obtain ⟨base2, hb2⟩ : ∃ x, bB + 3 = x := ⟨_, rfl⟩
 rw [hb2] at HF0 hsz
 have HSZ : Hid (w.heap.size = bB ∧ bB < bW ∧ bW < gT ∧ gT < base2 ∧ w3.heap.size = base2) := ⟨hbB, by omega, by omega, by omega, hsz⟩
 clear hmm hsz hbB hbW hgT hb2
 go_wp2_with fail
 go_loopw [16] (fun iv wr => ∃ k : Nat, k ≤ p.length ∧ iv = .int .i64 k ∧ Hid (Fill base2 bB bW p k wr) ∧ Blk wr gT 165 #[.slice A' l.length c', .slice A p.length c, .map (some bB), .map (some bW)] ∧ w.grownBy wr none ∧ base2 ≤ wr.heap.size) (fun iv _ => p.length - (intOf iv).toNat)
 case atStart => exact ⟨0, by omega, rfl, HF0, hB, hg3, by have := HSZ.out; omega⟩
 case round =>
  obtain ⟨k, hk, rfl, HF, hBr, hgw, hszr⟩ := hrel
  clear hB hg3 HF0
  by_cases hlt : k < p.length
  ·have hki : (k : Int) < (p.length : Int) := by omega
   obtain ⟨g, rfl, _, hgl⟩ := HA.out (by omega)
   obtain ⟨q0, q1, q2, q3, q4, q5⟩ := (HV.out.grown hgw).at_ k hlt
   have hs14 := HBS.out _ (List.getElem_mem hlt)
   have hsz := HSZ.out
   have HLK0 : Hid (∀ flag, ∃ u, IntsFrom base2 wr u (qn (xm p flag p[k].beg k)) ∧ (xm p flag p[k].beg k = [] → u = .slice none 0 0) ∧ ∀ w' , wr.grownBy w' none → (Instr.lookup 163 (.map (some (if flag then bW else bB))) (.string p[k].beg) false).run Tryz.prog w' = .ok u w') := fun flag => jn5 HF.out flag p[k].beg (by omega)
   have HPUT0 : Hid (∀ flag W W9 u0, p[k].whole = flag → Fill base2 bB bW p k W → IntsFrom base2 W u0 (qn (xm p flag p[k].beg k)) → (xm p flag p[k].beg k = [] → u0 = .slice none 0 0) → W.grownBy W9 u0.ownBlock → ∀ u1, IntsFrom base2 W9 u1 (qn (xm p flag p[k].beg k ++ [k])) → ∃ W5, (Instr.mapUpdate 163 (.map (some (if flag then bW else bB))) (.string p[k].beg) u1).run Tryz.prog W9 = .ok () W5 ∧ Fill base2 bB bW p (k + 1) W5 ∧ W9.grownBy W5 (some (if flag then bW else bB))) := fun flag W W9 u0 hw hF hu0 hn0 hg u1 hu1 =>
    jre base2 bB bW p k hlt W W9 flag hw hF (by omega) (by omega) (by omega) hlen hs14 u0 hu0 hn0 hg u1 hu1
   have HNL0 : Hid (∀ flag, (qn (xm p flag p[k].beg k)).length ≤ 2000) := fun flag => by
    have h1 : (xm p flag p[k].beg k).length ≤ (List.range k).length := List.length_filter_le _ _
    rw [List.length_range] at h1
    unfold qn
    rw [List.length_map]
    omega
   have hgs := hgw.size
   have hglr : g < wr.heap.size := by omega
   generalize p[k].beg = B at *
   generalize p[k].ent = N at *
   generalize p[k].a = xa at *
   generalize p[k].z = xz at *
   generalize p[k].whole = H at *
   generalize p[k].zone = Z at *
   have hP := Blk.new wr 134 #[.string B, .string N, .int .i64 xa, .int .i64 xz, .bool H, .int .i64 Z]
   have hgA := World.grownBy_alloc wr (.cells #[.string B, .string N, .int .i64 xa, .int .i64 xz, .bool H, .int .i64 Z] 134) none
   have hg1 := ja hgw hgA
   have hB1 := Blk.grown hBr hgA (by simp)
   have HF1 : Hid (Fill base2 bB bW p k (wr.alloc (.cells #[.string B, .string N, .int .i64 xa, .int .i64 xz, .bool H, .int .i64 Z] 134))) := HF.out.kept hgA (fun g h => by cases h)
   go_upto_region 5 with fail
   have HGX : Hid (base2 ≤ wr.heap.size ∧ (wr.alloc (.cells #[.string B, .string N, .int .i64 xa, .int .i64 xz, .bool H, .int .i64 Z] 134)).heap.size = wr.heap.size + 1) := ⟨by omega, by simp⟩
   generalize wr.alloc (.cells #[.string B, .string N, .int .i64 xa, .int .i64 xz, .bool H, .int .i64 Z] 134) = w1 at *
   clear q0 q1 q2 q3 q4 q5
   have x0 := hP.cell 0
   have x3 := hP.cell 4
   simp only [geA, geZ, geS] at x0 x3
   have hgXT : gT ≠ wr.heap.size := by omega
   cases H
   ·obtain ⟨u0, hu0, hn0, hlk0⟩ := HLK0.out false
    have hOW := (j7 hu0 hgA).alloc (.cells #[.int .i64 k] 3)
    have HOW : Hid (World.ownsRow _ base2 3 1 u0 _ _) := (show World.ownsRow ((w1.alloc (.cells #[.int .i64 k] 3)).drew) base2 3 1 u0 _ _ from hOW)
    have HLK : Hid (∀ w', wr.grownBy w' none → (Instr.lookup 163 (.map (some bB)) (.string B) false).run Tryz.prog w' = .ok u0 w') := hlk0
    have HPD := Lib.hid (Blk.drew (Blk.alloc hP (.cells #[.int .i64 k] 3)))
    have HBD := Lib.hid (Blk.drew (Blk.alloc hB1 (.cells #[.int .i64 k] 3)))
    have HNL := Lib.hid (HNL0.out false)
    have HBL : Hid (base2 ≤ ((w1.alloc (.cells #[.int .i64 k] 3)).drew).heap.size) := by show _ ≤ _; have := HGX.out; simp; omega
    have HNE : Hid (some wr.heap.size ≠ u0.ownBlock ∧ some gT ≠ u0.ownBlock) := ⟨fun e => by have := (hu0.lt _ e.symm).2; omega, fun e => by have := (hu0.lt _ e.symm).1; omega⟩
    have hgD : wr.grownBy ((w1.alloc (.cells #[.int .i64 k] 3)).drew) none := jn (jd hgA _)
    have HGD := Lib.hid (ja hgw hgD)
    have HSD := Lib.hid (hgD.size)
    have HNG : Hid (∀ kk, u0.ownBlock = some kk → none = some kk ∨ w.heap.size ≤ kk) := fun kk h => .inr (by have := (hu0.lt _ h).1; omega)
    have HFD : Hid (Fill base2 bB bW p k ((w1.alloc (.cells #[.int .i64 k] 3)).drew)) := HF.out.kept hgD (fun g h => by cases h)
    have HPUT : Hid (∀ W9, ((w1.alloc (.cells #[.int .i64 k] 3)).drew).grownBy W9 u0.ownBlock → ∀ u1, IntsFrom base2 W9 u1 (qn (xm p false B k ++ [k])) → ∃ W5, (Instr.mapUpdate 163 (.map (some bB)) (.string B) u1).run Tryz.prog W9 = .ok () W5 ∧ Fill base2 bB bW p (k + 1) W5 ∧ W9.grownBy W5 (some bB)) := fun W9 hg u1 hu1 => HPUT0.out false _ W9 u0 rfl HFD.out HOW.out hn0 hg u1 hu1
    have cT := hB1.cell 2
    simp only [geA, geZ, geS] at cT
    clear hlk0 hOW HLK0 HPUT0 hn0 hu0
    generalize wr.heap.size = gX at *
    go_wp2_with fail
    refine wp_region_held_drew (S := fun V => V.cell? ⟨gT, 2, none⟩ = some (.map (some bB)) ∧ V.cell? ⟨gX, 0, none⟩ = some (.string B)) (by kernel_rfl) ⟨cT, x0⟩ (fun hHeld => ?_)
    refine tkH 0 39 hHeld ?_
    simp only [Act.put, ssA, ssZ, ssS]
    refine tkH 1 40 hHeld ?_
    simp only [Act.put, ssA, ssZ, ssS]
    refine tkH 2 41 hHeld ?_
    simp only [Act.put, ssA, ssZ, ssS]
    refine tkH 3 42 hHeld ?_
    simp only [Act.put, ssA, ssZ, ssS]
    refine tkH 4 43 hHeld ?_
    simp only [Act.put, ssA, ssZ, ssS]
    refine tkH 5 44 hHeld ?_
    simp only [Act.put, ssA, ssZ, ssS]
    refine tkH 6 45 hHeld ?_
    simp only [Act.put, ssA, ssZ, ssS]
    refine tkH 7 46 hHeld ?_
    simp only [Act.put, ssA, ssZ, ssS]
    refine tkH 8 47 hHeld ?_
    simp only [Act.put, ssA, ssZ, ssS]
    refine tkH 9 48 hHeld ?_
    simp only [Act.put, ssA, ssZ, ssS]
    refine tkH 10 49 hHeld ?_
    simp only [Act.put, ssA, ssZ, ssS]
    refine tkH 11 50 hHeld ?_
    simp only [Act.put, ssA, ssZ, ssS]
    refine tkH 13 52 hHeld ?_
    simp only [Act.put, ssA, ssZ, ssS]
    refine wpAnyH_ready (rs := [12, 14]) (by kernel_rfl) (by simp) ?_
    refine AllReadyH.cons (o := _) rfl (fun K hK => ?_) (AllReadyH.cons (o := _) rfl (fun K hK => ?_) AllReadyH.nil)
    ·have hlk := HLK.out _ (ja hgA (show w1.grownBy w1.drew none from (by repeat (first | exact jf _ _ | assumption | refine jn ?_ | refine jd ?_ _))))
     go_simp
     refine hK.out _ _ (⟨cT, x0⟩) (fun hHeld12 => ?_)
     clear hK K
     (try simp only [Act.put, ssA, ssZ, ssS])
     refine wpAnyH_ready (rs := [14]) (by kernel_rfl) (by simp) ?_
     refine AllReadyH.cons (o := _) rfl (fun K hK => ?_) AllReadyH.nil
     go_simp
     refine hK.out _ _ (⟨HBD.out.cell 2, HPD.out.cell 0⟩) (fun hHeld14 => ?_)
     clear hK K
     (try simp only [Act.put, ssA, ssZ, ssS])
     refine wpAnyH_ready (rs := [15]) (by kernel_rfl) (by simp) ?_
     refine AllReadyH.cons (o := _) rfl (fun K hK => ?_) AllReadyH.nil
     refine step_append_lies _ (by rfl) (.tmp 51) (.tmp 53) 22 (by rfl) base2 3 i0 _ 1 8 Tryz.underlying22 hi hz0 hz1 hz2 rfl (by decide) u0 _ _ (by simp [Act.eval]) HOW.out ⟨_, 0, none⟩ 1 1 [.int .i64 k] (by simp [Act.eval]) rfl (qw _ (k : Int) _) (j6 (k : Int)) (by decide) (by have := HNL.out; unfold maxLen; omega) (by have := HNL.out; omega) HBL.out _ rfl ?_
     intro g9 cap w9 hown9 hg9 hat hglt
     have hP9 := Blk.grown (row := u0.ownBlock) HPD.out hg9 HNE.out.1
     have hB9 := Blk.grown (row := u0.ownBlock) HBD.out hg9 HNE.out.2
     refine hK.out _ _ ⟨hB9.cell 2, hP9.cell 0⟩ (fun hHeld15 => ?_)
     clear hK K
     (try simp only [Act.put, ssA, ssZ, ssS])
     refine wpAnyH_ready (rs := [16]) (by kernel_rfl) (by simp) ?_
     refine AllReadyH.cons (o := _) rfl (fun K hK => ?_) AllReadyH.nil
     obtain ⟨w5, hrun, hF5, hg5⟩ := HPUT.out w9 hg9 _ (by rw [jcv]; unfold IntsFrom; rw [List.map_append, List.length_append]; simpa using hown9)
     have hP5 := Blk.grown hP9 hg5 (by simp; omega)
     have hB5 := Blk.grown hB9 hg5 (by simp; omega)
     go_simp
     refine hK.out _ _ ⟨hB5.cell 2, hP5.cell 0⟩ (fun hHeld16 => ?_)
     clear hK K
     (try simp only [Act.put, ssA, ssZ, ssS])
     refine wpAnyH_done (by kernel_rfl) ?_ _
     go_wp2_with fail
     go_roundw
     case rel => exact ⟨k + 1, by omega, by go_num, hF5, hB5, jk (jk HGD.out hg9 HNG.out) hg5 (fun kk h => .inr (by have := HSZ.out; injection h with h; omega)), by have := hg9.size; have := hg5.size; have := HSD.out; omega⟩
     case measure => simp [intOf]; omega
    go_simp
    refine hK.out _ _ (⟨HBD.out.cell 2, HPD.out.cell 0⟩) (fun hHeld14 => ?_)
    clear hK K
    (try simp only [Act.put, ssA, ssZ, ssS])
    refine wpAnyH_ready (rs := [12]) (by kernel_rfl) (by simp) ?_
    refine AllReadyH.cons (o := _) rfl (fun K hK => ?_) AllReadyH.nil
    have hlk := HLK.out _ (ja hgA (show w1.grownBy ((w1.alloc (.cells #[.int .i64 k] 3)).drew) none from (by repeat (first | exact jf _ _ | assumption | refine jn ?_ | refine jd ?_ _))))
    go_simp
    refine hK.out _ _ (⟨HBD.out.cell 2, HPD.out.cell 0⟩) (fun hHeld12 => ?_)
    clear hK K
    (try simp only [Act.put, ssA, ssZ, ssS])
    refine wpAnyH_ready (rs := [15]) (by kernel_rfl) (by simp) ?_
    refine AllReadyH.cons (o := _) rfl (fun K hK => ?_) AllReadyH.nil
    refine step_append_lies _ (by rfl) (.tmp 51) (.tmp 53) 22 (by rfl) base2 3 i0 _ 1 8 Tryz.underlying22 hi hz0 hz1 hz2 rfl (by decide) u0 _ _ (by simp [Act.eval]) HOW.out ⟨_, 0, none⟩ 1 1 [.int .i64 k] (by simp [Act.eval]) rfl (qw _ (k : Int) _) (j6 (k : Int)) (by decide) (by have := HNL.out; unfold maxLen; omega) (by have := HNL.out; omega) HBL.out _ rfl ?_
    intro g9 cap w9 hown9 hg9 hat hglt
    have hP9 := Blk.grown (row := u0.ownBlock) HPD.out hg9 HNE.out.1
    have hB9 := Blk.grown (row := u0.ownBlock) HBD.out hg9 HNE.out.2
    refine hK.out _ _ ⟨hB9.cell 2, hP9.cell 0⟩ (fun hHeld15 => ?_)
    clear hK K
    (try simp only [Act.put, ssA, ssZ, ssS])
    refine wpAnyH_ready (rs := [16]) (by kernel_rfl) (by simp) ?_
    refine AllReadyH.cons (o := _) rfl (fun K hK => ?_) AllReadyH.nil
    obtain ⟨w5, hrun, hF5, hg5⟩ := HPUT.out w9 hg9 _ (by rw [jcv]; unfold IntsFrom; rw [List.map_append, List.length_append]; simpa using hown9)
    have hP5 := Blk.grown hP9 hg5 (by simp; omega)
    have hB5 := Blk.grown hB9 hg5 (by simp; omega)
    go_simp
    refine hK.out _ _ ⟨hB5.cell 2, hP5.cell 0⟩ (fun hHeld16 => ?_)
    clear hK K
    (try simp only [Act.put, ssA, ssZ, ssS])
    refine wpAnyH_done (by kernel_rfl) ?_ _
    go_wp2_with fail
    go_roundw
    case rel => exact ⟨k + 1, by omega, by go_num, hF5, hB5, jk (jk HGD.out hg9 HNG.out) hg5 (fun kk h => .inr (by have := HSZ.out; injection h with h; omega)), by have := hg9.size; have := hg5.size; have := HSD.out; omega⟩
    case measure => simp [intOf]; omega
   obtain ⟨u0, hu0, hn0, hlk0⟩ := HLK0.out true
   have hOW := (j7 hu0 hgA).alloc (.cells #[.int .i64 k] 3)
   have HOW : Hid (World.ownsRow _ base2 3 1 u0 _ _) := (show World.ownsRow ((w1.alloc (.cells #[.int .i64 k] 3)).drew) base2 3 1 u0 _ _ from hOW)
   have HLK : Hid (∀ w', wr.grownBy w' none → (Instr.lookup 163 (.map (some bW)) (.string B) false).run Tryz.prog w' = .ok u0 w') := hlk0
   have HPD := Lib.hid (Blk.drew (Blk.alloc hP (.cells #[.int .i64 k] 3)))
   have HBD := Lib.hid (Blk.drew (Blk.alloc hB1 (.cells #[.int .i64 k] 3)))
   have HNL := Lib.hid (HNL0.out true)
   have HBL : Hid (base2 ≤ ((w1.alloc (.cells #[.int .i64 k] 3)).drew).heap.size) := by show _ ≤ _; have := HGX.out; simp; omega
   have HNE : Hid (some wr.heap.size ≠ u0.ownBlock ∧ some gT ≠ u0.ownBlock) := ⟨fun e => by have := (hu0.lt _ e.symm).2; omega, fun e => by have := (hu0.lt _ e.symm).1; omega⟩
   have hgD : wr.grownBy ((w1.alloc (.cells #[.int .i64 k] 3)).drew) none := jn (jd hgA _)
   have HGD := Lib.hid (ja hgw hgD)
   have HSD := Lib.hid (hgD.size)
   have HNG : Hid (∀ kk, u0.ownBlock = some kk → none = some kk ∨ w.heap.size ≤ kk) := fun kk h => .inr (by have := (hu0.lt _ h).1; omega)
   have HFD : Hid (Fill base2 bB bW p k ((w1.alloc (.cells #[.int .i64 k] 3)).drew)) := HF.out.kept hgD (fun g h => by cases h)
   have HPUT : Hid (∀ W9, ((w1.alloc (.cells #[.int .i64 k] 3)).drew).grownBy W9 u0.ownBlock → ∀ u1, IntsFrom base2 W9 u1 (qn (xm p true B k ++ [k])) → ∃ W5, (Instr.mapUpdate 163 (.map (some bW)) (.string B) u1).run Tryz.prog W9 = .ok () W5 ∧ Fill base2 bB bW p (k + 1) W5 ∧ W9.grownBy W5 (some bW)) := fun W9 hg u1 hu1 => HPUT0.out true _ W9 u0 rfl HFD.out HOW.out hn0 hg u1 hu1
   have cT := hB1.cell 3
   simp only [geA, geZ, geS] at cT
   clear hlk0 hOW HLK0 HPUT0 hn0 hu0
   generalize wr.heap.size = gX at *
   go_wp2_with fail
   refine wp_region_held_drew (S := fun V => V.cell? ⟨gT, 3, none⟩ = some (.map (some bW)) ∧ V.cell? ⟨gX, 0, none⟩ = some (.string B)) (by kernel_rfl) ⟨cT, x0⟩ (fun hHeld => ?_)
   refine tkH 0 23 hHeld ?_
   simp only [Act.put, ssA, ssZ, ssS]
   refine tkH 1 24 hHeld ?_
   simp only [Act.put, ssA, ssZ, ssS]
   refine tkH 2 25 hHeld ?_
   simp only [Act.put, ssA, ssZ, ssS]
   refine tkH 3 26 hHeld ?_
   simp only [Act.put, ssA, ssZ, ssS]
   refine tkH 4 27 hHeld ?_
   simp only [Act.put, ssA, ssZ, ssS]
   refine tkH 5 28 hHeld ?_
   simp only [Act.put, ssA, ssZ, ssS]
   refine tkH 6 29 hHeld ?_
   simp only [Act.put, ssA, ssZ, ssS]
   refine tkH 7 30 hHeld ?_
   simp only [Act.put, ssA, ssZ, ssS]
   refine tkH 8 31 hHeld ?_
   simp only [Act.put, ssA, ssZ, ssS]
   refine tkH 9 32 hHeld ?_
   simp only [Act.put, ssA, ssZ, ssS]
   refine tkH 10 33 hHeld ?_
   simp only [Act.put, ssA, ssZ, ssS]
   refine tkH 11 34 hHeld ?_
   simp only [Act.put, ssA, ssZ, ssS]
   refine tkH 13 36 hHeld ?_
   simp only [Act.put, ssA, ssZ, ssS]
   refine wpAnyH_ready (rs := [12, 14]) (by kernel_rfl) (by simp) ?_
   refine AllReadyH.cons (o := _) rfl (fun K hK => ?_) (AllReadyH.cons (o := _) rfl (fun K hK => ?_) AllReadyH.nil)
   ·have hlk := HLK.out _ (ja hgA (show w1.grownBy w1.drew none from (by repeat (first | exact jf _ _ | assumption | refine jn ?_ | refine jd ?_ _))))
    go_simp
    refine hK.out _ _ (⟨cT, x0⟩) (fun hHeld12 => ?_)
    clear hK K
    (try simp only [Act.put, ssA, ssZ, ssS])
    refine wpAnyH_ready (rs := [14]) (by kernel_rfl) (by simp) ?_
    refine AllReadyH.cons (o := _) rfl (fun K hK => ?_) AllReadyH.nil
    go_simp
    refine hK.out _ _ (⟨HBD.out.cell 3, HPD.out.cell 0⟩) (fun hHeld14 => ?_)
    clear hK K
    (try simp only [Act.put, ssA, ssZ, ssS])
    refine wpAnyH_ready (rs := [15]) (by kernel_rfl) (by simp) ?_
    refine AllReadyH.cons (o := _) rfl (fun K hK => ?_) AllReadyH.nil
    refine step_append_lies _ (by rfl) (.tmp 35) (.tmp 37) 22 (by rfl) base2 3 i0 _ 1 8 Tryz.underlying22 hi hz0 hz1 hz2 rfl (by decide) u0 _ _ (by simp [Act.eval]) HOW.out ⟨_, 0, none⟩ 1 1 [.int .i64 k] (by simp [Act.eval]) rfl (qw _ (k : Int) _) (j6 (k : Int)) (by decide) (by have := HNL.out; unfold maxLen; omega) (by have := HNL.out; omega) HBL.out _ rfl ?_
    intro g9 cap w9 hown9 hg9 hat hglt
    have hP9 := Blk.grown (row := u0.ownBlock) HPD.out hg9 HNE.out.1
    have hB9 := Blk.grown (row := u0.ownBlock) HBD.out hg9 HNE.out.2
    refine hK.out _ _ ⟨hB9.cell 3, hP9.cell 0⟩ (fun hHeld15 => ?_)
    clear hK K
    (try simp only [Act.put, ssA, ssZ, ssS])
    refine wpAnyH_ready (rs := [16]) (by kernel_rfl) (by simp) ?_
    refine AllReadyH.cons (o := _) rfl (fun K hK => ?_) AllReadyH.nil
    obtain ⟨w5, hrun, hF5, hg5⟩ := HPUT.out w9 hg9 _ (by rw [jcv]; unfold IntsFrom; rw [List.map_append, List.length_append]; simpa using hown9)
    have hP5 := Blk.grown hP9 hg5 (by simp; omega)
    have hB5 := Blk.grown hB9 hg5 (by simp; omega)
    go_simp
    refine hK.out _ _ ⟨hB5.cell 3, hP5.cell 0⟩ (fun hHeld16 => ?_)
    clear hK K
    (try simp only [Act.put, ssA, ssZ, ssS])
    refine wpAnyH_done (by kernel_rfl) ?_ _
    go_wp2_with fail
    go_roundw
    case rel => exact ⟨k + 1, by omega, by go_num, hF5, hB5, jk (jk HGD.out hg9 HNG.out) hg5 (fun kk h => .inr (by have := HSZ.out; injection h with h; omega)), by have := hg9.size; have := hg5.size; have := HSD.out; omega⟩
    case measure => simp [intOf]; omega
   go_simp
   refine hK.out _ _ (⟨HBD.out.cell 3, HPD.out.cell 0⟩) (fun hHeld14 => ?_)
   clear hK K
   (try simp only [Act.put, ssA, ssZ, ssS])
   refine wpAnyH_ready (rs := [12]) (by kernel_rfl) (by simp) ?_
   refine AllReadyH.cons (o := _) rfl (fun K hK => ?_) AllReadyH.nil
   have hlk := HLK.out _ (ja hgA (show w1.grownBy ((w1.alloc (.cells #[.int .i64 k] 3)).drew) none from (by repeat (first | exact jf _ _ | assumption | refine jn ?_ | refine jd ?_ _))))
   go_simp
   refine hK.out _ _ (⟨HBD.out.cell 3, HPD.out.cell 0⟩) (fun hHeld12 => ?_)
   clear hK K
   (try simp only [Act.put, ssA, ssZ, ssS])
   refine wpAnyH_ready (rs := [15]) (by kernel_rfl) (by simp) ?_
   refine AllReadyH.cons (o := _) rfl (fun K hK => ?_) AllReadyH.nil
   refine step_append_lies _ (by rfl) (.tmp 35) (.tmp 37) 22 (by rfl) base2 3 i0 _ 1 8 Tryz.underlying22 hi hz0 hz1 hz2 rfl (by decide) u0 _ _ (by simp [Act.eval]) HOW.out ⟨_, 0, none⟩ 1 1 [.int .i64 k] (by simp [Act.eval]) rfl (qw _ (k : Int) _) (j6 (k : Int)) (by decide) (by have := HNL.out; unfold maxLen; omega) (by have := HNL.out; omega) HBL.out _ rfl ?_
   intro g9 cap w9 hown9 hg9 hat hglt
   have hP9 := Blk.grown (row := u0.ownBlock) HPD.out hg9 HNE.out.1
   have hB9 := Blk.grown (row := u0.ownBlock) HBD.out hg9 HNE.out.2
   refine hK.out _ _ ⟨hB9.cell 3, hP9.cell 0⟩ (fun hHeld15 => ?_)
   clear hK K
   (try simp only [Act.put, ssA, ssZ, ssS])
   refine wpAnyH_ready (rs := [16]) (by kernel_rfl) (by simp) ?_
   refine AllReadyH.cons (o := _) rfl (fun K hK => ?_) AllReadyH.nil
   obtain ⟨w5, hrun, hF5, hg5⟩ := HPUT.out w9 hg9 _ (by rw [jcv]; unfold IntsFrom; rw [List.map_append, List.length_append]; simpa using hown9)
   have hP5 := Blk.grown hP9 hg5 (by simp; omega)
   have hB5 := Blk.grown hB9 hg5 (by simp; omega)
   go_simp
   refine hK.out _ _ ⟨hB5.cell 3, hP5.cell 0⟩ (fun hHeld16 => ?_)
   clear hK K
   (try simp only [Act.put, ssA, ssZ, ssS])
   refine wpAnyH_done (by kernel_rfl) ?_ _
   go_wp2_with fail
   go_roundw
   case rel => exact ⟨k + 1, by omega, by go_num, hF5, hB5, jk (jk HGD.out hg9 HNG.out) hg5 (fun kk h => .inr (by have := HSZ.out; injection h with h; omega)), by have := hg9.size; have := hg5.size; have := HSD.out; omega⟩
   case measure => simp [intOf]; omega
  have hkl : ¬ (k : Int) < (p.length : Int) := by omega
  obtain rfl : k = p.length := by omega
  go_wp2_with fail
  go_ret
  obtain ⟨⟨n, _, h1⟩, ⟨m, _, h2⟩⟩ := HF.out
  exact ⟨base2, gT, bB, bW, rfl, ⟨⟨hBr.cell 0, hBr.cell 1, HU.out.grown hgw, HV.out.grown hgw⟩, hBr.cell 2, hBr.cell 3, ⟨n, h1⟩, ⟨m, h2⟩⟩, by have := HSZ.out; omega, hgw⟩
end Go.Proofs.YtbamhgaghngjiaaGreatDoor
