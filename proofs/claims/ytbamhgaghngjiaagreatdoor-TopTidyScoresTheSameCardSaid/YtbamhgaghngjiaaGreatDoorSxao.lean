/- Parts of a proof: TabPlain, TabBest, MapSl, SortInts, Times, AheadOf. Conditions: as each statement says. -/
import Derived.Test.YtbamhgaghngjiaaGreatDoorSxan
import Derived.WideKeyPair
import Derived.WalkArith
import Derived.Sort.OwnSortedInts
import Derived.Lib.OwnBridge
import Derived.Lib.SlicesCompact
import Derived.Lib.RowBridge
import Derived.Laws.OwnMore
namespace Go.Proofs.YtbamhgaghngjiaaGreatDoor
open Go.RowKit
set_option linter.unusedVariables false
set_option linter.unusedSimpArgs false

structure PfxOk (l : List Ent) (x : Pfx) : Prop where
 form : jma x = false
 has : (xo l x.ent).isSome = true
 time : x8 x.a x.z = true
 z0 : 0 ≤ x.zone
 z1 : x.zone ≤ 90
theorem jwn {l : List Ent} {o : Option Pfx} {x : Pfx} (h : jd0 l o x = 0) : PfxOk l x ∧ ∀ y, o = some y → jao y x < 0 ∧ ¬ (y.beg = x.beg ∧ y.whole = x.whole ∧ x.a < y.z) := by
 unfold jd0 at h
 by_cases h1 : jma x = true
 ·rw [if_pos h1] at h; omega
 rw [if_neg h1] at h
 by_cases h2 : (xo l x.ent).isSome = false
 ·rw [if_pos h2] at h; omega
 rw [if_neg h2] at h
 by_cases h3 : x8 x.a x.z = false
 ·rw [if_pos h3] at h; omega
 rw [if_neg h3] at h
 by_cases h4 : qy x.zone 0 90 = true
 ·rw [if_pos h4] at h; omega
 rw [if_neg h4] at h
 have hz : 0 ≤ x.zone ∧ x.zone ≤ 90 := by
  have h5 : qy x.zone 0 90 = false := by simpa using h4
  unfold qy at h5
  simp at h5
  omega
 refine ⟨⟨by simpa using h1, (by cases hc : (xo l x.ent).isSome with | true => rfl | false => exact absurd hc h2), by simpa using h3, hz.1, hz.2⟩, fun y hy => ?_⟩
 subst hy
 by_cases h5 : 0 ≤ jao y x
 ·have h6 : (if 0 ≤ jao y x then (7 : Int) else if y.beg = x.beg ∧ y.whole = x.whole ∧ x.a < y.z then 13 else 0) = 0 := h
  rw [if_pos h5] at h6; omega
 have h6 : (if 0 ≤ jao y x then (7 : Int) else if y.beg = x.beg ∧ y.whole = x.whole ∧ x.a < y.z then 13 else 0) = 0 := h
 rw [if_neg h5] at h6
 refine ⟨by omega, fun h7 => ?_⟩
 rw [if_pos h7] at h6
 omega
theorem jjy {l : List Ent} : ∀ {p : List Pfx} {o : Option Pfx}, xq l o p = 0 → (∀ x ∈ p, PfxOk l x) ∧ (∀ y x r, o = some y → p = x :: r → jao y x < 0 ∧ ¬ (y.beg = x.beg ∧ y.whole = x.whole ∧ x.a < y.z)) ∧ ∀ k (hk : k + 1 < p.length), jao p[k] p[k + 1] < 0 ∧ ¬ (p[k].beg = p[k + 1].beg ∧ p[k].whole = p[k + 1].whole ∧ p[k + 1].a < p[k].z)
 | [], o, _ => ⟨fun x hx => by simp at hx, fun y x r _ h => by simp at h, fun k hk => by simp at hk⟩
 | x :: r, o, h => by
   unfold xq at h
   split at h
   ·rename_i h0
    obtain ⟨h1, h2⟩ := jwn h0
    obtain ⟨h3, h4, h5⟩ := jjy h
    refine ⟨fun y hy => ?_, fun y x' r' ho hp => ?_, fun k hk => ?_⟩
    ·rcases List.mem_cons.1 hy with rfl | hy
     ·exact h1
     exact h3 y hy
    ·injection hp with hp1 hp2
     subst hp1
     exact h2 y ho
    cases k with
    | zero =>
      cases r with
      | nil => simp at hk
      | cons x2 r2 => exact h4 x x2 r2 rfl rfl
    | succ k => exact h5 k (by simpa using hk)
   rename_i h0
   exact absurd h h0
structure TabRight (l : List Ent) (p : List Pfx) : Prop where
 ok : TabOk l p
 pfx : ∀ x ∈ p, PfxOk l x
 next : ∀ k (hk : k + 1 < p.length), jao p[k] p[k + 1] < 0 ∧ ¬ (p[k].beg = p[k + 1].beg ∧ p[k].whole = p[k + 1].whole ∧ p[k + 1].a < p[k].z)
theorem ja7 {l : List Ent} {p : List Pfx} (h : yh l p = 0) : TabRight l p := by
 unfold yh at h
 by_cases hE : xk l = 0
 ·rw [if_neg (by simpa using hE)] at h
  by_cases hb : 2000 < p.length
  ·rw [if_pos hb] at h; omega
  rw [if_neg hb] at h
  obtain ⟨h1, _, h3⟩ := jjy h
  exact ⟨⟨je4 hE, by omega, fun x hx => (h1 x hx).has⟩, h1, h3⟩
 rw [if_pos hE] at h
 exact absurd h hE
theorem jgj {t : ByteArray} (h : 0 ≤ jp t.data.toList) : t.size ≤ 10 ∧ (jp t.data.toList).toNat < t.size := by
 have hl : t.data.toList.length = t.size := by simp
 rcases xp t.data.toList with h1 | ⟨_, _, h2, h3, h4, h5, _⟩
 ·omega
 omega
theorem jcf {s : ByteArray} {q : ByteArray × Nat × Int × ByteArray} (h : jo s = some q) : q.1.size ≤ 100 ∧ q.2.2.2.size ≤ 100 ∧ q.2.1 < q.1.size := by
 unfold jo at h
 by_cases h1 : 14 < s.size
 ·rw [if_pos h1] at h; simp at h
 rw [if_neg h1] at h
 by_cases h2 : 0 ≤ jp s.data.toList
 ·rw [if_pos h2] at h
  obtain rfl := Option.some.inj h
  have := jgj h2
  exact ⟨by show s.size ≤ 100; omega, by show (0 : Nat) ≤ 100; omega, this.2⟩
 rw [if_neg h2] at h
 by_cases h3 : Lib.indexByte s.data.toList 47 < 0
 ·rw [if_pos h3] at h; simp at h
 rw [if_neg h3] at h
 simp only at h
 generalize (Lib.indexByte s.data.toList 47).toNat = i at h
 have ha : (s.extract 0 i).size ≤ 14 := by rw [ByteArray.size_extract]; omega
 have hb : (s.extract (i + 1) s.size).size ≤ 14 := by rw [ByteArray.size_extract]; omega
 generalize s.extract 0 i = a at *
 generalize s.extract (i + 1) s.size = b at *
 by_cases h4 : 0 ≤ jp b.data.toList ∧ jq a.data.toList = true
 ·rw [if_pos h4] at h
  obtain rfl := Option.some.inj h
  have := jgj h4.1
  exact ⟨by show b.size ≤ 100; omega, by show a.size ≤ 100; omega, this.2⟩
 rw [if_neg h4] at h
 by_cases h5 : 0 ≤ jp a.data.toList ∧ ql b.data.toList ≠ 0
 ·rw [if_pos h5] at h
  obtain rfl := Option.some.inj h
  have := jgj h5.1
  refine ⟨by show a.size ≤ 100; omega, ?_, this.2⟩
  show (xh b).size ≤ 100
  unfold xh
  split
  ·omega
  show (0 : Nat) ≤ 100; omega
 rw [if_neg h5] at h; simp at h
theorem jss (base gT : Nat) (u v : Value) (l : List Ent) (p : List Pfx) (k : Nat) (w : World) (hT : TabAt base gT u v l p w) (hO : TabOk l p) (hlt : k < p.length) :
 Calls Tryz.prog 120 #[.pointer (some ⟨gT, 0, none⟩), .int .i64 k] w fun r w' => r = .returned (.bool (decide (tmZ l p[k] ≤ tmA l p[k]))) ∧ w.grownBy w' none := by
 have HT := Lib.hid (jih base gT u v l p k w hT hO hlt)
 generalize tmA l p[k] = TA at *
 generalize tmZ l p[k] = TZ at *
 obtain ⟨B, hB⟩ : ∃ B, decide (TZ ≤ TA) = B := ⟨_, rfl⟩
 rw [hB]
 have HB := Lib.hid hB
 clear hT hB
 go_enter Tryz.func120, Tryz.ntmps120
 go_wp2_with fail
 refine HT.out.mono ?_
 rintro _ w2 ⟨rfl, hg2⟩
 have hX := Blk.new w2 29 #[.int .i64 TA, .int .i64 TZ]
 have hg3 := jd hg2 (.cells #[.int .i64 TA, .int .i64 TZ] 29)
 go_upto_region 2 with fail
 generalize w2.alloc (.cells #[.int .i64 TA, .int .i64 TZ] 29) = w3 at *
 have x0 := Blk.cell hX 0
 have x1 := Blk.cell hX 1
 simp only [geA, geZ, geS] at x0 x1
 go_wp2_with fail
 go_ret
 exact ⟨yg (by first | exact HB.out | rfl), hg3⟩
def Best (C : Nat → Prop) (len : Nat → Nat) (r : Int) : Prop := (r = -1 ∧ ∀ j, ¬ C j) ∨ ∃ i : Nat, r = i ∧ C i ∧ ∀ j, C j → len j < len i ∨ (len j = len i ∧ i ≤ j)
theorem Best.one {C : Nat → Prop} {len : Nat → Nat} {r s : Int} (h : Best C len r) (h' : Best C len s) : r = s := by
 rcases h with ⟨rfl, h⟩ | ⟨i, rfl, hi, h⟩ <;> rcases h' with ⟨rfl, h'⟩ | ⟨i', rfl, hi', h'⟩
 ·rfl
 ·exact absurd hi' (h _)
 ·exact absurd hi (h' _)
 have a := h i' hi'
 have b := h' i hi
 omega
theorem Best.of {C C' : Nat → Prop} {len : Nat → Nat} {r : Int} (h : Best C len r) (hc : ∀ j, C j ↔ C' j) : Best C' len r := by
 rcases h with ⟨rfl, h⟩ | ⟨i, rfl, hi, h⟩
 ·exact .inl ⟨rfl, fun j hj => h j ((hc j).2 hj)⟩
 exact .inr ⟨i, rfl, (hc i).1 hi, fun j hj => h j ((hc j).2 hj)⟩
def jpe (p : List Pfx) (j : Nat) : Nat := match p[j]? with | none => 0 | some y => y.beg.size
theorem jcw (p : List Pfx) (j : Nat) (h : j < p.length) : jpe p j = p[j].beg.size := by
 unfold jpe; rw [List.getElem?_eq_getElem h]
theorem jg9 (l : List Ent) (p : List Pfx) (place : ByteArray) (t but : Int) : ∀ k : Nat, k ≤ p.length →
 Best (fun j => j < k ∧ ∃ h : j < p.length, jxx l place t but j p[j] = true) (jpe p) (jci l p place t but k)
 | 0, _ => .inl ⟨rfl, fun j hj => by omega⟩
 | k + 1, hk => by
   have ih := jg9 l p place t but k (by omega)
   rw [jqh l p place t but k (by omega)]
   have hlk := jcw p k (by omega)
   by_cases hb : jxx l place t but k p[k] = true
   ·rcases ih with ⟨hr, ih⟩ | ⟨i, hr, hi, ih⟩
    ·rw [hr, hb]
     refine .inr ⟨k, by simp, ⟨by omega, by omega, hb⟩, fun j hj => ?_⟩
     rcases Nat.lt_or_ge j k with h | h
     ·exact absurd ⟨h, hj.2⟩ (ih j)
     obtain rfl : j = k := by omega
     exact .inr ⟨rfl, Nat.le_refl _⟩
    rw [hr, hb]
    have hbn : jzx p (i : Int) = jpe p i := rfl
    rw [hbn]
    have hi0 : decide ((i : Int) < 0) = false := by rw [decide_eq_false_iff_not]; omega
    rw [hi0]
    by_cases hlt : jpe p i < p[k].beg.size
    ·rw [if_pos (by simpa using hlt)]
     refine .inr ⟨k, rfl, ⟨by omega, by omega, hb⟩, fun j hj => ?_⟩
     rcases Nat.lt_or_ge j k with h | h
     ·have := ih j ⟨h, hj.2⟩
      left
      omega
     obtain rfl : j = k := by omega
     exact .inr ⟨rfl, Nat.le_refl _⟩
    rw [if_neg (by simpa using hlt)]
    refine .inr ⟨i, rfl, ⟨by have := hi.1; omega, hi.2⟩, fun j hj => ?_⟩
    rcases Nat.lt_or_ge j k with h | h
    ·exact ih j ⟨h, hj.2⟩
    obtain rfl : j = k := by omega
    have := hi.1
    omega
   have hb2 : jxx l place t but k p[k] = false := by simpa using hb
   rw [hb2, Bool.false_and, if_neg (by simp)]
   refine ih.of fun j => ?_
   constructor
   ·exact fun h => ⟨by omega, h.2⟩
   intro h
   rcases Nat.lt_or_ge j k with h1 | h1
   ·exact ⟨h1, h.2⟩
   obtain rfl : j = k := by omega
   obtain ⟨_, h3⟩ := h.2
   exact absurd h3 hb
def jv9 (p : List Pfx) (flag : Bool) (s : ByteArray) (i : Nat) : Bool := match p[i]? with | none => false | some x => (x.whole == flag) && decide (x.beg = s)
def xn (p : List Pfx) (flag : Bool) (s : ByteArray) (k : Nat) : List Nat := (List.range k).filter (jv9 p flag s)
def jcs (p : List Pfx) (flag : Bool) (s : ByteArray) : List Nat := xn p flag s p.length
theorem jhb (p : List Pfx) (flag : Bool) (s : ByteArray) (k : Nat) (h : k < p.length) : xn p flag s (k + 1) = if p[k].whole = flag ∧ p[k].beg = s then xn p flag s k ++ [k] else xn p flag s k := by
 unfold xn
 rw [List.range_succ, List.filter_append]
 have hc : jv9 p flag s k = decide (p[k].whole = flag ∧ p[k].beg = s) := by
  unfold jv9
  rw [List.getElem?_eq_getElem h]
  simp [Bool.decide_and]
  cases p[k].whole <;> cases flag <;> rfl
 by_cases hh : p[k].whole = flag ∧ p[k].beg = s
 ·rw [if_pos hh, List.filter_cons, hc, decide_eq_true hh]; rfl
 rw [if_neg hh, List.filter_cons, hc, decide_eq_false hh]; simp
theorem jo1 {p : List Pfx} {flag : Bool} {s : ByteArray} {i : Nat} : jv9 p flag s i = true ↔ ∃ h : i < p.length, p[i].whole = flag ∧ p[i].beg = s := by
 unfold jv9
 by_cases h : i < p.length
 ·rw [List.getElem?_eq_getElem h]
  constructor
  ·intro hh
   simp at hh
   exact ⟨h, hh.1, hh.2⟩
  rintro ⟨_, h1, h2⟩
  simp [h1, h2]
 rw [List.getElem?_eq_none (by omega)]
 constructor
 ·intro hh; cases hh
 rintro ⟨h1, _⟩; exact absurd h1 h
theorem idxL_mem {p : List Pfx} {flag : Bool} {s : ByteArray} {i : Nat} : i ∈ jcs p flag s ↔ ∃ h : i < p.length, p[i].whole = flag ∧ p[i].beg = s := by
 unfold jcs xn
 rw [List.mem_filter, jo1]
 constructor
 ·exact fun h => h.2
 exact fun h => ⟨List.mem_range.2 h.1, h⟩
theorem jdi {p : List Pfx} {flag : Bool} {s : ByteArray} {i k : Nat} (h : i ∈ xn p flag s k) : i < k ∧ ∃ h : i < p.length, p[i].whole = flag ∧ p[i].beg = s := by
 unfold xn at h
 rw [List.mem_filter, jo1] at h
 exact ⟨List.mem_range.1 h.1, h.2⟩
theorem jff (p : List Pfx) (flag : Bool) (s : ByteArray) : (jcs p flag s).Pairwise (· < ·) := List.Pairwise.filter _ List.pairwise_lt_range
theorem jfe (l : List Ent) (p : List Pfx) (t : Int) : ∀ js : List Nat, js.Pairwise (· < ·) → (∀ j ∈ js, j < p.length) →
 (jc9 l p t js = -1 ∧ ∀ j ∈ js, ∀ h : j < p.length, jgo l p[j] t = false) ∨ ∃ i ∈ js, ∃ h : i < p.length, jc9 l p t js = i ∧ jgo l p[i] t = true ∧ ∀ j ∈ js, (∃ h : j < p.length, jgo l p[j] t = true) → i ≤ j
 | [], _, _ => .inl ⟨rfl, fun j hj => by simp at hj⟩
 | a :: r, hs, hl => by
   have hal := hl a (by simp)
   have hst : jc9 l p t (a :: r) = if jgo l p[a] t then (a : Int) else jc9 l p t r := by
    show (match p[a]? with | none => _ | some q => _) = _
    rw [List.getElem?_eq_getElem hal]
    simp only [jh7]
   rw [hst]
   obtain ⟨h1, h2⟩ := List.pairwise_cons.1 hs
   by_cases hc : jgo l p[a] t = true
   ·rw [if_pos hc]
    refine .inr ⟨a, by simp, hal, rfl, hc, fun j hj _ => ?_⟩
    rcases List.mem_cons.1 hj with rfl | hj
    ·exact Nat.le_refl _
    exact Nat.le_of_lt (h1 j hj)
   rw [if_neg hc]
   rcases jfe l p t r h2 (fun j hj => hl j (by simp [hj])) with ⟨h3, h4⟩ | ⟨i, hi, hil, h3, h4, h5⟩
   ·refine .inl ⟨h3, fun j hj h => ?_⟩
    rcases List.mem_cons.1 hj with rfl | hj
    ·simpa using hc
    exact h4 j hj h
   refine .inr ⟨i, by simp [hi], hil, h3, h4, fun j hj hjc => ?_⟩
   rcases List.mem_cons.1 hj with rfl | hj
   ·obtain ⟨_, h6⟩ := hjc
    exact absurd h6 hc
   exact h5 j hj hjc
def jqr (l : List Ent) (p : List Pfx) (t : Int) (place : ByteArray) (but : Nat → Bool) : Nat → Int
 | 0 => -1
 | n + 1 => if 0 ≤ jc9 l p t ((jcs p false (place.extract 0 (n + 1))).filter fun i => !but i) then jc9 l p t ((jcs p false (place.extract 0 (n + 1))).filter fun i => !but i) else jqr l p t place but n
def jzj (l : List Ent) (p : List Pfx) (t : Int) (place : ByteArray) (but : Nat → Bool) (j : Nat) : Prop := ∃ h : j < p.length, but j = false ∧ p[j].whole = false ∧ jgo l p[j] t = true ∧ Lib.hasPrefix place.data.toList p[j].beg.data.toList = true
theorem has_beg {place b : ByteArray} : Lib.hasPrefix place.data.toList b.data.toList = true ↔ b.size ≤ place.size ∧ b = place.extract 0 b.size := by
 unfold Lib.hasPrefix
 rw [List.isPrefixOf_iff_prefix, List.prefix_iff_eq_take]
 have hl : b.data.toList.length = b.size := by simp
 have hl2 : place.data.toList.length = place.size := by simp
 have he : (place.extract 0 b.size).data.toList = place.data.toList.take b.size := by simp
 constructor
 ·intro h
  refine ⟨?_, ?_⟩
  ·have := congrArg List.length h
   rw [List.length_take, hl, hl2] at this
   omega
  rw [hl] at h
  have h2 : b.data.toList = (place.extract 0 b.size).data.toList := h.trans he.symm
  have h3 := Array.ext' h2
  cases b
  generalize hx : ByteArray.extract place 0 _ = x at *
  cases x
  simp_all
 rintro ⟨h1, h2⟩
 rw [hl, ← he, ← h2]
theorem jj3 (l : List Ent) (p : List Pfx) (t : Int) (place : ByteArray) (but : Nat → Bool) (hp : ∀ x ∈ p, x.whole = false → 1 ≤ x.beg.size) : ∀ n : Nat, n ≤ place.size →
 Best (fun j => jzj l p t place but j ∧ jpe p j ≤ n) (jpe p) (jqr l p t place but n)
 | 0, _ => .inl ⟨rfl, fun j ⟨⟨h, _, h2, _⟩, h3⟩ => by
  have := hp _ (List.getElem_mem h) h2
  rw [jcw p j h] at h3
  omega⟩
 | n + 1, hn => by
   have ih := jj3 l p t place but hp n (by omega)
   have hes : (place.extract 0 (n + 1)).size = n + 1 := by rw [ByteArray.size_extract]; omega
   have hsp := jfe l p t ((jcs p false (place.extract 0 (n + 1))).filter fun i => !but i) ((jff _ _ _).filter _) (fun j hj => (idxL_mem.1 (List.mem_filter.1 hj).1).1)
   unfold jqr
   have hin : ∀ j, jzj l p t place but j → jpe p j = n + 1 → j ∈ (jcs p false (place.extract 0 (n + 1))).filter fun i => !but i := by
    rintro j ⟨h, h1, h2, h3, h4⟩ h5
    rw [jcw p j h] at h5
    refine List.mem_filter.2 ⟨idxL_mem.2 ⟨h, h2, ?_⟩, by simp [h1]⟩
    have := (has_beg.1 h4).2
    rw [h5] at this
    exact this
   rcases hsp with ⟨h1, h2⟩ | ⟨i, hi, hil, h1, h2, h3⟩
   ·rw [h1, if_neg (by decide)]
    refine ih.of fun j => ?_
    constructor
    ·exact fun h => ⟨h.1, by omega⟩
    rintro ⟨h, h4⟩
    refine ⟨h, ?_⟩
    rcases Nat.lt_or_ge n (jpe p j) with h5 | h5
    ·have h6 := hin j h (by omega)
     obtain ⟨q1, _, _, q2, _⟩ := h
     have := h2 j h6 q1
     rw [q2] at this
     cases this
    exact h5
   rw [h1, if_pos (by omega)]
   obtain ⟨hm1, hm2⟩ := List.mem_filter.1 hi
   obtain ⟨_, hw, hb⟩ := idxL_mem.1 hm1
   have hli : jpe p i = n + 1 := by rw [jcw p i hil, hb, hes]
   refine .inr ⟨i, rfl, ⟨⟨hil, by simpa using hm2, hw, h2, has_beg.2 ⟨by rw [hb, hes]; omega, by rw [hb, hes]⟩⟩, by omega⟩, fun j hj => ?_⟩
   rcases Nat.lt_or_ge (jpe p j) (n + 1) with h5 | h5
   ·left; omega
   have h6 : jpe p j = n + 1 := by have := hj.2; omega
   right
   refine ⟨by omega, h3 j (hin j hj.1 h6) ?_⟩
   obtain ⟨q1, _, _, q2, _⟩ := hj.1
   exact ⟨q1, q2⟩
def jbq (l : List Ent) (p : List Pfx) (t : Int) (place : ByteArray) (but : Nat → Bool) : Int := jqr l p t place but (min 4 place.size)
theorem jge (l : List Ent) (p : List Pfx) (t : Int) (place : ByteArray) (but : Nat → Bool) (hp : ∀ x ∈ p, x.whole = false → 1 ≤ x.beg.size ∧ x.beg.size ≤ 4) : Best (jzj l p t place but) (jpe p) (jbq l p t place but) := by
 refine (jj3 l p t place but (fun x hx hw => (hp x hx hw).1) _ (Nat.min_le_right _ _)).of fun j => ⟨fun h => h.1, fun h => ⟨h, ?_⟩⟩
 obtain ⟨h1, _, h2, _, h4⟩ := h
 rw [jcw p j h1]
 have := hp _ (List.getElem_mem h1) h2
 have := (has_beg.1 h4).1
 omega
theorem jmr (l : List Ent) (p : List Pfx) (t but : Int) (place : ByteArray) (hp : ∀ x ∈ p, x.whole = false → 1 ≤ x.beg.size ∧ x.beg.size ≤ 4) : jci l p place t but p.length = jbq l p t place (fun j => decide ((j : Int) = but)) := by
 refine (jg9 l p place t but p.length (Nat.le_refl _)).one ((jge l p t place _ hp).of fun j => ?_)
 constructor
 ·rintro ⟨h, h1, h2, h3, h4⟩
  refine ⟨h, h, ?_⟩
  unfold jxx
  rw [h2, h3, h4]
  simpa using h1
 rintro ⟨_, h, h1⟩
 unfold jxx at h1
 simp only [Bool.and_eq_true, Bool.not_eq_true', decide_eq_true_eq] at h1
 exact ⟨h, by simpa using h1.1, h1.2.1, h1.2.2.1, h1.2.2.2⟩
theorem jsx {x : Pfx} (h : jma x = false) (hw : x.whole = false) : 1 ≤ x.beg.size ∧ x.beg.size ≤ 4 := by
 unfold jma at h
 rw [hw] at h
 simp only [Bool.false_eq_true, if_false, Bool.not_eq_false'] at h
 unfold jq at h
 simp only [Bool.and_eq_true, decide_eq_true_eq] at h
 have hl : x.beg.data.toList.length = x.beg.size := by simp
 obtain ⟨⟨_, h2⟩, h3⟩ := h
 refine ⟨?_, by omega⟩
 rcases Nat.eq_zero_or_pos x.beg.size with h0 | h0
 ·have h1 : x.beg.data.toList = [] := List.eq_nil_of_length_eq_zero (by omega)
  rw [h1] at h2
  exact absurd h2 (by decide)
 exact h0
theorem jxc : Maps.Keyed Tryz.prog 9 := Maps.string_keyed Tryz.underlying9
theorem jri (s : ByteArray) (h : s.size ≤ 1000000) : keyOf Tryz.prog 9 (.string s) = some (.string s.data.toList) :=
 WideMaps.keyOf_string_mk Tryz.underlying9 (by unfold maxLen; omega)
def slR (v : Value) : Option (DataW Unit × List MemPlace) :=
 match v with
 | .slice none n c => if n = 0 ∧ c = 0 then some (.lit (.int .i64 (-1)), []) else none
 | .slice (some p) n c => if p.off = 0 ∧ p.spot = none then some (.agg [.lit (.int .i64 (p.block : Int)), .lit (.int .i64 (n : Int)), .lit (.int .i64 (c : Int))], []) else none
 | _ => none
theorem jjg : slR (.slice none 0 0) = some (.lit (.int .i64 (-1)), []) := by simp [slR]
theorem js7 (g n c : Nat) : slR (.slice (some ⟨g, 0, none⟩) n c) = some (.agg [.lit (.int .i64 (g : Int)), .lit (.int .i64 (n : Int)), .lit (.int .i64 (c : Int))], []) := by simp [slR]
theorem jsa {v : Value} {d : DataW Unit} {ps : List MemPlace} (h : slR v = some (d, ps)) : (v = .slice none 0 0 ∧ d = .lit (.int .i64 (-1))) ∨ ∃ g n c : Nat, v = .slice (some ⟨g, 0, none⟩) n c ∧ d = .agg [.lit (.int .i64 (g : Int)), .lit (.int .i64 (n : Int)), .lit (.int .i64 (c : Int))] := by
 cases v with
 | slice p n c =>
   cases p with
   | none =>
     by_cases hc : n = 0 ∧ c = 0
     ·obtain ⟨rfl, rfl⟩ := hc
      rw [jjg] at h
      injection h with h
      injection h with h1 h2
      exact .inl ⟨rfl, h1.symm⟩
     simp [slR, hc] at h
   | some p =>
     obtain ⟨g, o, s⟩ := p
     by_cases hc : o = 0 ∧ s = none
     ·obtain ⟨rfl, rfl⟩ := hc
      rw [js7] at h
      injection h with h
      injection h with h1 h2
      exact .inr ⟨g, n, c, rfl, h1.symm⟩
     simp [slR, hc] at h
 | _ => simp [slR] at h
theorem jrv {u v : Value} {d : DataW Unit} {ps qs : List MemPlace} (hu : slR u = some (d, ps)) (hv : slR v = some (d, qs)) : u = v := by
 rcases jsa hu with ⟨rfl, rfl⟩ | ⟨g, n, c, rfl, rfl⟩ <;> rcases jsa hv with ⟨rfl, h⟩ | ⟨g', n', c', rfl, h⟩
 ·rfl
 ·cases h
 ·cases h
 simp only [DataW.agg.injEq, List.cons.injEq, DataW.lit.injEq, Lit.int.injEq, and_true, true_and] at h
 obtain ⟨h1, h2, h3⟩ := h
 rw [show g = g' by omega, show n = n' by omega, show c = c' by omega]
def MapSl (base : Nat) (f : ByteArray → List Nat) (W : World) (bm cnt : Nat) : Prop :=
 ∃ D : DataW Unit, W.ownsMap Tryz.prog 9 slR bm cnt D ∧ Maps.IsMap D ∧ ∀ s : ByteArray, s.size ≤ 1000000 → ∃ u, IntsFrom base W u (j2 (f s)) ∧ (f s = [] → u = .slice none 0 0) ∧ slR u = some (D.atKey (.string s.data.toList) (.lit (.int .i64 (-1))), [])
theorem MapSl.made (base : Nat) (w : World) : MapSl base (fun _ => []) (w.alloc (.map #[] 0)) w.heap.size 0 :=
 ⟨_, World.ownsMap_made w _ _ _, Maps.isMap_empty, fun s _ => ⟨.slice none 0 0, IntsFrom.nil _ _, fun _ => rfl, jjg⟩⟩
theorem MapSl.kept {base : Nat} {f : ByteArray → List Nat} {w w' : World} {bm cnt : Nat} (h : MapSl base f w bm cnt) {row : Option Nat} (hg : w.grownBy w' row) (hr : some bm ≠ row) (hr2 : ∀ g, base ≤ g → some g ≠ row) : MapSl base f w' bm cnt := by
 obtain ⟨D, h1, h2, h3⟩ := h
 refine ⟨D, h1.kept hg hr, h2, fun s hs => ?_⟩
 obtain ⟨u, q1, q0, q2⟩ := h3 s hs
 refine ⟨u, World.ownsRow.kept q1 hg ?_, q0, q2⟩
 cases hu : u.ownBlock with
 | none => exact .inl rfl
 | some k => exact .inr (hr2 k (World.ownsRow.lt q1 k hu).1)
theorem MapSl.look {base : Nat} {f : ByteArray → List Nat} {w : World} {bm cnt : Nat} (h : MapSl base f w bm cnt) (s : ByteArray) (hs : s.size ≤ 1000000) :
 ∃ u, IntsFrom base w u (j2 (f s)) ∧ (f s = [] → u = .slice none 0 0) ∧ (Instr.lookup 163 (.map (some bm)) (.string s) false).run Tryz.prog w = .ok u w := by
 obtain ⟨D, h1, h2, h3⟩ := h
 obtain ⟨u, q1, q0, q2⟩ := h3 s hs
 obtain ⟨v, ps, hrun, hv⟩ := h1.lookup jxc Tryz.underlying163 (z := .slice none 0 0) (by kernel_rfl) jjg (jri s hs)
 rw [jrv hv q2] at hrun
 exact ⟨u, q1, q0, hrun⟩
theorem jbb {js : List Nat} (h : js ≠ []) : 0 < (j2 js).length := by
 unfold j2
 rw [List.length_map]
 exact List.length_pos_iff.2 h
theorem jfd {base : Nat} {w : World} {u v : Value} {a b : List Nat} (hu : IntsFrom base w u (j2 a)) (hv : IntsFrom base w v (j2 b)) (ha : a ≠ []) (hb : b ≠ []) (hd : ∀ x ∈ a, x ∉ b) : u.ownBlock ≠ v.ownBlock := by
 obtain ⟨A, c, rfl, _, hA⟩ := hu.shape
 obtain ⟨B, c', rfl, _, hB⟩ := hv.shape
 obtain ⟨g, rfl, _, _⟩ := hA (jbb ha)
 obtain ⟨g', rfl, _, _⟩ := hB (jbb hb)
 intro e
 simp only [Value.ownBlock, Option.some.injEq] at e
 subst e
 have h1 := IntsFrom.at_ hu 0 (jbb ha)
 have h2 := IntsFrom.at_ hv 0 (jbb hb)
 rw [h1] at h2
 cases a with
 | nil => exact ha rfl
 | cons x a =>
   cases b with
   | nil => exact hb rfl
   | cons y b =>
     have hxy : x = y := by
      simp [j2] at h2
      omega
     exact hd x (by simp) (by rw [hxy]; simp)
theorem MapSl.put {base : Nat} {f : ByteArray → List Nat} {w0 w1 : World} {bm cnt : Nat} (h : MapSl base f w0 bm cnt) (hb : bm < base) (hn : cnt < maxLen) (s : ByteArray) (hs : s.size ≤ 1000000) (u0 : Value) (hu0 : IntsFrom base w0 u0 (j2 (f s))) (hn0 : f s = [] → u0 = .slice none 0 0) (hg : w0.grownBy w1 u0.ownBlock) (i : Nat) (u1 : Value) (hu1 : IntsFrom base w1 u1 (j2 (f s ++ [i]))) (hdis : ∀ s', s' ≠ s → ∀ x ∈ f s', x ∉ f s) :
 ∃ w2, (Instr.mapUpdate 163 (.map (some bm)) (.string s) u1).run Tryz.prog w1 = .ok () w2 ∧ MapSl base (fun x => if x = s then f s ++ [i] else f x) w2 bm (cnt + 1) ∧ w1.grownBy w2 (some bm) := by
 obtain ⟨D, h1, h2, h3⟩ := h
 have hbm : some bm ≠ u0.ownBlock := fun e => by
  have := (World.ownsRow.lt hu0 bm e.symm).1
  omega
 have hne : f s ++ [i] ≠ [] := by simp
 obtain ⟨A, c, rfl, _, hA⟩ := hu1.shape
 obtain ⟨g, rfl, _, _⟩ := hA (jbb hne)
 obtain ⟨w2, hrun, ho, hg2⟩ := (h1.kept hg hbm).update jxc Tryz.underlying163 hn (jri s hs) (js7 g _ c)
 have hover : ∀ {x : Value} {js : List Nat}, IntsFrom base w1 x (j2 js) → IntsFrom base w2 x (j2 js) := fun {x js} hx => World.ownsRow.kept hx hg2 (by
  cases hk : x.ownBlock with
  | none => exact .inl rfl
  | some k => exact .inr (fun e => by injection e with e; have := (World.ownsRow.lt hx k hk).1; omega))
 refine ⟨w2, hrun, ⟨_, ho, h2.put _ _, fun s' hs' => ?_⟩, hg2⟩
 by_cases e : s' = s
 ·subst e
  have hf1 : (if s' = s' then f s' ++ [i] else f s') = f s' ++ [i] := if_pos rfl
  refine ⟨.slice (some ⟨g, 0, none⟩) (j2 (f s' ++ [i])).length c, by show IntsFrom base w2 _ (j2 (if s' = s' then f s' ++ [i] else f s')); rw [hf1]; exact hover hu1, fun h => absurd (hf1.symm.trans h) hne, ?_⟩
  rw [Maps.atKey_put_same h2 (k := .string s'.data.toList) (by trivial)]
  exact js7 g _ c
 obtain ⟨u', q1, q0, q2⟩ := h3 s' hs'
 have hrow : IntsFrom base w1 u' (j2 (f s')) := by
  refine World.ownsRow.kept q1 hg ?_
  by_cases hf' : f s' = []
  ·rw [q0 hf']; exact .inl rfl
  by_cases hf : f s = []
  ·refine .inr ?_
   rw [hn0 hf]
   intro h5
   obtain ⟨A', c', rfl, _, hA'⟩ := q1.shape
   obtain ⟨g', rfl, _, _⟩ := hA' (jbb hf')
   simp [Value.ownBlock] at h5
  exact .inr (jfd q1 hu0 hf' hf (hdis s' e))
 have hf1 : (if s' = s then f s ++ [i] else f s') = f s' := if_neg e
 refine ⟨u', by show IntsFrom base w2 _ (j2 (if s' = s then f s ++ [i] else f s')); rw [hf1]; exact hover hrow, fun h => q0 (hf1.symm.trans h), ?_⟩
 have hke : (Lit.string s'.data.toList) ≠ Lit.string s.data.toList := fun h5 => e (jr6 (by
  rw [Lib.toList_data, Lib.toList_data]
  exact Lit.string.inj h5))
 rw [Maps.atKey_put_other hke]
 exact q2
end Go.Proofs.YtbamhgaghngjiaaGreatDoor
namespace Go.Proofs.YtbamhgaghngjiaaGreatDoor
open Go.RowKit Go.Sort
set_option linter.unusedVariables false

def jb0 (l : List Int) : List Int := l.mergeSort fun x y => decide (x ≤ y)
theorem jds (l : List Int) : (jb0 l).length = l.length := List.length_mergeSort l
theorem jj4 (l : List Int) (x : Int) : x ∈ jb0 l ↔ x ∈ l := (List.mergeSort_perm l _).mem_iff
theorem jkk (l : List Int) : (jb0 l).Pairwise (· ≤ ·) := by
 have h := List.pairwise_mergeSort (le := fun x y : Int => decide (x ≤ y)) (by intro a b c h1 h2; simp at *; omega) (by intro a b; simp; omega) l
 exact h.imp (by intro a b h; simpa using h)
theorem jn3 (base : Nat) (v : Value) (l : List Int) (w : World) (hl : IntsFrom base w v l) (hn : l.length ≤ 1000000000) :
 Calls Tryz.prog 47 #[v] w fun r w' => r = .returned (.tuple #[]) ∧ IntsFrom base w' v (jb0 l) ∧ w.grownBy w' v.ownBlock := by
 have h0 := hl
 rcases hl.2 with ⟨rfl, h2⟩ | ⟨g, cap, cur, rfl, hb, hg, hnc, hm, hs, ht⟩
 ·refine (Tryz.slices_Sort_int_none _ _ _).mono ?_
  rintro r w' ⟨rfl, rfl⟩
  have hnil : l = [] := List.eq_nil_of_length_eq_zero h2
  subst hnil
  exact ⟨rfl, by unfold jb0; simp; exact IntsFrom.nil _ _, je _ _⟩
 have hlt : g < w.heap.size := (Array.getElem?_eq_some_iff.1 hg).1
 have hH := holds_of_blockI (ss := l) hg (by rw [Nat.mul_one] at ht; exact ht)
 refine (Tryz.slices_Sort_int g 0 cap l w hH hlt (by omega)).mono ?_
 rintro r w' ⟨rfl, n, os, rfl⟩
 refine ⟨rfl, ?_, grownBy_sortedI _⟩
 have := ownsRow_sortedI (n := n) (os := os) (ss := l) (ts := jb0 l) (jds l) hb hg hnc hm hs
 unfold IntsFrom
 rw [jds]
 exact this
theorem jf7 {w : World} {g n : Nat} (d : Array Int) : w.grownBy (putRow (Value.int .i64) (Sort.ahead w n) g 0 d) (some g) := by
 refine ⟨rfl, rfl, rfl, by simp [Sort.ahead], fun k hk hne => ?_⟩
 have : g ≠ k := fun e => hne (by rw [e])
 simp [putRow, mapBlock, Sort.ahead, Array.getElem?_modify, this]
def jtu (l : List Int) : List Int := Lib.compact l
theorem jl7 (base : Nat) (v : Value) (l : List Int) (w : World) (hl : IntsFrom base w v l) (hn : l.length ≤ 1000000000) :
 Calls Tryz.prog 178 #[v] w fun r w' => ∃ u, r = .returned u ∧ IntsFrom base w' u (jtu l) ∧ w.grownBy w' v.ownBlock := by
 have h0 := hl
 have hcl := Lib.compact_length_le l
 rcases hl.2 with ⟨rfl, h2⟩ | ⟨g, cap, cur, rfl, hb, hg, hnc, hm, hs, ht⟩
 ·refine (Tryz.slices_Compact_int_empty none 0 w).mono ?_
  rintro r w' ⟨rfl, rfl⟩
  have hnil : l = [] := List.eq_nil_of_length_eq_zero h2
  subst hnil
  exact ⟨_, rfl, IntsFrom.nil _ _, je _ _⟩
 have hH := holds_of_blockI (ss := l) hg (by rw [Nat.mul_one] at ht; exact ht)
 refine (Tryz.slices_Compact_int g 0 cap l w hH (by omega) hnc).mono ?_
 rintro r w' ⟨rfl, q, rfl⟩
 refine ⟨_, rfl, ?_, jf7 _⟩
 have := Lib.ownsRow_putRow (q := q) (k := (Lib.compact l).length) (ys := Lib.compact l ++ List.replicate (l.length - (Lib.compact l).length) 0) h0 (by simp; omega) hcl
 rw [List.take_left] at this
 exact this
theorem jyw (d : Array Int) (hd : ∀ i j, i ≤ j → j < d.size → d[i]! ≤ d[j]!) : ∀ m, m ≤ d.size →
 (Lib.compactUpTo d m).Pairwise (· < ·) ∧ (∀ x ∈ Lib.compactUpTo d m, ∃ j, j < m ∧ d[j]! = x) ∧ (∀ j, j < m → d[j]! ∈ Lib.compactUpTo d m)
 | 0, _ => by simp [Lib.compactUpTo]
 | m + 1, hm => by
   have ih := jyw d hd m (by omega)
   rw [Lib.compactUpTo_succ]
   by_cases hk : Lib.keeps d m = true
   ·rw [if_pos hk]
    have hk' : m = 0 ∨ d[m]! ≠ d[m - 1]! := by simpa [Lib.keeps] using hk
    refine ⟨List.pairwise_append.2 ⟨ih.1, by simp, ?_⟩, ?_, ?_⟩
    ·intro x hx y hy
     obtain ⟨j, hj, rfl⟩ := ih.2.1 x hx
     simp only [List.mem_singleton] at hy
     subst hy
     have h1 := hd j (m - 1) (by omega) (by omega)
     have h2 := hd (m - 1) m (by omega) (by omega)
     rcases hk' with h | h
     ·omega
     omega
    ·intro x hx
     rcases List.mem_append.1 hx with h | h
     ·obtain ⟨j, hj, e⟩ := ih.2.1 x h; exact ⟨j, by omega, e⟩
     simp only [List.mem_singleton] at h; exact ⟨m, by omega, h.symm⟩
    intro j hj
    rcases Nat.lt_or_ge j m with h | h
    ·exact List.mem_append_left _ (ih.2.2 j h)
    obtain rfl : j = m := by omega
    exact List.mem_append_right _ (by simp)
   rw [if_neg hk, List.append_nil]
   have hk' : ¬ (m = 0 ∨ d[m]! ≠ d[m - 1]!) := by simpa [Lib.keeps] using hk
   refine ⟨ih.1, fun x hx => ?_, fun j hj => ?_⟩
   ·obtain ⟨j, hj, e⟩ := ih.2.1 x hx; exact ⟨j, by omega, e⟩
   rcases Nat.lt_or_ge j m with h | h
   ·exact ih.2.2 j h
   obtain rfl : j = m := by omega
   have e : d[j]! = d[j - 1]! := by
    rcases Classical.em (d[j]! = d[j - 1]!) with h | h
    ·exact h
    exact absurd (.inr h) hk'
   rw [e]
   exact ih.2.2 (j - 1) (by omega)
theorem jmo (l : List Int) (hs : l.Pairwise (· ≤ ·)) : (jtu l).Pairwise (· < ·) ∧ ∀ x, x ∈ jtu l ↔ x ∈ l := by
 have hd : ∀ i j, i ≤ j → j < l.toArray.size → l.toArray[i]! ≤ l.toArray[j]! := fun i j hij hj => by
  have hj' : j < l.length := by simpa using hj
  rw [getElem!_pos l.toArray i (by simp; omega), getElem!_pos l.toArray j (by simpa using hj')]
  rcases Nat.lt_or_eq_of_le hij with h | h
  ·simpa using (List.pairwise_iff_getElem.1 hs) i j (by omega) hj' h
  subst h; exact Int.le_refl _
 have h := jyw l.toArray hd l.length (by simp)
 refine ⟨h.1, fun x => ⟨fun hx => ?_, fun hx => ?_⟩⟩
 ·obtain ⟨j, hj, e⟩ := h.2.1 x hx
  rw [getElem!_pos l.toArray j (by simpa using hj)] at e
  rw [← e]
  simp
 obtain ⟨j, hj, e⟩ := List.getElem_of_mem hx
 have := h.2.2 j hj
 rw [getElem!_pos l.toArray j (by simpa using hj)] at this
 simp [e] at this
 exact this
end Go.Proofs.YtbamhgaghngjiaaGreatDoor
namespace Go.Proofs.YtbamhgaghngjiaaGreatDoor
open Go.RowKit
set_option linter.unusedVariables false

theorem IntsFrom.take {base : Nat} {w : World} {A : Option Addr} {c : Nat} {l : List Int} (h : IntsFrom base w (.slice A l.length c) l) (m : Nat) (hm : m ≤ l.length) : IntsFrom base w (.slice A m c) (l.take m) := by
 have hl : (l.take m).length = m := by simp; omega
 unfold IntsFrom
 rw [hl]
 refine ⟨by simp; omega, ?_⟩
 rcases h.2 with ⟨h1, h2⟩ | ⟨g, cap, cur, h1, h2, h3, h4, h5, h6, h7⟩
 ·injection h1 with e1 e2 e3
  subst e1; subst e3
  exact .inl ⟨by rw [show m = 0 by omega], by omega⟩
 injection h1 with e1 e2 e3
 subst e1; subst e3
 refine .inr ⟨g, _, cur, rfl, h2, h3, by omega, h5, h6, ?_⟩
 rw [List.map_take, ← h7, List.take_take]
 congr 1
 omega
theorem IntsFrom.cap {base : Nat} {w : World} {A : Option Addr} {c n : Nat} {l : List Int} (h : IntsFrom base w (.slice A n c) l) : n ≤ c := by
 rcases h.2 with ⟨h1, h2⟩ | ⟨g, cap, cur, h1, h2, h3, h4, h5, h6, h7⟩
 ·injection h1 with e1 e2 e3
  omega
 injection h1 with e1 e2 e3
 omega
theorem je2 {P : Program} {w : World} {ops : Array Oper} {o : Oper} {a : Act} {K : Act → World → Prop} {Q : Exit → Act → World → Prop} {E : Prop} (hgd : o.guard = none) (s x : Operand) (t : TypeId)
 (ho : o.op = .call { callee := .builtin .append, args := #[s, x], argTypes := #[t, t] })
 (base : Nat) (e : TypeId) (i : TypeInfo) (size : Nat) (ht : P.underlying t = some (.slice e)) (hi : P.info? e = some i)
 (v : Value) (n : Nat) (xs : List Value) (hs : a.eval s = v) (hown : w.ownsRow base e size v n xs) (hx : a.eval x = .slice none 0 0)
 (h : K (a.put o.dst v) w) : if Region.wanted o (yielded ops a.tmps) = true then Oper.wp P o a w K Q else E := by
 have hw : Region.wanted o (yielded ops a.tmps) = true := by simp [Region.wanted, hgd]
 rw [if_pos hw]
 have hrun := run_append_owned_none (P := P) (w := w) base t o.type e i size ht hi v n xs hown
 unfold Oper.wp
 simp [execOp, ho, resolve, invoke, builtin, hs, hx, hrun, Result.andThen]
 exact h
end Go.Proofs.YtbamhgaghngjiaaGreatDoor
