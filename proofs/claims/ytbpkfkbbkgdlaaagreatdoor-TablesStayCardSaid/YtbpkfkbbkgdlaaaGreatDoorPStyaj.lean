/- The walks over the reference's counts and leads. Condition: a list of entities lies in memory. What a table without error is (plain); the walk over isIdle. Condition: for the walk, a right table lies in memory. The longest prefix said once more: as the best of all, and from the longest beginning down (plain). No condition. A map of strings to slices of numbers in memory: what it holds, a look-up, a store. Condition: keys of at most 10^6 bytes. slices.Sort and slices.Compact at a slice of ints that the call owns, and what the sorted list without repetitions is. Condition: at most 10^9 numbers. The walks over rate.Rate and its twin in the reference. Condition: the window's end is no number beyond 2^60; times without error where the name says ok. The walks over rate.Best and its twin in the reference. Condition: the window's end is no number beyond 2^60; times without error where the name says ok. The walks over slices.Clone, rate.Gap, pileref1.gaps and GapOf. Condition: the window's end is no number beyond 2^60; times without error where the name says ok. The walks over pileref1.gaps and GapOf. Condition: times without error; gaps begun at most a second behind. The walk over pileref1.GapOf. Condition: times without error. The walk over pileref1.HoursOf. Condition: times without error, at most 1000 hours. The walk over rate.Hours. Condition: the window's end is no number beyond 2^60. The walk over the stream's TimesOf: a list of at most 20 numbers and a window. Condition: the stream has handed out at most 10^10 numbers. The walk over the reference's AheadOf. Condition: times without error. The walk over call.TableOf: its two maps say which prefixes have a beginning. Condition: a table without error lies in memory. The walk over a table's longest, without and with a closure that leaves prefixes out. Condition: a right table with its maps lies in memory. The walk over the reference's FoundOf. Condition: a table lies in memory; a right call sign. -/
import Derived.Test.YtbpkfkbbkgdlaaaGreatDoorPStyag
import Derived.Test.YtbpkfkbbkgdlaaaGreatDoorPStyai
import Derived.Test.YtbpkfkbbkgdlaaaGreatDoorPStyaa
import Derived.WideKeyPair
import Derived.WalkArith
import Derived.Deep.RegionHeld
import Derived.Deep.DeepCutAuto
import Derived.Sort.OwnSortedInts
import Derived.Lib.OwnBridge
import Derived.Lib.SlicesCompact
import Derived.Lib.RowBridge
import Derived.Deep.AppendLies
import Derived.Lib.AppendZeros
import Derived.Laws.AppendOwnNone
import Derived.Laws.OwnMore
import Derived.Deep.RegionWith
import Derived.Test.YtbpkfkbbkgdlaaaGreatDoorPStyah
namespace Go.Proofs.YtbpkfkbbkgdlaaaGreatDoor
open Go.RowKit
set_option linter.unusedVariables false
set_option linter.unusedSimpArgs false

/-- Whether a prefix counts at a moment. -/
def cntB (l : List Ent) (x : Pfx) (t : Int) : Bool := hasB x.a x.z t && hasB (entD l x.ent).a (entD l x.ent).z t
theorem cntB_tm (l : List Ent) (x : Pfx) (t : Int) : hasB (tmA l x) (tmZ l x) t = cntB l x t := by
 unfold cntB tmA tmZ hasB
 rw [← Bool.decide_and, decide_eq_decide]
 omega
end Go.Proofs.YtbpkfkbbkgdlaaaGreatDoor

namespace Go.Proofs.YtbpkfkbbkgdlaaaGreatDoor
open Go.RowKit
set_option linter.unusedVariables false
set_option linter.unusedSimpArgs false

structure PfxOk (l : List Ent) (x : Pfx) : Prop where
 form : formB x = false
 has : (entOf l x.ent).isSome = true
 time : timeB x.a x.z = true
 z0 : 0 ≤ x.zone
 z1 : x.zone ≤ 90
theorem pfxE1_0 {l : List Ent} {o : Option Pfx} {x : Pfx} (h : pfxE1 l o x = 0) : PfxOk l x ∧ ∀ y, o = some y → cmpPf y x < 0 ∧ ¬ (y.beg = x.beg ∧ y.whole = x.whole ∧ x.a < y.z) := by
 unfold pfxE1 at h
 by_cases h1 : formB x = true
 ·rw [if_pos h1] at h; omega
 ·rw [if_neg h1] at h
  by_cases h2 : (entOf l x.ent).isSome = false
  ·rw [if_pos h2] at h; omega
  ·rw [if_neg h2] at h
   by_cases h3 : timeB x.a x.z = false
   ·rw [if_pos h3] at h; omega
   ·rw [if_neg h3] at h
    by_cases h4 : outB x.zone 0 90 = true
    ·rw [if_pos h4] at h; omega
    ·rw [if_neg h4] at h
     have hz : 0 ≤ x.zone ∧ x.zone ≤ 90 := by
      have h5 : outB x.zone 0 90 = false := by simpa using h4
      unfold outB at h5
      simp at h5
      omega
     refine ⟨⟨by simpa using h1, (by cases hc : (entOf l x.ent).isSome with | true => rfl | false => exact absurd hc h2), by simpa using h3, hz.1, hz.2⟩, fun y hy => ?_⟩
     subst hy
     by_cases h5 : 0 ≤ cmpPf y x
     ·have h6 : (if 0 ≤ cmpPf y x then (7 : Int) else if y.beg = x.beg ∧ y.whole = x.whole ∧ x.a < y.z then 13 else 0) = 0 := h
      rw [if_pos h5] at h6; omega
     ·have h6 : (if 0 ≤ cmpPf y x then (7 : Int) else if y.beg = x.beg ∧ y.whole = x.whole ∧ x.a < y.z then 13 else 0) = 0 := h
      rw [if_neg h5] at h6
      refine ⟨by omega, fun h7 => ?_⟩
      rw [if_pos h7] at h6
      omega
theorem pfxScan_0 {l : List Ent} : ∀ {p : List Pfx} {o : Option Pfx}, pfxScan l o p = 0 → (∀ x ∈ p, PfxOk l x) ∧ (∀ y x r, o = some y → p = x :: r → cmpPf y x < 0 ∧ ¬ (y.beg = x.beg ∧ y.whole = x.whole ∧ x.a < y.z)) ∧ ∀ k (hk : k + 1 < p.length), cmpPf p[k] p[k + 1] < 0 ∧ ¬ (p[k].beg = p[k + 1].beg ∧ p[k].whole = p[k + 1].whole ∧ p[k + 1].a < p[k].z)
 | [], o, _ => ⟨fun x hx => by simp at hx, fun y x r _ h => by simp at h, fun k hk => by simp at hk⟩
 | x :: r, o, h => by
   unfold pfxScan at h
   split at h
   ·rename_i h0
    obtain ⟨h1, h2⟩ := pfxE1_0 h0
    obtain ⟨h3, h4, h5⟩ := pfxScan_0 h
    refine ⟨fun y hy => ?_, fun y x' r' ho hp => ?_, fun k hk => ?_⟩
    ·rcases List.mem_cons.1 hy with rfl | hy
     ·exact h1
     ·exact h3 y hy
    ·injection hp with hp1 hp2
     subst hp1
     exact h2 y ho
    ·cases k with
     | zero =>
       cases r with
       | nil => simp at hk
       | cons x2 r2 => exact h4 x x2 r2 rfl rfl
     | succ k => exact h5 k (by simpa using hk)
   ·rename_i h0
    exact absurd h h0
structure TabRight (l : List Ent) (p : List Pfx) : Prop where
 ok : TabOk l p
 pfx : ∀ x ∈ p, PfxOk l x
 next : ∀ k (hk : k + 1 < p.length), cmpPf p[k] p[k + 1] < 0 ∧ ¬ (p[k].beg = p[k + 1].beg ∧ p[k].whole = p[k + 1].whole ∧ p[k + 1].a < p[k].z)
theorem tabE_ok {l : List Ent} {p : List Pfx} (h : tabE l p = 0) : TabRight l p := by
 unfold tabE at h
 by_cases hE : entsE l = 0
 ·rw [if_neg (by simpa using hE)] at h
  by_cases hb : 2000 < p.length
  ·rw [if_pos hb] at h; omega
  ·rw [if_neg hb] at h
   obtain ⟨h1, _, h3⟩ := pfxScan_0 h
   exact ⟨⟨entsE_ok hE, by omega, fun x hx => (h1 x hx).has⟩, h1, h3⟩
 ·rw [if_pos hE] at h
  exact absurd h hE
theorem isIdle_ok (base gT : Nat) (u v : Value) (l : List Ent) (p : List Pfx) (k : Nat) (w : World) (hT : TabAt base gT u v l p w) (hO : TabOk l p) (hlt : k < p.length) :
 Calls Tryz.prog 135 #[.pointer (some ⟨gT, 0, none⟩), .int .i64 k] w fun r w' => r = .returned (.bool (decide (tmZ l p[k] ≤ tmA l p[k]))) ∧ w.grownBy w' none := by
 have HT := Lib.hid (time_ok base gT u v l p k w hT hO hlt)
 generalize tmA l p[k] = TA at *
 generalize tmZ l p[k] = TZ at *
 obtain ⟨B, hB⟩ : ∃ B, decide (TZ ≤ TA) = B := ⟨_, rfl⟩
 rw [hB]
 have HB := Lib.hid hB
 clear hT hB
 go_enter Tryz.func135, Tryz.ntmps135
 go_wp2_with fail
 refine HT.out.mono ?_
 rintro _ w2 ⟨rfl, hg2⟩
 have hX := Blk.new w2 70 #[.int .i64 TA, .int .i64 TZ]
 have hg3 := gr_alloc hg2 (.cells #[.int .i64 TA, .int .i64 TZ] 70)
 go_upto_region 2 with fail
 generalize w2.alloc (.cells #[.int .i64 TA, .int .i64 TZ] 70) = w3 at *
 have x0 := Blk.cell hX 0
 have x1 := Blk.cell hX 1
 simp only [List.getElem?_toArray, List.getElem?_cons_zero, List.getElem?_cons_succ] at x0 x1
 go_wp2_with fail
 go_ret
 exact ⟨ret_b (by first | exact HB.out | rfl), hg3⟩
end Go.Proofs.YtbpkfkbbkgdlaaaGreatDoor

namespace Go.Proofs.YtbpkfkbbkgdlaaaGreatDoor
open Go.RowKit
set_option linter.unusedVariables false
set_option linter.unusedSimpArgs false

/-- The first of the longest ones of which something is so; -1: there is none. -/
def Best (C : Nat → Prop) (len : Nat → Nat) (r : Int) : Prop := (r = -1 ∧ ∀ j, ¬ C j) ∨ ∃ i : Nat, r = i ∧ C i ∧ ∀ j, C j → len j < len i ∨ (len j = len i ∧ i ≤ j)
theorem Best.one {C : Nat → Prop} {len : Nat → Nat} {r s : Int} (h : Best C len r) (h' : Best C len s) : r = s := by
 rcases h with ⟨rfl, h⟩ | ⟨i, rfl, hi, h⟩ <;> rcases h' with ⟨rfl, h'⟩ | ⟨i', rfl, hi', h'⟩
 ·rfl
 ·exact absurd hi' (h _)
 ·exact absurd hi (h' _)
 ·have a := h i' hi'
  have b := h' i hi
  omega
theorem Best.of {C C' : Nat → Prop} {len : Nat → Nat} {r : Int} (h : Best C len r) (hc : ∀ j, C j ↔ C' j) : Best C' len r := by
 rcases h with ⟨rfl, h⟩ | ⟨i, rfl, hi, h⟩
 ·exact .inl ⟨rfl, fun j hj => h j ((hc j).2 hj)⟩
 ·exact .inr ⟨i, rfl, (hc i).1 hi, fun j hj => h j ((hc j).2 hj)⟩
def lenN (p : List Pfx) (j : Nat) : Nat := match p[j]? with | none => 0 | some y => y.beg.size
theorem lenN_at (p : List Pfx) (j : Nat) (h : j < p.length) : lenN p j = p[j].beg.size := by
 unfold lenN; rw [List.getElem?_eq_getElem h]
/-- The numbers of the prefixes of one kind with a beginning, in order. -/
def idxC (p : List Pfx) (flag : Bool) (s : ByteArray) (i : Nat) : Bool := match p[i]? with | none => false | some x => (x.whole == flag) && decide (x.beg = s)
def idxTo (p : List Pfx) (flag : Bool) (s : ByteArray) (k : Nat) : List Nat := (List.range k).filter (idxC p flag s)
def idxL (p : List Pfx) (flag : Bool) (s : ByteArray) : List Nat := idxTo p flag s p.length
theorem idxTo_step (p : List Pfx) (flag : Bool) (s : ByteArray) (k : Nat) (h : k < p.length) : idxTo p flag s (k + 1) = if p[k].whole = flag ∧ p[k].beg = s then idxTo p flag s k ++ [k] else idxTo p flag s k := by
 unfold idxTo
 rw [List.range_succ, List.filter_append]
 have hc : idxC p flag s k = decide (p[k].whole = flag ∧ p[k].beg = s) := by
  unfold idxC
  rw [List.getElem?_eq_getElem h]
  simp [Bool.decide_and]
  cases p[k].whole <;> cases flag <;> rfl
 by_cases hh : p[k].whole = flag ∧ p[k].beg = s
 ·rw [if_pos hh, List.filter_cons, hc, decide_eq_true hh]; rfl
 ·rw [if_neg hh, List.filter_cons, hc, decide_eq_false hh]; simp
theorem idxC_iff {p : List Pfx} {flag : Bool} {s : ByteArray} {i : Nat} : idxC p flag s i = true ↔ ∃ h : i < p.length, p[i].whole = flag ∧ p[i].beg = s := by
 unfold idxC
 by_cases h : i < p.length
 ·rw [List.getElem?_eq_getElem h]
  constructor
  ·intro hh
   simp at hh
   exact ⟨h, hh.1, hh.2⟩
  ·rintro ⟨_, h1, h2⟩
   simp [h1, h2]
 ·rw [List.getElem?_eq_none (by omega)]
  constructor
  ·intro hh; cases hh
  ·rintro ⟨h1, _⟩; exact absurd h1 h
theorem idxL_mem {p : List Pfx} {flag : Bool} {s : ByteArray} {i : Nat} : i ∈ idxL p flag s ↔ ∃ h : i < p.length, p[i].whole = flag ∧ p[i].beg = s := by
 unfold idxL idxTo
 rw [List.mem_filter, idxC_iff]
 constructor
 ·exact fun h => h.2
 ·exact fun h => ⟨List.mem_range.2 h.1, h⟩
theorem idxTo_mem {p : List Pfx} {flag : Bool} {s : ByteArray} {i k : Nat} (h : i ∈ idxTo p flag s k) : i < k ∧ ∃ h : i < p.length, p[i].whole = flag ∧ p[i].beg = s := by
 unfold idxTo at h
 rw [List.mem_filter, idxC_iff] at h
 exact ⟨List.mem_range.1 h.1, h.2⟩
theorem idxL_sorted (p : List Pfx) (flag : Bool) (s : ByteArray) : (idxL p flag s).Pairwise (· < ·) := List.Pairwise.filter _ List.pairwise_lt_range
/-- What 'counting' finds in a rising list. -/
theorem cntI_spec (l : List Ent) (p : List Pfx) (t : Int) : ∀ js : List Nat, js.Pairwise (· < ·) → (∀ j ∈ js, j < p.length) →
 (cntI l p t js = -1 ∧ ∀ j ∈ js, ∀ h : j < p.length, cntB l p[j] t = false) ∨ ∃ i ∈ js, ∃ h : i < p.length, cntI l p t js = i ∧ cntB l p[i] t = true ∧ ∀ j ∈ js, (∃ h : j < p.length, cntB l p[j] t = true) → i ≤ j
 | [], _, _ => .inl ⟨rfl, fun j hj => by simp at hj⟩
 | a :: r, hs, hl => by
   have hal := hl a (by simp)
   have hst : cntI l p t (a :: r) = if cntB l p[a] t then (a : Int) else cntI l p t r := by
    show (match p[a]? with | none => _ | some q => _) = _
    rw [List.getElem?_eq_getElem hal]
    simp only [cntB_tm]
   rw [hst]
   obtain ⟨h1, h2⟩ := List.pairwise_cons.1 hs
   by_cases hc : cntB l p[a] t = true
   ·rw [if_pos hc]
    refine .inr ⟨a, by simp, hal, rfl, hc, fun j hj _ => ?_⟩
    rcases List.mem_cons.1 hj with rfl | hj
    ·exact Nat.le_refl _
    ·exact Nat.le_of_lt (h1 j hj)
   ·rw [if_neg hc]
    rcases cntI_spec l p t r h2 (fun j hj => hl j (by simp [hj])) with ⟨h3, h4⟩ | ⟨i, hi, hil, h3, h4, h5⟩
    ·refine .inl ⟨h3, fun j hj h => ?_⟩
     rcases List.mem_cons.1 hj with rfl | hj
     ·simpa using hc
     ·exact h4 j hj h
    ·refine .inr ⟨i, by simp [hi], hil, h3, h4, fun j hj hjc => ?_⟩
     rcases List.mem_cons.1 hj with rfl | hj
     ·obtain ⟨_, h6⟩ := hjc
      exact absurd h6 hc
     ·exact h5 j hj hjc
/-- The program's longest: from so many bytes down. -/
def lngF (l : List Ent) (p : List Pfx) (t : Int) (place : ByteArray) (but : Nat → Bool) : Nat → Int
 | 0 => -1
 | n + 1 => if 0 ≤ cntI l p t ((idxL p false (place.extract 0 (n + 1))).filter fun i => !but i) then cntI l p t ((idxL p false (place.extract 0 (n + 1))).filter fun i => !but i) else lngF l p t place but n
def CanB (l : List Ent) (p : List Pfx) (t : Int) (place : ByteArray) (but : Nat → Bool) (j : Nat) : Prop := ∃ h : j < p.length, but j = false ∧ p[j].whole = false ∧ cntB l p[j] t = true ∧ Lib.hasPrefix place.data.toList p[j].beg.data.toList = true
theorem has_beg {place b : ByteArray} : Lib.hasPrefix place.data.toList b.data.toList = true ↔ b.size ≤ place.size ∧ b = place.extract 0 b.size := by
 unfold Lib.hasPrefix
 rw [List.isPrefixOf_iff_prefix, List.prefix_iff_eq_take]
 have hl : b.data.toList.length = b.size := by simp
 have hl2 : place.data.toList.length = place.size := by simp
 have he : (place.extract 0 b.size).data.toList = place.data.toList.take b.size := by simp
 constructor
 ·intro h
  refine ⟨?_, ?_⟩
  ·have := congrArg List.length h
   rw [List.length_take, hl, hl2] at this
   omega
  ·rw [hl] at h
   have h2 : b.data.toList = (place.extract 0 b.size).data.toList := h.trans he.symm
   have h3 := Array.ext' h2
   cases b
   generalize hx : ByteArray.extract place 0 _ = x at *
   cases x
   simp_all
 ·rintro ⟨h1, h2⟩
  rw [hl, ← he, ← h2]
theorem lngF_best (l : List Ent) (p : List Pfx) (t : Int) (place : ByteArray) (but : Nat → Bool) (hp : ∀ x ∈ p, x.whole = false → 1 ≤ x.beg.size) : ∀ n : Nat, n ≤ place.size →
 Best (fun j => CanB l p t place but j ∧ lenN p j ≤ n) (lenN p) (lngF l p t place but n)
 | 0, _ => .inl ⟨rfl, fun j ⟨⟨h, _, h2, _⟩, h3⟩ => by
  have := hp _ (List.getElem_mem h) h2
  rw [lenN_at p j h] at h3
  omega⟩
 | n + 1, hn => by
   have ih := lngF_best l p t place but hp n (by omega)
   have hes : (place.extract 0 (n + 1)).size = n + 1 := by rw [ByteArray.size_extract]; omega
   have hsp := cntI_spec l p t ((idxL p false (place.extract 0 (n + 1))).filter fun i => !but i) ((idxL_sorted _ _ _).filter _) (fun j hj => (idxL_mem.1 (List.mem_filter.1 hj).1).1)
   unfold lngF
   have hin : ∀ j, CanB l p t place but j → lenN p j = n + 1 → j ∈ (idxL p false (place.extract 0 (n + 1))).filter fun i => !but i := by
    rintro j ⟨h, h1, h2, h3, h4⟩ h5
    rw [lenN_at p j h] at h5
    refine List.mem_filter.2 ⟨idxL_mem.2 ⟨h, h2, ?_⟩, by simp [h1]⟩
    have := (has_beg.1 h4).2
    rw [h5] at this
    exact this
   rcases hsp with ⟨h1, h2⟩ | ⟨i, hi, hil, h1, h2, h3⟩
   ·rw [h1, if_neg (by decide)]
    refine ih.of fun j => ?_
    constructor
    ·exact fun h => ⟨h.1, by omega⟩
    ·rintro ⟨h, h4⟩
     refine ⟨h, ?_⟩
     rcases Nat.lt_or_ge n (lenN p j) with h5 | h5
     ·have h6 := hin j h (by omega)
      obtain ⟨q1, _, _, q2, _⟩ := h
      have := h2 j h6 q1
      rw [q2] at this
      cases this
     ·exact h5
   ·rw [h1, if_pos (by omega)]
    obtain ⟨hm1, hm2⟩ := List.mem_filter.1 hi
    obtain ⟨_, hw, hb⟩ := idxL_mem.1 hm1
    have hli : lenN p i = n + 1 := by rw [lenN_at p i hil, hb, hes]
    refine .inr ⟨i, rfl, ⟨⟨hil, by simpa using hm2, hw, h2, has_beg.2 ⟨by rw [hb, hes]; omega, by rw [hb, hes]⟩⟩, by omega⟩, fun j hj => ?_⟩
    rcases Nat.lt_or_ge (lenN p j) (n + 1) with h5 | h5
    ·left; omega
    ·have h6 : lenN p j = n + 1 := by have := hj.2; omega
     right
     refine ⟨by omega, h3 j (hin j hj.1 h6) ?_⟩
     obtain ⟨q1, _, _, q2, _⟩ := hj.1
     exact ⟨q1, q2⟩
/-- The program's longest, whole. -/
def lngP (l : List Ent) (p : List Pfx) (t : Int) (place : ByteArray) (but : Nat → Bool) : Int := lngF l p t place but (min 4 place.size)
theorem lngP_best (l : List Ent) (p : List Pfx) (t : Int) (place : ByteArray) (but : Nat → Bool) (hp : ∀ x ∈ p, x.whole = false → 1 ≤ x.beg.size ∧ x.beg.size ≤ 4) : Best (CanB l p t place but) (lenN p) (lngP l p t place but) := by
 refine (lngF_best l p t place but (fun x hx hw => (hp x hx hw).1) _ (Nat.min_le_right _ _)).of fun j => ⟨fun h => h.1, fun h => ⟨h, ?_⟩⟩
 obtain ⟨h1, _, h2, _, h4⟩ := h
 rw [lenN_at p j h1]
 have := hp _ (List.getElem_mem h1) h2
 have := (has_beg.1 h4).1
 omega
theorem form_size {x : Pfx} (h : formB x = false) (hw : x.whole = false) : 1 ≤ x.beg.size ∧ x.beg.size ≤ 4 := by
 unfold formB at h
 rw [hw] at h
 simp only [Bool.false_eq_true, if_false, Bool.not_eq_false'] at h
 unfold beginB at h
 simp only [Bool.and_eq_true, decide_eq_true_eq] at h
 have hl : x.beg.data.toList.length = x.beg.size := by simp
 obtain ⟨⟨_, h2⟩, h3⟩ := h
 refine ⟨?_, by omega⟩
 rcases Nat.eq_zero_or_pos x.beg.size with h0 | h0
 ·have h1 : x.beg.data.toList = [] := List.eq_nil_of_length_eq_zero (by omega)
  rw [h1] at h2
  exact absurd h2 (by decide)
 ·exact h0
end Go.Proofs.YtbpkfkbbkgdlaaaGreatDoor

namespace Go.Proofs.YtbpkfkbbkgdlaaaGreatDoor
open Go.RowKit
set_option linter.unusedVariables false
set_option linter.unusedSimpArgs false

theorem slKey : Maps.Keyed Tryz.prog 9 := Maps.string_keyed Tryz.underlying9
theorem sl_key (s : ByteArray) (h : s.size ≤ 1000000) : keyOf Tryz.prog 9 (.string s) = some (.string s.data.toList) :=
 WideMaps.keyOf_string_mk Tryz.underlying9 (by unfold maxLen; omega)
/-- How a slice reads: by its block, its length and its capacity. -/
def slR (v : Value) : Option (DataW Unit × List MemPlace) :=
 match v with
 | .slice none n c => if n = 0 ∧ c = 0 then some (.lit (.int .i64 (-1)), []) else none
 | .slice (some p) n c => if p.off = 0 ∧ p.spot = none then some (.agg [.lit (.int .i64 (p.block : Int)), .lit (.int .i64 (n : Int)), .lit (.int .i64 (c : Int))], []) else none
 | _ => none
theorem slR_nil : slR (.slice none 0 0) = some (.lit (.int .i64 (-1)), []) := by simp [slR]
theorem slR_at (g n c : Nat) : slR (.slice (some ⟨g, 0, none⟩) n c) = some (.agg [.lit (.int .i64 (g : Int)), .lit (.int .i64 (n : Int)), .lit (.int .i64 (c : Int))], []) := by simp [slR]
theorem slR_inv {v : Value} {d : DataW Unit} {ps : List MemPlace} (h : slR v = some (d, ps)) : (v = .slice none 0 0 ∧ d = .lit (.int .i64 (-1))) ∨ ∃ g n c : Nat, v = .slice (some ⟨g, 0, none⟩) n c ∧ d = .agg [.lit (.int .i64 (g : Int)), .lit (.int .i64 (n : Int)), .lit (.int .i64 (c : Int))] := by
 cases v with
 | slice p n c =>
   cases p with
   | none =>
     by_cases hc : n = 0 ∧ c = 0
     ·obtain ⟨rfl, rfl⟩ := hc
      rw [slR_nil] at h
      injection h with h
      injection h with h1 h2
      exact .inl ⟨rfl, h1.symm⟩
     ·simp [slR, hc] at h
   | some p =>
     obtain ⟨g, o, s⟩ := p
     by_cases hc : o = 0 ∧ s = none
     ·obtain ⟨rfl, rfl⟩ := hc
      rw [slR_at] at h
      injection h with h
      injection h with h1 h2
      exact .inr ⟨g, n, c, rfl, h1.symm⟩
     ·simp [slR, hc] at h
 | _ => simp [slR] at h
theorem slR_one {u v : Value} {d : DataW Unit} {ps qs : List MemPlace} (hu : slR u = some (d, ps)) (hv : slR v = some (d, qs)) : u = v := by
 rcases slR_inv hu with ⟨rfl, rfl⟩ | ⟨g, n, c, rfl, rfl⟩ <;> rcases slR_inv hv with ⟨rfl, h⟩ | ⟨g', n', c', rfl, h⟩
 ·rfl
 ·cases h
 ·cases h
 ·simp only [DataW.agg.injEq, List.cons.injEq, DataW.lit.injEq, Lit.int.injEq, and_true, true_and] at h
  obtain ⟨h1, h2, h3⟩ := h
  rw [show g = g' by omega, show n = n' by omega, show c = c' by omega]
/-- A map of strings to slices of numbers. -/
def MapSl (base : Nat) (f : ByteArray → List Nat) (W : World) (bm cnt : Nat) : Prop :=
 ∃ D : DataW Unit, W.ownsMap Tryz.prog 9 slR bm cnt D ∧ Maps.IsMap D ∧ ∀ s : ByteArray, s.size ≤ 1000000 → ∃ u, IntsFrom base W u (natI (f s)) ∧ (f s = [] → u = .slice none 0 0) ∧ slR u = some (D.atKey (.string s.data.toList) (.lit (.int .i64 (-1))), [])
theorem MapSl.made (base : Nat) (w : World) : MapSl base (fun _ => []) (w.alloc (.map #[] 0)) w.heap.size 0 :=
 ⟨_, World.ownsMap_made w _ _ _, Maps.isMap_empty, fun s _ => ⟨.slice none 0 0, IntsFrom.nil _ _, fun _ => rfl, slR_nil⟩⟩
theorem MapSl.kept {base : Nat} {f : ByteArray → List Nat} {w w' : World} {bm cnt : Nat} (h : MapSl base f w bm cnt) {row : Option Nat} (hg : w.grownBy w' row) (hr : some bm ≠ row) (hr2 : ∀ g, base ≤ g → some g ≠ row) : MapSl base f w' bm cnt := by
 obtain ⟨D, h1, h2, h3⟩ := h
 refine ⟨D, h1.kept hg hr, h2, fun s hs => ?_⟩
 obtain ⟨u, q1, q0, q2⟩ := h3 s hs
 refine ⟨u, World.ownsRow.kept q1 hg ?_, q0, q2⟩
 cases hu : u.ownBlock with
 | none => exact .inl rfl
 | some k => exact .inr (hr2 k (World.ownsRow.lt q1 k hu).1)
theorem MapSl.look {base : Nat} {f : ByteArray → List Nat} {w : World} {bm cnt : Nat} (h : MapSl base f w bm cnt) (s : ByteArray) (hs : s.size ≤ 1000000) :
 ∃ u, IntsFrom base w u (natI (f s)) ∧ (f s = [] → u = .slice none 0 0) ∧ (Instr.lookup 110 (.map (some bm)) (.string s) false).run Tryz.prog w = .ok u w := by
 obtain ⟨D, h1, h2, h3⟩ := h
 obtain ⟨u, q1, q0, q2⟩ := h3 s hs
 obtain ⟨v, ps, hrun, hv⟩ := h1.lookup slKey Tryz.underlying110 (z := .slice none 0 0) (by kernel_rfl) slR_nil (sl_key s hs)
 rw [slR_one hv q2] at hrun
 exact ⟨u, q1, q0, hrun⟩
theorem natI_pos {js : List Nat} (h : js ≠ []) : 0 < (natI js).length := by
 unfold natI
 rw [List.length_map]
 exact List.length_pos_iff.2 h
/-- Rows of different numbers lie in different blocks. -/
theorem rowsN_apart {base : Nat} {w : World} {u v : Value} {a b : List Nat} (hu : IntsFrom base w u (natI a)) (hv : IntsFrom base w v (natI b)) (ha : a ≠ []) (hb : b ≠ []) (hd : ∀ x ∈ a, x ∉ b) : u.ownBlock ≠ v.ownBlock := by
 obtain ⟨A, c, rfl, _, hA⟩ := hu.shape
 obtain ⟨B, c', rfl, _, hB⟩ := hv.shape
 obtain ⟨g, rfl, _, _⟩ := hA (natI_pos ha)
 obtain ⟨g', rfl, _, _⟩ := hB (natI_pos hb)
 intro e
 simp only [Value.ownBlock, Option.some.injEq] at e
 subst e
 have h1 := IntsFrom.at_ hu 0 (natI_pos ha)
 have h2 := IntsFrom.at_ hv 0 (natI_pos hb)
 rw [h1] at h2
 cases a with
 | nil => exact ha rfl
 | cons x a =>
   cases b with
   | nil => exact hb rfl
   | cons y b =>
     have hxy : x = y := by
      simp [natI] at h2
      omega
     exact hd x (by simp) (by rw [hxy]; simp)
theorem MapSl.put {base : Nat} {f : ByteArray → List Nat} {w0 w1 : World} {bm cnt : Nat} (h : MapSl base f w0 bm cnt) (hb : bm < base) (hn : cnt < maxLen) (s : ByteArray) (hs : s.size ≤ 1000000) (u0 : Value) (hu0 : IntsFrom base w0 u0 (natI (f s))) (hn0 : f s = [] → u0 = .slice none 0 0) (hg : w0.grownBy w1 u0.ownBlock) (i : Nat) (u1 : Value) (hu1 : IntsFrom base w1 u1 (natI (f s ++ [i]))) (hdis : ∀ s', s' ≠ s → ∀ x ∈ f s', x ∉ f s) :
 ∃ w2, (Instr.mapUpdate 110 (.map (some bm)) (.string s) u1).run Tryz.prog w1 = .ok () w2 ∧ MapSl base (fun x => if x = s then f s ++ [i] else f x) w2 bm (cnt + 1) ∧ w1.grownBy w2 (some bm) := by
 obtain ⟨D, h1, h2, h3⟩ := h
 have hbm : some bm ≠ u0.ownBlock := fun e => by
  have := (World.ownsRow.lt hu0 bm e.symm).1
  omega
 have hne : f s ++ [i] ≠ [] := by simp
 obtain ⟨A, c, rfl, _, hA⟩ := hu1.shape
 obtain ⟨g, rfl, _, _⟩ := hA (natI_pos hne)
 obtain ⟨w2, hrun, ho, hg2⟩ := (h1.kept hg hbm).update slKey Tryz.underlying110 hn (sl_key s hs) (slR_at g _ c)
 have hover : ∀ {x : Value} {js : List Nat}, IntsFrom base w1 x (natI js) → IntsFrom base w2 x (natI js) := fun {x js} hx => World.ownsRow.kept hx hg2 (by
  cases hk : x.ownBlock with
  | none => exact .inl rfl
  | some k => exact .inr (fun e => by injection e with e; have := (World.ownsRow.lt hx k hk).1; omega))
 refine ⟨w2, hrun, ⟨_, ho, h2.put _ _, fun s' hs' => ?_⟩, hg2⟩
 by_cases e : s' = s
 ·subst e
  have hf1 : (if s' = s' then f s' ++ [i] else f s') = f s' ++ [i] := if_pos rfl
  refine ⟨.slice (some ⟨g, 0, none⟩) (natI (f s' ++ [i])).length c, by show IntsFrom base w2 _ (natI (if s' = s' then f s' ++ [i] else f s')); rw [hf1]; exact hover hu1, fun h => absurd (hf1.symm.trans h) hne, ?_⟩
  rw [Maps.atKey_put_same h2 (k := .string s'.data.toList) (by trivial)]
  exact slR_at g _ c
 ·obtain ⟨u', q1, q0, q2⟩ := h3 s' hs'
  have hrow : IntsFrom base w1 u' (natI (f s')) := by
   refine World.ownsRow.kept q1 hg ?_
   by_cases hf' : f s' = []
   ·rw [q0 hf']; exact .inl rfl
   ·by_cases hf : f s = []
    ·refine .inr ?_
     rw [hn0 hf]
     intro h5
     obtain ⟨A', c', rfl, _, hA'⟩ := q1.shape
     obtain ⟨g', rfl, _, _⟩ := hA' (natI_pos hf')
     simp [Value.ownBlock] at h5
    ·exact .inr (rowsN_apart q1 hu0 hf' hf (hdis s' e))
  have hf1 : (if s' = s then f s ++ [i] else f s') = f s' := if_neg e
  refine ⟨u', by show IntsFrom base w2 _ (natI (if s' = s then f s ++ [i] else f s')); rw [hf1]; exact hover hrow, fun h => q0 (hf1.symm.trans h), ?_⟩
  have hke : (Lit.string s'.data.toList) ≠ Lit.string s.data.toList := fun h5 => e (str_inj (by
   rw [Lib.toList_data, Lib.toList_data]
   exact Lit.string.inj h5))
  rw [Maps.atKey_put_other hke]
  exact q2
end Go.Proofs.YtbpkfkbbkgdlaaaGreatDoor

namespace Go.Proofs.YtbpkfkbbkgdlaaaGreatDoor
open Go.RowKit Go.Sort
set_option linter.unusedVariables false

def sortI (l : List Int) : List Int := l.mergeSort fun x y => decide (x ≤ y)
theorem sortI_len (l : List Int) : (sortI l).length = l.length := List.length_mergeSort l
theorem sort_own (base : Nat) (v : Value) (l : List Int) (w : World) (hl : IntsFrom base w v l) (hn : l.length ≤ 1000000000) :
 Calls Tryz.prog 115 #[v] w fun r w' => r = .returned (.tuple #[]) ∧ IntsFrom base w' v (sortI l) ∧ w.grownBy w' v.ownBlock := by
 have h0 := hl
 rcases hl.2 with ⟨rfl, h2⟩ | ⟨g, cap, cur, rfl, hb, hg, hnc, hm, hs, ht⟩
 ·refine (Tryz.slices_Sort_int_none _ _ _).mono ?_
  rintro r w' ⟨rfl, rfl⟩
  have hnil : l = [] := List.eq_nil_of_length_eq_zero h2
  subst hnil
  exact ⟨rfl, by unfold sortI; simp; exact IntsFrom.nil _ _, gr_refl _ _⟩
 ·have hlt : g < w.heap.size := (Array.getElem?_eq_some_iff.1 hg).1
  have hH := holds_of_blockI (ss := l) hg (by rw [Nat.mul_one] at ht; exact ht)
  refine (Tryz.slices_Sort_int g 0 cap l w hH hlt (by omega)).mono ?_
  rintro r w' ⟨rfl, n, os, rfl⟩
  refine ⟨rfl, ?_, grownBy_sortedI _⟩
  have := ownsRow_sortedI (n := n) (os := os) (ss := l) (ts := sortI l) (sortI_len l) hb hg hnc hm hs
  unfold IntsFrom
  rw [sortI_len]
  exact this
theorem grownBy_putRowI {w : World} {g n : Nat} (d : Array Int) : w.grownBy (putRow (Value.int .i64) (Sort.ahead w n) g 0 d) (some g) := by
 refine ⟨rfl, rfl, rfl, by simp [Sort.ahead], fun k hk hne => ?_⟩
 have : g ≠ k := fun e => hne (by rw [e])
 simp [putRow, mapBlock, Sort.ahead, Array.getElem?_modify, this]
def compI (l : List Int) : List Int := Lib.compact l
theorem compact_own (base : Nat) (v : Value) (l : List Int) (w : World) (hl : IntsFrom base w v l) (hn : l.length ≤ 1000000000) :
 Calls Tryz.prog 116 #[v] w fun r w' => ∃ u, r = .returned u ∧ IntsFrom base w' u (compI l) ∧ w.grownBy w' v.ownBlock := by
 have h0 := hl
 have hcl := Lib.compact_length_le l
 rcases hl.2 with ⟨rfl, h2⟩ | ⟨g, cap, cur, rfl, hb, hg, hnc, hm, hs, ht⟩
 ·refine (Tryz.slices_Compact_int_empty none 0 w).mono ?_
  rintro r w' ⟨rfl, rfl⟩
  have hnil : l = [] := List.eq_nil_of_length_eq_zero h2
  subst hnil
  exact ⟨_, rfl, IntsFrom.nil _ _, gr_refl _ _⟩
 ·have hH := holds_of_blockI (ss := l) hg (by rw [Nat.mul_one] at ht; exact ht)
  refine (Tryz.slices_Compact_int g 0 cap l w hH (by omega) hnc).mono ?_
  rintro r w' ⟨rfl, q, rfl⟩
  refine ⟨_, rfl, ?_, grownBy_putRowI _⟩
  have := Lib.ownsRow_putRow (q := q) (k := (Lib.compact l).length) (ys := Lib.compact l ++ List.replicate (l.length - (Lib.compact l).length) 0) h0 (by simp; omega) hcl
  rw [List.take_left] at this
  exact this
end Go.Proofs.YtbpkfkbbkgdlaaaGreatDoor

namespace Go.Proofs.YtbpkfkbbkgdlaaaGreatDoor
open Go.RowKit
set_option linter.unusedVariables false

end Go.Proofs.YtbpkfkbbkgdlaaaGreatDoor

namespace Go.Proofs.YtbpkfkbbkgdlaaaGreatDoor
open Go.RowKit
set_option linter.unusedVariables false

theorem ret_3i {a b c d e f : Int} (h : a = b) (h' : c = d) (h2 : e = f) : Ending.returned (.tuple #[.int .i64 a, .int .i64 c, .int .i64 e]) = .returned (.tuple #[.int .i64 b, .int .i64 d, .int .i64 f]) := by rw [h, h', h2]
theorem bestI_drop (l : List Int) (long : Int) (st : Int × Int) (k : Nat) (h : k < l.length) : (l.drop k).foldl (bestStep l long) st = (l.drop (k + 1)).foldl (bestStep l long) (bestStep l long st l[k]) := by
 rw [List.drop_eq_getElem_cons h]; rfl
set_option maxRecDepth 100000 in
set_option maxHeartbeats 4000000 in
theorem best_ok (base : Nat) (v : Value) (l : List Int) (a zt long : Int) (w : World) (hl : IntsFrom base w v l) (hE : timesE l a zt = 0) (hLo : longE long = 0) :
 Calls Tryz.prog 81 #[v, .agg #[.int .i64 a, .int .i64 zt], .int .i64 long] w fun r w' => r = .returned (.tuple #[.int .i64 (bestI l a long).1, .int .i64 (bestI l a long).2, .int .i64 0]) ∧ w.grownBy w' none := by
 have O := timesE_ok hE
 obtain ⟨hb, r2, r3⟩ : outB long 60000 86400000 = false ∧ 60000 ≤ long ∧ long ≤ 86400000 := by
  rcases longE_cases long with ⟨_, h0, h1, h2⟩ | ⟨h, _⟩
  ·exact ⟨h0, h1, h2⟩
  ·omega
 have hto := O.to_
 have ha0 := O.a0
 have hato := O.ato
 have hll := O.len
 have hG := World.grownBy_alloc w (.cells #[.int .i64 a, .int .i64 zt] 70) none
 have HL := Lib.hid (hl.alloc (.cells #[.int .i64 a, .int .i64 zt] 70))
 have hx0 := Blk.new w 70 #[.int .i64 a, .int .i64 zt]
 obtain ⟨A, c, rfl, hlen, hA⟩ := hl.shape
 have HA := Lib.hid hA
 have HO := Lib.hid O
 have HE := Lib.hid hE
 have HLo := Lib.hid hLo
 have m1 : IntKind.i64.wrap (a + long) = a + long := IntWalk.i64_in _ ⟨by omega, by omega⟩
 clear hl hA O hLo
 go_enter Tryz.func81, Tryz.ntmps81
 go_wp2_with fail
 refine (checkTimes_any base _ _ _ _ _ HL.out (by omega) (by omega)).mono ?_
 rintro _ w1 ⟨rfl, hg1⟩
 have hx1 := hx0.grown hg1 (by simp)
 have c0 : w1.cell? ⟨w.heap.size, 0, none⟩ = some (.int .i64 a) := hx1.cell 0
 have hG1 := gr_trans hG hg1
 have HL1 := Lib.hid (HL.out.grown hg1)
 go_wp2_with fail
 refine (isLong_any _ _).mono ?_
 rintro _ _ ⟨rfl, rfl⟩
 go_wp2_with fail
 have KX : Hid (∀ W' : World, w1.grownBy W' none → W'.cell? ⟨w.heap.size, 0, none⟩ = some (.int .i64 a) ∧ w1.grownBy W' none) := fun W' hW => ⟨(hx1.grown hW (by simp)).cell 0, hW⟩
 clear hg1 c0
 have c0 : w1.cell? ⟨w.heap.size, 0, none⟩ = some (.int .i64 a) := hx1.cell 0
 go_region_held3 (fun W' => W'.cell? ⟨w.heap.size, 0, none⟩ = some (.int .i64 a) ∧ w1.grownBy W' none)
  ((exact KX.out _ (by first | exact gr_refl _ _ | exact gr_drew (gr_refl _ _) | exact gr_of_drew (by assumption))))
  (first | (go_at_call 134; refine (in_many base _ _ _ _ _ (HL1.out.grown (by first | exact gr_refl _ _ | exact gr_drew (gr_refl _ _))) HO.out.sorted (by have := HO.out.len; omega)).mono ?_; rintro _ w2 ⟨rfl, hgA⟩))
 rename_i hH
 have hg2 := hH.2
 clear hH KX c0
 have hG2 := gr_trans hG1 hg2
 have HL2 := Lib.hid (HL1.out.grown hg2)
 clear hx1 hG1 hg2 hx0 hG
 have hmb := manyI_bd l a (a + long)
 obtain ⟨m0, hm0⟩ : ∃ m, manyI l a (a + long) = m := ⟨_, rfl⟩
 have HB : Hid (bestI l a long = l.foldl (bestStep l long) (a, m0)) := by show _ = _; rw [← hm0]; rfl
 rw [hm0] at hmb ⊢
 clear hm0
 go_wp2_with fail
 go_loopw [10, 11, 37] (fun b n i wr => ∃ (k : Nat) (st : Int × Int), k ≤ l.length ∧ i = .int .i64 k ∧ b = .int .i64 st.1 ∧ n = .int .i64 st.2 ∧ Hid (bestI l a long = (l.drop k).foldl (bestStep l long) st) ∧ w2.grownBy wr none) (fun _ _ i _ => l.length - (intOf i).toNat)
 case atStart => exact ⟨0, (a, m0), by omega, rfl, rfl, rfl, HB, gr_refl _ _⟩
 case round =>
  obtain ⟨k, ⟨p, q⟩, hk, rfl, rfl, rfl, HR, hG⟩ := hrel
  by_cases hlt : k < l.length
  ·obtain ⟨g, rfl, _, _⟩ := HA.out (by omega)
   have hkl : (k : Int) < (l.length : Int) := by omega
   have cx := (HL2.out.grown hG).at_ k hlt
   have hs := bestI_drop l long (p, q) k hlt
   have hxm := HO.out.mem l[k] (List.getElem_mem hlt)
   obtain ⟨x, hx⟩ : ∃ x, x = l[k] := ⟨_, rfl⟩
   rw [← hx] at cx hs hxm
   have HS := Lib.hid (HR.out.trans hs)
   clear hx hs HR
   go_wp2_with fail
   refine (in_many base _ _ _ _ _ (HL2.out.grown hG) HO.out.sorted (by have := HO.out.len; omega)).mono ?_
   rintro _ w3 ⟨rfl, hg3⟩
   have hG3 := gr_trans hG hg3
   by_cases hqm : q < manyI l x (x + long)
   ·have HN : Hid (bestI l a long = (l.drop (k + 1)).foldl (bestStep l long) (x, manyI l x (x + long))) := by
     show _ = _; rw [HS.out]; unfold bestStep; rw [if_pos hqm]
    go_wp2_with fail
    go_roundw
    case rel => exact ⟨k + 1, (x, manyI l x (x + long)), by omega, by go_num, rfl, rfl, HN, hG3⟩
    case measure => simp [intOf]; omega
   ·have HN : Hid (bestI l a long = (l.drop (k + 1)).foldl (bestStep l long) (p, q)) := by
     show _ = _; rw [HS.out]; unfold bestStep; rw [if_neg hqm]
    go_wp2_with fail
    go_roundw
    case rel => exact ⟨k + 1, (p, q), by omega, by go_num, rfl, rfl, HN, hG3⟩
    case measure => simp [intOf]; omega
  ·have hkl : ¬ (k : Int) < (l.length : Int) := by omega
   have HN : Hid (bestI l a long = (p, q)) := by show _ = _; rw [HR.out, List.drop_of_length_le (by omega)]; rfl
   go_wp2_with fail
   go_ret3
   exact ⟨ret_3i (by rw [HN.out]) (by rw [HN.out]) rfl, gr_trans hG2 hG⟩
end Go.Proofs.YtbpkfkbbkgdlaaaGreatDoor

namespace Go.Proofs.YtbpkfkbbkgdlaaaGreatDoor
open Go.RowKit
set_option linter.unusedVariables false

end Go.Proofs.YtbpkfkbbkgdlaaaGreatDoor

namespace Go.Proofs.YtbpkfkbbkgdlaaaGreatDoor
open Go.RowKit
set_option linter.unusedVariables false

end Go.Proofs.YtbpkfkbbkgdlaaaGreatDoor

namespace Go.Proofs.YtbpkfkbbkgdlaaaGreatDoor
open Go.RowKit
set_option linter.unusedVariables false

end Go.Proofs.YtbpkfkbbkgdlaaaGreatDoor

namespace Go.Proofs.YtbpkfkbbkgdlaaaGreatDoor
open Go.RowKit
set_option linter.unusedVariables false

end Go.Proofs.YtbpkfkbbkgdlaaaGreatDoor

namespace Go.Proofs.YtbpkfkbbkgdlaaaGreatDoor
open Go.RowKit
set_option linter.unusedVariables false

theorem blk_ints {w : World} {g base : Nat} {l : List Int} (h : Blk w g 3 (l.map (Value.int .i64)).toArray) (hb : base ≤ g) (hn : l.length ≤ 1000000) : IntsFrom base w (.slice (some ⟨g, 0, none⟩) l.length l.length) l := by
 refine ⟨by simp, .inr ⟨g, l.length, _, rfl, hb, h, Nat.le_refl _, by unfold maxLen; omega, by simp, ?_⟩⟩
 exact List.take_of_length_le (by simp)
end Go.Proofs.YtbpkfkbbkgdlaaaGreatDoor

namespace Go.Proofs.YtbpkfkbbkgdlaaaGreatDoor
open Go.RowKit
set_option linter.unusedVariables false

theorem IntsFrom.take {base : Nat} {w : World} {A : Option Addr} {c : Nat} {l : List Int} (h : IntsFrom base w (.slice A l.length c) l) (m : Nat) (hm : m ≤ l.length) : IntsFrom base w (.slice A m c) (l.take m) := by
 have hl : (l.take m).length = m := by simp; omega
 unfold IntsFrom
 rw [hl]
 refine ⟨by simp; omega, ?_⟩
 rcases h.2 with ⟨h1, h2⟩ | ⟨g, cap, cur, h1, h2, h3, h4, h5, h6, h7⟩
 ·injection h1 with e1 e2 e3
  subst e1; subst e3
  exact .inl ⟨by rw [show m = 0 by omega], by omega⟩
 ·injection h1 with e1 e2 e3
  subst e1; subst e3
  refine .inr ⟨g, _, cur, rfl, h2, h3, by omega, h5, h6, ?_⟩
  rw [List.map_take, ← h7, List.take_take]
  congr 1
  omega
theorem IntsFrom.cap {base : Nat} {w : World} {A : Option Addr} {c n : Nat} {l : List Int} (h : IntsFrom base w (.slice A n c) l) : n ≤ c := by
 rcases h.2 with ⟨h1, h2⟩ | ⟨g, cap, cur, h1, h2, h3, h4, h5, h6, h7⟩
 ·injection h1 with e1 e2 e3
  omega
 ·injection h1 with e1 e2 e3
  omega
end Go.Proofs.YtbpkfkbbkgdlaaaGreatDoor

namespace Go.Proofs.YtbpkfkbbkgdlaaaGreatDoor
open Go.RowKit
set_option linter.unusedVariables false

theorem step_append_none {P : Program} {w : World} {ops : Array Oper} {o : Oper} {a : Act} {K : Act → World → Prop} {Q : Exit → Act → World → Prop} {E : Prop} (hgd : o.guard = none) (s x : Operand) (t : TypeId)
 (ho : o.op = .call { callee := .builtin .append, args := #[s, x], argTypes := #[t, t] })
 (base : Nat) (e : TypeId) (i : TypeInfo) (size : Nat) (ht : P.underlying t = some (.slice e)) (hi : P.info? e = some i)
 (v : Value) (n : Nat) (xs : List Value) (hs : a.eval s = v) (hown : w.ownsRow base e size v n xs) (hx : a.eval x = .slice none 0 0)
 (h : K (a.put o.dst v) w) : if Region.wanted o (yielded ops a.tmps) = true then Oper.wp P o a w K Q else E := by
 have hw : Region.wanted o (yielded ops a.tmps) = true := by simp [Region.wanted, hgd]
 rw [if_pos hw]
 have hrun := run_append_owned_none (P := P) (w := w) base t o.type e i size ht hi v n xs hown
 unfold Oper.wp
 simp [execOp, ho, resolve, invoke, builtin, hs, hx, hrun, Result.andThen]
 exact h
end Go.Proofs.YtbpkfkbbkgdlaaaGreatDoor

namespace Go.Proofs.YtbpkfkbbkgdlaaaGreatDoor
open Go.RowKit
set_option linter.unusedVariables false
set_option linter.unusedSimpArgs false

/-- A table in memory, with its maps. -/
structure TabFull (base base2 gT bB bW : Nat) (u v : Value) (l : List Ent) (p : List Pfx) (W : World) : Prop where
 at_ : TabAt base gT u v l p W
 cB : W.cell? ⟨gT, 2, none⟩ = some (.map (some bB))
 cW : W.cell? ⟨gT, 3, none⟩ = some (.map (some bW))
 mB : ∃ n, MapSl base2 (idxL p false) W bB n
 mW : ∃ n, MapSl base2 (idxL p true) W bW n
theorem TabFull.grown {base base2 gT bB bW : Nat} {u v : Value} {l : List Ent} {p : List Pfx} {W W' : World} (h : TabFull base base2 gT bB bW u v l p W) (hg : W.grownBy W' none) : TabFull base base2 gT bB bW u v l p W' := by
 obtain ⟨n, hn⟩ := h.mB
 obtain ⟨m, hm⟩ := h.mW
 exact ⟨h.at_.grown hg, hg.cell h.cB (by simp), hg.cell h.cW (by simp), ⟨n, hn.kept hg (by simp) (by simp)⟩, ⟨m, hm.kept hg (by simp) (by simp)⟩⟩
theorem idxTo_put (p : List Pfx) (flag : Bool) (k : Nat) (h : k < p.length) (hw : p[k].whole = flag) : (fun x => if x = p[k].beg then idxTo p flag p[k].beg k ++ [k] else idxTo p flag x k) = fun x => idxTo p flag x (k + 1) := by
 funext x
 rw [idxTo_step p flag x k h]
 by_cases e : x = p[k].beg
 ·rw [if_pos e, if_pos ⟨hw, e.symm⟩, e]
 ·rw [if_neg e, if_neg (fun h2 => e h2.2.symm)]
theorem idxTo_skip (p : List Pfx) (flag : Bool) (k : Nat) (h : k < p.length) (hw : p[k].whole ≠ flag) : (fun x => idxTo p flag x k) = fun x => idxTo p flag x (k + 1) := by
 funext x
 rw [idxTo_step p flag x k h, if_neg (fun h2 => hw h2.1)]
theorem MapSl.to {base : Nat} {f g : ByteArray → List Nat} {w : World} {bm cnt : Nat} (h : MapSl base f w bm cnt) (e : f = g) : MapSl base g w bm cnt := e ▸ h
/-- The maps behind so many prefixes. -/
def Fill (base2 bB bW : Nat) (p : List Pfx) (k : Nat) (W : World) : Prop :=
 (∃ n, n ≤ k ∧ MapSl base2 (fun s => idxTo p false s k) W bB n) ∧ ∃ n, n ≤ k ∧ MapSl base2 (fun s => idxTo p true s k) W bW n
theorem Fill.kept {base2 bB bW : Nat} {p : List Pfx} {k : Nat} {W W' : World} (h : Fill base2 bB bW p k W) {row : Option Nat} (hg : W.grownBy W' row) (hr : ∀ g, row = some g → g ≠ bB ∧ g ≠ bW ∧ g < base2) : Fill base2 bB bW p k W' := by
 obtain ⟨⟨n, hn, h1⟩, ⟨m, hm, h2⟩⟩ := h
 exact ⟨⟨n, hn, h1.kept hg (fun e => (hr _ e.symm).1 rfl) (fun g hb e => by have := (hr _ e.symm).2.2; omega)⟩, ⟨m, hm, h2.kept hg (fun e => (hr _ e.symm).2.1 rfl) (fun g hb e => by have := (hr _ e.symm).2.2; omega)⟩⟩
theorem idx_apart {p : List Pfx} {flag : Bool} {k : Nat} {s : ByteArray} : ∀ s', s' ≠ s → ∀ x ∈ idxTo p flag s' k, x ∉ idxTo p flag s k := fun s' h x h1 h2 => by
 obtain ⟨_, _, _, e1⟩ := idxTo_mem h1
 obtain ⟨_, _, _, e2⟩ := idxTo_mem h2
 exact h (e1.symm.trans e2)
/-- A map whose rows hold none of the numbers of the row that is appended to. -/
theorem MapSl.apart {base : Nat} {f : ByteArray → List Nat} {w0 w1 : World} {bm cnt : Nat} (h : MapSl base f w0 bm cnt) (hb : bm < base) (u0 : Value) (js : List Nat) (hu0 : IntsFrom base w0 u0 (natI js)) (hn0 : js = [] → u0 = .slice none 0 0) (hg : w0.grownBy w1 u0.ownBlock) (hdis : ∀ s, ∀ x ∈ f s, x ∉ js) : MapSl base f w1 bm cnt := by
 obtain ⟨D, h1, h2, h3⟩ := h
 have hbm : some bm ≠ u0.ownBlock := fun e => by
  have := (World.ownsRow.lt hu0 bm e.symm).1
  omega
 refine ⟨D, h1.kept hg hbm, h2, fun s hs => ?_⟩
 obtain ⟨u, q1, q0, q2⟩ := h3 s hs
 refine ⟨u, World.ownsRow.kept q1 hg ?_, q0, q2⟩
 by_cases hf' : f s = []
 ·rw [q0 hf']; exact .inl rfl
 ·by_cases hf : js = []
  ·refine .inr ?_
   rw [hn0 hf]
   intro h5
   obtain ⟨A', c', rfl, _, hA'⟩ := q1.shape
   obtain ⟨g', rfl, _, _⟩ := hA' (natI_pos hf')
   simp [Value.ownBlock] at h5
  ·exact .inr (rowsN_apart q1 hu0 hf' hf (hdis s))
theorem natI_app (js : List Nat) (k : Nat) : natI (js ++ [k]) = natI js ++ [(k : Int)] := by unfold natI; simp
def TabPost (base : Nat) (u v : Value) (l : List Ent) (p : List Pfx) (w : World) (r : Ending) (w' : World) : Prop :=
 ∃ base2 gT bB bW, r = .returned (.pointer (some ⟨gT, 0, none⟩)) ∧ TabFull base base2 gT bB bW u v l p w' ∧ w.heap.size ≤ gT ∧ w.grownBy w' none
theorem MapSl.look2 {base : Nat} {f : ByteArray → List Nat} {w : World} {bm cnt : Nat} (h : MapSl base f w bm cnt) (s : ByteArray) (hs : s.size ≤ 1000000) :
 ∃ u, IntsFrom base w u (natI (f s)) ∧ (f s = [] → u = .slice none 0 0) ∧ ∀ w' row, w.grownBy w' row → some bm ≠ row → (Instr.lookup 110 (.map (some bm)) (.string s) false).run Tryz.prog w' = .ok u w' := by
 obtain ⟨D, h1, h2, h3⟩ := h
 obtain ⟨u, q1, q0, q2⟩ := h3 s hs
 refine ⟨u, q1, q0, fun w' row hg hr => ?_⟩
 obtain ⟨v, ps, hrun, hv⟩ := (h1.kept hg hr).lookup slKey Tryz.underlying110 (z := .slice none 0 0) (by kernel_rfl) slR_nil (sl_key s hs)
 rw [slR_one hv q2] at hrun
 exact hrun
theorem fill_look {base2 bB bW : Nat} {p : List Pfx} {k : Nat} {W : World} (h : Fill base2 bB bW p k W) (flag : Bool) (s : ByteArray) (hs : s.size ≤ 1000000) :
 ∃ u, IntsFrom base2 W u (natI (idxTo p flag s k)) ∧ (idxTo p flag s k = [] → u = .slice none 0 0) ∧ ∀ w' , W.grownBy w' none → (Instr.lookup 110 (.map (some (if flag then bW else bB))) (.string s) false).run Tryz.prog w' = .ok u w' := by
 obtain ⟨⟨n, hn, h1⟩, ⟨m, hm, h2⟩⟩ := h
 cases flag
 ·obtain ⟨u, q1, q2, q3⟩ := h1.look2 s hs
  exact ⟨u, q1, q2, fun w' hg => q3 w' none hg (by simp)⟩
 ·obtain ⟨u, q1, q2, q3⟩ := h2.look2 s hs
  exact ⟨u, q1, q2, fun w' hg => q3 w' none hg (by simp)⟩
theorem fill_put (base2 bB bW : Nat) (p : List Pfx) (k : Nat) (h : k < p.length) (W W9 : World) (flag : Bool) (hw : p[k].whole = flag) (hF : Fill base2 bB bW p k W) (hb : bB < base2) (hb2 : bW < base2) (hne : bB ≠ bW) (hlen : p.length ≤ 2000) (hs : p[k].beg.size ≤ 14)
 (u0 : Value) (hu0 : IntsFrom base2 W u0 (natI (idxTo p flag p[k].beg k))) (hn0 : idxTo p flag p[k].beg k = [] → u0 = .slice none 0 0) (hg : W.grownBy W9 u0.ownBlock) (u1 : Value) (hu1 : IntsFrom base2 W9 u1 (natI (idxTo p flag p[k].beg k ++ [k]))) :
 ∃ W5, (Instr.mapUpdate 110 (.map (some (if flag then bW else bB))) (.string p[k].beg) u1).run Tryz.prog W9 = .ok () W5 ∧ Fill base2 bB bW p (k + 1) W5 ∧ W9.grownBy W5 (some (if flag then bW else bB)) := by
 obtain ⟨⟨n, hn, h1⟩, ⟨m, hm, h2⟩⟩ := hF
 have hdis : ∀ s, ∀ x ∈ idxTo p (!flag) s k, x ∉ idxTo p flag p[k].beg k := fun s x hx1 hx2 => by
  obtain ⟨_, _, e1, _⟩ := idxTo_mem hx1
  obtain ⟨_, _, e2, _⟩ := idxTo_mem hx2
  rw [e1] at e2
  cases flag <;> cases e2
 cases flag
 ·obtain ⟨W5, hrun, h3, hg5⟩ := MapSl.put h1 hb (by unfold maxLen; omega) p[k].beg (by omega) u0 hu0 hn0 hg k u1 hu1 (fun s' hs' => idx_apart s' hs')
  refine ⟨W5, hrun, ⟨⟨n + 1, by omega, h3.to (idxTo_put p false k h hw)⟩, ⟨m, by omega, ?_⟩⟩, hg5⟩
  have h4 := h2.apart hb2 u0 _ hu0 hn0 hg hdis
  exact (h4.kept hg5 (fun e => hne (Option.some.inj e).symm) (fun g hg' e => by have := Option.some.inj e; omega)).to (idxTo_skip p true k h (by rw [hw]; simp))
 ·obtain ⟨W5, hrun, h3, hg5⟩ := MapSl.put h2 hb2 (by unfold maxLen; omega) p[k].beg (by omega) u0 hu0 hn0 hg k u1 hu1 (fun s' hs' => idx_apart s' hs')
  refine ⟨W5, hrun, ⟨⟨n, by omega, ?_⟩, ⟨m + 1, by omega, h3.to (idxTo_put p true k h hw)⟩⟩, hg5⟩
  have h4 := h1.apart hb u0 _ hu0 hn0 hg hdis
  exact (h4.kept hg5 (fun e => hne (Option.some.inj e)) (fun g hg' e => by have := Option.some.inj e; omega)).to (idxTo_skip p false k h (by rw [hw]; simp))
set_option maxRecDepth 100000 in
set_option maxHeartbeats 8000000 in
theorem tableOf_ok (base : Nat) (u v : Value) (l : List Ent) (p : List Pfx) (w : World) (hu : EntsFrom base w u l) (hv : PfxsFrom base w v p) (hlen : p.length ≤ 2000) (hbs : ∀ x ∈ p, x.beg.size ≤ 14) :
 Calls Tryz.prog 56 #[u, v] w (TabPost base u v l p w) := by
 obtain ⟨A, c, rfl, hlen1, hA⟩ := hv.shape
 obtain ⟨A', c', rfl, hlen2, hA'⟩ := hu.shape
 obtain ⟨i0, hi, hz0, hz1, hz2⟩ := info_parts intInfo
 have HV := Lib.hid hv
 have HU := Lib.hid hu
 have HA := Lib.hid hA
 have HBS := Lib.hid hbs
 have hmm := @run_makeMap Tryz.prog
 have m1 := MapSl.made (w.heap.size + 3) w
 have m2 := MapSl.made (w.heap.size + 3) (w.alloc (.map #[] 0))
 have m1' := m1.kept (World.grownBy_alloc (w.alloc (.map #[] 0)) (.map #[] 0) none) (by simp) (by simp)
 have hB := Blk.new ((w.alloc (.map #[] 0)).alloc (.map #[] 0)) 112 #[.slice A' l.length c', .slice A p.length c, .map (some w.heap.size), .map (some (w.heap.size + 1))]
 have m1'' := m1'.kept (World.grownBy_alloc ((w.alloc (.map #[] 0)).alloc (.map #[] 0)) (.cells #[.slice A' l.length c', .slice A p.length c, .map (some w.heap.size), .map (some (w.heap.size + 1))] 112) none) (by simp) (by simp)
 have m2' := m2.kept (World.grownBy_alloc ((w.alloc (.map #[] 0)).alloc (.map #[] 0)) (.cells #[.slice A' l.length c', .slice A p.length c, .map (some w.heap.size), .map (some (w.heap.size + 1))] 112) none) (by simp) (by simp)
 have hg3 := gr_alloc (gr_alloc (World.grownBy_alloc w (.map #[] 0) none) (.map #[] 0)) (.cells #[.slice A' l.length c', .slice A p.length c, .map (some w.heap.size), .map (some (w.heap.size + 1))] 112)
 have hsz : (((w.alloc (.map #[] 0)).alloc (.map #[] 0)).alloc (.cells #[.slice A' l.length c', .slice A p.length c, .map (some w.heap.size), .map (some (w.heap.size + 1))] 112)).heap.size = w.heap.size + 3 := by simp
 simp only [World.size_alloc] at m2' hB
 have HF0 : Hid (Fill (w.heap.size + 3) w.heap.size (w.heap.size + 1) p 0 (((w.alloc (.map #[] 0)).alloc (.map #[] 0)).alloc (.cells #[.slice A' l.length c', .slice A p.length c, .map (some w.heap.size), .map (some (w.heap.size + 1))] 112))) :=
  ⟨⟨0, by omega, m1''⟩, ⟨0, by omega, m2'⟩⟩
 clear hv hu hA hA' m1 m2 m1' m1'' m2' hbs
 go_enter Tryz.func56, Tryz.ntmps56
 go_upto_region 2 with fail
 generalize ((w.alloc (.map #[] 0)).alloc (.map #[] 0)).alloc (.cells #[.slice A' l.length c', .slice A p.length c, .map (some w.heap.size), .map (some (w.heap.size + 1))] 112) = w3 at *
 obtain ⟨bB, hbB⟩ : ∃ x, w.heap.size = x := ⟨_, rfl⟩
 rw [hbB] at hB HF0 hsz ⊢
 obtain ⟨bW, hbW⟩ : ∃ x, bB + 1 = x := ⟨_, rfl⟩
 rw [hbW] at hB HF0 ⊢
 obtain ⟨gT, hgT⟩ : ∃ x, bW + 1 = x := ⟨_, rfl⟩
 rw [hgT] at hB ⊢
 obtain ⟨base2, hb2⟩ : ∃ x, bB + 3 = x := ⟨_, rfl⟩
 rw [hb2] at HF0 hsz
 have HSZ : Hid (w.heap.size = bB ∧ bB < bW ∧ bW < gT ∧ gT < base2 ∧ w3.heap.size = base2) := ⟨hbB, by omega, by omega, by omega, hsz⟩
 clear hmm hsz hbB hbW hgT hb2
 go_wp2_with fail
 go_loopw [16] (fun iv wr => ∃ k : Nat, k ≤ p.length ∧ iv = .int .i64 k ∧ Hid (Fill base2 bB bW p k wr) ∧ Blk wr gT 112 #[.slice A' l.length c', .slice A p.length c, .map (some bB), .map (some bW)] ∧ w.grownBy wr none ∧ base2 ≤ wr.heap.size) (fun iv _ => p.length - (intOf iv).toNat)
 case atStart => exact ⟨0, by omega, rfl, HF0, hB, hg3, by have := HSZ.out; omega⟩
 case round =>
  obtain ⟨k, hk, rfl, HF, hBr, hgw, hszr⟩ := hrel
  clear hB hg3 HF0
  by_cases hlt : k < p.length
  ·have hki : (k : Int) < (p.length : Int) := by omega
   obtain ⟨g, rfl, _, hgl⟩ := HA.out (by omega)
   obtain ⟨q0, q1, q2, q3, q4, q5⟩ := (HV.out.grown hgw).at_ k hlt
   have hs14 := HBS.out _ (List.getElem_mem hlt)
   have hsz := HSZ.out
   have HLK0 : Hid (∀ flag, ∃ u, IntsFrom base2 wr u (natI (idxTo p flag p[k].beg k)) ∧ (idxTo p flag p[k].beg k = [] → u = .slice none 0 0) ∧ ∀ w' , wr.grownBy w' none → (Instr.lookup 110 (.map (some (if flag then bW else bB))) (.string p[k].beg) false).run Tryz.prog w' = .ok u w') := fun flag => fill_look HF.out flag p[k].beg (by omega)
   have HPUT0 : Hid (∀ flag W W9 u0, p[k].whole = flag → Fill base2 bB bW p k W → IntsFrom base2 W u0 (natI (idxTo p flag p[k].beg k)) → (idxTo p flag p[k].beg k = [] → u0 = .slice none 0 0) → W.grownBy W9 u0.ownBlock → ∀ u1, IntsFrom base2 W9 u1 (natI (idxTo p flag p[k].beg k ++ [k])) → ∃ W5, (Instr.mapUpdate 110 (.map (some (if flag then bW else bB))) (.string p[k].beg) u1).run Tryz.prog W9 = .ok () W5 ∧ Fill base2 bB bW p (k + 1) W5 ∧ W9.grownBy W5 (some (if flag then bW else bB))) := fun flag W W9 u0 hw hF hu0 hn0 hg u1 hu1 =>
    fill_put base2 bB bW p k hlt W W9 flag hw hF (by omega) (by omega) (by omega) hlen hs14 u0 hu0 hn0 hg u1 hu1
   have HNL0 : Hid (∀ flag, (natI (idxTo p flag p[k].beg k)).length ≤ 2000) := fun flag => by
    have h1 : (idxTo p flag p[k].beg k).length ≤ (List.range k).length := List.length_filter_le _ _
    rw [List.length_range] at h1
    unfold natI
    rw [List.length_map]
    omega
   have hgs := hgw.size
   have hglr : g < wr.heap.size := by omega
   generalize p[k].beg = B at *
   generalize p[k].ent = N at *
   generalize p[k].a = xa at *
   generalize p[k].z = xz at *
   generalize p[k].whole = H at *
   generalize p[k].zone = Z at *
   have hP := Blk.new wr 72 #[.string B, .string N, .int .i64 xa, .int .i64 xz, .bool H, .int .i64 Z]
   have hgA := World.grownBy_alloc wr (.cells #[.string B, .string N, .int .i64 xa, .int .i64 xz, .bool H, .int .i64 Z] 72) none
   have hg1 := gr_trans hgw hgA
   have hB1 := Blk.grown hBr hgA (by simp)
   have HF1 : Hid (Fill base2 bB bW p k (wr.alloc (.cells #[.string B, .string N, .int .i64 xa, .int .i64 xz, .bool H, .int .i64 Z] 72))) := HF.out.kept hgA (fun g h => by cases h)
   go_upto_region 5 with fail
   have HGX : Hid (base2 ≤ wr.heap.size ∧ (wr.alloc (.cells #[.string B, .string N, .int .i64 xa, .int .i64 xz, .bool H, .int .i64 Z] 72)).heap.size = wr.heap.size + 1) := ⟨by omega, by simp⟩
   generalize wr.alloc (.cells #[.string B, .string N, .int .i64 xa, .int .i64 xz, .bool H, .int .i64 Z] 72) = w1 at *
   clear q0 q1 q2 q3 q4 q5
   have x0 := hP.cell 0
   have x3 := hP.cell 4
   simp only [List.getElem?_toArray, List.getElem?_cons_zero, List.getElem?_cons_succ] at x0 x3
   have hgXT : gT ≠ wr.heap.size := by omega
   cases H
   ·obtain ⟨u0, hu0, hn0, hlk0⟩ := HLK0.out false
    have hOW := (ownsRow_grown hu0 hgA).alloc (.cells #[.int .i64 k] 3)
    have HOW : Hid (World.ownsRow _ base2 3 1 u0 _ _) := (show World.ownsRow ((w1.alloc (.cells #[.int .i64 k] 3)).drew) base2 3 1 u0 _ _ from hOW)
    have HLK : Hid (∀ w', wr.grownBy w' none → (Instr.lookup 110 (.map (some bB)) (.string B) false).run Tryz.prog w' = .ok u0 w') := hlk0
    have HPD := Lib.hid (Blk.drew (Blk.alloc hP (.cells #[.int .i64 k] 3)))
    have HBD := Lib.hid (Blk.drew (Blk.alloc hB1 (.cells #[.int .i64 k] 3)))
    have HNL := Lib.hid (HNL0.out false)
    have HBL : Hid (base2 ≤ ((w1.alloc (.cells #[.int .i64 k] 3)).drew).heap.size) := by show _ ≤ _; have := HGX.out; simp; omega
    have HNE : Hid (some wr.heap.size ≠ u0.ownBlock ∧ some gT ≠ u0.ownBlock) := ⟨fun e => by have := (hu0.lt _ e.symm).2; omega, fun e => by have := (hu0.lt _ e.symm).1; omega⟩
    have hgD : wr.grownBy ((w1.alloc (.cells #[.int .i64 k] 3)).drew) none := gr_drew (gr_alloc hgA _)
    have HGD := Lib.hid (gr_trans hgw hgD)
    have HSD := Lib.hid (hgD.size)
    have HNG : Hid (∀ kk, u0.ownBlock = some kk → none = some kk ∨ w.heap.size ≤ kk) := fun kk h => .inr (by have := (hu0.lt _ h).1; omega)
    have HFD : Hid (Fill base2 bB bW p k ((w1.alloc (.cells #[.int .i64 k] 3)).drew)) := HF.out.kept hgD (fun g h => by cases h)
    have HPUT : Hid (∀ W9, ((w1.alloc (.cells #[.int .i64 k] 3)).drew).grownBy W9 u0.ownBlock → ∀ u1, IntsFrom base2 W9 u1 (natI (idxTo p false B k ++ [k])) → ∃ W5, (Instr.mapUpdate 110 (.map (some bB)) (.string B) u1).run Tryz.prog W9 = .ok () W5 ∧ Fill base2 bB bW p (k + 1) W5 ∧ W9.grownBy W5 (some bB)) := fun W9 hg u1 hu1 => HPUT0.out false _ W9 u0 rfl HFD.out HOW.out hn0 hg u1 hu1
    have cT := hB1.cell 2
    simp only [List.getElem?_toArray, List.getElem?_cons_zero, List.getElem?_cons_succ] at cT
    clear hlk0 hOW HLK0 HPUT0 hn0 hu0
    generalize wr.heap.size = gX at *
    go_wp2_with fail
    refine wp_region_held_drew (S := fun V => V.cell? ⟨gT, 2, none⟩ = some (.map (some bB)) ∧ V.cell? ⟨gX, 0, none⟩ = some (.string B)) (by kernel_rfl) ⟨cT, x0⟩ (fun hHeld => ?_)
    refine wpAnyH_take (i := 0) (v := ?_) rfl (by kernel_rfl) (by kernel_rfl) (by kernel_rfl) (fun _ _ _ h => h) (Or.inl ⟨by kernel_rfl, ?_⟩) hHeld ?_
    rotate_left
    ·intro w hSw
     (try dsimp only at hSw)
     obtain ⟨hS0, hS1⟩ := hSw
     go_simp
     (try with_reducible rfl)
    change wpAnyH _ _ _ _ _ _ _ (Act.put _ (some 39) _) _
    simp only [Act.put, ssA, ssZ, ssS]
    refine wpAnyH_take (i := 1) (v := ?_) rfl (by kernel_rfl) (by kernel_rfl) (by kernel_rfl) (fun _ _ _ h => h) (Or.inl ⟨by kernel_rfl, ?_⟩) hHeld ?_
    rotate_left
    ·intro w hSw
     (try dsimp only at hSw)
     obtain ⟨hS0, hS1⟩ := hSw
     go_simp
     (try with_reducible rfl)
    change wpAnyH _ _ _ _ _ _ _ (Act.put _ (some 40) _) _
    simp only [Act.put, ssA, ssZ, ssS]
    refine wpAnyH_take (i := 2) (v := ?_) rfl (by kernel_rfl) (by kernel_rfl) (by kernel_rfl) (fun _ _ _ h => h) (Or.inl ⟨by kernel_rfl, ?_⟩) hHeld ?_
    rotate_left
    ·intro w hSw
     (try dsimp only at hSw)
     obtain ⟨hS0, hS1⟩ := hSw
     go_simp
     (try with_reducible rfl)
    change wpAnyH _ _ _ _ _ _ _ (Act.put _ (some 41) _) _
    simp only [Act.put, ssA, ssZ, ssS]
    refine wpAnyH_take (i := 3) (v := ?_) rfl (by kernel_rfl) (by kernel_rfl) (by kernel_rfl) (fun _ _ _ h => h) (Or.inl ⟨by kernel_rfl, ?_⟩) hHeld ?_
    rotate_left
    ·intro w hSw
     (try dsimp only at hSw)
     obtain ⟨hS0, hS1⟩ := hSw
     go_simp
     (try with_reducible rfl)
    change wpAnyH _ _ _ _ _ _ _ (Act.put _ (some 42) _) _
    simp only [Act.put, ssA, ssZ, ssS]
    refine wpAnyH_take (i := 4) (v := ?_) rfl (by kernel_rfl) (by kernel_rfl) (by kernel_rfl) (fun _ _ _ h => h) (Or.inl ⟨by kernel_rfl, ?_⟩) hHeld ?_
    rotate_left
    ·intro w hSw
     (try dsimp only at hSw)
     obtain ⟨hS0, hS1⟩ := hSw
     go_simp
     (try with_reducible rfl)
    change wpAnyH _ _ _ _ _ _ _ (Act.put _ (some 43) _) _
    simp only [Act.put, ssA, ssZ, ssS]
    refine wpAnyH_take (i := 5) (v := ?_) rfl (by kernel_rfl) (by kernel_rfl) (by kernel_rfl) (fun _ _ _ h => h) (Or.inl ⟨by kernel_rfl, ?_⟩) hHeld ?_
    rotate_left
    ·intro w hSw
     (try dsimp only at hSw)
     obtain ⟨hS0, hS1⟩ := hSw
     go_simp
     (try with_reducible rfl)
    change wpAnyH _ _ _ _ _ _ _ (Act.put _ (some 44) _) _
    simp only [Act.put, ssA, ssZ, ssS]
    refine wpAnyH_take (i := 6) (v := ?_) rfl (by kernel_rfl) (by kernel_rfl) (by kernel_rfl) (fun _ _ _ h => h) (Or.inl ⟨by kernel_rfl, ?_⟩) hHeld ?_
    rotate_left
    ·intro w hSw
     (try dsimp only at hSw)
     obtain ⟨hS0, hS1⟩ := hSw
     go_simp
     (try with_reducible rfl)
    change wpAnyH _ _ _ _ _ _ _ (Act.put _ (some 45) _) _
    simp only [Act.put, ssA, ssZ, ssS]
    refine wpAnyH_take (i := 7) (v := ?_) rfl (by kernel_rfl) (by kernel_rfl) (by kernel_rfl) (fun _ _ _ h => h) (Or.inl ⟨by kernel_rfl, ?_⟩) hHeld ?_
    rotate_left
    ·intro w hSw
     (try dsimp only at hSw)
     obtain ⟨hS0, hS1⟩ := hSw
     go_simp
     (try with_reducible rfl)
    change wpAnyH _ _ _ _ _ _ _ (Act.put _ (some 46) _) _
    simp only [Act.put, ssA, ssZ, ssS]
    refine wpAnyH_take (i := 8) (v := ?_) rfl (by kernel_rfl) (by kernel_rfl) (by kernel_rfl) (fun _ _ _ h => h) (Or.inl ⟨by kernel_rfl, ?_⟩) hHeld ?_
    rotate_left
    ·intro w hSw
     (try dsimp only at hSw)
     obtain ⟨hS0, hS1⟩ := hSw
     go_simp
     (try with_reducible rfl)
    change wpAnyH _ _ _ _ _ _ _ (Act.put _ (some 47) _) _
    simp only [Act.put, ssA, ssZ, ssS]
    refine wpAnyH_take (i := 9) (v := ?_) rfl (by kernel_rfl) (by kernel_rfl) (by kernel_rfl) (fun _ _ _ h => h) (Or.inl ⟨by kernel_rfl, ?_⟩) hHeld ?_
    rotate_left
    ·intro w hSw
     (try dsimp only at hSw)
     obtain ⟨hS0, hS1⟩ := hSw
     go_simp
     (try with_reducible rfl)
    change wpAnyH _ _ _ _ _ _ _ (Act.put _ (some 48) _) _
    simp only [Act.put, ssA, ssZ, ssS]
    refine wpAnyH_take (i := 10) (v := ?_) rfl (by kernel_rfl) (by kernel_rfl) (by kernel_rfl) (fun _ _ _ h => h) (Or.inl ⟨by kernel_rfl, ?_⟩) hHeld ?_
    rotate_left
    ·intro w hSw
     (try dsimp only at hSw)
     obtain ⟨hS0, hS1⟩ := hSw
     go_simp
     (try with_reducible rfl)
    change wpAnyH _ _ _ _ _ _ _ (Act.put _ (some 49) _) _
    simp only [Act.put, ssA, ssZ, ssS]
    refine wpAnyH_take (i := 11) (v := ?_) rfl (by kernel_rfl) (by kernel_rfl) (by kernel_rfl) (fun _ _ _ h => h) (Or.inl ⟨by kernel_rfl, ?_⟩) hHeld ?_
    rotate_left
    ·intro w hSw
     (try dsimp only at hSw)
     obtain ⟨hS0, hS1⟩ := hSw
     go_simp
     (try with_reducible rfl)
    change wpAnyH _ _ _ _ _ _ _ (Act.put _ (some 50) _) _
    simp only [Act.put, ssA, ssZ, ssS]
    refine wpAnyH_take (i := 13) (v := ?_) rfl (by kernel_rfl) (by kernel_rfl) (by kernel_rfl) (fun _ _ _ h => h) (Or.inl ⟨by kernel_rfl, ?_⟩) hHeld ?_
    rotate_left
    ·intro w hSw
     (try dsimp only at hSw)
     obtain ⟨hS0, hS1⟩ := hSw
     go_simp
     (try with_reducible rfl)
    change wpAnyH _ _ _ _ _ _ _ (Act.put _ (some 52) _) _
    simp only [Act.put, ssA, ssZ, ssS]
    refine wpAnyH_ready (rs := [12, 14]) (by kernel_rfl) (by simp) ?_
    refine AllReadyH.cons (o := _) rfl (fun K hK => ?_) (AllReadyH.cons (o := _) rfl (fun K hK => ?_) AllReadyH.nil)
    ·have hlk := HLK.out _ (gr_trans hgA (show w1.grownBy w1.drew none from (by repeat (first | exact gr_refl _ _ | assumption | refine gr_drew ?_ | refine gr_alloc ?_ _))))
     go_simp
     refine hK.out _ _ (⟨cT, x0⟩) (fun hHeld12 => ?_)
     clear hK K
     (try simp only [Act.put, ssA, ssZ, ssS])
     refine wpAnyH_ready (rs := [14]) (by kernel_rfl) (by simp) ?_
     refine AllReadyH.cons (o := _) rfl (fun K hK => ?_) AllReadyH.nil
     ·go_simp
      refine hK.out _ _ (⟨HBD.out.cell 2, HPD.out.cell 0⟩) (fun hHeld14 => ?_)
      clear hK K
      (try simp only [Act.put, ssA, ssZ, ssS])
      refine wpAnyH_ready (rs := [15]) (by kernel_rfl) (by simp) ?_
      refine AllReadyH.cons (o := _) rfl (fun K hK => ?_) AllReadyH.nil
      ·refine step_append_lies _ (by rfl) (.tmp 51) (.tmp 53) 22 (by rfl) base2 3 i0 _ 1 8 Tryz.underlying22 hi hz0 hz1 hz2 rfl (by decide) u0 _ _ (by simp [Act.eval]) HOW.out ⟨_, 0, none⟩ 1 1 [.int .i64 k] (by simp [Act.eval]) rfl (one_cell _ (k : Int) _) (one_oneCell (k : Int)) (by decide) (by have := HNL.out; unfold maxLen; omega) (by have := HNL.out; omega) HBL.out _ rfl ?_
       intro g9 cap w9 hown9 hg9 hat hglt
       have hP9 := Blk.grown (row := u0.ownBlock) HPD.out hg9 HNE.out.1
       have hB9 := Blk.grown (row := u0.ownBlock) HBD.out hg9 HNE.out.2
       refine hK.out _ _ ⟨hB9.cell 2, hP9.cell 0⟩ (fun hHeld15 => ?_)
       clear hK K
       (try simp only [Act.put, ssA, ssZ, ssS])
       refine wpAnyH_ready (rs := [16]) (by kernel_rfl) (by simp) ?_
       refine AllReadyH.cons (o := _) rfl (fun K hK => ?_) AllReadyH.nil
       ·obtain ⟨w5, hrun, hF5, hg5⟩ := HPUT.out w9 hg9 _ (by rw [natI_app]; unfold IntsFrom; rw [List.map_append, List.length_append]; simpa using hown9)
        have hP5 := Blk.grown hP9 hg5 (by simp; omega)
        have hB5 := Blk.grown hB9 hg5 (by simp; omega)
        go_simp
        refine hK.out _ _ ⟨hB5.cell 2, hP5.cell 0⟩ (fun hHeld16 => ?_)
        clear hK K
        (try simp only [Act.put, ssA, ssZ, ssS])
        refine wpAnyH_done (by kernel_rfl) ?_ _
        go_wp2_with fail
        go_roundw
        case rel => exact ⟨k + 1, by omega, by go_num, hF5, hB5, gr_grown (gr_grown HGD.out hg9 HNG.out) hg5 (fun kk h => .inr (by have := HSZ.out; injection h with h; omega)), by have := hg9.size; have := hg5.size; have := HSD.out; omega⟩
        case measure => simp [intOf]; omega
    ·go_simp
     refine hK.out _ _ (⟨HBD.out.cell 2, HPD.out.cell 0⟩) (fun hHeld14 => ?_)
     clear hK K
     (try simp only [Act.put, ssA, ssZ, ssS])
     refine wpAnyH_ready (rs := [12]) (by kernel_rfl) (by simp) ?_
     refine AllReadyH.cons (o := _) rfl (fun K hK => ?_) AllReadyH.nil
     ·have hlk := HLK.out _ (gr_trans hgA (show w1.grownBy ((w1.alloc (.cells #[.int .i64 k] 3)).drew) none from (by repeat (first | exact gr_refl _ _ | assumption | refine gr_drew ?_ | refine gr_alloc ?_ _))))
      go_simp
      refine hK.out _ _ (⟨HBD.out.cell 2, HPD.out.cell 0⟩) (fun hHeld12 => ?_)
      clear hK K
      (try simp only [Act.put, ssA, ssZ, ssS])
      refine wpAnyH_ready (rs := [15]) (by kernel_rfl) (by simp) ?_
      refine AllReadyH.cons (o := _) rfl (fun K hK => ?_) AllReadyH.nil
      ·refine step_append_lies _ (by rfl) (.tmp 51) (.tmp 53) 22 (by rfl) base2 3 i0 _ 1 8 Tryz.underlying22 hi hz0 hz1 hz2 rfl (by decide) u0 _ _ (by simp [Act.eval]) HOW.out ⟨_, 0, none⟩ 1 1 [.int .i64 k] (by simp [Act.eval]) rfl (one_cell _ (k : Int) _) (one_oneCell (k : Int)) (by decide) (by have := HNL.out; unfold maxLen; omega) (by have := HNL.out; omega) HBL.out _ rfl ?_
       intro g9 cap w9 hown9 hg9 hat hglt
       have hP9 := Blk.grown (row := u0.ownBlock) HPD.out hg9 HNE.out.1
       have hB9 := Blk.grown (row := u0.ownBlock) HBD.out hg9 HNE.out.2
       refine hK.out _ _ ⟨hB9.cell 2, hP9.cell 0⟩ (fun hHeld15 => ?_)
       clear hK K
       (try simp only [Act.put, ssA, ssZ, ssS])
       refine wpAnyH_ready (rs := [16]) (by kernel_rfl) (by simp) ?_
       refine AllReadyH.cons (o := _) rfl (fun K hK => ?_) AllReadyH.nil
       ·obtain ⟨w5, hrun, hF5, hg5⟩ := HPUT.out w9 hg9 _ (by rw [natI_app]; unfold IntsFrom; rw [List.map_append, List.length_append]; simpa using hown9)
        have hP5 := Blk.grown hP9 hg5 (by simp; omega)
        have hB5 := Blk.grown hB9 hg5 (by simp; omega)
        go_simp
        refine hK.out _ _ ⟨hB5.cell 2, hP5.cell 0⟩ (fun hHeld16 => ?_)
        clear hK K
        (try simp only [Act.put, ssA, ssZ, ssS])
        refine wpAnyH_done (by kernel_rfl) ?_ _
        go_wp2_with fail
        go_roundw
        case rel => exact ⟨k + 1, by omega, by go_num, hF5, hB5, gr_grown (gr_grown HGD.out hg9 HNG.out) hg5 (fun kk h => .inr (by have := HSZ.out; injection h with h; omega)), by have := hg9.size; have := hg5.size; have := HSD.out; omega⟩
        case measure => simp [intOf]; omega
   ·obtain ⟨u0, hu0, hn0, hlk0⟩ := HLK0.out true
    have hOW := (ownsRow_grown hu0 hgA).alloc (.cells #[.int .i64 k] 3)
    have HOW : Hid (World.ownsRow _ base2 3 1 u0 _ _) := (show World.ownsRow ((w1.alloc (.cells #[.int .i64 k] 3)).drew) base2 3 1 u0 _ _ from hOW)
    have HLK : Hid (∀ w', wr.grownBy w' none → (Instr.lookup 110 (.map (some bW)) (.string B) false).run Tryz.prog w' = .ok u0 w') := hlk0
    have HPD := Lib.hid (Blk.drew (Blk.alloc hP (.cells #[.int .i64 k] 3)))
    have HBD := Lib.hid (Blk.drew (Blk.alloc hB1 (.cells #[.int .i64 k] 3)))
    have HNL := Lib.hid (HNL0.out true)
    have HBL : Hid (base2 ≤ ((w1.alloc (.cells #[.int .i64 k] 3)).drew).heap.size) := by show _ ≤ _; have := HGX.out; simp; omega
    have HNE : Hid (some wr.heap.size ≠ u0.ownBlock ∧ some gT ≠ u0.ownBlock) := ⟨fun e => by have := (hu0.lt _ e.symm).2; omega, fun e => by have := (hu0.lt _ e.symm).1; omega⟩
    have hgD : wr.grownBy ((w1.alloc (.cells #[.int .i64 k] 3)).drew) none := gr_drew (gr_alloc hgA _)
    have HGD := Lib.hid (gr_trans hgw hgD)
    have HSD := Lib.hid (hgD.size)
    have HNG : Hid (∀ kk, u0.ownBlock = some kk → none = some kk ∨ w.heap.size ≤ kk) := fun kk h => .inr (by have := (hu0.lt _ h).1; omega)
    have HFD : Hid (Fill base2 bB bW p k ((w1.alloc (.cells #[.int .i64 k] 3)).drew)) := HF.out.kept hgD (fun g h => by cases h)
    have HPUT : Hid (∀ W9, ((w1.alloc (.cells #[.int .i64 k] 3)).drew).grownBy W9 u0.ownBlock → ∀ u1, IntsFrom base2 W9 u1 (natI (idxTo p true B k ++ [k])) → ∃ W5, (Instr.mapUpdate 110 (.map (some bW)) (.string B) u1).run Tryz.prog W9 = .ok () W5 ∧ Fill base2 bB bW p (k + 1) W5 ∧ W9.grownBy W5 (some bW)) := fun W9 hg u1 hu1 => HPUT0.out true _ W9 u0 rfl HFD.out HOW.out hn0 hg u1 hu1
    have cT := hB1.cell 3
    simp only [List.getElem?_toArray, List.getElem?_cons_zero, List.getElem?_cons_succ] at cT
    clear hlk0 hOW HLK0 HPUT0 hn0 hu0
    generalize wr.heap.size = gX at *
    go_wp2_with fail
    refine wp_region_held_drew (S := fun V => V.cell? ⟨gT, 3, none⟩ = some (.map (some bW)) ∧ V.cell? ⟨gX, 0, none⟩ = some (.string B)) (by kernel_rfl) ⟨cT, x0⟩ (fun hHeld => ?_)
    refine wpAnyH_take (i := 0) (v := ?_) rfl (by kernel_rfl) (by kernel_rfl) (by kernel_rfl) (fun _ _ _ h => h) (Or.inl ⟨by kernel_rfl, ?_⟩) hHeld ?_
    rotate_left
    ·intro w hSw
     (try dsimp only at hSw)
     obtain ⟨hS0, hS1⟩ := hSw
     go_simp
     (try with_reducible rfl)
    change wpAnyH _ _ _ _ _ _ _ (Act.put _ (some 23) _) _
    simp only [Act.put, ssA, ssZ, ssS]
    refine wpAnyH_take (i := 1) (v := ?_) rfl (by kernel_rfl) (by kernel_rfl) (by kernel_rfl) (fun _ _ _ h => h) (Or.inl ⟨by kernel_rfl, ?_⟩) hHeld ?_
    rotate_left
    ·intro w hSw
     (try dsimp only at hSw)
     obtain ⟨hS0, hS1⟩ := hSw
     go_simp
     (try with_reducible rfl)
    change wpAnyH _ _ _ _ _ _ _ (Act.put _ (some 24) _) _
    simp only [Act.put, ssA, ssZ, ssS]
    refine wpAnyH_take (i := 2) (v := ?_) rfl (by kernel_rfl) (by kernel_rfl) (by kernel_rfl) (fun _ _ _ h => h) (Or.inl ⟨by kernel_rfl, ?_⟩) hHeld ?_
    rotate_left
    ·intro w hSw
     (try dsimp only at hSw)
     obtain ⟨hS0, hS1⟩ := hSw
     go_simp
     (try with_reducible rfl)
    change wpAnyH _ _ _ _ _ _ _ (Act.put _ (some 25) _) _
    simp only [Act.put, ssA, ssZ, ssS]
    refine wpAnyH_take (i := 3) (v := ?_) rfl (by kernel_rfl) (by kernel_rfl) (by kernel_rfl) (fun _ _ _ h => h) (Or.inl ⟨by kernel_rfl, ?_⟩) hHeld ?_
    rotate_left
    ·intro w hSw
     (try dsimp only at hSw)
     obtain ⟨hS0, hS1⟩ := hSw
     go_simp
     (try with_reducible rfl)
    change wpAnyH _ _ _ _ _ _ _ (Act.put _ (some 26) _) _
    simp only [Act.put, ssA, ssZ, ssS]
    refine wpAnyH_take (i := 4) (v := ?_) rfl (by kernel_rfl) (by kernel_rfl) (by kernel_rfl) (fun _ _ _ h => h) (Or.inl ⟨by kernel_rfl, ?_⟩) hHeld ?_
    rotate_left
    ·intro w hSw
     (try dsimp only at hSw)
     obtain ⟨hS0, hS1⟩ := hSw
     go_simp
     (try with_reducible rfl)
    change wpAnyH _ _ _ _ _ _ _ (Act.put _ (some 27) _) _
    simp only [Act.put, ssA, ssZ, ssS]
    refine wpAnyH_take (i := 5) (v := ?_) rfl (by kernel_rfl) (by kernel_rfl) (by kernel_rfl) (fun _ _ _ h => h) (Or.inl ⟨by kernel_rfl, ?_⟩) hHeld ?_
    rotate_left
    ·intro w hSw
     (try dsimp only at hSw)
     obtain ⟨hS0, hS1⟩ := hSw
     go_simp
     (try with_reducible rfl)
    change wpAnyH _ _ _ _ _ _ _ (Act.put _ (some 28) _) _
    simp only [Act.put, ssA, ssZ, ssS]
    refine wpAnyH_take (i := 6) (v := ?_) rfl (by kernel_rfl) (by kernel_rfl) (by kernel_rfl) (fun _ _ _ h => h) (Or.inl ⟨by kernel_rfl, ?_⟩) hHeld ?_
    rotate_left
    ·intro w hSw
     (try dsimp only at hSw)
     obtain ⟨hS0, hS1⟩ := hSw
     go_simp
     (try with_reducible rfl)
    change wpAnyH _ _ _ _ _ _ _ (Act.put _ (some 29) _) _
    simp only [Act.put, ssA, ssZ, ssS]
    refine wpAnyH_take (i := 7) (v := ?_) rfl (by kernel_rfl) (by kernel_rfl) (by kernel_rfl) (fun _ _ _ h => h) (Or.inl ⟨by kernel_rfl, ?_⟩) hHeld ?_
    rotate_left
    ·intro w hSw
     (try dsimp only at hSw)
     obtain ⟨hS0, hS1⟩ := hSw
     go_simp
     (try with_reducible rfl)
    change wpAnyH _ _ _ _ _ _ _ (Act.put _ (some 30) _) _
    simp only [Act.put, ssA, ssZ, ssS]
    refine wpAnyH_take (i := 8) (v := ?_) rfl (by kernel_rfl) (by kernel_rfl) (by kernel_rfl) (fun _ _ _ h => h) (Or.inl ⟨by kernel_rfl, ?_⟩) hHeld ?_
    rotate_left
    ·intro w hSw
     (try dsimp only at hSw)
     obtain ⟨hS0, hS1⟩ := hSw
     go_simp
     (try with_reducible rfl)
    change wpAnyH _ _ _ _ _ _ _ (Act.put _ (some 31) _) _
    simp only [Act.put, ssA, ssZ, ssS]
    refine wpAnyH_take (i := 9) (v := ?_) rfl (by kernel_rfl) (by kernel_rfl) (by kernel_rfl) (fun _ _ _ h => h) (Or.inl ⟨by kernel_rfl, ?_⟩) hHeld ?_
    rotate_left
    ·intro w hSw
     (try dsimp only at hSw)
     obtain ⟨hS0, hS1⟩ := hSw
     go_simp
     (try with_reducible rfl)
    change wpAnyH _ _ _ _ _ _ _ (Act.put _ (some 32) _) _
    simp only [Act.put, ssA, ssZ, ssS]
    refine wpAnyH_take (i := 10) (v := ?_) rfl (by kernel_rfl) (by kernel_rfl) (by kernel_rfl) (fun _ _ _ h => h) (Or.inl ⟨by kernel_rfl, ?_⟩) hHeld ?_
    rotate_left
    ·intro w hSw
     (try dsimp only at hSw)
     obtain ⟨hS0, hS1⟩ := hSw
     go_simp
     (try with_reducible rfl)
    change wpAnyH _ _ _ _ _ _ _ (Act.put _ (some 33) _) _
    simp only [Act.put, ssA, ssZ, ssS]
    refine wpAnyH_take (i := 11) (v := ?_) rfl (by kernel_rfl) (by kernel_rfl) (by kernel_rfl) (fun _ _ _ h => h) (Or.inl ⟨by kernel_rfl, ?_⟩) hHeld ?_
    rotate_left
    ·intro w hSw
     (try dsimp only at hSw)
     obtain ⟨hS0, hS1⟩ := hSw
     go_simp
     (try with_reducible rfl)
    change wpAnyH _ _ _ _ _ _ _ (Act.put _ (some 34) _) _
    simp only [Act.put, ssA, ssZ, ssS]
    refine wpAnyH_take (i := 13) (v := ?_) rfl (by kernel_rfl) (by kernel_rfl) (by kernel_rfl) (fun _ _ _ h => h) (Or.inl ⟨by kernel_rfl, ?_⟩) hHeld ?_
    rotate_left
    ·intro w hSw
     (try dsimp only at hSw)
     obtain ⟨hS0, hS1⟩ := hSw
     go_simp
     (try with_reducible rfl)
    change wpAnyH _ _ _ _ _ _ _ (Act.put _ (some 36) _) _
    simp only [Act.put, ssA, ssZ, ssS]
    refine wpAnyH_ready (rs := [12, 14]) (by kernel_rfl) (by simp) ?_
    refine AllReadyH.cons (o := _) rfl (fun K hK => ?_) (AllReadyH.cons (o := _) rfl (fun K hK => ?_) AllReadyH.nil)
    ·have hlk := HLK.out _ (gr_trans hgA (show w1.grownBy w1.drew none from (by repeat (first | exact gr_refl _ _ | assumption | refine gr_drew ?_ | refine gr_alloc ?_ _))))
     go_simp
     refine hK.out _ _ (⟨cT, x0⟩) (fun hHeld12 => ?_)
     clear hK K
     (try simp only [Act.put, ssA, ssZ, ssS])
     refine wpAnyH_ready (rs := [14]) (by kernel_rfl) (by simp) ?_
     refine AllReadyH.cons (o := _) rfl (fun K hK => ?_) AllReadyH.nil
     ·go_simp
      refine hK.out _ _ (⟨HBD.out.cell 3, HPD.out.cell 0⟩) (fun hHeld14 => ?_)
      clear hK K
      (try simp only [Act.put, ssA, ssZ, ssS])
      refine wpAnyH_ready (rs := [15]) (by kernel_rfl) (by simp) ?_
      refine AllReadyH.cons (o := _) rfl (fun K hK => ?_) AllReadyH.nil
      ·refine step_append_lies _ (by rfl) (.tmp 35) (.tmp 37) 22 (by rfl) base2 3 i0 _ 1 8 Tryz.underlying22 hi hz0 hz1 hz2 rfl (by decide) u0 _ _ (by simp [Act.eval]) HOW.out ⟨_, 0, none⟩ 1 1 [.int .i64 k] (by simp [Act.eval]) rfl (one_cell _ (k : Int) _) (one_oneCell (k : Int)) (by decide) (by have := HNL.out; unfold maxLen; omega) (by have := HNL.out; omega) HBL.out _ rfl ?_
       intro g9 cap w9 hown9 hg9 hat hglt
       have hP9 := Blk.grown (row := u0.ownBlock) HPD.out hg9 HNE.out.1
       have hB9 := Blk.grown (row := u0.ownBlock) HBD.out hg9 HNE.out.2
       refine hK.out _ _ ⟨hB9.cell 3, hP9.cell 0⟩ (fun hHeld15 => ?_)
       clear hK K
       (try simp only [Act.put, ssA, ssZ, ssS])
       refine wpAnyH_ready (rs := [16]) (by kernel_rfl) (by simp) ?_
       refine AllReadyH.cons (o := _) rfl (fun K hK => ?_) AllReadyH.nil
       ·obtain ⟨w5, hrun, hF5, hg5⟩ := HPUT.out w9 hg9 _ (by rw [natI_app]; unfold IntsFrom; rw [List.map_append, List.length_append]; simpa using hown9)
        have hP5 := Blk.grown hP9 hg5 (by simp; omega)
        have hB5 := Blk.grown hB9 hg5 (by simp; omega)
        go_simp
        refine hK.out _ _ ⟨hB5.cell 3, hP5.cell 0⟩ (fun hHeld16 => ?_)
        clear hK K
        (try simp only [Act.put, ssA, ssZ, ssS])
        refine wpAnyH_done (by kernel_rfl) ?_ _
        go_wp2_with fail
        go_roundw
        case rel => exact ⟨k + 1, by omega, by go_num, hF5, hB5, gr_grown (gr_grown HGD.out hg9 HNG.out) hg5 (fun kk h => .inr (by have := HSZ.out; injection h with h; omega)), by have := hg9.size; have := hg5.size; have := HSD.out; omega⟩
        case measure => simp [intOf]; omega
    ·go_simp
     refine hK.out _ _ (⟨HBD.out.cell 3, HPD.out.cell 0⟩) (fun hHeld14 => ?_)
     clear hK K
     (try simp only [Act.put, ssA, ssZ, ssS])
     refine wpAnyH_ready (rs := [12]) (by kernel_rfl) (by simp) ?_
     refine AllReadyH.cons (o := _) rfl (fun K hK => ?_) AllReadyH.nil
     ·have hlk := HLK.out _ (gr_trans hgA (show w1.grownBy ((w1.alloc (.cells #[.int .i64 k] 3)).drew) none from (by repeat (first | exact gr_refl _ _ | assumption | refine gr_drew ?_ | refine gr_alloc ?_ _))))
      go_simp
      refine hK.out _ _ (⟨HBD.out.cell 3, HPD.out.cell 0⟩) (fun hHeld12 => ?_)
      clear hK K
      (try simp only [Act.put, ssA, ssZ, ssS])
      refine wpAnyH_ready (rs := [15]) (by kernel_rfl) (by simp) ?_
      refine AllReadyH.cons (o := _) rfl (fun K hK => ?_) AllReadyH.nil
      ·refine step_append_lies _ (by rfl) (.tmp 35) (.tmp 37) 22 (by rfl) base2 3 i0 _ 1 8 Tryz.underlying22 hi hz0 hz1 hz2 rfl (by decide) u0 _ _ (by simp [Act.eval]) HOW.out ⟨_, 0, none⟩ 1 1 [.int .i64 k] (by simp [Act.eval]) rfl (one_cell _ (k : Int) _) (one_oneCell (k : Int)) (by decide) (by have := HNL.out; unfold maxLen; omega) (by have := HNL.out; omega) HBL.out _ rfl ?_
       intro g9 cap w9 hown9 hg9 hat hglt
       have hP9 := Blk.grown (row := u0.ownBlock) HPD.out hg9 HNE.out.1
       have hB9 := Blk.grown (row := u0.ownBlock) HBD.out hg9 HNE.out.2
       refine hK.out _ _ ⟨hB9.cell 3, hP9.cell 0⟩ (fun hHeld15 => ?_)
       clear hK K
       (try simp only [Act.put, ssA, ssZ, ssS])
       refine wpAnyH_ready (rs := [16]) (by kernel_rfl) (by simp) ?_
       refine AllReadyH.cons (o := _) rfl (fun K hK => ?_) AllReadyH.nil
       ·obtain ⟨w5, hrun, hF5, hg5⟩ := HPUT.out w9 hg9 _ (by rw [natI_app]; unfold IntsFrom; rw [List.map_append, List.length_append]; simpa using hown9)
        have hP5 := Blk.grown hP9 hg5 (by simp; omega)
        have hB5 := Blk.grown hB9 hg5 (by simp; omega)
        go_simp
        refine hK.out _ _ ⟨hB5.cell 3, hP5.cell 0⟩ (fun hHeld16 => ?_)
        clear hK K
        (try simp only [Act.put, ssA, ssZ, ssS])
        refine wpAnyH_done (by kernel_rfl) ?_ _
        go_wp2_with fail
        go_roundw
        case rel => exact ⟨k + 1, by omega, by go_num, hF5, hB5, gr_grown (gr_grown HGD.out hg9 HNG.out) hg5 (fun kk h => .inr (by have := HSZ.out; injection h with h; omega)), by have := hg9.size; have := hg5.size; have := HSD.out; omega⟩
        case measure => simp [intOf]; omega
  ·have hkl : ¬ (k : Int) < (p.length : Int) := by omega
   obtain rfl : k = p.length := by omega
   go_wp2_with fail
   go_ret
   obtain ⟨⟨n, _, h1⟩, ⟨m, _, h2⟩⟩ := HF.out
   exact ⟨base2, gT, bB, bW, rfl, ⟨⟨hBr.cell 0, hBr.cell 1, HU.out.grown hgw, HV.out.grown hgw⟩, hBr.cell 2, hBr.cell 3, ⟨n, h1⟩, ⟨m, h2⟩⟩, by have := HSZ.out; omega, hgw⟩
end Go.Proofs.YtbpkfkbbkgdlaaaGreatDoor

namespace Go.Proofs.YtbpkfkbbkgdlaaaGreatDoor
open Go.RowKit
set_option linter.unusedVariables false
set_option linter.unusedSimpArgs false

/-- Truth values in memory. -/
def BoolsFrom (base : Nat) (w : World) (v : Value) (l : List Bool) : Prop := w.ownsRow base 4 1 v l.length (l.map Value.bool)
theorem BoolsFrom.grown {base : Nat} {w w' : World} {v : Value} {l : List Bool} (h : BoolsFrom base w v l) (hg : w.grownBy w' none) : BoolsFrom base w' v l := ownsRow_grown h hg
theorem BoolsFrom.shape {base : Nat} {w : World} {v : Value} {l : List Bool} (h : BoolsFrom base w v l) :
 ∃ A c, v = .slice A l.length c ∧ l.length ≤ 9223372036854775807 ∧ (0 < l.length → ∃ g, A = some ⟨g, 0, none⟩ ∧ base ≤ g ∧ g < w.heap.size) := ownsRow_shape h
theorem BoolsFrom.at_ {base : Nat} {w : World} {g c : Nat} {l : List Bool} (h : BoolsFrom base w (.slice (some ⟨g, 0, none⟩) l.length c) l) (k : Nat) (hk : k < l.length) : w.cell? ⟨g, k, none⟩ = some (.bool l[k]) := by
 rw [World.ownsRow.cellAt h _ (by omega)]
 simp [hk]
/-- What needless's closure says of a prefix. -/
def butB (i : Int) (gone : List Bool) (k : Nat) : Bool := decide ((k : Int) = i) || gone.getD k false
theorem closBut (base gi gg : Nat) (i : Int) (gv : Value) (gone : List Bool) (k : Nat) (w : World) (hi : w.cell? ⟨gi, 0, none⟩ = some (.int .i64 i)) (hg : w.cell? ⟨gg, 0, none⟩ = some gv) (hv : BoolsFrom base w gv gone) (hk : k < gone.length) :
 Calls Tryz.prog 136 #[.int .i64 k, .pointer (some ⟨gi, 0, none⟩), .pointer (some ⟨gg, 0, none⟩)] w fun r w' => r = .returned (.bool (butB i gone k)) ∧ w.grownBy w' none := by
 obtain ⟨A, c, rfl, hlen, hA⟩ := hv.shape
 obtain ⟨g, rfl, _, hgl⟩ := hA (by omega)
 have c0 := hv.at_ k hk
 have hkl : (k : Int) < (gone.length : Int) := by omega
 have hR : butB i gone k = (decide ((k : Int) = i) || gone[k]) := by
  unfold butB
  rw [List.getD_eq_getElem?_getD, List.getElem?_eq_getElem hk]; rfl
 generalize gone[k] = G at *
 have HR := Lib.hid hR
 clear hR hA hv
 by_cases h : (k : Int) = i
 ·have h1 : ((k : Int) == i) = true := by simpa using h
  have HX : Hid (butB i gone k = true) := by show _ = _; rw [HR.out, decide_eq_true h]; rfl
  clear h
  go_enter Tryz.func136, Tryz.ntmps136
  go_wp2_with fail
  go_ret
  exact ⟨ret_b HX.out.symm, gr_refl _ _⟩
 ·have h1 : ((k : Int) == i) = false := by simpa using h
  have HX : Hid (butB i gone k = G) := by show _ = _; rw [HR.out, decide_eq_false h]; rfl
  clear h
  go_enter Tryz.func136, Tryz.ntmps136
  go_wp2_with fail
  go_ret
  exact ⟨ret_b HX.out.symm, gr_refl _ _⟩
theorem lngF_step (l : List Ent) (p : List Pfx) (t : Int) (place : ByteArray) (but : Nat → Bool) (n : Nat) : lngF l p t place but (n + 1) = if 0 ≤ cntI l p t ((idxL p false (place.extract 0 (n + 1))).filter fun i => !but i) then cntI l p t ((idxL p false (place.extract 0 (n + 1))).filter fun i => !but i) else lngF l p t place but n := rfl
theorem filter_step {α : Type} (f : α → Bool) (js : List α) (k : Nat) (h : k < js.length) : (js.take (k + 1)).filter f = if f js[k] = true then (js.take k).filter f ++ [js[k]] else (js.take k).filter f := by
 rw [List.take_succ_eq_append_getElem h, List.filter_append, List.filter_cons]
 split <;> simp
theorem eqFn_in0 (w : World) (d : Nat) : (Op.equalIn (d + 1) 81 .nilFunc .nilFunc).run Tryz.prog w = .ok true w := by
 simp [Op.equalIn, run_underlying Tryz.underlying81]
theorem eqFn_in1 (f : Fn) (a c : Array Value) (w : World) (d : Nat) : (Op.equalIn (d + 1) 81 (.func f a c) .nilFunc).run Tryz.prog w = .ok false w := by
 simp [Op.equalIn, run_underlying Tryz.underlying81]
theorem eqFn_0 (w : World) : (Op.equal 81 .nilFunc .nilFunc).run Tryz.prog w = .ok true w := eqFn_in0 w 9999
theorem eqFn_1 (f : Fn) (a c : Array Value) (w : World) : (Op.equal 81 (.func f a c) .nilFunc).run Tryz.prog w = .ok false w := eqFn_in1 f a c w 9999
@[go_sem] theorem eqFuncNil (w : World) : (binOp .eql 81 .nilFunc .nilFunc).run Tryz.prog w = .ok (.bool true) w := by
  simp only [binOp]
  simp [eqFn_0 w]
@[go_sem] theorem eqFuncHeld (f : Fn) (a c : Array Value) (w : World) : (binOp .eql 81 (.func f a c) .nilFunc).run Tryz.prog w = .ok (.bool false) w := by
  simp only [binOp]
  simp [eqFn_1 f a c w]
set_option maxRecDepth 100000 in
set_option maxHeartbeats 16000000 in
theorem longest_but (base base2 gT bB bW : Nat) (u v : Value) (l : List Ent) (p : List Pfx) (place : ByteArray) (t : Int) (w : World) (hT : TabFull base base2 gT bB bW u v l p w) (hO : TabOk l p) (hpl : place.size ≤ 1000) (base4 gi gg : Nat) (i : Int) (gv : Value) (gone : List Bool) (hi : w.cell? ⟨gi, 0, none⟩ = some (.int .i64 i)) (hgg : w.cell? ⟨gg, 0, none⟩ = some gv) (hgv : BoolsFrom base4 w gv gone) (hgl : p.length ≤ gone.length) :
 Calls Tryz.prog 104 #[.pointer (some ⟨gT, 0, none⟩), .string place, .int .i64 t, .func (.func 136) #[] #[.pointer (some ⟨gi, 0, none⟩), .pointer (some ⟨gg, 0, none⟩)]] w fun r w' => r = .returned (.int .i64 (lngP l p t place (butB i gone))) ∧ w.grownBy w' none := by
 obtain ⟨i0, hi0, hz0, hz1, hz2⟩ := info_parts intInfo
 have HT := Lib.hid hT
 have HBUT : Hid (∀ (k : Nat) W, k < p.length → w.grownBy W none → Calls Tryz.prog 136 #[.int .i64 k, .pointer (some ⟨gi, 0, none⟩), .pointer (some ⟨gg, 0, none⟩)] W fun r w' => r = .returned (.bool (butB i gone k)) ∧ W.grownBy w' none) := fun k W hk hW => closBut base4 gi gg i gv gone k W (hW.cell hi (by simp)) (hW.cell hgg (by simp)) (hgv.grown hW) (by omega)
 clear hi hgg hgv hgl
 obtain ⟨M, hM⟩ : ∃ M, min 4 place.size = M := ⟨_, rfl⟩
 have hM4 : M ≤ 4 ∧ M ≤ place.size := by omega
 have hMi : min (4 : Int) (place.size : Int) = (M : Int) := by omega
 have HE : Hid (lngP l p t place (butB i gone) = lngF l p t place (butB i gone) M) := by show _ = _; unfold lngP; rw [hM]
 clear hM hT
 go_enter Tryz.func104, Tryz.ntmps104
 go_wp2_with fail
 go_loopw [9] (fun iv wr => ∃ n : Nat, n ≤ M ∧ iv = .int .i64 n ∧ Hid (lngP l p t place (butB i gone) = lngF l p t place (butB i gone) n) ∧ w.grownBy wr none) (fun iv _ => (intOf iv).toNat)
 case atStart => exact ⟨M, Nat.le_refl _, rfl, HE, gr_refl _ _⟩
 case round =>
  obtain ⟨n, hn, rfl, HN, hg⟩ := hrel
  clear hMi HE
  rcases Nat.eq_zero_or_pos n with rfl | hpos
  ·have HR : Hid (lngP l p t place (butB i gone) = -1) := HN.out
   go_wp2_with fail
   go_ret
   exact ⟨ret_of HR.out.symm, hg⟩
  ·obtain ⟨m, HM⟩ : ∃ m : Nat, Hid (n = m + 1) := ⟨n - 1, by show _ = _; omega⟩
   have hn0 : (0 : Int) < (n : Int) := by omega
   have hn1 : (0 : Int) ≤ (n : Int) := by omega
   have hn2 : (n : Int) ≤ (place.size : Int) := by omega
   have hn3 : n ≤ place.size := by omega
   have hnw : IntKind.i64.wrap ((n : Int) - 1) = ((m : Nat) : Int) := by have := HM.out; rw [IntKind.wrap_i64]; omega
   have hes : (place.extract 0 n).size ≤ 1000000 := by rw [ByteArray.size_extract]; omega
   have hTr := HT.out.grown hg
   obtain ⟨nB, hmB⟩ := hTr.mB
   obtain ⟨uj, hju, _, hlk⟩ := hmB.look2 (place.extract 0 n) hes
   have hlk1 := hlk wr.drew none (gr_drew (gr_refl _ _)) (by simp)
   have hst := lngF_step l p t place (butB i gone) m
   rw [← HM.out, ← HN.out] at hst
   have hjs : ∀ j ∈ idxL p false (place.extract 0 n), j < p.length := fun j hj => (idxL_mem.1 hj).1
   have HJL : Hid ((idxL p false (place.extract 0 n)).length ≤ 2000) := by
    show _ ≤ _
    unfold idxL idxTo
    have h1 := List.length_filter_le (idxC p false (place.extract 0 n)) (List.range p.length)
    rw [List.length_range] at h1
    have := hO.len
    omega
   have cT := hTr.cB
   have cTd : wr.drew.cell? ⟨gT, 2, none⟩ = some (.map (some bB)) := cT
   generalize hjj : idxL p false (place.extract 0 n) = js at *
   obtain ⟨A, c, rfl, hjl, hjA⟩ := hju.shape
   have hml : (natI js).length = js.length := by simp [natI]
   rw [hml] at hjl hjA hju hlk1
   have HJA := Lib.hid hjA
   have HML := Lib.hid hml
   have HJS := Lib.hid hjs
   have HST := Lib.hid hst
   clear hjA hjs hst hes hlk hmB hml
   go_upto_region 5 with fail
   refine wp_region_held_drew (S := fun V => V.cell? ⟨gT, 2, none⟩ = some (.map (some bB)) ∧ wr.grownBy V none) (by kernel_rfl) ⟨cT, gr_drew (gr_refl _ _)⟩ (fun hHeld => ?_)
   refine wpAnyH_take (i := 0) (v := ?_) rfl (by kernel_rfl) (by kernel_rfl) (by kernel_rfl) (fun _ _ _ h => h) (Or.inl ⟨by kernel_rfl, ?_⟩) hHeld ?_
   rotate_left
   ·intro w hSw
    (try dsimp only at hSw)
    obtain ⟨hS0, hS1⟩ := hSw
    go_simp
    (try with_reducible rfl)
   change wpAnyH _ _ _ _ _ _ _ (Act.put _ (some 21) _) _
   simp only [Act.put, ssA, ssZ, ssS]
   refine wpAnyH_take (i := 1) (v := ?_) rfl (by kernel_rfl) (by kernel_rfl) (by kernel_rfl) (fun _ _ _ h => h) (Or.inl ⟨by kernel_rfl, ?_⟩) hHeld ?_
   rotate_left
   ·intro w hSw
    (try dsimp only at hSw)
    obtain ⟨hS0, hS1⟩ := hSw
    go_simp
    (try with_reducible rfl)
   change wpAnyH _ _ _ _ _ _ _ (Act.put _ (some 22) _) _
   simp only [Act.put, ssA, ssZ, ssS]
   refine wpAnyH_take (i := 2) (v := ?_) rfl (by kernel_rfl) (by kernel_rfl) (by kernel_rfl) (fun _ _ _ h => h) (Or.inl ⟨by kernel_rfl, ?_⟩) hHeld ?_
   rotate_left
   ·intro w hSw
    (try dsimp only at hSw)
    obtain ⟨hS0, hS1⟩ := hSw
    go_simp
    (try with_reducible rfl)
   change wpAnyH _ _ _ _ _ _ _ (Act.put _ (some 23) _) _
   simp only [Act.put, ssA, ssZ, ssS]
   refine wpAnyH_take (i := 3) (v := ?_) rfl (by kernel_rfl) (by kernel_rfl) (by kernel_rfl) (fun _ _ _ h => h) (Or.inl ⟨by kernel_rfl, ?_⟩) hHeld ?_
   rotate_left
   ·intro w hSw
    (try dsimp only at hSw)
    obtain ⟨hS0, hS1⟩ := hSw
    go_simp
    (try with_reducible rfl)
   change wpAnyH _ _ _ _ _ _ _ (Act.put _ (some 24) _) _
   simp only [Act.put, ssA, ssZ, ssS]
   refine wpAnyH_take (i := 4) (v := ?_) rfl (by kernel_rfl) (by kernel_rfl) (by kernel_rfl) (fun _ _ _ h => h) (Or.inl ⟨by kernel_rfl, ?_⟩) hHeld ?_
   rotate_left
   ·intro w hSw
    (try dsimp only at hSw)
    obtain ⟨hS0, hS1⟩ := hSw
    go_simp
    (try with_reducible rfl)
   change wpAnyH _ _ _ _ _ _ _ (Act.put _ (some 25) _) _
   simp only [Act.put, ssA, ssZ, ssS]
   refine wpAnyH_take (i := 5) (v := ?_) rfl (by kernel_rfl) (by kernel_rfl) (by kernel_rfl) (fun _ _ _ h => h) (Or.inl ⟨by kernel_rfl, ?_⟩) hHeld ?_
   rotate_left
   ·intro w hSw
    (try dsimp only at hSw)
    obtain ⟨hS0, hS1⟩ := hSw
    go_simp
    (try with_reducible rfl)
   change wpAnyH _ _ _ _ _ _ _ (Act.put _ (some 26) _) _
   simp only [Act.put, ssA, ssZ, ssS]
   refine wpAnyH_take (i := 6) (v := ?_) rfl (by kernel_rfl) (by kernel_rfl) (by kernel_rfl) (fun _ _ _ h => h) (Or.inl ⟨by kernel_rfl, ?_⟩) hHeld ?_
   rotate_left
   ·intro w hSw
    (try dsimp only at hSw)
    obtain ⟨hS0, hS1⟩ := hSw
    go_simp
    (try with_reducible rfl)
   change wpAnyH _ _ _ _ _ _ _ (Act.put _ (some 27) _) _
   simp only [Act.put, ssA, ssZ, ssS]
   refine wpAnyH_take (i := 9) (v := ?_) rfl (by kernel_rfl) (by kernel_rfl) (by kernel_rfl) (fun _ _ _ h => h) (Or.inl ⟨by kernel_rfl, ?_⟩) hHeld ?_
   rotate_left
   ·intro w hSw
    (try dsimp only at hSw)
    obtain ⟨hS0, hS1⟩ := hSw
    go_simp
    (try with_reducible rfl)
   change wpAnyH _ _ _ _ _ _ _ (Act.put _ (some 30) _) _
   simp only [Act.put, ssA, ssZ, ssS]
   refine wpAnyH_ready (rs := [7]) (by kernel_rfl) (by simp) ?_
   refine AllReadyH.cons (o := _) rfl (fun K hK => ?_) AllReadyH.nil
   go_simp
   (skip)
   refine hK.out _ _ ⟨cT, gr_drew (gr_refl _ _)⟩ (fun hHeld7 => ?_)
   clear hK K
   (try simp only [Act.put, ssA, ssZ, ssS])
   refine wpAnyH_take (i := 8) (v := ?_) rfl (by kernel_rfl) (by kernel_rfl) (by kernel_rfl) (fun _ _ _ h => h) (Or.inl ⟨by kernel_rfl, ?_⟩) hHeld7 ?_
   rotate_left
   ·intro w hSw
    (try dsimp only at hSw)
    obtain ⟨hS0, hS1⟩ := hSw
    go_simp
    (try with_reducible rfl)
   change wpAnyH _ _ _ _ _ _ _ (Act.put _ (some 29) _) _
   simp only [Act.put, ssA, ssZ, ssS]
   refine wpAnyH_done (by kernel_rfl) ?_ _
   have HgO := Lib.hid (gr_drew hg)
   have HJU := Lib.hid (IntsFrom.grown hju (gr_drew (gr_refl wr none)))
   have HWS : Hid (w.heap.size ≤ wr.drew.heap.size) := hg.size
   clear hlk1 cT cTd hg hjj hju
   generalize wr.drew = wo at *
   clear hTr
   go_wp2_with fail
   go_loopw [10, 30] (fun ov kv wi => ∃ k : Nat, k ≤ js.length ∧ kv = .int .i64 k ∧ IntsFrom wo.heap.size wi ov (natI ((js.take k).filter fun q => !(butB i gone) q)) ∧ wo.grownBy wi none) (fun _ kv _ => js.length - (intOf kv).toNat)
   case atStart => exact ⟨0, by omega, rfl, by simpa [natI] using IntsFrom.nil _ _, gr_refl _ _⟩
   case round =>
    obtain ⟨k, hk, rfl, hown, hgi⟩ := hrel
    obtain ⟨A2, c2, rfl, hl2, hA2⟩ := hown.shape
    by_cases hlt : k < js.length
    ·have hki : (k : Int) < (js.length : Int) := by omega
     obtain ⟨gj, rfl, _, hgl⟩ := HJA.out (by omega)
     have hat := IntsFrom.at_ (l := natI js) (g := gj) (c := c) (by rw [HML.out]; exact HJU.out.grown hgi) k (by rw [HML.out]; exact hlt)
     rw [show (natI js)[k]'(by rw [HML.out]; exact hlt) = (js[k] : Int) by simp [natI]] at hat
     have hfs := filter_step (fun q => !(butB i gone) q) js k hlt
     have hJp := HJS.out _ (List.getElem_mem hlt)
     have HOL : Hid ((natI ((js.take k).filter fun q => !(butB i gone) q)).length ≤ 2000) := by
      show _ ≤ _
      unfold natI
      rw [List.length_map]
      have h1 := List.length_filter_le (fun q => !(butB i gone) q) (js.take k)
      rw [List.length_take] at h1
      have := HJL.out
      omega
     generalize hfk : (js.take k).filter (fun q => !(butB i gone) q) = fk at *
     generalize js[k] = J at *
     have HFS := Lib.hid hfs
     have HFK := Lib.hid hfk
     have hsz := hgi.size
     clear hfs hA2 hfk
     go_wp2_with fail
     refine (HBUT.out J _ hJp (gr_trans HgO.out hgi)).mono ?_
     rintro _ w3 ⟨rfl, hg3⟩
     have hown3 := hown.grown hg3
     have hgi3 := gr_trans hgi hg3
     have hsz3 := hg3.size
     have hFS2 := HFS.out
     generalize butB i gone J = BJ at *
     cases BJ
     ·have HNEW : Hid ((js.take (k + 1)).filter (fun q => !(butB i gone) q) = fk ++ [J]) := by show _ = _; rw [hFS2]; rfl
      clear hFS2 hown hgi
      have hownX := hown3
      go_wp2_with (at_builtin; refine wpList_append_own _ rfl _ _ 22 rfl wo.heap.size 3 i0 _ 1 8 Tryz.underlying22 hi0 hz0 hz1 hz2 rfl (by decide) _ _ _ rfl (World.ownsRow.alloc (show World.ownsRow _ _ _ _ _ _ _ from hown3) _) ⟨_, 0, none⟩ 1 1 [.int .i64 J] rfl rfl (one_cell _ (J : Int) _) (one_oneCell (J : Int)) (by have := HOL.out; unfold maxLen; omega) (by have := HOL.out; omega) (by simp; omega) ?_; intro v' w4 hownB hgrB _)
      have hown4 : IntsFrom wo.heap.size w4 v' (natI ((js.take (k + 1)).filter fun q => !(butB i gone) q)) := by
       rw [HNEW.out, natI_app]
       unfold IntsFrom
       rw [List.map_append, List.length_append]
       simpa using hownB
      have hG4 : wo.grownBy w4 none := gr_grown (gr_alloc hgi3 _) hgrB (fun g e => .inr (by have := (hownX.lt g e).1; omega))
      go_wp2_with fail
      go_roundw
      case rel => exact ⟨k + 1, by omega, by go_num, hown4, hG4⟩
      case measure => simp [intOf]; omega
     ·have HNEW : Hid ((js.take (k + 1)).filter (fun q => !(butB i gone) q) = fk) := by show _ = _; rw [hFS2]; rfl
      clear hFS2 hown hgi
      go_wp2_with fail
      go_roundw
      case rel => exact ⟨k + 1, by omega, by go_num, by rw [HNEW.out]; exact hown3, hgi3⟩
      case measure => simp [intOf]; omega
    ·have hkl : ¬ (k : Int) < (js.length : Int) := by omega
     have HCN : Hid (∀ W, wo.grownBy W none → IntsFrom wo.heap.size W (.slice A2 (natI (js.take k |>.filter fun q => !(butB i gone) q)).length c2) (natI (js.filter fun q => !(butB i gone) q)) → Calls Tryz.prog 102 #[.pointer (some ⟨gT, 0, none⟩), .slice A2 (natI (js.take k |>.filter fun q => !(butB i gone) q)).length c2, .int .i64 t] W fun r w' => r = .returned (.int .i64 (cntI l p t (js.filter fun q => !(butB i gone) q))) ∧ W.grownBy w' none) := fun W hW hi => counting_ok base wo.heap.size gT u v _ l p _ t W (HT.out.at_.grown (gr_trans HgO.out hW)) hO hi (fun j hj => HJS.out j (List.mem_filter.1 hj).1)
     have hown2 : IntsFrom wo.heap.size wr (.slice A2 (natI (js.take k |>.filter fun q => !(butB i gone) q)).length c2) (natI (js.filter fun q => !(butB i gone) q)) := by
      rw [List.take_of_length_le (show js.length ≤ k by omega)] at hown ⊢
      exact hown
     have HC := Lib.hid (HCN.out wr hgi hown2)
     obtain ⟨r, hr⟩ : ∃ r, cntI l p t (js.filter fun q => !(butB i gone) q) = r := ⟨_, rfl⟩
     have HSR := HST
     rw [hr] at HC HSR
     generalize (natI (js.take k |>.filter fun q => !(butB i gone) q)).length = LN at *
     clear hown hown2 hA2 hr
     go_wp2_with fail
     refine HC.out.mono ?_
     rintro _ w3 ⟨rfl, hg3⟩
     by_cases hr0 : 0 ≤ r
     ·have HR : Hid (lngP l p t place (butB i gone) = r) := by show _ = _; rw [HSR.out, if_pos hr0]
      go_wp2_with fail
      go_ret
      exact ⟨ret_of HR.out.symm, gr_trans (gr_trans HgO.out hgi) hg3⟩
     ·have HR : Hid (lngP l p t place (butB i gone) = lngF l p t place (butB i gone) m) := by show _ = _; rw [HSR.out, if_neg hr0]
      go_wp2_with fail
      go_roundw
      case rel => exact ⟨m, by have := HM.out; omega, by first | rfl | go_num, HR, gr_trans (gr_trans HgO.out hgi) hg3⟩
      case measure => simp [intOf]; have := HM.out; omega
end Go.Proofs.YtbpkfkbbkgdlaaaGreatDoor

namespace Go.Proofs.YtbpkfkbbkgdlaaaGreatDoor
open Go.RowKit
set_option linter.unusedVariables false
set_option linter.unusedSimpArgs false

abbrev Fnd := ByteArray × Int × Int
def fndX (l : List Ent) (x : Pfx) : Fnd := ((entD l x.ent).key, (entD l x.ent).cont, fndZ l x)
end Go.Proofs.YtbpkfkbbkgdlaaaGreatDoor
