/- When a call sign's entity changes: the edges of the prefixes that can count are enough (plain). No condition. The walk over call.All: the entities of some call signs, each once, in order, and the call signs that belong to nothing. Condition: lists of parts of a size. The walk over the reference's AllOf: what call.All tells. Condition: a right table lies in memory; right call signs. Plain law of the cosine in whole numbers: no program in sight. No condition. place.cosine and pileref1.CosineOf both compute the plain cosine. Condition: the angle is far from the ends of int. Plain law of the sun: what tilt and height come to, and their bounds: no program in sight. No condition. The walks over tilt and height of the sun, in package place and in the reference. Condition: moments and angles in their ranges. The error of a site, in package place and in the reference. No condition. Tilt, Sun, Grey, Cosine with their errors; GreyAt; placed. Condition: a site's numbers lie within 2^41. ready: the four packages do something. Condition: asciiSpace is Go's own table, MaxLen holds a number. The walk over the law NumbersComeBack. Condition: asciiSpace and the powers of ten are Go's own tables, MaxLen holds a number. Pairs of a moment and a name in memory; Itoa at moments; the changes as a loop makes them. Condition: the powers of ten are Go's own table. The walk over call.Changes: the changes of what Find says. Condition: parts of a size; the powers of ten are Go's own table. The walk over the reference's edgesOf: all moments at which something can change, rising. Condition: a right table lies in memory. The walk over the reference's ChangesOf: what call.Changes tells. Condition: a right table lies in memory; a right call sign; the powers of ten are Go's own table. -/
import Derived.Test.YtbpkfkbbkgdlaaaGreatDoorPChkam
import Derived.Test.YtbpkfkbbkgdlaaaGreatDoorPChkal
import Derived.Test.YtbpkfkbbkgdlaaaGreatDoorPChkah
import Derived.Deep.AppendLies
import Derived.Test.YtbpkfkbbkgdlaaaGreatDoorPChkaa
import Derived.Test.YtbpkfkbbkgdlaaaGreatDoorPChkab
import Derived.Lib.Bytealg
import Derived.Lib.ItoaNum
import Derived.Lib.ItoaMem
import Derived.Test.YtbpkfkbbkgdlaaaGreatDoorPChkac
import Derived.Lib.SliceRun
import Derived.Deep.DeepCutAuto
namespace Go.Proofs.YtbpkfkbbkgdlaaaGreatDoor
open Go.RowKit
set_option linter.unusedVariables false
set_option linter.unusedSimpArgs false

/-- The changes of what is said at some moments. -/
def chgL (nm : Int → ByteArray) : Option ByteArray → List Int → List (Int × ByteArray)
 | _, [] => []
 | o, t :: r => if o = some (nm t) then chgL nm o r else (t, nm t) :: chgL nm (some (nm t)) r
def Steady (nm : Int → ByteArray) (P : Int → Bool) : Option ByteArray → List Int → Prop
 | _, [] => True
 | o, t :: r => (P t = false → o = some (nm t)) ∧ Steady nm P (some (nm t)) r
theorem chgL_sub (nm : Int → ByteArray) (P : Int → Bool) : ∀ (l : List Int) (o : Option ByteArray), Steady nm P o l → chgL nm o (l.filter P) = chgL nm o l
 | [], _, _ => rfl
 | t :: r, o, h => by
   obtain ⟨h1, h2⟩ := h
   rw [List.filter_cons]
   by_cases hp : P t = true
   ·rw [if_pos hp]
    unfold chgL
    by_cases ho : o = some (nm t)
    ·rw [if_pos ho, if_pos ho, ho]
     exact chgL_sub nm P r _ h2
    ·rw [if_neg ho, if_neg ho, chgL_sub nm P r _ h2]
   ·have ho := h1 (by simpa using hp)
    rw [if_neg hp]
    have e : chgL nm o (t :: r) = chgL nm o r := by
     show (if o = some (nm t) then chgL nm o r else _) = _
     rw [if_pos ho]
    rw [e]
    rw [ho]
    exact chgL_sub nm P r _ h2
/-- What rises and is steady between the moments of P. -/
theorem steady_of (nm : Int → ByteArray) (P : Int → Bool) (T : List Int) (hP : ∀ x, P x = true → x ∈ T) : ∀ (l : List Int) (x : Int), (x :: l).Pairwise (· < ·) → (∀ y ∈ T, y ≤ x ∨ y ∈ l) →
 (∀ a b, a ∈ x :: l → b ∈ l → a ≤ b → (∀ e, P e = true → ¬ (a < e ∧ e ≤ b)) → nm a = nm b) → Steady nm P (some (nm x)) l
 | [], _, _, _, _ => trivial
 | y :: r, x, hs, hT, hc => by
   have hs1 := List.pairwise_cons.1 hs
   have hs2 := List.pairwise_cons.1 hs1.2
   refine ⟨fun hp => ?_, steady_of nm P T hP r y hs1.2 (fun z hz => ?_) (fun a b ha hb => hc a b (by simp [List.mem_cons.1 ha]) (by simp [hb]))⟩
   ·congr 1
    refine hc x y (by simp) (by simp) (Int.le_of_lt (hs1.1 y (by simp))) (fun e he ⟨h1, h2⟩ => ?_)
    rcases hT e (hP e he) with h3 | h3
    ·omega
    ·rcases List.mem_cons.1 h3 with rfl | h4
     ·rw [he] at hp; cases hp
     ·have := hs2.1 e h4; omega
   ·rcases hT z hz with h | h
    ·left
     have := hs1.1 y (by simp)
     omega
    ·rcases List.mem_cons.1 h with rfl | h
     ·left; exact Int.le_refl _
     ·right; exact h
/-- What a call sign belongs to, in words. -/
def nameAt (l : List Ent) (p : List Pfx) (s : ByteArray) (q : ByteArray × Nat × Int × ByteArray) (t : Int) : ByteArray := match fndOf l p s t q with | none => ⟨#[45]⟩ | some f => f.1
def plcQ (q : ByteArray × Nat × Int × ByteArray) : ByteArray := plcOf q.1 (q.1.extract 0 (q.2.1 + 1)) (q.1.extract (q.2.1 + 1) q.1.size) q.2.2.2 q.2.2.1
/-- The prefixes that can count for a call sign. -/
def canL (p : List Pfx) (s : ByteArray) (q : ByteArray × Nat × Int × ByteArray) : List Nat := idxL p true s ++ nearL p (plcQ q) (min 4 (plcQ q).size)
theorem edgL_mem (l : List Ent) (p : List Pfx) (js : List Nat) (a z x : Int) : x ∈ edgL l p js a z ↔ x = a ∨ ∃ j ∈ js, x ∈ tmL l p j ∧ a < x ∧ x < z := by
 unfold edgL
 rw [(compI_props _ (sortI_sorted _)).2, sortI_mem, List.mem_cons]
 unfold edgI
 simp only [List.mem_flatMap, List.mem_filter, betB, Bool.and_eq_true, decide_eq_true_eq]
theorem edgL_rise (l : List Ent) (p : List Pfx) (js : List Nat) (a z : Int) : (edgL l p js a z).Pairwise (· < ·) := (compI_props _ (sortI_sorted _)).1
theorem cnt_between {l : List Ent} {p : List Pfx} {js : List Nat} {a z : Int} {j : Nat} (hj : j ∈ js) (hlt : j < p.length) {x y : Int} (hx : a ≤ x) (hxy : x ≤ y) (hy : y < z) (h : ∀ e ∈ edgL l p js a z, ¬ (x < e ∧ e ≤ y)) : cntB l p[j] x = cntB l p[j] y := by
 rw [← cntB_tm, ← cntB_tm]
 have h1 : ¬ (x < tmA l p[j] ∧ tmA l p[j] ≤ y) := fun hh => h _ ((edgL_mem _ _ _ _ _ _).2 (.inr ⟨j, hj, by unfold tmL; rw [List.getElem?_eq_getElem hlt]; simp, by omega, by omega⟩)) hh
 have h2 : ¬ (x < tmZ l p[j] ∧ tmZ l p[j] ≤ y) := fun hh => h _ ((edgL_mem _ _ _ _ _ _).2 (.inr ⟨j, hj, by unfold tmL; rw [List.getElem?_eq_getElem hlt]; simp, by omega, by omega⟩)) hh
 unfold hasB
 rw [decide_eq_decide]
 omega
theorem nearL_mem {p : List Pfx} {place : ByteArray} {j n : Nat} : j ∈ nearL p place n ↔ ∃ i, i < n ∧ ∃ h : j < p.length, p[j].whole = false ∧ p[j].beg = place.extract 0 (i + 1) := by
 unfold nearL
 simp only [List.mem_flatMap, List.mem_range, idxL_mem]
theorem has_near {p : List Pfx} {place : ByteArray} {j : Nat} (h : j < p.length) (hw : p[j].whole = false) (hs : 1 ≤ p[j].beg.size ∧ p[j].beg.size ≤ 4) (hp : Lib.hasPrefix place.data.toList p[j].beg.data.toList = true) : j ∈ nearL p place (min 4 place.size) := by
 obtain ⟨h1, h2⟩ := has_beg.1 hp
 exact nearL_mem.2 ⟨p[j].beg.size - 1, by omega, h, hw, by rw [show p[j].beg.size - 1 + 1 = p[j].beg.size by omega]; exact h2⟩
theorem find_congr {α : Type} (f g : α → Bool) : ∀ (l : List α), (∀ a ∈ l, f a = g a) → l.find? f = l.find? g
 | [], _ => rfl
 | x :: r, h => by rw [List.find?_cons, List.find?_cons, h x (by simp), find_congr f g r (fun a ha => h a (by simp [ha]))]
/-- Between the edges nothing changes. -/
theorem fnd_between (l : List Ent) (p : List Pfx) (s : ByteArray) (q : ByteArray × Nat × Int × ByteArray) (hR : TabRight l p) (z : Int) {x y : Int} (hx : 0 ≤ x) (hxy : x ≤ y) (hy : y < z) (h : ∀ e ∈ edgL l p (canL p s q) 0 z, ¬ (x < e ∧ e ≤ y)) : fndOf l p s x q = fndOf l p s y q := by
 have hw : whlOf l p s x = whlOf l p s y := by
  unfold whlOf
  refine find_congr _ _ p (fun a ha => ?_)
  obtain ⟨j, hj, rfl⟩ := List.mem_iff_getElem.1 ha
  unfold whlB
  by_cases h1 : p[j].whole = true ∧ p[j].beg = s
  ·rw [cnt_between (a := 0) (z := z) (js := canL p s q) (List.mem_append_left _ (idxL_mem.2 ⟨hj, h1⟩)) hj hx hxy hy h]
  ·cases hh : p[j].whole
   ·rfl
   ·have : p[j].beg ≠ s := fun e => h1 ⟨hh, e⟩
    simp [this]
 have hl : lngTo l p (plcQ q) x (-1) p.length = lngTo l p (plcQ q) y (-1) p.length := by
  rw [lngTo_P _ _ _ _ _ hR.size, lngTo_P _ _ _ _ _ hR.size]
  refine (lngP_best l p x (plcQ q) _ hR.size).one ((lngP_best l p y (plcQ q) _ hR.size).of fun j => ?_)
  have hc : ∀ (h1 : j < p.length), p[j].whole = false → Lib.hasPrefix (plcQ q).data.toList p[j].beg.data.toList = true → cntB l p[j] x = cntB l p[j] y := fun h1 h2 h3 =>
   cnt_between (a := 0) (z := z) (js := canL p s q) (List.mem_append_right _ (has_near h1 h2 (hR.size _ (List.getElem_mem h1) h2) h3)) h1 hx hxy hy h
  constructor
  ·rintro ⟨h1, h2, h3, h4, h5⟩
   exact ⟨h1, h2, h3, by rw [hc h1 h3 h5]; exact h4, h5⟩
  ·rintro ⟨h1, h2, h3, h4, h5⟩
   exact ⟨h1, h2, h3, by rw [← hc h1 h3 h5]; exact h4, h5⟩
 unfold fndOf
 rw [hw]
 cases whlOf l p s y with
 | some _ => rfl
 | none =>
   show restOf l p x q = restOf l p y q
   unfold restOf
   unfold plcQ at hl
   rw [hl]
/-- The reference's edges. -/
def refEdg (l : List Ent) (p : List Pfx) : List Int := (compI (sortI (0 :: (l.flatMap (fun e => [e.a, e.z]) ++ p.flatMap fun x => [x.a, x.z])))).filter fun n => decide (n < 345686400000)
theorem refEdg_mem (l : List Ent) (p : List Pfx) (x : Int) : x ∈ refEdg l p ↔ (x = 0 ∨ (∃ e ∈ l, x = e.a ∨ x = e.z) ∨ ∃ y ∈ p, x = y.a ∨ x = y.z) ∧ x < 345686400000 := by
 unfold refEdg
 rw [List.mem_filter, (compI_props _ (sortI_sorted _)).2, sortI_mem]
 simp [List.mem_flatMap]
theorem refEdg_rise (l : List Ent) (p : List Pfx) : (refEdg l p).Pairwise (· < ·) := List.Pairwise.filter _ (compI_props _ (sortI_sorted _)).1
theorem canL_lt {p : List Pfx} {s : ByteArray} {q : ByteArray × Nat × Int × ByteArray} : ∀ j ∈ canL p s q, j < p.length := fun j hj => by
 rcases List.mem_append.1 hj with h | h
 ·exact (idxL_mem.1 h).1
 ·obtain ⟨_, _, h, _⟩ := nearL_mem.1 h
  exact h
theorem entD_mem {l : List Ent} {s : ByteArray} (h : (entOf l s).isSome = true) : entD l s ∈ l := by
 obtain ⟨e, he⟩ := Option.isSome_iff_exists.1 h
 unfold entD
 rw [he]
 exact (entOf_mem he).1
theorem edg_sub {l : List Ent} {p : List Pfx} (hR : TabRight l p) {s : ByteArray} {q : ByteArray × Nat × Int × ByteArray} {x : Int} (h : x ∈ edgL l p (canL p s q) 0 345686400000) : x ∈ refEdg l p := by
 rw [refEdg_mem]
 rcases (edgL_mem _ _ _ _ _ _).1 h with rfl | ⟨j, hj, h1, h2, h3⟩
 ·exact ⟨.inl rfl, by decide⟩
 ·refine ⟨.inr ?_, h3⟩
  have hjl := canL_lt j hj
  unfold tmL at h1
  rw [List.getElem?_eq_getElem hjl] at h1
  have hm := entD_mem (hR.ok.has _ (List.getElem_mem hjl))
  simp only [List.mem_cons, List.not_mem_nil, or_false] at h1
  unfold tmA tmZ at h1
  rcases h1 with h1 | h1
  ·rcases Int.le_total p[j].a (entD l p[j].ent).a with hh | hh
   ·exact .inl ⟨_, hm, .inl (by omega)⟩
   ·exact .inr ⟨_, List.getElem_mem hjl, .inl (by omega)⟩
  ·rcases Int.le_total p[j].z (entD l p[j].ent).z with hh | hh
   ·exact .inr ⟨_, List.getElem_mem hjl, .inr (by omega)⟩
   ·exact .inl ⟨_, hm, .inr (by omega)⟩
theorem ref_nonneg {l : List Ent} {p : List Pfx} (hR : TabRight l p) {x : Int} (h : x ∈ refEdg l p) : 0 ≤ x ∧ x < 345686400000 := by
 rw [refEdg_mem] at h
 obtain ⟨h, hz⟩ := h
 refine ⟨?_, hz⟩
 have ht : ∀ a z : Int, timeB a z = true → 0 ≤ a ∧ a < z := fun a z ht => by
  unfold timeB at ht
  simp at ht
  omega
 rcases h with rfl | ⟨e, he, h⟩ | ⟨y, hy, h⟩
 ·omega
 ·have := ht _ _ (hR.ok.ents.times e he).1
  omega
 ·have := ht _ _ (hR.pfx y hy).time
  omega
/-- The program's changes are the reference's. -/
theorem chg_ref (l : List Ent) (p : List Pfx) (hR : TabRight l p) (s : ByteArray) (q : ByteArray × Nat × Int × ByteArray) : chgL (nameAt l p s q) none (edgL l p (canL p s q) 0 345686400000) = chgL (nameAt l p s q) none (refEdg l p) := by
 have hE : edgL l p (canL p s q) 0 345686400000 = (refEdg l p).filter fun x => decide (x ∈ edgL l p (canL p s q) 0 345686400000) := by
  refine rise_ext _ _ (edgL_rise _ _ _ _ _) (List.Pairwise.filter _ (refEdg_rise _ _)) (fun x => ?_)
  rw [List.mem_filter, decide_eq_true_eq]
  exact ⟨fun h => ⟨edg_sub hR h, h⟩, fun h => h.2⟩
 have h0 : (0 : Int) ∈ edgL l p (canL p s q) 0 345686400000 := (edgL_mem _ _ _ _ _ _).2 (.inl rfl)
 generalize hEE : edgL l p (canL p s q) 0 345686400000 = E at *
 rw [hE]
 refine chgL_sub _ _ _ _ ?_
 have hr0 : (0 : Int) ∈ refEdg l p := (refEdg_mem _ _ _).2 ⟨.inl rfl, by decide⟩
 have hrise := refEdg_rise l p
 have hnn : ∀ x ∈ refEdg l p, 0 ≤ x ∧ x < 345686400000 := fun x hx => ref_nonneg hR hx
 have hsub : ∀ x ∈ E, x ∈ refEdg l p := fun x hx => edg_sub hR (by rw [hEE]; exact hx)
 generalize refEdg l p = F at *
 cases F with
 | nil => simp at hr0
 | cons y r =>
   have hp := List.pairwise_cons.1 hrise
   have hy0 : y = 0 := by
    rcases List.mem_cons.1 hr0 with h | h
    ·exact h.symm
    ·have := hp.1 0 h
     have := hnn y (by simp)
     omega
   subst hy0
   refine ⟨fun h => ?_, ?_⟩
   ·rw [decide_eq_false_iff_not] at h
    exact absurd h0 h
   ·refine steady_of _ _ E (fun x hx => by simpa using hx) r 0 hrise (fun x hx => ?_) (fun a b ha hb hab hno => ?_)
    ·rcases List.mem_cons.1 (hsub x hx) with rfl | h
     ·exact .inl (Int.le_refl _)
     ·exact .inr h
    ·have h1 := fnd_between l p s q hR 345686400000 (x := a) (y := b) (hnn a ha).1 hab (hnn b (List.mem_cons_of_mem _ hb)).2 (fun e he => hno e (by rw [hEE] at he; simpa using he))
     unfold nameAt
     rw [h1]
end Go.Proofs.YtbpkfkbbkgdlaaaGreatDoor

namespace Go.Proofs.YtbpkfkbbkgdlaaaGreatDoor
open Go.RowKit
set_option linter.unusedVariables false
set_option linter.unusedSimpArgs false

/-- To what a call sign belongs (a string that is none: nothing). -/
def fndS (l : List Ent) (p : List Pfx) (t : Int) (s : ByteArray) : Option Fnd := match partsOf s with | none => none | some q => fndOf l p s t q
def allKeys (l : List Ent) (p : List Pfx) (t : Int) (cs : List ByteArray) : Nat → List (List UInt8)
 | 0 => []
 | k + 1 => match fndS l p t (cs.getD k default) with | none => allKeys l p t cs k | some f => insK (allKeys l p t cs k) f.1.data.toList
def allSome (l : List Ent) (p : List Pfx) (t : Int) (cs : List ByteArray) : Nat → List (List UInt8)
 | 0 => []
 | k + 1 => match fndS l p t (cs.getD k default) with | none => allSome l p t cs k | some f => allSome l p t cs k ++ [f.1.data.toList]
def allNone (l : List Ent) (p : List Pfx) (t : Int) (cs : List ByteArray) : Nat → List ByteArray
 | 0 => []
 | k + 1 => match fndS l p t (cs.getD k default) with | none => (if Lib.containsS (allNone l p t cs k) (cs.getD k default) then allNone l p t cs k else allNone l p t cs k ++ [cs.getD k default]) | some f => allNone l p t cs k
theorem allKeys_len (l : List Ent) (p : List Pfx) (t : Int) (cs : List ByteArray) : ∀ k, (allKeys l p t cs k).length ≤ k ∧ (allKeys l p t cs k).Nodup
 | 0 => ⟨Nat.le_refl _, List.nodup_nil⟩
 | k + 1 => by
   have ih := allKeys_len l p t cs k
   unfold allKeys
   split
   ·exact ⟨by omega, ih.2⟩
   ·rename_i f _
    exact ⟨by have := insK_len (allKeys l p t cs k) f.1.data.toList; omega, insK_nodup ih.2 _⟩
theorem allSome_mem (l : List Ent) (p : List Pfx) (t : Int) (cs : List ByteArray) (x : List UInt8) : ∀ k, x ∈ allSome l p t cs k ↔ x ∈ allKeys l p t cs k
 | 0 => Iff.rfl
 | k + 1 => by
   have ih := allSome_mem l p t cs x k
   unfold allSome allKeys
   cases fndS l p t (cs.getD k default) with
   | none => exact ih
   | some f =>
     show x ∈ allSome l p t cs k ++ [f.1.data.toList] ↔ x ∈ insK (allKeys l p t cs k) f.1.data.toList
     rw [insK_mem, List.mem_append, ih, List.mem_singleton]
     exact or_congr Iff.rfl eq_comm
theorem allSome_len (l : List Ent) (p : List Pfx) (t : Int) (cs : List ByteArray) : ∀ k, (allSome l p t cs k).length ≤ k ∧ (allNone l p t cs k).length ≤ k
 | 0 => ⟨Nat.le_refl _, Nat.le_refl _⟩
 | k + 1 => by
   have ih := allSome_len l p t cs k
   unfold allSome allNone
   cases fndS l p t (cs.getD k default) with
   | none =>
     refine ⟨by show (allSome l p t cs k).length ≤ _; omega, ?_⟩
     show (if _ then _ else _ : List ByteArray).length ≤ _
     split
     ·omega
     ·rw [List.length_append]; simp; omega
   | some f => exact ⟨by show (allSome l p t cs k ++ [_]).length ≤ _; rw [List.length_append]; simp; omega, by show (allNone l p t cs k).length ≤ _; omega⟩
/-- The entities, each once, in order. -/
def allOnce (l : List Ent) (p : List Pfx) (t : Int) (cs : List ByteArray) : List (List UInt8) := onceB (allSome l p t cs cs.length)
theorem all_sorted (l : List Ent) (p : List Pfx) (t : Int) (cs : List ByteArray) {ss : List (List UInt8)} (hp : ss.Perm (allKeys l p t cs cs.length)) (hs : ss.Pairwise (· ≤ ·)) : ss = allOnce l p t cs := by
 unfold allOnce
 rw [onceB_keys (allKeys_len l p t cs _).2 (fun x => allSome_mem l p t cs x _)]
 exact sorted_one hs (sortB_sorted _) (hp.trans (sortB_perm _).symm)
def allE (l : List Ent) (p : List Pfx) (cs : List ByteArray) (t : Int) : Int := if tabE l p ≠ 0 then tabE l p else if callsE cs ≠ 0 then callsE cs else momE t
theorem fnd_small {l : List Ent} {p : List Pfx} (hR : TabRight l p) {s : ByteArray} {t : Int} {q : ByteArray × Nat × Int × ByteArray} {f : Fnd} (h : fndOf l p s t q = some f) : f.1.size ≤ 40 := by
 have hx : ∀ x ∈ p, (fndX l x).1.size ≤ 40 := fun x hx => by
  have hm := entD_mem (hR.ok.has x hx)
  have hk := (hR.ok.ents.times _ hm).2.1
  show (entD l x.ent).key.size ≤ 40
  generalize (entD l x.ent).key = K at *
  unfold keyB at hk
  simp only [Bool.and_eq_true, decide_eq_true_eq] at hk
  have := size_len K
  omega
 unfold fndOf at h
 cases hw : whlOf l p s t with
 | some x =>
   rw [hw] at h
   injection h with h
   subst h
   exact hx x (List.mem_of_find?_eq_some hw)
 | none =>
   rw [hw] at h
   have h2 : restOf l p t q = some f := h
   unfold restOf at h2
   split at h2
   ·cases h2
   ·split at h2
    ·cases h2
    ·obtain ⟨x, h3, rfl⟩ := Option.map_eq_some_iff.1 h2
     exact hx x (List.mem_of_getElem? h3)
theorem containsA_any (base : Nat) (v : Value) (l : List ByteArray) (t : ByteArray) (w : World) (hl : StrsFrom base w v l) :
 Calls Tryz.prog 59 #[v, .string t] w fun e w' => e = .returned (.bool (Lib.containsS l t)) ∧ w.grownBy w' none := by
 obtain ⟨A, c, rfl, hlen, hA⟩ := hl.shape
 rcases Nat.eq_zero_or_pos l.length with h0 | hne
 ·have e := List.eq_nil_of_length_eq_zero h0
  subst e
  refine (Tryz.slices_Contains_string_empty A c t w).mono ?_
  rintro e w' ⟨he, hw⟩
  exact ⟨he, by rw [hw]; exact gr_refl _ _⟩
 ·obtain ⟨g, rfl, _, _⟩ := hA hne
  have hcell : ∀ j, j < l.length → w.cell? ⟨g, 0 + j, none⟩ = some (.string (l.getD j ByteArray.empty)) := fun j hj => by
   rw [Nat.zero_add, hl.at_ j hj]
   simp [hj]
  have hcon := Tryz.slices_Contains_string g 0 l.length c l t w (Nat.le_refl _) hlen hcell
  rw [List.take_length] at hcon
  refine hcon.mono ?_
  rintro e w' ⟨he, hw⟩
  exact ⟨he, by rw [hw]; exact gr_refl _ _⟩
theorem strInfoA : (Tryz.prog.info? 9).map (fun i => (i.zero, i.size, i.bytes)) = some (some (.string ⟨#[]⟩), 1, 16) := by kernel_rfl
theorem str_onesA (s : ByteArray) : ∀ u ∈ [Value.string s], u.oneCell' = true := by intro u hu; simp at hu; subst hu; rfl
theorem strs_app {base : Nat} {w : World} {v : Value} {n : Nat} {l : List ByteArray} (s : ByteArray) (hn : n = l.length) (h : w.ownsRow base 9 1 v (n + 1) (l.map Value.string ++ [.string s])) : StrsFrom base w v (l ++ [s]) := by
 unfold StrsFrom
 rw [List.length_append, List.map_append, ← hn]
 exact h
theorem MapK.more {w : World} {bm n : Nat} {l : List (List UInt8)} (h : MapK w bm n l) (m : Nat) (hm : n ≤ m) : MapK w bm m l := by
 obtain ⟨D, ⟨es, clock, h1, h2, h3, h4⟩, h5⟩ := h
 exact ⟨D, ⟨es, clock, h1, h2, Nat.le_trans h3 hm, h4⟩, h5⟩
def AllPost (l : List Ent) (p : List Pfx) (cs : List ByteArray) (t : Int) (w : World) (r : Ending) (w' : World) : Prop :=
 ∃ (v1 v2 : Value) (a : List (List UInt8)) (b : List ByteArray), r = .returned (.tuple #[v1, v2, .int .i64 (allE l p cs t)]) ∧ NamesFrom w.heap.size w' v1 a ∧ StrsFrom w.heap.size w' v2 b ∧ (allE l p cs t ≠ 0 → a = [] ∧ b = []) ∧ (allE l p cs t = 0 → a = allOnce l p t cs ∧ b = allNone l p t cs cs.length) ∧ w.grownBy w' none
set_option maxRecDepth 100000 in
set_option maxHeartbeats 16000000 in
theorem all_any (base : Nat) (u v cv : Value) (l : List Ent) (p : List Pfx) (cs : List ByteArray) (t : Int) (w : World) (hu : EntsFrom base w u l) (hsl : ∀ e ∈ l, EntSm e) (hv : PfxsFrom base w v p) (hsm : ∀ x ∈ p, PfxSm x) (hc : StrsFrom base w cv cs) (hcs : SmallS cs) :
 Calls Tryz.prog 16 #[u, v, cv, .int .i64 t] w (AllPost l p cs t w) := by
 obtain ⟨i0, hi0, hz0, hz1, hz2⟩ := info_parts strInfoA
 have hmm := @run_makeMap Tryz.prog
 have HCT : Hid (∀ W, w.grownBy W none → Calls Tryz.prog 14 #[u, v] W fun r w' => r = .returned (.int .i64 (tabE l p)) ∧ W.grownBy w' none) := fun W hW => checkTable_any base u v l p W (hu.grown hW) hsl (hv.grown hW) hsm
 have HCC : Hid (∀ W, w.grownBy W none → Calls Tryz.prog 58 #[cv] W fun r w' => r = .returned (.int .i64 (callsE cs)) ∧ W.grownBy w' none) := fun W hW => checkCalls_any base cv cs W (hc.grown hW) hcs
 have HIM : Hid (∀ W, Calls Tryz.prog 55 #[.int .i64 t] W fun e w' => e = .returned (.bool (!outB t 0 345686399999)) ∧ W = w') := fun W => isMoment_any t W
 have HTO : Hid (tabE l p = 0 → ∀ W, w.grownBy W none → Calls Tryz.prog 56 #[u, v] W (TabPost base u v l p W)) := fun h W hW => tableOf_right base u v l p W (hu.grown hW) (hv.grown hW) (tabE_ok h)
 have HC := Lib.hid hc
 obtain ⟨A, c, rfl, hlen, hA⟩ := hc.shape
 have HA := Lib.hid hA
 obtain ⟨LC, hLC⟩ : ∃ LC, cs.length = LC := ⟨_, rfl⟩
 obtain ⟨E1, hE1⟩ : ∃ E, tabE l p = E := ⟨_, rfl⟩
 obtain ⟨E2, hE2⟩ : ∃ E, callsE cs = E := ⟨_, rfl⟩
 have HE1 := Lib.hid hE1
 have HE2 := Lib.hid hE2
 have HLC := Lib.hid hLC
 have HSM := Lib.hid hcs
 have hLb : LC ≤ 1000 := by rw [← hLC]; exact hcs.1
 have HFAIL : Hid (allE l p cs t ≠ 0 → ∀ w', w.grownBy w' none → ∀ e, allE l p cs t = e → AllPost l p cs t w (.returned (.tuple #[.slice none 0 0, .slice none 0 0, .int .i64 e])) w') := fun h w' hg e he => ⟨_, _, [], [], by rw [he], NamesFrom.nil _ _, StrsFrom.nil _ _, fun _ => ⟨rfl, rfl⟩, fun h2 => absurd h2 h, hg⟩
 have HAE : Hid (allE l p cs t = if E1 ≠ 0 then E1 else if E2 ≠ 0 then E2 else momE t) := by show _ = _; unfold allE; rw [hE1, hE2]
 rw [hE1] at HCT
 rw [hE2] at HCC
 rw [hLC] at HCC HC ⊢
 clear hu hv hc hcs hA hE1 hE2 hLC hlen
 go_enter Tryz.func16, Tryz.ntmps16
 go_wp2_with fail
 refine (HCT.out _ (gr_refl _ _)).mono ?_
 rintro _ w2 ⟨rfl, hg2⟩
 by_cases h1 : E1 = 0
 ·have HTO2 := Lib.hid (HTO.out (HE1.out.trans h1))
  have hR := tabE_ok (HE1.out.trans h1)
  have HRT := Lib.hid hR
  subst h1
  clear HTO HCT hR
  go_wp2_with fail
  refine (HCC.out _ hg2).mono ?_
  rintro _ w3 ⟨rfl, hg3⟩
  have hg23 := gr_trans hg2 hg3
  clear HCC hg2 hg3
  by_cases h2 : E2 = 0
  ·subst h2
   go_wp2_with fail
   refine (HIM.out _).mono ?_
   rintro _ _ ⟨rfl, rfl⟩
   clear HIM
   rcases momE_cases t with ⟨hm, ho, _, _⟩ | ⟨hm, ho⟩
   ·have HAZ : Hid (allE l p cs t = 0) := by show _ = _; rw [HAE.out, hm]; simp
    have hcall : ∀ s ∈ cs, isCall s = true := by
     have h := callsE_0.1 HE2.out
     exact List.all_eq_true.1 h
    have HCL := Lib.hid hcall
    rw [ho]
    clear ho hm HFAIL hcall
    go_wp2_with fail
    refine (HTO2.out _ hg23).mono ?_
    rintro _ w4 ⟨base2, gT, bB, bW, rfl, hTF, _, hg4⟩
    have hg24 := gr_trans hg23 hg4
    have HTF := Lib.hid hTF
    clear hTF hg23 hg4 HTO2
    have hM0 := MapK.made w4
    have hgM := World.grownBy_alloc w4 (.map #[] 0) none
    go_wp2_with fail
    obtain ⟨bm, hbm⟩ : ∃ x, w4.heap.size = x := ⟨_, rfl⟩
    have HBM : Hid (w.heap.size ≤ bm) := by show _ ≤ _; rw [← hbm]; exact hg24.size
    generalize hw5 : w4.alloc (.map #[] 0) = w5 at *
    have HB5 : Hid (bm + 1 = w5.heap.size) := by show _ = _; rw [← hw5, ← hbm]; simp
    have HBW4 : Hid (w4.heap.size ≤ bm) := by show _ ≤ _; omega
    rw [hbm] at hM0 ⊢
    clear hbm hw5
    have HG45 := Lib.hid hgM
    have HG24 := Lib.hid hg24
    have HG5 := Lib.hid (gr_trans hg24 hgM)
    clear hgM hg24
    go_wp2_with fail
    go_loopw [15, 40] (fun ov kv wr => ∃ k : Nat, k ≤ LC ∧ kv = .int .i64 k ∧ MapK wr bm k (allKeys l p t cs k) ∧ StrsFrom (bm + 1) wr ov (allNone l p t cs k) ∧ w4.grownBy wr none) (fun _ kv _ => LC - (intOf kv).toNat)
    case atStart => exact ⟨0, by omega, rfl, hM0, StrsFrom.nil _ _, HG45.out⟩
    case round =>
     obtain ⟨k, hk, rfl, hM, hown, hg⟩ := hrel
     clear hM0
     obtain ⟨A2, c2, rfl, _, hA2⟩ := hown.shape
     obtain ⟨LN, hLN⟩ : ∃ LN, (allNone l p t cs k).length = LN := ⟨_, rfl⟩
     have hLNb : LN ≤ k := by rw [← hLN]; exact (allSome_len l p t cs k).2
     rw [hLN] at hown ⊢
     have HLN := Lib.hid hLN
     have HOWN := Lib.hid hown
     clear hA2 hown hLN
     by_cases hlt : k < LC
     ·have hki : (k : Int) < (LC : Int) := by omega
      have hkc : k < cs.length := by rw [HLC.out]; exact hlt
      obtain ⟨gc, rfl, _, _⟩ := HA.out (by omega)
      have HGW := Lib.hid (gr_trans HG24.out hg)
      have cx := ((show StrsFrom base w (.slice (some ⟨gc, 0, none⟩) cs.length c) cs from by rw [HLC.out]; exact HC.out).grown HGW.out).at_ k hkc
      have hgd : cs.getD k default = cs[k] := by rw [List.getD_eq_getElem?_getD, List.getElem?_eq_getElem hkc]; rfl
      have hcl := HCL.out _ (List.getElem_mem hkc)
      have hsz := HSM.out.2 _ (List.getElem_mem hkc)
      have hK1 : allKeys l p t cs (k + 1) = match fndS l p t cs[k] with | none => allKeys l p t cs k | some f => insK (allKeys l p t cs k) f.1.data.toList := by
       show (match fndS l p t (cs.getD k default) with | none => _ | some f => _) = _
       rw [hgd]
      have hN1 : allNone l p t cs (k + 1) = match fndS l p t cs[k] with | none => (if Lib.containsS (allNone l p t cs k) cs[k] then allNone l p t cs k else allNone l p t cs k ++ [cs[k]]) | some f => allNone l p t cs k := by
       show (match fndS l p t (cs.getD k default) with | none => (if Lib.containsS _ (cs.getD k default) then _ else _ ++ [cs.getD k default]) | some f => _) = _
       rw [hgd]
      clear hgd
      generalize cs[k] = s at *
      obtain ⟨q, hq⟩ := Option.isSome_iff_exists.1 (show (partsOf s).isSome = true from hcl)
      have hfs : fndS l p t s = fndOf l p s t q := by unfold fndS; rw [hq]
      rw [hfs] at hK1 hN1
      have HFI := Lib.hid (find_ok base base2 gT bB bW u _ l p s t q wr (HTF.out.grown hg) HRT.out (by omega) hsz.2 hq)
      obtain ⟨O, hO⟩ : ∃ O, fndOf l p s t q = O := ⟨_, rfl⟩
      have HFS : Hid (∀ f, O = some f → f.1.size ≤ 40) := fun f h => fnd_small HRT.out (hO.trans h)
      rw [hO] at HFI hK1 hN1
      have HK1 := Lib.hid hK1
      have HN1 := Lib.hid hN1
      have hMlen := (allKeys_len l p t cs k).1
      have HMM := Lib.hid hM
      have hbml := hM.lt
      clear hq hfs hO hK1 hN1 hcl hM hsz
      go_wp2_with fail
      refine HFI.out.mono ?_
      rintro _ w6 ⟨hfr, hg6⟩
      obtain rfl := hfr
      have hX := Blk.new w6 38 #[.string (O.getD fndZ0).1, .int .i64 (O.getD fndZ0).2.1, .int .i64 (O.getD fndZ0).2.2]
      have hgX := gr_alloc hg6 (.cells #[.string (O.getD fndZ0).1, .int .i64 (O.getD fndZ0).2.1, .int .i64 (O.getD fndZ0).2.2] 38)
      go_upto_region 16 with fail
      generalize w6.alloc (.cells #[.string (O.getD fndZ0).1, .int .i64 (O.getD fndZ0).2.1, .int .i64 (O.getD fndZ0).2.2] 38) = w7 at *
      generalize w6.heap.size = gX at *
      have x0 := hX.cell 0
      simp only [List.getElem?_toArray, List.getElem?_cons_zero, List.getElem?_cons_succ] at x0
      have hg7 := gr_trans hg hgX
      have HM7 := Lib.hid (HMM.out.quiet hgX)
      have HOW7 := Lib.hid (HOWN.out.grown hgX)
      have hbm7 := HM7.out.lt
      clear hX hg6 hg hgX HFI cx HMM HOWN
      rcases O with _ | F
      ·have HKE : Hid (allKeys l p t cs (k + 1) = allKeys l p t cs k) := HK1.out
       have HCN := Lib.hid (containsA_any (bm + 1) _ _ s w7 HOW7.out)
       have hN2 := HN1.out
       clear x0 HK1 HN1 HFS
       obtain ⟨CB, hCB⟩ : ∃ CB, Lib.containsS (allNone l p t cs k) s = CB := ⟨_, rfl⟩
       rw [hCB] at HCN
       simp only [hCB] at hN2
       have HN2 := Lib.hid hN2
       clear hCB hN2
       go_wp2_with fail
       refine HCN.out.mono ?_
       rintro _ w8 ⟨rfl, hg8⟩
       have hg78 := gr_trans hg7 hg8
       have HM8 := Lib.hid (HM7.out.quiet hg8)
       have HOW8 := Lib.hid (HOW7.out.grown hg8)
       have hs8 := hg8.size
       cases CB
       ·have HNE : Hid (allNone l p t cs (k + 1) = allNone l p t cs k ++ [s]) := HN2.out
        have hrow : w8.ownsRow (bm + 1) 9 1 (.slice A2 LN c2) LN ((allNone l p t cs k).map Value.string) := by
         have h := HOW8.out
         unfold StrsFrom at h
         rw [HLN.out] at h
         exact h
        have HR8 := Lib.hid hrow
        clear hrow
        go_wp2_with (at_builtin; refine wpList_append_own _ rfl _ _ 31 rfl (bm + 1) 9 i0 _ 1 16 Tryz.underlying31 hi0 hz0 hz1 hz2 rfl (by decide) _ LN _ rfl (World.ownsRow.alloc HR8.out _) ⟨_, 0, none⟩ 1 1 [.string s] rfl rfl (World.news_of_block (Blk.new _ _ _)) (str_onesA s) (by unfold maxLen; omega) (by omega) (by simp; omega) ?_; intro v' w9 hownB hgrB _)
        have hown9 : StrsFrom (bm + 1) w9 v' (allNone l p t cs (k + 1)) := by rw [HNE.out]; exact strs_app s HLN.out.symm hownB
        have hlt9 := fun g e => (HR8.out.lt g e).1
        have hg9 : w4.grownBy w9 none := gr_grown (gr_alloc hg78 _) hgrB (fun g e => .inr (by have := hlt9 g e; have := HB5.out; have := HG45.out.size; omega))
        have hM9 : MapK w9 bm (k + 1) (allKeys l p t cs (k + 1)) := by
         rw [HKE.out]
         exact ((HM8.out.quiet (World.grownBy_alloc w8 (.cells #[.string s] 9) none)).kept hgrB (fun e => by have := hlt9 _ e.symm; omega)).more _ (by omega)
        go_wp2_with fail
        go_roundw
        case rel => exact ⟨k + 1, by omega, by go_num, hM9, hown9, hg9⟩
        case measure => simp [intOf]; omega
       ·have HNE : Hid (allNone l p t cs (k + 1) = allNone l p t cs k) := HN2.out
        have hM9 : MapK w8 bm (k + 1) (allKeys l p t cs (k + 1)) := by
         rw [HKE.out]
         exact HM8.out.more _ (by omega)
        have HM9 := Lib.hid hM9
        clear hM9
        go_wp2_with fail
        go_roundw
        case rel => exact ⟨k + 1, by omega, by go_num, HM9.out, by rw [HNE.out]; exact HOW8.out, hg78⟩
        case measure => simp [intOf]; omega
      ·have HNE : Hid (allNone l p t cs (k + 1) = allNone l p t cs k) := HN1.out
       have HKE : Hid (allKeys l p t cs (k + 1) = insK (allKeys l p t cs k) F.1.data.toList) := HK1.out
       have hF := HFS.out F rfl
       have x0' : w7.cell? ⟨gX, 0, none⟩ = some (.string F.1) := x0
       generalize F.1 = F1 at *
       clear x0 HK1 HN1 HFS
       go_wp2_with (refine wpList_mapK _ rfl _ _ _ rfl _ _ _ _ rfl rfl rfl HM7.out (by omega) (by omega) ?_; intro w8 hM8 hg8)
       have HO8 := Lib.hid (HOW7.out.other hg8 (by omega))
       have hg48 : w4.grownBy w8 none := gr_grown hg7 hg8 (fun g e => by injection e with e; exact .inr (by have := HB5.out; have := HBW4.out; omega))
       go_roundw
       case rel => exact ⟨k + 1, by omega, by go_num, by rw [HKE.out]; exact hM8, by rw [HNE.out]; exact HO8.out, hg48⟩
       case measure => simp [intOf]; omega
     ·have hkl : ¬ (k : Int) < (LC : Int) := by omega
      have hkk : k = cs.length := by rw [HLC.out]; omega
      have hMl := (allKeys_len l p t cs k).1
      have HGW := Lib.hid (gr_trans HG24.out hg)
      go_wp2_with fail
      refine (keysB_any _ _).mono ?_
      rintro _ _ ⟨rfl, rfl⟩
      go_wp2_with fail
      refine (sortedB_any _ _ _ _ hM (by omega)).mono ?_
      rintro _ w8 ⟨uu, ss, rfl, hp, hs, hrow, hg8⟩
      have HP := Lib.hid hp
      have HS := Lib.hid hs
      have hNF : NamesFrom w.heap.size w8 uu ss := ownsRow_low hrow HGW.out.size
      have hNO : StrsFrom w.heap.size w8 (.slice A2 LN c2) (allNone l p t cs k) := ownsRow_low (HOWN.out.grown hg8) (by have := HBM.out; omega)
      have HNF := Lib.hid hNF
      have HNO := Lib.hid hNO
      have HKK := Lib.hid hkk
      clear hp hs hrow hNF hNO hkk
      go_wp2_with fail
      go_ret3
      exact ⟨_, _, ss, allNone l p t cs cs.length, by rw [HAZ.out]; rfl, HNF.out, by rw [← HKK.out]; exact HNO.out, fun h => absurd HAZ.out h, fun _ => ⟨all_sorted l p t cs (by rw [← HKK.out]; exact HP.out) HS.out, rfl⟩, gr_trans HGW.out hg8⟩
   ·have HAZ : Hid (allE l p cs t = 1) := by show _ = _; rw [HAE.out, hm]; simp
    rw [ho]
    clear ho hm
    go_wp2_with fail
    go_ret3
    exact HFAIL.out (by rw [HAZ.out]; decide) _ hg23 _ HAZ.out
  ·have HAZ : Hid (allE l p cs t = E2) := by show _ = _; rw [HAE.out, if_neg (by simp), if_pos h2]
   have hb : (E2 == 0) = false := by rw [beq_eq_false_iff_ne]; exact h2
   have HNZ : Hid (allE l p cs t ≠ 0) := by show _ ≠ _; rw [HAZ.out]; exact h2
   clear h2 HE2 HAE
   go_wp2_with fail
   go_ret3
   exact HFAIL.out HNZ.out _ hg23 _ HAZ.out
 ·have HAZ : Hid (allE l p cs t = E1) := by show _ = _; rw [HAE.out, if_pos h1]
  have hb : (E1 == 0) = false := by rw [beq_eq_false_iff_ne]; exact h1
  have HNZ : Hid (allE l p cs t ≠ 0) := by show _ ≠ _; rw [HAZ.out]; exact h1
  clear h1 HE1 HAE HTO HCT
  go_wp2_with fail
  go_ret3
  exact HFAIL.out HNZ.out _ hg2 _ HAZ.out
end Go.Proofs.YtbpkfkbbkgdlaaaGreatDoor

namespace Go.Proofs.YtbpkfkbbkgdlaaaGreatDoor
open Go.RowKit
set_option linter.unusedVariables false
set_option linter.unusedSimpArgs false

theorem encStr_str (s : ByteArray) : encStr s.data.toList = .string s := by simp [encStr]
theorem own_apartB {w w' : World} {base : Nat} {e : TypeId} {s : Nat} {v : Value} {n : Nat} {xs : List Value} (h : w.ownsRow base e s v n xs) {row : Option Nat} (hg : w.grownBy w' row) (hr : ∀ g, v.ownBlock = some g → row ≠ some g) : w'.ownsRow base e s v n xs := by
 refine h.kept hg ?_
 cases hv : v.ownBlock with
 | none => exact .inl rfl
 | some g => exact .inr fun e => hr g hv e.symm
theorem names_app {base : Nat} {w : World} {v : Value} {n : Nat} {l : List (List UInt8)} (s : ByteArray) (hn : n = l.length) (h : w.ownsRow base 9 1 v (n + 1) (l.map encStr ++ [.string s])) : NamesFrom base w v (l ++ [s.data.toList]) := by
 unfold NamesFrom
 rw [List.length_append, List.map_append, ← hn, List.map_cons, encStr_str]
 exact h
set_option maxRecDepth 100000 in
set_option maxHeartbeats 16000000 in
theorem allOf_any (base : Nat) (u v cv : Value) (l : List Ent) (p : List Pfx) (cs : List ByteArray) (t : Int) (w : World) (hu : EntsFrom base w u l) (hv : PfxsFrom base w v p) (hsm : ∀ x ∈ p, PfxSm x) (hR : TabRight l p) (hc : StrsFrom base w cv cs) (hcs : SmallS cs) (hcall : ∀ s ∈ cs, isCall s = true) :
 Calls Tryz.prog 23 #[u, v, cv, .int .i64 t] w fun r w' => ∃ v1 v2, r = .returned (.tuple #[v1, v2]) ∧ NamesFrom w.heap.size w' v1 (allOnce l p t cs) ∧ StrsFrom w.heap.size w' v2 (allNone l p t cs cs.length) ∧ w.grownBy w' none := by
 obtain ⟨i0, hi0, hz0, hz1, hz2⟩ := info_parts strInfoA
 have hll : l.length ≤ 1000000 := by have := hR.ok.ents.len; omega
 have hpl : p.length ≤ 1000000 := by have := hR.ok.len; omega
 have HFO : Hid (∀ (s : ByteArray) q W, w.grownBy W none → s.size ≤ 1000 → Ascii s → partsOf s = some q → Calls Tryz.prog 22 #[u, v, .string s, .int .i64 t] W fun r w' => FndRet (fndOf l p s t q) r ∧ W.grownBy w' none) := fun s q W hW h1 h2 h3 => foundOf_ok base u v l p s t q W (hu.grown hW) hll (hv.grown hW) hpl hsm h1 h2 h3 (parts_size h3)
 have HC := Lib.hid hc
 obtain ⟨A, c, rfl, hlen, hA⟩ := hc.shape
 have HA := Lib.hid hA
 obtain ⟨LC, hLC⟩ : ∃ LC, cs.length = LC := ⟨_, rfl⟩
 have HLC := Lib.hid hLC
 have HSM := Lib.hid hcs
 have HCL := Lib.hid hcall
 have hLb : LC ≤ 1000 := by rw [← hLC]; exact hcs.1
 rw [hLC] at HC ⊢
 obtain ⟨B, hB⟩ : ∃ B, w.heap.size = B := ⟨_, rfl⟩
 have HB := Lib.hid hB
 rw [hB]
 clear hu hv hc hcs hA hLC hlen hcall hB
 go_enter Tryz.func23, Tryz.ntmps23
 go_wp2_with fail
 go_loopw [10, 11, 18] (fun o1 o2 kv wr => ∃ k : Nat, k ≤ LC ∧ kv = .int .i64 k ∧ NamesFrom B wr o1 (allSome l p t cs k) ∧ StrsFrom B wr o2 (allNone l p t cs k) ∧ Hid (∀ g, o1.ownBlock = some g → o2.ownBlock ≠ some g) ∧ w.grownBy wr none) (fun _ _ kv _ => LC - (intOf kv).toNat)
 case atStart => exact ⟨0, by omega, rfl, NamesFrom.nil _ _, StrsFrom.nil _ _, (fun g e => by simp [Value.ownBlock] at e), gr_refl _ _⟩
 case round =>
  obtain ⟨k, hk, rfl, hown1, hown2, HAP, hg⟩ := hrel
  obtain ⟨A1, c1, rfl, _, _⟩ := hown1.shape
  obtain ⟨A2, c2, rfl, _, _⟩ := hown2.shape
  obtain ⟨LS, hLS⟩ : ∃ LS, (allSome l p t cs k).length = LS := ⟨_, rfl⟩
  obtain ⟨LN, hLN⟩ : ∃ LN, (allNone l p t cs k).length = LN := ⟨_, rfl⟩
  have hLSb : LS ≤ k := by rw [← hLS]; exact (allSome_len l p t cs k).1
  have hLNb : LN ≤ k := by rw [← hLN]; exact (allSome_len l p t cs k).2
  rw [hLS] at hown1 HAP ⊢
  rw [hLN] at hown2 HAP ⊢
  have HLS := Lib.hid hLS
  have HLN := Lib.hid hLN
  have HO1 := Lib.hid hown1
  have HO2 := Lib.hid hown2
  clear hown1 hown2 hLS hLN
  by_cases hlt : k < LC
  ·have hki : (k : Int) < (LC : Int) := by omega
   have hkc : k < cs.length := by rw [HLC.out]; exact hlt
   obtain ⟨gc, rfl, _, _⟩ := HA.out (by omega)
   have cx := ((show StrsFrom base w (.slice (some ⟨gc, 0, none⟩) cs.length c) cs from by rw [HLC.out]; exact HC.out).grown hg).at_ k hkc
   have hgd : cs.getD k default = cs[k] := by rw [List.getD_eq_getElem?_getD, List.getElem?_eq_getElem hkc]; rfl
   have hcl := HCL.out _ (List.getElem_mem hkc)
   have hsz := HSM.out.2 _ (List.getElem_mem hkc)
   have hK1 : allSome l p t cs (k + 1) = match fndS l p t cs[k] with | none => allSome l p t cs k | some f => allSome l p t cs k ++ [f.1.data.toList] := by
    show (match fndS l p t (cs.getD k default) with | none => _ | some f => _) = _
    rw [hgd]
   have hN1 : allNone l p t cs (k + 1) = match fndS l p t cs[k] with | none => (if Lib.containsS (allNone l p t cs k) cs[k] then allNone l p t cs k else allNone l p t cs k ++ [cs[k]]) | some f => allNone l p t cs k := by
    show (match fndS l p t (cs.getD k default) with | none => (if Lib.containsS _ (cs.getD k default) then _ else _ ++ [cs.getD k default]) | some f => _) = _
    rw [hgd]
   clear hgd
   generalize cs[k] = s at *
   obtain ⟨q, hq⟩ := Option.isSome_iff_exists.1 (show (partsOf s).isSome = true from hcl)
   have hfs : fndS l p t s = fndOf l p s t q := by unfold fndS; rw [hq]
   rw [hfs] at hK1 hN1
   have HFI := Lib.hid (HFO.out s q wr hg (by omega) hsz.2 hq)
   obtain ⟨O, hO⟩ : ∃ O, fndOf l p s t q = O := ⟨_, rfl⟩
   rw [hO] at HFI hK1 hN1
   have HK1 := Lib.hid hK1
   have HN1 := Lib.hid hN1
   clear hq hfs hO hK1 hN1 hcl hsz
   go_wp2_with fail
   refine HFI.out.mono ?_
   rintro _ w6 ⟨hfr, hg6⟩
   obtain rfl := hfr
   have hX := Blk.new w6 38 #[.string (O.getD fndZ0).1, .int .i64 (O.getD fndZ0).2.1, .int .i64 (O.getD fndZ0).2.2]
   have hgX := gr_alloc hg6 (.cells #[.string (O.getD fndZ0).1, .int .i64 (O.getD fndZ0).2.1, .int .i64 (O.getD fndZ0).2.2] 38)
   go_upto_region 6 with fail
   generalize w6.alloc (.cells #[.string (O.getD fndZ0).1, .int .i64 (O.getD fndZ0).2.1, .int .i64 (O.getD fndZ0).2.2] 38) = w7 at *
   generalize w6.heap.size = gX at *
   have x0 := hX.cell 0
   simp only [List.getElem?_toArray, List.getElem?_cons_zero, List.getElem?_cons_succ] at x0
   have hg7 := gr_trans hg hgX
   have HO17 := Lib.hid (HO1.out.grown hgX)
   have HO27 := Lib.hid (HO2.out.grown hgX)
   clear hX hg6 hg hgX HFI cx HO1 HO2
   rcases O with _ | F
   ·have HKE : Hid (allSome l p t cs (k + 1) = allSome l p t cs k) := HK1.out
    have HCN := Lib.hid (containsA_any B _ _ s w7 HO27.out)
    have hN2 := HN1.out
    clear x0 HK1 HN1
    obtain ⟨CB, hCB⟩ : ∃ CB, Lib.containsS (allNone l p t cs k) s = CB := ⟨_, rfl⟩
    rw [hCB] at HCN
    simp only [hCB] at hN2
    have HN2 := Lib.hid hN2
    clear hCB hN2
    go_wp2_with fail
    refine HCN.out.mono ?_
    rintro _ w8 ⟨rfl, hg8⟩
    have hg78 := gr_trans hg7 hg8
    have HO18 := Lib.hid (HO17.out.grown hg8)
    have HO28 := Lib.hid (HO27.out.grown hg8)
    have hs8 : B ≤ w8.heap.size := by have := hg78.size; have := HB.out; omega
    cases CB
    ·have HNE : Hid (allNone l p t cs (k + 1) = allNone l p t cs k ++ [s]) := HN2.out
     have hrow : w8.ownsRow B 9 1 (.slice A2 LN c2) LN ((allNone l p t cs k).map Value.string) := by
      have h := HO28.out
      unfold StrsFrom at h
      rw [HLN.out] at h
      exact h
     have HR8 := Lib.hid hrow
     clear hrow
     obtain ⟨H, hH⟩ : ∃ H, (w8.alloc (.cells #[.string s] 9)).heap.size = H := ⟨_, rfl⟩
     have HH := Lib.hid hH
     clear hH
     go_wp2_with (at_builtin; refine wpList_append_lies _ rfl _ _ 31 rfl B 9 i0 _ 1 16 Tryz.underlying31 hi0 hz0 hz1 hz2 rfl (by decide) _ LN _ rfl (World.ownsRow.alloc HR8.out _) ⟨_, 0, none⟩ 1 1 [.string s] rfl rfl (World.news_of_block (Blk.new _ _ _)) (str_onesA s) (by decide) (by unfold maxLen; omega) (by omega) (by simp; omega) H HH.out ?_; intro g9 cap w9 hownB hgrB hat hgl9)
     have hown9 : StrsFrom B w9 (.slice (some ⟨g9, 0, none⟩) (LN + 1) cap) (allNone l p t cs (k + 1)) := by rw [HNE.out]; exact strs_app s HLN.out.symm hownB
     have hlt9 := fun g e => (HR8.out.lt g e).1
     have hg9 : w.grownBy w9 none := gr_grown (gr_alloc hg78 _) hgrB (fun g e => .inr (by have := hlt9 g e; have := HB.out; omega))
     have hown1 : NamesFrom B w9 (.slice A1 LS c1) (allSome l p t cs (k + 1)) := by
      rw [HKE.out]
      exact own_apartB (World.ownsRow.alloc (show World.ownsRow _ _ _ _ _ _ _ from HO18.out) _) hgrB (fun g e => HAP.out g e)
     have HAP2 : Hid (∀ g, (Value.slice A1 LS c1).ownBlock = some g → (Value.slice (some ⟨g9, 0, none⟩) (LN + 1) cap).ownBlock ≠ some g) := fun g e e2 => by
      have e3 : g9 = g := by simpa [Value.ownBlock] using e2
      subst e3
      rcases hat with h | h
      ·exact HAP.out _ e h
      ·have h1 := ((show World.ownsRow _ _ _ _ _ _ _ from HO18.out).lt _ e).2
       have h2 := HH.out
       simp at h2
       omega
     go_wp2_with fail
     go_roundw
     case rel => exact ⟨k + 1, by omega, by go_num, hown1, hown9, HAP2, hg9⟩
     case measure => simp [intOf]; omega
    ·have HNE : Hid (allNone l p t cs (k + 1) = allNone l p t cs k) := HN2.out
     go_wp2_with fail
     go_roundw
     case rel => exact ⟨k + 1, by omega, by go_num, by rw [HKE.out]; exact HO18.out, by rw [HNE.out]; exact HO28.out, HAP, hg78⟩
     case measure => simp [intOf]; omega
   ·have HNE : Hid (allNone l p t cs (k + 1) = allNone l p t cs k) := HN1.out
    have HKE : Hid (allSome l p t cs (k + 1) = allSome l p t cs k ++ [F.1.data.toList]) := HK1.out
    have x0' : w7.cell? ⟨gX, 0, none⟩ = some (.string F.1) := x0
    generalize F.1 = F1 at *
    clear x0 HK1 HN1
    have hs7 : B ≤ w7.heap.size := by have := hg7.size; have := HB.out; omega
    have hrow : w7.ownsRow B 9 1 (.slice A1 LS c1) LS ((allSome l p t cs k).map encStr) := by
     have h := HO17.out
     unfold NamesFrom at h
     rw [HLS.out] at h
     exact h
    have HR7 := Lib.hid hrow
    clear hrow
    obtain ⟨H, hH⟩ : ∃ H, (w7.alloc (.cells #[.string F1] 9)).heap.size = H := ⟨_, rfl⟩
    have HH := Lib.hid hH
    clear hH
    go_wp2_with (at_builtin; refine wpList_append_lies _ rfl _ _ 31 rfl B 9 i0 _ 1 16 Tryz.underlying31 hi0 hz0 hz1 hz2 rfl (by decide) _ LS _ rfl (World.ownsRow.alloc HR7.out _) ⟨_, 0, none⟩ 1 1 [.string F1] rfl rfl (World.news_of_block (Blk.new _ _ _)) (str_onesA F1) (by decide) (by unfold maxLen; omega) (by omega) (by simp; omega) H HH.out ?_; intro g9 cap w9 hownB hgrB hat hgl9)
    have hown9 : NamesFrom B w9 (.slice (some ⟨g9, 0, none⟩) (LS + 1) cap) (allSome l p t cs (k + 1)) := by rw [HKE.out]; exact names_app F1 HLS.out.symm hownB
    have hlt9 := fun g e => (HR7.out.lt g e).1
    have hg9 : w.grownBy w9 none := gr_grown (gr_alloc hg7 _) hgrB (fun g e => .inr (by have := hlt9 g e; have := HB.out; omega))
    have hown2 : StrsFrom B w9 (.slice A2 LN c2) (allNone l p t cs (k + 1)) := by
     rw [HNE.out]
     exact own_apartB (World.ownsRow.alloc (show World.ownsRow _ _ _ _ _ _ _ from HO27.out) _) hgrB (fun g e e2 => HAP.out g e2 e)
    have HAP2 : Hid (∀ g, (Value.slice (some ⟨g9, 0, none⟩) (LS + 1) cap).ownBlock = some g → (Value.slice A2 LN c2).ownBlock ≠ some g) := fun g e2 e => by
     have e3 : g9 = g := by simpa [Value.ownBlock] using e2
     subst e3
     rcases hat with h | h
     ·exact HAP.out _ h e
     ·have h1 := ((show World.ownsRow _ _ _ _ _ _ _ from HO27.out).lt _ e).2
      have h2 := HH.out
      simp at h2
      omega
    go_wp2_with fail
    go_roundw
    case rel => exact ⟨k + 1, by omega, by go_num, hown9, hown2, HAP2, hg9⟩
    case measure => simp [intOf]; omega
  ·have hkl : ¬ (k : Int) < (LC : Int) := by omega
   have hkk : k = cs.length := by rw [HLC.out]; omega
   have HKK := Lib.hid hkk
   have HON := Lib.hid (once_any B _ _ wr HO1.out (by have := HLS.out; omega))
   clear hkk
   go_wp2_with fail
   refine HON.out.mono ?_
   rintro _ w8 ⟨uu, rfl, hN, hg8⟩
   have hNF : NamesFrom B w8 uu (allOnce l p t cs) := by
    unfold allOnce
    rw [← HKK.out]
    exact ownsRow_low hN (by have := hg.size; have := HB.out; omega)
   have hNO : StrsFrom B w8 (.slice A2 LN c2) (allNone l p t cs cs.length) := by rw [← HKK.out]; exact HO2.out.grown hg8
   have HNF := Lib.hid hNF
   have HNO := Lib.hid hNO
   clear hN hNF hNO
   go_wp2_with fail
   go_ret2
   exact ⟨_, _, rfl, HNF.out, by have h := HNO.out; rwa [HLC.out] at h, gr_trans hg hg8⟩
end Go.Proofs.YtbpkfkbbkgdlaaaGreatDoor

namespace Go.Proofs.YtbpkfkbbkgdlaaaGreatDoor
set_option linter.unusedVariables false

end Go.Proofs.YtbpkfkbbkgdlaaaGreatDoor

namespace Go.Proofs.YtbpkfkbbkgdlaaaGreatDoor
set_option linter.unusedVariables false
open Go.RowKit

end Go.Proofs.YtbpkfkbbkgdlaaaGreatDoor

namespace Go.Proofs.YtbpkfkbbkgdlaaaGreatDoor
set_option linter.unusedVariables false

end Go.Proofs.YtbpkfkbbkgdlaaaGreatDoor

namespace Go.Proofs.YtbpkfkbbkgdlaaaGreatDoor
open Go.RowKit
set_option linter.unusedVariables false

theorem i64_in (n : Int) (h : -9223372036854775808 ≤ n ∧ n ≤ 9223372036854775807) : IntKind.i64.wrap n = n := IntWalk.i64_in n h
end Go.Proofs.YtbpkfkbbkgdlaaaGreatDoor

namespace Go.Proofs.YtbpkfkbbkgdlaaaGreatDoor
open Go.RowKit
set_option linter.unusedVariables false

end Go.Proofs.YtbpkfkbbkgdlaaaGreatDoor

namespace Go.Proofs.YtbpkfkbbkgdlaaaGreatDoor
open Go.RowKit
set_option linter.unusedVariables false

end Go.Proofs.YtbpkfkbbkgdlaaaGreatDoor

namespace Go.Proofs.YtbpkfkbbkgdlaaaGreatDoor
open Go.RowKit
set_option linter.unusedVariables false

end Go.Proofs.YtbpkfkbbkgdlaaaGreatDoor

namespace Go.Proofs.YtbpkfkbbkgdlaaaGreatDoor
open Go.RowKit
set_option linter.unusedVariables false

/-- The powers of ten, as Itoa reads them. -/
structure P10 (b : Nat) (w : World) : Prop where
 tab : Lib.TabIs Tryz.prog w "internal/strconv.uint64pow10" .u64 Lib.pow10Tab
 lt : 3 < b
 lb : b ≤ w.heap.size
theorem P10.grown {b : Nat} {w w' : World} (h : P10 b w) (hg : w.grownBy w' none) : P10 b w' :=
 ⟨tab_grown (by kernel_rfl) h.tab hg (Nat.lt_of_lt_of_le h.lt h.lb) (by simp), h.lt, Nat.le_trans h.lb hg.size⟩
end Go.Proofs.YtbpkfkbbkgdlaaaGreatDoor

namespace Go.Proofs.YtbpkfkbbkgdlaaaGreatDoor
open Go.RowKit
set_option linter.unusedVariables false
set_option linter.unusedSimpArgs false

def itZ (t : Int) : ByteArray := ⟨(Lib.decDigits t.toNat).toArray⟩
theorem itoaZ_any (b : Nat) (t : Int) (w : World) (h0 : 0 ≤ t) (h1 : t ≤ 1000000000000) (hp : P10 b w) :
 Calls Tryz.prog 67 #[.int .i64 t] w fun e w' => e = .returned (.string (itZ t)) ∧ w.grownBy w' none := by
 obtain ⟨n, rfl⟩ := Int.eq_ofNat_of_zero_le h0
 refine (Tryz.strconv_Itoa (n : Int) (by omega) (by omega) w hp.tab).mono ?_
 rintro e w' ⟨rfl, k, os, rfl⟩
 refine ⟨by rw [Lib.itoa_nonneg]; rfl, ?_⟩
 exact gr_trans (gr_drewN (gr_refl _ _) k) ⟨rfl, rfl, rfl, by simp, fun i hi _ => Sort.heap_grow_old _ _ (by simpa using hi)⟩
def encQ (x : Int × ByteArray) : List Value := [.string (itZ x.1), .string x.2]
def PairsFrom (base : Nat) (w : World) (v : Value) (l : List (Int × ByteArray)) : Prop := w.ownsRow base 58 2 v l.length (l.flatMap encQ)
theorem PairsFrom.grown {base : Nat} {w w' : World} {v : Value} {l : List (Int × ByteArray)} (h : PairsFrom base w v l) (hg : w.grownBy w' none) : PairsFrom base w' v l := ownsRow_grown h hg
theorem PairsFrom.nil (base : Nat) (w : World) : PairsFrom base w (.slice none 0 0) [] := World.ownsRow_nil _ _ _ _
theorem PairsFrom.shape {base : Nat} {w : World} {v : Value} {l : List (Int × ByteArray)} (h : PairsFrom base w v l) :
 ∃ A c, v = .slice A l.length c ∧ l.length ≤ 9223372036854775807 ∧ (0 < l.length → ∃ g, A = some ⟨g, 0, none⟩ ∧ base ≤ g ∧ g < w.heap.size) := ownsRow_shape h
theorem PairsFrom.at_ {base : Nat} {w : World} {g c : Nat} {l : List (Int × ByteArray)} (h : PairsFrom base w (.slice (some ⟨g, 0, none⟩) l.length c) l) (k : Nat) (hk : k < l.length) :
 w.cell? ⟨g, k * 2, none⟩ = some (.string (itZ l[k].1)) ∧ w.cell? ⟨g, k * 2 + 1, none⟩ = some (.string l[k].2) := by
 have hf := flat_at encQ 2 (fun _ => rfl) l k
 have h0 := hf 0 hk (by decide)
 rw [Nat.add_zero] at h0
 refine ⟨?_, ?_⟩
 ·rw [World.ownsRow.cellAt h _ (by omega), h0]; rfl
 ·rw [World.ownsRow.cellAt h _ (by omega), hf 1 hk (by decide)]; rfl
theorem pairInfo : (Tryz.prog.info? 58).map (fun i => (i.zero, i.size, i.bytes)) = some (some (.agg #[.string ⟨#[]⟩, .string ⟨#[]⟩]), 2, 32) := by kernel_rfl
theorem pr_cells (w : World) (x y : ByteArray) (t : TypeId) : ∀ j u, ([Value.string x, .string y])[j]? = some u → (w.alloc (.cells #[.string x, .string y] t)).cell? ((⟨w.heap.size, 0, none⟩ : Addr).add j) = some u := by
 intro j u hu
 have hb := (Blk.new w t #[.string x, .string y]).cell j
 have hadd : (⟨w.heap.size, 0, none⟩ : Addr).add j = ⟨w.heap.size, j, none⟩ := by unfold Addr.add; split <;> simp_all
 rw [hadd, hb]
 simpa using hu
theorem pr_oneCell (x y : ByteArray) : ∀ u ∈ [Value.string x, .string y], u.oneCell' = true := by
 intro u hu
 simp at hu
 rcases hu with rfl | rfl <;> rfl
def lastV (o : List (Int × ByteArray)) : Option ByteArray := o.getLast?.map (·.2)
theorem chg_start (nm : Int → ByteArray) (l : List Int) : chgL nm none l = [] ++ chgL nm (lastV []) (l.drop 0) := rfl
theorem chg_end (nm : Int → ByteArray) (l : List Int) (o : List (Int × ByteArray)) : o ++ chgL nm (lastV o) (l.drop l.length) = o := by rw [List.drop_length]; simp [chgL]
theorem chg_same {nm : Int → ByteArray} {l : List Int} {o : List (Int × ByteArray)} {k : Nat} (h : k < l.length) (hl : lastV o = some (nm l[k])) : o ++ chgL nm (lastV o) (l.drop k) = o ++ chgL nm (lastV o) (l.drop (k + 1)) := by
 rw [List.drop_eq_getElem_cons h]
 show o ++ (if lastV o = some (nm l[k]) then _ else _) = _
 rw [if_pos hl]
theorem chg_new {nm : Int → ByteArray} {l : List Int} {o : List (Int × ByteArray)} {k : Nat} (h : k < l.length) (hl : lastV o ≠ some (nm l[k])) : o ++ chgL nm (lastV o) (l.drop k) = (o ++ [(l[k], nm l[k])]) ++ chgL nm (lastV (o ++ [(l[k], nm l[k])])) (l.drop (k + 1)) := by
 rw [List.drop_eq_getElem_cons h]
 show o ++ (if lastV o = some (nm l[k]) then _ else _) = _
 rw [if_neg hl]
 unfold lastV
 simp
theorem lastV_nil : lastV [] = none := rfl
theorem lastV_at (o : List (Int × ByteArray)) (k : Nat) (h : k < o.length) (hk : k + 1 = o.length) : lastV o = some o[k].2 := by
 unfold lastV
 rw [List.getLast?_eq_getElem?, List.getElem?_eq_getElem (by omega)]
 simp only [Option.map_some, Option.some.injEq]
 congr 2
 omega
end Go.Proofs.YtbpkfkbbkgdlaaaGreatDoor

namespace Go.Proofs.YtbpkfkbbkgdlaaaGreatDoor
open Go.RowKit
set_option linter.unusedVariables false
set_option linter.unusedSimpArgs false

def chgE (l : List Ent) (p : List Pfx) (s : ByteArray) : Int := if tabE l p ≠ 0 then tabE l p else if isCall s = false then 3 else 0
theorem IntsFrom.lowB {base base' : Nat} {w : World} {v : Value} {l : List Int} (h : IntsFrom base w v l) (hb : base' ≤ base) : IntsFrom base' w v l := ownsRow_low h hb
theorem edgL_bd (l : List Ent) (p : List Pfx) (js : List Nat) (a z : Int) (h : a < z) : ∀ x ∈ edgL l p js a z, a ≤ x ∧ x < z := fun x hx => by
 rcases (edgL_mem _ _ _ _ _ _).1 hx with rfl | ⟨_, _, _, h1, h2⟩
 ·omega
 ·omega
def ChangesPost (l : List Ent) (p : List Pfx) (s : ByteArray) (w : World) (r : Ending) (w' : World) : Prop :=
 ∃ (v : Value) (o : List (Int × ByteArray)), r = .returned (.tuple #[v, .int .i64 (chgE l p s)]) ∧ PairsFrom w.heap.size w' v o ∧ (chgE l p s ≠ 0 → o = []) ∧ (chgE l p s = 0 → tabE l p = 0 ∧ ∀ q, partsOf s = some q → o = chgL (nameAt l p s q) none (edgL l p (canL p s q) 0 345686400000)) ∧ w.grownBy w' none
set_option maxRecDepth 100000 in
set_option maxHeartbeats 16000000 in
theorem changes_any (base : Nat) (u v : Value) (l : List Ent) (p : List Pfx) (s : ByteArray) (w : World) (hu : EntsFrom base w u l) (hsl : ∀ e ∈ l, EntSm e) (hv : PfxsFrom base w v p) (hsm : ∀ x ∈ p, PfxSm x) (hs : s.size ≤ 1000) (ha : Ascii s) (bP : Nat) (hp10 : P10 bP w) :
 Calls Tryz.prog 17 #[u, v, .string s] w (ChangesPost l p s w) := by
 obtain ⟨i0, hi0, hz0, hz1, hz2⟩ := info_parts pairInfo
 have HU := Lib.hid hu
 have HV := Lib.hid hv
 have HP10 := Lib.hid hp10
 have HCT : Hid (∀ W, w.grownBy W none → Calls Tryz.prog 14 #[u, v] W fun r w' => r = .returned (.int .i64 (tabE l p)) ∧ W.grownBy w' none) := fun W hW => checkTable_any base u v l p W (hu.grown hW) hsl (hv.grown hW) hsm
 have HPT : Hid (∀ W, Calls Tryz.prog 62 #[.string s] W (PartsPost s W)) := fun W => parts_any s W (by omega) ha
 obtain ⟨E, hE⟩ : ∃ E, tabE l p = E := ⟨_, rfl⟩
 have HE := Lib.hid hE
 rw [hE] at HCT
 have HAS := Lib.hid ha
 clear hu hv hE ha hp10
 go_enter Tryz.func17, Tryz.ntmps17
 go_wp2_with fail
 refine (HCT.out _ (gr_refl _ _)).mono ?_
 rintro _ w2 ⟨rfl, hg2⟩
 by_cases hE0 : E = 0
 ·subst hE0
  go_wp2_with fail
  refine (HPT.out _).mono ?_
  rintro _ w3 ⟨hg3, ⟨hn, rfl⟩ | ⟨T0, kk, KD, AD, hq, rfl⟩⟩
  ·have HOE : Hid (chgE l p s = 3) := by show _ = _; unfold chgE isCall; rw [HE.out, hn]; simp
   have hgF := gr_alloc (gr_trans hg2 hg3) (.cells #[.string ⟨#[]⟩, .string ⟨#[]⟩, .string ⟨#[]⟩, .int .i64 0, .string ⟨#[]⟩] 105)
   clear hn
   go_wp2_with fail
   go_ret2
   exact ⟨_, [], by rw [HOE.out]; rfl, PairsFrom.nil _ _, fun _ => rfl, fun h => by rw [HOE.out] at h; simp at h, hgF⟩
  ·have hqs := parts_size hq
   have hic : isCall s = true := by unfold isCall; rw [hq]; rfl
   have HOE : Hid (chgE l p s = 0) := by show _ = _; unfold chgE; rw [HE.out, hic]; simp
   have hRt := tabE_ok HE.out
   obtain ⟨q, hqq⟩ : ∃ q, (T0, kk, KD, AD) = q := ⟨_, rfl⟩
   rw [hqq] at hq hqs
   have z1 : T0.size ≤ 100 ∧ AD.size ≤ 100 ∧ kk < T0.size := by subst hqq; exact hqs
   have y1 : (T0.extract 0 (kk + 1)).size ≤ 100 ∧ 1 ≤ (T0.extract 0 (kk + 1)).size := by rw [ByteArray.size_extract]; omega
   have y2 : (T0.extract (kk + 1) T0.size).size ≤ 100 := by rw [ByteArray.size_extract]; omega
   have hpq : plcOf T0 (T0.extract 0 (kk + 1)) (T0.extract (kk + 1) T0.size) AD KD = plcQ q := by subst hqq; rfl
   have hpl : (plcQ q).size ≤ 1000 := by
    rw [← hpq]
    unfold plcOf
    split
    ·omega
    ·split
     ·rw [ByteArray.size_append, ByteArray.size_append, ByteArray.size_extract]; omega
     ·omega
   have HPO : Hid (∀ W, Calls Tryz.prog 66 #[.agg #[.string T0, .string (T0.extract 0 (kk + 1)), .string (T0.extract (kk + 1) T0.size), .int .i64 KD, .string AD]] W fun r w' => r = .returned (.string (plcQ q)) ∧ W.grownBy w' none) := fun W => by rw [← hpq]; exact placeOf_any T0 _ _ AD KD W y1.1 y2 z1.2.1 y1.2
   generalize T0.extract 0 (kk + 1) = PRE at *
   generalize T0.extract (kk + 1) T0.size = SUF at *
   have HQ := Lib.hid hq
   have HQQ := Lib.hid hqq
   have HPL := Lib.hid hpl
   have HRT := Lib.hid hRt
   clear hq hqs hqq z1 y1 y2 hpq hpl hic hRt
   have hX := Blk.new w3 105 #[.string T0, .string PRE, .string SUF, .int .i64 KD, .string AD]
   have hgw4 := gr_alloc (gr_trans hg2 hg3) (.cells #[.string T0, .string PRE, .string SUF, .int .i64 KD, .string AD] 105)
   go_upto_region 5 with fail
   generalize w3.alloc (.cells #[.string T0, .string PRE, .string SUF, .int .i64 KD, .string AD] 105) = w4 at *
   generalize w3.heap.size = gX at *
   have HTO : Hid (Calls Tryz.prog 56 #[u, v] w4 (TabPost base u v l p w4)) := tableOf_right base u v l p w4 (HU.out.grown hgw4) (HV.out.grown hgw4) HRT.out
   go_wp2_with fail
   refine HTO.out.mono ?_
   rintro _ w5 ⟨base2, gT, bB, bW, rfl, hTF, _, hg5⟩
   have hgw5 := gr_trans hgw4 hg5
   have hX5 := Blk.grown hX hg5 (by simp)
   have cW := hTF.cW
   have x0 := Blk.cell hX5 0
   have x1 := Blk.cell hX5 1
   have x2 := Blk.cell hX5 2
   have x3 := Blk.cell hX5 3
   have x4 := Blk.cell hX5 4
   simp only [List.getElem?_toArray, List.getElem?_cons_zero, List.getElem?_cons_succ] at x0 x1 x2 x3 x4
   obtain ⟨nW, hmW⟩ := hTF.mW
   obtain ⟨uj, hju, hjn, hlk⟩ := hmW.look2 s (by omega)
   obtain ⟨Aj, cj, rfl, hjl, _⟩ := hju.shape
   have hjb := idxL_len p true s
   rw [natI_len] at hlk hjl
   have HLK := Lib.hid hlk
   have HJU : Hid (IntsFrom base2 w5 (.slice Aj (idxL p true s).length cj) (natI (idxL p true s))) := by
    rw [natI_len] at hju
    exact hju
   have HTF := Lib.hid hTF
   have hp2 := HRT.out.ok.len
   have HKX : Hid (∀ V, w5.grownBy V none → V.cell? ⟨gT, 3, none⟩ = some (.map (some bW)) ∧ V.cell? ⟨gX, 0, none⟩ = some (.string T0) ∧ V.cell? ⟨gX, 1, none⟩ = some (.string PRE) ∧ V.cell? ⟨gX, 2, none⟩ = some (.string SUF) ∧ V.cell? ⟨gX, 3, none⟩ = some (.int .i64 KD) ∧ V.cell? ⟨gX, 4, none⟩ = some (.string AD) ∧ w5.grownBy V none) := fun V hV =>
    ⟨hV.cell cW (by simp), hV.cell x0 (by simp), hV.cell x1 (by simp), hV.cell x2 (by simp), hV.cell x3 (by simp), hV.cell x4 (by simp), hV⟩
   clear hTF hmW hju hlk hjn hX5 hX
   generalize hJL : (idxL p true s).length = JL at *
   have HJL := Lib.hid hJL
   clear hJL
   go_upto_region 9 with fail
   refine wp_region_held_drew (S := fun V => V.cell? ⟨gT, 3, none⟩ = some (.map (some bW)) ∧ V.cell? ⟨gX, 0, none⟩ = some (.string T0) ∧ V.cell? ⟨gX, 1, none⟩ = some (.string PRE) ∧ V.cell? ⟨gX, 2, none⟩ = some (.string SUF) ∧ V.cell? ⟨gX, 3, none⟩ = some (.int .i64 KD) ∧ V.cell? ⟨gX, 4, none⟩ = some (.string AD) ∧ w5.grownBy V none) (by kernel_rfl) (HKX.out _ (gr_drew (gr_refl _ _))) (fun hHeld => ?_)
   refine wpAnyH_take (i := 0) (v := ?_) rfl (by kernel_rfl) (by kernel_rfl) (by kernel_rfl) (fun _ _ _ h => h) (Or.inl ⟨by kernel_rfl, ?_⟩) hHeld ?_
   rotate_left
   ·intro w hSw
    (try dsimp only at hSw)
    obtain ⟨hS0, hS1, hS2, hS3, hS4, hS5, hS6⟩ := hSw
    go_simp
    (try with_reducible rfl)
   change wpAnyH _ _ _ _ _ _ _ (Act.put _ (some 35) _) _
   simp only [Act.put, ssA, ssZ, ssS]
   refine wpAnyH_take (i := 1) (v := ?_) rfl (by kernel_rfl) (by kernel_rfl) (by kernel_rfl) (fun _ _ _ h => h) (Or.inl ⟨by kernel_rfl, ?_⟩) hHeld ?_
   rotate_left
   ·intro w hSw
    (try dsimp only at hSw)
    obtain ⟨hS0, hS1, hS2, hS3, hS4, hS5, hS6⟩ := hSw
    go_simp
    (try with_reducible rfl)
   change wpAnyH _ _ _ _ _ _ _ (Act.put _ (some 36) _) _
   simp only [Act.put, ssA, ssZ, ssS]
   refine wpAnyH_take (i := 2) (v := ?_) rfl (by kernel_rfl) (by kernel_rfl) (by kernel_rfl) (fun _ _ _ h => h) (Or.inl ⟨by kernel_rfl, ?_⟩) hHeld ?_
   rotate_left
   ·intro w hSw
    (try dsimp only at hSw)
    obtain ⟨hS0, hS1, hS2, hS3, hS4, hS5, hS6⟩ := hSw
    go_simp
    (try with_reducible rfl)
   change wpAnyH _ _ _ _ _ _ _ (Act.put _ (some 37) _) _
   simp only [Act.put, ssA, ssZ, ssS]
   refine wpAnyH_take (i := 3) (v := ?_) rfl (by kernel_rfl) (by kernel_rfl) (by kernel_rfl) (fun _ _ _ h => h) (Or.inl ⟨by kernel_rfl, ?_⟩) hHeld ?_
   rotate_left
   ·intro w hSw
    (try dsimp only at hSw)
    obtain ⟨hS0, hS1, hS2, hS3, hS4, hS5, hS6⟩ := hSw
    go_simp
    (try with_reducible rfl)
   change wpAnyH _ _ _ _ _ _ _ (Act.put _ (some 38) _) _
   simp only [Act.put, ssA, ssZ, ssS]
   refine wpAnyH_take (i := 4) (v := ?_) rfl (by kernel_rfl) (by kernel_rfl) (by kernel_rfl) (fun _ _ _ h => h) (Or.inl ⟨by kernel_rfl, ?_⟩) hHeld ?_
   rotate_left
   ·intro w hSw
    (try dsimp only at hSw)
    obtain ⟨hS0, hS1, hS2, hS3, hS4, hS5, hS6⟩ := hSw
    go_simp
    (try with_reducible rfl)
   change wpAnyH _ _ _ _ _ _ _ (Act.put _ (some 39) _) _
   simp only [Act.put, ssA, ssZ, ssS]
   refine wpAnyH_take (i := 5) (v := ?_) rfl (by kernel_rfl) (by kernel_rfl) (by kernel_rfl) (fun _ _ _ h => h) (Or.inl ⟨by kernel_rfl, ?_⟩) hHeld ?_
   rotate_left
   ·intro w hSw
    (try dsimp only at hSw)
    obtain ⟨hS0, hS1, hS2, hS3, hS4, hS5, hS6⟩ := hSw
    go_simp
    (try with_reducible rfl)
   change wpAnyH _ _ _ _ _ _ _ (Act.put _ (some 40) _) _
   simp only [Act.put, ssA, ssZ, ssS]
   refine wpAnyH_take (i := 6) (v := ?_) rfl (by kernel_rfl) (by kernel_rfl) (by kernel_rfl) (fun _ _ _ h => h) (Or.inl ⟨by kernel_rfl, ?_⟩) hHeld ?_
   rotate_left
   ·intro w hSw
    (try dsimp only at hSw)
    obtain ⟨hS0, hS1, hS2, hS3, hS4, hS5, hS6⟩ := hSw
    have hlk := HLK.out w none hS6 (by simp)
    go_simp
    (try with_reducible rfl)
   change wpAnyH _ _ _ _ _ _ _ (Act.put _ (some 41) _) _
   simp only [Act.put, ssA, ssZ, ssS]
   refine wpAnyH_take (i := 7) (v := ?_) rfl (by kernel_rfl) (by kernel_rfl) (by kernel_rfl) (fun _ _ _ h => h) (Or.inl ⟨by kernel_rfl, ?_⟩) hHeld ?_
   rotate_left
   ·intro w hSw
    (try dsimp only at hSw)
    obtain ⟨hS0, hS1, hS2, hS3, hS4, hS5, hS6⟩ := hSw
    go_simp
    (try with_reducible rfl)
   change wpAnyH _ _ _ _ _ _ _ (Act.put _ (some 42) _) _
   simp only [Act.put, ssA, ssZ, ssS]
   refine wpAnyH_take (i := 8) (v := ?_) rfl (by kernel_rfl) (by kernel_rfl) (by kernel_rfl) (fun _ _ _ h => h) (Or.inl ⟨by kernel_rfl, ?_⟩) hHeld ?_
   rotate_left
   ·intro w hSw
    (try dsimp only at hSw)
    obtain ⟨hS0, hS1, hS2, hS3, hS4, hS5, hS6⟩ := hSw
    go_simp
    (try with_reducible rfl)
   change wpAnyH _ _ _ _ _ _ _ (Act.put _ (some 43) _) _
   simp only [Act.put, ssA, ssZ, ssS]
   refine wpAnyH_take (i := 15) (v := ?_) rfl (by kernel_rfl) (by kernel_rfl) (by kernel_rfl) (fun _ _ _ h => h) (Or.inl ⟨by kernel_rfl, ?_⟩) hHeld ?_
   rotate_left
   ·intro w hSw
    (try dsimp only at hSw)
    obtain ⟨hS0, hS1, hS2, hS3, hS4, hS5, hS6⟩ := hSw
    go_simp
    (try with_reducible rfl)
   change wpAnyH _ _ _ _ _ _ _ (Act.put _ (some 50) _) _
   simp only [Act.put, ssA, ssZ, ssS]
   refine wpAnyH_ready (rs := [9]) (by kernel_rfl) (by simp) ?_
   refine AllReadyH.cons (o := _) rfl (fun K hK => ?_) AllReadyH.nil
   go_simp
   (go_at_call 66; refine (HPO.out _).mono ?_; rintro _ wa ⟨rfl, hga⟩)
   have hG1 : w5.grownBy wa none := gr_trans (gr_drew (gr_refl _ _)) hga
   refine hK.out _ _ (HKX.out _ hG1) (fun hH9 => ?_)
   clear hK K
   (try simp only [Act.put, ssA, ssZ, ssS])
   refine wpAnyH_ready (rs := [10]) (by kernel_rfl) (by simp) ?_
   refine AllReadyH.cons (o := _) rfl (fun K hK => ?_) AllReadyH.nil
   go_simp
   (go_at_call 65; refine (tnear_ok base base2 gT bB bW u v l p (plcQ q) _ (HTF.out.grown hG1) hp2 HPL.out).mono ?_; rintro _ wb ⟨z, rfl, hz, hgb⟩)
   have hG2 := gr_trans hG1 hgb
   obtain ⟨Az, cz, rfl, hzl, _⟩ := hz.shape
   have hzb := nearL_len p (plcQ q) (min 4 (plcQ q).size)
   have hzb2 : (nearL p (plcQ q) (min 4 (plcQ q).size)).length ≤ 8000 := Nat.le_trans hzb (Nat.mul_le_mul (Nat.min_le_left 4 _) hp2)
   obtain ⟨ZL, hZL⟩ : ∃ ZL, (natI (nearL p (plcQ q) (min 4 (plcQ q).size))).length = ZL := ⟨_, rfl⟩
   rw [hZL] at hz
   (try rw [hZL])
   have HZ := Lib.hid hz
   have HZL := Lib.hid hZL
   clear hz hzl hZL hzb
   refine hK.out _ _ (HKX.out _ hG2) (fun hH10 => ?_)
   clear hK K
   (try simp only [Act.put, ssA, ssZ, ssS])
   refine wpAnyH_ready (rs := [11]) (by kernel_rfl) (by simp) ?_
   refine AllReadyH.cons (o := _) rfl (fun K hK => ?_) AllReadyH.nil
   go_simp
   have hBC := Blk.new wb 22 #[.slice Aj JL cj, .slice Az ZL cz]
   have hG3 := gr_alloc hG2 (.cells #[.slice Aj JL cj, .slice Az ZL cz] 22)
   have HJC := Lib.hid ((HJU.out.grown hG2).grown (World.grownBy_alloc wb (.cells #[.slice Aj JL cj, .slice Az ZL cz] 22) none))
   have HZC := Lib.hid (HZ.out.grown (World.grownBy_alloc wb (.cells #[.slice Aj JL cj, .slice Az ZL cz] 22) none))
   refine hK.out _ _ (HKX.out _ hG3) (fun hH11 => ?_)
   clear hK K
   (try simp only [Act.put, ssA, ssZ, ssS])
   refine wpAnyH_ready (rs := [12]) (by kernel_rfl) (by simp) ?_
   refine AllReadyH.cons (o := _) rfl (fun K hK => ?_) AllReadyH.nil
   go_simp
   (go_at_call 64; refine (concat_any 0 _ _ _ _ _ _ _ (HJC.out.lowB (Nat.zero_le _)) (HZC.out.lowB (Nat.zero_le _)) hBC (by rw [natI_len, HJL.out]; omega) (by rw [natI_len]; omega)).mono ?_; rintro _ wc ⟨y, rfl, hy, hgc, _⟩)
   have hG4 := gr_trans hG3 hgc
   refine hK.out _ _ (HKX.out _ hG4) (fun hH12 => ?_)
   clear hK K
   (try simp only [Act.put, ssA, ssZ, ssS])
   refine wpAnyH_ready (rs := [13]) (by kernel_rfl) (by simp) ?_
   refine AllReadyH.cons (o := _) rfl (fun K hK => ?_) AllReadyH.nil
   go_simp
   (go_at_call 63; refine (edges_ok base _ gT u v y l p (canL p s q) 0 345686400000 _ (HTF.out.at_.grown hG4) HRT.out.ok (by unfold canL; rw [natI_cat]; exact hy) canL_lt (by unfold canL; rw [List.length_append, HJL.out]; omega)).mono ?_; rintro _ w0 ⟨ev, rfl, hed, hgd⟩)
   have hG5 := gr_trans hG4 hgd
   obtain ⟨Ae, ce, rfl, hel, hEA⟩ := hed.shape
   refine hK.out _ _ (HKX.out _ hG5) (fun hH13 => ?_)
   clear hK K
   (try simp only [Act.put, ssA, ssZ, ssS])
   refine wpAnyH_take (i := 14) (v := ?_) rfl (by kernel_rfl) (by kernel_rfl) (by kernel_rfl) (fun _ _ _ h => h) (Or.inl ⟨by kernel_rfl, ?_⟩) hH13 ?_
   rotate_left
   ·intro w hSw
    (try dsimp only at hSw)
    obtain ⟨hS0, hS1, hS2, hS3, hS4, hS5, hS6⟩ := hSw
    go_simp
    (try with_reducible rfl)
   change wpAnyH _ _ _ _ _ _ _ (Act.put _ (some 49) _) _
   simp only [Act.put, ssA, ssZ, ssS]
   refine wpAnyH_done (by kernel_rfl) ?_ _
   have hgE := gr_trans hgw5 hG5
   have hebd := edgL_bd l p (canL p s q) 0 345686400000 (by decide)
   have helen : (edgL l p (canL p s q) 0 345686400000).length ≤ 1000000 := by
    have h1 := Lib.compact_length_le (sortI (0 :: edgI l p (canL p s q) 0 345686400000))
    rw [sortI_len, List.length_cons] at h1
    have h2 := edgI_len l p 0 345686400000 (canL p s q)
    have h3 : (canL p s q).length ≤ 20000 := by unfold canL; rw [List.length_append, HJL.out]; omega
    have h4 : (edgL l p (canL p s q) 0 345686400000).length ≤ (edgI l p (canL p s q) 0 345686400000).length + 1 := h1
    omega
   obtain ⟨ed, hedd⟩ : ∃ ed, edgL l p (canL p s q) 0 345686400000 = ed := ⟨_, rfl⟩
   obtain ⟨nm, hnm⟩ : ∃ nm, nameAt l p s q = nm := ⟨_, rfl⟩
   have HPOST : Hid (∀ w', w.grownBy w' none → ∀ V o, PairsFrom w.heap.size w' V o → chgL nm none ed = o → ChangesPost l p s w (.returned (.tuple #[V, .int .i64 0])) w') := fun w' hg V o hV ho => ⟨V, o, by rw [HOE.out], hV, fun h => absurd HOE.out h, fun _ => ⟨HE.out, fun q' hq' => by rw [HQ.out] at hq'; injection hq' with hq'; rw [← hq', hnm, hedd]; exact ho.symm⟩, hg⟩
   have HFD : Hid (∀ t W, w.grownBy W none → w0.grownBy W none → Calls Tryz.prog 57 #[.pointer (some ⟨gT, 0, none⟩), .string s, .int .i64 t] W fun r w' => FndRet (fndOf l p s t q) r ∧ W.grownBy w' none) := fun t W _ hW => find_ok base base2 gT bB bW u v l p s t q W (HTF.out.grown (gr_trans hG5 hW)) HRT.out hs HAS.out HQ.out
   have HNA : Hid (∀ t, nm t = match fndOf l p s t q with | none => ⟨#[45]⟩ | some f => f.1) := fun t => by rw [← hnm]; rfl
   rw [hedd] at hed hel hEA hebd helen
   obtain ⟨b3, hb3⟩ : ∃ b3, w0.heap.size = b3 := ⟨_, rfl⟩
   have HB3 : Hid (b3 = w0.heap.size) := hb3.symm
   have HEO := Lib.hid hed
   have HEA := Lib.hid hEA
   have HEB := Lib.hid hebd
   have HW0 := Lib.hid hgE.size
   clear hed hEA hebd hnm hb3 cW x0 x1 x2 x3 x4
   rw [hedd]
   clear hedd
   go_wp2_with fail
   go_loopw [12, 50] (fun ov kv wr => ∃ (k : Nat) (o : List (Int × ByteArray)), k ≤ ed.length ∧ kv = .int .i64 k ∧ Hid (chgL nm none ed = o ++ chgL nm (lastV o) (ed.drop k)) ∧ o.length ≤ k ∧ PairsFrom b3 wr ov o ∧ w.grownBy wr none ∧ w0.grownBy wr none) (fun _ kv _ => ed.length - (intOf kv).toNat)
   case atStart => exact ⟨0, [], by omega, rfl, chg_start nm ed, by simp, PairsFrom.nil _ _, hgE, gr_refl _ _⟩
   case round =>
    obtain ⟨k, o, hk, rfl, HN, hok, hown, hg, hg0⟩ := hrel
    obtain ⟨A2, c2, rfl, _, hA2⟩ := hown.shape
    obtain ⟨LO, hLO⟩ : ∃ LO, o.length = LO := ⟨_, rfl⟩
    rw [hLO] at hown hA2 ⊢
    by_cases hlt : k < ed.length
    ·have hki : (k : Int) < (ed.length : Int) := by omega
     obtain ⟨ge, rfl, _, hgel⟩ := HEA.out (by omega)
     have hat := IntsFrom.at_ (HEO.out.grown hg0) k hlt
     have htb := HEB.out _ (List.getElem_mem hlt)
     have hsame : lastV o = some (nm ed[k]) → chgL nm none ed = o ++ chgL nm (lastV o) (ed.drop (k + 1)) := fun h => by rw [HN.out]; exact chg_same hlt h
     have hnew : lastV o ≠ some (nm ed[k]) → chgL nm none ed = (o ++ [(ed[k], nm ed[k])]) ++ chgL nm (lastV (o ++ [(ed[k], nm ed[k])])) (ed.drop (k + 1)) := fun h => by rw [HN.out]; exact chg_new hlt h
     have HFI := Lib.hid (HFD.out ed[k] wr hg hg0)
     have HNM := HNA.out ed[k]
     generalize ed[k] = T at *
     obtain ⟨NM, hNM⟩ : ∃ NM, nm T = NM := ⟨_, rfl⟩
     rw [hNM] at hsame hnew HNM
     have HSAME := Lib.hid hsame
     have HNEW := Lib.hid hnew
     have HIT : Hid (∀ W, w.grownBy W none → Calls Tryz.prog 67 #[.int .i64 T] W fun e w' => e = .returned (.string (itZ T)) ∧ W.grownBy w' none) := fun W hW => itoaZ_any _ T W htb.1 (by have := htb.2; omega) (HP10.out.grown hW)
     have HOWN := Lib.hid hown
     have HA2 := Lib.hid hA2
     have HLO := Lib.hid hLO
     rw [hLO] at hok
     have hkb : k ≤ 1000000 := by omega
     clear hsame hnew hNM hown hA2 hLO htb
     go_wp2_with fail
     refine HFI.out.mono ?_
     rintro _ w2 ⟨hfr, hg2⟩
     obtain ⟨O, hO⟩ : ∃ O, fndOf l p s T q = O := ⟨_, rfl⟩
     rw [hO] at hfr HNM
     obtain rfl := hfr
     have HNMO := Lib.hid HNM
     clear hO HNM hat
     have hX := Blk.new w2 38 #[.string (O.getD fndZ0).1, .int .i64 (O.getD fndZ0).2.1, .int .i64 (O.getD fndZ0).2.2]
     have hgX := World.grownBy_alloc w2 (.cells #[.string (O.getD fndZ0).1, .int .i64 (O.getD fndZ0).2.1, .int .i64 (O.getD fndZ0).2.2] 38) none
     have hgY := gr_trans hg2 hgX
     go_upto_region 14 with fail
     generalize w2.alloc (.cells #[.string (O.getD fndZ0).1, .int .i64 (O.getD fndZ0).2.1, .int .i64 (O.getD fndZ0).2.2] 38) = w3 at *
     generalize w2.heap.size = gX at *
     have x0 := hX.cell 0
     simp only [List.getElem?_toArray, List.getElem?_cons_zero, List.getElem?_cons_succ] at x0
     have hgw3 := gr_trans hg hgY
     have hg03 := gr_trans hg0 hgY
     have HOW3 := Lib.hid (PairsFrom.grown HOWN.out hgY)
     go_upto_if 61 with fail
     go_cut [15] (fun s wq => s = .string NM ∧ wq = w3)
     case first =>
      rcases O with _ | F
      ·have hn : NM = ⟨#[45]⟩ := HNMO.out
       subst hn
       go_wp2_with fail
       go_meet
       exact ⟨rfl, rfl⟩
      ·have hn : F.1 = NM := HNMO.out.symm
       have x0' : w3.cell? ⟨gX, 0, none⟩ = some (.string F.1) := x0
       clear x0
       rw [hn] at x0'
       subst hn
       go_wp2_with fail
       go_meet
       exact ⟨rfl, rfl⟩
     case rest =>
      obtain ⟨rfl, rfl⟩ := hcut
      rename World => w3
      clear x0
      go_upto_region 17 with fail
      go_cut [77] (fun s wq => ∃ c : Bool, s = .bool c ∧ Hid (c = false → lastV o = some NM) ∧ Hid (c = true → lastV o ≠ some NM) ∧ wq = w3)
      case first =>
       rcases Nat.eq_zero_or_pos LO with h0 | h0
       ·have ho : o = [] := List.eq_nil_of_length_eq_zero (by rw [HLO.out]; exact h0)
        subst h0
        go_wp2_with fail
        go_meet
        exact ⟨true, rfl, (fun h => by cases h), (fun _ => by rw [ho]; simp [lastV_nil]), rfl⟩
       ·obtain ⟨LP, hLP⟩ : ∃ LP, LP + 1 = LO := ⟨LO - 1, by omega⟩
        obtain ⟨go, rfl, _, hgol⟩ := HA2.out h0
        have hLPl : LP < o.length := by rw [HLO.out]; omega
        have hrow : PairsFrom b3 w3 (.slice (some ⟨go, 0, none⟩) o.length c2) o := by rw [HLO.out]; exact HOW3.out
        obtain ⟨y0, y1⟩ := hrow.at_ LP hLPl
        clear y0
        have hlv := lastV_at o LP hLPl (by rw [HLO.out]; exact hLP)
        generalize o[LP].2 = LV at *
        have hz : ((LO : Int) == 0) = false := by rw [beq_eq_false_iff_ne]; omega
        have hw1 : IntKind.i64.wrap ((LO : Int) - 1) = (LP : Int) := by rw [IntKind.wrap_i64]; omega
        have hLi : (LP : Int) < (LO : Int) := by omega
        have hL0 : (0 : Int) ≤ (LP : Int) := by omega
        have HLV := Lib.hid hlv
        have HLPP := Lib.hid hLP
        clear hLP hLPl hlv hrow h0
        by_cases he : LV = NM
        ·have hb := str_yes he
         have HE := Lib.hid he
         clear he
         go_wp2_with fail
         go_meet
         exact ⟨false, rfl, (fun _ => by rw [HLV.out, HE.out]), (fun h => by cases h), rfl⟩
        ·have hb := str_no he
         have HE := Lib.hid he
         clear he
         go_wp2_with fail
         go_meet
         exact ⟨true, rfl, (fun h => by cases h), (fun _ h => HE.out (by rw [HLV.out] at h; exact Option.some.inj h)), rfl⟩
      case rest =>
       obtain ⟨C, rfl, HC0, HC1, rfl⟩ := hcut
       rename World => w3
       rcases C with _ | _
       ·have HN2 : Hid (chgL nm none ed = o ++ chgL nm (lastV o) (ed.drop (k + 1))) := HSAME.out (HC0.out rfl)
        go_wp2_with fail
        go_roundw
        case rel => exact ⟨k + 1, o, by omega, by go_num, HN2, by rw [HLO.out]; omega, HOW3.out, hgw3, hg03⟩
        case measure => simp [intOf]; omega
       ·have HN2 : Hid (chgL nm none ed = (o ++ [(T, NM)]) ++ chgL nm (lastV (o ++ [(T, NM)])) (ed.drop (k + 1))) := HNEW.out (HC1.out rfl)
        go_wp2_with fail
        refine (HIT.out _ hgw3).mono ?_
        rintro _ w4 ⟨rfl, hg4⟩
        have hg34 := gr_trans hgw3 hg4
        have hg04 := gr_trans hg03 hg4
        have HOW4 := Lib.hid (PairsFrom.grown HOW3.out hg4)
        have hOWX : Hid (World.ownsRow w4 b3 58 2 (.slice A2 LO c2) LO (o.flatMap encQ)) := by
         show World.ownsRow _ _ _ _ _ _ _
         have h := HOW4.out
         unfold PairsFrom at h
         rw [HLO.out] at h
         exact h
        have hb3 : b3 ≤ w4.heap.size := by have := HB3.out; have := hg04.size; omega
        generalize hIT : itZ T = IT at *
        have HITT := Lib.hid hIT
        clear hIT
        go_wp2_with (at_builtin; refine wpList_append_own _ rfl _ _ 43 rfl b3 58 i0 _ 2 32 Tryz.underlying43 hi0 hz0 hz1 hz2 rfl (by decide) _ LO _ rfl (World.ownsRow.alloc hOWX.out _) ⟨_, 0, none⟩ 1 1 [.string IT, .string NM] rfl rfl (pr_cells _ IT NM _) (pr_oneCell IT NM) (by unfold maxLen; omega) (by omega) (by simp; omega) ?_; intro v' w5 hown5 hgr5 _)
        have hrow5 : PairsFrom b3 w5 v' (o ++ [(T, NM)]) := by
         unfold PairsFrom
         rw [List.length_append, HLO.out, List.flatMap_append]
         have : ([(T, NM)] : List (Int × ByteArray)).flatMap encQ = [.string IT, .string NM] := by simp [encQ, HITT.out]
         rw [this]
         exact hown5
        have hG5 : w.grownBy w5 none := gr_grown (gr_alloc hg34 _) hgr5 (fun g e => .inr (by have h1 := (hOWX.out.lt g e).1; have := HB3.out; have := HW0.out; omega))
        have hG05 : w0.grownBy w5 none := gr_grown (gr_alloc hg04 _) hgr5 (fun g e => .inr (by have h1 := (hOWX.out.lt g e).1; have := HB3.out; omega))
        go_wp2_with fail
        go_roundw
        case rel => exact ⟨k + 1, o ++ [(T, NM)], by omega, by go_num, HN2, by rw [List.length_append, HLO.out]; simp; omega, hrow5, hG5, hG05⟩
        case measure => simp [intOf]; omega
    ·obtain rfl : k = ed.length := by omega
     have hkl : ¬ (ed.length : Int) < (ed.length : Int) := by omega
     have HRE : Hid (chgL nm none ed = o) := by show _ = _; rw [HN.out, chg_end]
     have HOWN := Lib.hid hown
     clear hown hA2
     go_wp2_with fail
     go_ret2
     exact HPOST.out _ hg _ o (ownsRow_low HOWN.out (by have := HB3.out; have := HW0.out; omega)) HRE.out
 ·have hE1 : (E != 0) = true := by simpa using hE0
  have HOE : Hid (chgE l p s = E) := by show _ = _; unfold chgE; rw [HE.out, if_pos hE0]
  have HE0 := Lib.hid hE0
  clear hE0
  go_wp2_with fail
  go_ret2
  exact ⟨_, [], by rw [HOE.out]; rfl, PairsFrom.nil _ _, fun _ => rfl, fun h => absurd (HOE.out.symm.trans h) HE0.out, hg2⟩
end Go.Proofs.YtbpkfkbbkgdlaaaGreatDoor

namespace Go.Proofs.YtbpkfkbbkgdlaaaGreatDoor
open Go.RowKit
set_option linter.unusedVariables false
set_option linter.unusedSimpArgs false

def endP (x : Int) : Bool := decide (345686400000 ≤ x)
set_option maxHeartbeats 400000 in
theorem endP_any (x : Int) (w : World) : Calls Tryz.prog 127 #[.int .i64 x] w fun r w' => r = .returned (.bool (endP x)) ∧ w = w' := by
 by_cases h : 345686400000 ≤ x
 ·have HE : Hid (endP x = true) := by show _ = _; unfold endP; simp [h]
  go_enter Tryz.func127, Tryz.ntmps127
  go_wp2_with fail
  go_ret
  exact ⟨ret_b HE.out.symm, rfl⟩
 ·have HE : Hid (endP x = false) := by show _ = _; unfold endP; simp [h]
  go_enter Tryz.func127, Tryz.ntmps127
  go_wp2_with fail
  go_ret
  exact ⟨ret_b HE.out.symm, rfl⟩
def FirstE (l : List Int) (i : Int) : Prop := (i = -1 ∧ ∀ x ∈ l, endP x = false) ∨ ∃ j : Nat, i = j ∧ ∃ h : j < l.length, endP l[j] = true ∧ ∀ x ∈ l.take j, endP x = false
set_option maxHeartbeats 1000000 in
theorem indexE_any (base : Nat) (u : Value) (l : List Int) (w : World) (hu : IntsFrom base w u l) :
 Calls Tryz.prog 169 #[u, .func (.func 127) #[] #[]] w fun r w' => ∃ i, r = .returned (.int .i64 i) ∧ FirstE l i ∧ w = w' := by
 obtain ⟨A, ca, rfl, hla, hA⟩ := hu.shape
 have HU := Lib.hid hu
 clear hu
 go_enter Tryz.func169, Tryz.ntmps169
 go_wp2_with fail
 go_loop [8] (fun i => ∃ k : Nat, k ≤ l.length ∧ i = .int .i64 k ∧ Hid (∀ x ∈ l.take k, endP x = false)) (fun i => l.length - (intOf i).toNat)
 case atStart => exact ⟨0, by omega, rfl, fun x hx => by simp at hx⟩
 case round =>
  obtain ⟨k, hk, rfl, HB⟩ := hrel
  by_cases hlt : k < l.length
  ·obtain ⟨g, rfl, _, _⟩ := hA (by omega)
   have cx := HU.out.at_ k hlt
   have hkl : (k : Int) < (l.length : Int) := by omega
   have HYES : Hid (endP l[k] = true → FirstE l k) := fun h => .inr ⟨k, rfl, hlt, h, HB.out⟩
   have HNO : Hid (endP l[k] = false → ∀ x ∈ l.take (k + 1), endP x = false) := fun h x hx => by
    rw [List.take_succ_eq_append_getElem hlt] at hx
    rcases List.mem_append.1 hx with hx | hx
    ·exact HB.out x hx
    ·rw [List.mem_singleton.1 hx]; exact h
   generalize l[k] = x at *
   rcases hd : endP x
   ·have HN := Lib.hid (HNO.out hd)
    go_wp2_with fail
    refine (endP_any x w).mono ?_
    rintro _ w1 ⟨rfl, rfl⟩
    go_wp2_with fail
    go_round
    case rel => exact ⟨k + 1, by omega, by go_num, HN⟩
    case measure => simp [intOf]; omega
   ·have HY := Lib.hid (HYES.out hd)
    go_wp2_with fail
    refine (endP_any x w).mono ?_
    rintro _ w1 ⟨rfl, rfl⟩
    go_wp2_with fail
    go_ret
    exact ⟨k, rfl, HY.out, rfl⟩
  ·have hkl : ¬ (k : Int) < (l.length : Int) := by omega
   have HF : Hid (FirstE l (-1)) := .inl ⟨rfl, fun x hx => HB.out x (by rw [List.take_of_length_le (by omega)]; exact hx)⟩
   go_wp2_with fail
   go_ret
   exact ⟨-1, rfl, HF.out, rfl⟩
theorem zeroIntE (w : World) : (zeroValue 3).run Tryz.prog w = .ok (.int .i64 0) w := by kernel_rfl
theorem ints_zerosE (base g n c : Nat) : ∀ (m o : Nat) (w : World) (l : List Int), w.ownsRow base 3 1 (.slice (some ⟨g, 0, none⟩) n c) n (l.map (Value.int .i64)) →
 ∃ l' : List Int, l'.length = l.length ∧ l'.take o = l.take o ∧ (w.setCells g o (List.replicate m (.int .i64 0))).ownsRow base 3 1 (.slice (some ⟨g, 0, none⟩) n c) n (l'.map (Value.int .i64)) ∧ w.grownBy (w.setCells g o (List.replicate m (.int .i64 0))) (some g)
 | 0, o, w, l, h => ⟨l, rfl, rfl, h, gr_refl _ _⟩
 | m + 1, o, w, l, h => by
   have hst := h.stored o (.int .i64 0)
   have e : (l.map (Value.int .i64)).set o (.int .i64 0) = (l.set o 0).map (Value.int .i64) := by rw [List.map_set]
   rw [e] at hst
   obtain ⟨l', h1, h2, h3, h4⟩ := ints_zerosE base g n c m (o + 1) _ (l.set o 0) hst.1
   refine ⟨l', by rw [h1, List.length_set], ?_, h3, gr_trans hst.2 h4⟩
   have h5 := congrArg (List.take o) h2
   rw [List.take_take, List.take_take, Nat.min_eq_left (Nat.le_succ o)] at h5
   rw [h5, List.take_set_of_le (Nat.le_refl o)]
def DelE (base : Nat) (u : Value) (l : List Int) (w : World) (e : Ending) (w' : World) : Prop := ∃ v, e = .returned v ∧ IntsFrom base w' v (l.filter fun x => !endP x) ∧ w.grownBy w' u.ownBlock
theorem filter_all {α : Type} (f : α → Bool) (l : List α) (h : ∀ x ∈ l, f x = false) : l.filter (fun x => !f x) = l := by
 rw [List.filter_eq_self]
 intro x hx
 rw [h x hx]
 rfl
set_option maxRecDepth 100000 in
set_option maxHeartbeats 4000000 in
theorem deleteE_any (base : Nat) (u : Value) (l : List Int) (w : World) (hu : IntsFrom base w u l) (hn : l.length ≤ 1000000) :
 Calls Tryz.prog 126 #[u, .func (.func 127) #[] #[]] w (DelE base u l w) := by
 obtain ⟨A, ca, rfl, hla, hA⟩ := hu.shape
 have hcap := hu.cap
 have HU := Lib.hid hu
 clear hu
 go_enter Tryz.func126, Tryz.ntmps126
 go_wp2_with fail
 refine (indexE_any base _ l w HU.out).mono ?_
 rintro _ w1 ⟨i, rfl, hi, rfl⟩
 rcases hi with ⟨rfl, hi⟩ | ⟨j, rfl, hj1, hjy, hjn⟩
 ·have HF : Hid (l.filter (fun x => !endP x) = l) := filter_all endP l hi
  clear hi
  go_wp2_with fail
  go_ret
  exact ⟨_, rfl, by rw [HF.out]; exact HU.out, gr_refl _ _⟩
 ·have hne : ((j : Int) == -1) = false := by rw [beq_eq_false_iff_ne]; omega
  obtain ⟨g, rfl, hg0, hg1⟩ := hA (by omega)
  have HU0 := Lib.hid HU.out
  have HST : Hid (l.take j = (l.take (j + 1)).filter fun x => !endP x) := by
   show _ = _
   rw [List.take_succ_eq_append_getElem hj1, List.filter_append, filter_all endP _ hjn, List.filter_cons, hjy]
   simp
  clear hA hjy hjn
  go_wp2_with fail
  go_loopw [5, 6] (fun a b wr => ∃ (p q : Nat) (z : List Int), a = .int .i64 p ∧ b = .int .i64 q ∧ p < q ∧ q ≤ l.length ∧ Hid (z.take p = (l.take q).filter fun x => !endP x) ∧ Hid (z.drop q = l.drop q) ∧ z.length = l.length ∧ wr.ownsRow base 3 1 (.slice (some ⟨g, 0, none⟩) l.length ca) l.length (z.map (Value.int .i64)) ∧ w.grownBy wr (some g)) (fun _ b _ => l.length - (intOf b).toNat)
  case atStart => exact ⟨j, j + 1, l, rfl, by go_num, by omega, by omega, HST, rfl, rfl, HU0.out, gr_refl _ _⟩
  case round =>
   obtain ⟨p, q, z, rfl, rfl, hpq, hq, HZP, HZQ, hz, hown, hgr⟩ := hrel
   by_cases hlt2 : q < l.length
   ·have hqz : q < z.length := by omega
    have cx : wr.cell? ⟨g, q, none⟩ = some (.int .i64 z[q]) := by
     rw [hown.cellAt q (by omega)]; simp [hqz]
    have cp : wr.cell? ⟨g, p, none⟩ = some (.int .i64 (z[p]'(by omega))) := by
     rw [hown.cellAt p (by omega)]; simp [show p < z.length by omega]
    have fp := hown.frozenAt p
    have hql : (q : Int) < (l.length : Int) := by omega
    have hst : ∀ x, _ := fun x => hown.stored p (.int .i64 x)
    have hzl : z[q] = l[q] := by
     have h := HZQ.out
     rw [List.drop_eq_getElem_cons hqz, List.drop_eq_getElem_cons hlt2] at h
     injection h
    have HDR : Hid (z.drop (q + 1) = l.drop (q + 1)) := by
     show _ = _
     have h := HZQ.out
     rw [List.drop_eq_getElem_cons hqz, List.drop_eq_getElem_cons hlt2] at h
     injection h
    have HTK : Hid ((l.take (q + 1)).filter (fun x => !endP x) = z.take p ++ if endP z[q] then [] else [z[q]]) := by
     show _ = _
     rw [List.take_succ_eq_append_getElem hlt2, List.filter_append, HZP.out, hzl, List.filter_cons]
     cases endP l[q] <;> simp
    have HSP : Hid (∀ x, (z.set p x).take (p + 1) = z.take p ++ [x] ∧ (z.set p x).drop (q + 1) = z.drop (q + 1)) := fun x => by
     refine ⟨?_, by rw [List.drop_set_of_lt (by omega)]⟩
     rw [List.take_succ_eq_append_getElem (by rw [List.length_set]; omega), List.take_set_of_le (Nat.le_refl p), List.getElem_set_self]
    clear hzl
    generalize z[q] = x at *
    generalize z[p] = x0 at *
    have HS := Lib.hid (hst x)
    clear hst
    rcases hd : endP x
    ·have HT2 : Hid ((z.set p x).take (p + 1) = (l.take (q + 1)).filter fun x => !endP x) := by show _ = _; rw [(HSP.out x).1, HTK.out, hd]; rfl
     have HD2 : Hid ((z.set p x).drop (q + 1) = l.drop (q + 1)) := by show _ = _; rw [(HSP.out x).2]; exact HDR.out
     go_wp2_with fail
     refine (endP_any x wr).mono ?_
     rintro _ w2 ⟨rfl, rfl⟩
     go_wp2_with fail
     go_roundw
     case rel => exact ⟨p + 1, q + 1, z.set p x, by go_num, by go_num, by omega, by omega, HT2, HD2, by simp; omega, by rw [List.map_set]; exact HS.out.1, gr_trans hgr HS.out.2⟩
     case measure => simp [intOf]; omega
    ·have HT2 : Hid (z.take p = (l.take (q + 1)).filter fun x => !endP x) := by show _ = _; rw [HTK.out, hd]; simp
     go_wp2_with fail
     refine (endP_any x wr).mono ?_
     rintro _ w2 ⟨rfl, rfl⟩
     go_wp2_with fail
     go_roundw
     case rel => exact ⟨p, q + 1, z, rfl, by go_num, by omega, by omega, HT2, HDR, hz, hown, hgr⟩
     case measure => simp [intOf]; omega
   ·have hql : ¬ (q : Int) < (l.length : Int) := by omega
    have hpl : (p : Int) ≤ (l.length : Int) := by omega
    have hpl2 : p < l.length := by omega
    have HEND : Hid (z.take p = l.filter fun x => !endP x) := by show _ = _; rw [HZP.out, List.take_of_length_le (by omega)]
    obtain ⟨z', hz', hzt, hown2, hgr2⟩ := ints_zerosE base g l.length ca (l.length - p) p wr z hown
    have hcl : ∀ ty, (Builtin.clear_ #[22] ty #[.slice (some ⟨g, p, none⟩) (l.length - p) (ca - p)]).run Tryz.prog wr = .ok (.tuple #[]) (wr.setCells g p (List.replicate (l.length - p) (.int .i64 0))) :=
     fun ty => Lib.run_clear_slice wr 22 3 ty (.int .i64 0) Tryz.underlying22 zeroIntE rfl rfl g p _ _ (by omega) (fun k hk => by rw [hown.cellAt (p + k) (by omega)]; simp [show p + k < z.length by omega]) (fun k hk => hown.frozenAt _)
    generalize wr.setCells g p (List.replicate (l.length - p) (.int .i64 0)) = W2 at *
    have HZ := Lib.hid hz'
    have HZZ := Lib.hid hz
    have HZT := Lib.hid hzt
    clear hz hz' hzt
    go_wp2_with (simp only [hcl])
    go_ret
    have hfull : IntsFrom base W2 (.slice (some ⟨g, 0, none⟩) l.length ca) z' := by
     unfold IntsFrom; rw [HZ.out, HZZ.out]; exact hown2
    have hlen : z'.length = l.length := by rw [HZ.out, HZZ.out]
    refine ⟨_, rfl, ?_, gr_trans hgr hgr2⟩
    have h := IntsFrom.take (by rw [hlen]; exact hfull) p (by omega)
    rw [HZT.out, HEND.out] at h
    exact h
theorem flat_step {α β : Type} (f : α → List β) (l : List α) (k : Nat) (h : k < l.length) : (l.take (k + 1)).flatMap f = (l.take k).flatMap f ++ f l[k] := by
 rw [List.take_succ_eq_append_getElem h, List.flatMap_append]
 simp
theorem two_len {α : Type} (f : α → List Int) (hf : ∀ x, (f x).length = 2) : ∀ l : List α, (l.flatMap f).length = 2 * l.length
 | [] => rfl
 | x :: r => by rw [List.flatMap_cons, List.length_append, two_len f hf r, hf, List.length_cons]; omega
set_option maxRecDepth 100000 in
set_option maxHeartbeats 8000000 in
theorem edgesOf_any (base : Nat) (u v : Value) (l : List Ent) (p : List Pfx) (w : World) (hu : EntsFrom base w u l) (hll : l.length ≤ 10000) (hv : PfxsFrom base w v p) (hpl : p.length ≤ 10000) :
 Calls Tryz.prog 74 #[u, v] w fun r w' => ∃ y, r = .returned y ∧ IntsFrom w.heap.size w' y (refEdg l p) ∧ w.grownBy w' none := by
 obtain ⟨i0, hi0, hz0, hz1, hz2⟩ := info_parts intInfo
 have HU := Lib.hid hu
 have HV := Lib.hid hv
 obtain ⟨Au, cu, rfl, hul, hAu⟩ := hu.shape
 obtain ⟨Av, cv, rfl, hvl, hAv⟩ := hv.shape
 have HAU := Lib.hid hAu
 have HAV := Lib.hid hAv
 obtain ⟨NL, hNL⟩ : ∃ NL, l.length = NL := ⟨_, rfl⟩
 obtain ⟨NP, hNP⟩ : ∃ NP, p.length = NP := ⟨_, rfl⟩
 have HNL := Lib.hid hNL
 have HNP := Lib.hid hNP
 have hb0 := Blk.new w 3 #[.int .i64 0]
 have hg0 := World.grownBy_alloc w (.cells #[.int .i64 0] 3) none
 have ho0 : IntsFrom w.heap.size (w.alloc (.cells #[.int .i64 0] 3)) (.slice (some ⟨w.heap.size, 0, none⟩) 1 1) [0] := int_own hb0 (Nat.le_refl _)
 rw [hNL] at HU hul hll ⊢
 rw [hNP] at HV hvl hpl ⊢
 clear hu hv hAu hAv hNL hNP hb0
 go_enter Tryz.func74, Tryz.ntmps74
 go_upto_region 2 with fail
 have HBE : Hid (w.heap.size = w.heap.size) := rfl
 obtain ⟨B, hB⟩ : ∃ B, w.heap.size = B := ⟨_, rfl⟩
 rw [hB] at ho0 ⊢
 have HB := Lib.hid hB
 generalize w.alloc (.cells #[.int .i64 0] 3) = w0 at *
 clear hB HBE
 go_wp2_with fail
 go_loopw [5, 13] (fun ov kv wr => ∃ k : Nat, k ≤ NL ∧ kv = .int .i64 k ∧ IntsFrom B wr ov (0 :: (l.take k).flatMap fun e => [e.a, e.z]) ∧ w.grownBy wr none) (fun _ kv _ => NL - (intOf kv).toNat)
 case atStart => exact ⟨0, by omega, rfl, ho0, hg0⟩
 case round =>
  obtain ⟨k, hk, rfl, hown, hg⟩ := hrel
  clear ho0 hg0
  obtain ⟨A2, c2, rfl, _, hA2⟩ := hown.shape
  obtain ⟨LN, hLN⟩ : ∃ LN, (0 :: (l.take k).flatMap fun e => [e.a, e.z]).length = LN := ⟨_, rfl⟩
  have hLNb : LN = 1 + 2 * k := by
   rw [← hLN, List.length_cons, two_len _ (fun _ => rfl), List.length_take, HNL.out, Nat.min_eq_left hk]
   omega
  rw [hLN] at hown ⊢
  have HLN := Lib.hid hLN
  have hLNb2 : LN ≤ 20001 := by omega
  have HOWN := Lib.hid hown
  clear hLN hLNb hA2 hown
  by_cases hlt : k < NL
  ·have hki : (k : Int) < (NL : Int) := by omega
   have hkl : k < l.length := by rw [HNL.out]; exact hlt
   obtain ⟨gu, rfl, _, _⟩ := HAU.out (by rw [HNL.out]; omega)
   obtain ⟨q0, q1, q2, q3, q4⟩ := (show EntsFrom base w (.slice (some ⟨gu, 0, none⟩) l.length cu) l from by rw [HNL.out]; exact HU.out).at_ k hkl
   have q0 := hg.cell q0 (by simp)
   have q1 := hg.cell q1 (by simp)
   have q2 := hg.cell q2 (by simp)
   have q3 := hg.cell q3 (by simp)
   have q4 := hg.cell q4 (by simp)
   have HNX : Hid (0 :: (l.take (k + 1)).flatMap (fun e => [e.a, e.z]) = (0 :: (l.take k).flatMap fun e => [e.a, e.z]) ++ [l[k].a, l[k].z]) := by show _ = _; rw [flat_step _ _ k hkl]; rfl
   generalize l[k] = x at *
   obtain ⟨XK, XC, XZ, XA, XT⟩ := x
   simp only at q0 q1 q2 q3 q4
   have HX2 : Hid (0 :: (l.take (k + 1)).flatMap (fun e => [e.a, e.z]) = (0 :: (l.take k).flatMap fun e => [e.a, e.z]) ++ [XA, XT]) := HNX.out
   have hX := Blk.new wr 77 #[.string XK, .int .i64 XC, .int .i64 XZ, .int .i64 XA, .int .i64 XT]
   have hgX := World.grownBy_alloc wr (.cells #[.string XK, .int .i64 XC, .int .i64 XZ, .int .i64 XA, .int .i64 XT] 77) none
   go_upto_region 5 with fail
   generalize wr.alloc (.cells #[.string XK, .int .i64 XC, .int .i64 XZ, .int .i64 XA, .int .i64 XT] 77) = w1 at *
   generalize wr.heap.size = gX at *
   have x3 := hX.cell 3
   have x4 := hX.cell 4
   simp only [List.getElem?_toArray, List.getElem?_cons_zero, List.getElem?_cons_succ] at x3 x4
   have hg1 := gr_trans hg hgX
   have hor : w1.ownsRow B 3 1 (.slice A2 LN c2) LN ((0 :: (l.take k).flatMap fun e => [e.a, e.z]).map (Value.int .i64)) := by
    have h := IntsFrom.grown HOWN.out hgX
    unfold IntsFrom at h
    rw [HLN.out] at h
    exact h
   have HOR := Lib.hid hor
   have hszB : B ≤ w1.heap.size := by rw [← HB.out]; exact hg1.size
   clear q0 q1 q2 q3 q4 hg hgX hX HNX hor
   go_wp2_with (at_builtin; refine wpList_append_own _ rfl _ _ 22 rfl B 3 i0 _ 1 8 Tryz.underlying22 hi0 hz0 hz1 hz2 rfl (by decide) _ LN _ rfl (World.ownsRow.alloc HOR.out _) ⟨_, 0, none⟩ 2 2 [.int .i64 XA, .int .i64 XT] rfl rfl (World.news_of_block (Blk.new _ _ _)) (by intro u hu; simp at hu; rcases hu with rfl | rfl <;> rfl) (by unfold maxLen; omega) (by omega) (by simp; omega) ?_; intro v' w2 hownB hgrB _)
   have hown2 : IntsFrom B w2 v' (0 :: (l.take (k + 1)).flatMap fun e => [e.a, e.z]) := by
    rw [HX2.out]
    unfold IntsFrom
    rw [List.map_append, List.length_append, HLN.out]
    exact hownB
   have hg2 : w.grownBy w2 none := gr_grown (gr_alloc hg1 _) hgrB (fun g e => .inr (by have := (HOR.out.lt g e).1; have := HB.out; omega))
   go_wp2_with fail
   go_roundw
   case rel => exact ⟨k + 1, by omega, by go_num, hown2, hg2⟩
   case measure => simp [intOf]; omega
  ·have hki : ¬ (k : Int) < (NL : Int) := by omega
   have HALL : Hid (l.take k = l) := List.take_of_length_le (by rw [HNL.out]; omega)
   have hstart : IntsFrom B wr (.slice A2 LN c2) (0 :: (l.flatMap (fun e => [e.a, e.z]) ++ (p.take 0).flatMap fun e => [e.a, e.z])) := by
    have h := HOWN.out
    rw [HALL.out] at h
    simpa using h
   clear HLN HOWN HALL hLNb2
   go_wp2_with fail
   go_loopw [5, 29] (fun ov kv ws => ∃ k : Nat, k ≤ NP ∧ kv = .int .i64 k ∧ IntsFrom B ws ov (0 :: (l.flatMap (fun e => [e.a, e.z]) ++ (p.take k).flatMap fun e => [e.a, e.z])) ∧ w.grownBy ws none) (fun _ kv _ => NP - (intOf kv).toNat)
   case atStart => exact ⟨0, by omega, rfl, hstart, hg⟩
   case round =>
    obtain ⟨k, hk, rfl, hown, hg⟩ := hrel
    clear hstart
    obtain ⟨A3, c3, rfl, _, hA3⟩ := hown.shape
    obtain ⟨LM, hLM⟩ : ∃ LM, (0 :: (l.flatMap (fun e => [e.a, e.z]) ++ (p.take k).flatMap fun e => [e.a, e.z])).length = LM := ⟨_, rfl⟩
    have hLMb : LM = 1 + 2 * NL + 2 * k := by
     rw [← hLM, List.length_cons, List.length_append, two_len _ (fun _ => rfl), two_len _ (fun _ => rfl), List.length_take, HNP.out, HNL.out, Nat.min_eq_left hk]
     omega
    rw [hLM] at hown ⊢
    have HLM := Lib.hid hLM
    have hLMb2 : LM ≤ 40001 := by omega
    have HOWM := Lib.hid hown
    clear hLM hLMb hA3 hown
    by_cases hlt : k < NP
    ·have hki : (k : Int) < (NP : Int) := by omega
     have hkl : k < p.length := by rw [HNP.out]; exact hlt
     obtain ⟨gv, rfl, _, _⟩ := HAV.out (by rw [HNP.out]; omega)
     obtain ⟨q0, q1, q2, q3, q4, q5⟩ := (show PfxsFrom base w (.slice (some ⟨gv, 0, none⟩) p.length cv) p from by rw [HNP.out]; exact HV.out).at_ k hkl
     have q0 := hg.cell q0 (by simp)
     have q1 := hg.cell q1 (by simp)
     have q2 := hg.cell q2 (by simp)
     have q3 := hg.cell q3 (by simp)
     have q4 := hg.cell q4 (by simp)
     have q5 := hg.cell q5 (by simp)
     have HNX : Hid (0 :: (l.flatMap (fun e => [e.a, e.z]) ++ (p.take (k + 1)).flatMap fun e => [e.a, e.z]) = (0 :: (l.flatMap (fun e => [e.a, e.z]) ++ (p.take k).flatMap fun e => [e.a, e.z])) ++ [p[k].a, p[k].z]) := by show _ = _; rw [flat_step _ _ k hkl, List.cons_append, List.append_assoc]
     generalize p[k] = x at *
     obtain ⟨XB, XE, XA, XT, XW, XN⟩ := x
     simp only at q0 q1 q2 q3 q4 q5
     have HX2 : Hid (0 :: (l.flatMap (fun e => [e.a, e.z]) ++ (p.take (k + 1)).flatMap fun e => [e.a, e.z]) = (0 :: (l.flatMap (fun e => [e.a, e.z]) ++ (p.take k).flatMap fun e => [e.a, e.z])) ++ [XA, XT]) := HNX.out
     have hX := Blk.new wr 72 #[.string XB, .string XE, .int .i64 XA, .int .i64 XT, .bool XW, .int .i64 XN]
     have hgX := World.grownBy_alloc wr (.cells #[.string XB, .string XE, .int .i64 XA, .int .i64 XT, .bool XW, .int .i64 XN] 72) none
     go_upto_region 10 with fail
     generalize wr.alloc (.cells #[.string XB, .string XE, .int .i64 XA, .int .i64 XT, .bool XW, .int .i64 XN] 72) = w1 at *
     generalize wr.heap.size = gX at *
     have x2 := hX.cell 2
     have x3 := hX.cell 3
     simp only [List.getElem?_toArray, List.getElem?_cons_zero, List.getElem?_cons_succ] at x2 x3
     have hg1 := gr_trans hg hgX
     have hor : w1.ownsRow B 3 1 (.slice A3 LM c3) LM ((0 :: (l.flatMap (fun e => [e.a, e.z]) ++ (p.take k).flatMap fun e => [e.a, e.z])).map (Value.int .i64)) := by
      have h := IntsFrom.grown HOWM.out hgX
      unfold IntsFrom at h
      rw [HLM.out] at h
      exact h
     have HOR := Lib.hid hor
     have hszB : B ≤ w1.heap.size := by rw [← HB.out]; exact hg1.size
     clear q0 q1 q2 q3 q4 q5 hg hgX hX HNX hor
     go_wp2_with (at_builtin; refine wpList_append_own _ rfl _ _ 22 rfl B 3 i0 _ 1 8 Tryz.underlying22 hi0 hz0 hz1 hz2 rfl (by decide) _ LM _ rfl (World.ownsRow.alloc HOR.out _) ⟨_, 0, none⟩ 2 2 [.int .i64 XA, .int .i64 XT] rfl rfl (World.news_of_block (Blk.new _ _ _)) (by intro u hu; simp at hu; rcases hu with rfl | rfl <;> rfl) (by unfold maxLen; omega) (by omega) (by simp; omega) ?_; intro v' w2 hownB hgrB _)
     have hown2 : IntsFrom B w2 v' (0 :: (l.flatMap (fun e => [e.a, e.z]) ++ (p.take (k + 1)).flatMap fun e => [e.a, e.z])) := by
      rw [HX2.out]
      unfold IntsFrom
      rw [List.map_append, List.length_append, HLM.out]
      exact hownB
     have hg2 : w.grownBy w2 none := gr_grown (gr_alloc hg1 _) hgrB (fun g e => .inr (by have := (HOR.out.lt g e).1; have := HB.out; omega))
     go_wp2_with fail
     go_roundw
     case rel => exact ⟨k + 1, by omega, by go_num, hown2, hg2⟩
     case measure => simp [intOf]; omega
    ·have hki : ¬ (k : Int) < (NP : Int) := by omega
     have hfin : IntsFrom B wr (.slice A3 LM c3) (0 :: (l.flatMap (fun e => [e.a, e.z]) ++ p.flatMap fun e => [e.a, e.z])) := by
      have h := HOWM.out
      rw [List.take_of_length_le (by rw [HNP.out]; omega)] at h
      exact h
     have hlen : (0 :: (l.flatMap (fun e => [e.a, e.z]) ++ p.flatMap fun e => [e.a, e.z])).length ≤ 1000000 := by
      rw [List.length_cons, List.length_append, two_len _ (fun _ => rfl), two_len _ (fun _ => rfl), HNP.out, HNL.out]
      omega
     have HREF : Hid (refEdg l p = (compI (sortI (0 :: (l.flatMap (fun e => [e.a, e.z]) ++ p.flatMap fun e => [e.a, e.z])))).filter fun x => !endP x) := by
      show _ = _
      unfold refEdg
      congr 1
      funext x
      unfold endP
      by_cases hx : x < 345686400000
      ·rw [decide_eq_true hx, decide_eq_false (by omega)]; rfl
      ·rw [decide_eq_false hx, decide_eq_true (by omega)]; rfl
     generalize (0 :: (l.flatMap (fun e => [e.a, e.z]) ++ p.flatMap fun e => [e.a, e.z]) : List Int) = XS at *
     have HF := Lib.hid hfin
     have hbg : ∀ g, (Value.slice A3 LM c3).ownBlock = some g → w.heap.size ≤ g := fun g e => by have := ((show World.ownsRow _ _ _ _ _ _ _ from hfin).lt g e).1; have := HB.out; omega
     have HBG := Lib.hid hbg
     clear HOWM HLM hLMb2 hfin hbg
     go_wp2_with fail
     refine (sort_own B _ XS _ HF.out (by omega)).mono ?_
     rintro _ w3 ⟨rfl, h3, hg3⟩
     have hG3 : w.grownBy w3 none := gr_grown hg hg3 (fun g e => .inr (HBG.out g e))
     have H3 := Lib.hid h3
     clear hg3 h3
     go_wp2_with fail
     refine (compact_own B _ (sortI XS) _ H3.out (by rw [sortI_len]; omega)).mono ?_
     rintro _ w4 ⟨u4, rfl, h4, hg4⟩
     have hG4 : w.grownBy w4 none := gr_grown hG3 hg4 (fun g e => .inr (HBG.out g e))
     have hlc : (compI (sortI XS)).length ≤ 1000000 := by
      have h1 := Lib.compact_length_le (sortI XS)
      rw [sortI_len] at h1
      unfold compI
      omega
     have H4 := Lib.hid h4
     have hlow4 : ∀ g, u4.ownBlock = some g → w.heap.size ≤ g := fun g e => by have := ((show World.ownsRow _ _ _ _ _ _ _ from h4).lt g e).1; have := HB.out; omega
     have HL4 := Lib.hid hlow4
     clear hg4 h4 hlow4 hg
     obtain ⟨A4, c4, rfl, _, _⟩ := H4.out.shape
     go_wp2_with fail
     refine (deleteE_any B _ _ _ H4.out hlc).mono ?_
     rintro _ w5 ⟨u5, rfl, h5, hg5⟩
     have hG5 : w.grownBy w5 none := gr_grown hG4 hg5 (fun g e => .inr (HL4.out g e))
     go_wp2_with fail
     go_ret
     exact ⟨u5, rfl, by rw [HB.out, HREF.out]; exact h5, hG5⟩
end Go.Proofs.YtbpkfkbbkgdlaaaGreatDoor

namespace Go.Proofs.YtbpkfkbbkgdlaaaGreatDoor
open Go.RowKit
set_option linter.unusedVariables false
set_option linter.unusedSimpArgs false

set_option maxRecDepth 100000 in
set_option maxHeartbeats 16000000 in
theorem changesOf_any (base : Nat) (u v : Value) (l : List Ent) (p : List Pfx) (s : ByteArray) (q : ByteArray × Nat × Int × ByteArray) (w : World) (hu : EntsFrom base w u l) (hv : PfxsFrom base w v p) (hsm : ∀ x ∈ p, PfxSm x) (hR : TabRight l p) (hs : s.size ≤ 1000) (ha : Ascii s) (hq : partsOf s = some q) (bP : Nat) (hp10 : P10 bP w) :
 Calls Tryz.prog 24 #[u, v, .string s] w fun r w' => ∃ V, r = .returned V ∧ PairsFrom w.heap.size w' V (chgL (nameAt l p s q) none (refEdg l p)) ∧ w.grownBy w' none := by
 obtain ⟨i0, hi0, hz0, hz1, hz2⟩ := info_parts pairInfo
 have hll : l.length ≤ 1000000 := by have := hR.ok.ents.len; omega
 have hpl : p.length ≤ 1000000 := by have := hR.ok.len; omega
 have HFD : Hid (∀ t W, w.grownBy W none → w.grownBy W none → Calls Tryz.prog 22 #[u, v, .string s, .int .i64 t] W fun r w' => FndRet (fndOf l p s t q) r ∧ W.grownBy w' none) := fun t W hW _ => foundOf_ok base u v l p s t q W (hu.grown hW) hll (hv.grown hW) hpl hsm hs ha hq (parts_size hq)
 have HEG := Lib.hid (edgesOf_any base u v l p w hu (by have := hR.ok.ents.len; omega) hv (by have := hR.ok.len; omega))
 have hebd : ∀ x ∈ refEdg l p, 0 ≤ x ∧ x < 345686400000 := fun x hx => ref_nonneg hR hx
 have helen : (refEdg l p).length ≤ 1000000 := by
  unfold refEdg
  refine Nat.le_trans (List.length_filter_le _ _) ?_
  have h1 := Lib.compact_length_le (sortI (0 :: (l.flatMap (fun e => [e.a, e.z]) ++ p.flatMap fun x => [x.a, x.z])))
  rw [sortI_len, List.length_cons, List.length_append, two_len _ (fun _ => rfl), two_len _ (fun _ => rfl)] at h1
  have := hR.ok.ents.len
  have := hR.ok.len
  unfold compI
  omega
 have HP10 := Lib.hid hp10
 obtain ⟨ed, hed⟩ : ∃ ed, refEdg l p = ed := ⟨_, rfl⟩
 obtain ⟨nm, hnm⟩ : ∃ nm, nameAt l p s q = nm := ⟨_, rfl⟩
 have HNA : Hid (∀ t, nm t = match fndOf l p s t q with | none => ⟨#[45]⟩ | some f => f.1) := fun t => by rw [← hnm]; rfl
 rw [hed] at HEG hebd helen ⊢
 rw [hnm]
 have HEB := Lib.hid hebd
 clear hu hv hsm hR ha hq hp10 hll hpl hed hnm hebd
 go_enter Tryz.func24, Tryz.ntmps24
 go_wp2_with fail
 refine HEG.out.mono ?_
 rintro _ w0 ⟨y, rfl, hy, hgE⟩
 obtain ⟨Ae, ce, rfl, hel, hEA⟩ := hy.shape
 have HEO := Lib.hid hy
 have HEA := Lib.hid hEA
 obtain ⟨b3, hb3⟩ : ∃ b3, w0.heap.size = b3 := ⟨_, rfl⟩
 have HB3 : Hid (b3 = w0.heap.size) := hb3.symm
 have HW0 : Hid (w.heap.size ≤ w0.heap.size) := hgE.size
 clear hy hEA hb3 HEG
 go_wp2_with fail
 go_loopw [7, 18] (fun ov kv wr => ∃ (k : Nat) (o : List (Int × ByteArray)), k ≤ ed.length ∧ kv = .int .i64 k ∧ Hid (chgL nm none ed = o ++ chgL nm (lastV o) (ed.drop k)) ∧ o.length ≤ k ∧ PairsFrom b3 wr ov o ∧ w.grownBy wr none ∧ w0.grownBy wr none) (fun _ kv _ => ed.length - (intOf kv).toNat)
 case atStart => exact ⟨0, [], by omega, rfl, chg_start nm ed, by simp, PairsFrom.nil _ _, hgE, gr_refl _ _⟩
 case round =>
  obtain ⟨k, o, hk, rfl, HN, hok, hown, hg, hg0⟩ := hrel
  obtain ⟨A2, c2, rfl, _, hA2⟩ := hown.shape
  obtain ⟨LO, hLO⟩ : ∃ LO, o.length = LO := ⟨_, rfl⟩
  rw [hLO] at hown hA2 ⊢
  by_cases hlt : k < ed.length
  ·have hki : (k : Int) < (ed.length : Int) := by omega
   obtain ⟨ge, rfl, _, hgel⟩ := HEA.out (by omega)
   have hat := IntsFrom.at_ (HEO.out.grown hg0) k hlt
   have htb := HEB.out _ (List.getElem_mem hlt)
   have hsame : lastV o = some (nm ed[k]) → chgL nm none ed = o ++ chgL nm (lastV o) (ed.drop (k + 1)) := fun h => by rw [HN.out]; exact chg_same hlt h
   have hnew : lastV o ≠ some (nm ed[k]) → chgL nm none ed = (o ++ [(ed[k], nm ed[k])]) ++ chgL nm (lastV (o ++ [(ed[k], nm ed[k])])) (ed.drop (k + 1)) := fun h => by rw [HN.out]; exact chg_new hlt h
   have HFI := Lib.hid (HFD.out ed[k] wr hg hg)
   have HNM := HNA.out ed[k]
   generalize ed[k] = T at *
   obtain ⟨NM, hNM⟩ : ∃ NM, nm T = NM := ⟨_, rfl⟩
   rw [hNM] at hsame hnew HNM
   have HSAME := Lib.hid hsame
   have HNEW := Lib.hid hnew
   have HIT : Hid (∀ W, w.grownBy W none → Calls Tryz.prog 67 #[.int .i64 T] W fun e w' => e = .returned (.string (itZ T)) ∧ W.grownBy w' none) := fun W hW => itoaZ_any _ T W htb.1 (by have := htb.2; omega) (HP10.out.grown hW)
   have HOWN := Lib.hid hown
   have HA2 := Lib.hid hA2
   have HLO := Lib.hid hLO
   rw [hLO] at hok
   have hkb : k ≤ 1000000 := by omega
   clear hsame hnew hNM hown hA2 hLO htb
   go_wp2_with fail
   refine HFI.out.mono ?_
   rintro _ w2 ⟨hfr, hg2⟩
   obtain ⟨O, hO⟩ : ∃ O, fndOf l p s T q = O := ⟨_, rfl⟩
   rw [hO] at hfr HNM
   obtain rfl := hfr
   have HNMO := Lib.hid HNM
   clear hO HNM hat
   have hX := Blk.new w2 38 #[.string (O.getD fndZ0).1, .int .i64 (O.getD fndZ0).2.1, .int .i64 (O.getD fndZ0).2.2]
   have hgX := World.grownBy_alloc w2 (.cells #[.string (O.getD fndZ0).1, .int .i64 (O.getD fndZ0).2.1, .int .i64 (O.getD fndZ0).2.2] 38) none
   have hgY := gr_trans hg2 hgX
   go_upto_region 7 with fail
   generalize w2.alloc (.cells #[.string (O.getD fndZ0).1, .int .i64 (O.getD fndZ0).2.1, .int .i64 (O.getD fndZ0).2.2] 38) = w3 at *
   generalize w2.heap.size = gX at *
   have x0 := hX.cell 0
   simp only [List.getElem?_toArray, List.getElem?_cons_zero, List.getElem?_cons_succ] at x0
   have hgw3 := gr_trans hg hgY
   have hg03 := gr_trans hg0 hgY
   have HOW3 := Lib.hid (PairsFrom.grown HOWN.out hgY)
   go_upto_if 30 with fail
   go_cut [10] (fun s wq => s = .string NM ∧ wq = w3)
   case first =>
    rcases O with _ | F
    ·have hn : NM = ⟨#[45]⟩ := HNMO.out
     subst hn
     go_wp2_with fail
     go_meet
     exact ⟨rfl, rfl⟩
    ·have hn : F.1 = NM := HNMO.out.symm
     have x0' : w3.cell? ⟨gX, 0, none⟩ = some (.string F.1) := x0
     clear x0
     rw [hn] at x0'
     subst hn
     go_wp2_with fail
     go_meet
     exact ⟨rfl, rfl⟩
   case rest =>
    obtain ⟨rfl, rfl⟩ := hcut
    rename World => w3
    clear x0
    go_upto_region 10 with fail
    go_cut [46] (fun s wq => ∃ c : Bool, s = .bool c ∧ Hid (c = false → lastV o = some NM) ∧ Hid (c = true → lastV o ≠ some NM) ∧ wq = w3)
    case first =>
     rcases Nat.eq_zero_or_pos LO with h0 | h0
     ·have ho : o = [] := List.eq_nil_of_length_eq_zero (by rw [HLO.out]; exact h0)
      subst h0
      go_wp2_with fail
      go_meet
      exact ⟨true, rfl, (fun h => by cases h), (fun _ => by rw [ho]; simp [lastV_nil]), rfl⟩
     ·obtain ⟨LP, hLP⟩ : ∃ LP, LP + 1 = LO := ⟨LO - 1, by omega⟩
      obtain ⟨go, rfl, _, hgol⟩ := HA2.out h0
      have hLPl : LP < o.length := by rw [HLO.out]; omega
      have hrow : PairsFrom b3 w3 (.slice (some ⟨go, 0, none⟩) o.length c2) o := by rw [HLO.out]; exact HOW3.out
      obtain ⟨y0, y1⟩ := hrow.at_ LP hLPl
      clear y0
      have hlv := lastV_at o LP hLPl (by rw [HLO.out]; exact hLP)
      generalize o[LP].2 = LV at *
      have hz : ((LO : Int) == 0) = false := by rw [beq_eq_false_iff_ne]; omega
      have hw1 : IntKind.i64.wrap ((LO : Int) - 1) = (LP : Int) := by rw [IntKind.wrap_i64]; omega
      have hLi : (LP : Int) < (LO : Int) := by omega
      have hL0 : (0 : Int) ≤ (LP : Int) := by omega
      have HLV := Lib.hid hlv
      have HLPP := Lib.hid hLP
      clear hLP hLPl hlv hrow h0
      by_cases he : LV = NM
      ·have hb := str_yes he
       have HE := Lib.hid he
       clear he
       go_wp2_with fail
       go_meet
       exact ⟨false, rfl, (fun _ => by rw [HLV.out, HE.out]), (fun h => by cases h), rfl⟩
      ·have hb := str_no he
       have HE := Lib.hid he
       clear he
       go_wp2_with fail
       go_meet
       exact ⟨true, rfl, (fun h => by cases h), (fun _ h => HE.out (by rw [HLV.out] at h; exact Option.some.inj h)), rfl⟩
    case rest =>
     obtain ⟨C, rfl, HC0, HC1, rfl⟩ := hcut
     rename World => w3
     rcases C with _ | _
     ·have HN2 : Hid (chgL nm none ed = o ++ chgL nm (lastV o) (ed.drop (k + 1))) := HSAME.out (HC0.out rfl)
      go_wp2_with fail
      go_roundw
      case rel => exact ⟨k + 1, o, by omega, by go_num, HN2, by rw [HLO.out]; omega, HOW3.out, hgw3, hg03⟩
      case measure => simp [intOf]; omega
     ·have HN2 : Hid (chgL nm none ed = (o ++ [(T, NM)]) ++ chgL nm (lastV (o ++ [(T, NM)])) (ed.drop (k + 1))) := HNEW.out (HC1.out rfl)
      go_wp2_with fail
      refine (HIT.out _ hgw3).mono ?_
      rintro _ w4 ⟨rfl, hg4⟩
      have hg34 := gr_trans hgw3 hg4
      have hg04 := gr_trans hg03 hg4
      have HOW4 := Lib.hid (PairsFrom.grown HOW3.out hg4)
      have hOWX : Hid (World.ownsRow w4 b3 58 2 (.slice A2 LO c2) LO (o.flatMap encQ)) := by
       show World.ownsRow _ _ _ _ _ _ _
       have h := HOW4.out
       unfold PairsFrom at h
       rw [HLO.out] at h
       exact h
      have hb3 : b3 ≤ w4.heap.size := by have := HB3.out; have := hg04.size; omega
      generalize hIT : itZ T = IT at *
      have HITT := Lib.hid hIT
      clear hIT
      go_wp2_with (at_builtin; refine wpList_append_own _ rfl _ _ 43 rfl b3 58 i0 _ 2 32 Tryz.underlying43 hi0 hz0 hz1 hz2 rfl (by decide) _ LO _ rfl (World.ownsRow.alloc hOWX.out _) ⟨_, 0, none⟩ 1 1 [.string IT, .string NM] rfl rfl (pr_cells _ IT NM _) (pr_oneCell IT NM) (by unfold maxLen; omega) (by omega) (by simp; omega) ?_; intro v' w5 hown5 hgr5 _)
      have hrow5 : PairsFrom b3 w5 v' (o ++ [(T, NM)]) := by
       unfold PairsFrom
       rw [List.length_append, HLO.out, List.flatMap_append]
       have : ([(T, NM)] : List (Int × ByteArray)).flatMap encQ = [.string IT, .string NM] := by simp [encQ, HITT.out]
       rw [this]
       exact hown5
      have hG5 : w.grownBy w5 none := gr_grown (gr_alloc hg34 _) hgr5 (fun g e => .inr (by have h1 := (hOWX.out.lt g e).1; have := HB3.out; have := HW0.out; omega))
      have hG05 : w0.grownBy w5 none := gr_grown (gr_alloc hg04 _) hgr5 (fun g e => .inr (by have h1 := (hOWX.out.lt g e).1; have := HB3.out; omega))
      go_wp2_with fail
      go_roundw
      case rel => exact ⟨k + 1, o ++ [(T, NM)], by omega, by go_num, HN2, by rw [List.length_append, HLO.out]; simp; omega, hrow5, hG5, hG05⟩
      case measure => simp [intOf]; omega
  ·obtain rfl : k = ed.length := by omega
   have hkl : ¬ (ed.length : Int) < (ed.length : Int) := by omega
   have HRE : Hid (chgL nm none ed = o) := by show _ = _; rw [HN.out, chg_end]
   have HOWN := Lib.hid hown
   clear hown hA2
   go_wp2_with fail
   go_ret
   exact ⟨_, rfl, by rw [HRE.out]; exact ownsRow_low HOWN.out (by have := HB3.out; have := HW0.out; omega), hg⟩
end Go.Proofs.YtbpkfkbbkgdlaaaGreatDoor
