/- Parts of a proof: TabOrd, TidyPlain, Needless. Conditions: as each statement says. -/
import Derived.Test.YtbamhgaghngjiaaGreatDoorSxaw
namespace Go.Proofs.YtbamhgaghngjiaaGreatDoor
open Go.RowKit
set_option linter.unusedVariables false
set_option linter.unusedSimpArgs false

def PLt (x y : Pfx) : Prop := x.beg.data.toList < y.beg.data.toList ∨ (x.beg = y.beg ∧ ((x.whole = false ∧ y.whole = true) ∨ (x.whole = y.whole ∧ x.a < y.a)))
def Ahead (x y : Pfx) : Prop := PLt x y ∧ (x.beg = y.beg → x.whole = y.whole → x.z ≤ y.a)
theorem cmpPf_lt {x y : Pfx} : jao x y < 0 ↔ PLt x y := by
 unfold jao PLt
 by_cases h1 : jbe x.beg y.beg = 0
 ·have he := cmpS_0.1 h1
  have hl : ¬ x.beg.data.toList < y.beg.data.toList := by rw [he]; exact List.lt_irrefl _
  rw [if_neg (by simpa using h1)]
  cases hx : x.whole <;> cases hy : y.whole <;> simp [jbz, he, Array.lt_irrefl] <;> omega
 rw [if_pos h1, cmpS_lt]
 have hne : x.beg ≠ y.beg := fun e => h1 (cmpS_0.2 e)
 simp [hne]
theorem PLt.trans {x y z : Pfx} (h1 : PLt x y) (h2 : PLt y z) : PLt x z := by
 unfold PLt at *
 rcases h1 with h1 | ⟨e1, h1⟩
 ·rcases h2 with h2 | ⟨e2, h2⟩
  ·exact .inl (List.lt_trans h1 h2)
  exact .inl (e2 ▸ h1)
 rcases h2 with h2 | ⟨e2, h2⟩
 ·exact .inl (e1 ▸ h2)
 refine .inr ⟨e1.trans e2, ?_⟩
 rcases h1 with ⟨a1, b1⟩ | ⟨a1, b1⟩ <;> rcases h2 with ⟨a2, b2⟩ | ⟨a2, b2⟩
 ·rw [b1] at a2; cases a2
 ·exact .inl ⟨a1, a2 ▸ b1⟩
 ·exact .inl ⟨a1.trans a2, b2⟩
 exact .inr ⟨a1.trans a2, by omega⟩
theorem PLt.le {x y : Pfx} (h : PLt x y) : x.beg.data.toList < y.beg.data.toList ∨ x.beg = y.beg := by
 rcases h with h | ⟨h, _⟩
 ·exact .inl h
 exact .inr h
theorem Ahead.trans {x y z : Pfx} (ht : y.a < y.z) (h1 : Ahead x y) (h2 : Ahead y z) : Ahead x z := by
 refine ⟨h1.1.trans h2.1, fun e w => ?_⟩
 have e1 : x.beg = y.beg := by
  rcases h1.1.le with h | h
  ·rcases h2.1.le with h' | h'
   ·exact absurd (List.lt_trans h h') (by rw [e]; exact List.lt_irrefl _)
   exact absurd h (by rw [e, h']; exact List.lt_irrefl _)
  exact h
 have e2 : y.beg = z.beg := e1.symm.trans e
 have w1 : x.whole = y.whole := by
  rcases h1.1 with h | ⟨_, ⟨a, b⟩ | ⟨a, _⟩⟩
  ·exact absurd h (by rw [e1]; exact List.lt_irrefl _)
  ·rcases h2.1 with h' | ⟨_, ⟨a', b'⟩ | ⟨a', _⟩⟩
   ·exact absurd h' (by rw [e2]; exact List.lt_irrefl _)
   ·rw [b] at a'; cases a'
   rw [w, ← a'] 
  exact a
 have h3 := h1.2 e1 w1
 have h4 := h2.2 e2 (w1.symm.trans w)
 omega
theorem ju2 {a z : Int} (h : x8 a z = true) : 0 ≤ a ∧ a < z ∧ z ≤ 345686400000 := by unfold x8 at h; simpa using h
theorem jcr : ∀ (p : List Pfx), (∀ x ∈ p, x.a < x.z) → (∀ k (hk : k + 1 < p.length), Ahead p[k] p[k + 1]) → p.Pairwise Ahead
 | [], _, _ => List.Pairwise.nil
 | [x], _, _ => List.pairwise_singleton _ _
 | x :: y :: r, ht, h => by
   have ih := jcr (y :: r) (fun z hz => ht z (List.mem_cons_of_mem _ hz)) (fun k hk => by have := h (k + 1) (by simpa using hk); simpa using this)
   have h0 : Ahead x y := h 0 (by simp)
   refine List.pairwise_cons.2 ⟨fun z hz => ?_, ih⟩
   rcases List.mem_cons.1 hz with rfl | hz
   ·exact h0
   exact h0.trans (ht y (by simp)) ((List.pairwise_cons.1 ih).1 z hz)
theorem TabRight.ahead {l : List Ent} {p : List Pfx} (h : TabRight l p) : p.Pairwise Ahead := by
 refine jcr p (fun x hx => (ju2 (h.pfx x hx).time).2.1) (fun k hk => ?_)
 obtain ⟨h1, h2⟩ := h.next k hk
 exact ⟨cmpPf_lt.1 h1, fun e w => by
  rcases Int.lt_or_le p[k + 1].a p[k].z with h3 | h3
  ·exact absurd ⟨e, w, h3⟩ h2
  exact h3⟩
theorem jhn {l : List Ent} : ∀ (p : List Pfx) (o : Option Pfx), (∀ x ∈ p, PfxOk l x) → p.Pairwise Ahead → (∀ y, o = some y → ∀ x ∈ p, Ahead y x) → xq l o p = 0
 | [], _, _, _, _ => rfl
 | x :: r, o, hok, hp, ho => by
   have hx := hok x (by simp)
   have hp' := List.pairwise_cons.1 hp
   have h0 : jd0 l o x = 0 := by
    unfold jd0
    rw [if_neg (by rw [hx.form]; simp), if_neg (by rw [hx.has]; simp), if_neg (by rw [hx.time]; simp), if_neg (by unfold qy; have := hx.z0; have := hx.z1; simp; omega)]
    cases o with
    | none => rfl
    | some y =>
      have ha := ho y rfl x (by simp)
      show (if 0 ≤ jao y x then (7 : Int) else if y.beg = x.beg ∧ y.whole = x.whole ∧ x.a < y.z then 13 else 0) = 0
      rw [if_neg (by have := cmpPf_lt.2 ha.1; omega), if_neg (by
       rintro ⟨e, w, h⟩
       have := ha.2 e w
       omega)]
   unfold xq
   rw [if_pos h0]
   exact jhn r (some x) (fun y hy => hok y (List.mem_cons_of_mem _ hy)) hp'.2 (fun y hy z hz => by injection hy with hy; subst hy; exact hp'.1 z hz)
theorem joo {l : List Ent} {p q : List Pfx} (h : yh l p = 0) (hs : q.Sublist p) : yh l q = 0 := by
 have hR := ja7 h
 have hl := hs.length_le
 have hlen := hR.ok.len
 have hE : xk l = 0 := by
  by_cases h0 : xk l = 0
  ·exact h0
  unfold yh at h
  rw [if_pos h0] at h
  exact h
 unfold yh
 rw [if_neg (by simpa using hE), if_neg (by omega)]
 exact jhn q none (fun x hx => hR.pfx x (hs.subset hx)) (hR.ahead.sublist hs) (fun y hy => by cases hy)
def jqs (l : List Ent) (S : Pfx → Prop) (place : ByteArray) (t : Int) (x : Pfx) : Prop := S x ∧ x.whole = false ∧ jgo l x t = true ∧ Lib.hasPrefix place.data.toList x.beg.data.toList = true
def LeadX (l : List Ent) (S : Pfx → Prop) (place : ByteArray) (t : Int) (x : Pfx) : Prop := jqs l S place t x ∧ ∀ y, jqs l S place t y → y.beg.size ≤ x.beg.size
def LeadF (l : List Ent) (S : Pfx → Prop) (place : ByteArray) (t : Int) (o : Option Fnd) : Prop := (o = none ∧ ∀ x, ¬ jqs l S place t x) ∨ ∃ x, o = some (jcd l x) ∧ LeadX l S place t x
theorem jnu {l : List Ent} {x : Pfx} {t : Int} (h : jgo l x t = true) : tmA l x ≤ t ∧ t < tmZ l x ∧ x.a ≤ t ∧ t < x.z := by
 have h2 := h
 rw [← jh7] at h
 unfold ja0 at h
 unfold jgo ja0 at h2
 simp only [decide_eq_true_eq, Bool.and_eq_true] at h h2
 exact ⟨h.1, h.2, h2.1.1, h2.1.2⟩
theorem jua {place a b : ByteArray} (h1 : Lib.hasPrefix place.data.toList a.data.toList = true) (h2 : Lib.hasPrefix place.data.toList b.data.toList = true) (h : a.size = b.size) : a = b := by
 rw [(has_beg.1 h1).2, (has_beg.1 h2).2, h]
theorem jo2 {place a b : ByteArray} (h1 : Lib.hasPrefix place.data.toList a.data.toList = true) (h2 : Lib.hasPrefix place.data.toList b.data.toList = true) (h : a.size ≤ b.size) : Lib.hasPrefix b.data.toList a.data.toList = true := by
 unfold Lib.hasPrefix at *
 rw [List.isPrefixOf_iff_prefix] at *
 exact List.prefix_of_prefix_length_le h1 h2 (by simpa using h)
theorem jsh {place a b : ByteArray} (h1 : Lib.hasPrefix place.data.toList b.data.toList = true) (h2 : Lib.hasPrefix b.data.toList a.data.toList = true) : Lib.hasPrefix place.data.toList a.data.toList = true := by
 unfold Lib.hasPrefix at *
 rw [List.isPrefixOf_iff_prefix] at *
 exact h2.trans h1
theorem jo6 {p : List Pfx} (hp : p.Pairwise Ahead) {l : List Ent} {t : Int} {i j : Nat} (hi : i < p.length) (hj : j < p.length) (hb : p[i].beg = p[j].beg) (hw : p[i].whole = p[j].whole) (h1 : jgo l p[i] t = true) (h2 : jgo l p[j] t = true) : i = j := by
 have hA := List.pairwise_iff_getElem.1 hp
 have c1 := jnu h1
 have c2 := jnu h2
 rcases Nat.lt_trichotomy i j with h | h | h
 ·have := (hA i j hi hj h).2 hb hw; omega
 ·exact h
 have := (hA j i hj hi h).2 hb.symm hw.symm; omega
theorem jnl {p : List Pfx} (hp : p.Pairwise Ahead) {l : List Ent} {t : Int} {x y : Pfx} (hx : x ∈ p) (hy : y ∈ p) (hb : x.beg = y.beg) (hw : x.whole = y.whole) (h1 : jgo l x t = true) (h2 : jgo l y t = true) : x = y := by
 obtain ⟨i, hi, rfl⟩ := List.mem_iff_getElem.1 hx
 obtain ⟨j, hj, rfl⟩ := List.mem_iff_getElem.1 hy
 have := jo6 hp hi hj hb hw h1 h2
 subst this
 rfl
theorem LeadF.one {l : List Ent} {p : List Pfx} (hp : p.Pairwise Ahead) {S : Pfx → Prop} (hS : ∀ x, S x → x ∈ p) {place : ByteArray} {t : Int} {o o' : Option Fnd} (h : LeadF l S place t o) (h' : LeadF l S place t o') : o = o' := by
 rcases h with ⟨rfl, h⟩ | ⟨x, rfl, hx⟩ <;> rcases h' with ⟨rfl, h'⟩ | ⟨y, rfl, hy⟩
 ·rfl
 ·exact absurd hy.1 (h y)
 ·exact absurd hx.1 (h' x)
 have a := hx.2 y hy.1
 have b := hy.2 x hx.1
 have e := jua hx.1.2.2.2 hy.1.2.2.2 (by omega)
 rw [jnl hp (hS x hx.1.1) (hS y hy.1.1) e (hx.1.2.1.trans hy.1.2.1.symm) hx.1.2.2.1 hy.1.2.2.1]
theorem jkh (l : List Ent) (p : List Pfx) (t : Int) (place : ByteArray) (but : Nat → Bool) (hp : ∀ x ∈ p, x.whole = false → 1 ≤ x.beg.size ∧ x.beg.size ≤ 4) :
 (jbq l p t place but = -1 ∧ ∀ x, ¬ jqs l (fun x => ∃ j, ∃ h : j < p.length, p[j] = x ∧ but j = false) place t x) ∨ ∃ (i : Nat) (h : i < p.length), jbq l p t place but = i ∧ but i = false ∧ LeadX l (fun x => ∃ j, ∃ h : j < p.length, p[j] = x ∧ but j = false) place t p[i] := by
 rcases jge l p t place but hp with ⟨h1, h2⟩ | ⟨i, h1, ⟨hi, hb, hw, hc, hx⟩, h3⟩
 ·refine .inl ⟨h1, ?_⟩
  rintro x ⟨⟨j, hj, rfl, hb⟩, hw, hc, hx⟩
  exact h2 j ⟨hj, hb, hw, hc, hx⟩
 refine .inr ⟨i, hi, h1, hb, ⟨⟨i, hi, rfl, hb⟩, hw, hc, hx⟩, ?_⟩
 rintro y ⟨⟨j, hj, rfl, hb'⟩, hw', hc', hx'⟩
 have := h3 j ⟨hj, hb', hw', hc', hx'⟩
 rw [jcw p i hi, jcw p j hj] at this
 omega
def jd8 (l : List Ent) (p : List Pfx) (k : Int) (x : Pfx) : Bool := decide (0 ≤ k) && match p[k.toNat]? with | none => false | some y => decide (jcd l y = jcd l x)
def jlm (l : List Ent) (p : List Pfx) (gone : List Bool) (i : Nat) (x : Pfx) : Bool :=
 decide (tmZ l x ≤ tmA l x) || (jqq l p (xj p x.beg (min 4 x.beg.size)) (tmA l x) (tmZ l x)).all fun t => jd8 l p (jbq l p t x.beg (zd (i : Int) gone)) x
def jog (l : List Ent) (p : List Pfx) (gone : List Bool) (i : Nat) : Bool := match p[i]? with | none => false | some x => !x.whole && jlm l p gone i x
def qg (l : List Ent) (p : List Pfx) : Nat → List Bool
 | 0 => List.replicate p.length false
 | i + 1 => (qg l p i).set i (jog l p (qg l p i) i)
def ye (l : List Ent) (p : List Pfx) : Nat → List Pfx
 | 0 => []
 | i + 1 => match p[i]? with | none => ye l p i | some x => if jog l p (qg l p i) i then ye l p i else ye l p i ++ [x]
theorem jh4 {l : List Ent} {p : List Pfx} {gone : List Bool} {i : Nat} (h : i < p.length) : jog l p gone i = (!p[i].whole && jlm l p gone i p[i]) := by
 unfold jog; rw [List.getElem?_eq_getElem h]
theorem jgl {l : List Ent} {p : List Pfx} {i : Nat} (h : i < p.length) (ht : jog l p (qg l p i) i = true) : ye l p (i + 1) = ye l p i := by
 show (match p[i]? with | none => _ | some x => _) = _
 rw [List.getElem?_eq_getElem h]
 show (if _ then _ else _) = _
 rw [if_pos ht]
theorem jin {l : List Ent} {p : List Pfx} {i : Nat} (h : i < p.length) (ht : jog l p (qg l p i) i = false) : ye l p (i + 1) = ye l p i ++ [p[i]] := by
 show (match p[i]? with | none => _ | some x => _) = _
 rw [List.getElem?_eq_getElem h]
 show (if _ then _ else _) = _
 rw [if_neg (by rw [ht]; simp)]
theorem jb8 (l : List Ent) (p : List Pfx) : ∀ k, (qg l p k).length = p.length
 | 0 => List.length_replicate
 | k + 1 => by unfold qg; rw [List.length_set, jb8 l p k]
theorem jac (l : List Ent) (p : List Pfx) : ∀ k, k ≤ p.length → ∀ j, (qg l p k).getD j false = if j < k then jog l p (qg l p j) j else false
 | 0, _, j => by
   unfold qg
   rw [if_neg (by omega), List.getD_eq_getElem?_getD, List.getElem?_replicate]
   split <;> rfl
 | k + 1, hk, j => by
   have ih := jac l p k (by omega) j
   have hl := jb8 l p k
   show ((qg l p k).set k _).getD j false = _
   rw [List.getD_eq_getElem?_getD]
   by_cases h : k = j
   ·subst h
    rw [List.getElem?_set_self (by omega), if_pos (by omega)]
    rfl
   rw [List.getElem?_set_ne h, ← List.getD_eq_getElem?_getD, ih]
   by_cases h2 : j < k
   ·rw [if_pos h2, if_pos (by omega)]
   rw [if_neg h2, if_neg (by omega)]
theorem PLt.irrefl {x : Pfx} : ¬ PLt x x := by
 rintro (h | ⟨_, ⟨a, b⟩ | ⟨_, h⟩⟩)
 ·exact List.lt_irrefl _ h
 ·rw [a] at b; cases b
 omega
theorem jn7 {p : List Pfx} (hp : p.Pairwise Ahead) {i j : Nat} (hi : i < p.length) (hj : j < p.length) (h : p[i] = p[j]) : i = j := by
 have hA := List.pairwise_iff_getElem.1 hp
 rcases Nat.lt_trichotomy i j with h1 | h1 | h1
 ·have := (hA i j hi hj h1).1; rw [h] at this; exact absurd this PLt.irrefl
 ·exact h1
 have := (hA j i hj hi h1).1; rw [h] at this; exact absurd this PLt.irrefl
def jdj (l : List Ent) (p : List Pfx) (k : Nat) (x : Pfx) : Prop := ∃ j, ∃ h : j < p.length, p[j] = x ∧ (qg l p k).getD j false = false
theorem jkm : ∀ (E : List Int) (t a : Int), a ∈ E → a ≤ t → ∃ e ∈ E, e ≤ t ∧ ∀ x ∈ E, ¬ (e < x ∧ x ≤ t)
 | [], _, _, h, _ => by simp at h
 | y :: E, t, a, h, ha => by
   by_cases hE : ∃ b ∈ E, b ≤ t
   ·obtain ⟨b, hb, hbt⟩ := hE
    obtain ⟨e, he, het, hn⟩ := jkm E t b hb hbt
    by_cases hy : e < y ∧ y ≤ t
    ·refine ⟨y, by simp, hy.2, fun x hx hh => ?_⟩
     rcases List.mem_cons.1 hx with rfl | hx
     ·omega
     exact hn x hx ⟨by omega, hh.2⟩
    refine ⟨e, List.mem_cons_of_mem _ he, het, fun x hx hh => ?_⟩
    rcases List.mem_cons.1 hx with rfl | hx
    ·exact hy hh
    exact hn x hx hh
   refine ⟨y, by simp, ?_, fun x hx hh => ?_⟩
   ·rcases List.mem_cons.1 h with rfl | h
    ·exact ha
    exact absurd ⟨a, h, ha⟩ hE
   rcases List.mem_cons.1 hx with rfl | hx
   ·omega
   exact hE ⟨x, hx, hh.2⟩
theorem jkx {l : List Ent} {p : List Pfx} (hR : TabRight l p) {S : Pfx → Prop} (hS : ∀ x, S x → x ∈ p) {place : ByteArray} {a z e t : Int} (hae : a ≤ e) (het : e ≤ t) (htz : t < z)
 (hn : ∀ x ∈ jqq l p (xj p place (min 4 place.size)) a z, ¬ (e < x ∧ x ≤ t)) (x : Pfx) : jqs l S place e x ↔ jqs l S place t x := by
 have hc : ∀ x, S x → x.whole = false → Lib.hasPrefix place.data.toList x.beg.data.toList = true → jgo l x e = jgo l x t := fun x h1 h2 h3 => by
  obtain ⟨j, hj, rfl⟩ := List.mem_iff_getElem.1 (hS x h1)
  exact jns (juu hj h2 (hR.size _ (List.getElem_mem hj) h2) h3) hj hae het htz hn
 constructor
 ·rintro ⟨h1, h2, h3, h4⟩
  exact ⟨h1, h2, by rw [← hc x h1 h2 h4]; exact h3, h4⟩
 rintro ⟨h1, h2, h3, h4⟩
 exact ⟨h1, h2, by rw [hc x h1 h2 h4]; exact h3, h4⟩
theorem jde {l : List Ent} {S S' : Pfx → Prop} {place : ByteArray} {t : Int} {x : Pfx} (h : S x ↔ S' x) : jqs l S place t x ↔ jqs l S' place t x := ⟨fun ⟨h1, h2⟩ => ⟨h.1 h1, h2⟩, fun ⟨h1, h2⟩ => ⟨h.2 h1, h2⟩⟩
theorem LeadX.of {l : List Ent} {S S' : Pfx → Prop} {place place' : ByteArray} {t t' : Int} {x : Pfx} (h : LeadX l S place t x) (hc : ∀ y, jqs l S place t y ↔ jqs l S' place' t' y) : LeadX l S' place' t' x :=
 ⟨(hc x).1 h.1, fun y hy => h.2 y ((hc y).2 hy)⟩
theorem LeadF.of {l : List Ent} {S S' : Pfx → Prop} {place place' : ByteArray} {t t' : Int} {o : Option Fnd} (h : LeadF l S place t o) (hc : ∀ y, jqs l S place t y ↔ jqs l S' place' t' y) : LeadF l S' place' t' o := by
 rcases h with ⟨rfl, h⟩ | ⟨x, rfl, hx⟩
 ·exact .inl ⟨rfl, fun y hy => h y ((hc y).2 hy)⟩
 exact .inr ⟨x, rfl, hx.of hc⟩
theorem jo5 {l : List Ent} {p : List Pfx} (hR : TabRight l p) {t : Int} {place : ByteArray} {but : Nat → Bool} {x : Pfx} (h : jd8 l p (jbq l p t place but) x = true) :
 ∃ y, LeadX l (fun x => ∃ j, ∃ h : j < p.length, p[j] = x ∧ but j = false) place t y ∧ jcd l y = jcd l x := by
 unfold jd8 at h
 rw [Bool.and_eq_true, decide_eq_true_eq] at h
 rcases jkh l p t place but hR.size with ⟨h1, _⟩ | ⟨i, hi, h1, _, h2⟩
 ·omega
 rw [h1] at h
 refine ⟨p[i], h2, ?_⟩
 have h3 := h.2
 rw [Int.toNat_natCast, List.getElem?_eq_getElem hi] at h3
 simpa using h3
theorem butB_iff {i : Nat} {gone : List Bool} {j : Nat} : zd (i : Int) gone j = false ↔ j ≠ i ∧ gone.getD j false = false := by
 unfold zd
 rw [Bool.or_eq_false_iff, decide_eq_false_iff_not]
 constructor
 ·rintro ⟨h1, h2⟩; exact ⟨by omega, h2⟩
 rintro ⟨h1, h2⟩; exact ⟨by omega, h2⟩
theorem jp0 {l : List Ent} {p : List Pfx} (hR : TabRight l p) {k : Nat} (hk : k < p.length) {place : ByteArray} {t : Int} {o : Option Fnd} (h : LeadF l (jdj l p k) place t o) : LeadF l (jdj l p (k + 1)) place t o := by
 have hg := jac l p k (by omega)
 have hg1 := jac l p (k + 1) (by omega)
 have hkk : (qg l p k).getD k false = false := by rw [hg, if_neg (by omega)]
 have hstep : ∀ j, j ≠ k → (qg l p (k + 1)).getD j false = (qg l p k).getD j false := fun j hj => by
  rw [hg, hg1]
  by_cases h2 : j < k
  ·rw [if_pos h2, if_pos (by omega)]
  rw [if_neg h2, if_neg (by omega)]
 cases ht : jog l p (qg l p k) k with
 | false =>
   have hS : ∀ x, jdj l p k x ↔ jdj l p (k + 1) x := fun x => by
    unfold jdj
    have he : ∀ j, (qg l p (k + 1)).getD j false = (qg l p k).getD j false := fun j => by
     by_cases hj : j = k
     ·subst hj; rw [hkk, hg1, if_pos (by omega), ht]
     exact hstep j hj
    simp only [he]
   exact h.of fun y => jde (hS y)
 | true =>
   rw [jh4 hk] at ht
   simp only [Bool.and_eq_true, Bool.not_eq_true'] at ht
   have hS : ∀ x, jdj l p (k + 1) x ↔ jdj l p k x ∧ x ≠ p[k] := fun x => by
    constructor
    ·rintro ⟨j, hj, rfl, h1⟩
     have hjk : j ≠ k := by
      rintro rfl
      rw [hg1, if_pos (by omega), jh4 hk, ht.1, ht.2] at h1
      cases h1
     exact ⟨⟨j, hj, rfl, by rw [← hstep j hjk]; exact h1⟩, fun e => hjk (jn7 hR.ahead hj hk e)⟩
    rintro ⟨⟨j, hj, rfl, h1⟩, h2⟩
    have hjk : j ≠ k := by rintro rfl; exact h2 rfl
    exact ⟨j, hj, rfl, by rw [hstep j hjk]; exact h1⟩
   rcases h with ⟨rfl, h⟩ | ⟨y, rfl, hy⟩
   ·exact .inl ⟨rfl, fun x hx => h x ⟨((hS x).1 hx.1).1, hx.2⟩⟩
   by_cases hyk : y = p[k]
   ·subst hyk
    have hin := jnu hy.1.2.2.1
    have hn := ht.2
    unfold jlm at hn
    rw [Bool.or_eq_true, decide_eq_true_eq] at hn
    rcases hn with hn | hn
    ·omega
    rw [List.all_eq_true] at hn
    obtain ⟨e, he, het, hno⟩ := jkm _ t (tmA l p[k]) ((je5 l p (xj p p[k].beg (min 4 p[k].beg.size)) (tmA l p[k]) (tmZ l p[k]) _).2 (.inl rfl)) hin.1
    have hea : tmA l p[k] ≤ e := by
     rcases (je5 _ _ _ _ _ _).1 he with rfl | ⟨_, _, _, h1, _⟩ <;> omega
    obtain ⟨m, hm, hf⟩ := jo5 hR (hn e he)
    have hS2 : ∀ x, (∃ j, ∃ h : j < p.length, p[j] = x ∧ zd (k : Int) (qg l p k) j = false) ↔ jdj l p (k + 1) x := fun x => by
     rw [hS]
     constructor
     ·rintro ⟨j, hj, rfl, h1⟩
      obtain ⟨h2, h3⟩ := butB_iff.1 h1
      exact ⟨⟨j, hj, rfl, h3⟩, fun e => h2 (jn7 hR.ahead hj hk e)⟩
     rintro ⟨⟨j, hj, rfl, h1⟩, h2⟩
     exact ⟨j, hj, rfl, butB_iff.2 ⟨by rintro rfl; exact h2 rfl, h1⟩⟩
    have hm2 : LeadX l (jdj l p (k + 1)) p[k].beg e m := hm.of fun y => jde (hS2 y)
    have hm3 : LeadX l (jdj l p (k + 1)) p[k].beg t m := hm2.of fun y => jkx hR (by rintro x ⟨j, hj, rfl, _⟩; exact List.getElem_mem hj) hea het hin.2.1 hno y
    refine .inr ⟨m, by rw [hf], hm3.of fun y => ?_⟩
    constructor
    ·rintro ⟨h1, h2, h3, h4⟩
     exact ⟨h1, h2, h3, jsh hy.1.2.2.2 h4⟩
    rintro ⟨h1, h2, h3, h4⟩
    exact ⟨h1, h2, h3, jo2 h4 hy.1.2.2.2 (hy.2 y ⟨((hS y).1 h1).1, h2, h3, h4⟩)⟩
   exact .inr ⟨y, rfl, ⟨(hS y).2 ⟨hy.1.1, hyk⟩, hy.1.2⟩, fun z hz => hy.2 z ⟨((hS z).1 hz.1).1, hz.2⟩⟩
theorem jhu {l : List Ent} {p : List Pfx} (hR : TabRight l p) {place : ByteArray} {t : Int} {o : Option Fnd} (h : LeadF l (fun x => x ∈ p) place t o) : ∀ k, k ≤ p.length → LeadF l (jdj l p k) place t o
 | 0, _ => h.of fun y => by
   have : y ∈ p ↔ jdj l p 0 y := by
    rw [List.mem_iff_getElem]
    constructor
    ·rintro ⟨j, hj, rfl⟩
     exact ⟨j, hj, rfl, by rw [jac l p 0 (by omega), if_neg (by omega)]⟩
    rintro ⟨j, hj, rfl, _⟩
    exact ⟨j, hj, rfl⟩
   exact jde this
 | k + 1, hk => jp0 hR (by omega) (jhu hR h k (by omega))
theorem jgd (l : List Ent) (p : List Pfx) : ∀ k, k ≤ p.length → (ye l p k).Sublist (p.take k)
 | 0, _ => by simp [ye]
 | k + 1, hk => by
   have ih := jgd l p k (by omega)
   rw [List.take_succ_eq_append_getElem (by omega)]
   cases ht : jog l p (qg l p k) k with
   | true => rw [jgl (by omega) ht]; exact ih.trans (List.sublist_append_left _ _)
   | false => rw [jin (by omega) ht]; exact ih.append (List.Sublist.refl _)
theorem jlb (l : List Ent) (p : List Pfx) (x : Pfx) : ∀ k, k ≤ p.length → (x ∈ ye l p k ↔ ∃ j, ∃ h : j < p.length, j < k ∧ p[j] = x ∧ jog l p (qg l p j) j = false)
 | 0, _ => by simp [ye]
 | k + 1, hk => by
   have ih := jlb l p x k (by omega)
   cases ht : jog l p (qg l p k) k with
   | true =>
     rw [jgl (by omega) ht, ih]
     constructor
     ·rintro ⟨j, h1, h2, h3⟩; exact ⟨j, h1, by omega, h3⟩
     rintro ⟨j, h1, h2, h3, h4⟩
     refine ⟨j, h1, ?_, h3, h4⟩
     rcases Nat.lt_or_ge j k with h | h
     ·exact h
     obtain rfl : j = k := by omega
     rw [ht] at h4; cases h4
   | false =>
     rw [jin (by omega) ht, List.mem_append, ih]
     constructor
     ·rintro (⟨j, h1, h2, h3⟩ | h)
      ·exact ⟨j, h1, by omega, h3⟩
      exact ⟨k, by omega, by omega, (by have := List.mem_singleton.1 h; exact this.symm), ht⟩
     rintro ⟨j, h1, h2, h3, h4⟩
     rcases Nat.lt_or_ge j k with h | h
     ·exact .inl ⟨j, h1, h, h3, h4⟩
     obtain rfl : j = k := by omega
     exact .inr (by simp [h3])
def jbi (l : List Ent) (p : List Pfx) : List Pfx := ye l p p.length
theorem jkz (l : List Ent) (p : List Pfx) : (jbi l p).Sublist p := by
 have := jgd l p p.length (Nat.le_refl _)
 rwa [List.take_length] at this
theorem jj7 (l : List Ent) (p : List Pfx) (x : Pfx) : x ∈ jbi l p ↔ jdj l p p.length x := by
 unfold jbi jdj
 rw [jlb l p x p.length (Nat.le_refl _)]
 constructor
 ·rintro ⟨j, h1, h2, h3, h4⟩; exact ⟨j, h1, h3, by rw [jac l p p.length (Nat.le_refl _), if_pos h2]; exact h4⟩
 rintro ⟨j, h1, h3, h4⟩
 rw [jac l p p.length (Nat.le_refl _), if_pos h1] at h4
 exact ⟨j, h1, h1, h3, h4⟩
theorem jkt {l : List Ent} {p : List Pfx} (hR : TabRight l p) (t : Int) (q : ByteArray × Nat × Int × ByteArray) (h56 : ¬ (q.2.2.1 = 5 ∨ q.2.2.1 = 6)) : LeadF l (fun x => x ∈ p) (jbn q.1 (q.1.extract 0 (q.2.1 + 1)) (q.1.extract (q.2.1 + 1) q.1.size) q.2.2.2 q.2.2.1) t (jd2 l p t q) := by
 unfold jd2
 rw [if_neg h56, jmr l p t (-1) _ hR.size]
 generalize jbn q.1 (q.1.extract 0 (q.2.1 + 1)) (q.1.extract (q.2.1 + 1) q.1.size) q.2.2.2 q.2.2.1 = place
 have hS : ∀ x, (∃ j, ∃ h : j < p.length, p[j] = x ∧ decide ((j : Int) = -1) = false) ↔ x ∈ p := fun x => by
  rw [List.mem_iff_getElem]
  constructor
  ·rintro ⟨j, h1, h2, _⟩; exact ⟨j, h1, h2⟩
  rintro ⟨j, h1, h2⟩; exact ⟨j, h1, h2, by rw [decide_eq_false_iff_not]; omega⟩
 rcases jkh l p t place (fun j => decide ((j : Int) = -1)) hR.size with ⟨h1, h2⟩ | ⟨i, hi, h1, _, h2⟩
 ·rw [h1, if_pos (by decide)]
  exact .inl ⟨rfl, fun x hx => h2 x ⟨(hS x).2 hx.1, hx.2⟩⟩
 rw [h1, if_neg (by omega), Int.toNat_natCast, List.getElem?_eq_getElem hi]
 exact .inr ⟨p[i], rfl, h2.of fun y => jde (hS y)⟩
theorem jl5 {f : Pfx → Bool} : ∀ {p q : List Pfx}, q.Sublist p → (∀ x ∈ p, f x = true → x ∈ q) → p.Nodup → q.find? f = p.find? f
 | _, _, .slnil, _, _ => rfl
 | _, _, .cons a h, hf, hn => by
   have hn' := List.nodup_cons.1 hn
   have ha : f a = false := by
    cases hc : f a with
    | false => rfl
    | true => exact absurd (h.subset (hf a (by simp) hc)) hn'.1
   rw [List.find?_cons, ha]
   exact jl5 h (fun x hx => hf x (List.mem_cons_of_mem _ hx)) hn'.2
 | _, _, .cons_cons a h, hf, hn => by
   have hn' := List.nodup_cons.1 hn
   rw [List.find?_cons, List.find?_cons]
   cases f a with
   | true => rfl
   | false => exact jl5 h (fun x hx hfx => by
    rcases List.mem_cons.1 (hf x (List.mem_cons_of_mem _ hx) hfx) with rfl | h2
    ·exact absurd hx hn'.1
    ·exact h2) hn'.2
theorem jl0 {p : List Pfx} (hp : p.Pairwise Ahead) : p.Nodup := hp.imp fun {a b} h e => by rw [e] at h; exact PLt.irrefl h.1
theorem jr9 {l : List Ent} {p : List Pfx} (h : yh l p = 0) (s : ByteArray) (t : Int) (q : ByteArray × Nat × Int × ByteArray) : jdl l (jbi l p) s t q = jdl l p s t q := by
 have hR := ja7 h
 have hs := jkz l p
 have hR' := ja7 (joo h hs)
 have hw : jh0 l (jbi l p) s t = jh0 l p s t := by
  unfold jh0
  refine jl5 hs (fun x hx hf => ?_) (jl0 hR.ahead)
  obtain ⟨j, hj, rfl⟩ := List.mem_iff_getElem.1 hx
  unfold jzd at hf
  rw [Bool.and_eq_true] at hf
  refine (jj7 l p _).2 ⟨j, hj, rfl, ?_⟩
  rw [jac l p p.length (Nat.le_refl _), if_pos hj, jh4 hj, hf.1]
  rfl
 unfold jdl
 rw [hw]
 cases jh0 l p s t with
 | some x => rfl
 | none =>
   show jd2 l (jbi l p) t q = jd2 l p t q
   by_cases h56 : q.2.2.1 = 5 ∨ q.2.2.1 = 6
   ·unfold jd2
    rw [if_pos h56, if_pos h56]
   have h1 := jhu hR (jkt hR t q h56) p.length (Nat.le_refl _)
   have h2 := jkt hR' t q h56
   exact LeadF.one hR'.ahead (S := fun x => x ∈ jbi l p) (fun x hx => hx) h2 (h1.of fun y => jde (jj7 l p y).symm)
theorem jys (a b : ByteArray) (c d e f : Int) (w : World) : (binOp .neq 53 (.agg #[.string a, .int .i64 c, .int .i64 e]) (.agg #[.string b, .int .i64 d, .int .i64 f])).run Tryz.prog w = .ok (.bool (!(decide (a = b) && (c == d && e == f)))) w := by
 by_cases h1 : a = b
 ·subst h1
  by_cases h2 : c = d
  ·subst h2
   by_cases h3 : e = f
   ·subst h3
    go_simp
   have h3' : (e == f) = false := by rw [beq_eq_false_iff_ne]; exact h3
   go_simp
  have h2' : (c == d) = false := by rw [beq_eq_false_iff_ne]; exact h2
  go_simp
 have h1' := jj2 h1
 go_simp
theorem jup {α : Type} (f : α → Bool) (E : List α) (k : Nat) (h : k < E.length) : (E.drop k).all f = (f E[k] && (E.drop (k + 1)).all f) := by
 rw [List.drop_eq_getElem_cons h, List.all_cons]
set_option maxRecDepth 100000 in
set_option maxHeartbeats 16000000 in
theorem jmi (base base2 gT bB bW : Nat) (u v : Value) (l : List Ent) (p : List Pfx) (i : Nat) (base4 : Nat) (gv : Value) (gone : List Bool) (w : World) (hT : TabFull base base2 gT bB bW u v l p w) (hR : TabRight l p) (hi : i < p.length) (hgv : BoolsFrom base4 w gv gone) (hgl : gone.length = p.length) :
 Calls Tryz.prog 69 #[.pointer (some ⟨gT, 0, none⟩), .int .i64 i, gv] w fun r w' => r = .returned (.bool (jlm l p gone i p[i])) ∧ w.grownBy w' none := by
 have hO := hR.ok
 have hlen := hO.len
 obtain ⟨Ag, cg, rfl, _, _⟩ := hgv.shape
 obtain ⟨LG, hLG⟩ : ∃ LG, gone.length = LG := ⟨_, rfl⟩
 obtain ⟨PA, cp, hv, _, hPA⟩ := hT.at_.pl.shape
 obtain ⟨gp, rfl, _, hgpl⟩ := hPA (by omega)
 have hat := (show PfxsFrom base w (.slice (some ⟨gp, 0, none⟩) p.length cp) p from hv ▸ hT.at_.pl).at_ i hi
 have cP := hT.at_.cv
 rw [hv] at cP
 have c0 := hat.1
 clear hat hPA
 have hbs := hR.beg _ (List.getElem_mem hi)
 have HT := Lib.hid hT
 have HRT := Lib.hid hR
 have HGV := Lib.hid hgv
 obtain ⟨X, hX⟩ : ∃ X, p[i] = X := ⟨_, rfl⟩
 have HII : Hid (∀ W, w.grownBy W none → Calls Tryz.prog 120 #[.pointer (some ⟨gT, 0, none⟩), .int .i64 i] W fun r w' => r = .returned (.bool (decide (tmZ l X ≤ tmA l X))) ∧ W.grownBy w' none) := fun W hW => by rw [← hX]; exact jss base gT u v l p i W (hT.at_.grown hW) hO hi
 have HTM : Hid (∀ W, w.grownBy W none → Calls Tryz.prog 122 #[.pointer (some ⟨gT, 0, none⟩), .int .i64 i] W fun r w' => r = .returned (.agg #[.int .i64 (tmA l X), .int .i64 (tmZ l X)]) ∧ W.grownBy w' none) := fun W hW => by rw [← hX]; exact jih base gT u v l p i W (hT.at_.grown hW) hO hi
 have HFD : Hid (∀ (n : Nat) (hn : n < p.length) W, w.grownBy W none → Calls Tryz.prog 99 #[.pointer (some ⟨gT, 0, none⟩), .int .i64 n] W fun r w' => r = .returned (.agg #[.string (jcd l p[n]).1, .int .i64 (jcd l p[n]).2.1, .int .i64 (jcd l p[n]).2.2]) ∧ W.grownBy w' none) := fun n hn W hW => jfc base gT u v l p n W (hT.at_.grown hW) hO hn
 have HFI : Hid (∀ W, w.grownBy W none → Calls Tryz.prog 99 #[.pointer (some ⟨gT, 0, none⟩), .int .i64 i] W fun r w' => r = .returned (.agg #[.string (jcd l X).1, .int .i64 (jcd l X).2.1, .int .i64 (jcd l X).2.2]) ∧ W.grownBy w' none) := fun W hW => by rw [← hX]; exact jfc base gT u v l p i W (hT.at_.grown hW) hO hi
 rw [hX] at c0 hbs ⊢
 have HND : Hid (jlm l p gone i X = (decide (tmZ l X ≤ tmA l X) || (jqq l p (xj p X.beg (min 4 X.beg.size)) (tmA l X) (tmZ l X)).all fun t => jd8 l p (jbq l p t X.beg (zd (i : Int) gone)) X)) := rfl
 have hnlen : (xj p X.beg (min 4 X.beg.size)).length ≤ 8000 := Nat.le_trans (jfr p X.beg _) (Nat.mul_le_mul (Nat.min_le_left 4 _) hlen)
 have hnlt : ∀ j ∈ xj p X.beg (min 4 X.beg.size), j < p.length := fun j hj => by obtain ⟨_, _, h, _⟩ := nearL_mem.1 hj; exact h
 have hedl : (jqq l p (xj p X.beg (min 4 X.beg.size)) (tmA l X) (tmZ l X)).length ≤ 100000 := by
  have h1 := Lib.compact_length_le (jb0 (tmA l X :: jlw l p (xj p X.beg (min 4 X.beg.size)) (tmA l X) (tmZ l X)))
  rw [jds, List.length_cons] at h1
  have h2 := je9 l p (tmA l X) (tmZ l X) (xj p X.beg (min 4 X.beg.size))
  have h4 : (jqq l p (xj p X.beg (min 4 X.beg.size)) (tmA l X) (tmZ l X)).length ≤ (jlw l p (xj p X.beg (min 4 X.beg.size)) (tmA l X) (tmZ l X)).length + 1 := h1
  omega
 have HNR : Hid (∀ W, w.grownBy W none → Calls Tryz.prog 124 #[.pointer (some ⟨gT, 0, none⟩), .string X.beg] W fun r w' => ∃ z, r = .returned z ∧ IntsFrom W.heap.size w' z (j2 (xj p X.beg (min 4 X.beg.size))) ∧ W.grownBy w' none) := fun W hW => jvq base base2 gT bB bW u v l p X.beg W (hT.grown hW) hlen (by omega)
 have HED : Hid (∀ W b3 z, w.grownBy W none → IntsFrom b3 W z (j2 (xj p X.beg (min 4 X.beg.size))) → Calls Tryz.prog 123 #[.pointer (some ⟨gT, 0, none⟩), z, .int .i64 (tmA l X), .int .i64 (tmZ l X)] W fun r w' => ∃ y, r = .returned y ∧ IntsFrom W.heap.size w' y (jqq l p (xj p X.beg (min 4 X.beg.size)) (tmA l X) (tmZ l X)) ∧ W.grownBy w' none) := fun W b3 z hW hz => ju0 base b3 gT u v z l p _ _ _ W (hT.at_.grown hW) hO hz hnlt (by omega)
 have HLB : Hid (∀ W gi gg t, w.grownBy W none → W.cell? ⟨gi, 0, none⟩ = some (.int .i64 i) → W.cell? ⟨gg, 0, none⟩ = some (.slice Ag gone.length cg) → Calls Tryz.prog 100 #[.pointer (some ⟨gT, 0, none⟩), .string X.beg, .int .i64 t, .func (.func 121) #[] #[.pointer (some ⟨gi, 0, none⟩), .pointer (some ⟨gg, 0, none⟩)]] W fun r w' => r = .returned (.int .i64 (jbq l p t X.beg (zd i gone))) ∧ W.grownBy w' none) := fun W gi gg t hW h1 h2 => jms base base2 gT bB bW u v l p X.beg t W (hT.grown hW) hO (by omega) base4 gi gg i _ gone h1 h2 (hgv.grown hW) (by omega)
 have HLP : Hid (∀ t, (jbq l p t X.beg (zd i gone) = -1 ∧ jd8 l p (jbq l p t X.beg (zd i gone)) X = false) ∨ ∃ (k : Nat) (h : k < p.length), jbq l p t X.beg (zd i gone) = k ∧ jd8 l p (jbq l p t X.beg (zd i gone)) X = decide (jcd l p[k] = jcd l X)) := fun t => by
  rcases jge l p t X.beg (zd i gone) hR.size with ⟨h1, _⟩ | ⟨k, h1, ⟨hk, _⟩, _⟩
  ·refine .inl ⟨h1, ?_⟩
   unfold jd8
   rw [h1]
   rfl
  refine .inr ⟨k, hk, h1, ?_⟩
  unfold jd8
  rw [h1, Int.toNat_natCast, List.getElem?_eq_getElem hk]
  simp
 generalize jlm l p gone i X = ANS at *
 generalize hFX : jcd l X = FX at *
 obtain ⟨fs, fc, fz⟩ := FX
 generalize tmA l X = TA at *
 generalize tmZ l X = TZ at *
 generalize X.beg = B at *
 generalize hjl : xj p B (min 4 B.size) = JS at *
 generalize jqq l p JS TA TZ = ED at *
 rw [hLG] at HLB HGV ⊢
 have HJL := Lib.hid hjl
 clear hT hgv hR hO hX hFX hjl hnlt hv
 have hB0 := Blk.new w 3 #[.int .i64 i]
 have hG0 := World.grownBy_alloc w (.cells #[.int .i64 i] 3) none
 have hB1 := hB0.alloc (.cells #[.slice Ag LG cg] 132)
 have hB2 := Blk.new (w.alloc (.cells #[.int .i64 i] 3)) 132 #[.slice Ag LG cg]
 have hG1 := jd hG0 (.cells #[.slice Ag LG cg] 132)
 simp only [World.size_alloc] at hB2
 go_enter Tryz.func69, Tryz.ntmps69
 go_upto_region 1 with fail
 generalize (w.alloc (.cells #[.int .i64 i] 3)).alloc (.cells #[.slice Ag LG cg] 132) = w0 at *
 obtain ⟨gi, hgi⟩ : ∃ x, w.heap.size = x := ⟨_, rfl⟩
 rw [hgi] at hB1 hB2 ⊢
 obtain ⟨gg, hgg⟩ : ∃ x, gi + 1 = x := ⟨_, rfl⟩
 rw [hgg] at hB2
 (try rw [hgg])
 have HCI : Hid (∀ V, w0.grownBy V none → V.cell? ⟨gi, 0, none⟩ = some (.int .i64 i) ∧ V.cell? ⟨gg, 0, none⟩ = some (.slice Ag LG cg) ∧ V.cell? ⟨gT, 1, none⟩ = some (.slice (some ⟨gp, 0, none⟩) p.length cp) ∧ V.cell? ⟨gp, i * 6, none⟩ = some (.string B)) := fun V hV =>
  ⟨((hB1.grown hV (by simp)).cell 0).trans rfl, ((hB2.grown hV (by simp)).cell 0).trans rfl, hV.cell (hG1.cell cP (by simp)) (by simp), hV.cell (hG1.cell c0 (by simp)) (by simp)⟩
 have HGI := Lib.hid hgi
 have HGG := Lib.hid hgg
 have c00 := (HCI.out _ (je _ _)).1
 clear hB0 hB1 hB2 hG0 cP c0 hgi hgg
 go_wp2_with fail
 refine (HII.out _ hG1).mono ?_
 rintro _ w1 ⟨rfl, hg1⟩
 have hG2 := ja hG1 hg1
 clear c00
 have c01 := (HCI.out _ hg1).1
 by_cases hid : TZ ≤ TA
 ·have hdi : decide (TZ ≤ TA) = true := decide_eq_true hid
  have HA : Hid (ANS = true) := by show _ = _; rw [HND.out, hdi]; rfl
  clear HND
  go_wp2_with fail
  go_ret
  exact ⟨by rw [HA.out]; rfl, hG2⟩
 have hdi : decide (TZ ≤ TA) = false := decide_eq_false hid
 have HA : Hid (ANS = ED.all fun t => jd8 l p (jbq l p t B (zd i gone)) X) := by show _ = _; rw [HND.out, hdi]; rfl
 clear HND
 go_wp2_with fail
 refine (HTM.out _ hG2).mono ?_
 rintro _ w2 ⟨rfl, hg2⟩
 have hG3 := jd (ja hG2 hg2) (.cells #[.int .i64 TA, .int .i64 TZ] 29)
 have hg3 := jd (ja hg1 hg2) (.cells #[.int .i64 TA, .int .i64 TZ] 29)
 have hX := Blk.new w2 29 #[.int .i64 TA, .int .i64 TZ]
 clear hG2 hg1 hg2
 go_upto_region 5 with fail
 generalize w2.alloc (.cells #[.int .i64 TA, .int .i64 TZ] 29) = w3 at *
 generalize w2.heap.size = gX at *
 have HKX : Hid (∀ V, w3.grownBy V none → V.cell? ⟨gi, 0, none⟩ = some (.int .i64 i) ∧ V.cell? ⟨gT, 1, none⟩ = some (.slice (some ⟨gp, 0, none⟩) p.length cp) ∧ V.cell? ⟨gp, i * 6, none⟩ = some (.string B) ∧ V.cell? ⟨gX, 0, none⟩ = some (.int .i64 TA) ∧ V.cell? ⟨gX, 1, none⟩ = some (.int .i64 TZ) ∧ w3.grownBy V none) := fun V hV => by
  obtain ⟨q0, q1, q2, q3⟩ := HCI.out V (ja hg3 hV)
  exact ⟨q0, q2, q3, ((hX.grown hV (by simp)).cell 0).trans rfl, ((hX.grown hV (by simp)).cell 1).trans rfl, hV⟩
 have hii : (i : Int) < (p.length : Int) := by omega
 have hi0 : (0 : Int) ≤ (i : Int) := by omega
 clear hX
 refine wp_region_held_drew (S := fun V => V.cell? ⟨gi, 0, none⟩ = some (.int .i64 i) ∧ V.cell? ⟨gT, 1, none⟩ = some (.slice (some ⟨gp, 0, none⟩) p.length cp) ∧ V.cell? ⟨gp, i * 6, none⟩ = some (.string B) ∧ V.cell? ⟨gX, 0, none⟩ = some (.int .i64 TA) ∧ V.cell? ⟨gX, 1, none⟩ = some (.int .i64 TZ) ∧ w3.grownBy V none) (by kernel_rfl) (HKX.out _ (jk (je _ _))) (fun hHeld => ?_)
 refine tkH 0 19 hHeld ?_
 simp only [Act.put, ssA, ssZ, ssS]
 refine tkH 1 20 hHeld ?_
 simp only [Act.put, ssA, ssZ, ssS]
 refine tkH 2 21 hHeld ?_
 simp only [Act.put, ssA, ssZ, ssS]
 refine tkH 3 22 hHeld ?_
 simp only [Act.put, ssA, ssZ, ssS]
 refine tkH 4 23 hHeld ?_
 simp only [Act.put, ssA, ssZ, ssS]
 refine tkH 5 24 hHeld ?_
 simp only [Act.put, ssA, ssZ, ssS]
 refine tkH 6 25 hHeld ?_
 simp only [Act.put, ssA, ssZ, ssS]
 refine tkH 7 26 hHeld ?_
 simp only [Act.put, ssA, ssZ, ssS]
 refine tkH 8 27 hHeld ?_
 simp only [Act.put, ssA, ssZ, ssS]
 refine tkH 9 28 hHeld ?_
 simp only [Act.put, ssA, ssZ, ssS]
 refine tkH 11 30 hHeld ?_
 simp only [Act.put, ssA, ssZ, ssS]
 refine tkH 12 31 hHeld ?_
 simp only [Act.put, ssA, ssZ, ssS]
 refine tkH 13 32 hHeld ?_
 simp only [Act.put, ssA, ssZ, ssS]
 refine tkH 14 33 hHeld ?_
 simp only [Act.put, ssA, ssZ, ssS]
 refine tkH 17 36 hHeld ?_
 simp only [Act.put, ssA, ssZ, ssS]
 refine wpAnyH_ready (rs := [10]) (by kernel_rfl) (by simp) ?_
 refine AllReadyH.cons (o := _) rfl (fun K hK => ?_) AllReadyH.nil
 go_simp
 (go_at_call 124; refine (HNR.out _ (ja hG3 (jk (je _ _)))).mono ?_; rintro _ wa ⟨z, rfl, hz, hga⟩; have hg4 : w3.grownBy wa none := ja (jk (je w3 none)) hga)
 refine hK.out _ _ (HKX.out _ hg4) (fun hHeld10 => ?_)
 clear hK K
 (try simp only [Act.put, ssA, ssZ, ssS])
 refine wpAnyH_ready (rs := [15]) (by kernel_rfl) (by simp) ?_
 refine AllReadyH.cons (o := _) rfl (fun K hK => ?_) AllReadyH.nil
 go_simp
 (go_at_call 123; refine (HED.out _ _ _ (ja hG3 hg4) hz).mono ?_; rintro _ wb ⟨y, rfl, hy, hgb⟩; have hg5 := ja hg4 hgb; obtain ⟨Ae, ce, rfl, hel, hEA⟩ := hy.shape)
 refine hK.out _ _ (HKX.out _ hg5) (fun hHeld15 => ?_)
 clear hK K
 (try simp only [Act.put, ssA, ssZ, ssS])
 refine tkH 16 35 hHeld15 ?_
 simp only [Act.put, ssA, ssZ, ssS]
 refine wpAnyH_done (by kernel_rfl) ?_ _
 have hG5 := ja hG3 hg5
 have HEA := Lib.hid hEA
 have HEY := Lib.hid hy
 have hg35 := ja hg3 hg5
 clear hz hga hg4 hgb hEA hy
 go_wp2_with fail
 go_loopw [36] (fun kv wr => ∃ k : Nat, k ≤ ED.length ∧ kv = .int .i64 k ∧ Hid (ANS = (ED.drop k).all fun t => jd8 l p (jbq l p t B (zd i gone)) X) ∧ wb.grownBy wr none) (fun kv _ => ED.length - (intOf kv).toNat)
 case atStart => exact ⟨0, by omega, rfl, HA.out, je _ _⟩
 case round =>
  obtain ⟨k, hk, rfl, HN, hgr⟩ := hrel
  by_cases hlt : k < ED.length
  ·have hki : (k : Int) < (ED.length : Int) := by omega
   obtain ⟨ge, rfl, _, hgel⟩ := HEA.out (by omega)
   have hat := IntsFrom.at_ (HEY.out.grown hgr) k hlt
   have hst : ANS = (jd8 l p (jbq l p ED[k] B (zd i gone)) X && (ED.drop (k + 1)).all fun t => jd8 l p (jbq l p t B (zd i gone)) X) := by
    have h := HN.out
    rwa [jup _ ED k hlt] at h
   have hlp := HLP.out ED[k]
   have HLBT : Hid (∀ W, wr.grownBy W none → Calls Tryz.prog 100 #[.pointer (some ⟨gT, 0, none⟩), .string B, .int .i64 ED[k], .func (.func 121) #[] #[.pointer (some ⟨gi, 0, none⟩), .pointer (some ⟨gg, 0, none⟩)]] W fun r w' => r = .returned (.int .i64 (jbq l p ED[k] B (zd i gone))) ∧ W.grownBy w' none) := fun W hW => by
    have hh := HCI.out W (ja hg35 (ja hgr hW))
    exact HLB.out W gi gg _ (ja hG5 (ja hgr hW)) hh.1 hh.2.1
   generalize ED[k] = T at *
   generalize jbq l p T B (zd i gone) = KK at *
   have HST := Lib.hid hst
   have HLPK := Lib.hid hlp
   have HKR : Hid (∀ V, wr.grownBy V none → V.cell? ⟨gi, 0, none⟩ = some (.int .i64 i) ∧ V.cell? ⟨gT, 1, none⟩ = some (.slice (some ⟨gp, 0, none⟩) p.length cp) ∧ V.cell? ⟨gp, i * 6, none⟩ = some (.string B) ∧ wr.grownBy V none) := fun V hV => by
    obtain ⟨q0, q1, q2, q3⟩ := HCI.out V (ja hg35 (ja hgr hV))
    exact ⟨q0, q2, q3, hV⟩
   clear hst hlp
   go_upto_region 8 with fail
   refine wp_region_held_drew (S := fun V => V.cell? ⟨gi, 0, none⟩ = some (.int .i64 i) ∧ V.cell? ⟨gT, 1, none⟩ = some (.slice (some ⟨gp, 0, none⟩) p.length cp) ∧ V.cell? ⟨gp, i * 6, none⟩ = some (.string B) ∧ wr.grownBy V none) (by kernel_rfl) (HKR.out _ (jk (je _ _))) (fun hHeld => ?_)
   refine tkH 0 40 hHeld ?_
   simp only [Act.put, ssA, ssZ, ssS]
   refine tkH 1 41 hHeld ?_
   simp only [Act.put, ssA, ssZ, ssS]
   refine tkH 2 42 hHeld ?_
   simp only [Act.put, ssA, ssZ, ssS]
   refine tkH 3 43 hHeld ?_
   simp only [Act.put, ssA, ssZ, ssS]
   refine tkH 4 44 hHeld ?_
   simp only [Act.put, ssA, ssZ, ssS]
   refine tkH 5 45 hHeld ?_
   simp only [Act.put, ssA, ssZ, ssS]
   refine tkH 6 46 hHeld ?_
   simp only [Act.put, ssA, ssZ, ssS]
   refine tkH 7 47 hHeld ?_
   simp only [Act.put, ssA, ssZ, ssS]
   refine tkH 8 48 hHeld ?_
   simp only [Act.put, ssA, ssZ, ssS]
   refine tkH 9 49 hHeld ?_
   simp only [Act.put, ssA, ssZ, ssS]
   refine tkH 10 50 hHeld ?_
   simp only [Act.put, ssA, ssZ, ssS]
   refine wpAnyH_ready (rs := [11]) (by kernel_rfl) (by simp) ?_
   refine AllReadyH.cons (o := _) rfl (fun K hK => ?_) AllReadyH.nil
   go_simp
   (go_at_call 100; refine (HLBT.out _ (jk (je _ _))).mono ?_; rintro _ wc ⟨rfl, hgc⟩; have hgrc : wr.grownBy wc none := ja (jk (je wr none)) hgc)
   refine hK.out _ _ (HKR.out _ hgrc) (fun hHeld11 => ?_)
   clear hK K
   (try simp only [Act.put, ssA, ssZ, ssS])
   refine tkH 12 11 hHeld11 ?_
   simp only [Act.put, ssA, ssZ, ssS]
   refine wpAnyH_done (by kernel_rfl) ?_ _
   clear hat hgc
   go_upto_region 9 with fail
   rcases HLPK.out with ⟨rfl, hs⟩ | ⟨K, hK, rfl, hs⟩
   ·have HANS : Hid (ANS = false) := by show _ = _; rw [HST.out, hs]; rfl
    clear hs
    refine wp_region_held_drew (S := fun _ => True) (by kernel_rfl) trivial (fun hHeld => ?_)
    refine tkH 0 52 hHeld ?_
    simp only [Act.put, ssA, ssZ, ssS]
    refine tkH 1 53 hHeld ?_
    simp only [Act.put, ssA, ssZ, ssS]
    refine tkH 2 54 hHeld ?_
    simp only [Act.put, ssA, ssZ, ssS]
    refine tkU 3 55 hHeld ?_
    simp only [Act.put, ssA, ssZ, ssS]
    refine tkU 4 56 hHeld ?_
    simp only [Act.put, ssA, ssZ, ssS]
    refine tkU 5 57 hHeld ?_
    simp only [Act.put, ssA, ssZ, ssS]
    refine tkU 6 58 hHeld ?_
    simp only [Act.put, ssA, ssZ, ssS]
    refine tkU 7 59 hHeld ?_
    simp only [Act.put, ssA, ssZ, ssS]
    refine tkU 8 60 hHeld ?_
    simp only [Act.put, ssA, ssZ, ssS]
    refine tkU 9 61 hHeld ?_
    simp only [Act.put, ssA, ssZ, ssS]
    refine tkH 10 62 hHeld ?_
    simp only [Act.put, ssA, ssZ, ssS]
    refine wpAnyH_done (by kernel_rfl) ?_ _
    go_wp2_with fail
    go_ret
    exact ⟨by rw [HANS.out]; rfl, ja (ja hG5 hgr) (jk hgrc)⟩
   have hK0 : decide ((K : Int) < 0) = false := by rw [decide_eq_false_iff_not]; omega
   have hK1 : ¬ (K : Int) < 0 := by omega
   have HFK := Lib.hid (HFD.out K hK)
   obtain ⟨FY, hFY⟩ : ∃ FY, jcd l p[K] = FY := ⟨_, rfl⟩
   rw [hFY] at hs HFK
   obtain ⟨ys, yc, yz⟩ := FY
   obtain ⟨EQ, hEQ⟩ : ∃ EQ, (decide (ys = fs) && (yc == fc && yz == fz)) = EQ := ⟨_, rfl⟩
   have hsE : decide ((ys, yc, yz) = (fs, fc, fz)) = EQ := by
    rw [← hEQ]
    simp only [Prod.mk.injEq, Bool.decide_and]
    rfl
   rw [hsE] at hs
   have HS := Lib.hid hs
   have HNQ : Hid (∀ W, (binOp .neq 53 (.agg #[.string ys, .int .i64 yc, .int .i64 yz]) (.agg #[.string fs, .int .i64 fc, .int .i64 fz])).run Tryz.prog W = .ok (.bool (!EQ)) W) := fun W => by rw [jys, hEQ]
   have HGC : Hid (∀ V, wc.grownBy V none → w.grownBy V none) := fun V hV => ja (ja hG5 hgr) (ja hgrc hV)
   have HKC : Hid (∀ V, wc.grownBy V none → V.cell? ⟨gi, 0, none⟩ = some (.int .i64 i) ∧ wc.grownBy V none) := fun V hV => ⟨(HKR.out V (ja hgrc hV)).1, hV⟩
   clear hs hsE hEQ hFY
   have hneq := HNQ.out
   refine wp_region_held_drew (S := fun V => V.cell? ⟨gi, 0, none⟩ = some (.int .i64 i) ∧ wc.grownBy V none) (by kernel_rfl) (HKC.out _ (jk (je _ _))) (fun hHeld => ?_)
   refine tkH 0 52 hHeld ?_
   simp only [Act.put, ssA, ssZ, ssS]
   refine tkH 1 53 hHeld ?_
   simp only [Act.put, ssA, ssZ, ssS]
   refine tkH 2 54 hHeld ?_
   simp only [Act.put, ssA, ssZ, ssS]
   refine tkH 3 55 hHeld ?_
   simp only [Act.put, ssA, ssZ, ssS]
   refine tkH 4 56 hHeld ?_
   simp only [Act.put, ssA, ssZ, ssS]
   refine tkH 6 58 hHeld ?_
   simp only [Act.put, ssA, ssZ, ssS]
   refine tkH 7 59 hHeld ?_
   simp only [Act.put, ssA, ssZ, ssS]
   refine wpAnyH_ready (rs := [5]) (by kernel_rfl) (by simp) ?_
   refine AllReadyH.cons (o := _) rfl (fun K hK => ?_) AllReadyH.nil
   go_simp
   (go_at_call 99; refine (HFK.out _ (HGC.out _ (jk (je _ _)))).mono ?_; rintro _ wd ⟨rfl, hgd⟩; have hgcd : wc.grownBy wd none := ja (jk (je wc none)) hgd)
   refine hK.out _ _ (HKC.out _ hgcd) (fun hHeld5 => ?_)
   clear hK K
   (try simp only [Act.put, ssA, ssZ, ssS])
   refine wpAnyH_ready (rs := [8]) (by kernel_rfl) (by simp) ?_
   refine AllReadyH.cons (o := _) rfl (fun K hK => ?_) AllReadyH.nil
   go_simp
   (go_at_call 99; refine (HFI.out _ (HGC.out _ hgcd)).mono ?_; rintro _ we ⟨rfl, hge⟩; have hgce : wc.grownBy we none := ja hgcd hge)
   refine hK.out _ _ (HKC.out _ hgce) (fun hHeld8 => ?_)
   clear hK K
   (try simp only [Act.put, ssA, ssZ, ssS])
   refine tkH 9 61 hHeld8 ?_
   simp only [Act.put, ssA, ssZ, ssS]
   refine tkH 10 62 hHeld8 ?_
   simp only [Act.put, ssA, ssZ, ssS]
   refine wpAnyH_done (by kernel_rfl) ?_ _
   have hgrE := ja hgr (ja hgrc hgce)
   cases EQ
   ·have HANS : Hid (ANS = false) := by show _ = _; rw [HST.out, HS.out]; rfl
    go_wp2_with fail
    go_ret
    exact ⟨by rw [HANS.out]; rfl, ja hG5 hgrE⟩
   have HNEW : Hid (ANS = (ED.drop (k + 1)).all fun t => jd8 l p (jbq l p t B (zd i gone)) X) := by show _ = _; rw [HST.out, HS.out, Bool.true_and]
   go_wp2_with fail
   go_roundw
   case rel => exact ⟨k + 1, by omega, by go_num, HNEW, hgrE⟩
   case measure => simp [intOf]; omega
  have hkl : ¬ (k : Int) < (ED.length : Int) := by omega
  have HANS : Hid (ANS = true) := by show _ = _; rw [HN.out, List.drop_eq_nil_of_le (by omega)]; rfl
  go_wp2_with fail
  go_ret
  exact ⟨by rw [HANS.out]; rfl, ja hG5 hgr⟩
end Go.Proofs.YtbamhgaghngjiaaGreatDoor
