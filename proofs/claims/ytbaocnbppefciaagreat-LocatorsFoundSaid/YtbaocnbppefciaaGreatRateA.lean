/- Plain law of times: their errors, how many are in a window: no program in sight. No condition. The walks over the errors of times and windows, over how many moments are before one or in a window, in package rate and in the reference. Condition: times that are counted by search are sorted. The walks over how many moments are before one and in a window, in package rate (by search) and in the reference (by counting). Condition: times that are searched are sorted. The walks over fractions in lowest terms, the last milliseconds before a moment, and the bad case of each exported function of package rate that begins with CheckTimes. Condition: numbers within their ranges. The walks over rate.In, rate.Rate and their twins in the reference. Condition: the window's end is no number beyond 2^60; else times without error where the name says ok. -/
import Derived.Test.YtbaocnbppefciaaGreatFaults
import Derived.Test.YtbaocnbppefciaaGreatInts
import Derived.Test.YtbaocnbppefciaaGreatShelf
import Derived.Deep.RegionHeld3
namespace Go.Proofs.YtbaocnbppefciaaGreat
set_option linter.unusedVariables false

/-- The first of two errors. -/
def orE (t e : Int) : Int := if t = 0 then e else t
theorem orE_ne {t e : Int} (h : t ≠ 0) : orE t e = t := by unfold orE; rw [if_neg h]
theorem orE_z {t e : Int} (h : t = 0) : orE t e = e := by unfold orE; rw [if_pos h]
theorem orE_0' {t e : Int} (h : orE t e = 0) : t = 0 ∧ e = 0 := by
  by_cases ht : t = 0
  · rw [orE_z ht] at h; exact ⟨ht, h⟩
  · rw [orE_ne ht] at h; exact absurd h ht
def hasB (a zt x : Int) : Bool := decide (a ≤ x ∧ x < zt)
def timeB (a zt : Int) : Bool := decide (0 ≤ a ∧ a < zt ∧ zt ≤ 345686400000)
def timeE (a zt : Int) : Int := if timeB a zt then 0 else 1
def scanT (a zt : Int) : Option Int → List Int → Int
  | _, [] => 0
  | p, x :: r => if hasB a zt x = false then 1 else if p.any (fun y => decide (x < y)) then 7 else scanT a zt (some x) r
def timesE (l : List Int) (a zt : Int) : Int := if timeB a zt = false then 1 else if 2000 < l.length then 2 else scanT a zt none l

theorem scanT_ok (a zt : Int) : ∀ (p : Option Int) (l : List Int), scanT a zt p l = 0 → l.Pairwise (· ≤ ·) ∧ (∀ x ∈ l, a ≤ x ∧ x < zt) ∧ ∀ y, p = some y → ∀ x ∈ l, y ≤ x
  | p, [], _ => ⟨List.Pairwise.nil, by simp, by simp⟩
  | p, x :: r, h => by
    unfold scanT at h
    split at h
    · omega
    · split at h
      · omega
      · rename_i h1 h2
        have ih := scanT_ok a zt (some x) r h
        have hx : a ≤ x ∧ x < zt := by simpa [hasB] using h1
        refine ⟨List.pairwise_cons.2 ⟨fun y hy => ih.2.2 x rfl y hy, ih.1⟩, ?_, ?_⟩
        · intro y hy
          rcases List.mem_cons.1 hy with rfl | hy
          · exact hx
          · exact ih.2.1 y hy
        · intro y hy z hz
          subst hy
          have hyx : y ≤ x := by simpa using h2
          rcases List.mem_cons.1 hz with rfl | hz
          · exact hyx
          · exact Int.le_trans hyx (ih.2.2 x rfl z hz)
theorem scanT_bd (a zt : Int) : ∀ (p : Option Int) (l : List Int), 0 ≤ scanT a zt p l ∧ scanT a zt p l ≤ 7
  | p, [] => by simp [scanT]
  | p, x :: r => by
    unfold scanT
    split
    · omega
    · split
      · omega
      · exact scanT_bd a zt (some x) r
/-- What is known of times without error. -/
structure TimesOk (l : List Int) (a zt : Int) : Prop where
  a0 : 0 ≤ a
  ato : a < zt
  to_ : zt ≤ 345686400000
  len : l.length ≤ 2000
  sorted : l.Pairwise (· ≤ ·)
  mem : ∀ x ∈ l, a ≤ x ∧ x < zt
theorem timesE_ok {l : List Int} {a zt : Int} (h : timesE l a zt = 0) : TimesOk l a zt := by
  unfold timesE at h
  split at h
  · omega
  · split at h
    · omega
    · rename_i h1 h2
      have h3 : 0 ≤ a ∧ a < zt ∧ zt ≤ 345686400000 := by simpa [timeB] using h1
      have := scanT_ok a zt none l h
      exact ⟨h3.1, h3.2.1, h3.2.2, by omega, this.1, this.2.1⟩
theorem timesE_bd (l : List Int) (a zt : Int) : 0 ≤ timesE l a zt ∧ timesE l a zt ≤ 7 := by
  unfold timesE
  split
  · omega
  · split
    · omega
    · exact scanT_bd _ _ _ _

def cntLt (l : List Int) (x : Int) : Int := (l.countP (fun y => decide (y < x)) : Nat)
def manyI (l : List Int) (a zt : Int) : Int := (l.countP (fun x => hasB a zt x) : Nat)
def inI (l : List Int) (a zt : Int) : Int := max 0 (cntLt l zt - cntLt l a)
theorem cntLt_bd (l : List Int) (x : Int) : 0 ≤ cntLt l x ∧ cntLt l x ≤ l.length := by
  unfold cntLt
  have := List.countP_le_length (p := fun y => decide (y < x)) (l := l)
  omega
theorem manyI_bd (l : List Int) (a zt : Int) : 0 ≤ manyI l a zt ∧ manyI l a zt ≤ l.length := by
  unfold manyI
  have := List.countP_le_length (p := fun x => hasB a zt x) (l := l)
  omega
theorem cnt_diff (l : List Int) (a zt : Int) (h : a ≤ zt) : cntLt l zt - cntLt l a = manyI l a zt := by
  unfold cntLt manyI
  induction l with
  | nil => rfl
  | cons x r ih =>
    simp only [List.countP_cons, hasB, decide_eq_true_eq] at ih ⊢
    by_cases h1 : x < zt <;> by_cases h2 : x < a <;> by_cases h3 : a ≤ x <;> simp [h1, h2, h3] at ih ⊢ <;> omega
theorem cnt_mono (l : List Int) (a zt : Int) (h : zt ≤ a) : cntLt l zt ≤ cntLt l a := by
  unfold cntLt
  have := List.countP_mono_left (l := l) (p := fun y => decide (y < zt)) (q := fun y => decide (y < a)) (fun x _ hx => by simp at hx ⊢; omega)
  omega
theorem cnt_none (l : List Int) (a zt : Int) (h : zt < a) : manyI l a zt = 0 ∧ cntLt l zt ≤ cntLt l a := by
  refine ⟨?_, cnt_mono l a zt (by omega)⟩
  unfold manyI
  have : l.countP (fun x => hasB a zt x) = 0 := List.countP_eq_zero.2 (fun x _ => by unfold hasB; simp; omega)
  omega
theorem inI_many (l : List Int) (a zt : Int) : inI l a zt = manyI l a zt := by
  unfold inI
  have hb := manyI_bd l a zt
  by_cases h : a ≤ zt
  · rw [cnt_diff l a zt h]; omega
  · have := cnt_none l a zt (by omega); omega

/-- The best stretch: the first of those with the most. -/
def bestStep (l : List Int) (long : Int) (st : Int × Int) (x : Int) : Int × Int := if st.2 < manyI l x (x + long) then (x, manyI l x (x + long)) else st
def bestI (l : List Int) (a long : Int) : Int × Int := l.foldl (bestStep l long) (a, manyI l a (a + long))

/-- The longest gap. -/
def gapStep (st : (Int × Int) × Int) (x : Int) : (Int × Int) × Int := (if st.1.2 - st.1.1 < x - st.2 then (st.2, x) else st.1, x)
def gapI (l : List Int) (a zt : Int) : Int × Int := ((l ++ [zt]).foldl gapStep ((a, a), a)).1
/-- The gaps, the next one begun so much behind. -/
def gapsL (begun : Int) : Int → List Int → List (Int × Int)
  | _, [] => []
  | f, x :: r => (f, x) :: gapsL begun (x + begun) r
def gapPick (st : Int × Int) (g : Int × Int) : Int × Int := if st.2 - st.1 < g.2 - g.1 then g else st
theorem gapsL_fold : ∀ (l : List Int) (f : Int) (b : Int × Int), (l.foldl gapStep (b, f)).1 = (gapsL 0 f l).foldl gapPick b
  | [], _, _ => rfl
  | x :: r, f, b => by
    have ih := gapsL_fold r x (if b.2 - b.1 < x - f then (f, x) else b)
    simp only [List.foldl_cons, gapsL, Int.add_zero]
    exact ih
/-- The reference begins with the first gap. -/
theorem gapI_first (l : List Int) (a zt : Int) (h : ∀ x ∈ l ++ [zt], a ≤ x) : gapI l a zt = (match gapsL 0 a (l ++ [zt]) with | [] => (0, 0) | g :: r => r.foldl gapPick g) := by
  unfold gapI
  rw [gapsL_fold]
  cases hl : l ++ [zt] with
  | nil => simp at hl
  | cons x r =>
    have hx : a ≤ x := h x (by rw [hl]; simp)
    simp only [gapsL, List.foldl_cons, Int.add_zero]
    congr 1
    unfold gapPick
    by_cases h0 : a - a < x - a
    · rw [if_pos h0]
    · have : x = a := by omega
      subst this; simp

/-- Hours. -/
def hoursI (a zt : Int) : Int := (zt - a + 3600000 - 1) / 3600000
def hourL (l : List Int) (zt : Int) : Nat → Int → List Int
  | 0, _ => []
  | n + 1, f => manyI l f (min (f + 3600000) zt) :: hourL l zt n (f + 3600000)
def hourAll (l : List Int) (a zt : Int) : List Int := hourL l zt (hoursI a zt).toNat a

/-- Euclid. -/
def gcdN (a b : Int) : Int := (Nat.gcd a.toNat b.toNat : Nat)
end Go.Proofs.YtbaocnbppefciaaGreat

namespace Go.Proofs.YtbaocnbppefciaaGreat
open Go.RowKit
set_option linter.unusedVariables false

theorem timeB_yes {a zt : Int} (h : 0 ≤ a ∧ a < zt ∧ zt ≤ 345686400000) : timeB a zt = true := by unfold timeB; simpa using h
theorem timeB_no {a zt : Int} (h : ¬ (0 ≤ a ∧ a < zt ∧ zt ≤ 345686400000)) : timeB a zt = false := by unfold timeB; simpa using h

theorem hasB_of {a zt x : Int} (h : a ≤ x) : hasB a zt x = decide (x < zt) := by unfold hasB; simp [h]
theorem hasB_no {a zt x : Int} (h : ¬ a ≤ x) : hasB a zt x = false := by unfold hasB; simp [h]

def truthI (b : Bool) : Int := if b then 1 else 0
/-- The element before place k. -/
def prevI (l : List Int) (k : Nat) : Option Int := if k = 0 then none else l[k - 1]?
theorem prevI_succ (l : List Int) (k : Nat) (h : k < l.length) : prevI l (k + 1) = some l[k] := by unfold prevI; simp [h]
theorem prevI_pos (l : List Int) (k : Nat) (h0 : 0 < k) (h : k < l.length) : prevI l k = some (l[k - 1]'(by omega)) := by
  unfold prevI; rw [if_neg (by omega)]; exact List.getElem?_eq_getElem (by omega)
theorem scanT_bad {a zt x : Int} {p : Option Int} {r : List Int} (h : hasB a zt x = false) : scanT a zt p (x :: r) = 1 := by simp [scanT, h]
theorem scanT_order {a zt x y : Int} {r : List Int} (h : hasB a zt x = true) (hxy : x < y) : scanT a zt (some y) (x :: r) = 7 := by simp [scanT, h, hxy]
theorem scanT_next {a zt x : Int} {p : Option Int} {r : List Int} (h : hasB a zt x = true) (hp : ∀ y, p = some y → ¬ x < y) : scanT a zt p (x :: r) = scanT a zt (some x) r := by
  cases p with
  | none => simp [scanT, h]
  | some y => have := hp y rfl; simp [scanT, h]; omega

end Go.Proofs.YtbaocnbppefciaaGreat

namespace Go.Proofs.YtbaocnbppefciaaGreat
open Go.RowKit
set_option linter.unusedVariables false

theorem quiet_w {P : Program} {f : FuncId} {args : Array Value} {w : World} {v : Value} (h : Calls P f args w fun e w' => e = .returned v ∧ ∃ m, w' = w.drewN m) : Calls P f args w fun e w'' => e = .returned v ∧ ∃ m, w'' = w.drewN m := h
theorem quiet_wn {P : Program} {f : FuncId} {args : Array Value} {w : World} {n : Nat} {v : Value}
    (h : Calls P f args (w.drewN n) fun e w' => e = .returned v ∧ ∃ m, w' = (w.drewN n).drewN m) : Calls P f args (w.drewN n) fun e w'' => e = .returned v ∧ ∃ m, w'' = w.drewN m :=
  h.mono fun _ _ ⟨he, m, hm⟩ => ⟨he, n + m, by rw [hm, World.drewN_drewN]⟩
theorem quiet_wadd {P : Program} {f : FuncId} {args : Array Value} {w : World} {a n : Nat} {v : Value}
    (h : Calls P f args (w.drewN (a + n)) fun e w' => e = .returned v ∧ ∃ m, w' = (w.drewN (a + n)).drewN m) :
    Calls P f args (w.drewN (a + n)) fun e w'' => e = .returned v ∧ ∃ m, w'' = w.drewN (a + m) :=
  h.mono fun _ _ ⟨he, m, hm⟩ => ⟨he, n + m, by rw [hm, World.drewN_drewN, Nat.add_assoc]⟩

theorem IntsFrom.drewN {base : Nat} {w : World} {v : Value} {l : List Int} (h : IntsFrom base w v l) (n : Nat) : IntsFrom base (w.drewN n) v l := h
theorem IntsFrom.alloc {base : Nat} {w : World} {v : Value} {l : List Int} (h : IntsFrom base w v l) (o : Obj) : IntsFrom base (w.alloc o) v l := World.ownsRow.alloc h o

/-- How many of the first k. -/
theorem manyI_snoc (l : List Int) (a zt : Int) (k : Nat) (h : k < l.length) : manyI (l.take (k + 1)) a zt = manyI (l.take k) a zt + truthI (hasB a zt l[k]) := by
  rw [List.take_succ_eq_append_getElem h]
  unfold manyI
  rw [List.countP_append]
  cases hb : hasB a zt l[k] <;> simp [truthI, hb]

def winE (a zt : Int) : Int := if a < 0 ∨ zt < a ∨ 345686400000 < zt then 1 else 0
theorem winE_1 {a zt : Int} (h : a < 0 ∨ zt < a ∨ 345686400000 < zt) : winE a zt = 1 := by unfold winE; rw [if_pos h]
theorem winE_0 {a zt : Int} (h : ¬ (a < 0 ∨ zt < a ∨ 345686400000 < zt)) : winE a zt = 0 := by unfold winE; rw [if_neg h]

def hoursE (a zt : Int) : Int := if 1000 < hoursI a zt then 2 else 0
def longE (n : Int) : Int := spanE n 60000 86400000
theorem longE_cases (n : Int) : (longE n = 0 ∧ outB n 60000 86400000 = false ∧ 60000 ≤ n ∧ n ≤ 86400000) ∨ (longE n = 1 ∧ outB n 60000 86400000 = true) := by
  unfold longE
  rcases spanE_cases n 60000 86400000 with ⟨h, h1, h2⟩ | ⟨h, h1⟩
  · exact .inl ⟨h, outB_no h1 h2, h1, h2⟩
  · exact .inr ⟨h, outB_yes h1⟩
end Go.Proofs.YtbaocnbppefciaaGreat

namespace Go.Proofs.YtbaocnbppefciaaGreat
open Go.RowKit
set_option linter.unusedVariables false

theorem ret_agg2 {a b c d : Int} (h : a = b) (h' : c = d) : Ending.returned (.agg #[.int .i64 a, .int .i64 c]) = .returned (.agg #[.int .i64 b, .int .i64 d]) := by rw [h, h']

/-- A fraction in lowest terms. -/
def lowN (num den : Int) : Int := num / gcdN num den
def lowD (num den : Int) : Int := den / gcdN num den
theorem gcdN_pos {num den : Int} (h : 0 < den) : 1 ≤ gcdN num den ∧ gcdN num den ≤ den := by
  unfold gcdN
  have h1 := Nat.gcd_pos_of_pos_right num.toNat (show 0 < den.toNat by omega)
  have h2 := Nat.gcd_le_right num.toNat (show 0 < den.toNat by omega)
  omega
theorem gcd_step (m n : Nat) : Nat.gcd n (m % n) = Nat.gcd m n := by
  rw [Nat.gcd_comm m n, Nat.gcd_rec n m, Nat.gcd_comm]

/-- The last milliseconds before a moment. -/
def lastA (a at_ long : Int) : Int := max a (at_ - long)
def lastT (zt at_ : Int) : Int := min zt at_

end Go.Proofs.YtbaocnbppefciaaGreat

namespace Go.Proofs.YtbaocnbppefciaaGreat
open Go.RowKit
set_option linter.unusedVariables false

theorem gr_of_drew {w w' : World} {row : Option Nat} (h : w.drew.grownBy w' row) : w.grownBy w' row := ⟨h.os, h.tape, h.output, h.size, h.block⟩
theorem TimesOk.E0 {l : List Int} {a zt : Int} (h : timesE l a zt = 0) : (timesE l a zt != 0) = false := by rw [h]; rfl

/-- The error of a moment and a length. -/
def mlE (at_ long : Int) : Int := if momE at_ = 0 then longE long else momE at_
theorem mlE_01 (at_ long : Int) : (mlE at_ long = 0 ∧ momE at_ = 0 ∧ longE long = 0) ∨ mlE at_ long = 1 := by
  unfold mlE
  rcases momE_cases at_ with h | h <;> rcases longE_cases long with h2 | h2 <;> simp [h.1, h2.1]
def lastE (l : List Int) (a zt at_ long : Int) : Int := if timesE l a zt = 0 then mlE at_ long else timesE l a zt

end Go.Proofs.YtbaocnbppefciaaGreat
