/- Plain law of times: their errors, how many are in a window: no program in sight. No condition. The walks over the errors of times and windows, over how many moments are before one or in a window, in package rate and in the reference. Condition: times that are counted by search are sorted. The walks over how many moments are before one and in a window, in package rate (by search) and in the reference (by counting). Condition: times that are searched are sorted. The walks over fractions in lowest terms, the last milliseconds before a moment, and the bad case of each exported function of package rate that begins with CheckTimes. Condition: numbers within their ranges. The walks over rate.In, rate.Rate and their twins in the reference. Condition: the window's end is no number beyond 2^60; else times without error where the name says ok. -/
import Derived.Test.YtlbhphfmckhimaaFaults
import Derived.Test.YtlbhphfmckhimaaInts
import Derived.Test.YtlbhphfmckhimaaShelf
import Derived.Deep.RegionHeld3
namespace Go.Proofs.Ytlbhphfmckhimaa
set_option linter.unusedVariables false

/-- The first of two errors. -/
def orE (t e : Int) : Int := if t = 0 then e else t
theorem orE_ne {t e : Int} (h : t ≠ 0) : orE t e = t := by unfold orE; rw [if_neg h]
theorem orE_z {t e : Int} (h : t = 0) : orE t e = e := by unfold orE; rw [if_pos h]
theorem orE_0' {t e : Int} (h : orE t e = 0) : t = 0 ∧ e = 0 := by
  by_cases ht : t = 0
  · rw [orE_z ht] at h; exact ⟨ht, h⟩
  · rw [orE_ne ht] at h; exact absurd h ht
def hasB (a zt x : Int) : Bool := decide (a ≤ x ∧ x < zt)
def timeB (a zt : Int) : Bool := decide (0 ≤ a ∧ a < zt ∧ zt ≤ 345686400000)
def timeE (a zt : Int) : Int := if timeB a zt then 0 else 1
def scanT (a zt : Int) : Option Int → List Int → Int
  | _, [] => 0
  | p, x :: r => if hasB a zt x = false then 1 else if p.any (fun y => decide (x < y)) then 7 else scanT a zt (some x) r
def timesE (l : List Int) (a zt : Int) : Int := if timeB a zt = false then 1 else if 2000 < l.length then 2 else scanT a zt none l

theorem scanT_ok (a zt : Int) : ∀ (p : Option Int) (l : List Int), scanT a zt p l = 0 → l.Pairwise (· ≤ ·) ∧ (∀ x ∈ l, a ≤ x ∧ x < zt) ∧ ∀ y, p = some y → ∀ x ∈ l, y ≤ x
  | p, [], _ => ⟨List.Pairwise.nil, by simp, by simp⟩
  | p, x :: r, h => by
    unfold scanT at h
    split at h
    · omega
    · split at h
      · omega
      · rename_i h1 h2
        have ih := scanT_ok a zt (some x) r h
        have hx : a ≤ x ∧ x < zt := by simpa [hasB] using h1
        refine ⟨List.pairwise_cons.2 ⟨fun y hy => ih.2.2 x rfl y hy, ih.1⟩, ?_, ?_⟩
        · intro y hy
          rcases List.mem_cons.1 hy with rfl | hy
          · exact hx
          · exact ih.2.1 y hy
        · intro y hy z hz
          subst hy
          have hyx : y ≤ x := by simpa using h2
          rcases List.mem_cons.1 hz with rfl | hz
          · exact hyx
          · exact Int.le_trans hyx (ih.2.2 x rfl z hz)
theorem scanT_bd (a zt : Int) : ∀ (p : Option Int) (l : List Int), 0 ≤ scanT a zt p l ∧ scanT a zt p l ≤ 7
  | p, [] => by simp [scanT]
  | p, x :: r => by
    unfold scanT
    split
    · omega
    · split
      · omega
      · exact scanT_bd a zt (some x) r
/-- What is known of times without error. -/
structure TimesOk (l : List Int) (a zt : Int) : Prop where
  a0 : 0 ≤ a
  ato : a < zt
  to_ : zt ≤ 345686400000
  len : l.length ≤ 2000
  sorted : l.Pairwise (· ≤ ·)
  mem : ∀ x ∈ l, a ≤ x ∧ x < zt
theorem timesE_ok {l : List Int} {a zt : Int} (h : timesE l a zt = 0) : TimesOk l a zt := by
  unfold timesE at h
  split at h
  · omega
  · split at h
    · omega
    · rename_i h1 h2
      have h3 : 0 ≤ a ∧ a < zt ∧ zt ≤ 345686400000 := by simpa [timeB] using h1
      have := scanT_ok a zt none l h
      exact ⟨h3.1, h3.2.1, h3.2.2, by omega, this.1, this.2.1⟩
theorem timesE_bd (l : List Int) (a zt : Int) : 0 ≤ timesE l a zt ∧ timesE l a zt ≤ 7 := by
  unfold timesE
  split
  · omega
  · split
    · omega
    · exact scanT_bd _ _ _ _

def cntLt (l : List Int) (x : Int) : Int := (l.countP (fun y => decide (y < x)) : Nat)
def manyI (l : List Int) (a zt : Int) : Int := (l.countP (fun x => hasB a zt x) : Nat)
def inI (l : List Int) (a zt : Int) : Int := max 0 (cntLt l zt - cntLt l a)
theorem cntLt_bd (l : List Int) (x : Int) : 0 ≤ cntLt l x ∧ cntLt l x ≤ l.length := by
  unfold cntLt
  have := List.countP_le_length (p := fun y => decide (y < x)) (l := l)
  omega
theorem manyI_bd (l : List Int) (a zt : Int) : 0 ≤ manyI l a zt ∧ manyI l a zt ≤ l.length := by
  unfold manyI
  have := List.countP_le_length (p := fun x => hasB a zt x) (l := l)
  omega
theorem cnt_diff (l : List Int) (a zt : Int) (h : a ≤ zt) : cntLt l zt - cntLt l a = manyI l a zt := by
  unfold cntLt manyI
  induction l with
  | nil => rfl
  | cons x r ih =>
    simp only [List.countP_cons, hasB, decide_eq_true_eq] at ih ⊢
    by_cases h1 : x < zt <;> by_cases h2 : x < a <;> by_cases h3 : a ≤ x <;> simp [h1, h2, h3] at ih ⊢ <;> omega
theorem cnt_mono (l : List Int) (a zt : Int) (h : zt ≤ a) : cntLt l zt ≤ cntLt l a := by
  unfold cntLt
  have := List.countP_mono_left (l := l) (p := fun y => decide (y < zt)) (q := fun y => decide (y < a)) (fun x _ hx => by simp at hx ⊢; omega)
  omega
theorem cnt_none (l : List Int) (a zt : Int) (h : zt < a) : manyI l a zt = 0 ∧ cntLt l zt ≤ cntLt l a := by
  refine ⟨?_, cnt_mono l a zt (by omega)⟩
  unfold manyI
  have : l.countP (fun x => hasB a zt x) = 0 := List.countP_eq_zero.2 (fun x _ => by unfold hasB; simp; omega)
  omega
theorem inI_many (l : List Int) (a zt : Int) : inI l a zt = manyI l a zt := by
  unfold inI
  have hb := manyI_bd l a zt
  by_cases h : a ≤ zt
  · rw [cnt_diff l a zt h]; omega
  · have := cnt_none l a zt (by omega); omega

/-- The best stretch: the first of those with the most. -/
def bestStep (l : List Int) (long : Int) (st : Int × Int) (x : Int) : Int × Int := if st.2 < manyI l x (x + long) then (x, manyI l x (x + long)) else st
def bestI (l : List Int) (a long : Int) : Int × Int := l.foldl (bestStep l long) (a, manyI l a (a + long))

/-- The longest gap. -/
def gapStep (st : (Int × Int) × Int) (x : Int) : (Int × Int) × Int := (if st.1.2 - st.1.1 < x - st.2 then (st.2, x) else st.1, x)
def gapI (l : List Int) (a zt : Int) : Int × Int := ((l ++ [zt]).foldl gapStep ((a, a), a)).1
/-- The gaps, the next one begun so much behind. -/
def gapsL (begun : Int) : Int → List Int → List (Int × Int)
  | _, [] => []
  | f, x :: r => (f, x) :: gapsL begun (x + begun) r
def gapPick (st : Int × Int) (g : Int × Int) : Int × Int := if st.2 - st.1 < g.2 - g.1 then g else st
theorem gapsL_fold : ∀ (l : List Int) (f : Int) (b : Int × Int), (l.foldl gapStep (b, f)).1 = (gapsL 0 f l).foldl gapPick b
  | [], _, _ => rfl
  | x :: r, f, b => by
    have ih := gapsL_fold r x (if b.2 - b.1 < x - f then (f, x) else b)
    simp only [List.foldl_cons, gapsL, Int.add_zero]
    exact ih
/-- The reference begins with the first gap. -/
theorem gapI_first (l : List Int) (a zt : Int) (h : ∀ x ∈ l ++ [zt], a ≤ x) : gapI l a zt = (match gapsL 0 a (l ++ [zt]) with | [] => (0, 0) | g :: r => r.foldl gapPick g) := by
  unfold gapI
  rw [gapsL_fold]
  cases hl : l ++ [zt] with
  | nil => simp at hl
  | cons x r =>
    have hx : a ≤ x := h x (by rw [hl]; simp)
    simp only [gapsL, List.foldl_cons, Int.add_zero]
    congr 1
    unfold gapPick
    by_cases h0 : a - a < x - a
    · rw [if_pos h0]
    · have : x = a := by omega
      subst this; simp

/-- Hours. -/
def hoursI (a zt : Int) : Int := (zt - a + 3600000 - 1) / 3600000
def hourL (l : List Int) (zt : Int) : Nat → Int → List Int
  | 0, _ => []
  | n + 1, f => manyI l f (min (f + 3600000) zt) :: hourL l zt n (f + 3600000)
def hourAll (l : List Int) (a zt : Int) : List Int := hourL l zt (hoursI a zt).toNat a

/-- Euclid. -/
def gcdN (a b : Int) : Int := (Nat.gcd a.toNat b.toNat : Nat)
end Go.Proofs.Ytlbhphfmckhimaa

namespace Go.Proofs.Ytlbhphfmckhimaa
open Go.RowKit
set_option linter.unusedVariables false

theorem timeB_yes {a zt : Int} (h : 0 ≤ a ∧ a < zt ∧ zt ≤ 345686400000) : timeB a zt = true := by unfold timeB; simpa using h
theorem timeB_no {a zt : Int} (h : ¬ (0 ≤ a ∧ a < zt ∧ zt ≤ 345686400000)) : timeB a zt = false := by unfold timeB; simpa using h

set_option maxHeartbeats 400000 in
theorem isTime_any (a zt : Int) (w : World) (hto : -1152921504606846976 ≤ zt) (hto2 : zt ≤ 1152921504606846976) :
    Calls Try.prog 66 #[.agg #[.int .i64 a, .int .i64 zt]] w fun r w' => r = .returned (.bool (timeB a zt)) ∧ w.grownBy w' none := by
  by_cases h1 : 0 ≤ a ∧ a ≤ zt - 1
  · have hb : outB a 0 (zt - 1) = false := outB_no h1.1 h1.2
    have HE : Hid (timeB a zt = decide (zt ≤ 345686400000)) := by
      show _ = _
      unfold timeB
      by_cases h : zt ≤ 345686400000 <;> simp [h] <;> omega
    go_enter Try.func66, Try.ntmps66
    go_wp2_with fail
    refine (outside_any _ _ _ _).mono ?_
    rintro r w' ⟨rfl, rfl⟩
    go_wp2_with fail
    go_ret
    exact ⟨ret_b HE.out.symm, gr_alloc (gr_refl _ _) _⟩
  · have hb : outB a 0 (zt - 1) = true := outB_yes (by omega)
    have HE := Lib.hid (timeB_no (a := a) (zt := zt) (by omega))
    go_enter Try.func66, Try.ntmps66
    go_wp2_with fail
    refine (outside_any _ _ _ _).mono ?_
    rintro r w' ⟨rfl, rfl⟩
    go_wp2_with fail
    go_ret
    exact ⟨ret_b HE.out.symm, gr_alloc (gr_refl _ _) _⟩

set_option maxHeartbeats 400000 in
theorem timeFault_any (a zt : Int) (w : World) :
    Calls Try.prog 25 #[.agg #[.int .i64 a, .int .i64 zt]] w fun r w' => r = .returned (.int .i64 (timeE a zt)) ∧ w.grownBy w' none := by
  by_cases k1 : a < 0
  · have HE : Hid (timeE a zt = 1) := by show _ = _; unfold timeE; rw [timeB_no (by omega)]; rfl
    go_enter Try.func25, Try.ntmps25
    go_wp2_with fail
    go_ret
    exact ⟨ret_of HE.out.symm, gr_alloc (gr_refl _ _) _⟩
  by_cases k2 : zt ≤ a
  · have HE : Hid (timeE a zt = 1) := by show _ = _; unfold timeE; rw [timeB_no (by omega)]; rfl
    go_enter Try.func25, Try.ntmps25
    go_wp2_with fail
    go_ret
    exact ⟨ret_of HE.out.symm, gr_alloc (gr_refl _ _) _⟩
  by_cases k3 : 345686400000 < zt
  · have HE : Hid (timeE a zt = 1) := by show _ = _; unfold timeE; rw [timeB_no (by omega)]; rfl
    go_enter Try.func25, Try.ntmps25
    go_wp2_with fail
    go_ret
    exact ⟨ret_of HE.out.symm, gr_alloc (gr_refl _ _) _⟩
  · have HE : Hid (timeE a zt = 0) := by show _ = _; unfold timeE; rw [timeB_yes (by omega)]; rfl
    go_enter Try.func25, Try.ntmps25
    go_wp2_with fail
    go_ret
    exact ⟨ret_of HE.out.symm, gr_alloc (gr_refl _ _) _⟩

theorem hasB_of {a zt x : Int} (h : a ≤ x) : hasB a zt x = decide (x < zt) := by unfold hasB; simp [h]
theorem hasB_no {a zt x : Int} (h : ¬ a ≤ x) : hasB a zt x = false := by unfold hasB; simp [h]

set_option maxHeartbeats 400000 in
theorem has_any (a zt x : Int) (w : World) :
    Calls Try.prog 67 #[.agg #[.int .i64 a, .int .i64 zt], .int .i64 x] w fun r w' => r = .returned (.bool (hasB a zt x)) ∧ w.grownBy w' none := by
  by_cases k1 : a ≤ x
  · have HE := Lib.hid (hasB_of (zt := zt) k1)
    go_enter Try.func67, Try.ntmps67
    go_wp2_with fail
    go_ret
    exact ⟨ret_b HE.out.symm, gr_alloc (gr_refl _ _) _⟩
  · have HE := Lib.hid (hasB_no (zt := zt) k1)
    go_enter Try.func67, Try.ntmps67
    go_wp2_with fail
    go_ret
    exact ⟨ret_b HE.out.symm, gr_alloc (gr_refl _ _) _⟩

set_option maxHeartbeats 400000 in
theorem inside_any (a zt x : Int) (w : World) :
    Calls Try.prog 26 #[.agg #[.int .i64 a, .int .i64 zt], .int .i64 x] w fun r w' => r = .returned (.bool (hasB a zt x)) ∧ w.grownBy w' none := by
  by_cases k1 : a ≤ x
  · have HE := Lib.hid (hasB_of (zt := zt) k1)
    go_enter Try.func26, Try.ntmps26
    go_wp2_with fail
    go_ret
    exact ⟨ret_b HE.out.symm, gr_alloc (gr_refl _ _) _⟩
  · have HE := Lib.hid (hasB_no (zt := zt) k1)
    go_enter Try.func26, Try.ntmps26
    go_wp2_with fail
    go_ret
    exact ⟨ret_b HE.out.symm, gr_alloc (gr_refl _ _) _⟩

def truthI (b : Bool) : Int := if b then 1 else 0
set_option maxHeartbeats 400000 in
theorem truth_any (b : Bool) (w : World) :
    Calls Try.prog 61 #[.bool b] w fun r w' => r = .returned (.int .i64 (truthI b)) ∧ w = w' := by
  cases b
  all_goals
    go_enter Try.func61, Try.ntmps61
    go_wp2_with fail
    go_ret
    exact ⟨rfl, rfl⟩

/-- The element before place k. -/
def prevI (l : List Int) (k : Nat) : Option Int := if k = 0 then none else l[k - 1]?
theorem prevI_succ (l : List Int) (k : Nat) (h : k < l.length) : prevI l (k + 1) = some l[k] := by unfold prevI; simp [h]
theorem prevI_pos (l : List Int) (k : Nat) (h0 : 0 < k) (h : k < l.length) : prevI l k = some (l[k - 1]'(by omega)) := by
  unfold prevI; rw [if_neg (by omega)]; exact List.getElem?_eq_getElem (by omega)
theorem scanT_bad {a zt x : Int} {p : Option Int} {r : List Int} (h : hasB a zt x = false) : scanT a zt p (x :: r) = 1 := by simp [scanT, h]
theorem scanT_order {a zt x y : Int} {r : List Int} (h : hasB a zt x = true) (hxy : x < y) : scanT a zt (some y) (x :: r) = 7 := by simp [scanT, h, hxy]
theorem scanT_next {a zt x : Int} {p : Option Int} {r : List Int} (h : hasB a zt x = true) (hp : ∀ y, p = some y → ¬ x < y) : scanT a zt p (x :: r) = scanT a zt (some x) r := by
  cases p with
  | none => simp [scanT, h]
  | some y => have := hp y rfl; simp [scanT, h]; omega

set_option maxHeartbeats 2000000 in
theorem checkTimes_any (base : Nat) (v : Value) (l : List Int) (a zt : Int) (w : World) (hl : IntsFrom base w v l) (hto : -1152921504606846976 ≤ zt) (hto2 : zt ≤ 1152921504606846976) :
    Calls Try.prog 48 #[v, .agg #[.int .i64 a, .int .i64 zt]] w fun r w' => r = .returned (.int .i64 (timesE l a zt)) ∧ w.grownBy w' none := by
  obtain ⟨A, c, rfl, hlen, hA⟩ := hl.shape
  rcases hb : timeB a zt
  · have HE : Hid (timesE l a zt = 1) := by show _ = _; unfold timesE; rw [if_pos hb]
    go_enter Try.func48, Try.ntmps48
    go_wp2_with fail
    refine (isTime_any _ _ _ hto hto2).mono ?_
    rintro r w1 ⟨rfl, hg1⟩
    go_wp2_with fail
    go_ret
    exact ⟨ret_of HE.out.symm, gr_trans (World.grownBy_alloc w _ none) hg1⟩
  · by_cases hbig : 2000 < l.length
    · have HE : Hid (timesE l a zt = 2) := by show _ = _; unfold timesE; rw [if_neg (by simp [hb]), if_pos hbig]
      have hbig' : (2000 : Int) < (l.length : Int) := by omega
      go_enter Try.func48, Try.ntmps48
      go_wp2_with fail
      refine (isTime_any _ _ _ hto hto2).mono ?_
      rintro r w1 ⟨rfl, hg1⟩
      go_wp2_with fail
      go_ret
      exact ⟨ret_of HE.out.symm, gr_trans (World.grownBy_alloc w _ none) hg1⟩
    · have HE : Hid (timesE l a zt = scanT a zt none l) := by show _ = _; unfold timesE; rw [if_neg (by simp [hb]), if_neg hbig]
      have hbig' : ¬ (2000 : Int) < (l.length : Int) := by omega
      have HL := Lib.hid hl
      clear hl
      go_enter Try.func48, Try.ntmps48
      go_wp2_with fail
      refine (isTime_any _ _ _ hto hto2).mono ?_
      rintro r w1 ⟨rfl, hg1⟩
      have hw1 := (Blk.new w 27 #[.int .i64 a, .int .i64 zt]).grown hg1 (by simp)
      have hG1 := gr_trans (World.grownBy_alloc w (.cells #[.int .i64 a, .int .i64 zt] 27) none) hg1
      clear hg1
      go_wp2_with fail
      go_loopw [15] (fun i wr => ∃ k : Nat, k ≤ l.length ∧ i = .int .i64 k ∧ Hid (scanT a zt none l = scanT a zt (prevI l k) (l.drop k)) ∧ w.grownBy wr none ∧ Blk wr w.heap.size 27 #[.int .i64 a, .int .i64 zt]) (fun i _ => l.length - (intOf i).toNat)
      case atStart => exact ⟨0, by omega, rfl, rfl, hG1, hw1⟩
      case round =>
        obtain ⟨k, hk, rfl, HR, hG, hW⟩ := hrel
        by_cases hlt : k < l.length
        · obtain ⟨g, rfl, hg0, hg1⟩ := hA (by omega)
          have hkl : (k : Int) < (l.length : Int) := by omega
          have cx := (HL.out.grown hG).at_ k hlt
          have b0 : wr.cell? ⟨w.heap.size, 0, none⟩ = some (.int .i64 a) := hW.cell 0
          have b1 : wr.cell? ⟨w.heap.size, 1, none⟩ = some (.int .i64 zt) := hW.cell 1
          have hd := List.drop_eq_getElem_cons hlt
          have hpn := prevI_succ l k hlt
          have hpk := fun h0 => prevI_pos l k h0 hlt
          have HN : Hid (scanT a zt none l = scanT a zt (prevI l k) (l[k] :: l.drop (k + 1))) := by show _ = _; rw [HR.out, hd]
          have HP := Lib.hid hpn
          have HQ := Lib.hid hpk
          clear hd hpn hpk
          have cp : 0 < k → wr.cell? ⟨g, k - 1, none⟩ = some (.int .i64 (l[k - 1]'(by omega))) := fun h0 => (HL.out.grown hG).at_ (k - 1) (by omega)
          obtain ⟨x, hx⟩ : ∃ x, x = l[k] := ⟨_, rfl⟩
          rw [← hx] at cx HN HP
          clear hx HR
          rcases hh : hasB a zt x
          · have HF := Lib.hid (HN.out.trans (scanT_bad hh))
            go_wp2_with fail
            refine (has_any _ _ _ _).mono ?_
            rintro _ w2 ⟨rfl, hg2⟩
            go_wp2_with fail
            go_ret
            exact ⟨ret_of (HE.out.trans HF.out).symm, gr_trans hG hg2⟩
          · by_cases h0 : 0 < k
            · have c1 := cp h0
              have hq := HQ.out h0
              obtain ⟨y, hy⟩ : ∃ y, y = l[k - 1]'(by omega) := ⟨_, rfl⟩
              rw [← hy] at c1 hq
              have HY := Lib.hid hq
              clear hy cp hq HQ
              obtain ⟨m, rfl⟩ : ∃ m, k = m + 1 := ⟨k - 1, by omega⟩
              have c2 : wr.cell? ⟨g, m, none⟩ = some (.int .i64 y) := c1
              clear c1
              have hkp : (0 : Int) < ((m + 1 : Nat) : Int) := by omega
              by_cases hxy : x < y
              · have HF : Hid (scanT a zt none l = 7) := by show _ = _; rw [HN.out, HY.out]; exact scanT_order hh hxy
                go_wp2_with fail
                refine (has_any _ _ _ _).mono ?_
                rintro _ w2 ⟨rfl, hg2⟩
                have c3 : w2.cell? ⟨g, m, none⟩ = some (.int .i64 y) := hg2.cell c2 (by simp)
                clear c2
                go_wp2_with fail
                go_ret
                exact ⟨ret_of (HE.out.trans HF.out).symm, gr_trans hG hg2⟩
              · have HF : Hid (scanT a zt none l = scanT a zt (prevI l (m + 1 + 1)) (l.drop (m + 1 + 1))) := by
                  show _ = _
                  rw [HN.out, HP.out, HY.out]
                  exact scanT_next hh (fun z hz => by injection hz with hz; omega)
                go_wp2_with fail
                refine (has_any _ _ _ _).mono ?_
                rintro _ w2 ⟨rfl, hg2⟩
                have c3 : w2.cell? ⟨g, m, none⟩ = some (.int .i64 y) := hg2.cell c2 (by simp)
                clear c2
                have hG2 := gr_trans hG hg2
                have hW2 := hW.grown hg2 (by simp)
                go_wp2_with fail
                go_roundw
                case rel => exact ⟨m + 1 + 1, by omega, by go_num, HF, hG2, hW2⟩
                case measure => simp [intOf]; omega
            · obtain rfl : k = 0 := by omega
              have HF : Hid (scanT a zt none l = scanT a zt (prevI l (0 + 1)) (l.drop (0 + 1))) := by
                show _ = _
                rw [HN.out, HP.out]
                exact scanT_next hh (fun z hz => by simp [prevI] at hz)
              clear cp HQ
              go_wp2_with fail
              refine (has_any _ _ _ _).mono ?_
              rintro _ w2 ⟨rfl, hg2⟩
              have hG2 := gr_trans hG hg2
              have hW2 := hW.grown hg2 (by simp)
              go_wp2_with fail
              go_roundw
              case rel => exact ⟨0 + 1, by omega, by go_num, HF, hG2, hW2⟩
              case measure => simp [intOf]; omega
        · have HF : Hid (scanT a zt none l = 0) := by
            show _ = _
            rw [HR.out, List.drop_of_length_le (by omega)]
            cases prevI l k <;> rfl
          have hkl : ¬ (k : Int) < (l.length : Int) := by omega
          go_wp2_with fail
          go_ret
          exact ⟨ret_of (HE.out.trans HF.out).symm, hG⟩
set_option maxHeartbeats 2000000 in
theorem timesFault_any (base : Nat) (v : Value) (l : List Int) (a zt : Int) (w : World) (hl : IntsFrom base w v l) :
    Calls Try.prog 8 #[v, .agg #[.int .i64 a, .int .i64 zt]] w fun r w' => r = .returned (.int .i64 (timesE l a zt)) ∧ w.grownBy w' none := by
  obtain ⟨A, c, rfl, hlen, hA⟩ := hl.shape
  rcases hb : timeB a zt
  · have ht : timeE a zt = 1 := by unfold timeE; rw [hb]; rfl
    have HE : Hid (timesE l a zt = 1) := by show _ = _; unfold timesE; rw [if_pos hb]
    go_enter Try.func8, Try.ntmps8
    go_wp2_with fail
    refine (timeFault_any _ _ _).mono ?_
    rintro r w1 ⟨rfl, hg1⟩
    go_wp2_with fail
    go_ret
    exact ⟨ret_of HE.out.symm, gr_trans (World.grownBy_alloc w _ none) hg1⟩
  · have ht : timeE a zt = 0 := by unfold timeE; rw [hb]; rfl
    by_cases hbig : 2000 < l.length
    · have HE : Hid (timesE l a zt = 2) := by show _ = _; unfold timesE; rw [if_neg (by simp [hb]), if_pos hbig]
      have hbig' : (2000 : Int) < (l.length : Int) := by omega
      go_enter Try.func8, Try.ntmps8
      go_wp2_with fail
      refine (timeFault_any _ _ _).mono ?_
      rintro r w1 ⟨rfl, hg1⟩
      go_wp2_with fail
      go_ret
      exact ⟨ret_of HE.out.symm, gr_trans (World.grownBy_alloc w _ none) hg1⟩
    · have HE : Hid (timesE l a zt = scanT a zt none l) := by show _ = _; unfold timesE; rw [if_neg (by simp [hb]), if_neg hbig]
      have hbig' : ¬ (2000 : Int) < (l.length : Int) := by omega
      have HL := Lib.hid hl
      clear hl
      go_enter Try.func8, Try.ntmps8
      go_wp2_with fail
      refine (timeFault_any _ _ _).mono ?_
      rintro r w1 ⟨rfl, hg1⟩
      have hw1 := (Blk.new w 27 #[.int .i64 a, .int .i64 zt]).grown hg1 (by simp)
      have hG1 := gr_trans (World.grownBy_alloc w (.cells #[.int .i64 a, .int .i64 zt] 27) none) hg1
      clear hg1
      go_wp2_with fail
      go_loopw [18] (fun i wr => ∃ k : Nat, k ≤ l.length ∧ i = .int .i64 k ∧ Hid (scanT a zt none l = scanT a zt (prevI l k) (l.drop k)) ∧ w.grownBy wr none ∧ Blk wr w.heap.size 27 #[.int .i64 a, .int .i64 zt]) (fun i _ => l.length - (intOf i).toNat)
      case atStart => exact ⟨0, by omega, rfl, rfl, hG1, hw1⟩
      case round =>
        obtain ⟨k, hk, rfl, HR, hG, hW⟩ := hrel
        by_cases hlt : k < l.length
        · obtain ⟨g, rfl, hg0, hg1⟩ := hA (by omega)
          have hkl : (k : Int) < (l.length : Int) := by omega
          have cx := (HL.out.grown hG).at_ k hlt
          have b0 : wr.cell? ⟨w.heap.size, 0, none⟩ = some (.int .i64 a) := hW.cell 0
          have b1 : wr.cell? ⟨w.heap.size, 1, none⟩ = some (.int .i64 zt) := hW.cell 1
          have hd := List.drop_eq_getElem_cons hlt
          have hpn := prevI_succ l k hlt
          have hpk := fun h0 => prevI_pos l k h0 hlt
          have HN : Hid (scanT a zt none l = scanT a zt (prevI l k) (l[k] :: l.drop (k + 1))) := by show _ = _; rw [HR.out, hd]
          have HP := Lib.hid hpn
          have HQ := Lib.hid hpk
          clear hd hpn hpk
          have cp : 0 < k → wr.cell? ⟨g, k - 1, none⟩ = some (.int .i64 (l[k - 1]'(by omega))) := fun h0 => (HL.out.grown hG).at_ (k - 1) (by omega)
          obtain ⟨x, hx⟩ : ∃ x, x = l[k] := ⟨_, rfl⟩
          rw [← hx] at cx HN HP
          clear hx HR
          rcases hh : hasB a zt x
          · have HF := Lib.hid (HN.out.trans (scanT_bad hh))
            go_wp2_with fail
            refine (inside_any _ _ _ _).mono ?_
            rintro _ w2 ⟨rfl, hg2⟩
            go_wp2_with fail
            go_ret
            exact ⟨ret_of (HE.out.trans HF.out).symm, gr_trans hG hg2⟩
          · by_cases h0 : 0 < k
            · have c1 := cp h0
              have hq := HQ.out h0
              obtain ⟨y, hy⟩ : ∃ y, y = l[k - 1]'(by omega) := ⟨_, rfl⟩
              rw [← hy] at c1 hq
              have HY := Lib.hid hq
              clear hy cp hq HQ
              obtain ⟨m, rfl⟩ : ∃ m, k = m + 1 := ⟨k - 1, by omega⟩
              have c2 : wr.cell? ⟨g, m, none⟩ = some (.int .i64 y) := c1
              clear c1
              have hkp : (0 : Int) < ((m + 1 : Nat) : Int) := by omega
              by_cases hxy : x < y
              · have HF : Hid (scanT a zt none l = 7) := by show _ = _; rw [HN.out, HY.out]; exact scanT_order hh hxy
                go_wp2_with fail
                refine (inside_any _ _ _ _).mono ?_
                rintro _ w2 ⟨rfl, hg2⟩
                have c3 : w2.cell? ⟨g, m, none⟩ = some (.int .i64 y) := hg2.cell c2 (by simp)
                clear c2
                go_wp2_with fail
                go_ret
                exact ⟨ret_of (HE.out.trans HF.out).symm, gr_trans hG hg2⟩
              · have HF : Hid (scanT a zt none l = scanT a zt (prevI l (m + 1 + 1)) (l.drop (m + 1 + 1))) := by
                  show _ = _
                  rw [HN.out, HP.out, HY.out]
                  exact scanT_next hh (fun z hz => by injection hz with hz; omega)
                go_wp2_with fail
                refine (inside_any _ _ _ _).mono ?_
                rintro _ w2 ⟨rfl, hg2⟩
                have c3 : w2.cell? ⟨g, m, none⟩ = some (.int .i64 y) := hg2.cell c2 (by simp)
                clear c2
                have hG2 := gr_trans hG hg2
                have hW2 := hW.grown hg2 (by simp)
                go_wp2_with fail
                go_roundw
                case rel => exact ⟨m + 1 + 1, by omega, by go_num, HF, hG2, hW2⟩
                case measure => simp [intOf]; omega
            · obtain rfl : k = 0 := by omega
              have HF : Hid (scanT a zt none l = scanT a zt (prevI l (0 + 1)) (l.drop (0 + 1))) := by
                show _ = _
                rw [HN.out, HP.out]
                exact scanT_next hh (fun z hz => by simp [prevI] at hz)
              clear cp HQ
              go_wp2_with fail
              refine (inside_any _ _ _ _).mono ?_
              rintro _ w2 ⟨rfl, hg2⟩
              have hG2 := gr_trans hG hg2
              have hW2 := hW.grown hg2 (by simp)
              go_wp2_with fail
              go_roundw
              case rel => exact ⟨0 + 1, by omega, by go_num, HF, hG2, hW2⟩
              case measure => simp [intOf]; omega
        · have HF : Hid (scanT a zt none l = 0) := by
            show _ = _
            rw [HR.out, List.drop_of_length_le (by omega)]
            cases prevI l k <;> rfl
          have hkl : ¬ (k : Int) < (l.length : Int) := by omega
          go_wp2_with fail
          go_ret
          exact ⟨ret_of (HE.out.trans HF.out).symm, hG⟩
end Go.Proofs.Ytlbhphfmckhimaa

namespace Go.Proofs.Ytlbhphfmckhimaa
open Go.RowKit
set_option linter.unusedVariables false

theorem quiet_w {P : Program} {f : FuncId} {args : Array Value} {w : World} {v : Value} (h : Calls P f args w fun e w' => e = .returned v ∧ ∃ m, w' = w.drewN m) : Calls P f args w fun e w'' => e = .returned v ∧ ∃ m, w'' = w.drewN m := h
theorem quiet_wn {P : Program} {f : FuncId} {args : Array Value} {w : World} {n : Nat} {v : Value}
    (h : Calls P f args (w.drewN n) fun e w' => e = .returned v ∧ ∃ m, w' = (w.drewN n).drewN m) : Calls P f args (w.drewN n) fun e w'' => e = .returned v ∧ ∃ m, w'' = w.drewN m :=
  h.mono fun _ _ ⟨he, m, hm⟩ => ⟨he, n + m, by rw [hm, World.drewN_drewN]⟩
theorem quiet_wadd {P : Program} {f : FuncId} {args : Array Value} {w : World} {a n : Nat} {v : Value}
    (h : Calls P f args (w.drewN (a + n)) fun e w' => e = .returned v ∧ ∃ m, w' = (w.drewN (a + n)).drewN m) :
    Calls P f args (w.drewN (a + n)) fun e w'' => e = .returned v ∧ ∃ m, w'' = w.drewN (a + m) :=
  h.mono fun _ _ ⟨he, m, hm⟩ => ⟨he, n + m, by rw [hm, World.drewN_drewN, Nat.add_assoc]⟩

set_option maxHeartbeats 400000 in
theorem before_any (base : Nat) (v : Value) (l : List Int) (x : Int) (w : World) (hl : IntsFrom base w v l) (hs : l.Pairwise (· ≤ ·)) (hn : l.length ≤ 1000000) :
    Calls Try.prog 34 #[v, .int .i64 x] w fun r w' => r = .returned (.int .i64 (cntLt l x)) ∧ ∃ m, w' = w.drewN m := by
  obtain ⟨A, c, rfl, hlen, hA⟩ := hl.shape
  have hb := cntLt_bd l x
  rcases Nat.eq_zero_or_pos l.length with h0 | h0
  · have hl0 : l = [] := List.eq_nil_of_length_eq_zero h0
    subst hl0
    have HA := Lib.hid hA
    have HL := Lib.hid hl
    clear hA hl
    go_enter Try.func34, Try.ntmps34
    go_wp2_with fail
    refine (Try.slices_BinarySearch_int_empty A c x _).mono ?_
    rintro _ w1 ⟨rfl, rfl⟩
    go_wp2_with fail
    go_ret
    exact ⟨rfl, 0, rfl⟩
  · obtain ⟨g, rfl, _, _⟩ := hA h0
    have hc : ∀ j, j < l.length → w.cell? ⟨g, 0 + j, none⟩ = some (.int .i64 (l.getD j 0)) := fun j hj => by
      rw [Nat.zero_add, hl.at_ j hj]
      simp [List.getD, hj]
    have htk : l.take l.length = l := List.take_length
    have HB := Try.slices_BinarySearch_int g 0 l.length c l x w (Nat.le_refl _) (by omega) hc (by rw [htk]; exact hs)
    rw [htk] at HB
    have HB2 := Lib.hid HB
    have HL := Lib.hid hl
    have HS := Lib.hid hs
    clear HB hc hA hl hs htk
    go_enter Try.func34, Try.ntmps34
    go_wp2_with fail
    refine HB2.out.mono ?_
    rintro _ w1 ⟨rfl, q, rfl⟩
    go_wp2_with fail
    go_ret
    exact ⟨rfl, q, rfl⟩

theorem IntsFrom.drewN {base : Nat} {w : World} {v : Value} {l : List Int} (h : IntsFrom base w v l) (n : Nat) : IntsFrom base (w.drewN n) v l := h
theorem IntsFrom.alloc {base : Nat} {w : World} {v : Value} {l : List Int} (h : IntsFrom base w v l) (o : Obj) : IntsFrom base (w.alloc o) v l := World.ownsRow.alloc h o

set_option maxHeartbeats 1000000 in
theorem in_many (base : Nat) (v : Value) (l : List Int) (a zt : Int) (w : World) (hl : IntsFrom base w v l) (hs : l.Pairwise (· ≤ ·)) (hn : l.length ≤ 1000000) :
    Calls Try.prog 60 #[v, .agg #[.int .i64 a, .int .i64 zt]] w fun r w' => r = .returned (.int .i64 (manyI l a zt)) ∧ w.grownBy w' none := by
  have HE := Lib.hid (inI_many l a zt)
  unfold inI at HE
  obtain ⟨p, hp⟩ : ∃ p, cntLt l zt = p := ⟨_, rfl⟩
  obtain ⟨q, hq⟩ : ∃ q, cntLt l a = q := ⟨_, rfl⟩
  have hp1 := cntLt_bd l zt
  have hq1 := cntLt_bd l a
  rw [hp] at HE hp1
  rw [hq] at HE hq1
  obtain ⟨p0, p1⟩ := hp1
  obtain ⟨q0, q1⟩ := hq1
  have m1 : IntKind.i64.wrap (p - q) = p - q := IntWalk.i64_in _ ⟨by omega, by omega⟩
  have HL := Lib.hid hl
  have HS := Lib.hid hs
  clear hl hs
  go_enter Try.func60, Try.ntmps60
  go_wp2_with fail
  go_quiet ((go_at_call 34; first | exact quiet_w (before_any base v l _ _ (HL.out.alloc _) HS.out hn) | exact quiet_wn (before_any base v l _ _ ((HL.out.alloc _).drewN _) HS.out hn) | exact quiet_wadd (before_any base v l _ _ ((HL.out.alloc _).drewN _) HS.out hn)))
  all_goals go_wp2_with fail
  go_ret
  exact ⟨ret_of HE.out, gr_drewN (World.grownBy_alloc w _ none) _⟩

/-- How many of the first k. -/
theorem manyI_snoc (l : List Int) (a zt : Int) (k : Nat) (h : k < l.length) : manyI (l.take (k + 1)) a zt = manyI (l.take k) a zt + truthI (hasB a zt l[k]) := by
  rw [List.take_succ_eq_append_getElem h]
  unfold manyI
  rw [List.countP_append]
  cases hb : hasB a zt l[k] <;> simp [truthI, hb]

set_option maxHeartbeats 1000000 in
theorem manyIn_any (base : Nat) (v : Value) (l : List Int) (a zt : Int) (w : World) (hl : IntsFrom base w v l) (hn : l.length ≤ 1000000) :
    Calls Try.prog 44 #[v, .agg #[.int .i64 a, .int .i64 zt]] w fun r w' => r = .returned (.int .i64 (manyI l a zt)) ∧ w.grownBy w' none := by
  obtain ⟨A, c, rfl, hlen, hA⟩ := hl.shape
  have HL := Lib.hid hl
  have HA := Lib.hid hA
  clear hl hA
  go_enter Try.func44, Try.ntmps44
  go_wp2_with fail
  go_loopw [5, 10] (fun s i wr => ∃ (k : Nat) (m : Int), k ≤ l.length ∧ i = .int .i64 k ∧ s = .int .i64 m ∧ Hid (m = manyI (l.take k) a zt) ∧ w.grownBy wr none ∧ Blk wr w.heap.size 27 #[.int .i64 a, .int .i64 zt]) (fun _ i _ => l.length - (intOf i).toNat)
  case atStart => exact ⟨0, 0, by omega, rfl, rfl, rfl, World.grownBy_alloc w _ none, Blk.new _ _ _⟩
  case round =>
    obtain ⟨k, m, hk, rfl, rfl, HM, hG, hW⟩ := hrel
    have hmb := manyI_bd (l.take k) a zt
    rw [← HM.out] at hmb
    have hml : (l.take k).length ≤ l.length := List.length_take_le' _ _
    obtain ⟨m0, m1⟩ := hmb
    by_cases hlt : k < l.length
    · obtain ⟨g, rfl, _, _⟩ := HA.out (by omega)
      have hkl : (k : Int) < (l.length : Int) := by omega
      have cx := (HL.out.grown hG).at_ k hlt
      have hs := manyI_snoc l a zt k hlt
      have b0 : wr.cell? ⟨w.heap.size, 0, none⟩ = some (.int .i64 a) := hW.cell 0
      have b1 : wr.cell? ⟨w.heap.size, 1, none⟩ = some (.int .i64 zt) := hW.cell 1
      obtain ⟨x, hx⟩ : ∃ x, x = l[k] := ⟨_, rfl⟩
      rw [← hx] at cx hs
      rw [← HM.out] at hs
      have HS := Lib.hid hs
      clear hx hs
      go_wp2_with fail
      refine (inside_any _ _ _ _).mono ?_
      rintro _ w2 ⟨rfl, hg2⟩
      have hG2 := gr_trans hG hg2
      have hW2 := hW.grown hg2 (by simp)
      go_wp2_with fail
      refine (truth_any _ _).mono ?_
      rintro _ _ ⟨rfl, rfl⟩
      obtain ⟨t, ht, t0, t1⟩ : ∃ t, truthI (hasB a zt x) = t ∧ 0 ≤ t ∧ t ≤ 1 := ⟨_, rfl, by unfold truthI; split <;> omega, by unfold truthI; split <;> omega⟩
      rw [ht]
      have HT := Lib.hid ht
      clear ht
      go_wp2_with fail
      go_roundw
      case rel => exact ⟨k + 1, m + t, by omega, by go_num, rfl, by show _ = _; rw [HS.out, HT.out], hG2, hW2⟩
      case measure => simp [intOf]; omega
    · have hkl : ¬ (k : Int) < (l.length : Int) := by omega
      have hf : l.take k = l := List.take_of_length_le (by omega)
      have HF : Hid (m = manyI l a zt) := by show _ = _; rw [HM.out, hf]
      clear hf
      go_wp2_with fail
      go_ret
      exact ⟨ret_of HF.out, hG⟩

def winE (a zt : Int) : Int := if a < 0 ∨ zt < a ∨ 345686400000 < zt then 1 else 0
theorem winE_1 {a zt : Int} (h : a < 0 ∨ zt < a ∨ 345686400000 < zt) : winE a zt = 1 := by unfold winE; rw [if_pos h]
theorem winE_0 {a zt : Int} (h : ¬ (a < 0 ∨ zt < a ∨ 345686400000 < zt)) : winE a zt = 0 := by unfold winE; rw [if_neg h]

def hoursE (a zt : Int) : Int := if 1000 < hoursI a zt then 2 else 0
def longE (n : Int) : Int := spanE n 60000 86400000
theorem longE_cases (n : Int) : (longE n = 0 ∧ outB n 60000 86400000 = false ∧ 60000 ≤ n ∧ n ≤ 86400000) ∨ (longE n = 1 ∧ outB n 60000 86400000 = true) := by
  unfold longE
  rcases spanE_cases n 60000 86400000 with ⟨h, h1, h2⟩ | ⟨h, h1⟩
  · exact .inl ⟨h, outB_no h1 h2, h1, h2⟩
  · exact .inr ⟨h, outB_yes h1⟩
set_option maxHeartbeats 400000 in
theorem isLong_any (n : Int) (w : World) :
    Calls Try.prog 59 #[.int .i64 n] w fun e w' => e = .returned (.bool (!outB n 60000 86400000)) ∧ w = w' := by
  go_enter Try.func59, Try.ntmps59
  go_wp2_with fail
  refine (outside_any _ _ _ _).mono ?_
  rintro e w' ⟨rfl, rfl⟩
  go_wp2_with fail
  go_ret
  exact ⟨rfl, rfl⟩
end Go.Proofs.Ytlbhphfmckhimaa

namespace Go.Proofs.Ytlbhphfmckhimaa
open Go.RowKit
set_option linter.unusedVariables false

theorem ret_agg2 {a b c d : Int} (h : a = b) (h' : c = d) : Ending.returned (.agg #[.int .i64 a, .int .i64 c]) = .returned (.agg #[.int .i64 b, .int .i64 d]) := by rw [h, h']

/-- A fraction in lowest terms. -/
def lowN (num den : Int) : Int := num / gcdN num den
def lowD (num den : Int) : Int := den / gcdN num den
theorem gcdN_pos {num den : Int} (h : 0 < den) : 1 ≤ gcdN num den ∧ gcdN num den ≤ den := by
  unfold gcdN
  have h1 := Nat.gcd_pos_of_pos_right num.toNat (show 0 < den.toNat by omega)
  have h2 := Nat.gcd_le_right num.toNat (show 0 < den.toNat by omega)
  omega
theorem gcd_step (m n : Nat) : Nat.gcd n (m % n) = Nat.gcd m n := by
  rw [Nat.gcd_comm m n, Nat.gcd_rec n m, Nat.gcd_comm]

/-- The last milliseconds before a moment. -/
def lastA (a at_ long : Int) : Int := max a (at_ - long)
def lastT (zt at_ : Int) : Int := min zt at_

end Go.Proofs.Ytlbhphfmckhimaa

namespace Go.Proofs.Ytlbhphfmckhimaa
open Go.RowKit
set_option linter.unusedVariables false

theorem gr_of_drew {w w' : World} {row : Option Nat} (h : w.drew.grownBy w' row) : w.grownBy w' row := ⟨h.os, h.tape, h.output, h.size, h.block⟩
theorem TimesOk.E0 {l : List Int} {a zt : Int} (h : timesE l a zt = 0) : (timesE l a zt != 0) = false := by rw [h]; rfl

/-- The error of a moment and a length. -/
def mlE (at_ long : Int) : Int := if momE at_ = 0 then longE long else momE at_
theorem mlE_01 (at_ long : Int) : (mlE at_ long = 0 ∧ momE at_ = 0 ∧ longE long = 0) ∨ mlE at_ long = 1 := by
  unfold mlE
  rcases momE_cases at_ with h | h <;> rcases longE_cases long with h2 | h2 <;> simp [h.1, h2.1]
def lastE (l : List Int) (a zt at_ long : Int) : Int := if timesE l a zt = 0 then mlE at_ long else timesE l a zt

end Go.Proofs.Ytlbhphfmckhimaa
