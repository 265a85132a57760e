/- The walks over the errors of times and windows, over how many moments are before one or in a window, in package rate and in the reference. Condition: times that are counted by search are sorted. -/
import Derived.Test.YtjhklpffmfdkbaaRatePlain
import Derived.Test.YtjhklpffmfdkbaaInts
import Derived.Test.YtjhklpffmfdkbaaShelf
namespace Go.Proofs.Ytjhklpffmfdkbaa
open Go.RowKit
set_option linter.unusedVariables false

theorem timeB_yes {a to : Int} (h : 0 ≤ a ∧ a < to ∧ to ≤ 345686400000) : timeB a to = true := by unfold timeB; simpa using h
theorem timeB_no {a to : Int} (h : ¬ (0 ≤ a ∧ a < to ∧ to ≤ 345686400000)) : timeB a to = false := by unfold timeB; simpa using h

set_option maxHeartbeats 400000 in
theorem isTime_any (a to : Int) (w : World) (hto : -1152921504606846976 ≤ to) (hto2 : to ≤ 1152921504606846976) :
    Calls Try.prog 54 #[.agg #[.int .i64 a, .int .i64 to]] w fun r w' => r = .returned (.bool (timeB a to)) ∧ w.grownBy w' none := by
  by_cases h1 : 0 ≤ a ∧ a ≤ to - 1
  · have hb : outB a 0 (to - 1) = false := outB_no h1.1 h1.2
    have HE : Hid (timeB a to = decide (to ≤ 345686400000)) := by
      show _ = _
      unfold timeB
      by_cases h : to ≤ 345686400000 <;> simp [h] <;> omega
    go_enter Try.func54, Try.ntmps54
    go_wp2_with fail
    refine (outside_any _ _ _ _).mono ?_
    rintro r w' ⟨rfl, rfl⟩
    go_wp2_with fail
    go_ret
    exact ⟨ret_b HE.out.symm, gr_alloc (gr_refl _ _) _⟩
  · have hb : outB a 0 (to - 1) = true := outB_yes (by omega)
    have HE := Lib.hid (timeB_no (a := a) (to := to) (by omega))
    go_enter Try.func54, Try.ntmps54
    go_wp2_with fail
    refine (outside_any _ _ _ _).mono ?_
    rintro r w' ⟨rfl, rfl⟩
    go_wp2_with fail
    go_ret
    exact ⟨ret_b HE.out.symm, gr_alloc (gr_refl _ _) _⟩

set_option maxHeartbeats 400000 in
theorem timeFault_any (a to : Int) (w : World) :
    Calls Try.prog 52 #[.agg #[.int .i64 a, .int .i64 to]] w fun r w' => r = .returned (.int .i64 (timeE a to)) ∧ w.grownBy w' none := by
  by_cases k1 : a < 0
  · have HE : Hid (timeE a to = 1) := by show _ = _; unfold timeE; rw [timeB_no (by omega)]; rfl
    go_enter Try.func52, Try.ntmps52
    go_wp2_with fail
    go_ret
    exact ⟨ret_of HE.out.symm, gr_alloc (gr_refl _ _) _⟩
  by_cases k2 : to ≤ a
  · have HE : Hid (timeE a to = 1) := by show _ = _; unfold timeE; rw [timeB_no (by omega)]; rfl
    go_enter Try.func52, Try.ntmps52
    go_wp2_with fail
    go_ret
    exact ⟨ret_of HE.out.symm, gr_alloc (gr_refl _ _) _⟩
  by_cases k3 : 345686400000 < to
  · have HE : Hid (timeE a to = 1) := by show _ = _; unfold timeE; rw [timeB_no (by omega)]; rfl
    go_enter Try.func52, Try.ntmps52
    go_wp2_with fail
    go_ret
    exact ⟨ret_of HE.out.symm, gr_alloc (gr_refl _ _) _⟩
  · have HE : Hid (timeE a to = 0) := by show _ = _; unfold timeE; rw [timeB_yes (by omega)]; rfl
    go_enter Try.func52, Try.ntmps52
    go_wp2_with fail
    go_ret
    exact ⟨ret_of HE.out.symm, gr_alloc (gr_refl _ _) _⟩

theorem hasB_of {a to x : Int} (h : a ≤ x) : hasB a to x = decide (x < to) := by unfold hasB; simp [h]
theorem hasB_no {a to x : Int} (h : ¬ a ≤ x) : hasB a to x = false := by unfold hasB; simp [h]

set_option maxHeartbeats 400000 in
theorem has_any (a to x : Int) (w : World) :
    Calls Try.prog 55 #[.agg #[.int .i64 a, .int .i64 to], .int .i64 x] w fun r w' => r = .returned (.bool (hasB a to x)) ∧ w.grownBy w' none := by
  by_cases k1 : a ≤ x
  · have HE := Lib.hid (hasB_of (to := to) k1)
    go_enter Try.func55, Try.ntmps55
    go_wp2_with fail
    go_ret
    exact ⟨ret_b HE.out.symm, gr_alloc (gr_refl _ _) _⟩
  · have HE := Lib.hid (hasB_no (to := to) k1)
    go_enter Try.func55, Try.ntmps55
    go_wp2_with fail
    go_ret
    exact ⟨ret_b HE.out.symm, gr_alloc (gr_refl _ _) _⟩

set_option maxHeartbeats 400000 in
theorem inside_any (a to x : Int) (w : World) :
    Calls Try.prog 53 #[.agg #[.int .i64 a, .int .i64 to], .int .i64 x] w fun r w' => r = .returned (.bool (hasB a to x)) ∧ w.grownBy w' none := by
  by_cases k1 : a ≤ x
  · have HE := Lib.hid (hasB_of (to := to) k1)
    go_enter Try.func53, Try.ntmps53
    go_wp2_with fail
    go_ret
    exact ⟨ret_b HE.out.symm, gr_alloc (gr_refl _ _) _⟩
  · have HE := Lib.hid (hasB_no (to := to) k1)
    go_enter Try.func53, Try.ntmps53
    go_wp2_with fail
    go_ret
    exact ⟨ret_b HE.out.symm, gr_alloc (gr_refl _ _) _⟩

def truthI (b : Bool) : Int := if b then 1 else 0
set_option maxHeartbeats 400000 in
theorem truth_any (b : Bool) (w : World) :
    Calls Try.prog 93 #[.bool b] w fun r w' => r = .returned (.int .i64 (truthI b)) ∧ w = w' := by
  cases b
  all_goals
    go_enter Try.func93, Try.ntmps93
    go_wp2_with fail
    go_ret
    exact ⟨rfl, rfl⟩

/-- The element before place k. -/
def prevI (l : List Int) (k : Nat) : Option Int := if k = 0 then none else l[k - 1]?
theorem prevI_succ (l : List Int) (k : Nat) (h : k < l.length) : prevI l (k + 1) = some l[k] := by unfold prevI; simp [h]
theorem prevI_pos (l : List Int) (k : Nat) (h0 : 0 < k) (h : k < l.length) : prevI l k = some (l[k - 1]'(by omega)) := by
  unfold prevI; rw [if_neg (by omega)]; exact List.getElem?_eq_getElem (by omega)
theorem scanT_bad {a to x : Int} {p : Option Int} {r : List Int} (h : hasB a to x = false) : scanT a to p (x :: r) = 1 := by simp [scanT, h]
theorem scanT_order {a to x y : Int} {r : List Int} (h : hasB a to x = true) (hxy : x < y) : scanT a to (some y) (x :: r) = 7 := by simp [scanT, h, hxy]
theorem scanT_next {a to x : Int} {p : Option Int} {r : List Int} (h : hasB a to x = true) (hp : ∀ y, p = some y → ¬ x < y) : scanT a to p (x :: r) = scanT a to (some x) r := by
  cases p with
  | none => simp [scanT, h]
  | some y => have := hp y rfl; simp [scanT, h]; omega

set_option maxHeartbeats 2000000 in
theorem checkTimes_any (base : Nat) (v : Value) (l : List Int) (a to : Int) (w : World) (hl : IntsFrom base w v l) (hto : -1152921504606846976 ≤ to) (hto2 : to ≤ 1152921504606846976) :
    Calls Try.prog 9 #[v, .agg #[.int .i64 a, .int .i64 to]] w fun r w' => r = .returned (.int .i64 (timesE l a to)) ∧ w.grownBy w' none := by
  obtain ⟨A, c, rfl, hlen, hA⟩ := hl.shape
  rcases hb : timeB a to
  · have HE : Hid (timesE l a to = 1) := by show _ = _; unfold timesE; rw [if_pos hb]
    go_enter Try.func9, Try.ntmps9
    go_wp2_with fail
    refine (isTime_any _ _ _ hto hto2).mono ?_
    rintro r w1 ⟨rfl, hg1⟩
    go_wp2_with fail
    go_ret
    exact ⟨ret_of HE.out.symm, gr_trans (World.grownBy_alloc w _ none) hg1⟩
  · by_cases hbig : 2000 < l.length
    · have HE : Hid (timesE l a to = 2) := by show _ = _; unfold timesE; rw [if_neg (by simp [hb]), if_pos hbig]
      have hbig' : (2000 : Int) < (l.length : Int) := by omega
      go_enter Try.func9, Try.ntmps9
      go_wp2_with fail
      refine (isTime_any _ _ _ hto hto2).mono ?_
      rintro r w1 ⟨rfl, hg1⟩
      go_wp2_with fail
      go_ret
      exact ⟨ret_of HE.out.symm, gr_trans (World.grownBy_alloc w _ none) hg1⟩
    · have HE : Hid (timesE l a to = scanT a to none l) := by show _ = _; unfold timesE; rw [if_neg (by simp [hb]), if_neg hbig]
      have hbig' : ¬ (2000 : Int) < (l.length : Int) := by omega
      have HL := Lib.hid hl
      clear hl
      go_enter Try.func9, Try.ntmps9
      go_wp2_with fail
      refine (isTime_any _ _ _ hto hto2).mono ?_
      rintro r w1 ⟨rfl, hg1⟩
      have hw1 := (Blk.new w 27 #[.int .i64 a, .int .i64 to]).grown hg1 (by simp)
      have hG1 := gr_trans (World.grownBy_alloc w (.cells #[.int .i64 a, .int .i64 to] 27) none) hg1
      clear hg1
      go_wp2_with fail
      go_loopw [15] (fun i wr => ∃ k : Nat, k ≤ l.length ∧ i = .int .i64 k ∧ Hid (scanT a to none l = scanT a to (prevI l k) (l.drop k)) ∧ w.grownBy wr none ∧ Blk wr w.heap.size 27 #[.int .i64 a, .int .i64 to]) (fun i _ => l.length - (intOf i).toNat)
      case atStart => exact ⟨0, by omega, rfl, rfl, hG1, hw1⟩
      case round =>
        obtain ⟨k, hk, rfl, HR, hG, hW⟩ := hrel
        by_cases hlt : k < l.length
        · obtain ⟨g, rfl, hg0, hg1⟩ := hA (by omega)
          have hkl : (k : Int) < (l.length : Int) := by omega
          have cx := (HL.out.grown hG).at_ k hlt
          have b0 : wr.cell? ⟨w.heap.size, 0, none⟩ = some (.int .i64 a) := hW.cell 0
          have b1 : wr.cell? ⟨w.heap.size, 1, none⟩ = some (.int .i64 to) := hW.cell 1
          have hd := List.drop_eq_getElem_cons hlt
          have hpn := prevI_succ l k hlt
          have hpk := fun h0 => prevI_pos l k h0 hlt
          have HN : Hid (scanT a to none l = scanT a to (prevI l k) (l[k] :: l.drop (k + 1))) := by show _ = _; rw [HR.out, hd]
          have HP := Lib.hid hpn
          have HQ := Lib.hid hpk
          clear hd hpn hpk
          have cp : 0 < k → wr.cell? ⟨g, k - 1, none⟩ = some (.int .i64 (l[k - 1]'(by omega))) := fun h0 => (HL.out.grown hG).at_ (k - 1) (by omega)
          obtain ⟨x, hx⟩ : ∃ x, x = l[k] := ⟨_, rfl⟩
          rw [← hx] at cx HN HP
          clear hx HR
          rcases hh : hasB a to x
          · have HF := Lib.hid (HN.out.trans (scanT_bad hh))
            go_wp2_with fail
            refine (has_any _ _ _ _).mono ?_
            rintro _ w2 ⟨rfl, hg2⟩
            go_wp2_with fail
            go_ret
            exact ⟨ret_of (HE.out.trans HF.out).symm, gr_trans hG hg2⟩
          · by_cases h0 : 0 < k
            · have c1 := cp h0
              have hq := HQ.out h0
              obtain ⟨y, hy⟩ : ∃ y, y = l[k - 1]'(by omega) := ⟨_, rfl⟩
              rw [← hy] at c1 hq
              have HY := Lib.hid hq
              clear hy cp hq HQ
              obtain ⟨m, rfl⟩ : ∃ m, k = m + 1 := ⟨k - 1, by omega⟩
              have c2 : wr.cell? ⟨g, m, none⟩ = some (.int .i64 y) := c1
              clear c1
              have hkp : (0 : Int) < ((m + 1 : Nat) : Int) := by omega
              by_cases hxy : x < y
              · have HF : Hid (scanT a to none l = 7) := by show _ = _; rw [HN.out, HY.out]; exact scanT_order hh hxy
                go_wp2_with fail
                refine (has_any _ _ _ _).mono ?_
                rintro _ w2 ⟨rfl, hg2⟩
                have c3 : w2.cell? ⟨g, m, none⟩ = some (.int .i64 y) := hg2.cell c2 (by simp)
                clear c2
                go_wp2_with fail
                go_ret
                exact ⟨ret_of (HE.out.trans HF.out).symm, gr_trans hG hg2⟩
              · have HF : Hid (scanT a to none l = scanT a to (prevI l (m + 1 + 1)) (l.drop (m + 1 + 1))) := by
                  show _ = _
                  rw [HN.out, HP.out, HY.out]
                  exact scanT_next hh (fun z hz => by injection hz with hz; omega)
                go_wp2_with fail
                refine (has_any _ _ _ _).mono ?_
                rintro _ w2 ⟨rfl, hg2⟩
                have c3 : w2.cell? ⟨g, m, none⟩ = some (.int .i64 y) := hg2.cell c2 (by simp)
                clear c2
                have hG2 := gr_trans hG hg2
                have hW2 := hW.grown hg2 (by simp)
                go_wp2_with fail
                go_roundw
                case rel => exact ⟨m + 1 + 1, by omega, by go_num, HF, hG2, hW2⟩
                case measure => simp [intOf]; omega
            · obtain rfl : k = 0 := by omega
              have HF : Hid (scanT a to none l = scanT a to (prevI l (0 + 1)) (l.drop (0 + 1))) := by
                show _ = _
                rw [HN.out, HP.out]
                exact scanT_next hh (fun z hz => by simp [prevI] at hz)
              clear cp HQ
              go_wp2_with fail
              refine (has_any _ _ _ _).mono ?_
              rintro _ w2 ⟨rfl, hg2⟩
              have hG2 := gr_trans hG hg2
              have hW2 := hW.grown hg2 (by simp)
              go_wp2_with fail
              go_roundw
              case rel => exact ⟨0 + 1, by omega, by go_num, HF, hG2, hW2⟩
              case measure => simp [intOf]; omega
        · have HF : Hid (scanT a to none l = 0) := by
            show _ = _
            rw [HR.out, List.drop_of_length_le (by omega)]
            cases prevI l k <;> rfl
          have hkl : ¬ (k : Int) < (l.length : Int) := by omega
          go_wp2_with fail
          go_ret
          exact ⟨ret_of (HE.out.trans HF.out).symm, hG⟩
set_option maxHeartbeats 2000000 in
theorem timesFault_any (base : Nat) (v : Value) (l : List Int) (a to : Int) (w : World) (hl : IntsFrom base w v l) :
    Calls Try.prog 8 #[v, .agg #[.int .i64 a, .int .i64 to]] w fun r w' => r = .returned (.int .i64 (timesE l a to)) ∧ w.grownBy w' none := by
  obtain ⟨A, c, rfl, hlen, hA⟩ := hl.shape
  rcases hb : timeB a to
  · have ht : timeE a to = 1 := by unfold timeE; rw [hb]; rfl
    have HE : Hid (timesE l a to = 1) := by show _ = _; unfold timesE; rw [if_pos hb]
    go_enter Try.func8, Try.ntmps8
    go_wp2_with fail
    refine (timeFault_any _ _ _).mono ?_
    rintro r w1 ⟨rfl, hg1⟩
    go_wp2_with fail
    go_ret
    exact ⟨ret_of HE.out.symm, gr_trans (World.grownBy_alloc w _ none) hg1⟩
  · have ht : timeE a to = 0 := by unfold timeE; rw [hb]; rfl
    by_cases hbig : 2000 < l.length
    · have HE : Hid (timesE l a to = 2) := by show _ = _; unfold timesE; rw [if_neg (by simp [hb]), if_pos hbig]
      have hbig' : (2000 : Int) < (l.length : Int) := by omega
      go_enter Try.func8, Try.ntmps8
      go_wp2_with fail
      refine (timeFault_any _ _ _).mono ?_
      rintro r w1 ⟨rfl, hg1⟩
      go_wp2_with fail
      go_ret
      exact ⟨ret_of HE.out.symm, gr_trans (World.grownBy_alloc w _ none) hg1⟩
    · have HE : Hid (timesE l a to = scanT a to none l) := by show _ = _; unfold timesE; rw [if_neg (by simp [hb]), if_neg hbig]
      have hbig' : ¬ (2000 : Int) < (l.length : Int) := by omega
      have HL := Lib.hid hl
      clear hl
      go_enter Try.func8, Try.ntmps8
      go_wp2_with fail
      refine (timeFault_any _ _ _).mono ?_
      rintro r w1 ⟨rfl, hg1⟩
      have hw1 := (Blk.new w 27 #[.int .i64 a, .int .i64 to]).grown hg1 (by simp)
      have hG1 := gr_trans (World.grownBy_alloc w (.cells #[.int .i64 a, .int .i64 to] 27) none) hg1
      clear hg1
      go_wp2_with fail
      go_loopw [18] (fun i wr => ∃ k : Nat, k ≤ l.length ∧ i = .int .i64 k ∧ Hid (scanT a to none l = scanT a to (prevI l k) (l.drop k)) ∧ w.grownBy wr none ∧ Blk wr w.heap.size 27 #[.int .i64 a, .int .i64 to]) (fun i _ => l.length - (intOf i).toNat)
      case atStart => exact ⟨0, by omega, rfl, rfl, hG1, hw1⟩
      case round =>
        obtain ⟨k, hk, rfl, HR, hG, hW⟩ := hrel
        by_cases hlt : k < l.length
        · obtain ⟨g, rfl, hg0, hg1⟩ := hA (by omega)
          have hkl : (k : Int) < (l.length : Int) := by omega
          have cx := (HL.out.grown hG).at_ k hlt
          have b0 : wr.cell? ⟨w.heap.size, 0, none⟩ = some (.int .i64 a) := hW.cell 0
          have b1 : wr.cell? ⟨w.heap.size, 1, none⟩ = some (.int .i64 to) := hW.cell 1
          have hd := List.drop_eq_getElem_cons hlt
          have hpn := prevI_succ l k hlt
          have hpk := fun h0 => prevI_pos l k h0 hlt
          have HN : Hid (scanT a to none l = scanT a to (prevI l k) (l[k] :: l.drop (k + 1))) := by show _ = _; rw [HR.out, hd]
          have HP := Lib.hid hpn
          have HQ := Lib.hid hpk
          clear hd hpn hpk
          have cp : 0 < k → wr.cell? ⟨g, k - 1, none⟩ = some (.int .i64 (l[k - 1]'(by omega))) := fun h0 => (HL.out.grown hG).at_ (k - 1) (by omega)
          obtain ⟨x, hx⟩ : ∃ x, x = l[k] := ⟨_, rfl⟩
          rw [← hx] at cx HN HP
          clear hx HR
          rcases hh : hasB a to x
          · have HF := Lib.hid (HN.out.trans (scanT_bad hh))
            go_wp2_with fail
            refine (inside_any _ _ _ _).mono ?_
            rintro _ w2 ⟨rfl, hg2⟩
            go_wp2_with fail
            go_ret
            exact ⟨ret_of (HE.out.trans HF.out).symm, gr_trans hG hg2⟩
          · by_cases h0 : 0 < k
            · have c1 := cp h0
              have hq := HQ.out h0
              obtain ⟨y, hy⟩ : ∃ y, y = l[k - 1]'(by omega) := ⟨_, rfl⟩
              rw [← hy] at c1 hq
              have HY := Lib.hid hq
              clear hy cp hq HQ
              obtain ⟨m, rfl⟩ : ∃ m, k = m + 1 := ⟨k - 1, by omega⟩
              have c2 : wr.cell? ⟨g, m, none⟩ = some (.int .i64 y) := c1
              clear c1
              have hkp : (0 : Int) < ((m + 1 : Nat) : Int) := by omega
              by_cases hxy : x < y
              · have HF : Hid (scanT a to none l = 7) := by show _ = _; rw [HN.out, HY.out]; exact scanT_order hh hxy
                go_wp2_with fail
                refine (inside_any _ _ _ _).mono ?_
                rintro _ w2 ⟨rfl, hg2⟩
                have c3 : w2.cell? ⟨g, m, none⟩ = some (.int .i64 y) := hg2.cell c2 (by simp)
                clear c2
                go_wp2_with fail
                go_ret
                exact ⟨ret_of (HE.out.trans HF.out).symm, gr_trans hG hg2⟩
              · have HF : Hid (scanT a to none l = scanT a to (prevI l (m + 1 + 1)) (l.drop (m + 1 + 1))) := by
                  show _ = _
                  rw [HN.out, HP.out, HY.out]
                  exact scanT_next hh (fun z hz => by injection hz with hz; omega)
                go_wp2_with fail
                refine (inside_any _ _ _ _).mono ?_
                rintro _ w2 ⟨rfl, hg2⟩
                have c3 : w2.cell? ⟨g, m, none⟩ = some (.int .i64 y) := hg2.cell c2 (by simp)
                clear c2
                have hG2 := gr_trans hG hg2
                have hW2 := hW.grown hg2 (by simp)
                go_wp2_with fail
                go_roundw
                case rel => exact ⟨m + 1 + 1, by omega, by go_num, HF, hG2, hW2⟩
                case measure => simp [intOf]; omega
            · obtain rfl : k = 0 := by omega
              have HF : Hid (scanT a to none l = scanT a to (prevI l (0 + 1)) (l.drop (0 + 1))) := by
                show _ = _
                rw [HN.out, HP.out]
                exact scanT_next hh (fun z hz => by simp [prevI] at hz)
              clear cp HQ
              go_wp2_with fail
              refine (inside_any _ _ _ _).mono ?_
              rintro _ w2 ⟨rfl, hg2⟩
              have hG2 := gr_trans hG hg2
              have hW2 := hW.grown hg2 (by simp)
              go_wp2_with fail
              go_roundw
              case rel => exact ⟨0 + 1, by omega, by go_num, HF, hG2, hW2⟩
              case measure => simp [intOf]; omega
        · have HF : Hid (scanT a to none l = 0) := by
            show _ = _
            rw [HR.out, List.drop_of_length_le (by omega)]
            cases prevI l k <;> rfl
          have hkl : ¬ (k : Int) < (l.length : Int) := by omega
          go_wp2_with fail
          go_ret
          exact ⟨ret_of (HE.out.trans HF.out).symm, hG⟩
end Go.Proofs.Ytjhklpffmfdkbaa
