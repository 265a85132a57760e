/- The walks over the errors of times and windows, over how many moments are before one or in a window, in package rate and in the reference. Condition: times that are counted by search are sorted. -/
import Derived.Test.YtjhklpffmfdkbaaGreatDoorRatePlain
import Derived.Test.YtjhklpffmfdkbaaGreatDoorInts
import Derived.Test.YtjhklpffmfdkbaaGreatDoorShelf
namespace Go.Proofs.YtjhklpffmfdkbaaGreatDoor
open Go.RowKit
set_option linter.unusedVariables false

theorem timeB_yes {a zt : Int} (h : 0 ≤ a ∧ a < zt ∧ zt ≤ 345686400000) : timeB a zt = true := by unfold timeB; simpa using h
theorem timeB_no {a zt : Int} (h : ¬ (0 ≤ a ∧ a < zt ∧ zt ≤ 345686400000)) : timeB a zt = false := by unfold timeB; simpa using h

set_option maxHeartbeats 400000 in
theorem isTime_any (a zt : Int) (w : World) (hto : -1152921504606846976 ≤ zt) (hto2 : zt ≤ 1152921504606846976) :
    Calls Tryz.prog 48 #[.agg #[.int .i64 a, .int .i64 zt]] w fun r w' => r = .returned (.bool (timeB a zt)) ∧ w.grownBy w' none := by
  by_cases h1 : 0 ≤ a ∧ a ≤ zt - 1
  · have hb : outB a 0 (zt - 1) = false := outB_no h1.1 h1.2
    have HE : Hid (timeB a zt = decide (zt ≤ 345686400000)) := by
      show _ = _
      unfold timeB
      by_cases h : zt ≤ 345686400000 <;> simp [h] <;> omega
    go_enter Tryz.func48, Tryz.ntmps48
    go_wp2_with fail
    refine (outside_any _ _ _ _).mono ?_
    rintro r w' ⟨rfl, rfl⟩
    go_wp2_with fail
    go_ret
    exact ⟨ret_b HE.out.symm, gr_alloc (gr_refl _ _) _⟩
  · have hb : outB a 0 (zt - 1) = true := outB_yes (by omega)
    have HE := Lib.hid (timeB_no (a := a) (zt := zt) (by omega))
    go_enter Tryz.func48, Tryz.ntmps48
    go_wp2_with fail
    refine (outside_any _ _ _ _).mono ?_
    rintro r w' ⟨rfl, rfl⟩
    go_wp2_with fail
    go_ret
    exact ⟨ret_b HE.out.symm, gr_alloc (gr_refl _ _) _⟩

set_option maxHeartbeats 400000 in
theorem timeFault_any (a zt : Int) (w : World) :
    Calls Tryz.prog 51 #[.agg #[.int .i64 a, .int .i64 zt]] w fun r w' => r = .returned (.int .i64 (timeE a zt)) ∧ w.grownBy w' none := by
  by_cases k1 : a < 0
  · have HE : Hid (timeE a zt = 1) := by show _ = _; unfold timeE; rw [timeB_no (by omega)]; rfl
    go_enter Tryz.func51, Tryz.ntmps51
    go_wp2_with fail
    go_ret
    exact ⟨ret_of HE.out.symm, gr_alloc (gr_refl _ _) _⟩
  by_cases k2 : zt ≤ a
  · have HE : Hid (timeE a zt = 1) := by show _ = _; unfold timeE; rw [timeB_no (by omega)]; rfl
    go_enter Tryz.func51, Tryz.ntmps51
    go_wp2_with fail
    go_ret
    exact ⟨ret_of HE.out.symm, gr_alloc (gr_refl _ _) _⟩
  by_cases k3 : 345686400000 < zt
  · have HE : Hid (timeE a zt = 1) := by show _ = _; unfold timeE; rw [timeB_no (by omega)]; rfl
    go_enter Tryz.func51, Tryz.ntmps51
    go_wp2_with fail
    go_ret
    exact ⟨ret_of HE.out.symm, gr_alloc (gr_refl _ _) _⟩
  · have HE : Hid (timeE a zt = 0) := by show _ = _; unfold timeE; rw [timeB_yes (by omega)]; rfl
    go_enter Tryz.func51, Tryz.ntmps51
    go_wp2_with fail
    go_ret
    exact ⟨ret_of HE.out.symm, gr_alloc (gr_refl _ _) _⟩

theorem hasB_of {a zt x : Int} (h : a ≤ x) : hasB a zt x = decide (x < zt) := by unfold hasB; simp [h]
theorem hasB_no {a zt x : Int} (h : ¬ a ≤ x) : hasB a zt x = false := by unfold hasB; simp [h]

set_option maxHeartbeats 400000 in
theorem has_any (a zt x : Int) (w : World) :
    Calls Tryz.prog 54 #[.agg #[.int .i64 a, .int .i64 zt], .int .i64 x] w fun r w' => r = .returned (.bool (hasB a zt x)) ∧ w.grownBy w' none := by
  by_cases k1 : a ≤ x
  · have HE := Lib.hid (hasB_of (zt := zt) k1)
    go_enter Tryz.func54, Tryz.ntmps54
    go_wp2_with fail
    go_ret
    exact ⟨ret_b HE.out.symm, gr_alloc (gr_refl _ _) _⟩
  · have HE := Lib.hid (hasB_no (zt := zt) k1)
    go_enter Tryz.func54, Tryz.ntmps54
    go_wp2_with fail
    go_ret
    exact ⟨ret_b HE.out.symm, gr_alloc (gr_refl _ _) _⟩

set_option maxHeartbeats 400000 in
theorem inside_any (a zt x : Int) (w : World) :
    Calls Tryz.prog 52 #[.agg #[.int .i64 a, .int .i64 zt], .int .i64 x] w fun r w' => r = .returned (.bool (hasB a zt x)) ∧ w.grownBy w' none := by
  by_cases k1 : a ≤ x
  · have HE := Lib.hid (hasB_of (zt := zt) k1)
    go_enter Tryz.func52, Tryz.ntmps52
    go_wp2_with fail
    go_ret
    exact ⟨ret_b HE.out.symm, gr_alloc (gr_refl _ _) _⟩
  · have HE := Lib.hid (hasB_no (zt := zt) k1)
    go_enter Tryz.func52, Tryz.ntmps52
    go_wp2_with fail
    go_ret
    exact ⟨ret_b HE.out.symm, gr_alloc (gr_refl _ _) _⟩

def truthI (b : Bool) : Int := if b then 1 else 0
/-- The element before place k. -/
def prevI (l : List Int) (k : Nat) : Option Int := if k = 0 then none else l[k - 1]?
theorem prevI_succ (l : List Int) (k : Nat) (h : k < l.length) : prevI l (k + 1) = some l[k] := by unfold prevI; simp [h]
theorem prevI_pos (l : List Int) (k : Nat) (h0 : 0 < k) (h : k < l.length) : prevI l k = some (l[k - 1]'(by omega)) := by
  unfold prevI; rw [if_neg (by omega)]; exact List.getElem?_eq_getElem (by omega)
theorem scanT_bad {a zt x : Int} {p : Option Int} {r : List Int} (h : hasB a zt x = false) : scanT a zt p (x :: r) = 1 := by simp [scanT, h]
theorem scanT_order {a zt x y : Int} {r : List Int} (h : hasB a zt x = true) (hxy : x < y) : scanT a zt (some y) (x :: r) = 7 := by simp [scanT, h, hxy]
theorem scanT_next {a zt x : Int} {p : Option Int} {r : List Int} (h : hasB a zt x = true) (hp : ∀ y, p = some y → ¬ x < y) : scanT a zt p (x :: r) = scanT a zt (some x) r := by
  cases p with
  | none => simp [scanT, h]
  | some y => have := hp y rfl; simp [scanT, h]; omega

set_option maxHeartbeats 2000000 in
theorem checkTimes_any (base : Nat) (v : Value) (l : List Int) (a zt : Int) (w : World) (hl : IntsFrom base w v l) (hto : -1152921504606846976 ≤ zt) (hto2 : zt ≤ 1152921504606846976) :
    Calls Tryz.prog 24 #[v, .agg #[.int .i64 a, .int .i64 zt]] w fun r w' => r = .returned (.int .i64 (timesE l a zt)) ∧ w.grownBy w' none := by
  obtain ⟨A, c, rfl, hlen, hA⟩ := hl.shape
  rcases hb : timeB a zt
  · have HE : Hid (timesE l a zt = 1) := by show _ = _; unfold timesE; rw [if_pos hb]
    go_enter Tryz.func24, Tryz.ntmps24
    go_wp2_with fail
    refine (isTime_any _ _ _ hto hto2).mono ?_
    rintro r w1 ⟨rfl, hg1⟩
    go_wp2_with fail
    go_ret
    exact ⟨ret_of HE.out.symm, gr_trans (World.grownBy_alloc w _ none) hg1⟩
  · by_cases hbig : 2000 < l.length
    · have HE : Hid (timesE l a zt = 2) := by show _ = _; unfold timesE; rw [if_neg (by simp [hb]), if_pos hbig]
      have hbig' : (2000 : Int) < (l.length : Int) := by omega
      go_enter Tryz.func24, Tryz.ntmps24
      go_wp2_with fail
      refine (isTime_any _ _ _ hto hto2).mono ?_
      rintro r w1 ⟨rfl, hg1⟩
      go_wp2_with fail
      go_ret
      exact ⟨ret_of HE.out.symm, gr_trans (World.grownBy_alloc w _ none) hg1⟩
    · have HE : Hid (timesE l a zt = scanT a zt none l) := by show _ = _; unfold timesE; rw [if_neg (by simp [hb]), if_neg hbig]
      have hbig' : ¬ (2000 : Int) < (l.length : Int) := by omega
      have HL := Lib.hid hl
      clear hl
      go_enter Tryz.func24, Tryz.ntmps24
      go_wp2_with fail
      refine (isTime_any _ _ _ hto hto2).mono ?_
      rintro r w1 ⟨rfl, hg1⟩
      have hw1 := (Blk.new w 27 #[.int .i64 a, .int .i64 zt]).grown hg1 (by simp)
      have hG1 := gr_trans (World.grownBy_alloc w (.cells #[.int .i64 a, .int .i64 zt] 27) none) hg1
      clear hg1
      go_wp2_with fail
      go_loopw [15] (fun i wr => ∃ k : Nat, k ≤ l.length ∧ i = .int .i64 k ∧ Hid (scanT a zt none l = scanT a zt (prevI l k) (l.drop k)) ∧ w.grownBy wr none ∧ Blk wr w.heap.size 27 #[.int .i64 a, .int .i64 zt]) (fun i _ => l.length - (intOf i).toNat)
      case atStart => exact ⟨0, by omega, rfl, rfl, hG1, hw1⟩
      case round =>
        obtain ⟨k, hk, rfl, HR, hG, hW⟩ := hrel
        by_cases hlt : k < l.length
        · obtain ⟨g, rfl, hg0, hg1⟩ := hA (by omega)
          have hkl : (k : Int) < (l.length : Int) := by omega
          have cx := (HL.out.grown hG).at_ k hlt
          have b0 : wr.cell? ⟨w.heap.size, 0, none⟩ = some (.int .i64 a) := hW.cell 0
          have b1 : wr.cell? ⟨w.heap.size, 1, none⟩ = some (.int .i64 zt) := hW.cell 1
          have hd := List.drop_eq_getElem_cons hlt
          have hpn := prevI_succ l k hlt
          have hpk := fun h0 => prevI_pos l k h0 hlt
          have HN : Hid (scanT a zt none l = scanT a zt (prevI l k) (l[k] :: l.drop (k + 1))) := by show _ = _; rw [HR.out, hd]
          have HP := Lib.hid hpn
          have HQ := Lib.hid hpk
          clear hd hpn hpk
          have cp : 0 < k → wr.cell? ⟨g, k - 1, none⟩ = some (.int .i64 (l[k - 1]'(by omega))) := fun h0 => (HL.out.grown hG).at_ (k - 1) (by omega)
          obtain ⟨x, hx⟩ : ∃ x, x = l[k] := ⟨_, rfl⟩
          rw [← hx] at cx HN HP
          clear hx HR
          rcases hh : hasB a zt x
          · have HF := Lib.hid (HN.out.trans (scanT_bad hh))
            go_wp2_with fail
            refine (has_any _ _ _ _).mono ?_
            rintro _ w2 ⟨rfl, hg2⟩
            go_wp2_with fail
            go_ret
            exact ⟨ret_of (HE.out.trans HF.out).symm, gr_trans hG hg2⟩
          · by_cases h0 : 0 < k
            · have c1 := cp h0
              have hq := HQ.out h0
              obtain ⟨y, hy⟩ : ∃ y, y = l[k - 1]'(by omega) := ⟨_, rfl⟩
              rw [← hy] at c1 hq
              have HY := Lib.hid hq
              clear hy cp hq HQ
              obtain ⟨m, rfl⟩ : ∃ m, k = m + 1 := ⟨k - 1, by omega⟩
              have c2 : wr.cell? ⟨g, m, none⟩ = some (.int .i64 y) := c1
              clear c1
              have hkp : (0 : Int) < ((m + 1 : Nat) : Int) := by omega
              by_cases hxy : x < y
              · have HF : Hid (scanT a zt none l = 7) := by show _ = _; rw [HN.out, HY.out]; exact scanT_order hh hxy
                go_wp2_with fail
                refine (has_any _ _ _ _).mono ?_
                rintro _ w2 ⟨rfl, hg2⟩
                have c3 : w2.cell? ⟨g, m, none⟩ = some (.int .i64 y) := hg2.cell c2 (by simp)
                clear c2
                go_wp2_with fail
                go_ret
                exact ⟨ret_of (HE.out.trans HF.out).symm, gr_trans hG hg2⟩
              · have HF : Hid (scanT a zt none l = scanT a zt (prevI l (m + 1 + 1)) (l.drop (m + 1 + 1))) := by
                  show _ = _
                  rw [HN.out, HP.out, HY.out]
                  exact scanT_next hh (fun z hz => by injection hz with hz; omega)
                go_wp2_with fail
                refine (has_any _ _ _ _).mono ?_
                rintro _ w2 ⟨rfl, hg2⟩
                have c3 : w2.cell? ⟨g, m, none⟩ = some (.int .i64 y) := hg2.cell c2 (by simp)
                clear c2
                have hG2 := gr_trans hG hg2
                have hW2 := hW.grown hg2 (by simp)
                go_wp2_with fail
                go_roundw
                case rel => exact ⟨m + 1 + 1, by omega, by go_num, HF, hG2, hW2⟩
                case measure => simp [intOf]; omega
            · obtain rfl : k = 0 := by omega
              have HF : Hid (scanT a zt none l = scanT a zt (prevI l (0 + 1)) (l.drop (0 + 1))) := by
                show _ = _
                rw [HN.out, HP.out]
                exact scanT_next hh (fun z hz => by simp [prevI] at hz)
              clear cp HQ
              go_wp2_with fail
              refine (has_any _ _ _ _).mono ?_
              rintro _ w2 ⟨rfl, hg2⟩
              have hG2 := gr_trans hG hg2
              have hW2 := hW.grown hg2 (by simp)
              go_wp2_with fail
              go_roundw
              case rel => exact ⟨0 + 1, by omega, by go_num, HF, hG2, hW2⟩
              case measure => simp [intOf]; omega
        · have HF : Hid (scanT a zt none l = 0) := by
            show _ = _
            rw [HR.out, List.drop_of_length_le (by omega)]
            cases prevI l k <;> rfl
          have hkl : ¬ (k : Int) < (l.length : Int) := by omega
          go_wp2_with fail
          go_ret
          exact ⟨ret_of (HE.out.trans HF.out).symm, hG⟩
set_option maxHeartbeats 2000000 in
theorem timesFault_any (base : Nat) (v : Value) (l : List Int) (a zt : Int) (w : World) (hl : IntsFrom base w v l) :
    Calls Tryz.prog 22 #[v, .agg #[.int .i64 a, .int .i64 zt]] w fun r w' => r = .returned (.int .i64 (timesE l a zt)) ∧ w.grownBy w' none := by
  obtain ⟨A, c, rfl, hlen, hA⟩ := hl.shape
  rcases hb : timeB a zt
  · have ht : timeE a zt = 1 := by unfold timeE; rw [hb]; rfl
    have HE : Hid (timesE l a zt = 1) := by show _ = _; unfold timesE; rw [if_pos hb]
    go_enter Tryz.func22, Tryz.ntmps22
    go_wp2_with fail
    refine (timeFault_any _ _ _).mono ?_
    rintro r w1 ⟨rfl, hg1⟩
    go_wp2_with fail
    go_ret
    exact ⟨ret_of HE.out.symm, gr_trans (World.grownBy_alloc w _ none) hg1⟩
  · have ht : timeE a zt = 0 := by unfold timeE; rw [hb]; rfl
    by_cases hbig : 2000 < l.length
    · have HE : Hid (timesE l a zt = 2) := by show _ = _; unfold timesE; rw [if_neg (by simp [hb]), if_pos hbig]
      have hbig' : (2000 : Int) < (l.length : Int) := by omega
      go_enter Tryz.func22, Tryz.ntmps22
      go_wp2_with fail
      refine (timeFault_any _ _ _).mono ?_
      rintro r w1 ⟨rfl, hg1⟩
      go_wp2_with fail
      go_ret
      exact ⟨ret_of HE.out.symm, gr_trans (World.grownBy_alloc w _ none) hg1⟩
    · have HE : Hid (timesE l a zt = scanT a zt none l) := by show _ = _; unfold timesE; rw [if_neg (by simp [hb]), if_neg hbig]
      have hbig' : ¬ (2000 : Int) < (l.length : Int) := by omega
      have HL := Lib.hid hl
      clear hl
      go_enter Tryz.func22, Tryz.ntmps22
      go_wp2_with fail
      refine (timeFault_any _ _ _).mono ?_
      rintro r w1 ⟨rfl, hg1⟩
      have hw1 := (Blk.new w 27 #[.int .i64 a, .int .i64 zt]).grown hg1 (by simp)
      have hG1 := gr_trans (World.grownBy_alloc w (.cells #[.int .i64 a, .int .i64 zt] 27) none) hg1
      clear hg1
      go_wp2_with fail
      go_loopw [18] (fun i wr => ∃ k : Nat, k ≤ l.length ∧ i = .int .i64 k ∧ Hid (scanT a zt none l = scanT a zt (prevI l k) (l.drop k)) ∧ w.grownBy wr none ∧ Blk wr w.heap.size 27 #[.int .i64 a, .int .i64 zt]) (fun i _ => l.length - (intOf i).toNat)
      case atStart => exact ⟨0, by omega, rfl, rfl, hG1, hw1⟩
      case round =>
        obtain ⟨k, hk, rfl, HR, hG, hW⟩ := hrel
        by_cases hlt : k < l.length
        · obtain ⟨g, rfl, hg0, hg1⟩ := hA (by omega)
          have hkl : (k : Int) < (l.length : Int) := by omega
          have cx := (HL.out.grown hG).at_ k hlt
          have b0 : wr.cell? ⟨w.heap.size, 0, none⟩ = some (.int .i64 a) := hW.cell 0
          have b1 : wr.cell? ⟨w.heap.size, 1, none⟩ = some (.int .i64 zt) := hW.cell 1
          have hd := List.drop_eq_getElem_cons hlt
          have hpn := prevI_succ l k hlt
          have hpk := fun h0 => prevI_pos l k h0 hlt
          have HN : Hid (scanT a zt none l = scanT a zt (prevI l k) (l[k] :: l.drop (k + 1))) := by show _ = _; rw [HR.out, hd]
          have HP := Lib.hid hpn
          have HQ := Lib.hid hpk
          clear hd hpn hpk
          have cp : 0 < k → wr.cell? ⟨g, k - 1, none⟩ = some (.int .i64 (l[k - 1]'(by omega))) := fun h0 => (HL.out.grown hG).at_ (k - 1) (by omega)
          obtain ⟨x, hx⟩ : ∃ x, x = l[k] := ⟨_, rfl⟩
          rw [← hx] at cx HN HP
          clear hx HR
          rcases hh : hasB a zt x
          · have HF := Lib.hid (HN.out.trans (scanT_bad hh))
            go_wp2_with fail
            refine (inside_any _ _ _ _).mono ?_
            rintro _ w2 ⟨rfl, hg2⟩
            go_wp2_with fail
            go_ret
            exact ⟨ret_of (HE.out.trans HF.out).symm, gr_trans hG hg2⟩
          · by_cases h0 : 0 < k
            · have c1 := cp h0
              have hq := HQ.out h0
              obtain ⟨y, hy⟩ : ∃ y, y = l[k - 1]'(by omega) := ⟨_, rfl⟩
              rw [← hy] at c1 hq
              have HY := Lib.hid hq
              clear hy cp hq HQ
              obtain ⟨m, rfl⟩ : ∃ m, k = m + 1 := ⟨k - 1, by omega⟩
              have c2 : wr.cell? ⟨g, m, none⟩ = some (.int .i64 y) := c1
              clear c1
              have hkp : (0 : Int) < ((m + 1 : Nat) : Int) := by omega
              by_cases hxy : x < y
              · have HF : Hid (scanT a zt none l = 7) := by show _ = _; rw [HN.out, HY.out]; exact scanT_order hh hxy
                go_wp2_with fail
                refine (inside_any _ _ _ _).mono ?_
                rintro _ w2 ⟨rfl, hg2⟩
                have c3 : w2.cell? ⟨g, m, none⟩ = some (.int .i64 y) := hg2.cell c2 (by simp)
                clear c2
                go_wp2_with fail
                go_ret
                exact ⟨ret_of (HE.out.trans HF.out).symm, gr_trans hG hg2⟩
              · have HF : Hid (scanT a zt none l = scanT a zt (prevI l (m + 1 + 1)) (l.drop (m + 1 + 1))) := by
                  show _ = _
                  rw [HN.out, HP.out, HY.out]
                  exact scanT_next hh (fun z hz => by injection hz with hz; omega)
                go_wp2_with fail
                refine (inside_any _ _ _ _).mono ?_
                rintro _ w2 ⟨rfl, hg2⟩
                have c3 : w2.cell? ⟨g, m, none⟩ = some (.int .i64 y) := hg2.cell c2 (by simp)
                clear c2
                have hG2 := gr_trans hG hg2
                have hW2 := hW.grown hg2 (by simp)
                go_wp2_with fail
                go_roundw
                case rel => exact ⟨m + 1 + 1, by omega, by go_num, HF, hG2, hW2⟩
                case measure => simp [intOf]; omega
            · obtain rfl : k = 0 := by omega
              have HF : Hid (scanT a zt none l = scanT a zt (prevI l (0 + 1)) (l.drop (0 + 1))) := by
                show _ = _
                rw [HN.out, HP.out]
                exact scanT_next hh (fun z hz => by simp [prevI] at hz)
              clear cp HQ
              go_wp2_with fail
              refine (inside_any _ _ _ _).mono ?_
              rintro _ w2 ⟨rfl, hg2⟩
              have hG2 := gr_trans hG hg2
              have hW2 := hW.grown hg2 (by simp)
              go_wp2_with fail
              go_roundw
              case rel => exact ⟨0 + 1, by omega, by go_num, HF, hG2, hW2⟩
              case measure => simp [intOf]; omega
        · have HF : Hid (scanT a zt none l = 0) := by
            show _ = _
            rw [HR.out, List.drop_of_length_le (by omega)]
            cases prevI l k <;> rfl
          have hkl : ¬ (k : Int) < (l.length : Int) := by omega
          go_wp2_with fail
          go_ret
          exact ⟨ret_of (HE.out.trans HF.out).symm, hG⟩
end Go.Proofs.YtjhklpffmfdkbaaGreatDoor
