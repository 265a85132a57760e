/- The walks over the reference's LocatorsFault and FarthestOf. Condition: a short list of short texts; for FarthestOf right locators. -/
import Derived.Test.YtnapbnkbchaanaaKeyB
import Derived.Test.YtnapbnkbchaanaaLocRight
import Derived.Test.YtnapbnkbchaanaaMidRef
import Derived.Test.YtnapbnkbchaanaaDistRef
namespace Go.Proofs.Ytnapbnkbchaanaa
open Go.RowKit
set_option linter.unusedVariables false

/-- The middle of a locator. -/
def signX (s : ByteArray) (k : Nat) : Int := ((s.data.toList.getD k 0).toNat : Int)
def midN (s : ByteArray) : Int := lowNo (signX s) (s.size / 2) + lvHigh (s.size / 2 - 1) / 2
def midE (s : ByteArray) : Int := lowEa (signX s) (s.size / 2) + lvWide (s.size / 2 - 1) / 2
theorem mid_bd {s : ByteArray} (h : locB s = true) : -324000 ≤ midN s ∧ midN s ≤ 324000 ∧ -648000 ≤ midE s ∧ midE s ≤ 648000 := by
  have H := locS_right h
  obtain ⟨b0, b1, b2⟩ := low_bd _ _ H.m3 H.ok _ (Nat.le_refl _)
  obtain ⟨b3, b4⟩ := b2 H.m0
  obtain ⟨-, -, -, -, w0, w1, g0, g1, -⟩ := lv_bd (s.size / 2 - 1) (by have := H.m3; have := H.m0; omega)
  unfold midN midE
  change -648000 ≤ lowEa (signX s) (s.size / 2) at b0
  change -324000 ≤ lowNo (signX s) (s.size / 2) at b1
  change lowEa (signX s) (s.size / 2) + _ ≤ _ at b3
  change lowNo (signX s) (s.size / 2) + _ ≤ _ at b4
  omega
theorem middleOf_right (s : ByteArray) (w : World) (h : locB s = true) :
    Calls Try.prog 65 #[.string s] w fun r w' => r = .returned (.agg #[.int .i64 (midN s), .int .i64 (midE s)]) ∧ w.grownBy w' none :=
  middleOf_ok s (signX s) (s.size / 2) w (locS_right h)
/-- How far it is from one locator to another one. -/
def farL (s t : ByteArray) : Int := distI (midN s) (midE s) (midN t) (midE t)
theorem farL_bd (s t : ByteArray) : 0 ≤ farL s t ∧ farL s t ≤ 2147483648 := rootI_bd _
def farTo (s : ByteArray) (l : List ByteArray) : Nat → Int × Int
  | 0 => (0, -1)
  | k + 1 => if farL s (l.getD k default) > (farTo s l k).2 then ((k : Int), farL s (l.getD k default)) else farTo s l k
theorem farTo_bd (s : ByteArray) (l : List ByteArray) : ∀ k : Nat, -1 ≤ (farTo s l k).2 ∧ (farTo s l k).2 ≤ 2147483648
  | 0 => ⟨by show (-1 : Int) ≤ -1; decide, by show (-1 : Int) ≤ 2147483648; decide⟩
  | k + 1 => by
      have h := farTo_bd s l k
      have g := farL_bd s (l.getD k default)
      unfold farTo
      split
      · exact ⟨by show -1 ≤ farL _ _; omega, g.2⟩
      · exact h

/-- The error of locators, of few. -/
def locsE (l : List ByteArray) : Int := if l.all fun s => locB s then 0 else 3
theorem all_take {l : List ByteArray} (k : Nat) (hk : k < l.length) : ((l.take (k + 1)).all fun s => locB s) = (((l.take k).all fun s => locB s) && locB l[k]) := by
  rw [List.take_succ_eq_append_getElem hk, List.all_append]
  simp

set_option maxHeartbeats 4000000 in
theorem locatorsFault_few (base : Nat) (v : Value) (l : List ByteArray) (w : World) (hl : StrsFrom base w v l) (hn : l.length ≤ 2000) (hall : ∀ t ∈ l, t.size ≤ 13 ∧ Ascii t) :
    Calls Try.prog 26 #[v] w fun r w' => r = .returned (.int .i64 (locsE l)) ∧ w.grownBy w' none := by
  obtain ⟨A, c, rfl, hlen, hA⟩ := hl.shape
  have HL := Lib.hid hl
  have HALL := Lib.hid hall
  have hn2 : ¬ (2000 < (l.length : Int)) := by omega
  clear hl hall
  go_enter Try.func26, Try.ntmps26
  go_wp2_with fail
  go_loopw [11] (fun i wr => ∃ k : Nat, k ≤ l.length ∧ i = .int .i64 k ∧ ((l.take k).all fun s => locB s) = true ∧ w.grownBy wr none) (fun i _ => l.length - (intOf i).toNat)
  case atStart => exact ⟨0, by omega, rfl, by simp, gr_refl _ _⟩
  case round =>
    obtain ⟨k, hk, rfl, hok, hgr⟩ := hrel
    have HOK := Lib.hid hok
    clear hok
    by_cases hlt : k < l.length
    · obtain ⟨g, rfl, hg0, hg1⟩ := hA (by omega)
      have hkl : (k : Int) < (l.length : Int) := by omega
      have c0 := (HL.out.grown hgr).at_ k hlt
      obtain ⟨hz, ha⟩ := HALL.out _ (List.getElem_mem hlt)
      have HST := Lib.hid (all_take k hlt)
      obtain ⟨s, hs⟩ : ∃ s, l[k] = s := ⟨_, rfl⟩
      rw [hs] at c0 hz ha HST
      have HSS := Lib.hid hs
      have HF := Lib.hid (fun W => locatorFault_any s W (by omega) ha)
      clear hs ha hA
      cases hb : locB s with
      | true =>
        rw [show locE s = 0 by unfold locE; rw [hb]; rfl] at HF
        have HB := Lib.hid hb
        clear hb
        go_wp2_with fail
        refine (HF.out _).mono ?_
        rintro _ w1 ⟨rfl, hg⟩
        go_wp2_with fail
        go_roundw
        case rel => exact ⟨k + 1, by omega, by go_num, by rw [HST.out, HOK.out, HB.out]; rfl, gr_trans hgr hg⟩
        case measure => simp [intOf]; omega
      | false =>
        rw [show locE s = 3 by unfold locE; rw [hb]; rfl] at HF
        have HE : Hid (locsE l = 3) := by
          show _ = _
          unfold locsE
          rw [if_neg]
          intro h
          have h2 := List.all_eq_true.1 h _ (List.getElem_mem hlt)
          rw [HSS.out, hb] at h2
          cases h2
        clear hb
        go_wp2_with fail
        refine (HF.out _).mono ?_
        rintro _ w1 ⟨rfl, hg⟩
        go_wp2_with fail
        go_ret
        exact ⟨ret_of HE.out.symm, gr_trans hgr hg⟩
    · have hkl : ¬ ((k : Int) < l.length) := by omega
      have HE : Hid (locsE l = 0) := by
        show _ = _
        have h := HOK.out
        rw [List.take_of_length_le (by omega)] at h
        unfold locsE
        rw [h]; rfl
      go_wp2_with fail
      go_ret
      exact ⟨ret_of HE.out.symm, hgr⟩

set_option maxHeartbeats 4000000 in
theorem farthestOf_any (base : Nat) (v : Value) (s : ByteArray) (l : List ByteArray) (w : World) (hl : StrsFrom base w v l) (hn : l.length ≤ 2000) (hs : locB s = true) (hall : ∀ t ∈ l, locB t = true) :
    Calls Try.prog 28 #[.string s, v] w fun r w' => r = .returned (.tuple #[.int .i64 (farTo s l l.length).1, .int .i64 (farTo s l l.length).2]) ∧ w.grownBy w' none := by
  obtain ⟨A, c, rfl, hlen, hA⟩ := hl.shape
  have HL := Lib.hid hl
  have HALL := Lib.hid hall
  have HM := Lib.hid (fun W => middleOf_right s W hs)
  have hb1 := mid_bd hs
  clear hl hall hs
  go_enter Try.func28, Try.ntmps28
  go_wp2_with fail
  go_loopw [6, 7, 13] (fun b f i wr => ∃ k : Nat, k ≤ l.length ∧ i = .int .i64 k ∧ b = .int .i64 (farTo s l k).1 ∧ f = .int .i64 (farTo s l k).2 ∧ w.grownBy wr none) (fun _ _ i _ => l.length - (intOf i).toNat)
  case atStart => exact ⟨0, by omega, rfl, rfl, rfl, gr_refl _ _⟩
  case round =>
    obtain ⟨k, hk, rfl, rfl, rfl, hgr⟩ := hrel
    by_cases hlt : k < l.length
    · obtain ⟨g, rfl, hg0, hg1⟩ := hA (by omega)
      have hkl : (k : Int) < (l.length : Int) := by omega
      have c0 := (HL.out.grown hgr).at_ k hlt
      have ht := HALL.out _ (List.getElem_mem hlt)
      have HST : Hid (farTo s l (k + 1) = if farL s l[k] > (farTo s l k).2 then ((k : Int), farL s l[k]) else farTo s l k) := by
        show _ = _
        have e : l.getD k default = l[k] := by simp [hlt]
        show (if farL s (l.getD k default) > (farTo s l k).2 then ((k : Int), farL s (l.getD k default)) else farTo s l k) = _
        rw [e]
      obtain ⟨t, hts⟩ : ∃ t, l[k] = t := ⟨_, rfl⟩
      rw [hts] at c0 ht HST
      have HM2 := Lib.hid (fun W => middleOf_right t W ht)
      have hb2 := mid_bd ht
      have HD : Hid (∀ W : World, Calls Try.prog 19 #[.agg #[.int .i64 (midN s), .int .i64 (midE s)], .agg #[.int .i64 (midN t), .int .i64 (midE t)]] W fun r w' => r = .returned (.int .i64 (farL s t)) ∧ W.grownBy w' none) := fun W => distanceOf_any _ _ _ _ W (by omega) (by omega) (by omega) (by omega) (by omega) (by omega) (by omega) (by omega)
      have hfb := farTo_bd s l k
      generalize farTo s l k = p at *
      obtain ⟨p1, p2⟩ := p
      generalize farL s t = D at *
      clear hts ht hb1 hb2 hA
      go_wp2_with fail
      refine (HM.out _).mono ?_
      rintro _ w1 ⟨rfl, hga⟩
      go_wp2_with fail
      refine (HM2.out _).mono ?_
      rintro _ w2 ⟨rfl, hgb⟩
      go_wp2_with fail
      refine (HD.out _).mono ?_
      rintro _ w3 ⟨rfl, hgc⟩
      have hG3 := gr_trans hgr (gr_trans hga (gr_trans hgb hgc))
      by_cases hgt : p2 < D
      · go_wp2_with fail
        go_roundw
        case rel => exact ⟨k + 1, by omega, by go_num, by rw [HST.out, if_pos hgt], by rw [HST.out, if_pos hgt], hG3⟩
        case measure => simp [intOf]; omega
      · go_wp2_with fail
        go_roundw
        case rel => exact ⟨k + 1, by omega, by go_num, by rw [HST.out, if_neg (by omega)], by rw [HST.out, if_neg (by omega)], hG3⟩
        case measure => simp [intOf]; omega
    · have hkl : ¬ ((k : Int) < l.length) := by omega
      obtain rfl : k = l.length := by omega
      go_wp2_with fail
      go_ret2
      exact ⟨rfl, hgr⟩
end Go.Proofs.Ytnapbnkbchaanaa
