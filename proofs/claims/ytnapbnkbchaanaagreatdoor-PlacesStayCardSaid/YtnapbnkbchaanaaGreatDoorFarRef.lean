/- The walks over the reference's LocatorsFault and FarthestOf. Condition: a short list of short texts; for FarthestOf right locators. -/
import Derived.Test.YtnapbnkbchaanaaGreatDoorKeyB
import Derived.Test.YtnapbnkbchaanaaGreatDoorLocRight
import Derived.Test.YtnapbnkbchaanaaGreatDoorMidRef
import Derived.Test.YtnapbnkbchaanaaGreatDoorDistRef
namespace Go.Proofs.YtnapbnkbchaanaaGreatDoor
open Go.RowKit
set_option linter.unusedVariables false

/-- The middle of a locator. -/
def signX (s : ByteArray) (k : Nat) : Int := ((s.data.toList.getD k 0).toNat : Int)
def midN (s : ByteArray) : Int := lowNo (signX s) (s.size / 2) + lvHigh (s.size / 2 - 1) / 2
def midE (s : ByteArray) : Int := lowEa (signX s) (s.size / 2) + lvWide (s.size / 2 - 1) / 2
theorem mid_bd {s : ByteArray} (h : locB s = true) : -324000 ≤ midN s ∧ midN s ≤ 324000 ∧ -648000 ≤ midE s ∧ midE s ≤ 648000 := by
  have H := locS_right h
  obtain ⟨b0, b1, b2⟩ := low_bd _ _ H.m3 H.ok _ (Nat.le_refl _)
  obtain ⟨b3, b4⟩ := b2 H.m0
  obtain ⟨-, -, -, -, w0, w1, g0, g1, -⟩ := lv_bd (s.size / 2 - 1) (by have := H.m3; have := H.m0; omega)
  unfold midN midE
  change -648000 ≤ lowEa (signX s) (s.size / 2) at b0
  change -324000 ≤ lowNo (signX s) (s.size / 2) at b1
  change lowEa (signX s) (s.size / 2) + _ ≤ _ at b3
  change lowNo (signX s) (s.size / 2) + _ ≤ _ at b4
  omega
/-- How far it is from one locator to another one. -/
def farL (s t : ByteArray) : Int := distI (midN s) (midE s) (midN t) (midE t)
theorem farL_bd (s t : ByteArray) : 0 ≤ farL s t ∧ farL s t ≤ 2147483648 := rootI_bd _
def farTo (s : ByteArray) (l : List ByteArray) : Nat → Int × Int
  | 0 => (0, -1)
  | k + 1 => if farL s (l.getD k default) > (farTo s l k).2 then ((k : Int), farL s (l.getD k default)) else farTo s l k
theorem farTo_bd (s : ByteArray) (l : List ByteArray) : ∀ k : Nat, -1 ≤ (farTo s l k).2 ∧ (farTo s l k).2 ≤ 2147483648
  | 0 => ⟨by show (-1 : Int) ≤ -1; decide, by show (-1 : Int) ≤ 2147483648; decide⟩
  | k + 1 => by
      have h := farTo_bd s l k
      have g := farL_bd s (l.getD k default)
      unfold farTo
      split
      · exact ⟨by show -1 ≤ farL _ _; omega, g.2⟩
      · exact h

/-- The error of locators, of few. -/
def locsE (l : List ByteArray) : Int := if l.all fun s => locB s then 0 else 3
theorem all_take {l : List ByteArray} (k : Nat) (hk : k < l.length) : ((l.take (k + 1)).all fun s => locB s) = (((l.take k).all fun s => locB s) && locB l[k]) := by
  rw [List.take_succ_eq_append_getElem hk, List.all_append]
  simp

set_option maxHeartbeats 4000000 in
theorem locatorsFault_few (base : Nat) (v : Value) (l : List ByteArray) (w : World) (hl : StrsFrom base w v l) (hn : l.length ≤ 2000) (hall : ∀ t ∈ l, t.size ≤ 13 ∧ Ascii t) :
    Calls Tryz.prog 41 #[v] w fun r w' => r = .returned (.int .i64 (locsE l)) ∧ w.grownBy w' none := by
  obtain ⟨A, c, rfl, hlen, hA⟩ := hl.shape
  have HL := Lib.hid hl
  have HALL := Lib.hid hall
  have hn2 : ¬ (2000 < (l.length : Int)) := by omega
  clear hl hall
  go_enter Tryz.func41, Tryz.ntmps41
  go_wp2_with fail
  go_loopw [11] (fun i wr => ∃ k : Nat, k ≤ l.length ∧ i = .int .i64 k ∧ ((l.take k).all fun s => locB s) = true ∧ w.grownBy wr none) (fun i _ => l.length - (intOf i).toNat)
  case atStart => exact ⟨0, by omega, rfl, by simp, gr_refl _ _⟩
  case round =>
    obtain ⟨k, hk, rfl, hok, hgr⟩ := hrel
    have HOK := Lib.hid hok
    clear hok
    by_cases hlt : k < l.length
    · obtain ⟨g, rfl, hg0, hg1⟩ := hA (by omega)
      have hkl : (k : Int) < (l.length : Int) := by omega
      have c0 := (HL.out.grown hgr).at_ k hlt
      obtain ⟨hz, ha⟩ := HALL.out _ (List.getElem_mem hlt)
      have HST := Lib.hid (all_take k hlt)
      obtain ⟨s, hs⟩ : ∃ s, l[k] = s := ⟨_, rfl⟩
      rw [hs] at c0 hz ha HST
      have HSS := Lib.hid hs
      have HF := Lib.hid (fun W => locatorFault_any s W (by omega) ha)
      clear hs ha hA
      cases hb : locB s with
      | true =>
        rw [show locE s = 0 by unfold locE; rw [hb]; rfl] at HF
        have HB := Lib.hid hb
        clear hb
        go_wp2_with fail
        refine (HF.out _).mono ?_
        rintro _ w1 ⟨rfl, hg⟩
        go_wp2_with fail
        go_roundw
        case rel => exact ⟨k + 1, by omega, by go_num, by rw [HST.out, HOK.out, HB.out]; rfl, gr_trans hgr hg⟩
        case measure => simp [intOf]; omega
      | false =>
        rw [show locE s = 3 by unfold locE; rw [hb]; rfl] at HF
        have HE : Hid (locsE l = 3) := by
          show _ = _
          unfold locsE
          rw [if_neg]
          intro h
          have h2 := List.all_eq_true.1 h _ (List.getElem_mem hlt)
          rw [HSS.out, hb] at h2
          cases h2
        clear hb
        go_wp2_with fail
        refine (HF.out _).mono ?_
        rintro _ w1 ⟨rfl, hg⟩
        go_wp2_with fail
        go_ret
        exact ⟨ret_of HE.out.symm, gr_trans hgr hg⟩
    · have hkl : ¬ ((k : Int) < l.length) := by omega
      have HE : Hid (locsE l = 0) := by
        show _ = _
        have h := HOK.out
        rw [List.take_of_length_le (by omega)] at h
        unfold locsE
        rw [h]; rfl
      go_wp2_with fail
      go_ret
      exact ⟨ret_of HE.out.symm, hgr⟩

end Go.Proofs.YtnapbnkbchaanaaGreatDoor
