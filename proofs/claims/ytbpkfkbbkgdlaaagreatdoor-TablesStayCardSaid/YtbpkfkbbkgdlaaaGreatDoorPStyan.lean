/- The stream's Changed, told exactly. Condition: strings of ASCII; the stream has handed out at most 10^11 numbers. The stream's CallOf, RightCall and CallList told exactly. Condition: the stream has handed out at most 10^9 numbers. Plain law of a pattern that a string fits: how the reference looks. No program in sight, no condition. The walk over call.fits: does a string fit a pattern? Condition: strings of at most 100 bytes. The walks over call.Guess and the references PatternFault and GuessedOf: the calls that fit a pattern. Condition: at most 1000 strings of ASCII of at most 100 bytes, a pattern of at most 100 bytes. -/
import Derived.Test.YtbpkfkbbkgdlaaaGreatDoorPStyaa
import Derived.Test.YtbpkfkbbkgdlaaaGreatDoorPStyag
import Derived.Test.YtbpkfkbbkgdlaaaGreatDoorPStyam
import Derived.Test.YtbpkfkbbkgdlaaaGreatDoorPStyad
import Derived.Lib.Split
import Derived.Lib.ReplaceLaws
import Derived.Lib.CountLaws
import Derived.Lib.IndexLaws
import Derived.Deep.RegionHeld
import Derived.Lib.SliceRun
namespace Go.Proofs.YtbpkfkbbkgdlaaaGreatDoor
open Go.RowKit
set_option linter.unusedVariables false
set_option linter.unusedSimpArgs false

/-- A text with a byte changed, put in or taken out. -/
def chOf (t : ByteArray) (i : Nat) (c : UInt8) (q : Int) : ByteArray :=
 if q = 0 then t.extract 0 i ++ Utf8.encode ((c.toNat : Nat) : Int) ++ t.extract (i + 1) t.size
 else if q = 1 then t.extract 0 i ++ Utf8.encode ((c.toNat : Nat) : Int) ++ t.extract i t.size
 else t.extract 0 i ++ t.extract (i + 1) t.size
def changedF (L : List Int) (k : Nat) (t x : ByteArray) : ByteArray × Nat :=
 if t.size = 0 ∨ x.size = 0 then (x, k)
 else (chOf t (nextV L k (t.size : Int)).toNat (x.data.toList.getD (nextV L (k + 1) (x.size : Int)).toNat 0) (nextV L (k + 1 + 1) 3), k + 1 + 1 + 1)
def ChangedXPost (base b : Nat) (L : List Int) (k : Nat) (t x : ByteArray) (w : World) (e : Ending) (w' : World) : Prop :=
 ∃ (u : ByteArray) (k' : Nat), Hid (changedF L k t x = (u, k')) ∧ e = .returned (.string u) ∧ u.size ≤ t.size + x.size ∧ Ascii u ∧ k ≤ k' ∧ k' ≤ k + 3 ∧ SX base w' b L k' ∧ w.grownBy w' (some b)
set_option maxRecDepth 100000 in
set_option maxHeartbeats 4000000 in
theorem changed_e (base b : Nat) (L : List Int) (k : Nat) (t x : ByteArray) (w : World) (hs : SX base w b L k) (hk : k ≤ 100000000000) (ht : t.size ≤ 1000000) (hx : x.size ≤ 1000) (ha : Ascii t) (hb : Ascii x) :
 Calls Tryz.prog 45 #[.pointer (some ⟨b, 0, none⟩), .string t, .string x] w (ChangedXPost base b L k t x w) := by
 have hbase := hs.base
 have HA := Lib.hid ha
 have HB := Lib.hid hb
 clear ha hb
 rcases he : t.toList.isEmpty
 case true =>
  have hn : t.toList = [] := by simpa using he
  have HCF : Hid (changedF L k t x = (x, k)) := by show _ = _; unfold changedF; rw [if_pos (.inl (by rw [Lib.toList_data] at hn; simpa using congrArg List.length hn))]
  clear he
  go_enter Tryz.func45, Tryz.ntmps45
  go_wp2_with fail
  go_ret
  exact ⟨x, k, HCF, rfl, by omega, HB.out, by omega, by omega, hs, gr_refl _ _⟩
 rcases hf : x.toList.isEmpty
 case true =>
  have hn : x.toList = [] := by simpa using hf
  have HCF : Hid (changedF L k t x = (x, k)) := by show _ = _; unfold changedF; rw [if_pos (.inr (by rw [Lib.toList_data] at hn; simpa using congrArg List.length hn))]
  clear hf
  go_enter Tryz.func45, Tryz.ntmps45
  go_wp2_with fail
  go_ret
  exact ⟨x, k, HCF, rfl, by omega, HB.out, by omega, by omega, hs, gr_refl _ _⟩
 have ht0 := empty_size he
 have hx0 := empty_size hf
 go_enter Tryz.func45, Tryz.ntmps45
 go_wp2_with fail
 refine (next_e base b L k _ _ hs (by omega) (by omega) (by omega)).mono ?_
 rintro _ w1 ⟨i', hi0, hi1, HI, rfl, hs1, hg1⟩
 obtain ⟨i, rfl⟩ := Int.eq_ofNat_of_zero_le hi0
 go_wp2_with fail
 refine (next_e base b L _ _ _ hs1 (by omega) (by omega) (by omega)).mono ?_
 rintro _ w2 ⟨j', hj0, hj1, HJ, rfl, hs2, hg2⟩
 obtain ⟨j, rfl⟩ := Int.eq_ofNat_of_zero_le hj0
 have hG2 := gr_trans hg1 hg2
 have hjx : j < x.size := by omega
 have hcA := HB.out.at_ j hjx
 have HCC : Hid (∀ q : Int, nextV L (k + 1 + 1) 3 = q → changedF L k t x = (chOf t i x[j] q, k + 1 + 1 + 1)) := fun q hq => by
  unfold changedF
  rw [if_neg (by omega), HI.out, HJ.out, hq]
  simp only [Int.toNat_natCast]
  rw [show x.data.toList.getD j 0 = x[j] by rw [List.getD_eq_getElem?_getD, List.getElem?_eq_getElem (by simpa using hjx)]; rfl]
 go_wp2_with fail
 generalize x[j] = c at *
 refine (next_e base b L _ _ _ hs2 (by omega) (by omega) (by omega)).mono ?_
 rintro _ w3 ⟨q, hq0, hq1, HQ, rfl, hs3, hg3⟩
 have HCF := Lib.hid (HCC.out q HQ.out)
 have hG3 := gr_trans hG2 hg3
 have e1 : IntKind.i64.wrap ((i : Int) + 1) = (i : Int) + 1 := IntWalk.i64_in _ ⟨by omega, by omega⟩
 have e2 : ((i : Int) + 1).toNat = i + 1 := by omega
 have e3 : (0 : Int) ≤ (i : Int) + 1 := by omega
 have e4 : (i : Int) + 1 ≤ (t.size : Int) := by omega
 have e5 : (i : Int) ≤ (t.size : Int) := by omega
 have hsA : (t.extract 0 i).size = i := by simp; omega
 have hsB : (t.extract (i + 1) t.size).size = t.size - (i + 1) := by simp
 have hsC : (t.extract i t.size).size = t.size - i := by simp
 have hc1 : (⟨#[c]⟩ : ByteArray).size = 1 := rfl
 have HC := Lib.hid (Ascii.one (c := c) (by omega))
 have HE := Lib.hid (enc_ascii c (by omega))
 have hfin : ∀ u W', chOf t i c q = u → u.size ≤ t.size + x.size → Ascii u → w3.grownBy W' none → ChangedXPost base b L k t x w (.returned (.string u)) W' := fun u W' h0 h1 h2 h3 =>
  ⟨u, _, by show _ = _; rw [HCF.out, h0], rfl, h1, h2, by omega, by omega, hs3.grown h3 (by simp), gr_trans hG3 (gr_weak h3 _)⟩
 have hz : (Utf8.encode (c.toNat : Int)).size = 1 := by rw [HE.out]; exact hc1
 have HA1 := Lib.hid (HA.out.take i)
 have HA2 := Lib.hid (HA.out.drop (i + 1))
 have HA3 := Lib.hid (HA.out.drop i)
 have hq : q = 0 ∨ q = 1 ∨ q = 2 := by omega
 rcases hq with rfl | rfl | rfl
 ·go_wp2_with fail
  go_quiet (fail)
  go_wp2_with fail
  go_ret
  refine hfin _ _ ?_ ?_ ?_ (gr_drewN (gr_refl _ _) _)
  ·first | rfl | (unfold chOf; simp)
  ·rw [HE.out]; simp; omega
  ·rw [HE.out]; exact (HA1.out.app HC.out).app HA2.out
 ·go_wp2_with fail
  go_quiet (fail)
  go_wp2_with fail
  go_ret
  refine hfin _ _ ?_ ?_ ?_ (gr_drewN (gr_refl _ _) _)
  ·first | rfl | (unfold chOf; simp)
  ·rw [HE.out]; simp; omega
  ·rw [HE.out]; exact (HA1.out.app HC.out).app HA3.out
 ·go_wp2_with fail
  go_quiet (fail)
  go_wp2_with fail
  go_ret
  refine hfin _ _ ?_ ?_ ?_ (gr_drewN (gr_refl _ _) _)
  ·first | rfl | (unfold chOf; simp)
  ·simp; omega
  ·exact HA1.out.app HA2.out
end Go.Proofs.YtbpkfkbbkgdlaaaGreatDoor

namespace Go.Proofs.YtbpkfkbbkgdlaaaGreatDoor
open Go.RowKit
set_option linter.unusedVariables false
set_option linter.unusedSimpArgs false

def cofX : ByteArray := ⟨#[97, 48, 47, 107, 49, 45]⟩
def cofT (L : List Int) (k : Nat) : ByteArray × Nat :=
 if nextV L (k + 1) 9 = 0 then (someV L k callBases ++ someV L (k + 1 + 1) callTails, k + 1 + 1 + 1)
 else if nextV L (k + 1) 9 = 1 then (someV L (k + 1 + 1) callHeads ++ ⟨#[47]⟩ ++ someV L k callBases, k + 1 + 1 + 1)
 else if nextV L (k + 1) 9 = 2 then (someV L k callBases ++ ⟨#[47]⟩ ++ someV L (k + 1 + 1) callEnds, k + 1 + 1 + 1)
 else (someV L k callBases, k + 1 + 1)
def cofF (L : List Int) (k : Nat) : ByteArray × Nat := if decide (nextV L (cofT L k).2 12 = 0) then changedF L ((cofT L k).2 + 1) (cofT L k).1 cofX else ((cofT L k).1, (cofT L k).2 + 1)
theorem cof_no {L : List Int} {k K : Nat} {t : ByteArray} (h : cofT L k = (t, K)) (hf : decide (nextV L K 12 = 0) = false) : cofF L k = (t, K + 1) := by unfold cofF; simp only [h, hf]; rfl
theorem cof_yes {L : List Int} {k K k' : Nat} {t z : ByteArray} (h : cofT L k = (t, K)) (hf : decide (nextV L K 12 = 0) = true) (hc : changedF L (K + 1) t ⟨#[97, 48, 47, 107, 49, 45]⟩ = (z, k')) : cofF L k = (z, k') := by unfold cofF; simp only [h, hf, if_true]; exact hc
def CallOfEPost (base b : Nat) (L : List Int) (k : Nat) (w : World) (e : Ending) (w' : World) : Prop :=
 ∃ (u : ByteArray) (k' : Nat), Hid (cofF L k = (u, k')) ∧ e = .returned (.string u) ∧ u.size ≤ 30 ∧ Ascii u ∧ k ≤ k' ∧ k' ≤ k + 8 ∧ SX base w' b L k' ∧ w.grownBy w' (some b)
set_option maxRecDepth 100000 in
set_option maxHeartbeats 4000000 in
/-- The end of CallOf, whatever was put together. -/
theorem callOf_e (base b : Nat) (L : List Int) (k : Nat) (w : World) (hs : SX base w b L k) (hk : k ≤ 10000000000) :
 Calls Tryz.prog 8 #[.pointer (some ⟨b, 0, none⟩)] w (CallOfEPost base b L k w) := by
 go_enter Tryz.func8, Tryz.ntmps8
 go_wp2_with fail
 refine (some_eat base b L k _ 9 9 callBases _ hs (by first | rfl | simp) (by omega) rfl (by decide) (by decide)).mono ?_
 rintro _ w1 ⟨v, hv, HV, rfl, hs1, hg1⟩
 obtain ⟨hvs, hva⟩ := fewA_in (n := 6) (by decide) hv
 have HVA := Lib.hid hva
 clear hv hva
 go_wp2_with fail
 refine (next_e base b L _ _ _ hs1 (by omega) (by omega) (by omega)).mono ?_
 rintro _ w2 ⟨q, hq0, hq1, HQ, rfl, hs2, hg2⟩
 have hG2 := gr_trans hg1 hg2
 clear hg1 hg2 hs1
 by_cases q0 : q = 0
 ·subst q0
  go_wp2_with fail
  refine (some_eat base b L _ _ 6 6 callTails _ hs2 (by first | rfl | simp) (by omega) rfl (by decide) (by decide)).mono ?_
  rintro _ w3 ⟨u, hu, HUV, rfl, hs3, hg3⟩
  obtain ⟨hus, hua⟩ := fewA_in (n := 3) (by decide) hu
  have HUA := Lib.hid (HVA.out.app hua)
  have hG3 := gr_trans hG2 hg3
  have hsz : (v ++ u).size ≤ 9 := by simp; omega
  clear hu hua hg3 hs2
  have HT : Hid (cofT L k = (v ++ u, k + 1 + 1 + 1)) := by
   show _ = _
   unfold cofT
   rw [if_pos HQ.out, HV.out, HUV.out]
  go_wp2_with fail
  generalize v ++ u = t at *
  refine (flip_e base b L _ _ _ hs3 (by omega) (by omega) (by omega)).mono ?_
  rintro _ w4 ⟨fl, HF, rfl, hs4, hg4⟩
  have hG4 := gr_trans hG3 hg4
  cases fl
  ·go_wp2_with fail
   go_ret
   exact ⟨t, _, cof_no HT.out HF.out, rfl, by omega, HUA.out, by omega, by omega, hs4, hG4⟩
  ·go_wp2_with fail
   refine (changed_e base b L _ t ⟨#[97, 48, 47, 107, 49, 45]⟩ _ hs4 (by omega) (by omega) (by decide) HUA.out (fewA_of (n := 6) (by decide)).2).mono ?_
   rintro _ w5 ⟨z, kz, HZC, rfl, hz, hza, hkz0, hkz1, hs5, hg5⟩
   have hz2 : z.size ≤ 30 := by
    have : (⟨#[97, 48, 47, 107, 49, 45]⟩ : ByteArray).size = 6 := rfl
    omega
   have HZ := Lib.hid hza
   clear hza hz
   go_wp2_with fail
   go_ret
   exact ⟨z, kz, cof_yes HT.out HF.out HZC.out, rfl, hz2, HZ.out, by omega, by omega, hs5, gr_trans hG4 hg5⟩
 by_cases q1 : q = 1
 ·subst q1
  go_wp2_with fail
  refine (some_eat base b L _ _ 4 4 callHeads _ hs2 (by first | rfl | simp) (by omega) rfl (by decide) (by decide)).mono ?_
  rintro _ w3 ⟨u, hu, HUV, rfl, hs3, hg3⟩
  obtain ⟨hus, hua⟩ := fewA_in (n := 3) (by decide) hu
  have HUA := Lib.hid ((hua.app slash_ascii).app HVA.out)
  have hG3 := gr_trans hG2 hg3
  have hsz : (u ++ ⟨#[47]⟩ ++ v).size ≤ 10 := by
   have h47 : (⟨#[47]⟩ : ByteArray).size = 1 := rfl
   simp; omega
  clear hu hua hg3 hs2
  have HT : Hid (cofT L k = (u ++ ⟨#[47]⟩ ++ v, k + 1 + 1 + 1)) := by
   show _ = _
   unfold cofT
   rw [if_neg (by rw [HQ.out]; decide), if_pos HQ.out, HV.out, HUV.out]
  go_wp2_with fail
  generalize u ++ ⟨#[47]⟩ ++ v = t at *
  refine (flip_e base b L _ _ _ hs3 (by omega) (by omega) (by omega)).mono ?_
  rintro _ w4 ⟨fl, HF, rfl, hs4, hg4⟩
  have hG4 := gr_trans hG3 hg4
  cases fl
  ·go_wp2_with fail
   go_ret
   exact ⟨t, _, cof_no HT.out HF.out, rfl, by omega, HUA.out, by omega, by omega, hs4, hG4⟩
  ·go_wp2_with fail
   refine (changed_e base b L _ t ⟨#[97, 48, 47, 107, 49, 45]⟩ _ hs4 (by omega) (by omega) (by decide) HUA.out (fewA_of (n := 6) (by decide)).2).mono ?_
   rintro _ w5 ⟨z, kz, HZC, rfl, hz, hza, hkz0, hkz1, hs5, hg5⟩
   have hz2 : z.size ≤ 30 := by
    have : (⟨#[97, 48, 47, 107, 49, 45]⟩ : ByteArray).size = 6 := rfl
    omega
   have HZ := Lib.hid hza
   clear hza hz
   go_wp2_with fail
   go_ret
   exact ⟨z, kz, cof_yes HT.out HF.out HZC.out, rfl, hz2, HZ.out, by omega, by omega, hs5, gr_trans hG4 hg5⟩
 by_cases q2 : q = 2
 ·subst q2
  go_wp2_with fail
  refine (some_eat base b L _ _ 4 4 callEnds _ hs2 (by first | rfl | simp) (by omega) rfl (by decide) (by decide)).mono ?_
  rintro _ w3 ⟨u, hu, HUV, rfl, hs3, hg3⟩
  obtain ⟨hus, hua⟩ := fewA_in (n := 3) (by decide) hu
  have HUA := Lib.hid ((HVA.out.app slash_ascii).app hua)
  have hG3 := gr_trans hG2 hg3
  have hsz : (v ++ ⟨#[47]⟩ ++ u).size ≤ 10 := by
   have h47 : (⟨#[47]⟩ : ByteArray).size = 1 := rfl
   simp; omega
  clear hu hua hg3 hs2
  have HT : Hid (cofT L k = (v ++ ⟨#[47]⟩ ++ u, k + 1 + 1 + 1)) := by
   show _ = _
   unfold cofT
   rw [if_neg (by rw [HQ.out]; decide), if_neg (by rw [HQ.out]; decide), if_pos HQ.out, HV.out, HUV.out]
  go_wp2_with fail
  generalize v ++ ⟨#[47]⟩ ++ u = t at *
  refine (flip_e base b L _ _ _ hs3 (by omega) (by omega) (by omega)).mono ?_
  rintro _ w4 ⟨fl, HF, rfl, hs4, hg4⟩
  have hG4 := gr_trans hG3 hg4
  cases fl
  ·go_wp2_with fail
   go_ret
   exact ⟨t, _, cof_no HT.out HF.out, rfl, by omega, HUA.out, by omega, by omega, hs4, hG4⟩
  ·go_wp2_with fail
   refine (changed_e base b L _ t ⟨#[97, 48, 47, 107, 49, 45]⟩ _ hs4 (by omega) (by omega) (by decide) HUA.out (fewA_of (n := 6) (by decide)).2).mono ?_
   rintro _ w5 ⟨z, kz, HZC, rfl, hz, hza, hkz0, hkz1, hs5, hg5⟩
   have hz2 : z.size ≤ 30 := by
    have : (⟨#[97, 48, 47, 107, 49, 45]⟩ : ByteArray).size = 6 := rfl
    omega
   have HZ := Lib.hid hza
   clear hza hz
   go_wp2_with fail
   go_ret
   exact ⟨z, kz, cof_yes HT.out HF.out HZC.out, rfl, hz2, HZ.out, by omega, by omega, hs5, gr_trans hG4 hg5⟩
 ·have hs3 := hs2
  have hG3 := hG2
  have HUA := HVA
  have hsz : v.size ≤ 10 := by omega
  clear hs2 hG2
  have HT : Hid (cofT L k = (v, k + 1 + 1)) := by
   show _ = _
   unfold cofT
   rw [if_neg (by rw [HQ.out]; exact q0), if_neg (by rw [HQ.out]; exact q1), if_neg (by rw [HQ.out]; exact q2), HV.out]
  go_wp2_with fail
  generalize v = t at *
  refine (flip_e base b L _ _ _ hs3 (by omega) (by omega) (by omega)).mono ?_
  rintro _ w4 ⟨fl, HF, rfl, hs4, hg4⟩
  have hG4 := gr_trans hG3 hg4
  cases fl
  ·go_wp2_with fail
   go_ret
   exact ⟨t, _, cof_no HT.out HF.out, rfl, by omega, HUA.out, by omega, by omega, hs4, hG4⟩
  ·go_wp2_with fail
   refine (changed_e base b L _ t ⟨#[97, 48, 47, 107, 49, 45]⟩ _ hs4 (by omega) (by omega) (by decide) HUA.out (fewA_of (n := 6) (by decide)).2).mono ?_
   rintro _ w5 ⟨z, kz, HZC, rfl, hz, hza, hkz0, hkz1, hs5, hg5⟩
   have hz2 : z.size ≤ 30 := by
    have : (⟨#[97, 48, 47, 107, 49, 45]⟩ : ByteArray).size = 6 := rfl
    omega
   have HZ := Lib.hid hza
   clear hza hz
   go_wp2_with fail
   go_ret
   exact ⟨z, kz, cof_yes HT.out HF.out HZC.out, rfl, hz2, HZ.out, by omega, by omega, hs5, gr_trans hG4 hg5⟩
def rcF (L : List Int) : Nat → Nat → ByteArray × Nat
 | 0, k => (⟨#[107, 49, 97, 98]⟩, k)
 | j + 1, k => if (partsOf (cofF L k).1).isSome = true then cofF L k else rcF L j (cofF L k).2
theorem rcF_yes {L : List Int} {j k k' : Nat} {u : ByteArray} (h : cofF L k = (u, k')) (hp : (partsOf u).isSome = true) : rcF L (j + 1) k = (u, k') := by
 show (if _ then _ else _) = _
 rw [h, if_pos hp]
theorem rcF_no {L : List Int} {j k k' : Nat} {u : ByteArray} (h : cofF L k = (u, k')) (hp : (partsOf u).isSome = false) : rcF L (j + 1) k = rcF L j k' := by
 show (if _ then _ else _) = _
 rw [h, if_neg (by rw [hp]; simp)]
def RightCallEPost (base b : Nat) (L : List Int) (k : Nat) (w : World) (e : Ending) (w' : World) : Prop :=
 ∃ (u : ByteArray) (k' : Nat), Hid (rcF L 6 k = (u, k')) ∧ e = .returned (.string u) ∧ u.size ≤ 30 ∧ Ascii u ∧ (partsOf u).isSome = true ∧ k ≤ k' ∧ k' ≤ k + 48 ∧ SX base w' b L k' ∧ w.grownBy w' (some b)
set_option maxRecDepth 100000 in
set_option maxHeartbeats 4000000 in
theorem rightCall_e (base b : Nat) (L : List Int) (k : Nat) (w : World) (hs : SX base w b L k) (hk : k ≤ 1000000000) :
 Calls Tryz.prog 31 #[.pointer (some ⟨b, 0, none⟩)] w (RightCallEPost base b L k w) := by
 go_enter Tryz.func31, Tryz.ntmps31
 go_wp2_with fail
 go_loopw [4] (fun i wr => ∃ j k2 : Nat, j ≤ 6 ∧ i = .int .i64 j ∧ Hid (rcF L 6 k = rcF L (6 - j) k2) ∧ k ≤ k2 ∧ k2 ≤ k + 8 * j ∧ SX base wr b L k2 ∧ w.grownBy wr (some b)) (fun i _ => 6 - (intOf i).toNat)
 case atStart => exact ⟨0, k, by omega, rfl, rfl, by omega, by omega, hs, gr_refl _ _⟩
 case round =>
  obtain ⟨j, k2, hj, rfl, HR, hk0, hk1, hsr, hgr⟩ := hrel
  by_cases hlt : j < 6
  ·have hjl : (j : Int) < 6 := by omega
   obtain ⟨m, hm⟩ : ∃ m, 6 - j = m + 1 := ⟨5 - j, by omega⟩
   have HR2 : Hid (rcF L 6 k = rcF L (m + 1) k2) := by show _ = _; rw [← hm]; exact HR.out
   have HM : Hid (6 - (j + 1) = m) := by show _ = _; omega
   clear hm
   go_wp2_with fail
   refine (callOf_e base b L k2 _ hsr (by omega)).mono ?_
   rintro _ w1 ⟨u, k3, HC, rfl, hu, hua, hk30, hk31, hs1, hg1⟩
   have HUA := Lib.hid hua
   have hG1 := gr_trans hgr hg1
   clear hua hg1 hsr
   go_wp2_with fail
   refine (refIsCall_any u _ (by omega) HUA.out).mono ?_
   rintro _ w2 ⟨rfl, hg2⟩
   have hs2 := hs1.grown hg2 (by simp)
   have hG2 := gr_trans hG1 (gr_weak hg2 (some b))
   cases hP : (partsOf u).isSome with
   | true =>
     have HP := Lib.hid hP
     clear hP
     go_wp2_with fail
     go_ret
     exact ⟨u, k3, HR2.out.trans (rcF_yes HC.out HP.out), rfl, hu, HUA.out, HP.out, by omega, by omega, hs2, hG2⟩
   | false =>
     have HP := Lib.hid hP
     clear hP
     go_wp2_with fail
     go_roundw
     case rel => exact ⟨j + 1, k3, by omega, by go_num, by show _ = _; rw [HM.out]; exact HR2.out.trans (rcF_no HC.out HP.out), by omega, by omega, hs2, hG2⟩
     case measure => simp [intOf]; omega
  ·have hjl : ¬ (j : Int) < 6 := by omega
   have HE : Hid (rcF L 6 k = (⟨#[107, 49, 97, 98]⟩, k2)) := by
    show _ = _
    have h := HR.out
    rw [show 6 - j = 0 by omega] at h
    exact h
   go_wp2_with fail
   go_ret
   exact ⟨_, k2, HE, rfl, by decide, (fewA_of (n := 4) (by decide)).2, partsOf_k1ab, by omega, by omega, hsr, hgr⟩
def clTo (L : List Int) (k : Nat) : Nat → List ByteArray × Nat
 | 0 => ([], k)
 | i + 1 => ((clTo L k i).1 ++ [(rcF L 6 (clTo L k i).2).1], (rcF L 6 (clTo L k i).2).2)
def clF (L : List Int) (k : Nat) (m : Int) : List ByteArray × Nat :=
 if decide (nextV L (clTo L (k + 1) (rangeV L k 0 m).toNat).2 20 = 0) then ((clTo L (k + 1) (rangeV L k 0 m).toNat).1 ++ [(cofF L ((clTo L (k + 1) (rangeV L k 0 m).toNat).2 + 1)).1], (cofF L ((clTo L (k + 1) (rangeV L k 0 m).toNat).2 + 1)).2)
 else ((clTo L (k + 1) (rangeV L k 0 m).toNat).1, (clTo L (k + 1) (rangeV L k 0 m).toNat).2 + 1)
def CallListEPost (base b : Nat) (L : List Int) (k m : Nat) (w : World) (e : Ending) (w' : World) : Prop := ∃ v C k', Hid (clF L k (m : Int) = (C, k')) ∧ e = .returned v ∧ StrsFrom w.heap.size w' v C ∧ C.length ≤ 9 ∧ SmallL C ∧ k ≤ k' ∧ k' ≤ k + 500 ∧ SX base w' b L k' ∧ w.grownBy w' (some b)
theorem clF_no {L : List Int} {k k2 : Nat} {m : Int} {C : List ByteArray} (h : clTo L (k + 1) (rangeV L k 0 m).toNat = (C, k2)) (hf : decide (nextV L k2 20 = 0) = false) : clF L k m = (C, k2 + 1) := by unfold clF; simp only [h, hf]; rfl
theorem clF_yes {L : List Int} {k k2 k4 : Nat} {m : Int} {C : List ByteArray} {t : ByteArray} (h : clTo L (k + 1) (rangeV L k 0 m).toNat = (C, k2)) (hf : decide (nextV L k2 20 = 0) = true) (hc : cofF L (k2 + 1) = (t, k4)) : clF L k m = (C ++ [t], k4) := by unfold clF; simp only [h, hf, if_true, hc]
set_option maxRecDepth 100000 in
set_option maxHeartbeats 4000000 in
theorem callList_e (base b : Nat) (L : List Int) (k m : Nat) (hm : m ≤ 8) (w : World) (hs : SX base w b L k) (hk : k ≤ 100000000) :
 Calls Tryz.prog 9 #[.pointer (some ⟨b, 0, none⟩), .int .i64 (m : Int)] w (CallListEPost base b L k m w) := by
 obtain ⟨i0, hi0, hz0, hz1, hz2⟩ := info_parts strInfo
 have hbl := hs.lt
 have hbase := hs.base
 go_enter Tryz.func9, Tryz.ntmps9
 go_wp2_with fail
 refine (range_e base b L k 0 (m : Int) _ hs (by omega) (by omega) (by omega) (by omega)).mono ?_
 rintro _ w1 ⟨mz, hm0, hm8, HMZ, rfl, hs1, hg1⟩
 obtain ⟨M, rfl⟩ := Int.eq_ofNat_of_zero_le hm0
 go_wp2_with fail
 go_loopw [5, 9] (fun o i wr => ∃ (C : List ByteArray) (k2 : Nat), C.length ≤ M ∧ i = .int .i64 (C.length : Nat) ∧ Hid (clTo L (k + 1) C.length = (C, k2)) ∧ k + 1 ≤ k2 ∧ k2 ≤ k + 1 + 48 * C.length ∧ Hid (SmallL C) ∧ Hid (StrsFrom w.heap.size wr o C) ∧ SX base wr b L k2 ∧ w.grownBy wr (some b)) (fun _ i _ => M - (intOf i).toNat)
 case atStart => exact ⟨[], k + 1, Nat.zero_le _, rfl, rfl, Nat.le_refl _, by simp, (fun x hx => nomatch hx), StrsFrom.nil _ _, hs1, hg1⟩
 case round =>
  obtain ⟨C, k2, hj, rfl, HCL, hk20, hk21, HSM, HO, hsj, hgr⟩ := hrel
  clear hs hs1 hg1
  rename World => wx
  obtain ⟨A2, c2, rfl, hk9, hsh⟩ := HO.out.shape
  clear hsh
  by_cases hlt : C.length < M
  ·have hji : (C.length : Int) < (M : Int) := by omega
   go_wp2_with fail
   refine (rightCall_e base b L k2 _ hsj (by omega)).mono ?_
   rintro _ w3 ⟨t, k3, HRC, rfl, ht30, hta, _, hk30, hk31, hs3, hg3⟩
   have hG3 := gr_trans hgr hg3
   have hsz3 := hG3.size
   have hown : w3.ownsRow w.heap.size 9 1 (.slice A2 C.length c2) C.length (C.map Value.string) := ownsRow_other HO.out hg3 hbl
   have hrow : ∀ g, (Value.slice A2 C.length c2).ownBlock = some g → w.heap.size ≤ g := fun g e => (hown.lt g e).1
   have HROW := Lib.hid hrow
   have HSM2 : Hid (SmallL (C ++ [t])) := fun x hx => by
    rcases List.mem_append.1 hx with h | h
    ·exact HSM.out x h
    ·rw [List.mem_singleton.1 h]; exact ⟨ht30, hta⟩
   clear hrow hgr hsj hta ht30
   go_wp2_with (at_builtin; refine wpList_append_own _ rfl _ _ 31 rfl w.heap.size 9 i0 _ 1 16 Tryz.underlying31 hi0 hz0 hz1 hz2 rfl (by decide) _ _ _ rfl (hown.alloc _) ⟨w3.heap.size, 0, none⟩ 1 1 [.string t] rfl rfl (cells_new _ _ _) (str_one _) (by unfold maxLen; omega) (by omega) (by simp; omega) ?_; intro v' w7 hownB hgrB _)
   have hG7 : w.grownBy w7 (some b) := gr_grown (gr_alloc hG3 _) hgrB (fun g e => .inr (HROW.out g e))
   have hs7 := (hs3.alloc (.cells #[.string t] 9)).grown hgrB (fun g e => by have := HROW.out g e; omega)
   have HCL2 : Hid (clTo L (k + 1) (C ++ [t]).length = (C ++ [t], k3)) := by
    show _ = _
    rw [List.length_append]
    show ((clTo L (k + 1) C.length).1 ++ [(rcF L 6 (clTo L (k + 1) C.length).2).1], (rcF L 6 (clTo L (k + 1) C.length).2).2) = _
    rw [HCL.out, HRC.out]
   have hO : Hid (StrsFrom w.heap.size w7 v' (C ++ [t])) := by
    show StrsFrom _ _ _ _
    unfold StrsFrom
    rw [List.map_append, List.length_append]; exact hownB
   clear hown hgrB hownB hs3
   go_wp2_with fail
   go_roundw
   case rel => exact ⟨C ++ [t], k3, by simp; omega, by rw [List.length_append]; go_num, HCL2, by omega, by rw [List.length_append]; simp; omega, HSM2, hO, hs7, hG7⟩
   case measure => simp [intOf]; omega
  ·have hji : ¬ (C.length : Int) < (M : Int) := by omega
   have hM8 : M ≤ 8 := by omega
   go_wp2_with fail
   have hCM : C.length = M := by omega
   have HCM : Hid (clTo L (k + 1) (rangeV L k 0 (m : Int)).toNat = (C, k2)) := by show _ = _; rw [HMZ.out, Int.toNat_natCast, ← hCM]; exact HCL.out
   clear hCM
   refine (flip_e base b L k2 20 _ hsj (by omega) (by decide) (by decide)).mono ?_
   rintro _ w3 ⟨fl, HFL, rfl, hs3, hg3⟩
   have hG3 := gr_trans hgr hg3
   have hown : w3.ownsRow w.heap.size 9 1 (.slice A2 C.length c2) C.length (C.map Value.string) := ownsRow_other HO.out hg3 hbl
   have hO3 : Hid (StrsFrom w.heap.size w3 (.slice A2 C.length c2) C) := hown
   clear hgr hsj
   cases fl
   ·clear hown
    go_wp2_with fail
    go_ret
    exact ⟨_, C, k2 + 1, clF_no HCM.out HFL.out, rfl, hO3.out, by omega, HSM.out, by omega, by omega, hs3, hG3⟩
   ·go_wp2_with fail
    refine (callOf_e base b L _ _ hs3 (by omega)).mono ?_
    rintro _ w4 ⟨t, k4, HCO, rfl, ht30, hta, hk40, hk41, hs4, hg4⟩
    have hG4 := gr_trans hG3 hg4
    have hsz4 := hG4.size
    have hown4 : w4.ownsRow w.heap.size 9 1 (.slice A2 C.length c2) C.length (C.map Value.string) := ownsRow_other hown hg4 hbl
    have hrow : ∀ g, (Value.slice A2 C.length c2).ownBlock = some g → w.heap.size ≤ g := fun g e => (hown4.lt g e).1
    have HROW := Lib.hid hrow
    have HSM2 : Hid (SmallL (C ++ [t])) := fun x hx => by
     rcases List.mem_append.1 hx with h | h
     ·exact HSM.out x h
     ·rw [List.mem_singleton.1 h]; exact ⟨ht30, hta⟩
    clear hrow hs3 hta ht30 hown hG3
    go_wp2_with (at_builtin; refine wpList_append_own _ rfl _ _ 31 rfl w.heap.size 9 i0 _ 1 16 Tryz.underlying31 hi0 hz0 hz1 hz2 rfl (by decide) _ _ _ rfl (hown4.alloc _) ⟨w4.heap.size, 0, none⟩ 1 1 [.string t] rfl rfl (cells_new _ _ _) (str_one _) (by unfold maxLen; omega) (by omega) (by simp; omega) ?_; intro v' w7 hownB hgrB _)
    have hG7 : w.grownBy w7 (some b) := gr_grown (gr_alloc hG4 _) hgrB (fun g e => .inr (HROW.out g e))
    have hs7 := (hs4.alloc (.cells #[.string t] 9)).grown hgrB (fun g e => by have := HROW.out g e; omega)
    have hO : Hid (StrsFrom w.heap.size w7 v' (C ++ [t])) := by
     show StrsFrom _ _ _ _
     unfold StrsFrom
     rw [List.map_append, List.length_append]; exact hownB
    clear hown4 hgrB hownB hs4
    go_wp2_with fail
    go_ret
    exact ⟨_, C ++ [t], k4, clF_yes HCM.out HFL.out HCO.out, rfl, hO.out, by simp; omega, HSM2.out, by omega, by omega, hs7, hG7⟩
end Go.Proofs.YtbpkfkbbkgdlaaaGreatDoor

namespace Go.Proofs.YtbpkfkbbkgdlaaaGreatDoor
set_option linter.unusedVariables false
set_option linter.unusedSimpArgs false

/-- Does a string fit a pattern? -/
def fitL : List UInt8 → List UInt8 → Bool
 | [], s => s.isEmpty
 | c :: p, s => if c = 42 then (List.range (s.length + 1)).any (fun i => fitL p (s.drop i)) else match s with
   | [] => false
   | d :: r => (decide (c = 63) || decide (c = d)) && fitL p r
theorem fitL_any (p s : List UInt8) : fitL (42 :: p) s = (List.range (s.length + 1)).any (fun i => fitL p (s.drop i)) := by
 rw [fitL.eq_def]
 exact if_pos rfl
theorem fitL_one (c : UInt8) (p s : List UInt8) (h : c ≠ 42) : fitL (c :: p) s = (!s.isEmpty && ((decide (c = 63) || decide (c = s.headD 0)) && fitL p s.tail)) := by
 rw [fitL.eq_def]
 refine (if_neg h).trans ?_
 cases s with
 | nil => rfl
 | cons d r => rfl
end Go.Proofs.YtbpkfkbbkgdlaaaGreatDoor

namespace Go.Proofs.YtbpkfkbbkgdlaaaGreatDoor
open Go.RowKit
set_option linter.unusedVariables false
set_option linter.unusedSimpArgs false

theorem emptyB {s : ByteArray} (h : s.size = 0) : s.toList.isEmpty = true ∧ s.data.toList = [] := by
 have h1 : s.data.toList = [] := by
  apply List.eq_nil_of_length_eq_zero
  simpa using h
 exact ⟨by rw [Lib.toList_data, h1]; rfl, h1⟩
theorem fullC {s : ByteArray} (h : 0 < s.size) : s.toList.isEmpty = false ∧ s.data.toList = s[0] :: (s.extract 1 s.size).data.toList ∧ (s.extract 1 s.size).size = s.size - 1 := by
 have hl : s.data.toList.length = s.size := by simp
 cases hd : s.data.toList with
 | nil => rw [hd] at hl; simp at hl; omega
 | cons c r =>
   refine ⟨by rw [Lib.toList_data, hd]; rfl, ?_, by simp⟩
   rw [Lib.extract_to_end, hd]
   have h0 : s[0] = c := by
    have e : s.data.toList[0]'(by rw [hl]; exact h) = s[0] := rfl
    rw [← e]
    simp [hd]
   rw [h0]; rfl
theorem fit_some {p s : List UInt8} {k : Nat} (hk : k < s.length + 1) (h : fitL p (s.drop k) = true) : fitL (42 :: p) s = true := by
 rw [fitL_any, List.any_eq_true]
 exact ⟨k, List.mem_range.2 hk, h⟩
theorem fit_none {p s : List UInt8} (h : ∀ k, k < s.length + 1 → fitL p (s.drop k) = false) : fitL (42 :: p) s = false := by
 rw [fitL_any, List.any_eq_false]
 intro k hk
 rw [h k (List.mem_range.1 hk)]
 simp
set_option maxRecDepth 100000 in
set_option maxHeartbeats 4000000 in
theorem fits_any : ∀ (n : Nat) (p s : ByteArray) (w : World), p.size = n → n ≤ 100 → s.size ≤ 100 →
 Calls Tryz.prog 86 #[.string p, .string s] w fun e w' => e = .returned (.bool (fitL p.data.toList s.data.toList)) ∧ w.grownBy w' none := fun n => by
 induction n with
 | zero =>
   intro p s w hp _ hs
   obtain ⟨h1, h2⟩ := emptyB hp
   rw [h2]
   rcases Nat.eq_zero_or_pos s.size with h0 | h0
   ·obtain ⟨h3, h4⟩ := emptyB h0
    rw [h4]
    clear h2 h4 hp h0
    go_enter Tryz.func86, Tryz.ntmps86
    go_wp2_with fail
    go_ret
    exact ⟨rfl, gr_refl _ _⟩
   ·obtain ⟨h3, h4, _⟩ := fullC h0
    have HE : Hid (fitL [] s.data.toList = false) := by show _ = _; rw [h4]; rfl
    generalize fitL [] s.data.toList = E at *
    clear h2 h4 hp h0
    go_enter Tryz.func86, Tryz.ntmps86
    go_wp2_with fail
    go_ret
    exact ⟨by rw [HE.out] <;> rfl, gr_refl _ _⟩
 | succ n ih =>
   intro p s w hp hn hs
   have hp0n : 0 < p.size := by omega
   obtain ⟨h1, h2, h3⟩ := fullC hp0n
   have hp1 : (1 : Int) ≤ (p.size : Int) := by omega
   have hp0 : (0 : Int) < (p.size : Int) := by omega
   have hp1n : 1 ≤ p.size := by omega
   obtain ⟨P, hP⟩ : ∃ P, p.extract 1 p.size = P := ⟨_, rfl⟩
   rw [hP] at h2 h3
   have hPn : P.size = n := by omega
   have HIH := Lib.hid (fun t W (ht : t.size ≤ 100) => ih P t W hPn (by omega) ht)
   have HP2 := Lib.hid h2
   have HP := Lib.hid hP
   have hsl : s.data.toList.length = s.size := by simp
   have HSL := Lib.hid hsl
   clear h2 h3 ih hPn hp hn hsl
   by_cases hc : p[0] = 42
   ·have hci : ((p[0].toNat : Int) == 42) = true := by rw [hc]; rfl
    have HE : Hid (p.data.toList = 42 :: P.data.toList) := by show _ = _; rw [HP2.out, hc]
    have HSUF : Hid (∀ k, k ≤ s.size → (s.extract k s.size).data.toList = s.data.toList.drop k ∧ (s.extract k s.size).size ≤ 100) := fun k hk => ⟨by rw [Lib.extract_to_end], by simp; omega⟩
    clear hc
    go_enter Tryz.func86, Tryz.ntmps86
    go_wp2_with fail
    go_loopw [16] (fun i wr => ∃ k : Nat, k ≤ s.size + 1 ∧ i = .int .i64 k ∧ Hid (∀ j, j < k → fitL P.data.toList (s.data.toList.drop j) = false) ∧ w.grownBy wr none) (fun i _ => s.size + 1 - (intOf i).toNat)
    case atStart => exact ⟨0, by omega, rfl, fun j hj => absurd hj (by omega), gr_refl _ _⟩
    case round =>
     obtain ⟨k, hk, rfl, HN, hgr⟩ := hrel
     by_cases hlt : k < s.size + 1
     ·have hki : (k : Int) < (s.size : Int) + 1 := by omega
      have hks : (k : Int) ≤ (s.size : Int) := by omega
      have hksn : k ≤ s.size := by omega
      have hk0 : (0 : Int) ≤ (k : Int) := by omega
      obtain ⟨d1, d2⟩ := HSUF.out k hksn
      obtain ⟨T, hT⟩ : ∃ T, s.extract k s.size = T := ⟨_, rfl⟩
      rw [hT] at d1 d2
      have hP' : p.extract 1 p.size = P := HP.out
      have HIK := Lib.hid (fun W => HIH.out T W d2)
      have HD1 := Lib.hid d1
      clear HIH d1 d2
      cases hB : fitL P.data.toList T.data.toList
      ·have HB := Lib.hid hB
       rw [hB] at HIK
       clear hB
       go_wp2_with fail
       refine wp_region_held_drew (S := fun _ => True) (by kernel_rfl) trivial (fun hHeld => ?_)
       refine wpAnyH_take (i := 0) (v := ?_) rfl (by kernel_rfl) (by kernel_rfl) (by kernel_rfl) (fun _ _ _ h => h) (Or.inl ⟨by kernel_rfl, ?_⟩) hHeld ?_
       rotate_left
       ·intro w hSw
        (try dsimp only at hSw)
        go_simp
        (try with_reducible rfl)
       change wpAnyH _ _ _ _ _ _ _ (Act.put _ (some 19) _) _
       simp only [Act.put, ssA, ssZ, ssS]
       refine wpAnyH_take (i := 1) (v := ?_) rfl (by kernel_rfl) (by kernel_rfl) (by kernel_rfl) (fun _ _ _ h => h) (Or.inl ⟨by kernel_rfl, ?_⟩) hHeld ?_
       rotate_left
       ·intro w hSw
        (try dsimp only at hSw)
        go_simp
        (try with_reducible rfl)
       change wpAnyH _ _ _ _ _ _ _ (Act.put _ (some 20) _) _
       simp only [Act.put, ssA, ssZ, ssS]
       refine wpAnyH_take (i := 2) (v := ?_) rfl (by kernel_rfl) (by kernel_rfl) (by kernel_rfl) (fun _ _ _ h => h) (Or.inl ⟨by kernel_rfl, ?_⟩) hHeld ?_
       rotate_left
       ·intro w hSw
        (try dsimp only at hSw)
        go_simp
        (try with_reducible rfl)
       change wpAnyH _ _ _ _ _ _ _ (Act.put _ (some 21) _) _
       simp only [Act.put, ssA, ssZ, ssS]
       refine wpAnyH_take (i := 3) (v := ?_) rfl (by kernel_rfl) (by kernel_rfl) (by kernel_rfl) (fun _ _ _ h => h) (Or.inl ⟨by kernel_rfl, ?_⟩) hHeld ?_
       rotate_left
       ·intro w hSw
        (try dsimp only at hSw)
        go_simp
        (try with_reducible rfl)
       change wpAnyH _ _ _ _ _ _ _ (Act.put _ (some 22) _) _
       simp only [Act.put, ssA, ssZ, ssS]
       refine wpAnyH_take (i := 4) (v := ?_) rfl (by kernel_rfl) (by kernel_rfl) (by kernel_rfl) (fun _ _ _ h => h) (Or.inl ⟨by kernel_rfl, ?_⟩) hHeld ?_
       rotate_left
       ·intro w hSw
        (try dsimp only at hSw)
        go_simp
        (try with_reducible rfl)
       change wpAnyH _ _ _ _ _ _ _ (Act.put _ (some 23) _) _
       simp only [Act.put, ssA, ssZ, ssS]
       refine wpAnyH_ready (rs := [5]) (by kernel_rfl) (by simp) ?_
       refine AllReadyH.cons (o := _) rfl (fun K hK => ?_) AllReadyH.nil
       go_simp
       (go_at_call 86; refine (HIK.out _).mono ?_; rintro _ w6 ⟨rfl, hg6⟩)
       refine hK.out _ _ trivial (fun hHeld5 => ?_)
       clear hK K
       (try simp only [Act.put, ssA, ssZ, ssS])
       refine wpAnyH_done (by kernel_rfl) ?_ _
       go_wp2_with fail
       go_roundw
       case rel => exact ⟨k + 1, by omega, by go_num, fun j hj => by
        by_cases e : j = k
        ·subst e; rw [← HD1.out]; exact HB.out
        ·exact HN.out j (by omega), gr_trans (gr_drew hgr) hg6⟩
       case measure => simp [intOf]; omega
      ·have HB := Lib.hid hB
       rw [hB] at HIK
       clear hB
       go_wp2_with fail
       refine wp_region_held_drew (S := fun _ => True) (by kernel_rfl) trivial (fun hHeld => ?_)
       refine wpAnyH_take (i := 0) (v := ?_) rfl (by kernel_rfl) (by kernel_rfl) (by kernel_rfl) (fun _ _ _ h => h) (Or.inl ⟨by kernel_rfl, ?_⟩) hHeld ?_
       rotate_left
       ·intro w hSw
        (try dsimp only at hSw)
        go_simp
        (try with_reducible rfl)
       change wpAnyH _ _ _ _ _ _ _ (Act.put _ (some 19) _) _
       simp only [Act.put, ssA, ssZ, ssS]
       refine wpAnyH_take (i := 1) (v := ?_) rfl (by kernel_rfl) (by kernel_rfl) (by kernel_rfl) (fun _ _ _ h => h) (Or.inl ⟨by kernel_rfl, ?_⟩) hHeld ?_
       rotate_left
       ·intro w hSw
        (try dsimp only at hSw)
        go_simp
        (try with_reducible rfl)
       change wpAnyH _ _ _ _ _ _ _ (Act.put _ (some 20) _) _
       simp only [Act.put, ssA, ssZ, ssS]
       refine wpAnyH_take (i := 2) (v := ?_) rfl (by kernel_rfl) (by kernel_rfl) (by kernel_rfl) (fun _ _ _ h => h) (Or.inl ⟨by kernel_rfl, ?_⟩) hHeld ?_
       rotate_left
       ·intro w hSw
        (try dsimp only at hSw)
        go_simp
        (try with_reducible rfl)
       change wpAnyH _ _ _ _ _ _ _ (Act.put _ (some 21) _) _
       simp only [Act.put, ssA, ssZ, ssS]
       refine wpAnyH_take (i := 3) (v := ?_) rfl (by kernel_rfl) (by kernel_rfl) (by kernel_rfl) (fun _ _ _ h => h) (Or.inl ⟨by kernel_rfl, ?_⟩) hHeld ?_
       rotate_left
       ·intro w hSw
        (try dsimp only at hSw)
        go_simp
        (try with_reducible rfl)
       change wpAnyH _ _ _ _ _ _ _ (Act.put _ (some 22) _) _
       simp only [Act.put, ssA, ssZ, ssS]
       refine wpAnyH_take (i := 4) (v := ?_) rfl (by kernel_rfl) (by kernel_rfl) (by kernel_rfl) (fun _ _ _ h => h) (Or.inl ⟨by kernel_rfl, ?_⟩) hHeld ?_
       rotate_left
       ·intro w hSw
        (try dsimp only at hSw)
        go_simp
        (try with_reducible rfl)
       change wpAnyH _ _ _ _ _ _ _ (Act.put _ (some 23) _) _
       simp only [Act.put, ssA, ssZ, ssS]
       refine wpAnyH_ready (rs := [5]) (by kernel_rfl) (by simp) ?_
       refine AllReadyH.cons (o := _) rfl (fun K hK => ?_) AllReadyH.nil
       go_simp
       (go_at_call 86; refine (HIK.out _).mono ?_; rintro _ w6 ⟨rfl, hg6⟩)
       refine hK.out _ _ trivial (fun hHeld5 => ?_)
       clear hK K
       (try simp only [Act.put, ssA, ssZ, ssS])
       refine wpAnyH_done (by kernel_rfl) ?_ _
       go_wp2_with fail
       go_ret
       exact ⟨by rw [HE.out, fit_some (by rw [HSL.out]; omega) (by rw [← HD1.out]; exact HB.out)] <;> rfl, gr_trans (gr_drew hgr) hg6⟩
     ·have hki : ¬ (k : Int) < (s.size : Int) + 1 := by omega
      go_wp2_with fail
      go_ret
      exact ⟨by rw [HE.out, fit_none (fun j hj => HN.out j (by rw [HSL.out] at hj; omega))] <;> rfl, hgr⟩
   ·have hci : ((p[0].toNat : Int) == 42) = false := by
     rw [beq_eq_false_iff_ne]
     intro e
     exact hc (UInt8.toNat_inj.1 (by have : (42 : UInt8).toNat = 42 := rfl; omega))
    have HC := Lib.hid hc
    clear hc
    rcases Nat.eq_zero_or_pos s.size with h0 | h0
    ·obtain ⟨s1, s2⟩ := emptyB h0
     have HE : Hid (fitL p.data.toList s.data.toList = false) := by show _ = _; rw [HP2.out, s2, fitL_one _ _ _ HC.out]; rfl
     generalize fitL p.data.toList s.data.toList = E at *
     clear s2 h0 HP2
     go_enter Tryz.func86, Tryz.ntmps86
     go_wp2_with fail
     refine wp_region_held_drew (S := fun _ => True) (by kernel_rfl) trivial (fun hHeld => ?_)
     refine wpAnyH_take (i := 0) (v := ?_) rfl (by kernel_rfl) (by kernel_rfl) (by kernel_rfl) (fun _ _ _ h => h) (Or.inl ⟨by kernel_rfl, ?_⟩) hHeld ?_
     rotate_left
     ·intro w hSw
      (try dsimp only at hSw)
      go_simp
      (try with_reducible rfl)
     change wpAnyH _ _ _ _ _ _ _ (Act.put _ (some 26) _) _
     simp only [Act.put, ssA, ssZ, ssS]
     refine wpAnyH_take (i := 1) (v := ?_) rfl (by kernel_rfl) (by kernel_rfl) (by kernel_rfl) (fun _ _ _ h => h) (Or.inl ⟨by kernel_rfl, ?_⟩) hHeld ?_
     rotate_left
     ·intro w hSw
      (try dsimp only at hSw)
      go_simp
      (try with_reducible rfl)
     change wpAnyH _ _ _ _ _ _ _ (Act.put _ (some 27) _) _
     simp only [Act.put, ssA, ssZ, ssS]
     refine wpAnyH_take (i := 2) (v := ?_) rfl (by kernel_rfl) (by kernel_rfl) (by kernel_rfl) (fun _ _ _ h => h) (Or.inl ⟨by kernel_rfl, ?_⟩) hHeld ?_
     rotate_left
     ·intro w hSw
      (try dsimp only at hSw)
      go_simp
      (try with_reducible rfl)
     change wpAnyH _ _ _ _ _ _ _ (Act.put _ (some 28) _) _
     simp only [Act.put, ssA, ssZ, ssS]
     refine wpAnyH_take (i := 3) (v := undef) rfl (by kernel_rfl) (by kernel_rfl) (by kernel_rfl) (fun _ _ _ h => h) (Or.inr ⟨by kernel_rfl, rfl⟩) hHeld ?_
     change wpAnyH _ _ _ _ _ _ _ (Act.put _ (some 29) _) _
     simp only [Act.put, ssA, ssZ, ssS]
     refine wpAnyH_take (i := 4) (v := undef) rfl (by kernel_rfl) (by kernel_rfl) (by kernel_rfl) (fun _ _ _ h => h) (Or.inr ⟨by kernel_rfl, rfl⟩) hHeld ?_
     change wpAnyH _ _ _ _ _ _ _ (Act.put _ (some 30) _) _
     simp only [Act.put, ssA, ssZ, ssS]
     refine wpAnyH_take (i := 5) (v := undef) rfl (by kernel_rfl) (by kernel_rfl) (by kernel_rfl) (fun _ _ _ h => h) (Or.inr ⟨by kernel_rfl, rfl⟩) hHeld ?_
     change wpAnyH _ _ _ _ _ _ _ (Act.put _ (some 31) _) _
     simp only [Act.put, ssA, ssZ, ssS]
     refine wpAnyH_take (i := 6) (v := undef) rfl (by kernel_rfl) (by kernel_rfl) (by kernel_rfl) (fun _ _ _ h => h) (Or.inr ⟨by kernel_rfl, rfl⟩) hHeld ?_
     change wpAnyH _ _ _ _ _ _ _ (Act.put _ (some 32) _) _
     simp only [Act.put, ssA, ssZ, ssS]
     refine wpAnyH_take (i := 7) (v := undef) rfl (by kernel_rfl) (by kernel_rfl) (by kernel_rfl) (fun _ _ _ h => h) (Or.inr ⟨by kernel_rfl, rfl⟩) hHeld ?_
     change wpAnyH _ _ _ _ _ _ _ (Act.put _ (some 33) _) _
     simp only [Act.put, ssA, ssZ, ssS]
     refine wpAnyH_take (i := 8) (v := undef) rfl (by kernel_rfl) (by kernel_rfl) (by kernel_rfl) (fun _ _ _ h => h) (Or.inr ⟨by kernel_rfl, rfl⟩) hHeld ?_
     change wpAnyH _ _ _ _ _ _ _ (Act.put _ (some 34) _) _
     simp only [Act.put, ssA, ssZ, ssS]
     refine wpAnyH_take (i := 9) (v := undef) rfl (by kernel_rfl) (by kernel_rfl) (by kernel_rfl) (fun _ _ _ h => h) (Or.inr ⟨by kernel_rfl, rfl⟩) hHeld ?_
     change wpAnyH _ _ _ _ _ _ _ (Act.put _ (some 35) _) _
     simp only [Act.put, ssA, ssZ, ssS]
     refine wpAnyH_take (i := 10) (v := undef) rfl (by kernel_rfl) (by kernel_rfl) (by kernel_rfl) (fun _ _ _ h => h) (Or.inr ⟨by kernel_rfl, rfl⟩) hHeld ?_
     change wpAnyH _ _ _ _ _ _ _ (Act.put _ (some 36) _) _
     simp only [Act.put, ssA, ssZ, ssS]
     refine wpAnyH_take (i := 11) (v := undef) rfl (by kernel_rfl) (by kernel_rfl) (by kernel_rfl) (fun _ _ _ h => h) (Or.inr ⟨by kernel_rfl, rfl⟩) hHeld ?_
     change wpAnyH _ _ _ _ _ _ _ (Act.put _ (some 37) _) _
     simp only [Act.put, ssA, ssZ, ssS]
     refine wpAnyH_take (i := 12) (v := undef) rfl (by kernel_rfl) (by kernel_rfl) (by kernel_rfl) (fun _ _ _ h => h) (Or.inr ⟨by kernel_rfl, rfl⟩) hHeld ?_
     change wpAnyH _ _ _ _ _ _ _ (Act.put _ (some 38) _) _
     simp only [Act.put, ssA, ssZ, ssS]
     refine wpAnyH_take (i := 13) (v := ?_) rfl (by kernel_rfl) (by kernel_rfl) (by kernel_rfl) (fun _ _ _ h => h) (Or.inl ⟨by kernel_rfl, ?_⟩) hHeld ?_
     rotate_left
     ·intro w hSw
      (try dsimp only at hSw)
      go_simp
      (try with_reducible rfl)
     change wpAnyH _ _ _ _ _ _ _ (Act.put _ (some 39) _) _
     simp only [Act.put, ssA, ssZ, ssS]
     refine wpAnyH_take (i := 14) (v := ?_) rfl (by kernel_rfl) (by kernel_rfl) (by kernel_rfl) (fun _ _ _ h => h) (Or.inl ⟨by kernel_rfl, ?_⟩) hHeld ?_
     rotate_left
     ·intro w hSw
      (try dsimp only at hSw)
      go_simp
      (try with_reducible rfl)
     change wpAnyH _ _ _ _ _ _ _ (Act.put _ (some 40) _) _
     simp only [Act.put, ssA, ssZ, ssS]
     refine wpAnyH_take (i := 15) (v := undef) rfl (by kernel_rfl) (by kernel_rfl) (by kernel_rfl) (fun _ _ _ h => h) (Or.inr ⟨by kernel_rfl, rfl⟩) hHeld ?_
     change wpAnyH _ _ _ _ _ _ _ (Act.put _ (some 41) _) _
     simp only [Act.put, ssA, ssZ, ssS]
     refine wpAnyH_take (i := 16) (v := undef) rfl (by kernel_rfl) (by kernel_rfl) (by kernel_rfl) (fun _ _ _ h => h) (Or.inr ⟨by kernel_rfl, rfl⟩) hHeld ?_
     change wpAnyH _ _ _ _ _ _ _ (Act.put _ (some 42) _) _
     simp only [Act.put, ssA, ssZ, ssS]
     refine wpAnyH_take (i := 17) (v := undef) rfl (by kernel_rfl) (by kernel_rfl) (by kernel_rfl) (fun _ _ _ h => h) (Or.inr ⟨by kernel_rfl, rfl⟩) hHeld ?_
     change wpAnyH _ _ _ _ _ _ _ (Act.put _ (some 43) _) _
     simp only [Act.put, ssA, ssZ, ssS]
     refine wpAnyH_take (i := 18) (v := undef) rfl (by kernel_rfl) (by kernel_rfl) (by kernel_rfl) (fun _ _ _ h => h) (Or.inr ⟨by kernel_rfl, rfl⟩) hHeld ?_
     change wpAnyH _ _ _ _ _ _ _ (Act.put _ (some 44) _) _
     simp only [Act.put, ssA, ssZ, ssS]
     refine wpAnyH_take (i := 19) (v := undef) rfl (by kernel_rfl) (by kernel_rfl) (by kernel_rfl) (fun _ _ _ h => h) (Or.inr ⟨by kernel_rfl, rfl⟩) hHeld ?_
     change wpAnyH _ _ _ _ _ _ _ (Act.put _ (some 45) _) _
     simp only [Act.put, ssA, ssZ, ssS]
     refine wpAnyH_take (i := 20) (v := ?_) rfl (by kernel_rfl) (by kernel_rfl) (by kernel_rfl) (fun _ _ _ h => h) (Or.inl ⟨by kernel_rfl, ?_⟩) hHeld ?_
     rotate_left
     ·intro w hSw
      (try dsimp only at hSw)
      go_simp
      (try with_reducible rfl)
     change wpAnyH _ _ _ _ _ _ _ (Act.put _ (some 46) _) _
     simp only [Act.put, ssA, ssZ, ssS]
     refine wpAnyH_take (i := 21) (v := ?_) rfl (by kernel_rfl) (by kernel_rfl) (by kernel_rfl) (fun _ _ _ h => h) (Or.inl ⟨by kernel_rfl, ?_⟩) hHeld ?_
     rotate_left
     ·intro w hSw
      (try dsimp only at hSw)
      go_simp
      (try with_reducible rfl)
     change wpAnyH _ _ _ _ _ _ _ (Act.put _ (some 4) _) _
     simp only [Act.put, ssA, ssZ, ssS]
     refine wpAnyH_done (by kernel_rfl) ?_ _
     go_wp2_with fail
     go_ret
     exact ⟨by rw [HE.out] <;> rfl, (by repeat (first | exact gr_refl _ _ | assumption | refine gr_alloc ?_ _ | refine gr_drewN ?_ _ | refine gr_drew ?_))⟩
    ·obtain ⟨s1, s2, s3⟩ := fullC h0
     have hs1 : (1 : Int) ≤ (s.size : Int) := by omega
     have hs0 : (0 : Int) < (s.size : Int) := by omega
     have hs1n : 1 ≤ s.size := by omega
     obtain ⟨T, hT⟩ : ∃ T, s.extract 1 s.size = T := ⟨_, rfl⟩
     rw [hT] at s2 s3
     have HFE : Hid (fitL p.data.toList s.data.toList = ((decide (p[0] = 63) || decide (p[0] = s[0])) && fitL P.data.toList T.data.toList)) := by
      show _ = _
      rw [HP2.out, fitL_one _ _ _ HC.out, s2]; rfl
     have HIK := Lib.hid (fun W => HIH.out T W (by omega))
     have hP' : p.extract 1 p.size = P := HP.out
     generalize fitL p.data.toList s.data.toList = E at *
     generalize fitL P.data.toList T.data.toList = B at *
     clear s2 s3 HIH HP2
     have hw0 : IntKind.i64.wrap (0 : Int) = 0 := rfl
     by_cases h63 : p[0] = 63
     ·have h63i : ((p[0].toNat : Int) == 63) = true := by rw [h63]; rfl
      have HE : Hid (E = B) := by show _ = _; rw [HFE.out, decide_eq_true h63]; simp
      clear h63 HFE
      go_enter Tryz.func86, Tryz.ntmps86
      go_wp2_with fail
      refine wp_region_held_drew (S := fun _ => True) (by kernel_rfl) trivial (fun hHeld => ?_)
      refine wpAnyH_take (i := 0) (v := ?_) rfl (by kernel_rfl) (by kernel_rfl) (by kernel_rfl) (fun _ _ _ h => h) (Or.inl ⟨by kernel_rfl, ?_⟩) hHeld ?_
      rotate_left
      ·intro w hSw
       (try dsimp only at hSw)
       go_simp
       (try with_reducible rfl)
      change wpAnyH _ _ _ _ _ _ _ (Act.put _ (some 26) _) _
      simp only [Act.put, ssA, ssZ, ssS]
      refine wpAnyH_take (i := 1) (v := ?_) rfl (by kernel_rfl) (by kernel_rfl) (by kernel_rfl) (fun _ _ _ h => h) (Or.inl ⟨by kernel_rfl, ?_⟩) hHeld ?_
      rotate_left
      ·intro w hSw
       (try dsimp only at hSw)
       go_simp
       (try with_reducible rfl)
      change wpAnyH _ _ _ _ _ _ _ (Act.put _ (some 27) _) _
      simp only [Act.put, ssA, ssZ, ssS]
      refine wpAnyH_take (i := 2) (v := ?_) rfl (by kernel_rfl) (by kernel_rfl) (by kernel_rfl) (fun _ _ _ h => h) (Or.inl ⟨by kernel_rfl, ?_⟩) hHeld ?_
      rotate_left
      ·intro w hSw
       (try dsimp only at hSw)
       go_simp
       (try with_reducible rfl)
      change wpAnyH _ _ _ _ _ _ _ (Act.put _ (some 28) _) _
      simp only [Act.put, ssA, ssZ, ssS]
      refine wpAnyH_take (i := 3) (v := ?_) rfl (by kernel_rfl) (by kernel_rfl) (by kernel_rfl) (fun _ _ _ h => h) (Or.inl ⟨by kernel_rfl, ?_⟩) hHeld ?_
      rotate_left
      ·intro w hSw
       (try dsimp only at hSw)
       go_simp
       (try with_reducible rfl)
      change wpAnyH _ _ _ _ _ _ _ (Act.put _ (some 29) _) _
      simp only [Act.put, ssA, ssZ, ssS]
      refine wpAnyH_take (i := 4) (v := ?_) rfl (by kernel_rfl) (by kernel_rfl) (by kernel_rfl) (fun _ _ _ h => h) (Or.inl ⟨by kernel_rfl, ?_⟩) hHeld ?_
      rotate_left
      ·intro w hSw
       (try dsimp only at hSw)
       go_simp
       (try with_reducible rfl)
      change wpAnyH _ _ _ _ _ _ _ (Act.put _ (some 30) _) _
      simp only [Act.put, ssA, ssZ, ssS]
      refine wpAnyH_take (i := 5) (v := ?_) rfl (by kernel_rfl) (by kernel_rfl) (by kernel_rfl) (fun _ _ _ h => h) (Or.inl ⟨by kernel_rfl, ?_⟩) hHeld ?_
      rotate_left
      ·intro w hSw
       (try dsimp only at hSw)
       go_simp
       (try with_reducible rfl)
      change wpAnyH _ _ _ _ _ _ _ (Act.put _ (some 31) _) _
      simp only [Act.put, ssA, ssZ, ssS]
      refine wpAnyH_take (i := 6) (v := ?_) rfl (by kernel_rfl) (by kernel_rfl) (by kernel_rfl) (fun _ _ _ h => h) (Or.inl ⟨by kernel_rfl, ?_⟩) hHeld ?_
      rotate_left
      ·intro w hSw
       (try dsimp only at hSw)
       go_simp
       (try with_reducible rfl)
      change wpAnyH _ _ _ _ _ _ _ (Act.put _ (some 32) _) _
      simp only [Act.put, ssA, ssZ, ssS]
      refine wpAnyH_take (i := 7) (v := undef) rfl (by kernel_rfl) (by kernel_rfl) (by kernel_rfl) (fun _ _ _ h => h) (Or.inr ⟨by kernel_rfl, rfl⟩) hHeld ?_
      change wpAnyH _ _ _ _ _ _ _ (Act.put _ (some 33) _) _
      simp only [Act.put, ssA, ssZ, ssS]
      refine wpAnyH_take (i := 8) (v := undef) rfl (by kernel_rfl) (by kernel_rfl) (by kernel_rfl) (fun _ _ _ h => h) (Or.inr ⟨by kernel_rfl, rfl⟩) hHeld ?_
      change wpAnyH _ _ _ _ _ _ _ (Act.put _ (some 34) _) _
      simp only [Act.put, ssA, ssZ, ssS]
      refine wpAnyH_take (i := 9) (v := undef) rfl (by kernel_rfl) (by kernel_rfl) (by kernel_rfl) (fun _ _ _ h => h) (Or.inr ⟨by kernel_rfl, rfl⟩) hHeld ?_
      change wpAnyH _ _ _ _ _ _ _ (Act.put _ (some 35) _) _
      simp only [Act.put, ssA, ssZ, ssS]
      refine wpAnyH_take (i := 10) (v := undef) rfl (by kernel_rfl) (by kernel_rfl) (by kernel_rfl) (fun _ _ _ h => h) (Or.inr ⟨by kernel_rfl, rfl⟩) hHeld ?_
      change wpAnyH _ _ _ _ _ _ _ (Act.put _ (some 36) _) _
      simp only [Act.put, ssA, ssZ, ssS]
      refine wpAnyH_take (i := 11) (v := undef) rfl (by kernel_rfl) (by kernel_rfl) (by kernel_rfl) (fun _ _ _ h => h) (Or.inr ⟨by kernel_rfl, rfl⟩) hHeld ?_
      change wpAnyH _ _ _ _ _ _ _ (Act.put _ (some 37) _) _
      simp only [Act.put, ssA, ssZ, ssS]
      refine wpAnyH_take (i := 12) (v := ?_) rfl (by kernel_rfl) (by kernel_rfl) (by kernel_rfl) (fun _ _ _ h => h) (Or.inl ⟨by kernel_rfl, ?_⟩) hHeld ?_
      rotate_left
      ·intro w hSw
       (try dsimp only at hSw)
       go_simp
       (try with_reducible rfl)
      change wpAnyH _ _ _ _ _ _ _ (Act.put _ (some 38) _) _
      simp only [Act.put, ssA, ssZ, ssS]
      refine wpAnyH_take (i := 13) (v := ?_) rfl (by kernel_rfl) (by kernel_rfl) (by kernel_rfl) (fun _ _ _ h => h) (Or.inl ⟨by kernel_rfl, ?_⟩) hHeld ?_
      rotate_left
      ·intro w hSw
       (try dsimp only at hSw)
       go_simp
       (try with_reducible rfl)
      change wpAnyH _ _ _ _ _ _ _ (Act.put _ (some 39) _) _
      simp only [Act.put, ssA, ssZ, ssS]
      refine wpAnyH_take (i := 14) (v := ?_) rfl (by kernel_rfl) (by kernel_rfl) (by kernel_rfl) (fun _ _ _ h => h) (Or.inl ⟨by kernel_rfl, ?_⟩) hHeld ?_
      rotate_left
      ·intro w hSw
       (try dsimp only at hSw)
       go_simp
       (try with_reducible rfl)
      change wpAnyH _ _ _ _ _ _ _ (Act.put _ (some 40) _) _
      simp only [Act.put, ssA, ssZ, ssS]
      refine wpAnyH_take (i := 15) (v := ?_) rfl (by kernel_rfl) (by kernel_rfl) (by kernel_rfl) (fun _ _ _ h => h) (Or.inl ⟨by kernel_rfl, ?_⟩) hHeld ?_
      rotate_left
      ·intro w hSw
       (try dsimp only at hSw)
       go_simp
       (try with_reducible rfl)
      change wpAnyH _ _ _ _ _ _ _ (Act.put _ (some 41) _) _
      simp only [Act.put, ssA, ssZ, ssS]
      refine wpAnyH_take (i := 16) (v := ?_) rfl (by kernel_rfl) (by kernel_rfl) (by kernel_rfl) (fun _ _ _ h => h) (Or.inl ⟨by kernel_rfl, ?_⟩) hHeld ?_
      rotate_left
      ·intro w hSw
       (try dsimp only at hSw)
       go_simp
       (try with_reducible rfl)
      change wpAnyH _ _ _ _ _ _ _ (Act.put _ (some 42) _) _
      simp only [Act.put, ssA, ssZ, ssS]
      refine wpAnyH_take (i := 17) (v := ?_) rfl (by kernel_rfl) (by kernel_rfl) (by kernel_rfl) (fun _ _ _ h => h) (Or.inl ⟨by kernel_rfl, ?_⟩) hHeld ?_
      rotate_left
      ·intro w hSw
       (try dsimp only at hSw)
       go_simp
       (try with_reducible rfl)
      change wpAnyH _ _ _ _ _ _ _ (Act.put _ (some 43) _) _
      simp only [Act.put, ssA, ssZ, ssS]
      refine wpAnyH_take (i := 18) (v := ?_) rfl (by kernel_rfl) (by kernel_rfl) (by kernel_rfl) (fun _ _ _ h => h) (Or.inl ⟨by kernel_rfl, ?_⟩) hHeld ?_
      rotate_left
      ·intro w hSw
       (try dsimp only at hSw)
       go_simp
       (try with_reducible rfl)
      change wpAnyH _ _ _ _ _ _ _ (Act.put _ (some 44) _) _
      simp only [Act.put, ssA, ssZ, ssS]
      refine wpAnyH_ready (rs := [19]) (by kernel_rfl) (by simp) ?_
      refine AllReadyH.cons (o := _) rfl (fun K hK => ?_) AllReadyH.nil
      go_simp
      (go_at_call 86; refine (HIK.out _).mono ?_; rintro _ w6 ⟨rfl, hg6⟩)
      refine hK.out _ _ trivial (fun hHeld19 => ?_)
      clear hK K
      (try simp only [Act.put, ssA, ssZ, ssS])
      refine wpAnyH_take (i := 20) (v := ?_) rfl (by kernel_rfl) (by kernel_rfl) (by kernel_rfl) (fun _ _ _ h => h) (Or.inl ⟨by kernel_rfl, ?_⟩) hHeld19 ?_
      rotate_left
      ·intro w hSw
       (try dsimp only at hSw)
       go_simp
       (try with_reducible rfl)
      change wpAnyH _ _ _ _ _ _ _ (Act.put _ (some 46) _) _
      simp only [Act.put, ssA, ssZ, ssS]
      refine wpAnyH_take (i := 21) (v := ?_) rfl (by kernel_rfl) (by kernel_rfl) (by kernel_rfl) (fun _ _ _ h => h) (Or.inl ⟨by kernel_rfl, ?_⟩) hHeld19 ?_
      rotate_left
      ·intro w hSw
       (try dsimp only at hSw)
       go_simp
       (try with_reducible rfl)
      change wpAnyH _ _ _ _ _ _ _ (Act.put _ (some 4) _) _
      simp only [Act.put, ssA, ssZ, ssS]
      refine wpAnyH_done (by kernel_rfl) ?_ _
      go_wp2_with fail
      go_ret
      exact ⟨by rw [HE.out] <;> rfl, gr_trans (gr_drew (gr_refl _ _)) hg6⟩
     ·have h63i : ((p[0].toNat : Int) == 63) = false := by
       rw [beq_eq_false_iff_ne]
       intro e
       exact h63 (UInt8.toNat_inj.1 (by have : (63 : UInt8).toNat = 63 := rfl; omega))
      by_cases heq : p[0] = s[0]
      ·have heqi : ((p[0].toNat : Int) == (s[0].toNat : Int)) = true := by rw [heq]; simp
       have HE : Hid (E = B) := by show _ = _; rw [HFE.out, decide_eq_true heq]; simp
       clear h63 HFE heq
       go_enter Tryz.func86, Tryz.ntmps86
       go_wp2_with fail
       refine wp_region_held_drew (S := fun _ => True) (by kernel_rfl) trivial (fun hHeld => ?_)
       refine wpAnyH_take (i := 0) (v := ?_) rfl (by kernel_rfl) (by kernel_rfl) (by kernel_rfl) (fun _ _ _ h => h) (Or.inl ⟨by kernel_rfl, ?_⟩) hHeld ?_
       rotate_left
       ·intro w hSw
        (try dsimp only at hSw)
        go_simp
        (try with_reducible rfl)
       change wpAnyH _ _ _ _ _ _ _ (Act.put _ (some 26) _) _
       simp only [Act.put, ssA, ssZ, ssS]
       refine wpAnyH_take (i := 1) (v := ?_) rfl (by kernel_rfl) (by kernel_rfl) (by kernel_rfl) (fun _ _ _ h => h) (Or.inl ⟨by kernel_rfl, ?_⟩) hHeld ?_
       rotate_left
       ·intro w hSw
        (try dsimp only at hSw)
        go_simp
        (try with_reducible rfl)
       change wpAnyH _ _ _ _ _ _ _ (Act.put _ (some 27) _) _
       simp only [Act.put, ssA, ssZ, ssS]
       refine wpAnyH_take (i := 2) (v := ?_) rfl (by kernel_rfl) (by kernel_rfl) (by kernel_rfl) (fun _ _ _ h => h) (Or.inl ⟨by kernel_rfl, ?_⟩) hHeld ?_
       rotate_left
       ·intro w hSw
        (try dsimp only at hSw)
        go_simp
        (try with_reducible rfl)
       change wpAnyH _ _ _ _ _ _ _ (Act.put _ (some 28) _) _
       simp only [Act.put, ssA, ssZ, ssS]
       refine wpAnyH_take (i := 3) (v := ?_) rfl (by kernel_rfl) (by kernel_rfl) (by kernel_rfl) (fun _ _ _ h => h) (Or.inl ⟨by kernel_rfl, ?_⟩) hHeld ?_
       rotate_left
       ·intro w hSw
        (try dsimp only at hSw)
        go_simp
        (try with_reducible rfl)
       change wpAnyH _ _ _ _ _ _ _ (Act.put _ (some 29) _) _
       simp only [Act.put, ssA, ssZ, ssS]
       refine wpAnyH_take (i := 4) (v := ?_) rfl (by kernel_rfl) (by kernel_rfl) (by kernel_rfl) (fun _ _ _ h => h) (Or.inl ⟨by kernel_rfl, ?_⟩) hHeld ?_
       rotate_left
       ·intro w hSw
        (try dsimp only at hSw)
        go_simp
        (try with_reducible rfl)
       change wpAnyH _ _ _ _ _ _ _ (Act.put _ (some 30) _) _
       simp only [Act.put, ssA, ssZ, ssS]
       refine wpAnyH_take (i := 5) (v := ?_) rfl (by kernel_rfl) (by kernel_rfl) (by kernel_rfl) (fun _ _ _ h => h) (Or.inl ⟨by kernel_rfl, ?_⟩) hHeld ?_
       rotate_left
       ·intro w hSw
        (try dsimp only at hSw)
        go_simp
        (try with_reducible rfl)
       change wpAnyH _ _ _ _ _ _ _ (Act.put _ (some 31) _) _
       simp only [Act.put, ssA, ssZ, ssS]
       refine wpAnyH_take (i := 6) (v := ?_) rfl (by kernel_rfl) (by kernel_rfl) (by kernel_rfl) (fun _ _ _ h => h) (Or.inl ⟨by kernel_rfl, ?_⟩) hHeld ?_
       rotate_left
       ·intro w hSw
        (try dsimp only at hSw)
        go_simp
        (try with_reducible rfl)
       change wpAnyH _ _ _ _ _ _ _ (Act.put _ (some 32) _) _
       simp only [Act.put, ssA, ssZ, ssS]
       refine wpAnyH_take (i := 7) (v := ?_) rfl (by kernel_rfl) (by kernel_rfl) (by kernel_rfl) (fun _ _ _ h => h) (Or.inl ⟨by kernel_rfl, ?_⟩) hHeld ?_
       rotate_left
       ·intro w hSw
        (try dsimp only at hSw)
        go_simp
        (try with_reducible rfl)
       change wpAnyH _ _ _ _ _ _ _ (Act.put _ (some 33) _) _
       simp only [Act.put, ssA, ssZ, ssS]
       refine wpAnyH_take (i := 8) (v := ?_) rfl (by kernel_rfl) (by kernel_rfl) (by kernel_rfl) (fun _ _ _ h => h) (Or.inl ⟨by kernel_rfl, ?_⟩) hHeld ?_
       rotate_left
       ·intro w hSw
        (try dsimp only at hSw)
        go_simp
        (try with_reducible rfl)
       change wpAnyH _ _ _ _ _ _ _ (Act.put _ (some 34) _) _
       simp only [Act.put, ssA, ssZ, ssS]
       refine wpAnyH_take (i := 9) (v := ?_) rfl (by kernel_rfl) (by kernel_rfl) (by kernel_rfl) (fun _ _ _ h => h) (Or.inl ⟨by kernel_rfl, ?_⟩) hHeld ?_
       rotate_left
       ·intro w hSw
        (try dsimp only at hSw)
        go_simp
        (try with_reducible rfl)
       change wpAnyH _ _ _ _ _ _ _ (Act.put _ (some 35) _) _
       simp only [Act.put, ssA, ssZ, ssS]
       refine wpAnyH_take (i := 10) (v := ?_) rfl (by kernel_rfl) (by kernel_rfl) (by kernel_rfl) (fun _ _ _ h => h) (Or.inl ⟨by kernel_rfl, ?_⟩) hHeld ?_
       rotate_left
       ·intro w hSw
        (try dsimp only at hSw)
        go_simp
        (try with_reducible rfl)
       change wpAnyH _ _ _ _ _ _ _ (Act.put _ (some 36) _) _
       simp only [Act.put, ssA, ssZ, ssS]
       refine wpAnyH_take (i := 11) (v := ?_) rfl (by kernel_rfl) (by kernel_rfl) (by kernel_rfl) (fun _ _ _ h => h) (Or.inl ⟨by kernel_rfl, ?_⟩) hHeld ?_
       rotate_left
       ·intro w hSw
        (try dsimp only at hSw)
        go_simp
        (try with_reducible rfl)
       change wpAnyH _ _ _ _ _ _ _ (Act.put _ (some 37) _) _
       simp only [Act.put, ssA, ssZ, ssS]
       refine wpAnyH_take (i := 12) (v := ?_) rfl (by kernel_rfl) (by kernel_rfl) (by kernel_rfl) (fun _ _ _ h => h) (Or.inl ⟨by kernel_rfl, ?_⟩) hHeld ?_
       rotate_left
       ·intro w hSw
        (try dsimp only at hSw)
        go_simp
        (try with_reducible rfl)
       change wpAnyH _ _ _ _ _ _ _ (Act.put _ (some 38) _) _
       simp only [Act.put, ssA, ssZ, ssS]
       refine wpAnyH_take (i := 13) (v := ?_) rfl (by kernel_rfl) (by kernel_rfl) (by kernel_rfl) (fun _ _ _ h => h) (Or.inl ⟨by kernel_rfl, ?_⟩) hHeld ?_
       rotate_left
       ·intro w hSw
        (try dsimp only at hSw)
        go_simp
        (try with_reducible rfl)
       change wpAnyH _ _ _ _ _ _ _ (Act.put _ (some 39) _) _
       simp only [Act.put, ssA, ssZ, ssS]
       refine wpAnyH_take (i := 14) (v := ?_) rfl (by kernel_rfl) (by kernel_rfl) (by kernel_rfl) (fun _ _ _ h => h) (Or.inl ⟨by kernel_rfl, ?_⟩) hHeld ?_
       rotate_left
       ·intro w hSw
        (try dsimp only at hSw)
        go_simp
        (try with_reducible rfl)
       change wpAnyH _ _ _ _ _ _ _ (Act.put _ (some 40) _) _
       simp only [Act.put, ssA, ssZ, ssS]
       refine wpAnyH_take (i := 15) (v := ?_) rfl (by kernel_rfl) (by kernel_rfl) (by kernel_rfl) (fun _ _ _ h => h) (Or.inl ⟨by kernel_rfl, ?_⟩) hHeld ?_
       rotate_left
       ·intro w hSw
        (try dsimp only at hSw)
        go_simp
        (try with_reducible rfl)
       change wpAnyH _ _ _ _ _ _ _ (Act.put _ (some 41) _) _
       simp only [Act.put, ssA, ssZ, ssS]
       refine wpAnyH_take (i := 16) (v := ?_) rfl (by kernel_rfl) (by kernel_rfl) (by kernel_rfl) (fun _ _ _ h => h) (Or.inl ⟨by kernel_rfl, ?_⟩) hHeld ?_
       rotate_left
       ·intro w hSw
        (try dsimp only at hSw)
        go_simp
        (try with_reducible rfl)
       change wpAnyH _ _ _ _ _ _ _ (Act.put _ (some 42) _) _
       simp only [Act.put, ssA, ssZ, ssS]
       refine wpAnyH_take (i := 17) (v := ?_) rfl (by kernel_rfl) (by kernel_rfl) (by kernel_rfl) (fun _ _ _ h => h) (Or.inl ⟨by kernel_rfl, ?_⟩) hHeld ?_
       rotate_left
       ·intro w hSw
        (try dsimp only at hSw)
        go_simp
        (try with_reducible rfl)
       change wpAnyH _ _ _ _ _ _ _ (Act.put _ (some 43) _) _
       simp only [Act.put, ssA, ssZ, ssS]
       refine wpAnyH_take (i := 18) (v := ?_) rfl (by kernel_rfl) (by kernel_rfl) (by kernel_rfl) (fun _ _ _ h => h) (Or.inl ⟨by kernel_rfl, ?_⟩) hHeld ?_
       rotate_left
       ·intro w hSw
        (try dsimp only at hSw)
        go_simp
        (try with_reducible rfl)
       change wpAnyH _ _ _ _ _ _ _ (Act.put _ (some 44) _) _
       simp only [Act.put, ssA, ssZ, ssS]
       refine wpAnyH_ready (rs := [19]) (by kernel_rfl) (by simp) ?_
       refine AllReadyH.cons (o := _) rfl (fun K hK => ?_) AllReadyH.nil
       go_simp
       (go_at_call 86; refine (HIK.out _).mono ?_; rintro _ w6 ⟨rfl, hg6⟩)
       refine hK.out _ _ trivial (fun hHeld19 => ?_)
       clear hK K
       (try simp only [Act.put, ssA, ssZ, ssS])
       refine wpAnyH_take (i := 20) (v := ?_) rfl (by kernel_rfl) (by kernel_rfl) (by kernel_rfl) (fun _ _ _ h => h) (Or.inl ⟨by kernel_rfl, ?_⟩) hHeld19 ?_
       rotate_left
       ·intro w hSw
        (try dsimp only at hSw)
        go_simp
        (try with_reducible rfl)
       change wpAnyH _ _ _ _ _ _ _ (Act.put _ (some 46) _) _
       simp only [Act.put, ssA, ssZ, ssS]
       refine wpAnyH_take (i := 21) (v := ?_) rfl (by kernel_rfl) (by kernel_rfl) (by kernel_rfl) (fun _ _ _ h => h) (Or.inl ⟨by kernel_rfl, ?_⟩) hHeld19 ?_
       rotate_left
       ·intro w hSw
        (try dsimp only at hSw)
        go_simp
        (try with_reducible rfl)
       change wpAnyH _ _ _ _ _ _ _ (Act.put _ (some 4) _) _
       simp only [Act.put, ssA, ssZ, ssS]
       refine wpAnyH_done (by kernel_rfl) ?_ _
       go_wp2_with fail
       go_ret
       exact ⟨by rw [HE.out] <;> rfl, gr_trans (gr_drew (gr_refl _ _)) hg6⟩
      ·have heqi : ((p[0].toNat : Int) == (s[0].toNat : Int)) = false := by
        rw [beq_eq_false_iff_ne]
        intro e
        exact heq (UInt8.toNat_inj.1 (by omega))
       have HE : Hid (E = false) := by show _ = _; rw [HFE.out, decide_eq_false heq, decide_eq_false h63]; rfl
       clear h63 HFE heq
       go_enter Tryz.func86, Tryz.ntmps86
       go_wp2_with fail
       refine wp_region_held_drew (S := fun _ => True) (by kernel_rfl) trivial (fun hHeld => ?_)
       refine wpAnyH_take (i := 0) (v := ?_) rfl (by kernel_rfl) (by kernel_rfl) (by kernel_rfl) (fun _ _ _ h => h) (Or.inl ⟨by kernel_rfl, ?_⟩) hHeld ?_
       rotate_left
       ·intro w hSw
        (try dsimp only at hSw)
        go_simp
        (try with_reducible rfl)
       change wpAnyH _ _ _ _ _ _ _ (Act.put _ (some 26) _) _
       simp only [Act.put, ssA, ssZ, ssS]
       refine wpAnyH_take (i := 1) (v := ?_) rfl (by kernel_rfl) (by kernel_rfl) (by kernel_rfl) (fun _ _ _ h => h) (Or.inl ⟨by kernel_rfl, ?_⟩) hHeld ?_
       rotate_left
       ·intro w hSw
        (try dsimp only at hSw)
        go_simp
        (try with_reducible rfl)
       change wpAnyH _ _ _ _ _ _ _ (Act.put _ (some 27) _) _
       simp only [Act.put, ssA, ssZ, ssS]
       refine wpAnyH_take (i := 2) (v := ?_) rfl (by kernel_rfl) (by kernel_rfl) (by kernel_rfl) (fun _ _ _ h => h) (Or.inl ⟨by kernel_rfl, ?_⟩) hHeld ?_
       rotate_left
       ·intro w hSw
        (try dsimp only at hSw)
        go_simp
        (try with_reducible rfl)
       change wpAnyH _ _ _ _ _ _ _ (Act.put _ (some 28) _) _
       simp only [Act.put, ssA, ssZ, ssS]
       refine wpAnyH_take (i := 3) (v := ?_) rfl (by kernel_rfl) (by kernel_rfl) (by kernel_rfl) (fun _ _ _ h => h) (Or.inl ⟨by kernel_rfl, ?_⟩) hHeld ?_
       rotate_left
       ·intro w hSw
        (try dsimp only at hSw)
        go_simp
        (try with_reducible rfl)
       change wpAnyH _ _ _ _ _ _ _ (Act.put _ (some 29) _) _
       simp only [Act.put, ssA, ssZ, ssS]
       refine wpAnyH_take (i := 4) (v := ?_) rfl (by kernel_rfl) (by kernel_rfl) (by kernel_rfl) (fun _ _ _ h => h) (Or.inl ⟨by kernel_rfl, ?_⟩) hHeld ?_
       rotate_left
       ·intro w hSw
        (try dsimp only at hSw)
        go_simp
        (try with_reducible rfl)
       change wpAnyH _ _ _ _ _ _ _ (Act.put _ (some 30) _) _
       simp only [Act.put, ssA, ssZ, ssS]
       refine wpAnyH_take (i := 5) (v := ?_) rfl (by kernel_rfl) (by kernel_rfl) (by kernel_rfl) (fun _ _ _ h => h) (Or.inl ⟨by kernel_rfl, ?_⟩) hHeld ?_
       rotate_left
       ·intro w hSw
        (try dsimp only at hSw)
        go_simp
        (try with_reducible rfl)
       change wpAnyH _ _ _ _ _ _ _ (Act.put _ (some 31) _) _
       simp only [Act.put, ssA, ssZ, ssS]
       refine wpAnyH_take (i := 6) (v := ?_) rfl (by kernel_rfl) (by kernel_rfl) (by kernel_rfl) (fun _ _ _ h => h) (Or.inl ⟨by kernel_rfl, ?_⟩) hHeld ?_
       rotate_left
       ·intro w hSw
        (try dsimp only at hSw)
        go_simp
        (try with_reducible rfl)
       change wpAnyH _ _ _ _ _ _ _ (Act.put _ (some 32) _) _
       simp only [Act.put, ssA, ssZ, ssS]
       refine wpAnyH_take (i := 7) (v := ?_) rfl (by kernel_rfl) (by kernel_rfl) (by kernel_rfl) (fun _ _ _ h => h) (Or.inl ⟨by kernel_rfl, ?_⟩) hHeld ?_
       rotate_left
       ·intro w hSw
        (try dsimp only at hSw)
        go_simp
        (try with_reducible rfl)
       change wpAnyH _ _ _ _ _ _ _ (Act.put _ (some 33) _) _
       simp only [Act.put, ssA, ssZ, ssS]
       refine wpAnyH_take (i := 8) (v := ?_) rfl (by kernel_rfl) (by kernel_rfl) (by kernel_rfl) (fun _ _ _ h => h) (Or.inl ⟨by kernel_rfl, ?_⟩) hHeld ?_
       rotate_left
       ·intro w hSw
        (try dsimp only at hSw)
        go_simp
        (try with_reducible rfl)
       change wpAnyH _ _ _ _ _ _ _ (Act.put _ (some 34) _) _
       simp only [Act.put, ssA, ssZ, ssS]
       refine wpAnyH_take (i := 9) (v := ?_) rfl (by kernel_rfl) (by kernel_rfl) (by kernel_rfl) (fun _ _ _ h => h) (Or.inl ⟨by kernel_rfl, ?_⟩) hHeld ?_
       rotate_left
       ·intro w hSw
        (try dsimp only at hSw)
        go_simp
        (try with_reducible rfl)
       change wpAnyH _ _ _ _ _ _ _ (Act.put _ (some 35) _) _
       simp only [Act.put, ssA, ssZ, ssS]
       refine wpAnyH_take (i := 10) (v := ?_) rfl (by kernel_rfl) (by kernel_rfl) (by kernel_rfl) (fun _ _ _ h => h) (Or.inl ⟨by kernel_rfl, ?_⟩) hHeld ?_
       rotate_left
       ·intro w hSw
        (try dsimp only at hSw)
        go_simp
        (try with_reducible rfl)
       change wpAnyH _ _ _ _ _ _ _ (Act.put _ (some 36) _) _
       simp only [Act.put, ssA, ssZ, ssS]
       refine wpAnyH_take (i := 11) (v := ?_) rfl (by kernel_rfl) (by kernel_rfl) (by kernel_rfl) (fun _ _ _ h => h) (Or.inl ⟨by kernel_rfl, ?_⟩) hHeld ?_
       rotate_left
       ·intro w hSw
        (try dsimp only at hSw)
        go_simp
        (try with_reducible rfl)
       change wpAnyH _ _ _ _ _ _ _ (Act.put _ (some 37) _) _
       simp only [Act.put, ssA, ssZ, ssS]
       refine wpAnyH_take (i := 12) (v := ?_) rfl (by kernel_rfl) (by kernel_rfl) (by kernel_rfl) (fun _ _ _ h => h) (Or.inl ⟨by kernel_rfl, ?_⟩) hHeld ?_
       rotate_left
       ·intro w hSw
        (try dsimp only at hSw)
        go_simp
        (try with_reducible rfl)
       change wpAnyH _ _ _ _ _ _ _ (Act.put _ (some 38) _) _
       simp only [Act.put, ssA, ssZ, ssS]
       refine wpAnyH_take (i := 13) (v := ?_) rfl (by kernel_rfl) (by kernel_rfl) (by kernel_rfl) (fun _ _ _ h => h) (Or.inl ⟨by kernel_rfl, ?_⟩) hHeld ?_
       rotate_left
       ·intro w hSw
        (try dsimp only at hSw)
        go_simp
        (try with_reducible rfl)
       change wpAnyH _ _ _ _ _ _ _ (Act.put _ (some 39) _) _
       simp only [Act.put, ssA, ssZ, ssS]
       refine wpAnyH_take (i := 14) (v := ?_) rfl (by kernel_rfl) (by kernel_rfl) (by kernel_rfl) (fun _ _ _ h => h) (Or.inl ⟨by kernel_rfl, ?_⟩) hHeld ?_
       rotate_left
       ·intro w hSw
        (try dsimp only at hSw)
        go_simp
        (try with_reducible rfl)
       change wpAnyH _ _ _ _ _ _ _ (Act.put _ (some 40) _) _
       simp only [Act.put, ssA, ssZ, ssS]
       refine wpAnyH_take (i := 15) (v := undef) rfl (by kernel_rfl) (by kernel_rfl) (by kernel_rfl) (fun _ _ _ h => h) (Or.inr ⟨by kernel_rfl, rfl⟩) hHeld ?_
       change wpAnyH _ _ _ _ _ _ _ (Act.put _ (some 41) _) _
       simp only [Act.put, ssA, ssZ, ssS]
       refine wpAnyH_take (i := 16) (v := undef) rfl (by kernel_rfl) (by kernel_rfl) (by kernel_rfl) (fun _ _ _ h => h) (Or.inr ⟨by kernel_rfl, rfl⟩) hHeld ?_
       change wpAnyH _ _ _ _ _ _ _ (Act.put _ (some 42) _) _
       simp only [Act.put, ssA, ssZ, ssS]
       refine wpAnyH_take (i := 17) (v := undef) rfl (by kernel_rfl) (by kernel_rfl) (by kernel_rfl) (fun _ _ _ h => h) (Or.inr ⟨by kernel_rfl, rfl⟩) hHeld ?_
       change wpAnyH _ _ _ _ _ _ _ (Act.put _ (some 43) _) _
       simp only [Act.put, ssA, ssZ, ssS]
       refine wpAnyH_take (i := 18) (v := undef) rfl (by kernel_rfl) (by kernel_rfl) (by kernel_rfl) (fun _ _ _ h => h) (Or.inr ⟨by kernel_rfl, rfl⟩) hHeld ?_
       change wpAnyH _ _ _ _ _ _ _ (Act.put _ (some 44) _) _
       simp only [Act.put, ssA, ssZ, ssS]
       refine wpAnyH_take (i := 19) (v := undef) rfl (by kernel_rfl) (by kernel_rfl) (by kernel_rfl) (fun _ _ _ h => h) (Or.inr ⟨by kernel_rfl, rfl⟩) hHeld ?_
       change wpAnyH _ _ _ _ _ _ _ (Act.put _ (some 45) _) _
       simp only [Act.put, ssA, ssZ, ssS]
       refine wpAnyH_take (i := 20) (v := ?_) rfl (by kernel_rfl) (by kernel_rfl) (by kernel_rfl) (fun _ _ _ h => h) (Or.inl ⟨by kernel_rfl, ?_⟩) hHeld ?_
       rotate_left
       ·intro w hSw
        (try dsimp only at hSw)
        go_simp
        (try with_reducible rfl)
       change wpAnyH _ _ _ _ _ _ _ (Act.put _ (some 46) _) _
       simp only [Act.put, ssA, ssZ, ssS]
       refine wpAnyH_take (i := 21) (v := ?_) rfl (by kernel_rfl) (by kernel_rfl) (by kernel_rfl) (fun _ _ _ h => h) (Or.inl ⟨by kernel_rfl, ?_⟩) hHeld ?_
       rotate_left
       ·intro w hSw
        (try dsimp only at hSw)
        go_simp
        (try with_reducible rfl)
       change wpAnyH _ _ _ _ _ _ _ (Act.put _ (some 4) _) _
       simp only [Act.put, ssA, ssZ, ssS]
       refine wpAnyH_done (by kernel_rfl) ?_ _
       go_wp2_with fail
       go_ret
       exact ⟨by rw [HE.out] <;> rfl, (by repeat (first | exact gr_refl _ _ | assumption | refine gr_alloc ?_ _ | refine gr_drewN ?_ _ | refine gr_drew ?_))⟩
end Go.Proofs.YtbpkfkbbkgdlaaaGreatDoor

namespace Go.Proofs.YtbpkfkbbkgdlaaaGreatDoor
open Go.RowKit
set_option linter.unusedVariables false
set_option linter.unusedSimpArgs false

def patS : ByteArray := ⟨#[97, 98, 99, 100, 101, 102, 103, 104, 105, 106, 107, 108, 109, 110, 111, 112, 113, 114, 115, 116, 117, 118, 119, 120, 121, 122, 48, 49, 50, 51, 52, 53, 54, 55, 56, 57, 47, 63, 42]⟩
def patT (p : ByteArray) : ByteArray := ⟨(Lib.trimS p.data.toList patS.data.toList).toArray⟩
def patE (p : ByteArray) : Int := if p.size = 0 ∨ 14 < p.size ∨ (patT p).toList.isEmpty = false then 3 else 0
theorem patTrim (p : ByteArray) (w : World) (hp : p.size ≤ 1000) : Calls Tryz.prog 85 #[.string p, .string ⟨#[97, 98, 99, 100, 101, 102, 103, 104, 105, 106, 107, 108, 109, 110, 111, 112, 113, 114, 115, 116, 117, 118, 119, 120, 121, 122, 48, 49, 50, 51, 52, 53, 54, 55, 56, 57, 47, 63, 42]⟩] w fun e w' => e = .returned (.string (patT p)) ∧ w.grownBy w' none :=
 trim_any p patS w (by omega) (by decide) (by decide +kernel)
/-- The four ways of a pattern. -/
inductive PatWay (p : ByteArray) : Prop
 | nil (h : p.size = 0) (e : patE p = 3)
 | long (h0 : 0 < p.size) (h : 14 < p.size) (e : patE p = 3)
 | bad (h0 : 0 < p.size) (h : p.size ≤ 14) (h2 : (patT p).toList.isEmpty = false) (e : patE p = 3)
 | ok (h0 : 0 < p.size) (h : p.size ≤ 14) (h2 : (patT p).toList.isEmpty = true) (e : patE p = 0)
theorem patWay (p : ByteArray) : PatWay p := by
 rcases Nat.eq_zero_or_pos p.size with h | h
 ·exact .nil h (by unfold patE; rw [if_pos (.inl h)])
 ·by_cases h2 : 14 < p.size
  ·exact .long h h2 (by unfold patE; rw [if_pos (.inr (.inl h2))])
  ·cases h3 : (patT p).toList.isEmpty
   ·exact .bad h (by omega) h3 (by unfold patE; rw [if_pos (.inr (.inr h3))])
   ·exact .ok h (by omega) h3 (by unfold patE; rw [if_neg]; rintro (h4 | h4 | h4); omega; omega; rw [h3] at h4; cases h4)
def fitS (p x : ByteArray) : Bool := fitL p.data.toList x.data.toList
theorem filter_take {p : ByteArray} {L : List ByteArray} {k : Nat} (h : k < L.length) : (L.take (k + 1)).filter (fitS p) = (L.take k).filter (fitS p) ++ (if fitS p L[k] = true then [L[k]] else []) := by
 rw [List.take_succ_eq_append_getElem h, List.filter_append]
 congr 1
 by_cases hh : fitS p L[k] = true
 ·rw [if_pos hh, List.filter_cons_of_pos hh, List.filter_nil]
 ·rw [if_neg hh, List.filter_cons_of_neg hh, List.filter_nil]
def guessE (p : ByteArray) (L : List ByteArray) : Int := if patE p = 0 then callsE L else patE p
def guessL (p : ByteArray) (L : List ByteArray) : List ByteArray := if guessE p L = 0 then L.filter (fitS p) else []
def GuessPost (p : ByteArray) (L : List ByteArray) (w : World) (e : Ending) (w' : World) : Prop := ∃ u, e = .returned (.tuple #[u, .int .i64 (guessE p L)]) ∧ StrsFrom w.heap.size w' u (guessL p L) ∧ w.grownBy w' none
set_option maxRecDepth 100000 in
set_option maxHeartbeats 4000000 in
theorem guess_any (base : Nat) (p : ByteArray) (v : Value) (L : List ByteArray) (w : World) (hl : StrsFrom base w v L) (hn : SmallS L) (hp : p.size ≤ 100) :
 Calls Tryz.prog 35 #[.string p, v] w (GuessPost p L w) := by
 have HT := Lib.hid (fun W => patTrim p W (by omega))
 have HCK := Lib.hid (fun W (h : StrsFrom base W v L) => checkCalls_any base v L W h hn)
 have HPOST : Hid (∀ e w' u, e = .returned (.tuple #[u, .int .i64 (guessE p L)]) → StrsFrom w.heap.size w' u (guessL p L) → w.grownBy w' none → GuessPost p L w e w') := fun e w' u h1 h2 h3 => ⟨u, h1, h2, h3⟩
 have HBAD : Hid (guessE p L ≠ 0 → ∀ W, StrsFrom w.heap.size W (.slice none 0 0) (guessL p L)) := fun h W => by unfold guessL; rw [if_neg h]; exact StrsFrom.nil _ _
 have HFIT := Lib.hid (fun x W (hx : x.size ≤ 100) => fits_any p.size p x W rfl (by omega) hx)
 cases patWay p with
 | nil h e =>
   have hge : guessE p L = 3 := by unfold guessE; rw [if_neg (by rw [e]; decide), e]
   obtain ⟨s1, s2⟩ := emptyB h
   rw [hge] at HPOST HBAD
   have HB := Lib.hid (HBAD.out (by decide))
   clear e h hge s2 HBAD HCK HFIT hl
   go_enter Tryz.func35, Tryz.ntmps35
   go_wp2_with fail
   go_ret2
   exact HPOST.out _ _ _ rfl (HB.out _) (gr_refl _ _)
 | long h0 h e =>
   have hge : guessE p L = 3 := by unfold guessE; rw [if_neg (by rw [e]; decide), e]
   obtain ⟨s1, s2, _⟩ := fullC h0
   rw [hge] at HPOST HBAD
   have HB := Lib.hid (HBAD.out (by decide))
   have hi : (14 : Int) < (p.size : Int) := by omega
   clear e h hge s2 HBAD HCK HFIT hl h0
   go_enter Tryz.func35, Tryz.ntmps35
   go_wp2_with fail
   go_ret2
   exact HPOST.out _ _ _ rfl (HB.out _) (gr_refl _ _)
 | bad h0 h h2 e =>
   have hge : guessE p L = 3 := by unfold guessE; rw [if_neg (by rw [e]; decide), e]
   obtain ⟨s1, s2, _⟩ := fullC h0
   rw [hge] at HPOST HBAD
   have HB := Lib.hid (HBAD.out (by decide))
   have hi : ¬ (14 : Int) < (p.size : Int) := by omega
   clear e h hge s2 HBAD HCK HFIT hl h0
   go_enter Tryz.func35, Tryz.ntmps35
   go_wp2_with fail
   refine (HT.out _).mono ?_
   rintro _ w1 ⟨rfl, hg1⟩
   go_wp2_with fail
   go_ret2
   exact HPOST.out _ _ _ rfl (HB.out _) hg1
 | ok h0 h h2 e =>
   have hge : guessE p L = callsE L := by unfold guessE; rw [if_pos e]
   obtain ⟨s1, s2, _⟩ := fullC h0
   have hi : ¬ (14 : Int) < (p.size : Int) := by omega
   by_cases hce : callsE L = 0
   ·rw [hce] at HCK hge
    have hgl : guessL p L = L.filter (fitS p) := by unfold guessL; rw [if_pos hge]
    rw [hge, hgl] at HPOST
    obtain ⟨i0, hi0, hz0, hz1, hz2⟩ := info_parts strInfo
    have HL := Lib.hid hl
    obtain ⟨A, ca, rfl, hla, hA⟩ := hl.shape
    obtain ⟨hn1, hn2⟩ := hn
    have HC := Lib.hid hn2
    obtain ⟨N, hN⟩ : ∃ N, L.length = N := ⟨_, rfl⟩
    have HNN := Lib.hid hN
    have HA : Hid (0 < N → ∃ g, A = some ⟨g, 0, none⟩) := fun h => by
     obtain ⟨g, e, _⟩ := hA (by rw [hN]; exact h)
     exact ⟨g, e⟩
    have HL2 : Hid (∀ W : World, w.grownBy W none → StrsFrom base W (.slice A N ca) L) := fun W hW => by
     have hh := HL.out.grown hW
     rw [hN] at hh
     exact hh
    rw [hN] at hla hn1 HCK ⊢
    clear e h hge s2 HBAD hl h0 hce hgl hA hn2 hN HL
    go_enter Tryz.func35, Tryz.ntmps35
    go_wp2_with fail
    refine (HT.out _).mono ?_
    rintro _ w1 ⟨rfl, hg1⟩
    go_wp2_with fail
    refine (HCK.out _ (HL2.out _ hg1)).mono ?_
    rintro _ w2 ⟨rfl, hg2⟩
    have hG2 := gr_trans hg1 hg2
    clear hg1 hg2 HCK
    go_wp2_with fail
    go_loopw [7, 29] (fun o i wr => ∃ k : Nat, k ≤ N ∧ i = .int .i64 k ∧ Hid (StrsFrom w.heap.size wr o ((L.take k).filter (fitS p))) ∧ w.grownBy wr none) (fun _ i _ => N - (intOf i).toNat)
    case atStart => exact ⟨0, by omega, rfl, StrsFrom.nil _ _, hG2⟩
    case round =>
     obtain ⟨k, hk, rfl, HO, hgr⟩ := hrel
     rename World => wx
     by_cases hlt : k < N
     ·have hki : (k : Int) < (N : Int) := by omega
      have hkl : k < L.length := by rw [HNN.out]; exact hlt
      obtain ⟨g, rfl⟩ := HA.out (by omega)
      have cx : wx.cell? ⟨g, k, none⟩ = some (.string L[k]) := by
       have hh := HL2.out wx hgr
       rw [← HNN.out] at hh
       exact hh.at_ k hkl
      have HF := Lib.hid (fun W => HFIT.out L[k] W (HC.out _ (List.getElem_mem hkl)).1)
      have hsn := filter_take (p := p) hkl
      have hlen : ((L.take k).filter (fitS p)).length ≤ 1000 := by
       have h1 := List.length_filter_le (fitS p) (L.take k)
       have h2 : (L.take k).length ≤ k := by rw [List.length_take]; omega
       omega
      generalize L[k] = x at *
      obtain ⟨l1, hl1⟩ : ∃ l1, (L.take k).filter (fitS p) = l1 := ⟨_, rfl⟩
      rw [hl1] at HO hlen hsn
      obtain ⟨A2, c2, rfl, hk9, _⟩ := HO.out.shape
      have HF' : Hid (∀ W, Calls Tryz.prog 86 #[.string p, .string x] W fun e w' => e = .returned (.bool (fitS p x)) ∧ W.grownBy w' none) := HF
      have HSN := Lib.hid hsn
      clear hsn hl1 HF HFIT
      cases hB : fitS p x
      ·rw [hB] at HF'
       have HO7 : Hid (∀ W o, StrsFrom w.heap.size W o l1 → StrsFrom w.heap.size W o ((L.take (k + 1)).filter (fitS p))) := fun W o hh => by
        rw [HSN.out, if_neg (by rw [hB]; simp), List.append_nil]; exact hh
       clear hB HSN
       go_wp2_with fail
       refine (HF'.out _).mono ?_
       rintro _ w6 ⟨rfl, hg6⟩
       have hO := HO7.out _ _ (HO.out.grown hg6)
       go_wp2_with fail
       go_roundw
       case rel => exact ⟨k + 1, by omega, by go_num, hO, gr_trans hgr hg6⟩
       case measure => simp [intOf]; omega
      ·rw [hB] at HF'
       have HO7 : Hid (∀ W o, StrsFrom w.heap.size W o (l1 ++ [x]) → StrsFrom w.heap.size W o ((L.take (k + 1)).filter (fitS p))) := fun W o hh => by
        rw [HSN.out, if_pos hB]; exact hh
       clear hB HSN
       go_wp2_with fail
       refine (HF'.out _).mono ?_
       rintro _ w6 ⟨rfl, hg6⟩
       have hG6 := gr_trans hgr hg6
       have hsz6 := hG6.size
       have hown : w6.ownsRow w.heap.size 9 1 (.slice A2 l1.length c2) l1.length (l1.map Value.string) := HO.out.grown hg6
       have hrow : ∀ g, (Value.slice A2 l1.length c2).ownBlock = some g → w.heap.size ≤ g := fun g e => (hown.lt g e).1
       have HROW := Lib.hid hrow
       clear hrow
       go_wp2_with (at_builtin; refine wpList_append_own _ rfl _ _ 31 rfl w.heap.size 9 i0 _ 1 16 Tryz.underlying31 hi0 hz0 hz1 hz2 rfl (by decide) _ _ _ rfl (hown.alloc _) ⟨w6.heap.size, 0, none⟩ 1 1 [.string x] rfl rfl (cells_new _ _ _) (str_one _) (by unfold maxLen; omega) (by omega) (by simp; omega) ?_; intro v' w7 hownB hgrB _)
       have hG7 : w.grownBy w7 none := gr_grown (gr_alloc hG6 _) hgrB (fun g e => .inr (HROW.out g e))
       have hO := HO7.out w7 v' (by unfold StrsFrom; rw [List.map_append, List.length_append]; exact hownB)
       clear hown hgrB hownB
       go_wp2_with fail
       go_roundw
       case rel => exact ⟨k + 1, by omega, by go_num, hO, hG7⟩
       case measure => simp [intOf]; omega
     ·have hki : ¬ (k : Int) < (N : Int) := by omega
      have hfull : L.take k = L := List.take_of_length_le (by rw [HNN.out]; omega)
      rw [hfull] at HO
      clear hfull
      go_wp2_with fail
      go_ret2
      exact HPOST.out _ _ _ rfl HO.out hgr
   ·have hne : (callsE L != 0) = true := by rw [bne_iff_ne]; exact hce
    rw [hge] at HPOST HBAD
    have HB := Lib.hid (HBAD.out hce)
    have HL := Lib.hid hl
    clear e h hge s2 HBAD HFIT hl h0 hce
    generalize callsE L = C at *
    go_enter Tryz.func35, Tryz.ntmps35
    go_wp2_with fail
    refine (HT.out _).mono ?_
    rintro _ w1 ⟨rfl, hg1⟩
    go_wp2_with fail
    refine (HCK.out _ (HL.out.grown hg1)).mono ?_
    rintro _ w2 ⟨rfl, hg2⟩
    go_wp2_with fail
    go_ret2
    exact HPOST.out _ _ _ rfl (HB.out _) (gr_trans hg1 hg2)
end Go.Proofs.YtbpkfkbbkgdlaaaGreatDoor
