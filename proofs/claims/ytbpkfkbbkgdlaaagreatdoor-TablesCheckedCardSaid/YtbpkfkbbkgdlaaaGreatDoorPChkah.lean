/- The walks over the references CallFault, CallsFault and NearOf, and over call.CheckCalls, call.Distance and call.Near at all arguments. Condition: at most 1000 strings of ASCII of at most 100 bytes; the steps between two are told. The walks over the stream's CallOf and RightCall: a string of ASCII, at most 30 bytes; a call sign. Condition: the stream has handed out at most 10^10 numbers. The walks over call.Distance and call.Near at all arguments, and over the stream's CallList and PatternOf. Condition: strings of ASCII of at most 100 bytes, at most 1000 of them; the stream has handed out at most 10^9 numbers. The stream's Asked: a moment within bounds. Condition: the stream has handed out at most 10^11 numbers. The walks over a table's methods time, found and counting. Condition: a right table lies in memory. The walks over the errors of lists of entities: the reference's EntitiesFault, call.CheckEntities. Condition: keys of at most 10^9 bytes, ends of at most 60 bits. cmp.Compare and cmp.Or at numbers. No condition but a short list. -/
import Derived.Test.YtbpkfkbbkgdlaaaGreatDoorPChkaf
import Derived.Test.YtbpkfkbbkgdlaaaGreatDoorPChkab
import Derived.Lib.AppendZeros
import Derived.Laws.AppendOwnNone
import Derived.Deep.RegionWith
import Derived.Test.YtbpkfkbbkgdlaaaGreatDoorPChkag
import Derived.Test.YtbpkfkbbkgdlaaaGreatDoorPChkae
import Derived.Test.YtbpkfkbbkgdlaaaGreatDoorPChkaa
import Derived.Test.YtbpkfkbbkgdlaaaGreatDoorPChkac
import Derived.Deep.DeepCutAuto
import Derived.Deep.RegionHeld3
namespace Go.Proofs.YtbpkfkbbkgdlaaaGreatDoor
open Go.RowKit
set_option linter.unusedVariables false
set_option linter.unusedSimpArgs false

def callE (s : ByteArray) : Int := if isCall s = true then 0 else 3
def allC (L : List ByteArray) : Bool := L.all isCall
def callsE (L : List ByteArray) : Int := if allC L = true then 0 else 3
theorem callE_0 {s : ByteArray} (h : isCall s = true) : callE s = 0 := by unfold callE; rw [if_pos h]
theorem callE_3 {s : ByteArray} (h : isCall s = false) : callE s = 3 := by unfold callE; rw [if_neg (by rw [h]; simp)]
def SmallS (L : List ByteArray) : Prop := L.length ≤ 1000 ∧ ∀ s ∈ L, s.size ≤ 100 ∧ Ascii s
set_option maxHeartbeats 1000000 in
theorem callFault_any (s : ByteArray) (w : World) (hs : s.size ≤ 1000) (ha : Ascii s) :
 Calls Tryz.prog 19 #[.string s] w fun e w' => e = .returned (.int .i64 (callE s)) ∧ w.grownBy w' none := by
 have HI := Lib.hid (refIsCall_any s w (by omega) ha)
 rw [show (partsOf s).isSome = isCall s from rfl] at HI
 clear hs ha
 cases hc : isCall s
 ·rw [hc] at HI
  rw [callE_3 hc]
  clear hc
  go_enter Tryz.func19, Tryz.ntmps19
  go_wp2_with fail
  refine HI.out.mono ?_
  rintro _ w1 ⟨rfl, hg1⟩
  go_wp2_with fail
  go_ret
  exact ⟨rfl, hg1⟩
 ·rw [hc] at HI
  rw [callE_0 hc]
  clear hc
  go_enter Tryz.func19, Tryz.ntmps19
  go_wp2_with fail
  refine HI.out.mono ?_
  rintro _ w1 ⟨rfl, hg1⟩
  go_wp2_with fail
  go_ret
  exact ⟨rfl, hg1⟩
theorem all_take {L : List ByteArray} {k : Nat} (h : k < L.length) (h1 : allC (L.take k) = true) (h2 : isCall L[k] = true) : allC (L.take (k + 1)) = true := by
 unfold allC at *
 rw [List.take_succ_eq_append_getElem h, List.all_append, h1, List.all_cons, h2]; rfl
theorem all_not {L : List ByteArray} {k : Nat} (h : k < L.length) (h2 : isCall L[k] = false) : allC L = false := by
 unfold allC
 rw [List.all_eq_false]
 exact ⟨L[k], List.getElem_mem h, by rw [h2]; simp⟩
set_option maxRecDepth 100000 in
set_option maxHeartbeats 4000000 in
theorem callsFault_any (base : Nat) (v : Value) (L : List ByteArray) (w : World) (hl : StrsFrom base w v L) (hn : SmallS L) :
 Calls Tryz.prog 21 #[v] w fun e w' => e = .returned (.int .i64 (callsE L)) ∧ w.grownBy w' none := by
 obtain ⟨A, ca, rfl, hla, hA⟩ := hl.shape
 obtain ⟨hn1, hn2⟩ := hn
 have HU := Lib.hid hl
 have HC := Lib.hid hn2
 have HA := Lib.hid hA
 have hn2i : ¬ (1000 : Int) < (L.length : Int) := by omega
 clear hl hn2 hA
 go_enter Tryz.func21, Tryz.ntmps21
 go_wp2_with fail
 go_loopw [11] (fun i wr => ∃ k : Nat, k ≤ L.length ∧ i = .int .i64 k ∧ Hid (allC (L.take k) = true) ∧ w.grownBy wr none) (fun i _ => L.length - (intOf i).toNat)
 case atStart => exact ⟨0, by omega, rfl, rfl, gr_refl _ _⟩
 case round =>
  obtain ⟨k, hk, rfl, HT, hgr⟩ := hrel
  by_cases hlt : k < L.length
  ·obtain ⟨g, rfl, _, _⟩ := HA.out (by omega)
   have cx := (HU.out.grown hgr).at_ k hlt
   have hkl : (k : Int) < (L.length : Int) := by omega
   obtain ⟨q1, q2⟩ := HC.out L[k] (List.getElem_mem hlt)
   have HN := Lib.hid (callFault_any L[k] wr (by omega) q2)
   have HAT := Lib.hid (fun h => all_take hlt HT.out h)
   have HNT := Lib.hid (fun h => all_not hlt h)
   generalize L[k] = x at *
   cases hc : isCall x
   ·rw [callE_3 hc] at HN
    have HE : Hid (callsE L = 3) := by show _ = _; unfold callsE; rw [if_neg (by rw [HNT.out hc]; simp)]
    clear hc q1 q2
    go_wp2_with fail
    refine HN.out.mono ?_
    rintro _ w1 ⟨rfl, hg1⟩
    go_wp2_with fail
    go_ret
    exact ⟨by rw [HE.out] <;> rfl, gr_trans hgr hg1⟩
   ·rw [callE_0 hc] at HN
    have HT2 := Lib.hid (HAT.out hc)
    clear hc q1 q2
    go_wp2_with fail
    refine HN.out.mono ?_
    rintro _ w1 ⟨rfl, hg1⟩
    go_wp2_with fail
    go_roundw
    case rel => exact ⟨k + 1, by omega, by go_num, HT2, gr_trans hgr hg1⟩
    case measure => simp [intOf]; omega
  ·have hkl : ¬ (k : Int) < (L.length : Int) := by omega
   have hfull : L.take k = L := List.take_of_length_le (by omega)
   rw [hfull] at HT
   have HE : Hid (callsE L = 0) := by show _ = _; unfold callsE; rw [if_pos HT.out]
   clear hfull
   go_wp2_with fail
   go_ret
   exact ⟨by rw [HE.out] <;> rfl, hgr⟩
set_option maxRecDepth 100000 in
set_option maxHeartbeats 4000000 in
theorem idxCalls (base : Nat) (v : Value) (l : List ByteArray) (w : World) (hl : StrsFrom base w v l) (hn : SmallS l) :
 Calls Tryz.prog 157 #[v, .func (.func 106) #[] #[]] w fun e w' => (∃ i : Int, e = .returned (.int .i64 i) ∧ ((i = -1 ∧ allC l = true) ∨ (0 ≤ i ∧ allC l = false))) ∧ w.grownBy w' none := by
 obtain ⟨A, ca, rfl, hla, hA⟩ := hl.shape
 obtain ⟨hn1, hn2⟩ := hn
 have HU := Lib.hid hl
 have HC := Lib.hid hn2
 have HA := Lib.hid hA
 clear hl hn2 hA
 go_enter Tryz.func157, Tryz.ntmps157
 go_wp2_with fail
 go_loopw [8] (fun i wr => ∃ k : Nat, k ≤ l.length ∧ i = .int .i64 k ∧ Hid (allC (l.take k) = true) ∧ w.grownBy wr none) (fun i _ => l.length - (intOf i).toNat)
 case atStart => exact ⟨0, by omega, rfl, rfl, gr_refl _ _⟩
 case round =>
  obtain ⟨k, hk, rfl, HT, hgr⟩ := hrel
  by_cases hlt : k < l.length
  ·obtain ⟨g, rfl, _, _⟩ := HA.out (by omega)
   have cx := (HU.out.grown hgr).at_ k hlt
   have hkl : (k : Int) < (l.length : Int) := by omega
   obtain ⟨q1, q2⟩ := HC.out l[k] (List.getElem_mem hlt)
   have HN := Lib.hid (noCall_any l[k] wr (by omega) q2)
   have HAT := Lib.hid (fun h => all_take hlt HT.out h)
   have HNT := Lib.hid (fun h => all_not hlt h)
   generalize l[k] = x at *
   cases hc : isCall x
   ·rw [hc] at HN
    have HE := Lib.hid (HNT.out hc)
    clear hc q1 q2
    go_wp2_with fail
    refine HN.out.mono ?_
    rintro _ w1 ⟨rfl, hg1⟩
    go_wp2_with fail
    go_ret
    exact ⟨⟨_, rfl, .inr ⟨by omega, HE.out⟩⟩, gr_trans hgr hg1⟩
   ·rw [hc] at HN
    have HT2 := Lib.hid (HAT.out hc)
    clear hc q1 q2
    go_wp2_with fail
    refine HN.out.mono ?_
    rintro _ w1 ⟨rfl, hg1⟩
    go_wp2_with fail
    go_roundw
    case rel => exact ⟨k + 1, by omega, by go_num, HT2, gr_trans hgr hg1⟩
    case measure => simp [intOf]; omega
  ·have hkl : ¬ (k : Int) < (l.length : Int) := by omega
   have hfull : l.take k = l := List.take_of_length_le (by omega)
   rw [hfull] at HT
   clear hfull
   go_wp2_with fail
   go_ret
   exact ⟨⟨_, rfl, .inl ⟨rfl, HT.out⟩⟩, hgr⟩
set_option maxHeartbeats 1000000 in
theorem checkCalls_any (base : Nat) (v : Value) (l : List ByteArray) (w : World) (hl : StrsFrom base w v l) (hn : SmallS l) :
 Calls Tryz.prog 58 #[v] w fun e w' => e = .returned (.int .i64 (callsE l)) ∧ w.grownBy w' none := by
 have HI := Lib.hid (fun W (h : StrsFrom base W v l) => idxCalls base v l W h hn)
 have HC : Hid (∀ W, StrsFrom base W v l → Calls Tryz.prog 105 #[v, .func (.func 106) #[] #[]] W fun e w' => e = .returned (.bool (!allC l)) ∧ W.grownBy w' none) := fun W h => by
  go_enter Tryz.func105, Tryz.ntmps105
  go_wp2_with fail
  refine (HI.out _ h).mono ?_
  rintro _ w1 ⟨⟨i, rfl, hi⟩, hg1⟩
  rcases hi with ⟨rfl, ha⟩ | ⟨hi, ha⟩
  ·have HAA := Lib.hid ha
   clear ha
   go_wp2_with fail
   go_ret
   exact ⟨by rw [HAA.out] <;> rfl, hg1⟩
  ·have HAA := Lib.hid ha
   clear ha
   go_wp2_with fail
   go_ret
   exact ⟨by rw [HAA.out] <;> rfl, hg1⟩
 have HL := Lib.hid hl
 obtain ⟨A, ca, rfl, hla, hA⟩ := hl.shape
 have hn2 : ¬ (1000 : Int) < (l.length : Int) := by have := hn.1; omega
 have HE : Hid (callsE l = if allC l = true then 0 else 3) := rfl
 clear hl hA hn
 generalize l.length = N at *
 cases hB : allC l
 ·rw [hB] at HC HE
  clear hB
  go_enter Tryz.func58, Tryz.ntmps58
  go_wp2_with fail
  refine (HC.out _ HL.out).mono ?_
  rintro _ w1 ⟨rfl, hg1⟩
  go_wp2_with fail
  go_ret
  exact ⟨by rw [HE.out] <;> rfl, hg1⟩
 ·rw [hB] at HC HE
  clear hB
  go_enter Tryz.func58, Tryz.ntmps58
  go_wp2_with fail
  refine (HC.out _ HL.out).mono ?_
  rintro _ w1 ⟨rfl, hg1⟩
  go_wp2_with fail
  go_ret
  exact ⟨by rw [HE.out] <;> rfl, hg1⟩
end Go.Proofs.YtbpkfkbbkgdlaaaGreatDoor

namespace Go.Proofs.YtbpkfkbbkgdlaaaGreatDoor
open Go.RowKit
set_option linter.unusedVariables false
set_option linter.unusedSimpArgs false

/-- Short strings of ASCII. -/
def fewA (n : Nat) (v : ByteArray) : Bool := decide (v.size ≤ n) && v.data.toList.all fun c => decide (c.toNat < 128)
theorem fewA_of {n : Nat} {v : ByteArray} (h : fewA n v = true) : v.size ≤ n ∧ Ascii v := by
 simp only [fewA, Bool.and_eq_true, decide_eq_true_eq, List.all_eq_true] at h
 exact ⟨h.1, Ascii.of_mem h.2⟩
theorem fewA_in {n : Nat} {l : List ByteArray} (h : l.all (fewA n) = true) {v : ByteArray} (hv : v ∈ l) : v.size ≤ n ∧ Ascii v := fewA_of (List.all_eq_true.1 h v hv)
def callBases : List ByteArray := [⟨#[107, 49, 97, 98]⟩, ⟨#[107, 52, 97, 98]⟩, ⟨#[111, 104, 50, 97, 98, 99]⟩, ⟨#[111, 104, 48, 120]⟩, ⟨#[51, 100, 97, 48, 120, 121]⟩, ⟨#[103, 51, 97]⟩, ⟨#[100, 108, 49, 122, 122]⟩, ⟨#[119, 49, 97, 119]⟩, ⟨#[107, 49, 98, 97]⟩]
def callTails : List ByteArray := [⟨#[47, 112]⟩, ⟨#[47, 109]⟩, ⟨#[47, 109, 109]⟩, ⟨#[47, 97, 109]⟩, ⟨#[47, 52]⟩, ⟨#[47, 48]⟩]
def callHeads : List ByteArray := [⟨#[111, 104, 48]⟩, ⟨#[103]⟩, ⟨#[51, 97]⟩, ⟨#[100, 108]⟩]
def callEnds : List ByteArray := [⟨#[111, 104, 48]⟩, ⟨#[103]⟩, ⟨#[119, 50, 98]⟩, ⟨#[107]⟩]
def CallOfPost (b k : Nat) (w : World) (e : Ending) (w' : World) : Prop :=
 ∃ u : ByteArray, e = .returned (.string u) ∧ u.size ≤ 30 ∧ Ascii u ∧ Str w' b (k + 8) ∧ w.grownBy w' (some b)
theorem slash_ascii : Ascii ⟨#[47]⟩ := (fewA_of (n := 1) (by decide)).2
set_option maxRecDepth 100000 in
set_option maxHeartbeats 4000000 in
/-- The end of CallOf, whatever was put together. -/
theorem callOf_in (b k : Nat) (w : World) (hs : Str w b k) (hk : k ≤ 10000000000) :
 Calls Tryz.prog 8 #[.pointer (some ⟨b, 0, none⟩)] w (CallOfPost b k w) := by
 go_enter Tryz.func8, Tryz.ntmps8
 go_wp2_with fail
 refine (some_at b k _ 9 9 callBases _ hs (by first | rfl | simp) (by omega) rfl (by decide) (by decide)).mono ?_
 rintro _ w1 ⟨v, hv, rfl, hs1, hg1⟩
 obtain ⟨hvs, hva⟩ := fewA_in (n := 6) (by decide) hv
 have HVA := Lib.hid hva
 clear hv hva
 go_wp2_with fail
 refine (next_in b _ _ _ hs1 (by omega) (by omega) (by omega)).mono ?_
 rintro _ w2 ⟨q, hq0, hq1, rfl, hs2, hg2⟩
 have hG2 := gr_trans hg1 hg2
 clear hg1 hg2 hs1
 by_cases q0 : q = 0
 ·subst q0
  go_wp2_with fail
  refine (some_at b _ _ 6 6 callTails _ hs2 (by first | rfl | simp) (by omega) rfl (by decide) (by decide)).mono ?_
  rintro _ w3 ⟨u, hu, rfl, hs3, hg3⟩
  obtain ⟨hus, hua⟩ := fewA_in (n := 3) (by decide) hu
  have HUA := Lib.hid (HVA.out.app hua)
  have hG3 := gr_trans hG2 hg3
  have hsz : (v ++ u).size ≤ 9 := by simp; omega
  clear hu hua hg3 hs2
  go_wp2_with fail
  generalize v ++ u = t at *
  refine (flip_in b _ _ _ hs3 (by omega) (by omega) (by omega)).mono ?_
  rintro _ w4 ⟨fl, rfl, hs4, hg4⟩
  have hG4 := gr_trans hG3 hg4
  cases fl
  ·go_wp2_with fail
   go_ret
   exact ⟨t, rfl, by omega, HUA.out, hs4.mono (by omega), hG4⟩
  ·go_wp2_with fail
   refine (changed_in b _ t ⟨#[97, 48, 47, 107, 49, 45]⟩ _ hs4 (by omega) (by omega) (by decide) HUA.out (fewA_of (n := 6) (by decide)).2).mono ?_
   rintro _ w5 ⟨z, rfl, hz, hza, hs5, hg5⟩
   have hz2 : z.size ≤ 30 := by
    have : (⟨#[97, 48, 47, 107, 49, 45]⟩ : ByteArray).size = 6 := rfl
    omega
   have HZ := Lib.hid hza
   clear hza hz
   go_wp2_with fail
   go_ret
   exact ⟨z, rfl, hz2, HZ.out, hs5.mono (by omega), gr_trans hG4 hg5⟩
 by_cases q1 : q = 1
 ·subst q1
  go_wp2_with fail
  refine (some_at b _ _ 4 4 callHeads _ hs2 (by first | rfl | simp) (by omega) rfl (by decide) (by decide)).mono ?_
  rintro _ w3 ⟨u, hu, rfl, hs3, hg3⟩
  obtain ⟨hus, hua⟩ := fewA_in (n := 3) (by decide) hu
  have HUA := Lib.hid ((hua.app slash_ascii).app HVA.out)
  have hG3 := gr_trans hG2 hg3
  have hsz : (u ++ ⟨#[47]⟩ ++ v).size ≤ 10 := by
   have h47 : (⟨#[47]⟩ : ByteArray).size = 1 := rfl
   simp; omega
  clear hu hua hg3 hs2
  go_wp2_with fail
  generalize u ++ ⟨#[47]⟩ ++ v = t at *
  refine (flip_in b _ _ _ hs3 (by omega) (by omega) (by omega)).mono ?_
  rintro _ w4 ⟨fl, rfl, hs4, hg4⟩
  have hG4 := gr_trans hG3 hg4
  cases fl
  ·go_wp2_with fail
   go_ret
   exact ⟨t, rfl, by omega, HUA.out, hs4.mono (by omega), hG4⟩
  ·go_wp2_with fail
   refine (changed_in b _ t ⟨#[97, 48, 47, 107, 49, 45]⟩ _ hs4 (by omega) (by omega) (by decide) HUA.out (fewA_of (n := 6) (by decide)).2).mono ?_
   rintro _ w5 ⟨z, rfl, hz, hza, hs5, hg5⟩
   have hz2 : z.size ≤ 30 := by
    have : (⟨#[97, 48, 47, 107, 49, 45]⟩ : ByteArray).size = 6 := rfl
    omega
   have HZ := Lib.hid hza
   clear hza hz
   go_wp2_with fail
   go_ret
   exact ⟨z, rfl, hz2, HZ.out, hs5.mono (by omega), gr_trans hG4 hg5⟩
 by_cases q2 : q = 2
 ·subst q2
  go_wp2_with fail
  refine (some_at b _ _ 4 4 callEnds _ hs2 (by first | rfl | simp) (by omega) rfl (by decide) (by decide)).mono ?_
  rintro _ w3 ⟨u, hu, rfl, hs3, hg3⟩
  obtain ⟨hus, hua⟩ := fewA_in (n := 3) (by decide) hu
  have HUA := Lib.hid ((HVA.out.app slash_ascii).app hua)
  have hG3 := gr_trans hG2 hg3
  have hsz : (v ++ ⟨#[47]⟩ ++ u).size ≤ 10 := by
   have h47 : (⟨#[47]⟩ : ByteArray).size = 1 := rfl
   simp; omega
  clear hu hua hg3 hs2
  go_wp2_with fail
  generalize v ++ ⟨#[47]⟩ ++ u = t at *
  refine (flip_in b _ _ _ hs3 (by omega) (by omega) (by omega)).mono ?_
  rintro _ w4 ⟨fl, rfl, hs4, hg4⟩
  have hG4 := gr_trans hG3 hg4
  cases fl
  ·go_wp2_with fail
   go_ret
   exact ⟨t, rfl, by omega, HUA.out, hs4.mono (by omega), hG4⟩
  ·go_wp2_with fail
   refine (changed_in b _ t ⟨#[97, 48, 47, 107, 49, 45]⟩ _ hs4 (by omega) (by omega) (by decide) HUA.out (fewA_of (n := 6) (by decide)).2).mono ?_
   rintro _ w5 ⟨z, rfl, hz, hza, hs5, hg5⟩
   have hz2 : z.size ≤ 30 := by
    have : (⟨#[97, 48, 47, 107, 49, 45]⟩ : ByteArray).size = 6 := rfl
    omega
   have HZ := Lib.hid hza
   clear hza hz
   go_wp2_with fail
   go_ret
   exact ⟨z, rfl, hz2, HZ.out, hs5.mono (by omega), gr_trans hG4 hg5⟩
 ·have hs3 := hs2
  have hG3 := hG2
  have HUA := HVA
  have hsz : v.size ≤ 10 := by omega
  clear hs2 hG2
  go_wp2_with fail
  generalize v = t at *
  refine (flip_in b _ _ _ hs3 (by omega) (by omega) (by omega)).mono ?_
  rintro _ w4 ⟨fl, rfl, hs4, hg4⟩
  have hG4 := gr_trans hG3 hg4
  cases fl
  ·go_wp2_with fail
   go_ret
   exact ⟨t, rfl, by omega, HUA.out, hs4.mono (by omega), hG4⟩
  ·go_wp2_with fail
   refine (changed_in b _ t ⟨#[97, 48, 47, 107, 49, 45]⟩ _ hs4 (by omega) (by omega) (by decide) HUA.out (fewA_of (n := 6) (by decide)).2).mono ?_
   rintro _ w5 ⟨z, rfl, hz, hza, hs5, hg5⟩
   have hz2 : z.size ≤ 30 := by
    have : (⟨#[97, 48, 47, 107, 49, 45]⟩ : ByteArray).size = 6 := rfl
    omega
   have HZ := Lib.hid hza
   clear hza hz
   go_wp2_with fail
   go_ret
   exact ⟨z, rfl, hz2, HZ.out, hs5.mono (by omega), gr_trans hG4 hg5⟩
def RightCallPost (b k : Nat) (w : World) (e : Ending) (w' : World) : Prop :=
 ∃ u : ByteArray, e = .returned (.string u) ∧ u.size ≤ 30 ∧ Ascii u ∧ (partsOf u).isSome = true ∧ Str w' b (k + 48) ∧ w.grownBy w' (some b)
theorem partsOf_k1ab : (partsOf ⟨#[107, 49, 97, 98]⟩).isSome = true := by decide +kernel
set_option maxRecDepth 100000 in
set_option maxHeartbeats 4000000 in
theorem rightCall_in (b k : Nat) (w : World) (hs : Str w b k) (hk : k ≤ 1000000000) :
 Calls Tryz.prog 31 #[.pointer (some ⟨b, 0, none⟩)] w (RightCallPost b k w) := by
 go_enter Tryz.func31, Tryz.ntmps31
 go_wp2_with fail
 go_loopw [4] (fun i wr => ∃ j : Nat, j ≤ 6 ∧ i = .int .i64 j ∧ Str wr b (k + 8 * j) ∧ w.grownBy wr (some b)) (fun i _ => 6 - (intOf i).toNat)
 case atStart => exact ⟨0, by omega, rfl, hs, gr_refl _ _⟩
 case round =>
  obtain ⟨j, hj, rfl, hsr, hgr⟩ := hrel
  by_cases hlt : j < 6
  ·have hjl : (j : Int) < 6 := by omega
   go_wp2_with fail
   refine (callOf_in b _ _ hsr (by omega)).mono ?_
   rintro _ w1 ⟨u, rfl, hu, hua, hs1, hg1⟩
   have HUA := Lib.hid hua
   have hG1 := gr_trans hgr hg1
   clear hua hg1 hsr
   go_wp2_with fail
   refine (refIsCall_any u _ (by omega) HUA.out).mono ?_
   rintro _ w2 ⟨rfl, hg2⟩
   have hs2 := hs1.grown hg2 (by simp)
   have hG2 := gr_trans hG1 (gr_weak hg2 (some b))
   cases hP : (partsOf u).isSome with
   | true =>
     have HP := Lib.hid hP
     clear hP
     go_wp2_with fail
     go_ret
     exact ⟨u, rfl, hu, HUA.out, HP.out, hs2.mono (by omega), hG2⟩
   | false =>
     clear hP
     go_wp2_with fail
     go_roundw
     case rel => exact ⟨j + 1, by omega, by go_num, hs2.mono (by omega), hG2⟩
     case measure => simp [intOf]; omega
  ·have hjl : ¬ (j : Int) < 6 := by omega
   go_wp2_with fail
   go_ret
   exact ⟨_, rfl, by decide, (fewA_of (n := 4) (by decide)).2, partsOf_k1ab, hsr.mono (by omega), hgr⟩
end Go.Proofs.YtbpkfkbbkgdlaaaGreatDoor

namespace Go.Proofs.YtbpkfkbbkgdlaaaGreatDoor
open Go.RowKit
set_option linter.unusedVariables false
set_option linter.unusedSimpArgs false

theorem callsE_0 {L : List ByteArray} : callsE L = 0 ↔ allC L = true := by
 unfold callsE
 by_cases h : allC L = true
 ·rw [if_pos h]; simp [h]
 ·rw [if_neg h]; simp [h]
def SmallL (L : List ByteArray) : Prop := ∀ x ∈ L, x.size ≤ 30 ∧ Ascii x
def CallListPost (b k : Nat) (w : World) (e : Ending) (w' : World) : Prop := ∃ v L, e = .returned v ∧ StrsFrom w.heap.size w' v L ∧ L.length ≤ 9 ∧ SmallL L ∧ Str w' b (k + 500) ∧ w.grownBy w' (some b)
set_option maxRecDepth 100000 in
set_option maxHeartbeats 4000000 in
theorem callListM_in (b k m : Nat) (hm : m ≤ 8) (w : World) (hs : Str w b k) (hk : k ≤ 100000000) :
 Calls Tryz.prog 9 #[.pointer (some ⟨b, 0, none⟩), .int .i64 (m : Int)] w (CallListPost b k w) := by
 obtain ⟨i0, hi0, hz0, hz1, hz2⟩ := info_parts strInfo
 have hbl := hs.lt
 go_enter Tryz.func9, Tryz.ntmps9
 go_wp2_with fail
 refine (range_in b k 0 (m : Int) _ hs (by omega) (by omega) (by omega) (by omega)).mono ?_
 rintro _ w1 ⟨mz, hm0, hm8, rfl, hs1, hg1⟩
 obtain ⟨M, rfl⟩ := Int.eq_ofNat_of_zero_le hm0
 go_wp2_with fail
 go_loopw [5, 9] (fun o i wr => ∃ L : List ByteArray, L.length ≤ M ∧ i = .int .i64 (L.length : Nat) ∧ Hid (SmallL L) ∧ Hid (StrsFrom w.heap.size wr o L) ∧ Str wr b (k + 1 + 48 * L.length) ∧ w.grownBy wr (some b)) (fun _ i _ => M - (intOf i).toNat)
 case atStart => exact ⟨[], Nat.zero_le _, rfl, (fun x hx => nomatch hx), StrsFrom.nil _ _, hs1, hg1⟩
 case round =>
  obtain ⟨L, hj, rfl, HSM, HO, hsj, hgr⟩ := hrel
  clear hs hs1 hg1
  rename World => wx
  obtain ⟨A2, c2, rfl, hk9, hsh⟩ := HO.out.shape
  clear hsh
  by_cases hlt : L.length < M
  ·have hji : (L.length : Int) < (M : Int) := by omega
   go_wp2_with fail
   refine (rightCall_in b _ _ hsj (by omega)).mono ?_
   rintro _ w3 ⟨t, rfl, ht30, hta, _, hs3, hg3⟩
   have hG3 := gr_trans hgr hg3
   have hsz3 := hG3.size
   have hown : w3.ownsRow w.heap.size 9 1 (.slice A2 L.length c2) L.length (L.map Value.string) := ownsRow_other HO.out hg3 hbl
   have hrow : ∀ g, (Value.slice A2 L.length c2).ownBlock = some g → w.heap.size ≤ g := fun g e => (hown.lt g e).1
   have HROW := Lib.hid hrow
   have HSM2 : Hid (SmallL (L ++ [t])) := fun x hx => by
    rcases List.mem_append.1 hx with h | h
    ·exact HSM.out x h
    ·rw [List.mem_singleton.1 h]; exact ⟨ht30, hta⟩
   clear hrow hgr hsj hta ht30
   go_wp2_with (at_builtin; refine wpList_append_own _ rfl _ _ 31 rfl w.heap.size 9 i0 _ 1 16 Tryz.underlying31 hi0 hz0 hz1 hz2 rfl (by decide) _ _ _ rfl (hown.alloc _) ⟨w3.heap.size, 0, none⟩ 1 1 [.string t] rfl rfl (cells_new _ _ _) (str_one _) (by unfold maxLen; omega) (by omega) (by simp; omega) ?_; intro v' w7 hownB hgrB _)
   have hG7 : w.grownBy w7 (some b) := gr_grown (gr_alloc hG3 _) hgrB (fun g e => .inr (HROW.out g e))
   have hs7 : Str w7 b (k + 1 + 48 * L.length + 48) := (hs3.alloc _).grown hgrB (fun g e => by have := HROW.out g e; omega)
   have hO : Hid (StrsFrom w.heap.size w7 v' (L ++ [t])) := by
    show StrsFrom _ _ _ _
    unfold StrsFrom
    rw [List.map_append, List.length_append]; exact hownB
   clear hown hgrB hownB hs3
   go_wp2_with fail
   go_roundw
   case rel => exact ⟨L ++ [t], by simp; omega, by rw [List.length_append]; go_num, HSM2, hO, hs7.mono (by rw [List.length_append]; simp; omega), hG7⟩
   case measure => simp [intOf]; omega
  ·have hji : ¬ (L.length : Int) < (M : Int) := by omega
   have hM8 : M ≤ 8 := by omega
   go_wp2_with fail
   refine (flip_in b _ 20 _ hsj (by omega) (by decide) (by decide)).mono ?_
   rintro _ w3 ⟨fl, rfl, hs3, hg3⟩
   have hG3 := gr_trans hgr hg3
   have hown : w3.ownsRow w.heap.size 9 1 (.slice A2 L.length c2) L.length (L.map Value.string) := ownsRow_other HO.out hg3 hbl
   have hO3 : Hid (StrsFrom w.heap.size w3 (.slice A2 L.length c2) L) := hown
   clear hgr hsj
   cases fl
   ·clear hown
    go_wp2_with fail
    go_ret
    exact ⟨_, L, rfl, hO3.out, by omega, HSM.out, hs3.mono (by omega), hG3⟩
   ·go_wp2_with fail
    refine (callOf_in b _ _ hs3 (by omega)).mono ?_
    rintro _ w4 ⟨t, rfl, ht30, hta, hs4, hg4⟩
    have hG4 := gr_trans hG3 hg4
    have hsz4 := hG4.size
    have hown4 : w4.ownsRow w.heap.size 9 1 (.slice A2 L.length c2) L.length (L.map Value.string) := ownsRow_other hown hg4 hbl
    have hrow : ∀ g, (Value.slice A2 L.length c2).ownBlock = some g → w.heap.size ≤ g := fun g e => (hown4.lt g e).1
    have HROW := Lib.hid hrow
    have HSM2 : Hid (SmallL (L ++ [t])) := fun x hx => by
     rcases List.mem_append.1 hx with h | h
     ·exact HSM.out x h
     ·rw [List.mem_singleton.1 h]; exact ⟨ht30, hta⟩
    clear hrow hs3 hta ht30 hown hG3
    go_wp2_with (at_builtin; refine wpList_append_own _ rfl _ _ 31 rfl w.heap.size 9 i0 _ 1 16 Tryz.underlying31 hi0 hz0 hz1 hz2 rfl (by decide) _ _ _ rfl (hown4.alloc _) ⟨w4.heap.size, 0, none⟩ 1 1 [.string t] rfl rfl (cells_new _ _ _) (str_one _) (by unfold maxLen; omega) (by omega) (by simp; omega) ?_; intro v' w7 hownB hgrB _)
    have hG7 : w.grownBy w7 (some b) := gr_grown (gr_alloc hG4 _) hgrB (fun g e => .inr (HROW.out g e))
    have hs7 := (hs4.alloc (.cells #[.string t] 9)).grown hgrB (fun g e => by have := HROW.out g e; omega)
    have hO : Hid (StrsFrom w.heap.size w7 v' (L ++ [t])) := by
     show StrsFrom _ _ _ _
     unfold StrsFrom
     rw [List.map_append, List.length_append]; exact hownB
    clear hown4 hgrB hownB hs4
    go_wp2_with fail
    go_ret
    exact ⟨_, L ++ [t], rfl, hO.out, by simp; omega, HSM2.out, hs7.mono (by omega), hG7⟩
end Go.Proofs.YtbpkfkbbkgdlaaaGreatDoor

namespace Go.Proofs.YtbpkfkbbkgdlaaaGreatDoor
open Go.RowKit
set_option linter.unusedVariables false
set_option linter.unusedSimpArgs false

def AskedPost (b k : Nat) (w : World) (e : Ending) (w' : World) : Prop := ∃ v : Int, -1 ≤ v ∧ v ≤ 345686400000 ∧ e = .returned (.int .i64 v) ∧ Str w' b (k + 2) ∧ w.grownBy w' (some b)
set_option maxRecDepth 100000 in
set_option maxHeartbeats 1000000 in
theorem asked_in (b k : Nat) (w : World) (hs : Str w b k) (hk : k ≤ 100000000000) :
 Calls Tryz.prog 10 #[.pointer (some ⟨b, 0, none⟩)] w (AskedPost b k w) := by
 go_enter Tryz.func10, Tryz.ntmps10
 go_wp2_with fail
 refine (pick_at b k _ 3 3 [-1, 345686400000, 345686399999] _ hs (by first | rfl | simp) (by omega) rfl (by decide) (by decide)).mono ?_
 rintro _ w1 ⟨x, hx, rfl, hs1, hg1⟩
 have hxb : -1 ≤ x ∧ x ≤ 345686400000 := by simp at hx; omega
 clear hx hs
 go_wp2_with fail
 refine (pick_at b _ _ 10 10 [0, 50, 99, 100, 150, 199, 200, 250, 5000, x] _ hs1 (by first | rfl | simp) (by omega) rfl (by decide) (by decide)).mono ?_
 rintro _ w2 ⟨y, hy, rfl, hs2, hg2⟩
 have hyb : -1 ≤ y ∧ y ≤ 345686400000 := by simp at hy; omega
 clear hy hs1
 go_wp2_with fail
 go_ret
 exact ⟨y, by omega, by omega, rfl, hs2, gr_trans hg1 hg2⟩
end Go.Proofs.YtbpkfkbbkgdlaaaGreatDoor

namespace Go.Proofs.YtbpkfkbbkgdlaaaGreatDoor
open Go.RowKit
set_option linter.unusedVariables false
set_option linter.unusedSimpArgs false

/-- The entity that a prefix names. -/
def entD (l : List Ent) (s : ByteArray) : Ent := (entOf l s).getD ⟨⟨#[]⟩, 0, 0, 0, 0⟩
/-- When a prefix counts. -/
def tmA (l : List Ent) (x : Pfx) : Int := max x.a (entD l x.ent).a
def tmZ (l : List Ent) (x : Pfx) : Int := min x.z (entD l x.ent).z
/-- A table's lists in memory. -/
structure TabAt (base gT : Nat) (u v : Value) (l : List Ent) (p : List Pfx) (W : World) : Prop where
 cu : W.cell? ⟨gT, 0, none⟩ = some u
 cv : W.cell? ⟨gT, 1, none⟩ = some v
 el : EntsFrom base W u l
 pl : PfxsFrom base W v p
theorem TabAt.grown {base gT : Nat} {u v : Value} {l : List Ent} {p : List Pfx} {W W' : World} (h : TabAt base gT u v l p W) (hg : W.grownBy W' none) : TabAt base gT u v l p W' :=
 ⟨hg.cell h.cu (by simp), hg.cell h.cv (by simp), h.el.grown hg, h.pl.grown hg⟩
/-- A table without error, as it is used. -/
structure TabOk (l : List Ent) (p : List Pfx) : Prop where
 ents : EntsOk l
 len : p.length ≤ 2000
 has : ∀ x ∈ p, (entOf l x.ent).isSome = true
set_option maxRecDepth 100000 in
set_option maxHeartbeats 4000000 in
theorem time_ok (base gT : Nat) (u v : Value) (l : List Ent) (p : List Pfx) (k : Nat) (w : World) (hT : TabAt base gT u v l p w) (hO : TabOk l p) (hlt : k < p.length) :
 Calls Tryz.prog 114 #[.pointer (some ⟨gT, 0, none⟩), .int .i64 k] w fun r w' => r = .returned (.agg #[.int .i64 (tmA l p[k]), .int .i64 (tmZ l p[k])]) ∧ w.grownBy w' none := by
 have hR := Blk.new w 70 #[.int .i64 0, .int .i64 0]
 have hg0 := World.grownBy_alloc w (.cells #[.int .i64 0, .int .i64 0] 70) none
 have hT0 := hT.grown hg0
 obtain ⟨A, c, rfl, hlen, hA⟩ := hT0.pl.shape
 obtain ⟨g, rfl, hgb, hgl⟩ := hA (by omega)
 obtain ⟨q0, q1, q2, q3, q4, q5⟩ := hT0.pl.at_ k hlt
 have hhas := hO.has _ (List.getElem_mem hlt)
 obtain ⟨e, he⟩ := Option.isSome_iff_exists.1 hhas
 have HD : Hid (tmA l p[k] = max p[k].a e.a ∧ tmZ l p[k] = min p[k].z e.z) := by
  show _ ∧ _
  unfold tmA tmZ entD
  rw [he]
  exact ⟨rfl, rfl⟩
 have HAT : Hid (∀ W, w.grownBy W none → Calls Tryz.prog 100 #[u, .string p[k].ent] W fun r w' => ∃ (i : Nat) (gu cu : Nat), r = .returned (.tuple #[.int .i64 i, .bool true]) ∧ u = .slice (some ⟨gu, 0, none⟩) l.length cu ∧ i < l.length ∧ w'.cell? ⟨gu, i * 5, none⟩ = some (.string e.key) ∧ w'.cell? ⟨gu, i * 5 + 1, none⟩ = some (.int .i64 e.cont) ∧ w'.cell? ⟨gu, i * 5 + 2, none⟩ = some (.int .i64 e.zone) ∧ w'.cell? ⟨gu, i * 5 + 3, none⟩ = some (.int .i64 e.a) ∧ w'.cell? ⟨gu, i * 5 + 4, none⟩ = some (.int .i64 e.z) ∧ W.grownBy w' none) := fun W hW =>
  (entityAt_ok base u l p[k].ent W (hT.el.grown hW) hO.ents).mono fun r w' ⟨i, h1, h2, h3⟩ => by
   obtain ⟨hi, hie⟩ := h2 e he
   have hel := hT.el.grown (gr_trans hW h3)
   obtain ⟨A2, c2, hu, _, hA2⟩ := hel.shape
   obtain ⟨gu, rfl, _, _⟩ := hA2 (by omega)
   subst hu
   have hat := hel.at_ i hi
   rw [hie] at hat
   rw [hhas] at h1
   exact ⟨i, gu, c2, h1, rfl, hi, hat.1, hat.2.1, hat.2.2.1, hat.2.2.2.1, hat.2.2.2.2, h3⟩
 have cT0 := hT0.cu
 have cT1 := hT0.cv
 have hki : (k : Int) < (p.length : Int) := by omega
 have hk0 : (0 : Int) ≤ (k : Int) := by omega
 have hll := hO.ents.len
 have hTl : gT < w.heap.size := World.block_lt_of_cell? w _ hT.cu
 obtain ⟨TA, hTA⟩ : ∃ x, tmA l p[k] = x := ⟨_, rfl⟩
 obtain ⟨TZ, hTZ⟩ : ∃ x, tmZ l p[k] = x := ⟨_, rfl⟩
 rw [hTA, hTZ] at HD ⊢
 generalize p[k].beg = B at *
 generalize p[k].ent = N at *
 generalize p[k].a = xa at *
 generalize p[k].z = xz at *
 generalize p[k].whole = H at *
 generalize p[k].zone = Z at *
 clear hTA hTZ hhas he hT hA hO
 go_enter Tryz.func114, Tryz.ntmps114
 go_upto_region 1 with fail
 generalize w.alloc (.cells #[.int .i64 0, .int .i64 0] 70) = w1 at *
 obtain ⟨gR, hgR⟩ : ∃ x, w.heap.size = x := ⟨_, rfl⟩
 rw [hgR] at hR ⊢
 have HgR := Lib.hid hgR
 have hTl1 : gT < w1.heap.size := by have := hg0.size; omega
 clear hgR
 have hX := Blk.new w1 72 #[.string B, .string N, .int .i64 xa, .int .i64 xz, .bool H, .int .i64 Z]
 have hg1 := World.grownBy_alloc w1 (.cells #[.string B, .string N, .int .i64 xa, .int .i64 xz, .bool H, .int .i64 Z] 72) none
 have hg01 := gr_trans hg0 hg1
 have cU : (w1.alloc (.cells #[.string B, .string N, .int .i64 xa, .int .i64 xz, .bool H, .int .i64 Z] 72)).cell? ⟨gT, 0, none⟩ = some u := hg1.cell cT0 (by simp)
 have hR1 := hR.grown hg1 (by simp)
 go_upto_region 2 with fail
 generalize w1.alloc (.cells #[.string B, .string N, .int .i64 xa, .int .i64 xz, .bool H, .int .i64 Z] 72) = w2 at *
 generalize w1.heap.size = gX at *
 have k1 := hX.cell 1
 simp only [List.getElem?_toArray, List.getElem?_cons_zero, List.getElem?_cons_succ] at k1
 have hXl := hX.lt
 clear cT0 cT1 q0 q1 q2 q3 q4 q5 hR hg0 hg1
 go_wp2_with fail
 refine wp_region_held_drew (S := fun W => W.cell? ⟨gT, 0, none⟩ = some u ∧ W.cell? ⟨gX, 1, none⟩ = some (.string N)) (by kernel_rfl) ⟨cU, k1⟩ (fun hHeld => ?_)
 refine wpAnyH_take (i := 0) (v := ?_) rfl (by kernel_rfl) (by kernel_rfl) (by kernel_rfl) (fun _ _ _ h => h) (Or.inl ⟨by kernel_rfl, ?_⟩) hHeld ?_
 rotate_left
 ·intro w hSw
  (try dsimp only at hSw)
  obtain ⟨hS0, hS1⟩ := hSw
  go_simp
  (try with_reducible rfl)
 change wpAnyH _ _ _ _ _ _ _ (Act.put _ (some 17) _) _
 simp only [Act.put, ssA, ssZ, ssS]
 refine wpAnyH_take (i := 1) (v := ?_) rfl (by kernel_rfl) (by kernel_rfl) (by kernel_rfl) (fun _ _ _ h => h) (Or.inl ⟨by kernel_rfl, ?_⟩) hHeld ?_
 rotate_left
 ·intro w hSw
  (try dsimp only at hSw)
  obtain ⟨hS0, hS1⟩ := hSw
  go_simp
  (try with_reducible rfl)
 change wpAnyH _ _ _ _ _ _ _ (Act.put _ (some 18) _) _
 simp only [Act.put, ssA, ssZ, ssS]
 refine wpAnyH_take (i := 2) (v := ?_) rfl (by kernel_rfl) (by kernel_rfl) (by kernel_rfl) (fun _ _ _ h => h) (Or.inl ⟨by kernel_rfl, ?_⟩) hHeld ?_
 rotate_left
 ·intro w hSw
  (try dsimp only at hSw)
  obtain ⟨hS0, hS1⟩ := hSw
  go_simp
  (try with_reducible rfl)
 change wpAnyH _ _ _ _ _ _ _ (Act.put _ (some 19) _) _
 simp only [Act.put, ssA, ssZ, ssS]
 refine wpAnyH_take (i := 3) (v := ?_) rfl (by kernel_rfl) (by kernel_rfl) (by kernel_rfl) (fun _ _ _ h => h) (Or.inl ⟨by kernel_rfl, ?_⟩) hHeld ?_
 rotate_left
 ·intro w hSw
  (try dsimp only at hSw)
  obtain ⟨hS0, hS1⟩ := hSw
  go_simp
  (try with_reducible rfl)
 change wpAnyH _ _ _ _ _ _ _ (Act.put _ (some 20) _) _
 simp only [Act.put, ssA, ssZ, ssS]
 refine wpAnyH_take (i := 4) (v := ?_) rfl (by kernel_rfl) (by kernel_rfl) (by kernel_rfl) (fun _ _ _ h => h) (Or.inl ⟨by kernel_rfl, ?_⟩) hHeld ?_
 rotate_left
 ·intro w hSw
  (try dsimp only at hSw)
  obtain ⟨hS0, hS1⟩ := hSw
  go_simp
  (try with_reducible rfl)
 change wpAnyH _ _ _ _ _ _ _ (Act.put _ (some 21) _) _
 simp only [Act.put, ssA, ssZ, ssS]
 refine wpAnyH_take (i := 5) (v := ?_) rfl (by kernel_rfl) (by kernel_rfl) (by kernel_rfl) (fun _ _ _ h => h) (Or.inl ⟨by kernel_rfl, ?_⟩) hHeld ?_
 rotate_left
 ·intro w hSw
  (try dsimp only at hSw)
  obtain ⟨hS0, hS1⟩ := hSw
  go_simp
  (try with_reducible rfl)
 change wpAnyH _ _ _ _ _ _ _ (Act.put _ (some 22) _) _
 simp only [Act.put, ssA, ssZ, ssS]
 refine wpAnyH_ready (rs := [6]) (by kernel_rfl) (by simp) ?_
 refine AllReadyH.cons (o := _) rfl (fun K hK => ?_) AllReadyH.nil
 go_simp
 (go_at_call 100; refine (HAT.out _ (gr_drew hg01)).mono ?_; rintro _ w3 ⟨i, gu, cu, rfl, hu, hi, a0, a1, a2, a3, a4, hg3⟩; have hX3 := Blk.grown (row := none) hX.drew hg3 (by simp); have hR3 := Blk.grown (row := none) hR1.drew hg3 (by simp); have cU3 := hg3.cell (show w2.drew.cell? _ = _ from cU) (by simp))
 refine hK.out _ _ ⟨cU3, hX3.cell 1⟩ (fun hHeld6 => ?_)
 clear hK K
 (try simp only [Act.put, ssA, ssZ, ssS])
 refine wpAnyH_take (i := 7) (v := ?_) rfl (by kernel_rfl) (by kernel_rfl) (by kernel_rfl) (fun _ _ _ h => h) (Or.inl ⟨by kernel_rfl, ?_⟩) hHeld6 ?_
 rotate_left
 ·intro w hSw
  (try dsimp only at hSw)
  obtain ⟨hS0, hS1⟩ := hSw
  go_simp
  (try with_reducible rfl)
 change wpAnyH _ _ _ _ _ _ _ (Act.put _ (some 16) _) _
 simp only [Act.put, ssA, ssZ, ssS]
 refine wpAnyH_take (i := 8) (v := ?_) rfl (by kernel_rfl) (by kernel_rfl) (by kernel_rfl) (fun _ _ _ h => h) (Or.inl ⟨by kernel_rfl, ?_⟩) hHeld6 ?_
 rotate_left
 ·intro w hSw
  (try dsimp only at hSw)
  obtain ⟨hS0, hS1⟩ := hSw
  go_simp
  (try with_reducible rfl)
 change wpAnyH _ _ _ _ _ _ _ (Act.put _ (some 24) _) _
 simp only [Act.put, ssA, ssZ, ssS]
 refine wpAnyH_take (i := 9) (v := ?_) rfl (by kernel_rfl) (by kernel_rfl) (by kernel_rfl) (fun _ _ _ h => h) (Or.inl ⟨by kernel_rfl, ?_⟩) hHeld6 ?_
 rotate_left
 ·intro w hSw
  (try dsimp only at hSw)
  obtain ⟨hS0, hS1⟩ := hSw
  go_simp
  (try with_reducible rfl)
 change wpAnyH _ _ _ _ _ _ _ (Act.put _ (some 25) _) _
 simp only [Act.put, ssA, ssZ, ssS]
 refine wpAnyH_take (i := 10) (v := ?_) rfl (by kernel_rfl) (by kernel_rfl) (by kernel_rfl) (fun _ _ _ h => h) (Or.inl ⟨by kernel_rfl, ?_⟩) hHeld6 ?_
 rotate_left
 ·intro w hSw
  (try dsimp only at hSw)
  obtain ⟨hS0, hS1⟩ := hSw
  go_simp
  (try with_reducible rfl)
 change wpAnyH _ _ _ _ _ _ _ (Act.put _ (some 6) _) _
 simp only [Act.put, ssA, ssZ, ssS]
 refine wpAnyH_take (i := 11) (v := ?_) rfl (by kernel_rfl) (by kernel_rfl) (by kernel_rfl) (fun _ _ _ h => h) (Or.inl ⟨by kernel_rfl, ?_⟩) hHeld6 ?_
 rotate_left
 ·intro w hSw
  (try dsimp only at hSw)
  obtain ⟨hS0, hS1⟩ := hSw
  go_simp
  (try with_reducible rfl)
 change wpAnyH _ _ _ _ _ _ _ (Act.put _ (some 7) _) _
 simp only [Act.put, ssA, ssZ, ssS]
 refine wpAnyH_done (by kernel_rfl) ?_ _
 subst hu
 have hgE := gr_trans (gr_drew hg01) hg3
 have x2 := hX3.cell 2
 have x3 := hX3.cell 3
 simp only [List.getElem?_toArray, List.getElem?_cons_zero, List.getElem?_cons_succ] at x2 x3
 have hii : (i : Int) < (l.length : Int) := by omega
 have hi0 : (0 : Int) ≤ (i : Int) := by omega
 obtain ⟨r0, r1⟩ := Blk.cells2 (g := gR) hR3
 have rf := Blk.free (g := gR) hR3
 have hRl3 := Blk.lt (g := gR) hR3
 have hXl3 := Blk.lt (g := gX) hX3
 have hgu3 : gu < w3.heap.size := World.block_lt_of_cell? w3 _ a0
 have hTl3 : gT < w3.heap.size := World.block_lt_of_cell? w3 _ cU3
 have hmx : max xa e.a = TA := HD.out.1.symm
 have hmn : min xz e.z = TZ := HD.out.2.symm
 generalize e.a = ea at *
 generalize e.z = ez at *
 have hY := Blk.new w3 70 #[.int .i64 ea, .int .i64 ez]
 have hR4 := hR3.alloc (.cells #[.int .i64 ea, .int .i64 ez] 70)
 have hX4 := hX3.alloc (.cells #[.int .i64 ea, .int .i64 ez] 70)
 have hgF := gr_alloc hgE (.cells #[.int .i64 ea, .int .i64 ez] 70)
 go_upto_region 4 with fail
 generalize w3.alloc (.cells #[.int .i64 ea, .int .i64 ez] 70) = w4 at *
 generalize w3.heap.size = gY at *
 clear x2 x3 r0 r1 a0 a1 a2 a3 a4
 have x2 := hX4.cell 2
 have x3 := hX4.cell 3
 simp only [List.getElem?_toArray, List.getElem?_cons_zero, List.getElem?_cons_succ] at x2 x3
 obtain ⟨y0, y1⟩ := hY.cells2
 obtain ⟨r0, r1⟩ := hR4.cells2
 have rf4 := hR4.free
 go_wp2_with fail
 obtain ⟨e0, e1⟩ := (hR4.put01 (.int .i64 TA) (.int .i64 TZ)).cells2
 refine bodyPost_ret (v := .agg #[.int .i64 TA, .int .i64 TZ]) (by simp [results, Tryz.results114, go_sem, e0, e1]) rfl ?_
 have hw := HgR.out
 exact ⟨rfl, gr_put (p := ⟨gR, 1, none⟩) (gr_put (p := ⟨gR, 0, none⟩) hgF (.inr (by show _ ≤ gR; omega)) (.int .i64 TA)) (.inr (by show _ ≤ gR; omega)) (.int .i64 TZ)⟩
def fndZ (l : List Ent) (x : Pfx) : Int := if x.zone ≠ 0 then x.zone else (entD l x.ent).zone
set_option maxRecDepth 100000 in
set_option maxHeartbeats 4000000 in
theorem found_ok (base gT : Nat) (u v : Value) (l : List Ent) (p : List Pfx) (k : Nat) (w : World) (hT : TabAt base gT u v l p w) (hO : TabOk l p) (hlt : k < p.length) :
 Calls Tryz.prog 103 #[.pointer (some ⟨gT, 0, none⟩), .int .i64 k] w fun r w' => r = .returned (.agg #[.string p[k].ent, .int .i64 (entD l p[k].ent).cont, .int .i64 (fndZ l p[k])]) ∧ w.grownBy w' none := by
 have hR := Blk.new w 38 #[.string ⟨#[]⟩, .int .i64 0, .int .i64 0]
 have hg0 := World.grownBy_alloc w (.cells #[.string ⟨#[]⟩, .int .i64 0, .int .i64 0] 38) none
 have hT0 := hT.grown hg0
 obtain ⟨A, c, rfl, hlen, hA⟩ := hT0.pl.shape
 obtain ⟨g, rfl, hgb, hgl⟩ := hA (by omega)
 obtain ⟨q0, q1, q2, q3, q4, q5⟩ := hT0.pl.at_ k hlt
 have hhas := hO.has _ (List.getElem_mem hlt)
 obtain ⟨e, he⟩ := Option.isSome_iff_exists.1 hhas
 have HD : Hid ((entD l p[k].ent).cont = e.cont ∧ fndZ l p[k] = if p[k].zone ≠ 0 then p[k].zone else e.zone) := by
  show _ ∧ _
  unfold fndZ entD
  rw [he]
  exact ⟨rfl, rfl⟩
 have HAT : Hid (∀ W, w.grownBy W none → Calls Tryz.prog 100 #[u, .string p[k].ent] W fun r w' => ∃ (i : Nat) (gu cu : Nat), r = .returned (.tuple #[.int .i64 i, .bool true]) ∧ u = .slice (some ⟨gu, 0, none⟩) l.length cu ∧ i < l.length ∧ w'.cell? ⟨gu, i * 5, none⟩ = some (.string e.key) ∧ w'.cell? ⟨gu, i * 5 + 1, none⟩ = some (.int .i64 e.cont) ∧ w'.cell? ⟨gu, i * 5 + 2, none⟩ = some (.int .i64 e.zone) ∧ w'.cell? ⟨gu, i * 5 + 3, none⟩ = some (.int .i64 e.a) ∧ w'.cell? ⟨gu, i * 5 + 4, none⟩ = some (.int .i64 e.z) ∧ W.grownBy w' none) := fun W hW =>
  (entityAt_ok base u l p[k].ent W (hT.el.grown hW) hO.ents).mono fun r w' ⟨i, h1, h2, h3⟩ => by
   obtain ⟨hi, hie⟩ := h2 e he
   have hel := hT.el.grown (gr_trans hW h3)
   obtain ⟨A2, c2, hu, _, hA2⟩ := hel.shape
   obtain ⟨gu, rfl, _, _⟩ := hA2 (by omega)
   subst hu
   have hat := hel.at_ i hi
   rw [hie] at hat
   rw [hhas] at h1
   exact ⟨i, gu, c2, h1, rfl, hi, hat.1, hat.2.1, hat.2.2.1, hat.2.2.2.1, hat.2.2.2.2, h3⟩
 have cT0 := hT0.cu
 have cT1 := hT0.cv
 have hki : (k : Int) < (p.length : Int) := by omega
 have hk0 : (0 : Int) ≤ (k : Int) := by omega
 have hll := hO.ents.len
 have hTl : gT < w.heap.size := World.block_lt_of_cell? w _ hT.cu
 obtain ⟨TA, hTA⟩ : ∃ x, (entD l p[k].ent).cont = x := ⟨_, rfl⟩
 obtain ⟨TZ, hTZ⟩ : ∃ x, fndZ l p[k] = x := ⟨_, rfl⟩
 rw [hTA, hTZ] at HD ⊢
 generalize p[k].beg = B at *
 generalize p[k].ent = N at *
 generalize p[k].a = xa at *
 generalize p[k].z = xz at *
 generalize p[k].whole = H at *
 generalize p[k].zone = Z at *
 clear hTA hTZ hhas he hT hA hO
 go_enter Tryz.func103, Tryz.ntmps103
 go_upto_region 1 with fail
 generalize w.alloc (.cells #[.string ⟨#[]⟩, .int .i64 0, .int .i64 0] 38) = w1 at *
 obtain ⟨gR, hgR⟩ : ∃ x, w.heap.size = x := ⟨_, rfl⟩
 rw [hgR] at hR ⊢
 have HgR := Lib.hid hgR
 have hTl1 : gT < w1.heap.size := by have := hg0.size; omega
 clear hgR
 have hX := Blk.new w1 72 #[.string B, .string N, .int .i64 xa, .int .i64 xz, .bool H, .int .i64 Z]
 have hg1 := World.grownBy_alloc w1 (.cells #[.string B, .string N, .int .i64 xa, .int .i64 xz, .bool H, .int .i64 Z] 72) none
 have hg01 := gr_trans hg0 hg1
 have cU : (w1.alloc (.cells #[.string B, .string N, .int .i64 xa, .int .i64 xz, .bool H, .int .i64 Z] 72)).cell? ⟨gT, 0, none⟩ = some u := hg1.cell cT0 (by simp)
 have hR1 := hR.grown hg1 (by simp)
 go_upto_region 2 with fail
 generalize w1.alloc (.cells #[.string B, .string N, .int .i64 xa, .int .i64 xz, .bool H, .int .i64 Z] 72) = w2 at *
 generalize w1.heap.size = gX at *
 have k1 := hX.cell 1
 simp only [List.getElem?_toArray, List.getElem?_cons_zero, List.getElem?_cons_succ] at k1
 have hXl := hX.lt
 clear cT0 cT1 q0 q1 q2 q3 q4 q5 hR hg0 hg1
 go_wp2_with fail
 refine wp_region_held_drew (S := fun W => W.cell? ⟨gT, 0, none⟩ = some u ∧ W.cell? ⟨gX, 1, none⟩ = some (.string N)) (by kernel_rfl) ⟨cU, k1⟩ (fun hHeld => ?_)
 refine wpAnyH_take (i := 0) (v := ?_) rfl (by kernel_rfl) (by kernel_rfl) (by kernel_rfl) (fun _ _ _ h => h) (Or.inl ⟨by kernel_rfl, ?_⟩) hHeld ?_
 rotate_left
 ·intro w hSw
  (try dsimp only at hSw)
  obtain ⟨hS0, hS1⟩ := hSw
  go_simp
  (try with_reducible rfl)
 change wpAnyH _ _ _ _ _ _ _ (Act.put _ (some 17) _) _
 simp only [Act.put, ssA, ssZ, ssS]
 refine wpAnyH_take (i := 1) (v := ?_) rfl (by kernel_rfl) (by kernel_rfl) (by kernel_rfl) (fun _ _ _ h => h) (Or.inl ⟨by kernel_rfl, ?_⟩) hHeld ?_
 rotate_left
 ·intro w hSw
  (try dsimp only at hSw)
  obtain ⟨hS0, hS1⟩ := hSw
  go_simp
  (try with_reducible rfl)
 change wpAnyH _ _ _ _ _ _ _ (Act.put _ (some 18) _) _
 simp only [Act.put, ssA, ssZ, ssS]
 refine wpAnyH_take (i := 2) (v := ?_) rfl (by kernel_rfl) (by kernel_rfl) (by kernel_rfl) (fun _ _ _ h => h) (Or.inl ⟨by kernel_rfl, ?_⟩) hHeld ?_
 rotate_left
 ·intro w hSw
  (try dsimp only at hSw)
  obtain ⟨hS0, hS1⟩ := hSw
  go_simp
  (try with_reducible rfl)
 change wpAnyH _ _ _ _ _ _ _ (Act.put _ (some 19) _) _
 simp only [Act.put, ssA, ssZ, ssS]
 refine wpAnyH_take (i := 3) (v := ?_) rfl (by kernel_rfl) (by kernel_rfl) (by kernel_rfl) (fun _ _ _ h => h) (Or.inl ⟨by kernel_rfl, ?_⟩) hHeld ?_
 rotate_left
 ·intro w hSw
  (try dsimp only at hSw)
  obtain ⟨hS0, hS1⟩ := hSw
  go_simp
  (try with_reducible rfl)
 change wpAnyH _ _ _ _ _ _ _ (Act.put _ (some 20) _) _
 simp only [Act.put, ssA, ssZ, ssS]
 refine wpAnyH_take (i := 4) (v := ?_) rfl (by kernel_rfl) (by kernel_rfl) (by kernel_rfl) (fun _ _ _ h => h) (Or.inl ⟨by kernel_rfl, ?_⟩) hHeld ?_
 rotate_left
 ·intro w hSw
  (try dsimp only at hSw)
  obtain ⟨hS0, hS1⟩ := hSw
  go_simp
  (try with_reducible rfl)
 change wpAnyH _ _ _ _ _ _ _ (Act.put _ (some 21) _) _
 simp only [Act.put, ssA, ssZ, ssS]
 refine wpAnyH_take (i := 5) (v := ?_) rfl (by kernel_rfl) (by kernel_rfl) (by kernel_rfl) (fun _ _ _ h => h) (Or.inl ⟨by kernel_rfl, ?_⟩) hHeld ?_
 rotate_left
 ·intro w hSw
  (try dsimp only at hSw)
  obtain ⟨hS0, hS1⟩ := hSw
  go_simp
  (try with_reducible rfl)
 change wpAnyH _ _ _ _ _ _ _ (Act.put _ (some 22) _) _
 simp only [Act.put, ssA, ssZ, ssS]
 refine wpAnyH_ready (rs := [6]) (by kernel_rfl) (by simp) ?_
 refine AllReadyH.cons (o := _) rfl (fun K hK => ?_) AllReadyH.nil
 go_simp
 (go_at_call 100; refine (HAT.out _ (gr_drew hg01)).mono ?_; rintro _ w3 ⟨i, gu, cu, rfl, hu, hi, a0, a1, a2, a3, a4, hg3⟩; have hX3 := Blk.grown (row := none) hX.drew hg3 (by simp); have hR3 := Blk.grown (row := none) hR1.drew hg3 (by simp); have cU3 := hg3.cell (show w2.drew.cell? _ = _ from cU) (by simp))
 refine hK.out _ _ ⟨cU3, hX3.cell 1⟩ (fun hHeld6 => ?_)
 clear hK K
 (try simp only [Act.put, ssA, ssZ, ssS])
 refine wpAnyH_take (i := 7) (v := ?_) rfl (by kernel_rfl) (by kernel_rfl) (by kernel_rfl) (fun _ _ _ h => h) (Or.inl ⟨by kernel_rfl, ?_⟩) hHeld6 ?_
 rotate_left
 ·intro w hSw
  (try dsimp only at hSw)
  obtain ⟨hS0, hS1⟩ := hSw
  go_simp
  (try with_reducible rfl)
 change wpAnyH _ _ _ _ _ _ _ (Act.put _ (some 16) _) _
 simp only [Act.put, ssA, ssZ, ssS]
 refine wpAnyH_take (i := 8) (v := ?_) rfl (by kernel_rfl) (by kernel_rfl) (by kernel_rfl) (fun _ _ _ h => h) (Or.inl ⟨by kernel_rfl, ?_⟩) hHeld6 ?_
 rotate_left
 ·intro w hSw
  (try dsimp only at hSw)
  obtain ⟨hS0, hS1⟩ := hSw
  go_simp
  (try with_reducible rfl)
 change wpAnyH _ _ _ _ _ _ _ (Act.put _ (some 24) _) _
 simp only [Act.put, ssA, ssZ, ssS]
 refine wpAnyH_take (i := 9) (v := ?_) rfl (by kernel_rfl) (by kernel_rfl) (by kernel_rfl) (fun _ _ _ h => h) (Or.inl ⟨by kernel_rfl, ?_⟩) hHeld6 ?_
 rotate_left
 ·intro w hSw
  (try dsimp only at hSw)
  obtain ⟨hS0, hS1⟩ := hSw
  go_simp
  (try with_reducible rfl)
 change wpAnyH _ _ _ _ _ _ _ (Act.put _ (some 25) _) _
 simp only [Act.put, ssA, ssZ, ssS]
 refine wpAnyH_take (i := 10) (v := ?_) rfl (by kernel_rfl) (by kernel_rfl) (by kernel_rfl) (fun _ _ _ h => h) (Or.inl ⟨by kernel_rfl, ?_⟩) hHeld6 ?_
 rotate_left
 ·intro w hSw
  (try dsimp only at hSw)
  obtain ⟨hS0, hS1⟩ := hSw
  go_simp
  (try with_reducible rfl)
 change wpAnyH _ _ _ _ _ _ _ (Act.put _ (some 6) _) _
 simp only [Act.put, ssA, ssZ, ssS]
 refine wpAnyH_take (i := 11) (v := ?_) rfl (by kernel_rfl) (by kernel_rfl) (by kernel_rfl) (fun _ _ _ h => h) (Or.inl ⟨by kernel_rfl, ?_⟩) hHeld6 ?_
 rotate_left
 ·intro w hSw
  (try dsimp only at hSw)
  obtain ⟨hS0, hS1⟩ := hSw
  go_simp
  (try with_reducible rfl)
 change wpAnyH _ _ _ _ _ _ _ (Act.put _ (some 7) _) _
 simp only [Act.put, ssA, ssZ, ssS]
 refine wpAnyH_done (by kernel_rfl) ?_ _
 subst hu
 have hgE := gr_trans (gr_drew hg01) hg3
 have x1 := Blk.cell (g := gX) hX3 1
 have x5 := Blk.cell (g := gX) hX3 5
 simp only [List.getElem?_toArray, List.getElem?_cons_zero, List.getElem?_cons_succ] at x1 x5
 have hii : (i : Int) < (l.length : Int) := by omega
 have hi0 : (0 : Int) ≤ (i : Int) := by omega
 have hiw : IntKind.i64.wrap (i : Int) = (i : Int) := by rw [IntKind.wrap_i64]; omega
 have hRl3 := Blk.lt (g := gR) hR3
 have hXl3 := Blk.lt (g := gX) hX3
 have hgu3 : gu < w3.heap.size := World.block_lt_of_cell? w3 _ a0
 have hTl3 : gT < w3.heap.size := World.block_lt_of_cell? w3 _ cU3
 have hcn : e.cont = TA := HD.out.1.symm
 have HZN : Hid ((if Z ≠ 0 then Z else e.zone) = TZ) := HD.out.2.symm
 rw [hcn] at a1
 clear HD hcn
 generalize e.zone = EZ at *
 have hne1 := World.new_ne w3 _ cU3
 have hne2 := World.new_ne w3 _ a1
 have hne3 := World.new_ne w3 _ a2
 have hne4 := World.new_ne w3 _ x1
 go_wp2_with fail
 go_cut [8] (fun s wq => ∃ gY, s = .pointer (some ⟨gY, 0, none⟩) ∧ Blk wq gY 38 #[.string N, .int .i64 TA, .int .i64 EZ] ∧ w3.heap.size ≤ gY ∧ w3.grownBy wq none)
 case first =>
  as_aux_lemma =>
   go_region_held3 (fun V => V.cell? ⟨gT, 0, none⟩ = some (.slice (some ⟨gu, 0, none⟩) l.length cu) ∧ V.cell? ⟨gu, i * 5 + 1, none⟩ = some (.int .i64 TA) ∧ V.cell? ⟨gu, i * 5 + 2, none⟩ = some (.int .i64 EZ) ∧ V.cell? ⟨gX, 1, none⟩ = some (.string N)) (go_keep) (first | fail)
   all_goals
    go_wp2_with fail
    go_meet
    exact ⟨_, rfl, (by first | exact Blk.new _ _ _ | exact (Blk.new _ _ _).drew), (by first | exact Nat.le_refl _ | simp), (by repeat (first | exact gr_refl _ _ | assumption | refine gr_alloc ?_ _ | refine gr_drewN ?_ _ | refine gr_drew ?_))⟩
 case rest =>
  as_aux_lemma =>
   obtain ⟨gY, rfl, hY, hYs, hg4⟩ := hcut
   rename World => w4
   have hX4 := Blk.grown (row := none) hX3 hg4 (by simp)
   have hR4 := Blk.grown (row := none) hR3 hg4 (by simp)
   have hgF := gr_trans hgE hg4
   have hRY : gR ≠ gY := by omega
   clear a0 a1 a2 a3 a4 x1 x5 hne1 hne2 hne3 hne4
   have x5 := Blk.cell (g := gX) hX4 5
   have y0 := Blk.cell (g := gY) hY 0
   have y1 := Blk.cell (g := gY) hY 1
   have y2 := Blk.cell (g := gY) hY 2
   have r0 := Blk.cell (g := gR) hR4 0
   have r1 := Blk.cell (g := gR) hR4 1
   have r2 := Blk.cell (g := gR) hR4 2
   have yf := Blk.free (g := gY) hY
   have rf := Blk.free (g := gR) hR4
   simp only [List.getElem?_toArray, List.getElem?_cons_zero, List.getElem?_cons_succ] at x5 y0 y1 y2 r0 r1 r2
   have hw := HgR.out
   have HZ2 := HZN
   have HW : Hid (w.heap.size ≤ gR ∧ w.heap.size ≤ gY) := ⟨by omega, by have := hgE.size; omega⟩
   clear hw
   by_cases hz : Z = 0
   ·have hzb : (Z != 0) = false := by simpa using hz
    have hTZ : EZ = TZ := by have := HZN.out; rwa [if_neg (by simpa using hz)] at this
    subst hTZ
    clear HZN HZ2
    go_wp2_with fail
    have hf := ((Blk.put hR4 0 (.string N)).put 1 (.int .i64 TA)).put 2 (.int .i64 EZ)
    simp only [List.setIfInBounds_toArray, List.set_cons_zero, List.set_cons_succ] at hf
    have e0 := Blk.cell (g := gR) hf 0
    have e1 := Blk.cell (g := gR) hf 1
    have e2 := Blk.cell (g := gR) hf 2
    simp only [List.getElem?_toArray, List.getElem?_cons_zero, List.getElem?_cons_succ] at e0 e1 e2
    refine bodyPost_ret (v := .agg #[.string N, .int .i64 TA, .int .i64 EZ]) (by simp [results, Tryz.results103, go_sem, e0, e1, e2]) rfl ?_
    exact ⟨rfl, gr_put (p := ⟨gR, 2, none⟩) (gr_put (p := ⟨gR, 1, none⟩) (gr_put (p := ⟨gR, 0, none⟩) hgF (.inr HW.out.1) (.string N)) (.inr HW.out.1) (.int .i64 TA)) (.inr HW.out.1) (.int .i64 EZ)⟩
   ·have hzb : (Z != 0) = true := by simpa using hz
    have hTZ : Z = TZ := by have := HZN.out; rwa [if_pos hz] at this
    subst hTZ
    clear HZN HZ2
    have hY5 := Blk.put hY 2 (.int .i64 Z)
    have hR5 := Blk.far hR4 (p := ⟨gY, 2, none⟩) hRY (.int .i64 Z)
    simp only [List.setIfInBounds_toArray, List.set_cons_zero, List.set_cons_succ] at hY5
    have hgG := gr_put (p := (⟨gY, 2, none⟩ : Addr)) hgF (.inr HW.out.2) (.int .i64 Z)
    go_upto_region 6 with fail
    generalize w4.setCell ⟨gY, 2, none⟩ (.int .i64 Z) = w5 at *
    clear y0 y1 y2 r0 r1 r2
    have y0 := Blk.cell (g := gY) hY5 0
    have y1 := Blk.cell (g := gY) hY5 1
    have y2 := Blk.cell (g := gY) hY5 2
    have r0 := Blk.cell (g := gR) hR5 0
    have r1 := Blk.cell (g := gR) hR5 1
    have r2 := Blk.cell (g := gR) hR5 2
    have rf5 := Blk.free (g := gR) hR5
    simp only [List.getElem?_toArray, List.getElem?_cons_zero, List.getElem?_cons_succ] at y0 y1 y2 r0 r1 r2
    go_wp2_with fail
    have hf := ((Blk.put hR5 0 (.string N)).put 1 (.int .i64 TA)).put 2 (.int .i64 Z)
    simp only [List.setIfInBounds_toArray, List.set_cons_zero, List.set_cons_succ] at hf
    have e0 := Blk.cell (g := gR) hf 0
    have e1 := Blk.cell (g := gR) hf 1
    have e2 := Blk.cell (g := gR) hf 2
    simp only [List.getElem?_toArray, List.getElem?_cons_zero, List.getElem?_cons_succ] at e0 e1 e2
    refine bodyPost_ret (v := .agg #[.string N, .int .i64 TA, .int .i64 Z]) (by simp [results, Tryz.results103, go_sem, e0, e1, e2]) rfl ?_
    exact ⟨rfl, gr_put (p := ⟨gR, 2, none⟩) (gr_put (p := ⟨gR, 1, none⟩) (gr_put (p := ⟨gR, 0, none⟩) hgG (.inr HW.out.1) (.string N)) (.inr HW.out.1) (.int .i64 TA)) (.inr HW.out.1) (.int .i64 Z)⟩
def natI (js : List Nat) : List Int := js.map fun (j : Nat) => (j : Int)
/-- The first of some prefixes that counts at a moment; -1: none does. -/
def cntI (l : List Ent) (p : List Pfx) (x : Int) : List Nat → Int
 | [] => -1
 | j :: r => match p[j]? with
   | none => cntI l p x r
   | some q => if hasB (tmA l q) (tmZ l q) x then (j : Int) else cntI l p x r
theorem cntI_step (l : List Ent) (p : List Pfx) (x : Int) (js : List Nat) (k : Nat) (h : k < js.length) (hj : js[k] < p.length) : cntI l p x (js.drop k) = if hasB (tmA l p[js[k]]) (tmZ l p[js[k]]) x then (js[k] : Int) else cntI l p x (js.drop (k + 1)) := by
 rw [List.drop_eq_getElem_cons h]
 show (match p[js[k]]? with
  | none => cntI l p x (js.drop (k + 1))
  | some q => if hasB (tmA l q) (tmZ l q) x then (js[k] : Int) else cntI l p x (js.drop (k + 1))) = _
 rw [List.getElem?_eq_getElem hj]
set_option maxRecDepth 100000 in
set_option maxHeartbeats 4000000 in
theorem counting_ok (base base2 gT : Nat) (u v s : Value) (l : List Ent) (p : List Pfx) (js : List Nat) (x : Int) (w : World) (hT : TabAt base gT u v l p w) (hO : TabOk l p) (hs : IntsFrom base2 w s (natI js)) (hjs : ∀ j ∈ js, j < p.length) :
 Calls Tryz.prog 102 #[.pointer (some ⟨gT, 0, none⟩), s, .int .i64 x] w fun r w' => r = .returned (.int .i64 (cntI l p x js)) ∧ w.grownBy w' none := by
 obtain ⟨A, c, rfl, hlen, hA⟩ := hs.shape
 have hml : (natI js).length = js.length := by simp [natI]
 have HS := Lib.hid hs
 have HA := Lib.hid hA
 have HT := Lib.hid hT
 rw [hml] at HS HA hlen ⊢
 have HE : Hid (cntI l p x js = cntI l p x (js.drop 0)) := rfl
 clear hs hA hT
 go_enter Tryz.func102, Tryz.ntmps102
 go_wp2_with fail
 go_loopw [11] (fun iv wr => ∃ k : Nat, k ≤ js.length ∧ iv = .int .i64 k ∧ Hid (cntI l p x js = cntI l p x (js.drop k)) ∧ w.grownBy wr none) (fun iv _ => js.length - (intOf iv).toNat)
 case atStart => exact ⟨0, by omega, rfl, HE, gr_refl _ _⟩
 case round =>
  obtain ⟨k, hk, rfl, HN, hg⟩ := hrel
  by_cases hlt : k < js.length
  ·have hki : (k : Int) < (js.length : Int) := by omega
   obtain ⟨g, rfl, _, hgl⟩ := HA.out (by omega)
   have hat := IntsFrom.at_ (l := natI js) (g := g) (c := c) (by rw [hml]; exact HS.out.grown hg) k (by omega)
   have hjl := hjs _ (List.getElem_mem hlt)
   have hst := cntI_step l p x js k hlt hjl
   rw [← HN.out] at hst
   rw [show (natI js)[k]'(by omega) = (js[k] : Int) by simp [natI]] at hat
   have HTM := Lib.hid (time_ok base gT u v l p js[k] wr (HT.out.grown hg) hO hjl)
   have HHA := Lib.hid (fun W => has_any (tmA l p[js[k]]) (tmZ l p[js[k]]) x W)
   generalize tmA l p[js[k]] = TA at *
   generalize tmZ l p[js[k]] = TZ at *
   generalize js[k] = J at *
   by_cases hh : hasB TA TZ x = true
   ·have HR : Hid (cntI l p x js = (J : Int)) := by show _ = _; rw [hst, if_pos hh]
    rw [hh] at HHA
    clear hst hh
    go_wp2_with fail
    refine HTM.out.mono ?_
    rintro _ w2 ⟨rfl, hg2⟩
    go_wp2_with fail
    refine (HHA.out _).mono ?_
    rintro _ w3 ⟨rfl, hg3⟩
    go_wp2_with fail
    go_ret
    exact ⟨ret_of HR.out.symm, gr_trans (gr_trans hg hg2) hg3⟩
   ·have HR : Hid (cntI l p x js = cntI l p x (js.drop (k + 1))) := by show _ = _; rw [hst, if_neg hh]
    have hh2 : hasB TA TZ x = false := by simpa using hh
    rw [hh2] at HHA
    clear hst hh hh2
    go_wp2_with fail
    refine HTM.out.mono ?_
    rintro _ w2 ⟨rfl, hg2⟩
    go_wp2_with fail
    refine (HHA.out _).mono ?_
    rintro _ w3 ⟨rfl, hg3⟩
    go_wp2_with fail
    go_roundw
    case rel => exact ⟨k + 1, by omega, by go_num, HR, gr_trans (gr_trans hg hg2) hg3⟩
    case measure => simp [intOf]; omega
  ·obtain rfl : k = js.length := by omega
   have hkl : ¬ (js.length : Int) < (js.length : Int) := by omega
   have HR : Hid (cntI l p x js = -1) := by show _ = _; rw [HN.out, List.drop_length]; rfl
   go_wp2_with fail
   go_ret
   exact ⟨ret_of HR.out.symm, hg⟩
end Go.Proofs.YtbpkfkbbkgdlaaaGreatDoor

namespace Go.Proofs.YtbpkfkbbkgdlaaaGreatDoor
open Go.RowKit
set_option linter.unusedVariables false
set_option linter.unusedSimpArgs false

set_option maxRecDepth 100000 in
set_option maxHeartbeats 4000000 in
theorem entitiesFault_any (base : Nat) (v : Value) (l : List Ent) (w : World) (hl : EntsFrom base w v l) (hsm : ∀ e ∈ l, EntSm e) :
 Calls Tryz.prog 13 #[v] w fun r w' => r = .returned (.int .i64 (entsE l)) ∧ w.grownBy w' none := by
 obtain ⟨A, c, rfl, hlen, hA⟩ := hl.shape
 by_cases hbig : 400 < l.length
 ·have HE : Hid (entsE l = 2) := by show _ = _; unfold entsE; rw [if_pos hbig]
  have hb : (400 : Int) < (l.length : Int) := by omega
  clear hl hA
  go_enter Tryz.func13, Tryz.ntmps13
  go_wp2_with fail
  go_ret
  exact ⟨ret_of HE.out.symm, gr_refl _ _⟩
 ·have HE : Hid (entsE l = entsScan none l) := by show _ = _; unfold entsE; rw [if_neg hbig]
  have hb : ¬ (400 : Int) < (l.length : Int) := by omega
  have HL := Lib.hid hl
  have HA := Lib.hid hA
  clear hl hA
  go_enter Tryz.func13, Tryz.ntmps13
  go_wp2_with fail
  go_loopw [10] (fun iv wr => ∃ k : Nat, k ≤ l.length ∧ iv = .int .i64 k ∧ Hid (entsE l = entsScan (prevL l k) (l.drop k)) ∧ w.grownBy wr none) (fun iv _ => l.length - (intOf iv).toNat)
  case atStart => exact ⟨0, by omega, rfl, HE, gr_refl _ _⟩
  case round =>
   obtain ⟨k, hk, rfl, HN, hg⟩ := hrel
   by_cases hlt : k < l.length
   ·have hki : (k : Int) < (l.length : Int) := by omega
    obtain ⟨g, rfl, hg0, hg1⟩ := HA.out (by omega)
    obtain ⟨q0, q1, q2, q3, q4⟩ := (HL.out.grown hg).at_ k hlt
    have hst := entsScan_step l k hlt
    rw [← HN.out] at hst
    obtain ⟨s1, s2, s3⟩ := hsm l[k] (List.getElem_mem hlt)
    have HPV : Hid (∀ j, k = j + 1 → ∃ q : Ent, prevL l k = some q ∧ wr.cell? ⟨g, j * 5, none⟩ = some (.string q.key)) := fun j hj => by
     subst hj
     exact ⟨l[j], prevL_succ l j (by omega), ((HL.out.grown hg).at_ j (by omega)).1⟩
    have hcs := entE1_cases (prevL l k) l[k]
    have hgs := hg.size
    generalize l[k].key = K at *
    generalize l[k].cont = C at *
    generalize l[k].zone = Z at *
    generalize l[k].a = ea at *
    generalize l[k].z = ez at *
    obtain ⟨E, hE⟩ : ∃ E, entE1 (prevL l k) l[k] = E := ⟨_, rfl⟩
    rw [hE] at hst hcs
    obtain ⟨KB, hKB⟩ : ∃ x, keyB K.data.toList = x := ⟨_, rfl⟩
    obtain ⟨CB, hCB⟩ : ∃ x, outB C 1 7 = x := ⟨_, rfl⟩
    obtain ⟨ZB, hZB⟩ : ∃ x, outB Z 1 90 = x := ⟨_, rfl⟩
    obtain ⟨TB, hTB⟩ : ∃ x, timeB ea ez = x := ⟨_, rfl⟩
    have hKE := fun W => refKey_any K W s1
    have hIC := fun W => in_any C 1 7 W
    have hIZ := fun W => in_any Z 1 90 W
    have hTF := fun W => timeFault_any ea ez W
    have hTE : timeE ea ez = if TB then 0 else 1 := by unfold timeE; rw [hTB]
    rw [hKB] at hcs hKE
    rw [hCB] at hcs hIC
    rw [hZB] at hcs hIZ
    rw [hTB] at hcs
    rw [hTE] at hTF
    have HKE := Lib.hid hKE
    have HIC := Lib.hid hIC
    have HIZ := Lib.hid hIZ
    have HTF := Lib.hid hTF
    have HCS := Lib.hid hcs
    have HST := Lib.hid hst
    have hB := Blk.new wr 77 #[.string K, .int .i64 C, .int .i64 Z, .int .i64 ea, .int .i64 ez]
    have hgA := World.grownBy_alloc wr (.cells #[.string K, .int .i64 C, .int .i64 Z, .int .i64 ea, .int .i64 ez] 77) none
    have hgq := gr_trans hg hgA
    have hglt : g < wr.heap.size := by omega
    clear hE hKB hCB hZB hTB hKE hIC hIZ hTF hTE hcs hst
    go_upto_region 6 with fail
    generalize wr.alloc (.cells #[.string K, .int .i64 C, .int .i64 Z, .int .i64 ea, .int .i64 ez] 77) = w1 at *
    generalize wr.heap.size = gE at *
    have k0 := hB.cell 0
    have k1 := hB.cell 1
    have k2 := hB.cell 2
    simp only [List.getElem?_toArray, List.getElem?_cons_zero, List.getElem?_cons_succ] at k0 k1 k2
    go_wp2_with fail
    refine (HKE.out _).mono ?_
    rintro _ w2 ⟨rfl, hg2⟩
    have hB2 := hB.grown hg2 (by simp)
    clear k0 k1 k2 q0 q1 q2 q3 q4
    have k0 := hB2.cell 0
    have k1 := hB2.cell 1
    have k2 := hB2.cell 2
    have k3 := hB2.cell 3
    have k4 := hB2.cell 4
    simp only [List.getElem?_toArray, List.getElem?_cons_zero, List.getElem?_cons_succ] at k0 k1 k2 k3 k4
    cases KB
    ·have hE : E = 5 := by simpa using HCS.out
     have HR : Hid (entsE l = 5) := by show _ = _; rw [HST.out, if_neg (by omega), hE]
     clear hE
     go_wp2_with fail
     go_ret
     exact ⟨ret_of HR.out.symm, gr_trans hgq hg2⟩
    ·go_wp2_with fail
     refine (HIC.out _).mono ?_
     rintro _ _ ⟨rfl, rfl⟩
     cases CB
     ·go_wp2_with fail
      refine (HIZ.out _).mono ?_
      rintro _ _ ⟨rfl, rfl⟩
      cases ZB
      ·go_wp2_with fail
       refine (HTF.out _).mono ?_
       rintro _ w3 ⟨rfl, hg3⟩
       have hB3 := hB2.grown hg3 (by simp)
       have hg13 := gr_trans hg2 hg3
       clear k0 k1 k2 k3 k4
       have k0 := hB3.cell 0
       simp only [List.getElem?_toArray, List.getElem?_cons_zero] at k0
       cases TB
       ·have hE : E = 1 := by simpa using HCS.out
        have HR : Hid (entsE l = 1) := by show _ = _; rw [HST.out, if_neg (by omega), hE]
        clear hE
        go_wp2_with fail
        go_ret
        exact ⟨ret_of HR.out.symm, gr_trans hgq hg13⟩
       ·rcases Nat.eq_zero_or_pos k with hk0 | hk0
        ·have hp : prevL l k = none := by rw [hk0]; rfl
         have hE : E = 0 := by
          have := HCS.out
          rw [hp] at this
          simpa using this
         have HR : Hid (entsE l = entsScan (prevL l (k + 1)) (l.drop (k + 1))) := by show _ = _; rw [HST.out, if_pos hE]
         have hkn : decide ((0 : Int) < (k : Int)) = false := by simp; omega
         have hknN : decide (0 < k) = false := by simp; omega
         clear hE hp hk0 HPV
         simp only [if_true]
         go_wp2_with fail
         refine wp_region_held_drew (S := fun _ => True) (by kernel_rfl) trivial (fun hHeld => ?_)
         refine wpAnyH_take (i := 0) (v := ?_) rfl (by kernel_rfl) (by kernel_rfl) (by kernel_rfl) (fun _ _ _ h => h) (Or.inl ⟨by kernel_rfl, ?_⟩) hHeld ?_
         rotate_left
         ·intro w hSw
          (try dsimp only at hSw)
          go_simp
          (try with_reducible rfl)
         change wpAnyH _ _ _ _ _ _ _ (Act.put _ (some 37) _) _
         simp only [Act.put, ssA, ssZ, ssS]
         refine wpAnyH_take (i := 1) (v := ?_) rfl (by kernel_rfl) (by kernel_rfl) (by kernel_rfl) (fun _ _ _ h => h) (Or.inl ⟨by kernel_rfl, ?_⟩) hHeld ?_
         rotate_left
         ·intro w hSw
          (try dsimp only at hSw)
          go_simp
          (try with_reducible rfl)
         change wpAnyH _ _ _ _ _ _ _ (Act.put _ (some 38) _) _
         simp only [Act.put, ssA, ssZ, ssS]
         refine wpAnyH_take (i := 2) (v := ?_) rfl (by kernel_rfl) (by kernel_rfl) (by kernel_rfl) (fun _ _ _ h => h) (Or.inl ⟨by kernel_rfl, ?_⟩) hHeld ?_
         rotate_left
         ·intro w hSw
          (try dsimp only at hSw)
          go_simp
          (try with_reducible rfl)
         change wpAnyH _ _ _ _ _ _ _ (Act.put _ (some 39) _) _
         simp only [Act.put, ssA, ssZ, ssS]
         refine wpAnyH_take (i := 3) (v := undef) rfl (by kernel_rfl) (by kernel_rfl) (by kernel_rfl) (fun _ _ _ h => h) (Or.inr ⟨by kernel_rfl, rfl⟩) hHeld ?_
         change wpAnyH _ _ _ _ _ _ _ (Act.put _ (some 40) _) _
         simp only [Act.put, ssA, ssZ, ssS]
         refine wpAnyH_take (i := 4) (v := undef) rfl (by kernel_rfl) (by kernel_rfl) (by kernel_rfl) (fun _ _ _ h => h) (Or.inr ⟨by kernel_rfl, rfl⟩) hHeld ?_
         change wpAnyH _ _ _ _ _ _ _ (Act.put _ (some 41) _) _
         simp only [Act.put, ssA, ssZ, ssS]
         refine wpAnyH_take (i := 5) (v := undef) rfl (by kernel_rfl) (by kernel_rfl) (by kernel_rfl) (fun _ _ _ h => h) (Or.inr ⟨by kernel_rfl, rfl⟩) hHeld ?_
         change wpAnyH _ _ _ _ _ _ _ (Act.put _ (some 42) _) _
         simp only [Act.put, ssA, ssZ, ssS]
         refine wpAnyH_take (i := 6) (v := undef) rfl (by kernel_rfl) (by kernel_rfl) (by kernel_rfl) (fun _ _ _ h => h) (Or.inr ⟨by kernel_rfl, rfl⟩) hHeld ?_
         change wpAnyH _ _ _ _ _ _ _ (Act.put _ (some 43) _) _
         simp only [Act.put, ssA, ssZ, ssS]
         refine wpAnyH_take (i := 7) (v := undef) rfl (by kernel_rfl) (by kernel_rfl) (by kernel_rfl) (fun _ _ _ h => h) (Or.inr ⟨by kernel_rfl, rfl⟩) hHeld ?_
         change wpAnyH _ _ _ _ _ _ _ (Act.put _ (some 44) _) _
         simp only [Act.put, ssA, ssZ, ssS]
         refine wpAnyH_take (i := 8) (v := undef) rfl (by kernel_rfl) (by kernel_rfl) (by kernel_rfl) (fun _ _ _ h => h) (Or.inr ⟨by kernel_rfl, rfl⟩) hHeld ?_
         change wpAnyH _ _ _ _ _ _ _ (Act.put _ (some 45) _) _
         simp only [Act.put, ssA, ssZ, ssS]
         refine wpAnyH_take (i := 9) (v := undef) rfl (by kernel_rfl) (by kernel_rfl) (by kernel_rfl) (fun _ _ _ h => h) (Or.inr ⟨by kernel_rfl, rfl⟩) hHeld ?_
         change wpAnyH _ _ _ _ _ _ _ (Act.put _ (some 46) _) _
         simp only [Act.put, ssA, ssZ, ssS]
         refine wpAnyH_take (i := 10) (v := undef) rfl (by kernel_rfl) (by kernel_rfl) (by kernel_rfl) (fun _ _ _ h => h) (Or.inr ⟨by kernel_rfl, rfl⟩) hHeld ?_
         change wpAnyH _ _ _ _ _ _ _ (Act.put _ (some 47) _) _
         simp only [Act.put, ssA, ssZ, ssS]
         refine wpAnyH_take (i := 11) (v := undef) rfl (by kernel_rfl) (by kernel_rfl) (by kernel_rfl) (fun _ _ _ h => h) (Or.inr ⟨by kernel_rfl, rfl⟩) hHeld ?_
         change wpAnyH _ _ _ _ _ _ _ (Act.put _ (some 48) _) _
         simp only [Act.put, ssA, ssZ, ssS]
         refine wpAnyH_take (i := 12) (v := ?_) rfl (by kernel_rfl) (by kernel_rfl) (by kernel_rfl) (fun _ _ _ h => h) (Or.inl ⟨by kernel_rfl, ?_⟩) hHeld ?_
         rotate_left
         ·intro w hSw
          (try dsimp only at hSw)
          go_simp
          (try with_reducible rfl)
         change wpAnyH _ _ _ _ _ _ _ (Act.put _ (some 49) _) _
         simp only [Act.put, ssA, ssZ, ssS]
         refine wpAnyH_take (i := 13) (v := ?_) rfl (by kernel_rfl) (by kernel_rfl) (by kernel_rfl) (fun _ _ _ h => h) (Or.inl ⟨by kernel_rfl, ?_⟩) hHeld ?_
         rotate_left
         ·intro w hSw
          (try dsimp only at hSw)
          go_simp
          (try with_reducible rfl)
         change wpAnyH _ _ _ _ _ _ _ (Act.put _ (some 36) _) _
         simp only [Act.put, ssA, ssZ, ssS]
         refine wpAnyH_done (by kernel_rfl) ?_ _
         go_wp2_with fail
         go_roundw
         case rel => exact ⟨k + 1, by omega, by go_num, HR, gr_drew (gr_trans hgq hg13)⟩
         case measure => simp [intOf]; omega
        ·obtain ⟨j, hj⟩ : ∃ j, k = j + 1 := ⟨k - 1, by omega⟩
         obtain ⟨q, hq, cq⟩ := HPV.out j hj
         obtain ⟨QK, hQK⟩ : ∃ x, q.key = x := ⟨_, rfl⟩
         rw [hQK] at cq
         obtain ⟨LB, hLB⟩ : ∃ x, (Op.bytesLess K.toList QK.toList || K.toList == QK.toList) = x := ⟨_, rfl⟩
         have hE : E = if LB then 7 else 0 := by
          have h := HCS.out
          rw [hq] at h
          have h2 : leS K q.key = LB := by rw [hQK]; exact hLB
          simpa [h2] using h
         have cq3 := (gr_trans hgA hg13).cell cq (by simp)
         have e2 : IntKind.i64.wrap ((k : Int) - 1) = (j : Int) := by rw [show (k : Int) - 1 = (j : Int) by omega, IntKind.wrap_i64]; omega
         have e3 : IntKind.i64.wrap (j : Int) = (j : Int) := by rw [IntKind.wrap_i64]; omega
         have hj0 : (0 : Int) ≤ (j : Int) := by omega
         have hj1 : (j : Int) < (l.length : Int) := by omega
         have hj2 : j < l.length := by omega
         have hkn : decide ((0 : Int) < (k : Int)) = true := by simp; omega
         have hknN : decide (0 < k) = true := by simp; omega
         have hkn2 : (0 : Int) < (k : Int) := by omega
         have HJ := Lib.hid hj
         have HEE := Lib.hid hE
         clear hE hq hk0 HPV hj cq hQK
         simp only [if_true]
         go_wp2_with fail
         refine wp_region_held_drew (S := fun W => W.cell? ⟨gE, 0, none⟩ = some (.string K) ∧ W.cell? ⟨g, j * 5, none⟩ = some (.string QK)) (by kernel_rfl) ⟨k0, cq3⟩ (fun hHeld => ?_)
         refine wpAnyH_take (i := 0) (v := ?_) rfl (by kernel_rfl) (by kernel_rfl) (by kernel_rfl) (fun _ _ _ h => h) (Or.inl ⟨by kernel_rfl, ?_⟩) hHeld ?_
         rotate_left
         ·intro w hSw
          (try dsimp only at hSw)
          obtain ⟨hS0, hS1⟩ := hSw
          go_simp
          (try with_reducible rfl)
         change wpAnyH _ _ _ _ _ _ _ (Act.put _ (some 37) _) _
         simp only [Act.put, ssA, ssZ, ssS]
         refine wpAnyH_take (i := 1) (v := ?_) rfl (by kernel_rfl) (by kernel_rfl) (by kernel_rfl) (fun _ _ _ h => h) (Or.inl ⟨by kernel_rfl, ?_⟩) hHeld ?_
         rotate_left
         ·intro w hSw
          (try dsimp only at hSw)
          obtain ⟨hS0, hS1⟩ := hSw
          go_simp
          (try with_reducible rfl)
         change wpAnyH _ _ _ _ _ _ _ (Act.put _ (some 38) _) _
         simp only [Act.put, ssA, ssZ, ssS]
         refine wpAnyH_take (i := 2) (v := ?_) rfl (by kernel_rfl) (by kernel_rfl) (by kernel_rfl) (fun _ _ _ h => h) (Or.inl ⟨by kernel_rfl, ?_⟩) hHeld ?_
         rotate_left
         ·intro w hSw
          (try dsimp only at hSw)
          obtain ⟨hS0, hS1⟩ := hSw
          go_simp
          (try with_reducible rfl)
         change wpAnyH _ _ _ _ _ _ _ (Act.put _ (some 39) _) _
         simp only [Act.put, ssA, ssZ, ssS]
         refine wpAnyH_take (i := 3) (v := ?_) rfl (by kernel_rfl) (by kernel_rfl) (by kernel_rfl) (fun _ _ _ h => h) (Or.inl ⟨by kernel_rfl, ?_⟩) hHeld ?_
         rotate_left
         ·intro w hSw
          (try dsimp only at hSw)
          obtain ⟨hS0, hS1⟩ := hSw
          go_simp
          (try with_reducible rfl)
         change wpAnyH _ _ _ _ _ _ _ (Act.put _ (some 40) _) _
         simp only [Act.put, ssA, ssZ, ssS]
         refine wpAnyH_take (i := 4) (v := ?_) rfl (by kernel_rfl) (by kernel_rfl) (by kernel_rfl) (fun _ _ _ h => h) (Or.inl ⟨by kernel_rfl, ?_⟩) hHeld ?_
         rotate_left
         ·intro w hSw
          (try dsimp only at hSw)
          obtain ⟨hS0, hS1⟩ := hSw
          go_simp
          (try with_reducible rfl)
         change wpAnyH _ _ _ _ _ _ _ (Act.put _ (some 41) _) _
         simp only [Act.put, ssA, ssZ, ssS]
         refine wpAnyH_take (i := 5) (v := ?_) rfl (by kernel_rfl) (by kernel_rfl) (by kernel_rfl) (fun _ _ _ h => h) (Or.inl ⟨by kernel_rfl, ?_⟩) hHeld ?_
         rotate_left
         ·intro w hSw
          (try dsimp only at hSw)
          obtain ⟨hS0, hS1⟩ := hSw
          go_simp
          (try with_reducible rfl)
         change wpAnyH _ _ _ _ _ _ _ (Act.put _ (some 42) _) _
         simp only [Act.put, ssA, ssZ, ssS]
         refine wpAnyH_take (i := 6) (v := ?_) rfl (by kernel_rfl) (by kernel_rfl) (by kernel_rfl) (fun _ _ _ h => h) (Or.inl ⟨by kernel_rfl, ?_⟩) hHeld ?_
         rotate_left
         ·intro w hSw
          (try dsimp only at hSw)
          obtain ⟨hS0, hS1⟩ := hSw
          go_simp
          (try with_reducible rfl)
         change wpAnyH _ _ _ _ _ _ _ (Act.put _ (some 43) _) _
         simp only [Act.put, ssA, ssZ, ssS]
         refine wpAnyH_take (i := 7) (v := ?_) rfl (by kernel_rfl) (by kernel_rfl) (by kernel_rfl) (fun _ _ _ h => h) (Or.inl ⟨by kernel_rfl, ?_⟩) hHeld ?_
         rotate_left
         ·intro w hSw
          (try dsimp only at hSw)
          obtain ⟨hS0, hS1⟩ := hSw
          go_simp
          (try with_reducible rfl)
         change wpAnyH _ _ _ _ _ _ _ (Act.put _ (some 44) _) _
         simp only [Act.put, ssA, ssZ, ssS]
         refine wpAnyH_take (i := 8) (v := ?_) rfl (by kernel_rfl) (by kernel_rfl) (by kernel_rfl) (fun _ _ _ h => h) (Or.inl ⟨by kernel_rfl, ?_⟩) hHeld ?_
         rotate_left
         ·intro w hSw
          (try dsimp only at hSw)
          obtain ⟨hS0, hS1⟩ := hSw
          go_simp
          (try with_reducible rfl)
         change wpAnyH _ _ _ _ _ _ _ (Act.put _ (some 45) _) _
         simp only [Act.put, ssA, ssZ, ssS]
         refine wpAnyH_take (i := 9) (v := ?_) rfl (by kernel_rfl) (by kernel_rfl) (by kernel_rfl) (fun _ _ _ h => h) (Or.inl ⟨by kernel_rfl, ?_⟩) hHeld ?_
         rotate_left
         ·intro w hSw
          (try dsimp only at hSw)
          obtain ⟨hS0, hS1⟩ := hSw
          go_simp
          (try with_reducible rfl)
         change wpAnyH _ _ _ _ _ _ _ (Act.put _ (some 46) _) _
         simp only [Act.put, ssA, ssZ, ssS]
         refine wpAnyH_take (i := 10) (v := ?_) rfl (by kernel_rfl) (by kernel_rfl) (by kernel_rfl) (fun _ _ _ h => h) (Or.inl ⟨by kernel_rfl, ?_⟩) hHeld ?_
         rotate_left
         ·intro w hSw
          (try dsimp only at hSw)
          obtain ⟨hS0, hS1⟩ := hSw
          go_simp
          (try with_reducible rfl)
         change wpAnyH _ _ _ _ _ _ _ (Act.put _ (some 47) _) _
         simp only [Act.put, ssA, ssZ, ssS]
         refine wpAnyH_take (i := 11) (v := ?_) rfl (by kernel_rfl) (by kernel_rfl) (by kernel_rfl) (fun _ _ _ h => h) (Or.inl ⟨by kernel_rfl, ?_⟩) hHeld ?_
         rotate_left
         ·intro w hSw
          (try dsimp only at hSw)
          obtain ⟨hS0, hS1⟩ := hSw
          go_simp
          (try with_reducible rfl)
         change wpAnyH _ _ _ _ _ _ _ (Act.put _ (some 48) _) _
         simp only [Act.put, ssA, ssZ, ssS]
         refine wpAnyH_take (i := 12) (v := ?_) rfl (by kernel_rfl) (by kernel_rfl) (by kernel_rfl) (fun _ _ _ h => h) (Or.inl ⟨by kernel_rfl, ?_⟩) hHeld ?_
         rotate_left
         ·intro w hSw
          (try dsimp only at hSw)
          obtain ⟨hS0, hS1⟩ := hSw
          go_simp
          (try with_reducible rfl)
         change wpAnyH _ _ _ _ _ _ _ (Act.put _ (some 49) _) _
         simp only [Act.put, ssA, ssZ, ssS]
         refine wpAnyH_take (i := 13) (v := ?_) rfl (by kernel_rfl) (by kernel_rfl) (by kernel_rfl) (fun _ _ _ h => h) (Or.inl ⟨by kernel_rfl, ?_⟩) hHeld ?_
         rotate_left
         ·intro w hSw
          (try dsimp only at hSw)
          obtain ⟨hS0, hS1⟩ := hSw
          go_simp
          (try with_reducible rfl)
         change wpAnyH _ _ _ _ _ _ _ (Act.put _ (some 36) _) _
         simp only [Act.put, ssA, ssZ, ssS]
         refine wpAnyH_done (by kernel_rfl) ?_ _
         cases LB
         ·have HR : Hid (entsE l = entsScan (prevL l (k + 1)) (l.drop (k + 1))) := by show _ = _; rw [HST.out, if_pos (by simpa using HEE.out)]
          go_wp2_with fail
          go_roundw
          case rel => exact ⟨k + 1, by omega, by go_num, HR, gr_drew (gr_trans hgq hg13)⟩
          case measure => simp [intOf]; omega
         ·have hE : E = 7 := by simpa using HEE.out
          have HR : Hid (entsE l = 7) := by show _ = _; rw [HST.out, if_neg (by omega), hE]
          clear hE
          go_wp2_with fail
          go_ret
          exact ⟨ret_of HR.out.symm, gr_drew (gr_trans hgq hg13)⟩
      ·have hE : E = 1 := by simpa using HCS.out
       have HR : Hid (entsE l = 1) := by show _ = _; rw [HST.out, if_neg (by omega), hE]
       clear hE
       go_wp2_with fail
       go_ret
       exact ⟨ret_of HR.out.symm, gr_trans hgq hg2⟩
     ·have hE : E = 4 := by simpa using HCS.out
      have HR : Hid (entsE l = 4) := by show _ = _; rw [HST.out, if_neg (by omega), hE]
      clear hE
      go_wp2_with fail
      go_ret
      exact ⟨ret_of HR.out.symm, gr_trans hgq hg2⟩
   ·obtain rfl : k = l.length := by omega
    have hkl : ¬ (l.length : Int) < (l.length : Int) := by omega
    have HR : Hid (entsE l = 0) := by show _ = _; rw [HN.out, entsScan_end]
    go_wp2_with fail
    go_ret
    exact ⟨ret_of HR.out.symm, hg⟩
end Go.Proofs.YtbpkfkbbkgdlaaaGreatDoor

namespace Go.Proofs.YtbpkfkbbkgdlaaaGreatDoor
open Go.RowKit
set_option linter.unusedVariables false
set_option linter.unusedSimpArgs false

def cmpN (a b : Int) : Int := if a < b then -1 else if b < a then 1 else 0
theorem isNaN_int (x : Int) (w : World) : Calls Tryz.prog 150 #[.int .i64 x] w fun r w' => r = .returned (.bool false) ∧ w = w' := by
 go_enter Tryz.func150, Tryz.ntmps150
 go_wp2_with fail
 go_ret
 exact ⟨by simp, rfl⟩
theorem compare_int (x y : Int) (w : World) : Calls Tryz.prog 93 #[.int .i64 x, .int .i64 y] w fun r w' => r = .returned (.int .i64 (cmpN x y)) ∧ w = w' := by
 unfold cmpN
 by_cases h1 : x < y
 ·rw [if_pos h1]
  go_enter Tryz.func93, Tryz.ntmps93
  go_wp2_with fail
  refine (isNaN_int _ _).mono ?_
  rintro _ _ ⟨rfl, rfl⟩
  go_wp2_with fail
  refine (isNaN_int _ _).mono ?_
  rintro _ _ ⟨rfl, rfl⟩
  go_wp2_with fail
  go_ret
  exact ⟨rfl, rfl⟩
 ·rw [if_neg h1]
  by_cases h2 : y < x
  ·rw [if_pos h2]
   go_enter Tryz.func93, Tryz.ntmps93
   go_wp2_with fail
   refine (isNaN_int _ _).mono ?_
   rintro _ _ ⟨rfl, rfl⟩
   go_wp2_with fail
   refine (isNaN_int _ _).mono ?_
   rintro _ _ ⟨rfl, rfl⟩
   go_wp2_with fail
   go_ret
   exact ⟨rfl, rfl⟩
  ·rw [if_neg h2]
   go_enter Tryz.func93, Tryz.ntmps93
   go_wp2_with fail
   refine (isNaN_int _ _).mono ?_
   rintro _ _ ⟨rfl, rfl⟩
   go_wp2_with fail
   refine (isNaN_int _ _).mono ?_
   rintro _ _ ⟨rfl, rfl⟩
   go_wp2_with fail
   go_ret
   exact ⟨rfl, rfl⟩
set_option maxHeartbeats 400000 in
theorem orI_any (xs : List Int) (g m c : Nat) (w : World) (hg : Blk w g 3 (xs.map (Value.int .i64)).toArray) (hm : m = xs.length) (h1 : m ≤ 1000) :
 Calls Tryz.prog 91 #[.slice (some ⟨g, 0, none⟩) m c] w fun r w' => r = .returned (.int .i64 (orL xs)) ∧ w = w' := by
 have HM := Lib.hid hm
 clear hm
 go_enter Tryz.func91, Tryz.ntmps91
 go_wp2_with fail
 go_loop [8] (fun i => ∃ k : Nat, k ≤ m ∧ i = .int .i64 k ∧ Hid (orL xs = orL (xs.drop k))) (fun i => m - (intOf i).toNat)
 case atStart => exact ⟨0, by omega, rfl, rfl⟩
 case round =>
  obtain ⟨k, hk, rfl, HR⟩ := hrel
  by_cases hlt : k < m
  ·have hi : k < xs.length := by have := HM.out; omega
   have hc := hg.cell k
   rw [getE_of hi] at hc
   obtain ⟨z, hz⟩ : ∃ z, z = xs[k] := ⟨_, rfl⟩
   rw [← hz] at hc
   have HZ : Hid (orL (xs.drop k) = if z = 0 then orL (xs.drop (k + 1)) else z) := by
    show orL (xs.drop k) = _
    rw [List.drop_eq_getElem_cons hi, ← hz]
    rfl
   clear hz
   by_cases h0 : z = 0
   ·have hne : (z != 0) = false := by simp [h0]
    have HZ2 : Hid (orL xs = orL (xs.drop (k + 1))) := by
     show orL xs = _
     rw [HR.out, HZ.out, if_pos h0]
    have H0 := Lib.hid h0
    clear h0
    go_wp2_with fail
    go_round
    case rel => exact ⟨k + 1, by omega, by go_num, HZ2⟩
    case measure => simp [intOf]; omega
   ·have hne : (z != 0) = true := by simpa using h0
    have HZ2 : Hid (orL xs = z) := by
     show orL xs = _
     rw [HR.out, HZ.out, if_neg h0]
    clear h0
    go_wp2_with fail
    go_ret
    exact ⟨ret_of HZ2.out.symm, rfl⟩
  ·have HZ2 : Hid (orL xs = 0) := by
    show orL xs = _
    rw [HR.out, List.drop_of_length_le (by have := HM.out; omega)]
    rfl
   go_wp2_with fail
   go_ret
   exact ⟨ret_of HZ2.out.symm, rfl⟩
end Go.Proofs.YtbpkfkbbkgdlaaaGreatDoor
