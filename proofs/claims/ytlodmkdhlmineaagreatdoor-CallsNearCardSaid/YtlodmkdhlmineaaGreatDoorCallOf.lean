/- The walks over the stream's CallOf and RightCall: a string of ASCII, at most 30 bytes; a call sign. Condition: the stream has handed out at most 10^10 numbers. -/
import Derived.Test.YtlodmkdhlmineaaGreatDoorChanged
import Derived.Test.YtlodmkdhlmineaaGreatDoorRefP
namespace Go.Proofs.YtlodmkdhlmineaaGreatDoor
open Go.RowKit
set_option linter.unusedVariables false
set_option linter.unusedSimpArgs false

/-- Short strings of ASCII. -/
def fewA (n : Nat) (v : ByteArray) : Bool := decide (v.size ≤ n) && v.data.toList.all fun c => decide (c.toNat < 128)
theorem fewA_of {n : Nat} {v : ByteArray} (h : fewA n v = true) : v.size ≤ n ∧ Ascii v := by
  simp only [fewA, Bool.and_eq_true, decide_eq_true_eq, List.all_eq_true] at h
  exact ⟨h.1, Ascii.of_mem h.2⟩
theorem fewA_in {n : Nat} {l : List ByteArray} (h : l.all (fewA n) = true) {v : ByteArray} (hv : v ∈ l) : v.size ≤ n ∧ Ascii v := fewA_of (List.all_eq_true.1 h v hv)
def callBases : List ByteArray := [⟨#[107, 49, 97, 98]⟩, ⟨#[107, 52, 97, 98]⟩, ⟨#[111, 104, 50, 97, 98, 99]⟩, ⟨#[111, 104, 48, 120]⟩, ⟨#[51, 100, 97, 48, 120, 121]⟩, ⟨#[103, 51, 97]⟩, ⟨#[100, 108, 49, 122, 122]⟩, ⟨#[119, 49, 97, 119]⟩, ⟨#[107, 49, 98, 97]⟩]
def callTails : List ByteArray := [⟨#[47, 112]⟩, ⟨#[47, 109]⟩, ⟨#[47, 109, 109]⟩, ⟨#[47, 97, 109]⟩, ⟨#[47, 52]⟩, ⟨#[47, 48]⟩]
def callHeads : List ByteArray := [⟨#[111, 104, 48]⟩, ⟨#[103]⟩, ⟨#[51, 97]⟩, ⟨#[100, 108]⟩]
def callEnds : List ByteArray := [⟨#[111, 104, 48]⟩, ⟨#[103]⟩, ⟨#[119, 50, 98]⟩, ⟨#[107]⟩]
def CallOfPost (b k : Nat) (w : World) (e : Ending) (w' : World) : Prop :=
  ∃ u : ByteArray, e = .returned (.string u) ∧ u.size ≤ 30 ∧ Ascii u ∧ Str w' b (k + 8) ∧ w.grownBy w' (some b)
theorem slash_ascii : Ascii ⟨#[47]⟩ := (fewA_of (n := 1) (by decide)).2

set_option maxRecDepth 100000 in
set_option maxHeartbeats 4000000 in
/-- The end of CallOf, whatever was put together. -/
theorem callOf_in (b k : Nat) (w : World) (hs : Str w b k) (hk : k ≤ 10000000000) :
    Calls Tryz.prog 8 #[.pointer (some ⟨b, 0, none⟩)] w (CallOfPost b k w) := by
  go_enter Tryz.func8, Tryz.ntmps8
  go_wp2_with fail
  refine (some_at b k _ 9 9 callBases _ hs (by first | rfl | simp) (by omega) rfl (by decide) (by decide)).mono ?_
  rintro _ w1 ⟨v, hv, rfl, hs1, hg1⟩
  obtain ⟨hvs, hva⟩ := fewA_in (n := 6) (by decide) hv
  have HVA := Lib.hid hva
  clear hv hva
  go_wp2_with fail
  refine (next_in b _ _ _ hs1 (by omega) (by omega) (by omega)).mono ?_
  rintro _ w2 ⟨q, hq0, hq1, rfl, hs2, hg2⟩
  have hG2 := gr_trans hg1 hg2
  clear hg1 hg2 hs1
  by_cases q0 : q = 0
  · subst q0
    go_wp2_with fail
    refine (some_at b _ _ 6 6 callTails _ hs2 (by first | rfl | simp) (by omega) rfl (by decide) (by decide)).mono ?_
    rintro _ w3 ⟨u, hu, rfl, hs3, hg3⟩
    obtain ⟨hus, hua⟩ := fewA_in (n := 3) (by decide) hu
    have HUA := Lib.hid (HVA.out.app hua)
    have hG3 := gr_trans hG2 hg3
    have hsz : (v ++ u).size ≤ 9 := by simp; omega
    clear hu hua hg3 hs2
    go_wp2_with fail
    generalize v ++ u = t at *
    refine (flip_in b _ _ _ hs3 (by omega) (by omega) (by omega)).mono ?_
    rintro _ w4 ⟨fl, rfl, hs4, hg4⟩
    have hG4 := gr_trans hG3 hg4
    cases fl
    · go_wp2_with fail
      go_ret
      exact ⟨t, rfl, by omega, HUA.out, hs4.mono (by omega), hG4⟩
    · go_wp2_with fail
      refine (changed_in b _ t ⟨#[97, 48, 47, 107, 49, 45]⟩ _ hs4 (by omega) (by omega) (by decide) HUA.out (fewA_of (n := 6) (by decide)).2).mono ?_
      rintro _ w5 ⟨z, rfl, hz, hza, hs5, hg5⟩
      have hz2 : z.size ≤ 30 := by
        have : (⟨#[97, 48, 47, 107, 49, 45]⟩ : ByteArray).size = 6 := rfl
        omega
      have HZ := Lib.hid hza
      clear hza hz
      go_wp2_with fail
      go_ret
      exact ⟨z, rfl, hz2, HZ.out, hs5.mono (by omega), gr_trans hG4 hg5⟩
  by_cases q1 : q = 1
  · subst q1
    go_wp2_with fail
    refine (some_at b _ _ 4 4 callHeads _ hs2 (by first | rfl | simp) (by omega) rfl (by decide) (by decide)).mono ?_
    rintro _ w3 ⟨u, hu, rfl, hs3, hg3⟩
    obtain ⟨hus, hua⟩ := fewA_in (n := 3) (by decide) hu
    have HUA := Lib.hid ((hua.app slash_ascii).app HVA.out)
    have hG3 := gr_trans hG2 hg3
    have hsz : (u ++ ⟨#[47]⟩ ++ v).size ≤ 10 := by
      have h47 : (⟨#[47]⟩ : ByteArray).size = 1 := rfl
      simp; omega
    clear hu hua hg3 hs2
    go_wp2_with fail
    generalize u ++ ⟨#[47]⟩ ++ v = t at *
    refine (flip_in b _ _ _ hs3 (by omega) (by omega) (by omega)).mono ?_
    rintro _ w4 ⟨fl, rfl, hs4, hg4⟩
    have hG4 := gr_trans hG3 hg4
    cases fl
    · go_wp2_with fail
      go_ret
      exact ⟨t, rfl, by omega, HUA.out, hs4.mono (by omega), hG4⟩
    · go_wp2_with fail
      refine (changed_in b _ t ⟨#[97, 48, 47, 107, 49, 45]⟩ _ hs4 (by omega) (by omega) (by decide) HUA.out (fewA_of (n := 6) (by decide)).2).mono ?_
      rintro _ w5 ⟨z, rfl, hz, hza, hs5, hg5⟩
      have hz2 : z.size ≤ 30 := by
        have : (⟨#[97, 48, 47, 107, 49, 45]⟩ : ByteArray).size = 6 := rfl
        omega
      have HZ := Lib.hid hza
      clear hza hz
      go_wp2_with fail
      go_ret
      exact ⟨z, rfl, hz2, HZ.out, hs5.mono (by omega), gr_trans hG4 hg5⟩
  by_cases q2 : q = 2
  · subst q2
    go_wp2_with fail
    refine (some_at b _ _ 4 4 callEnds _ hs2 (by first | rfl | simp) (by omega) rfl (by decide) (by decide)).mono ?_
    rintro _ w3 ⟨u, hu, rfl, hs3, hg3⟩
    obtain ⟨hus, hua⟩ := fewA_in (n := 3) (by decide) hu
    have HUA := Lib.hid ((HVA.out.app slash_ascii).app hua)
    have hG3 := gr_trans hG2 hg3
    have hsz : (v ++ ⟨#[47]⟩ ++ u).size ≤ 10 := by
      have h47 : (⟨#[47]⟩ : ByteArray).size = 1 := rfl
      simp; omega
    clear hu hua hg3 hs2
    go_wp2_with fail
    generalize v ++ ⟨#[47]⟩ ++ u = t at *
    refine (flip_in b _ _ _ hs3 (by omega) (by omega) (by omega)).mono ?_
    rintro _ w4 ⟨fl, rfl, hs4, hg4⟩
    have hG4 := gr_trans hG3 hg4
    cases fl
    · go_wp2_with fail
      go_ret
      exact ⟨t, rfl, by omega, HUA.out, hs4.mono (by omega), hG4⟩
    · go_wp2_with fail
      refine (changed_in b _ t ⟨#[97, 48, 47, 107, 49, 45]⟩ _ hs4 (by omega) (by omega) (by decide) HUA.out (fewA_of (n := 6) (by decide)).2).mono ?_
      rintro _ w5 ⟨z, rfl, hz, hza, hs5, hg5⟩
      have hz2 : z.size ≤ 30 := by
        have : (⟨#[97, 48, 47, 107, 49, 45]⟩ : ByteArray).size = 6 := rfl
        omega
      have HZ := Lib.hid hza
      clear hza hz
      go_wp2_with fail
      go_ret
      exact ⟨z, rfl, hz2, HZ.out, hs5.mono (by omega), gr_trans hG4 hg5⟩
  · have hs3 := hs2
    have hG3 := hG2
    have HUA := HVA
    have hsz : v.size ≤ 10 := by omega
    clear hs2 hG2
    go_wp2_with fail
    generalize v = t at *
    refine (flip_in b _ _ _ hs3 (by omega) (by omega) (by omega)).mono ?_
    rintro _ w4 ⟨fl, rfl, hs4, hg4⟩
    have hG4 := gr_trans hG3 hg4
    cases fl
    · go_wp2_with fail
      go_ret
      exact ⟨t, rfl, by omega, HUA.out, hs4.mono (by omega), hG4⟩
    · go_wp2_with fail
      refine (changed_in b _ t ⟨#[97, 48, 47, 107, 49, 45]⟩ _ hs4 (by omega) (by omega) (by decide) HUA.out (fewA_of (n := 6) (by decide)).2).mono ?_
      rintro _ w5 ⟨z, rfl, hz, hza, hs5, hg5⟩
      have hz2 : z.size ≤ 30 := by
        have : (⟨#[97, 48, 47, 107, 49, 45]⟩ : ByteArray).size = 6 := rfl
        omega
      have HZ := Lib.hid hza
      clear hza hz
      go_wp2_with fail
      go_ret
      exact ⟨z, rfl, hz2, HZ.out, hs5.mono (by omega), gr_trans hG4 hg5⟩

def RightCallPost (b k : Nat) (w : World) (e : Ending) (w' : World) : Prop :=
  ∃ u : ByteArray, e = .returned (.string u) ∧ u.size ≤ 30 ∧ Ascii u ∧ (partsOf u).isSome = true ∧ Str w' b (k + 48) ∧ w.grownBy w' (some b)
theorem partsOf_k1ab : (partsOf ⟨#[107, 49, 97, 98]⟩).isSome = true := by decide +kernel
set_option maxRecDepth 100000 in
set_option maxHeartbeats 4000000 in
theorem rightCall_in (b k : Nat) (w : World) (hs : Str w b k) (hk : k ≤ 1000000000) :
    Calls Tryz.prog 25 #[.pointer (some ⟨b, 0, none⟩)] w (RightCallPost b k w) := by
  go_enter Tryz.func25, Tryz.ntmps25
  go_wp2_with fail
  go_loopw [4] (fun i wr => ∃ j : Nat, j ≤ 6 ∧ i = .int .i64 j ∧ Str wr b (k + 8 * j) ∧ w.grownBy wr (some b)) (fun i _ => 6 - (intOf i).toNat)
  case atStart => exact ⟨0, by omega, rfl, hs, gr_refl _ _⟩
  case round =>
    obtain ⟨j, hj, rfl, hsr, hgr⟩ := hrel
    by_cases hlt : j < 6
    · have hjl : (j : Int) < 6 := by omega
      go_wp2_with fail
      refine (callOf_in b _ _ hsr (by omega)).mono ?_
      rintro _ w1 ⟨u, rfl, hu, hua, hs1, hg1⟩
      have HUA := Lib.hid hua
      have hG1 := gr_trans hgr hg1
      clear hua hg1 hsr
      go_wp2_with fail
      refine (refIsCall_any u _ (by omega) HUA.out).mono ?_
      rintro _ w2 ⟨rfl, hg2⟩
      have hs2 := hs1.grown hg2 (by simp)
      have hG2 := gr_trans hG1 (gr_weak hg2 (some b))
      cases hP : (partsOf u).isSome with
      | true =>
        have HP := Lib.hid hP
        clear hP
        go_wp2_with fail
        go_ret
        exact ⟨u, rfl, hu, HUA.out, HP.out, hs2.mono (by omega), hG2⟩
      | false =>
        clear hP
        go_wp2_with fail
        go_roundw
        case rel => exact ⟨j + 1, by omega, by go_num, hs2.mono (by omega), hG2⟩
        case measure => simp [intOf]; omega
    · have hjl : ¬ (j : Int) < 6 := by omega
      go_wp2_with fail
      go_ret
      exact ⟨_, rfl, by decide, (fewA_of (n := 4) (by decide)).2, partsOf_k1ab, hsr.mono (by omega), hgr⟩
end Go.Proofs.YtlodmkdhlmineaaGreatDoor
