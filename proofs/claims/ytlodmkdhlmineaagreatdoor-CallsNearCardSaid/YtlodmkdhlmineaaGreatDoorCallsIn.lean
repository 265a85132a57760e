/- The walks over call.Distance and call.Near at all arguments, and over the stream's CallList and PatternOf. Condition: strings of ASCII of at most 100 bytes, at most 1000 of them; the stream has handed out at most 10^9 numbers. -/
import Derived.Test.YtlodmkdhlmineaaGreatDoorCallRef
import Derived.Test.YtlodmkdhlmineaaGreatDoorCallOf
namespace Go.Proofs.YtlodmkdhlmineaaGreatDoor
open Go.RowKit
set_option linter.unusedVariables false
set_option linter.unusedSimpArgs false

def disE (a b : ByteArray) : Int := if callE a = 0 then callE b else callE a
def disV (a b : ByteArray) : Int := if disE a b = 0 then (stepsL a.data.toList b.data.toList : Nat) else 0
set_option maxHeartbeats 1000000 in
theorem distance_any (a b : ByteArray) (w : World) (ha : a.size ≤ 100) (hb : b.size ≤ 100) (xa : Ascii a) (xb : Ascii b) :
    Calls Tryz.prog 12 #[.string a, .string b] w fun e w' => e = .returned (.tuple #[.int .i64 (disV a b), .int .i64 (disE a b)]) ∧ w.grownBy w' none := by
  have H1 := Lib.hid (fun W => isCall_any a W (by omega) xa)
  have H2 := Lib.hid (fun W => isCall_any b W (by omega) xb)
  have H3 := Lib.hid (fun W ia ib => distance_ok a b W ha hb xa xb ia ib)
  cases ia : isCall a
  · have hE : disE a b = 3 := by unfold disE; rw [callE_3 ia]; rfl
    have hV : disV a b = 0 := by unfold disV; rw [hE]; rfl
    rw [hE, hV]
    rw [ia] at H1
    clear ia hE hV H3
    go_enter Tryz.func12, Tryz.ntmps12
    go_wp2_with fail
    refine (H1.out _).mono ?_
    rintro _ w1 ⟨rfl, hg1⟩
    go_wp2_with fail
    go_ret2
    exact ⟨rfl, hg1⟩
  · cases ib : isCall b
    · have hE : disE a b = 3 := by unfold disE; rw [callE_0 ia, callE_3 ib]; rfl
      have hV : disV a b = 0 := by unfold disV; rw [hE]; rfl
      rw [hE, hV]
      rw [ia] at H1
      rw [ib] at H2
      clear ia ib hE hV H3
      go_enter Tryz.func12, Tryz.ntmps12
      go_wp2_with fail
      refine (H1.out _).mono ?_
      rintro _ w1 ⟨rfl, hg1⟩
      go_wp2_with fail
      refine (H2.out _).mono ?_
      rintro _ w2 ⟨rfl, hg2⟩
      go_wp2_with fail
      go_ret2
      exact ⟨rfl, gr_trans hg1 hg2⟩
    · have hE : disE a b = 0 := by unfold disE; rw [callE_0 ia, callE_0 ib]; rfl
      have hV : disV a b = (stepsL a.data.toList b.data.toList : Nat) := by unfold disV; rw [if_pos hE]
      rw [hE, hV]
      exact H3.out w ia ib
/-- The fault of call.Near, and its calls. -/
def neaE (s : ByteArray) (L : List ByteArray) (m : Int) : Int := orL [callE s, callsE L, spanE m 0 14]
def neaL (s : ByteArray) (L : List ByteArray) (m : Int) : List ByteArray := if neaE s L m = 0 then flatTo (inB s L) (m.toNat + 1) else []
theorem allC_mem {L : List ByteArray} (h : allC L = true) : ∀ x ∈ L, isCall x = true := by
  unfold allC at h
  exact List.all_eq_true.1 h
theorem callsE_0 {L : List ByteArray} : callsE L = 0 ↔ allC L = true := by
  unfold callsE
  by_cases h : allC L = true
  · rw [if_pos h]; simp [h]
  · rw [if_neg h]; simp [h]
set_option maxRecDepth 100000 in
set_option maxHeartbeats 2000000 in
theorem near_any (base : Nat) (s : ByteArray) (v : Value) (L : List ByteArray) (m : Int) (w : World) (hl : StrsFrom base w v L) (hn : SmallS L) (hs : s.size ≤ 100) (ha : Ascii s) (hm0 : -1000 ≤ m) (hm1 : m ≤ 1000) :
    Calls Tryz.prog 13 #[.string s, v, .int .i64 m] w fun e w' => ∃ u, e = .returned (.tuple #[u, .int .i64 (neaE s L m)]) ∧ StrsFrom w.heap.size w' u (neaL s L m) ∧ w.grownBy w' none := by
  have HI := Lib.hid (isCall_any s w (by omega) ha)
  have HCK := Lib.hid (fun W (h : StrsFrom base W v L) => checkCalls_any base v L W h hn)
  have HL := Lib.hid hl
  have HBAD : Hid (neaE s L m ≠ 0 → ∀ W, StrsFrom w.heap.size W (.slice none 0 0) (neaL s L m)) := fun h W => by unfold neaL; rw [if_neg h]; exact StrsFrom.nil _ _
  have HP : Hid (∀ (e : Ending) (w' : World) (u : Value), e = .returned (.tuple #[u, .int .i64 (neaE s L m)]) → StrsFrom w.heap.size w' u (neaL s L m) → w.grownBy w' none → ∃ u, e = .returned (.tuple #[u, .int .i64 (neaE s L m)]) ∧ StrsFrom w.heap.size w' u (neaL s L m) ∧ w.grownBy w' none) := fun e w' u h1 h2 h3 => ⟨u, h1, h2, h3⟩
  cases ic : isCall s
  · have hE : neaE s L m = 3 := by unfold neaE; rw [orL_cons, callE_3 ic]; rfl
    have HB := Lib.hid (HBAD.out (by rw [hE]; decide))
    have HE := Lib.hid hE
    rw [ic] at HI
    clear ic hE HBAD HCK hl
    go_enter Tryz.func13, Tryz.ntmps13
    go_wp2_with fail
    refine HI.out.mono ?_
    rintro _ w1 ⟨rfl, hg1⟩
    go_wp2_with fail
    go_ret2
    exact HP.out _ _ _ (by rw [HE.out] <;> rfl) (HB.out _) hg1
  · by_cases hc : callsE L = 0
    · rw [hc] at HCK
      by_cases hsp : 0 ≤ m ∧ m ≤ 14
      · obtain ⟨M, rfl⟩ := Int.eq_ofNat_of_zero_le hsp.1
        have hE : neaE s L M = 0 := by unfold neaE; rw [orL_cons, if_pos (callE_0 ic), orL_cons, if_pos hc, orL1]; exact spanE_no (by omega) (by omega)
        have hV : neaL s L M = flatTo (inB s L) (M + 1) := by unfold neaL; rw [if_pos hE]; rfl
        rw [hE, hV]
        have hcs := allC_mem (callsE_0.1 hc)
        exact near_ok base s v L M w hl hn.1 hs ha ic (fun x hx => ⟨(hn.2 x hx).1, (hn.2 x hx).2, hcs x hx⟩) (by omega)
      · have hE : neaE s L m = 1 := by unfold neaE; rw [orL_cons, if_pos (callE_0 ic), orL_cons, if_pos hc, orL1]; exact spanE_yes (by omega)
        have HB := Lib.hid (HBAD.out (by rw [hE]; decide))
        have HE := Lib.hid hE
        rw [ic] at HI
        have hsp' : m < 0 ∨ 14 < m := by omega
        clear ic hE HBAD hl hc hsp
        rcases hsp' with h | h
        all_goals
          go_enter Tryz.func13, Tryz.ntmps13
          go_wp2_with fail
          refine HI.out.mono ?_
          rintro _ w1 ⟨rfl, hg1⟩
          go_wp2_with fail
          refine (HCK.out _ (HL.out.grown hg1)).mono ?_
          rintro _ w2 ⟨rfl, hg2⟩
          go_wp2_with fail
          go_ret2
          exact HP.out _ _ _ (by rw [HE.out] <;> rfl) (HB.out _) (gr_trans hg1 hg2)
    · have hE : neaE s L m = callsE L := by unfold neaE; rw [orL_cons, if_pos (callE_0 ic), orL_cons, if_neg hc]
      have HB := Lib.hid (HBAD.out (by rw [hE]; exact hc))
      have HE := Lib.hid hE
      rw [ic] at HI
      have hne : (callsE L != 0) = true := by rw [bne_iff_ne]; exact hc
      clear ic hE HBAD hl hc
      generalize callsE L = C at *
      go_enter Tryz.func13, Tryz.ntmps13
      go_wp2_with fail
      refine HI.out.mono ?_
      rintro _ w1 ⟨rfl, hg1⟩
      go_wp2_with fail
      refine (HCK.out _ (HL.out.grown hg1)).mono ?_
      rintro _ w2 ⟨rfl, hg2⟩
      go_wp2_with fail
      go_ret2
      exact HP.out _ _ _ (by rw [HE.out] <;> rfl) (HB.out _) (gr_trans hg1 hg2)
def SmallL (L : List ByteArray) : Prop := ∀ x ∈ L, x.size ≤ 30 ∧ Ascii x
def CallListPost (b k : Nat) (w : World) (e : Ending) (w' : World) : Prop := ∃ v L, e = .returned v ∧ StrsFrom w.heap.size w' v L ∧ L.length ≤ 9 ∧ SmallL L ∧ Str w' b (k + 500) ∧ w.grownBy w' (some b)
set_option maxRecDepth 100000 in
set_option maxHeartbeats 4000000 in
theorem callList_in (b k : Nat) (w : World) (hs : Str w b k) (hk : k ≤ 100000000) :
    Calls Tryz.prog 9 #[.pointer (some ⟨b, 0, none⟩), .int .i64 8] w (CallListPost b k w) := by
  obtain ⟨i0, hi0, hz0, hz1, hz2⟩ := info_parts strInfo
  have hbl := hs.lt
  go_enter Tryz.func9, Tryz.ntmps9
  go_wp2_with fail
  refine (range_in b k 0 8 _ hs (by omega) (by decide) (by decide) (by decide)).mono ?_
  rintro _ w1 ⟨mz, hm0, hm8, rfl, hs1, hg1⟩
  obtain ⟨M, rfl⟩ := Int.eq_ofNat_of_zero_le hm0
  go_wp2_with fail
  go_loopw [5, 9] (fun o i wr => ∃ L : List ByteArray, L.length ≤ M ∧ i = .int .i64 (L.length : Nat) ∧ Hid (SmallL L) ∧ Hid (StrsFrom w.heap.size wr o L) ∧ Str wr b (k + 1 + 48 * L.length) ∧ w.grownBy wr (some b)) (fun _ i _ => M - (intOf i).toNat)
  case atStart => exact ⟨[], Nat.zero_le _, rfl, (fun x hx => nomatch hx), StrsFrom.nil _ _, hs1, hg1⟩
  case round =>
    obtain ⟨L, hj, rfl, HSM, HO, hsj, hgr⟩ := hrel
    clear hs hs1 hg1
    rename World => wx
    obtain ⟨A2, c2, rfl, hk9, hsh⟩ := HO.out.shape
    clear hsh
    by_cases hlt : L.length < M
    · have hji : (L.length : Int) < (M : Int) := by omega
      go_wp2_with fail
      refine (rightCall_in b _ _ hsj (by omega)).mono ?_
      rintro _ w3 ⟨t, rfl, ht30, hta, _, hs3, hg3⟩
      have hG3 := gr_trans hgr hg3
      have hsz3 := hG3.size
      have hown : w3.ownsRow w.heap.size 9 1 (.slice A2 L.length c2) L.length (L.map Value.string) := ownsRow_other HO.out hg3 hbl
      have hrow : ∀ g, (Value.slice A2 L.length c2).ownBlock = some g → w.heap.size ≤ g := fun g e => (hown.lt g e).1
      have HROW := Lib.hid hrow
      have HSM2 : Hid (SmallL (L ++ [t])) := fun x hx => by
        rcases List.mem_append.1 hx with h | h
        · exact HSM.out x h
        · rw [List.mem_singleton.1 h]; exact ⟨ht30, hta⟩
      clear hrow hgr hsj hta ht30
      go_wp2_with (at_builtin; refine wpList_append_own _ rfl _ _ 27 rfl w.heap.size 9 i0 _ 1 16 Tryz.underlying27 hi0 hz0 hz1 hz2 rfl (by decide) _ _ _ rfl (hown.alloc _) ⟨w3.heap.size, 0, none⟩ 1 1 [.string t] rfl rfl (cells_new _ _ _) (str_one _) (by unfold maxLen; omega) (by omega) (by simp; omega) ?_; intro v' w7 hownB hgrB _)
      have hG7 : w.grownBy w7 (some b) := gr_grown (gr_alloc hG3 _) hgrB (fun g e => .inr (HROW.out g e))
      have hs7 : Str w7 b (k + 1 + 48 * L.length + 48) := (hs3.alloc _).grown hgrB (fun g e => by have := HROW.out g e; omega)
      have hO : Hid (StrsFrom w.heap.size w7 v' (L ++ [t])) := by
        show StrsFrom _ _ _ _
        unfold StrsFrom
        rw [List.map_append, List.length_append]; exact hownB
      clear hown hgrB hownB hs3
      go_wp2_with fail
      go_roundw
      case rel => exact ⟨L ++ [t], by simp; omega, by rw [List.length_append]; go_num, HSM2, hO, hs7.mono (by rw [List.length_append]; simp; omega), hG7⟩
      case measure => simp [intOf]; omega
    · have hji : ¬ (L.length : Int) < (M : Int) := by omega
      have hM8 : M ≤ 8 := by omega
      go_wp2_with fail
      refine (flip_in b _ 20 _ hsj (by omega) (by decide) (by decide)).mono ?_
      rintro _ w3 ⟨fl, rfl, hs3, hg3⟩
      have hG3 := gr_trans hgr hg3
      have hown : w3.ownsRow w.heap.size 9 1 (.slice A2 L.length c2) L.length (L.map Value.string) := ownsRow_other HO.out hg3 hbl
      have hO3 : Hid (StrsFrom w.heap.size w3 (.slice A2 L.length c2) L) := hown
      clear hgr hsj
      cases fl
      · clear hown
        go_wp2_with fail
        go_ret
        exact ⟨_, L, rfl, hO3.out, by omega, HSM.out, hs3.mono (by omega), hG3⟩
      · go_wp2_with fail
        refine (callOf_in b _ _ hs3 (by omega)).mono ?_
        rintro _ w4 ⟨t, rfl, ht30, hta, hs4, hg4⟩
        have hG4 := gr_trans hG3 hg4
        have hsz4 := hG4.size
        have hown4 : w4.ownsRow w.heap.size 9 1 (.slice A2 L.length c2) L.length (L.map Value.string) := ownsRow_other hown hg4 hbl
        have hrow : ∀ g, (Value.slice A2 L.length c2).ownBlock = some g → w.heap.size ≤ g := fun g e => (hown4.lt g e).1
        have HROW := Lib.hid hrow
        have HSM2 : Hid (SmallL (L ++ [t])) := fun x hx => by
          rcases List.mem_append.1 hx with h | h
          · exact HSM.out x h
          · rw [List.mem_singleton.1 h]; exact ⟨ht30, hta⟩
        clear hrow hs3 hta ht30 hown hG3
        go_wp2_with (at_builtin; refine wpList_append_own _ rfl _ _ 27 rfl w.heap.size 9 i0 _ 1 16 Tryz.underlying27 hi0 hz0 hz1 hz2 rfl (by decide) _ _ _ rfl (hown4.alloc _) ⟨w4.heap.size, 0, none⟩ 1 1 [.string t] rfl rfl (cells_new _ _ _) (str_one _) (by unfold maxLen; omega) (by omega) (by simp; omega) ?_; intro v' w7 hownB hgrB _)
        have hG7 : w.grownBy w7 (some b) := gr_grown (gr_alloc hG4 _) hgrB (fun g e => .inr (HROW.out g e))
        have hs7 := (hs4.alloc (.cells #[.string t] 9)).grown hgrB (fun g e => by have := HROW.out g e; omega)
        have hO : Hid (StrsFrom w.heap.size w7 v' (L ++ [t])) := by
          show StrsFrom _ _ _ _
          unfold StrsFrom
          rw [List.map_append, List.length_append]; exact hownB
        clear hown4 hgrB hownB hs4
        go_wp2_with fail
        go_ret
        exact ⟨_, L ++ [t], rfl, hO.out, by simp; omega, HSM2.out, hs7.mono (by omega), hG7⟩
def PatternPost (b k : Nat) (w : World) (e : Ending) (w' : World) : Prop := ∃ p : ByteArray, e = .returned (.string p) ∧ p.size ≤ 100 ∧ Str w' b (k + 100) ∧ w.grownBy w' (some b)
set_option maxRecDepth 100000 in
set_option maxHeartbeats 4000000 in
theorem patternOf_in (b k : Nat) (w : World) (hs : Str w b k) (hk : k ≤ 100000000) :
    Calls Tryz.prog 11 #[.pointer (some ⟨b, 0, none⟩)] w (PatternPost b k w) := by
  obtain ⟨q15, hq15⟩ : ∃ q : ByteArray, (⟨(Lib.repeatL (⟨#[63]⟩ : ByteArray).data.toList 15).toArray⟩ : ByteArray) = q := ⟨_, rfl⟩
  have hqz : q15.size = 15 := by rw [← hq15]; decide +kernel
  have HREP : Hid (∀ W, Calls Tryz.prog 56 #[.string ⟨#[63]⟩, .int .i64 15] W fun e w' => e = .returned (.string q15) ∧ W.grownBy w' none) := fun W => (Tryz.strings_Repeat ⟨#[63]⟩ 15 W (by decide) (by decide)).mono fun e w' ⟨he, hw⟩ => ⟨by rw [he, ← hq15], gr_of_below hw⟩
  clear hq15
  go_enter Tryz.func11, Tryz.ntmps11
  go_wp2_with fail
  refine (rightCall_in b _ _ hs (by omega)).mono ?_
  rintro _ w1 ⟨t, rfl, ht30, hta, _, hs1, hg1⟩
  have HT := Lib.hid hta
  clear hs hta
  go_wp2_with fail
  refine (range_in b _ 0 2 _ hs1 (by omega) (by decide) (by decide) (by decide)).mono ?_
  rintro _ w2 ⟨mz, hm0, hm2, rfl, hs2, hg2⟩
  obtain ⟨M, rfl⟩ := Int.eq_ofNat_of_zero_le hm0
  have hG2 := gr_trans hg1 hg2
  clear hs1 hg1 hg2
  go_wp2_with fail
  go_loopw [3, 8] (fun o i wr => ∃ (j : Nat) (p : ByteArray), j ≤ M ∧ i = .int .i64 j ∧ o = .string p ∧ p.size ≤ 30 + 5 * j ∧ Hid (Ascii p) ∧ Str wr b (k + 49 + 3 * j) ∧ w.grownBy wr (some b)) (fun _ i _ => M - (intOf i).toNat)
  case atStart => exact ⟨0, t, by omega, rfl, rfl, by omega, HT, hs2.mono (by omega), hG2⟩
  case round =>
    obtain ⟨j, p, hj, rfl, rfl, hp, HA, hsj, hgr⟩ := hrel
    clear hs2 hG2
    by_cases hlt : j < M
    · have hji : (j : Int) < (M : Int) := by omega
      go_wp2_with fail
      refine (changed_in b _ p ⟨#[63, 42, 63, 42, 97]⟩ _ hsj (by omega) (by omega) (by decide) HA.out (fewA_of (n := 5) (by decide)).2).mono ?_
      rintro _ w3 ⟨z, rfl, hz, hza, hs3, hg3⟩
      have hz2 : z.size ≤ 30 + 5 * (j + 1) := by
        have : (⟨#[63, 42, 63, 42, 97]⟩ : ByteArray).size = 5 := rfl
        omega
      have HZ := Lib.hid hza
      have hG3 := gr_trans hgr hg3
      clear hza hsj hgr
      go_wp2_with fail
      go_roundw
      case rel => exact ⟨j + 1, z, by omega, by go_num, rfl, hz2, HZ, hs3.mono (by omega), hG3⟩
      case measure => simp [intOf]; omega
    · have hji : ¬ (j : Int) < (M : Int) := by omega
      go_wp2_with fail
      refine (flip_in b _ 20 _ hsj (by omega) (by decide) (by decide)).mono ?_
      rintro _ w3 ⟨fl, rfl, hs3, hg3⟩
      have hG3 := gr_trans hgr hg3
      clear hgr hsj
      cases fl
      · go_wp2_with fail
        go_ret
        exact ⟨p, rfl, by omega, hs3.mono (by omega), hG3⟩
      · go_wp2_with fail
        refine (HREP.out _).mono ?_
        rintro _ w4 ⟨rfl, hg4⟩
        have hs4 := hs3.grown hg4 (by simp)
        have hG4 := gr_trans hG3 (gr_weak hg4 _)
        clear hs3
        go_wp2_with fail
        refine (some_at b _ _ 3 3 [⟨#[]⟩, ⟨#[65]⟩, q15] _ hs4 (by first | rfl | simp) (by omega) rfl (by decide) (by decide)).mono ?_
        rintro _ w5 ⟨u, hu, rfl, hs5, hg5⟩
        have huz : u.size ≤ 100 := by
          simp only [List.mem_cons, List.not_mem_nil, or_false] at hu
          rcases hu with rfl | rfl | rfl
          · decide
          · decide
          · omega
        clear hu
        go_wp2_with fail
        go_ret
        exact ⟨u, rfl, huz, hs5.mono (by omega), gr_trans hG4 hg5⟩
end Go.Proofs.YtlodmkdhlmineaaGreatDoor
