/- The walk over the law TopCallsAreKeyed: it answers true whatever numbers come in. Condition: asciiSpace is Go's own table, MaxLen holds a number. -/
import Derived.Test.YtlodmkdhlmineaaGreatDoorKeyedMarks
import Derived.Test.YtlodmkdhlmineaaGreatDoorWith
import Derived.Test.YtlodmkdhlmineaaGreatDoorFacts
import Derived.Test.YtlodmkdhlmineaaGreatDoorStart
import Derived.Test.YtlodmkdhlmineaaGreatDoorCallOf
import Derived.Test.YtlodmkdhlmineaaGreatDoorMistaken
import Derived.Test.YtlodmkdhlmineaaGreatDoorCallSaid
namespace Go.Proofs.YtlodmkdhlmineaaGreatDoor
open Go.RowKit
set_option linter.unusedVariables false
set_option linter.unusedSimpArgs false

theorem codeT_ascii : ∀ p ∈ codeT, p.1.toNat < 128 := by decide +kernel
theorem swapS_len (l : List UInt8) (k : Nat) (x : UInt8) (h : k < l.length) : (swapS l k x).size = l.length := by
  unfold swapS
  rw [strB_size, List.length_append, List.length_cons, List.length_take, List.length_drop]
  omega
theorem mist_good {s u : ByteArray} (ha : Ascii s) (h : u ∈ mistTo s.data.toList s.size) (hc : ∀ c ∈ s.data.toList, codeOf c ≠ []) : u.size = s.size ∧ Ascii u ∧ stepsL s.data.toList u.data.toList = 1 := by
  have hl : s.data.toList.length = s.size := by simp
  obtain ⟨k, x, hk, hx, rfl⟩ := mist_mem h
  have hkl : k < s.data.toList.length := by omega
  have hcc : codeOf (s.data.toList.getD k 0) ≠ [] := by
    rw [List.getD_eq_getElem?_getD, List.getElem?_eq_getElem hkl]
    exact hc _ (List.getElem_mem hkl)
  refine ⟨by rw [swapS_len _ _ _ hkl, hl], Ascii.of_mem fun c hm => ?_, mist_steps hkl hcc hx⟩
  have hm2 : c ∈ s.data.toList.take k ++ x :: s.data.toList.drop (k + 1) := hm
  rcases List.mem_append.1 hm2 with h1 | h1
  · exact ha.mem_ c (List.mem_of_mem_take h1)
  · rcases List.mem_cons.1 h1 with rfl | h1
    · obtain ⟨p, hp, rfl⟩ := List.mem_map.1 hx
      exact codeT_ascii p (List.mem_filter.1 hp).1
    · exact ha.mem_ c (List.mem_of_mem_drop h1)
theorem no_blank {l : List UInt8} (h : ∀ c ∈ l, c ≠ 32) : Lib.indexByte l 32 = -1 := by
  have h1 := Lib.indexByte_ge l 32
  rcases Int.lt_or_le (Lib.indexByte l 32) 0 with h2 | h2
  · omega
  · obtain ⟨i, hi⟩ := Int.eq_ofNat_of_zero_le h2
    have h3 := (Lib.indexByte_some hi).1
    exact absurd rfl (h 32 (List.mem_of_getElem? h3))
set_option maxRecDepth 100000 in
set_option maxHeartbeats 8000000 in
theorem topKeyed (A : Option Addr) (n c : Nat) (w : World) (hin : In w A n) (hgl : Gl w.heap.size w) :
    Calls Tryz.prog 4 #[.slice A n c] w fun r w' => r = .returned (.bool true) ∧ Below w.heap.size w w' := by
  have hs0 := Str.start (c := c) hin
  have HGL := Lib.hid hgl
  clear hin hgl
  go_enter Tryz.func4, Tryz.ntmps4
  go_wp2_with fail
  have hG0 := World.grownBy_alloc w (.cells #[.slice A n c, .int .i64 0] 25) none
  generalize w.alloc (.cells #[.slice A n c, .int .i64 0] 25) = W0 at *
  generalize hb : w.heap.size = b at *
  have HB := Lib.hid hb
  clear hb
  refine (rightCall_in b 0 _ hs0 (by decide)).mono ?_
  rintro _ w1 ⟨t, rfl, ht30, hta, hcall, hs1, hg1⟩
  have hG1 : w.grownBy w1 none := gr_grown hG0 hg1 (fun g e => by injection e with e; exact .inr (by have := HB.out; omega))
  have HTA := Lib.hid hta
  have HIS : Hid (isCall t = true) := hcall
  obtain ⟨hE, hch⟩ := call_said (s := t) hcall
  obtain ⟨hz14, hz0, _⟩ := call_signs (s := t) hcall
  have HCH := Lib.hid hch
  clear hs0 hG0 hg1 hta hcall hch
  go_wp2_with fail
  refine (pick_at b _ _ 3 3 [1, 60, 150] _ hs1 (by first | rfl | simp) (by decide) rfl (by decide) (by decide)).mono ?_
  rintro _ w2 ⟨u, hu, rfl, hs2, hg2⟩
  have hub : 1 ≤ u ∧ u ≤ 150 := by simp at hu; omega
  have hG2 : w.grownBy w2 none := gr_grown hG1 hg2 (fun g e => by injection e with e; exact .inr (by have := HB.out; omega))
  clear hs1 hs2 hG1 hg2 hu
  obtain ⟨e1, e2⟩ := keyE_ok hE (u := u) (sl := u) (by omega) (by omega) (by omega) (by omega)
  obtain ⟨m1, m2⟩ := keyed_marks hE (u := u) (by omega) (by omega)
  obtain ⟨h1, h2, h3⟩ := keyed_heard hE (u := u) (by omega)
  have hK := Lib.hid (fun W (h : Gl b W) => key_any b t u u W h (by omega))
  unfold KeyPost at hK
  rw [e1, e2] at hK
  obtain ⟨K, hKK⟩ : ∃ K, sL u u (codesOf t) = K := ⟨_, rfl⟩
  rw [hKK] at hK m1 m2 h1 h2
  have hEu : unitE K u = 0 := by unfold unitE; rw [if_pos m1]; exact spanE_no (by omega) (by omega)
  have HW : Hid ((⟨(withT K u).toArray⟩ : ByteArray) = t ∧ withO K u = 0 ∧ unitE K u = 0) := ⟨by unfold withT; rw [if_pos hEu, h1], by unfold withO; rw [if_pos hEu, h2], hEu⟩
  have HWI : Hid (∀ v W, IntsFrom w2.heap.size W v K → Gl b W → Calls Tryz.prog 27 #[v, .int .i64 u] W fun r w' => r = .returned (.tuple #[.string t, .int .i64 0, .int .i64 0]) ∧ W.grownBy w' none) := fun v W h hg => by
    have hh := with_any w2.heap.size b v K u W h hg
    rw [HW.out.1, HW.out.2.1, HW.out.2.2] at hh
    exact hh
  have HE := Lib.hid hE
  clear e1 e2 m1 h1 h2 hKK hEu h3 hE m2
  go_wp2_with fail
  refine (hK.out _ (HGL.out.quiet hG2)).mono ?_
  rintro _ w4 ⟨v, rfl, hv, _, hg4⟩
  have hG4 := gr_trans hG2 hg4
  have HWI2 := Lib.hid (HWI.out v w4 hv (HGL.out.quiet hG4))
  obtain ⟨vA, vc, rfl, _, _⟩ := IntsFrom.shape hv
  clear hv hG2 hg4
  go_wp2_with fail
  refine HWI2.out.mono ?_
  rintro _ w5 ⟨rfl, hg5⟩
  have hG5 := gr_trans hG4 hg5
  have hTT : (t.toList == t.toList) = true := by simp
  clear hG4 hg5 HWI2 HWI
  by_cases h10 : 10 < t.size
  · have h10i : (10 : Int) < (t.size : Int) := by omega
    go_wp2_with fail
    refine (facts_any b _ (HGL.out.quiet hG5)).mono ?_
    rintro _ w6 ⟨rfl, hg6⟩
    go_wp2_with fail
    go_ret
    exact ⟨rfl, gr_below (gr_trans hG5 hg6)⟩
  · have h10i : ¬ (10 : Int) < (t.size : Int) := by omega
    have HMI := Lib.hid (mistaken_ok b t w5 (HGL.out.quiet hG5) HE.out (by omega) (no_blank fun x hx => (HCH.out x hx).1))
    have hne : mistTo t.data.toList t.size ≠ [] := by
      have hl : t.data.toList.length = t.size := by simp
      have hkl : 0 < t.data.toList.length := by omega
      have h9 := HCH.out _ (List.getElem_mem hkl)
      refine mist_one hz0 ((oneOff_ok ?_).1 ?_)
      · rw [List.getD_eq_getElem?_getD, List.getElem?_eq_getElem hkl]; exact h9.2.1
      · rw [List.getD_eq_getElem?_getD, List.getElem?_eq_getElem hkl]; exact h9.2.2
    have HGOOD := Lib.hid (fun x (hx : x ∈ mistTo t.data.toList t.size) => mist_good HTA.out hx (fun c hc => (HCH.out c hc).2.1))
    generalize mistTo t.data.toList t.size = L at *
    go_wp2_with fail
    refine HMI.out.mono ?_
    rintro _ w6 ⟨v6, rfl, hv6, hg6⟩
    obtain ⟨A6, c6, rfl, hl6, hA6⟩ := hv6.shape
    have HV6 := Lib.hid hv6
    have HA6 := Lib.hid hA6
    have hG6 := gr_trans hG5 hg6
    have hLp : 0 < L.length := List.length_pos_iff.2 hne
    obtain ⟨M, hM⟩ : ∃ M, L.length = M := ⟨_, rfl⟩
    have HMM := Lib.hid hM
    rw [hM] at hl6 HA6 hLp HV6 ⊢
    have hz : ((M : Int) == 0) = false := by rw [beq_eq_false_iff_ne]; omega
    clear hv6 hA6 hG5 hg6 hM hne HMI
    go_wp2_with fail
    go_loopw [71] (fun i wr => ∃ k : Nat, k ≤ M ∧ i = .int .i64 k ∧ w6.grownBy wr none) (fun i _ => M - (intOf i).toNat)
    case atStart => exact ⟨0, by omega, rfl, gr_refl _ _⟩
    case round =>
      obtain ⟨k, hk, rfl, hgr⟩ := hrel
      by_cases hlt : k < M
      · have hki : (k : Int) < (M : Int) := by omega
        obtain ⟨g, rfl, _, _⟩ := HA6.out (by omega)
        have hkl : k < L.length := by rw [HMM.out]; exact hlt
        have hat : wr.cell? ⟨g, k, none⟩ = some (.string L[k]) := by
          have h := StrsFrom.grown (show StrsFrom w5.heap.size w6 (.slice (some ⟨g, 0, none⟩) L.length c6) L from by rw [HMM.out]; exact HV6.out) hgr
          exact h.at_ k hkl
        obtain ⟨q1, q2, q3⟩ := HGOOD.out L[k] (List.getElem_mem hkl)
        generalize L[k] = x at *
        have HIC := Lib.hid (isCall_any x wr (by omega) q2)
        have HDI := Lib.hid (fun W (h : isCall x = true) => distance_ok t x W (by omega) (by omega) HTA.out q2 HIS.out h)
        rw [q3] at HDI
        clear q1 q2 q3
        cases hic : isCall x
        · rw [hic] at HIC
          clear HDI hic
          go_wp2_with fail
          refine HIC.out.mono ?_
          rintro _ w7 ⟨rfl, hg7⟩
          go_wp2_with fail
          go_roundw
          case rel => exact ⟨k + 1, by omega, by go_num, gr_trans hgr hg7⟩
          case measure => simp [intOf]; omega
        · rw [hic] at HIC
          have HD := Lib.hid (fun W => HDI.out W hic)
          clear HDI hic
          go_wp2_with fail
          refine HIC.out.mono ?_
          rintro _ w7 ⟨rfl, hg7⟩
          go_wp2_with fail
          refine (HD.out _).mono ?_
          rintro _ w8 ⟨rfl, hg8⟩
          go_wp2_with fail
          go_roundw
          case rel => exact ⟨k + 1, by omega, by go_num, gr_trans (gr_trans hgr hg7) hg8⟩
          case measure => simp [intOf]; omega
      · have hki : ¬ (k : Int) < (M : Int) := by omega
        have hG9 := gr_trans hG6 hgr
        go_wp2_with fail
        refine (facts_any b _ (HGL.out.quiet hG9)).mono ?_
        rintro _ w9 ⟨rfl, hg9⟩
        go_wp2_with fail
        go_ret
        exact ⟨rfl, gr_below (gr_trans hG9 hg9)⟩
end Go.Proofs.YtlodmkdhlmineaaGreatDoor
