/- The walk over the law CallsNear: it answers true whatever numbers come in. No condition. -/
import Derived.Test.YtlodmkdhlmineaaGreatDoorCallsIn
import Derived.Test.YtlodmkdhlmineaaGreatDoorGuessed
import Derived.Test.YtlodmkdhlmineaaGreatDoorStepsBtw
import Derived.Test.YtlodmkdhlmineaaGreatDoorCallSaid
import Derived.Test.YtlodmkdhlmineaaGreatDoorStreamA
import Derived.Deep.DeepCutAuto
namespace Go.Proofs.YtlodmkdhlmineaaGreatDoor
open Go.RowKit
set_option linter.unusedVariables false
set_option linter.unusedSimpArgs false

set_option maxHeartbeats 2000000 in
theorem equalStrs_n (b1 b2 : Nat) (u v : Value) (l : List ByteArray) (w : World) (hu : StrsFrom b1 w u l) (hv : StrsFrom b2 w v l) :
    Calls Tryz.prog 23 #[u, v] w fun r w' => r = .returned (.bool true) ∧ w.grownBy w' none := by
  obtain ⟨A, ca, rfl, ha, hA⟩ := hu.shape
  obtain ⟨B, cb, rfl, hb, hB⟩ := hv.shape
  have HU := Lib.hid hu
  have HV := Lib.hid hv
  have HA := Lib.hid hA
  have HB := Lib.hid hB
  clear hu hv hA hB
  go_enter Tryz.func23, Tryz.ntmps23
  go_wp2_with fail
  go_loopw [13] (fun i wr => ∃ k : Nat, k ≤ l.length ∧ i = .int .i64 k ∧ w.grownBy wr none) (fun i _ => l.length - (intOf i).toNat)
  case atStart => exact ⟨0, by omega, rfl, gr_refl _ _⟩
  case round =>
    obtain ⟨k, hk, rfl, hgr⟩ := hrel
    by_cases hlt : k < l.length
    · obtain ⟨ga, rfl, _, _⟩ := HA.out (by omega)
      obtain ⟨gb, rfl, _, _⟩ := HB.out (by omega)
      have a0 := (HU.out.grown hgr).at_ k hlt
      have b0 := (HV.out.grown hgr).at_ k hlt
      generalize l[k] = x at *
      have hkl : (k : Int) < (l.length : Int) := by omega
      go_wp2_with fail
      go_quiet (fail)
      go_wp2_with fail
      go_roundw
      case rel => exact ⟨k + 1, by omega, by go_num, by repeat (first | exact hgr | refine gr_drewN ?_ _ | refine gr_drew ?_)⟩
      case measure => simp [intOf]; omega
    · have hkl : ¬ ((k : Int) < l.length) := by omega
      go_wp2_with fail
      go_ret
      exact ⟨rfl, hgr⟩
theorem apart_oh2n (w : World) : Calls Tryz.prog 69 #[.string ⟨#[111, 104, 50, 97, 98, 99, 47, 52]⟩] w fun e w' =>
    e = .returned (.tuple #[.agg #[.string ⟨#[111, 104, 50, 97, 98, 99]⟩, .string ⟨#[111, 104, 50]⟩, .string ⟨#[97, 98, 99]⟩, .int .i64 2, .string ⟨#[52]⟩], .int .i64 0]) ∧ w.grownBy w' none := by
  refine (apart_any _ w (by decide) ?_).mono ?_
  · intro j b h
    have hm := List.mem_of_getElem? h
    have hall : ∀ b ∈ (⟨#[111, 104, 50, 97, 98, 99, 47, 52]⟩ : ByteArray).data.toList, b.toNat < 128 := by decide +kernel
    exact hall b hm
  · rintro e w' ⟨hg, h⟩
    refine ⟨?_, hg⟩
    rcases h with ⟨h, _⟩ | ⟨t, k, kd, ad, h, rfl⟩
    · rw [partsOf_ready] at h; cases h
    · rw [partsOf_ready] at h
      simp only [Option.some.injEq, Prod.mk.injEq] at h
      obtain ⟨rfl, rfl, rfl, rfl⟩ := h
      rfl
set_option maxRecDepth 100000 in
set_option maxHeartbeats 2000000 in
theorem called_n (w : World) :
    Calls Tryz.prog 24 #[] w fun e w' => e = .returned (.bool true) ∧ w.grownBy w' none := by
  go_enter Tryz.func24, Tryz.ntmps24
  go_wp2_with fail
  refine (apart_oh2n _).mono ?_
  rintro _ w1 ⟨rfl, hg⟩
  go_wp2_with fail
  go_ret
  exact ⟨rfl, gr_alloc hg _⟩
theorem disV_all {a b : ByteArray} (h : disE a b = 0) : isCall a = true ∧ isCall b = true := by
  unfold disE at h
  cases ia : isCall a
  · rw [callE_3 ia] at h; simp at h
  · rw [callE_0 ia] at h
    simp only [if_true] at h
    cases ib : isCall b
    · rw [callE_3 ib] at h; cases h
    · exact ⟨rfl, rfl⟩
theorem neaE_all {s : ByteArray} {L : List ByteArray} {m : Int} (h : neaE s L m = 0) : isCall s = true ∧ allC L = true ∧ 0 ≤ m ∧ m ≤ 14 := by
  unfold neaE at h
  cases ia : isCall s
  · rw [orL_cons, callE_3 ia] at h; simp at h
  · rw [orL_cons, if_pos (callE_0 ia), orL_cons] at h
    by_cases hc : callsE L = 0
    · rw [if_pos hc, orL1] at h
      refine ⟨rfl, callsE_0.1 hc, ?_⟩
      by_cases hm : 0 ≤ m ∧ m ≤ 14
      · exact hm
      · rw [spanE_yes (by omega)] at h; cases h
    · rw [if_neg hc] at h; exact absurd h hc
set_option maxRecDepth 100000 in
set_option maxHeartbeats 8000000 in
theorem callsNear (A : Option Addr) (n c : Nat) (w : World) (hin : In w A n) :
    Calls Tryz.prog 3 #[.slice A n c] w fun r w' => r = .returned (.bool true) ∧ Below w.heap.size w w' := by
  have hs0 := Str.start (c := c) hin
  clear hin
  go_enter Tryz.func3, Tryz.ntmps3
  go_wp2_with fail
  have hG0 := World.grownBy_alloc w (.cells #[.slice A n c, .int .i64 0] 25) none
  generalize w.alloc (.cells #[.slice A n c, .int .i64 0] 25) = W0 at *
  obtain ⟨b, hb⟩ : ∃ b, w.heap.size = b := ⟨_, rfl⟩
  rw [hb] at hs0 ⊢
  have HB := Lib.hid hb
  clear hb
  refine (callOf_in b 0 _ hs0 (by decide)).mono ?_
  rintro _ w1 ⟨s, rfl, hs30, hsa, hs1, hg1⟩
  have hG1 : w.grownBy w1 none := gr_grown hG0 hg1 (fun g e => by injection e with e; exact .inr (by have := HB.out; omega))
  clear hs0 hG0 hg1
  go_wp2_with fail
  refine (callOf_in b _ _ hs1 (by decide)).mono ?_
  rintro _ w2 ⟨t, rfl, ht30, hta, hs2, hg2⟩
  have hG2 : w.grownBy w2 none := gr_grown hG1 hg2 (fun g e => by injection e with e; exact .inr (by have := HB.out; omega))
  clear hs1 hG1 hg2
  go_wp2_with fail
  refine (callList_in b _ _ hs2 (by decide)).mono ?_
  rintro _ w3 ⟨v, L, rfl, hv, hL9, hLs, hs3, hg3⟩
  have hG3 : w.grownBy w3 none := gr_grown hG2 hg3 (fun g e => by injection e with e; exact .inr (by have := HB.out; omega))
  have HS : Hid (s.size ≤ 30 ∧ Ascii s ∧ t.size ≤ 30 ∧ Ascii t) := ⟨hs30, hsa, ht30, hta⟩
  have HLS : Hid (SmallS L) := ⟨by omega, fun x hx => ⟨by have := (hLs x hx).1; omega, (hLs x hx).2⟩⟩
  obtain ⟨B0, hB0⟩ : ∃ B0, w2.heap.size = B0 := ⟨_, rfl⟩
  rw [hB0] at hv
  have hbB : b < B0 := by rw [← hB0]; exact hs2.lt
  have HV3 := Lib.hid hv
  clear hs2 hG2 hg3 hs30 hsa ht30 hta hL9 hLs hB0 hv
  go_wp2_with fail
  refine (pick_at b _ _ 7 7 [0, 1, 2, 3, 14, -1, 15] _ hs3 (by first | rfl | simp) (by decide) rfl (by decide) (by decide)).mono ?_
  rintro _ w4 ⟨m, hm, rfl, hs4, hg4⟩
  have hmb : -1 ≤ m ∧ m ≤ 15 := by simp at hm; omega
  have HV4 : Hid (StrsFrom B0 w4 v L) := HV3.out.other hg4 hbB
  have hG4 : w.grownBy w4 none := gr_grown hG3 hg4 (fun g e => by injection e with e; exact .inr (by have := HB.out; omega))
  clear hs3 hG3 hg4 hm HV3
  go_wp2_with fail
  refine (patternOf_in b _ _ hs4 (by decide)).mono ?_
  rintro _ w5 ⟨p, rfl, hp, hs5, hg5⟩
  have HV5 : Hid (StrsFrom B0 w5 v L) := HV4.out.other hg5 hbB
  have hG5 : w.grownBy w5 none := gr_grown hG4 hg5 (fun g e => by injection e with e; exact .inr (by have := HB.out; omega))
  have HP := Lib.hid hp
  clear hs4 hs5 hG4 hg5 HV4 hp
  have HDI := Lib.hid (fun W => distance_any s t W (by have := HS.out.1; omega) (by have := HS.out.2.2.1; omega) HS.out.2.1 HS.out.2.2.2)
  have HNE := Lib.hid (fun W (h : StrsFrom B0 W v L) => near_any B0 s v L m W h HLS.out (by have := HS.out.1; omega) HS.out.2.1 (by omega) (by omega))
  have HGU := Lib.hid (fun W (h : StrsFrom B0 W v L) => guess_any B0 p v L W h HLS.out HP.out)
  have HCFs := Lib.hid (fun W => callFault_any s W (by have := HS.out.1; omega) HS.out.2.1)
  have HCFt := Lib.hid (fun W => callFault_any t W (by have := HS.out.2.2.1; omega) HS.out.2.2.2)
  have HCL := Lib.hid (fun W (h : StrsFrom B0 W v L) => callsFault_any B0 v L W h HLS.out)
  have HSPF := Lib.hid (fun W => spanFault_any m 0 14 W)
  have HPF := Lib.hid (fun W => patFault_any p W HP.out)
  have HBT : Hid (disE s t = 0 → ∀ W, Calls Tryz.prog 20 #[.string s, .string t] W fun e w' => e = .returned (.int .i64 (disV s t)) ∧ W.grownBy w' none) := fun h W => by
    obtain ⟨q1, q2⟩ := disV_all h
    have e : disV s t = (stepsL s.data.toList t.data.toList : Nat) := by unfold disV; rw [if_pos h]
    rw [e]
    exact between_any s t W (call_signs q1).1 (call_signs q2).1
  have HNO : Hid (neaE s L m = 0 → ∀ W, StrsFrom B0 W v L → Calls Tryz.prog 21 #[.string s, v, .int .i64 m] W fun e w' => ∃ u, e = .returned u ∧ StrsFrom W.heap.size w' u (neaL s L m) ∧ W.grownBy w' none) := fun h W hW => by
    obtain ⟨q1, q2, q3, q4⟩ := neaE_all h
    obtain ⟨M, rfl⟩ := Int.eq_ofNat_of_zero_le q3
    have e : neaL s L M = flatTo (inB s L) (M + 1) := by unfold neaL; rw [if_pos h]; rfl
    rw [e]
    exact nearOf_any B0 s v L M W hW HLS.out.1 (by omega) (fun x hx W => between_any s x W (call_signs q1).1 (call_signs (allC_mem q2 x hx)).1)
  have HGO : Hid (guessE p L = 0 → ∀ W, StrsFrom B0 W v L → Calls Tryz.prog 22 #[.string p, v] W fun e w' => ∃ u, e = .returned u ∧ StrsFrom W.heap.size w' u (guessL p L) ∧ W.grownBy w' none) := fun h W hW => by
    have e : guessL p L = L.filter (fitS p) := by unfold guessL; rw [if_pos h]
    rw [e]
    exact guessedOf_any B0 p v L W hW HLS.out.1 (fun x hx => (HLS.out.2 x hx).1) HP.out
  have HO1 : Hid ((if callE s = 0 then callE t else callE s) = disE s t) := rfl
  have HO2 : Hid (orL [callE s, callsE L, spanE m 0 14] = neaE s L m) := rfl
  have HO3 : Hid ((if patE p = 0 then callsE L else patE p) = guessE p L) := rfl
  have HZN : Hid (neaE s L m ≠ 0 → neaL s L m = []) := fun h => by unfold neaL; rw [if_neg h]
  have HZG : Hid (guessE p L ≠ 0 → guessL p L = []) := fun h => by unfold guessL; rw [if_neg h]
  have HZD : Hid (disE s t ≠ 0 → disV s t = 0) := fun h => by unfold disV; rw [if_neg h]
  unfold GuessPost at HGU
  generalize disE s t = E1 at *
  generalize disV s t = V1 at *
  generalize neaE s L m = E2 at *
  generalize neaL s L m = L2 at *
  generalize guessE p L = E3 at *
  generalize guessL p L = L3 at *
  clear HS HLS HP
  go_wp2_with fail
  refine (HDI.out _).mono ?_
  rintro _ w6 ⟨rfl, hg6⟩
  have HV6 := Lib.hid (HV5.out.grown hg6)
  have hG6 := gr_trans hG5 hg6
  clear HV5 hG5 hg6 HDI
  go_wp2_with fail
  refine (HNE.out _ HV6.out).mono ?_
  rintro _ w7 ⟨u7, rfl, hu7, hg7⟩
  have HV7 := Lib.hid (HV6.out.grown hg7)
  have HU7 : Hid (∀ W : World, w7.grownBy W none → StrsFrom w6.heap.size W u7 L2) := fun W hW => hu7.grown hW
  have hG7 := gr_trans hG6 hg7
  clear HV6 hG6 hg7 hu7 HNE
  go_wp2_with fail
  refine (HGU.out _ HV7.out).mono ?_
  rintro _ w8 ⟨u8, rfl, hu8, hg8⟩
  have HV8 := Lib.hid (HV7.out.grown hg8)
  have HU8 : Hid (∀ W : World, w8.grownBy W none → StrsFrom w7.heap.size W u8 L3) := fun W hW => hu8.grown hW
  have HU7' : Hid (∀ W : World, w8.grownBy W none → StrsFrom w6.heap.size W u7 L2) := fun W hW => HU7.out W (gr_trans hg8 hW)
  have hG8 := gr_trans hG7 hg8
  clear HV7 hG7 hg8 hu8 HGU HU7
  go_wp2_with fail
  refine (HCFs.out _).mono ?_
  rintro _ w9 ⟨rfl, hg9⟩
  go_wp2_with fail
  refine (HCFt.out _).mono ?_
  rintro _ w10 ⟨rfl, hg10⟩
  have hg810 := gr_trans hg9 hg10
  clear hg9 hg10
  go_wp2_with fail
  refine (or2_any _ _ _).mono ?_
  rintro _ w11 ⟨rfl, hg11⟩
  have hg811 := gr_trans hg810 hg11
  rw [HO1.out]
  clear hg810 hg11
  go_wp2_with fail
  refine (HCFs.out _).mono ?_
  rintro _ w12 ⟨rfl, hg12⟩
  have hg812 := gr_trans hg811 hg12
  clear hg811 hg12
  go_wp2_with fail
  refine (HCL.out _ (HV8.out.grown hg812)).mono ?_
  rintro _ w13 ⟨rfl, hg13⟩
  have hg813 := gr_trans hg812 hg13
  clear hg812 hg13
  go_wp2_with fail
  refine (HSPF.out _).mono ?_
  rintro _ _ ⟨rfl, rfl⟩
  go_wp2_with fail
  refine (or3_any _ _ _ _).mono ?_
  rintro _ w14 ⟨rfl, hg14⟩
  have hg814 := gr_trans hg813 hg14
  rw [HO2.out]
  clear hg813 hg14
  go_wp2_with fail
  refine (HPF.out _).mono ?_
  rintro _ w15 ⟨rfl, hg15⟩
  have hg815 := gr_trans hg814 hg15
  clear hg814 hg15
  go_wp2_with fail
  refine (HCL.out _ (HV8.out.grown hg815)).mono ?_
  rintro _ w16 ⟨rfl, hg16⟩
  have hg816 := gr_trans hg815 hg16
  clear hg815 hg16
  go_wp2_with fail
  refine (or2_any _ _ _).mono ?_
  rintro _ w17 ⟨rfl, hg17⟩
  have hg817 := gr_trans hg816 hg17
  rw [HO3.out]
  clear hg816 hg17 HCFs HCFt HCL HSPF HPF HO1 HO2 HO3
  go_upto_if 75 with fail
  go_cut [18] (fun x wx => x = .int .i64 V1 ∧ w8.grownBy wx none)
  case first =>
    as_aux_lemma =>
      by_cases h : E1 = 0
      · have HB2 := Lib.hid (HBT.out h)
        subst h
        clear HBT HNO HGO HZN HZG HZD
        go_wp2_with fail
        refine (HB2.out _).mono ?_
        rintro _ w18 ⟨rfl, hg18⟩
        go_wp2_with fail
        go_meet
        exact ⟨rfl, gr_trans hg817 hg18⟩
      · have hb : (E1 == 0) = false := by rw [beq_eq_false_iff_ne]; exact h
        have HZ := Lib.hid (HZD.out h)
        clear HBT HNO HGO HZN HZG HZD h
        go_wp2_with fail
        go_meet
        exact ⟨by rw [HZ.out], hg817⟩
  case rest =>
    obtain ⟨rfl, hg818⟩ := hcut
    rename World => w18
    clear hg817 HBT HZD
    go_upto_if 80 with fail
    go_cut [19] (fun x wx => Hid (StrsFrom 0 wx x L2) ∧ w8.grownBy wx none)
    case first =>
      as_aux_lemma =>
        by_cases h : E2 = 0
        · have HB2 := Lib.hid (HNO.out h)
          subst h
          clear HNO HGO HZN HZG
          go_wp2_with fail
          refine (HB2.out _ (HV8.out.grown hg818)).mono ?_
          rintro _ w19 ⟨u, rfl, hu, hg19⟩
          have HU := Lib.hid (hu.low (Nat.zero_le _))
          clear hu
          go_wp2_with fail
          go_meet
          exact ⟨HU, gr_trans hg818 hg19⟩
        · have hb : (E2 == 0) = false := by rw [beq_eq_false_iff_ne]; exact h
          have HZ := Lib.hid (HZN.out h)
          clear HNO HGO HZN HZG h
          go_wp2_with fail
          go_meet
          exact ⟨by show StrsFrom _ _ _ _; rw [HZ.out]; exact StrsFrom.nil _ _, hg818⟩
    case rest =>
      obtain ⟨HN, hg819⟩ := hcut
      rename World => w19
      clear hg818 HNO HZN
      go_upto_if 86 with fail
      go_cut [20] (fun x wx => Hid (StrsFrom 0 wx x L3) ∧ w19.grownBy wx none)
      case first =>
        as_aux_lemma =>
          by_cases h : E3 = 0
          · have HB2 := Lib.hid (HGO.out h)
            subst h
            clear HGO HZG
            go_wp2_with fail
            refine (HB2.out _ (HV8.out.grown hg819)).mono ?_
            rintro _ w20 ⟨u, rfl, hu, hg20⟩
            have HU := Lib.hid (hu.low (Nat.zero_le _))
            clear hu
            go_wp2_with fail
            go_meet
            exact ⟨HU, hg20⟩
          · have hb : (E3 == 0) = false := by rw [beq_eq_false_iff_ne]; exact h
            have HZ := Lib.hid (HZG.out h)
            clear HGO HZG h
            go_wp2_with fail
            go_meet
            exact ⟨by show StrsFrom _ _ _ _; rw [HZ.out]; exact StrsFrom.nil _ _, gr_refl _ _⟩
      case rest =>
        obtain ⟨HM, hg20⟩ := hcut
        rename World => w20
        have hg820 := gr_trans hg819 hg20
        have HEQ1 := Lib.hid (equalStrs_n _ _ _ _ L2 w20 (HU7'.out _ hg820) (HN.out.grown hg20))
        have HEQ2 : Hid (∀ W : World, w20.grownBy W none → Calls Tryz.prog 23 #[u8, u20] W fun r w' => r = .returned (.bool true) ∧ W.grownBy w' none) := fun W hW => equalStrs_n _ _ _ _ L3 W (HU8.out _ (gr_trans hg820 hW)) (HM.out.grown hW)
        have hG20 := gr_trans hG8 hg820
        clear hg819 hg20 HGO HZG HN HM HU7' HU8 HV8
        go_wp2_with fail
        refine HEQ1.out.mono ?_
        rintro _ w21 ⟨rfl, hg21⟩
        go_wp2_with fail
        refine (HEQ2.out _ hg21).mono ?_
        rintro _ w22 ⟨rfl, hg22⟩
        have hG22 := gr_trans hG20 (gr_trans hg21 hg22)
        go_wp2_with fail
        refine (called_n _).mono ?_
        rintro _ w23 ⟨rfl, hg23⟩
        go_wp2_with fail
        go_ret
        exact ⟨rfl, gr_below (gr_trans hG22 hg23)⟩
end Go.Proofs.YtlodmkdhlmineaaGreatDoor
