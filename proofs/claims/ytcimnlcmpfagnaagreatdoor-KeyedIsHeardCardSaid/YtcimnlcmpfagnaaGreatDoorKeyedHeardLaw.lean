/- The walk over the law KeyedIsHeard: it answers true whatever numbers come in. Condition: asciiSpace is Go's own table, MaxLen holds a number. -/
import Derived.Test.YtcimnlcmpfagnaaGreatDoorKeyedMarks
import Derived.Test.YtcimnlcmpfagnaaGreatDoorSayW
import Derived.Test.YtcimnlcmpfagnaaGreatDoorRefSaid
import Derived.Test.YtcimnlcmpfagnaaGreatDoorCodeW
import Derived.Test.YtcimnlcmpfagnaaGreatDoorPlainW2
import Derived.Test.YtcimnlcmpfagnaaGreatDoorWith
import Derived.Test.YtcimnlcmpfagnaaGreatDoorReady
import Derived.Test.YtcimnlcmpfagnaaGreatDoorStart
namespace Go.Proofs.YtcimnlcmpfagnaaGreatDoor
open Go.RowKit
set_option linter.unusedVariables false
set_option linter.unusedSimpArgs false

theorem take_sum_bd {l : List Int} (h : ∀ x ∈ l, 0 ≤ x ∧ x ≤ 100000) (k : Nat) (hk : k ≤ l.length) : 0 ≤ (l.take k).sum ∧ (l.take k).sum ≤ 100000 * (k : Int) := by
  induction k with
  | zero => simp
  | succ k ih =>
    have := ih (by omega)
    rw [sum_snoc l k (by omega)]
    have := h _ (List.getElem_mem (show k < l.length by omega))
    push_cast
    omega
set_option maxRecDepth 100000 in
set_option maxHeartbeats 8000000 in
theorem keyedHeardLaw (A : Option Addr) (n c : Nat) (w : World) (hin : In w A n) (hgl : Gl w.heap.size w) :
    Calls Tryz.prog 7 #[.slice A n c] w fun r w' => r = .returned (.bool true) ∧ Below w.heap.size w w' := by
  have hs0 := Str.start (c := c) hin
  have HGL := Lib.hid hgl
  clear hin hgl
  go_enter Tryz.func7, Tryz.ntmps7
  go_wp2_with fail
  have hG0 := World.grownBy_alloc w (.cells #[.slice A n c, .int .i64 0] 25) none
  generalize w.alloc (.cells #[.slice A n c, .int .i64 0] 25) = W0 at *
  generalize hb : w.heap.size = b at *
  have HB := Lib.hid hb
  clear hb
  refine (saying_in b 0 _ hs0 (by decide)).mono ?_
  rintro _ w1 ⟨t, rfl, ht40, hta, hs1, hg1⟩
  have hG1 : w.grownBy w1 none := gr_grown hG0 hg1 (fun g e => by injection e with e; exact .inr (by have := HB.out; omega))
  have HTA := Lib.hid hta
  clear hs0 hG0 hg1 hta
  go_wp2_with fail
  refine (pick_at b _ _ 4 4 [1, 7, 60, 240] _ hs1 (by first | rfl | simp) (by decide) rfl (by decide) (by decide)).mono ?_
  rintro _ w2 ⟨u, hu, rfl, hs2, hg2⟩
  have hub : 1 ≤ u ∧ u ≤ 240 := by simp at hu; omega
  have hG2 : w.grownBy w2 none := gr_grown hG1 hg2 (fun g e => by injection e with e; exact .inr (by have := HB.out; omega))
  clear hs1 hs2 hG1 hg2 hu
  go_wp2_with fail
  refine (refSaid_any b t _ (HGL.out.quiet hG2) HTA.out (by omega)).mono ?_
  rintro _ w3 ⟨rfl, hg3⟩
  have hG3 := gr_trans hG2 hg3
  clear hG2 hg3
  by_cases hE : saidE t = 0
  · obtain ⟨e1, e2⟩ := keyE_ok hE (u := u) (sl := u) (by omega) (by omega) (by omega) (by omega)
    obtain ⟨m1, m2⟩ := keyed_marks hE (u := u) (by omega) (by omega)
    obtain ⟨h1, h2, h3⟩ := keyed_heard hE (u := u) (by omega)
    have h4 := keyed_hear hE (u := u) (by omega) (by omega)
    have h5 := even_uneven (l := sL u u (codesOf t)) (u := u) (by omega) h2
    have h6 := sL_even (u := u) (by omega) (codesOf t)
    have h7 := keyed_sum u t
    have h8 := units_bd t
    have p1 := plainE_coded hE
    have p2 := plainT_coded hE
    have p3 := codedL_len t.data.toList
    have hK := Lib.hid (fun W (h : Gl b W) => key_any b t u u W h (by omega))
    have hU := Lib.hid (fun W (h : Gl b W) => units_any b t W h (by omega))
    have hC := Lib.hid (fun W (h : Gl b W) => code_any b t W h (by omega))
    have p4 : t.data.toList.length = t.size := by simp
    have hP := Lib.hid (fun W (h : Gl b W) => plain_any b (strB (codedL t.data.toList)) W h (by rw [strB_size]; omega))
    have HCK : Hid (codeK t = codedL t.data.toList) := by show _ = _; unfold codeK; rw [if_pos hE]
    have HPK : Hid (plainK (strB (codedL t.data.toList)) = t.data.toList) := by show _ = _; unfold plainK; rw [if_pos p1, p2]
    have HPE := Lib.hid p1
    have HOK : Hid (okI (saidE t) (unitsI t) = unitsI t) := by show _ = _; rw [hE]; rfl
    have HE := Lib.hid hE
    unfold KeyPost at hK
    rw [e1, e2] at hK
    obtain ⟨K, hKK⟩ : ∃ K, sL u u (codesOf t) = K := ⟨_, rfl⟩
    rw [hKK] at hK m1 m2 h1 h2 h4 h5 h6 h7
    have hEu : unitE K u = 0 := by unfold unitE; rw [if_pos m1]; exact spanE_no (by omega) (by omega)
    have HW : Hid ((⟨(withT K u).toArray⟩ : ByteArray) = t ∧ withO K u = 0 ∧ unitE K u = 0) := ⟨by unfold withT; rw [if_pos hEu, h1], by unfold withO; rw [if_pos hEu, h2], hEu⟩
    have HUN : Hid (unevTo K u K.length = []) := h5
    have HH : Hid ((hearTo K 2000).2 = 0 ∧ marksE K = 0) := ⟨h4, m1⟩
    have HS : Hid (K.sum = unitsI t * u) := h7
    have HBD : Hid (∀ x ∈ K, 0 ≤ x ∧ x ≤ 100000) := fun x hx => by have := h6 x hx; omega
    clear e1 e2 m1 h1 h2 h4 h5 h6 h7 p1 p2 p3 p4 hKK hEu h3
    rw [hE]
    clear hE
    go_wp2_with fail
    refine (hK.out _ (HGL.out.quiet hG3)).mono ?_
    rintro _ w4 ⟨v, rfl, hv, _, hg4⟩
    have hG4 := gr_trans hG3 hg4
    have HV := Lib.hid hv
    obtain ⟨vA, vc, rfl, hvl, hvs⟩ := IntsFrom.shape hv
    have HVS := Lib.hid hvs
    obtain ⟨M, hM⟩ : ∃ M, K.length = M := ⟨_, rfl⟩
    have HM := Lib.hid hM
    rw [hM] at HV hvl HVS m2 ⊢
    clear hv hvs hG3 hg4 hM
    go_wp2_with fail
    refine (with_any w3.heap.size b _ K u _ HV.out (HGL.out.quiet hG4)).mono ?_
    rintro _ w5 ⟨rfl, hg5⟩
    rw [HW.out.1, HW.out.2.1, HW.out.2.2]
    have hG5 := gr_trans hG4 hg5
    have hv5 := HV.out.grown hg5
    have hTT : (t.toList == t.toList) = true := by simp
    clear hG4 hg5 HV
    go_wp2_with fail
    refine (uneven_any w3.heap.size _ K u _ hv5).mono ?_
    rintro _ w6 ⟨o6, rfl, ho6, hg6⟩
    rw [HW.out.2.2, if_pos rfl, HUN.out] at ho6
    rw [HW.out.2.2]
    obtain ⟨oA, oc, rfl, _, _⟩ := IntsFrom.shape ho6
    have hG6 := gr_trans hG5 hg6
    have hv6 := hv5.grown hg6
    clear hG5 hv5 hg6 ho6
    go_wp2_with fail
    refine (hear_any w3.heap.size b _ K _ hv6 (HGL.out.quiet hG6)).mono ?_
    rintro e7 w7 ⟨hg7, hway⟩
    have hway2 : ∃ (T2 : ByteArray) (U : Int) (B : Bool), e7 = Ending.returned (.tuple #[.agg #[.string T2, .int .i64 U, .int .i64 0], .bool B, .int .i64 0]) := by
      rcases hway with ⟨_, e⟩ | ⟨_, e⟩
      · rw [HH.out.1] at e; exact ⟨_, _, _, e⟩
      · rw [HH.out.2] at e; exact ⟨_, _, _, e⟩
    clear hway
    obtain ⟨T2, U, B, rfl⟩ := hway2
    have hG7 := gr_trans hG6 hg7
    have hv7 := hv6.grown hg7
    obtain ⟨c0, c1, c2⟩ := blk_cells3 (Blk.new w7 55 #[.string T2, .int .i64 U, .int .i64 0])
    have hg8 := World.grownBy_alloc w7 (.cells #[.string T2, .int .i64 U, .int .i64 0] 55) none
    have hG8 := gr_trans hG7 hg8
    have HV8 := Lib.hid (hv7.grown hg8)
    have HG8 := Lib.hid hG8
    have HGP : Hid (∀ W W', Gl b W → W.grownBy W' none → Gl b W') := fun W W' h h2 => h.quiet h2
    obtain ⟨N, hN⟩ : ∃ N, unitsI t = N := ⟨_, rfl⟩
    rw [hN] at h8 HS
    replace HOK : Hid (okI (saidE t) (unitsI t) = N) := HOK.out.trans hN
    have HNN := Lib.hid hN
    have HTS := Lib.hid (fun k hk => take_sum_bd HBD.out k hk)
    have hwr : IntKind.i64.wrap (N * u) = K.sum := by
      have h1 := HTS.out K.length (Nat.le_refl _)
      rw [List.take_length, HM.out] at h1
      rw [← HS.out]
      exact IntWalk.i64_in _ ⟨by omega, by omega⟩
    clear hG6 hv6 hg7 hG7 hv7 hg8 hG8 hN h8
    cases B
    all_goals
      go_wp2_with fail
      refine (hC.out _ (HGL.out.quiet HG8.out)).mono ?_
      rintro _ w9 ⟨rfl, hg9⟩
      rw [HCK.out, HE.out]
      have hG9 := gr_trans HG8.out hg9
      have HV9 := Lib.hid (HV8.out.grown hg9)
      clear hg9 c0 c1 c2
      go_wp2_with fail
      refine (hP.out _ (HGL.out.quiet hG9)).mono ?_
      rintro _ w10 ⟨rfl, hg10⟩
      rw [HPK.out, HPE.out, strB_of]
      have hG10 := gr_trans hG9 hg10
      have HV10 := Lib.hid (HV9.out.grown hg10)
      clear hG9 hg10 HV9
      go_wp2_with fail
      go_loop [16, 105] (fun s i => ∃ k : Nat, k ≤ M ∧ i = .int .i64 k ∧ s = .int .i64 (K.take k).sum) (fun _ i => M - (intOf i).toNat)
      case atStart => exact ⟨0, by omega, rfl, rfl⟩
      case round =>
        obtain ⟨k, hk, rfl, rfl⟩ := hrel
        by_cases hlt : k < M
        · have hki : (k : Int) < (M : Int) := by omega
          obtain ⟨g, rfl, _, _⟩ := HVS.out (by omega)
          have hkl : k < K.length := by rw [HM.out]; exact hlt
          have hat : w10.cell? ⟨g, k, none⟩ = some (.int .i64 K[k]) := by
            have h := HV10.out
            rw [← HM.out] at h
            exact IntsFrom.at_ h k hkl
          have hb0 := HTS.out k (by rw [HM.out]; exact hk)
          have hb1 := HTS.out (k + 1) hkl
          have hsn := sum_snoc K k hkl
          rw [hsn] at hb1
          have HSN := Lib.hid hsn
          clear hsn
          generalize K[k] = x at *
          generalize (K.take k).sum = S at *
          have hwx : IntKind.i64.wrap (S + x) = S + x := IntWalk.i64_in _ ⟨by omega, by omega⟩
          go_wp2_with fail
          go_round
          case rel => exact ⟨k + 1, by omega, by go_num, by rw [HSN.out]⟩
          case measure => simp [intOf]; omega
        · have hki : ¬ (k : Int) < (M : Int) := by omega
          have hfull : K.take k = K := List.take_of_length_le (by rw [HM.out]; omega)
          rw [hfull]
          clear hfull
          generalize K.sum = S at *
          go_wp2_with fail
          refine (hU.out _ (HGL.out.quiet hG10)).mono ?_
          rintro _ w11 ⟨rfl, hg11⟩
          rw [HOK.out, HE.out]
          have hG11 := gr_trans hG10 hg11
          have hSS : (S == S) = true := by simp
          go_wp2_with fail
          refine (ready_any b _ (HGL.out.quiet hG11)).mono ?_
          rintro _ w12 ⟨rfl, hg12⟩
          go_wp2_with fail
          go_ret
          exact ⟨rfl, gr_below (gr_trans hG11 hg12)⟩
  · have hE2 : (saidE t != 0) = true := by rw [bne_iff_ne]; exact hE
    generalize saidE t = E at *
    go_wp2_with fail
    refine (ready_any b _ (HGL.out.quiet hG3)).mono ?_
    rintro _ w4 ⟨rfl, hg4⟩
    go_wp2_with fail
    go_ret
    exact ⟨rfl, gr_below (gr_trans hG3 hg4)⟩
end Go.Proofs.YtcimnlcmpfagnaaGreatDoor
