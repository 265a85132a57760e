/- The walk over the law LocatorsFound: it answers true whatever numbers come in. No condition. -/
import Derived.Test.YtbaocnbppefciaaGreatStreamA
import Derived.Test.YtbaocnbppefciaaGreatSkyR
import Derived.Test.YtbaocnbppefciaaGreatStreamSky
import Derived.Test.YtbaocnbppefciaaGreatLocText
import Derived.Test.YtbaocnbppefciaaGreatLocE
import Derived.Test.YtbaocnbppefciaaGreatBesRef
import Derived.Test.YtbaocnbppefciaaGreatSqRef
import Derived.Deep.RegionHeld3
import Derived.Deep.DeepCutAuto
namespace Go.Proofs.YtbaocnbppefciaaGreat
open Go.RowKit
set_option linter.unusedVariables false
set_option linter.unusedSimpArgs false

set_option maxHeartbeats 2000000 in
theorem equalStrs_n (b1 b2 : Nat) (u v : Value) (l : List ByteArray) (w : World) (hu : StrsFrom b1 w u l) (hv : StrsFrom b2 w v l) :
    Calls Tryz.prog 18 #[u, v] w fun r w' => r = .returned (.bool true) ∧ w.grownBy w' none := by
  obtain ⟨A, ca, rfl, ha, hA⟩ := hu.shape
  obtain ⟨B, cb, rfl, hb, hB⟩ := hv.shape
  have HU := Lib.hid hu
  have HV := Lib.hid hv
  have HA := Lib.hid hA
  have HB := Lib.hid hB
  clear hu hv hA hB
  go_enter Tryz.func18, Tryz.ntmps18
  go_wp2_with fail
  go_loopw [13] (fun i wr => ∃ k : Nat, k ≤ l.length ∧ i = .int .i64 k ∧ w.grownBy wr none) (fun i _ => l.length - (intOf i).toNat)
  case atStart => exact ⟨0, by omega, rfl, gr_refl _ _⟩
  case round =>
    obtain ⟨k, hk, rfl, hgr⟩ := hrel
    by_cases hlt : k < l.length
    · obtain ⟨ga, rfl, _, _⟩ := HA.out (by omega)
      obtain ⟨gb, rfl, _, _⟩ := HB.out (by omega)
      have a0 := (HU.out.grown hgr).at_ k hlt
      have b0 := (HV.out.grown hgr).at_ k hlt
      generalize l[k] = x at *
      have hkl : (k : Int) < (l.length : Int) := by omega
      go_wp2_with fail
      go_quiet (fail)
      go_wp2_with fail
      go_roundw
      case rel => exact ⟨k + 1, by omega, by go_num, by repeat (first | exact hgr | refine gr_drewN ?_ _ | refine gr_drew ?_)⟩
      case measure => simp [intOf]; omega
    · have hkl : ¬ ((k : Int) < l.length) := by omega
      go_wp2_with fail
      go_ret
      exact ⟨rfl, hgr⟩
def BesP (LL L : List (Int × Int)) : Bool → Prop
  | true => L.Perm LL ∧ L.Pairwise leS
  | false => L = []
theorem BesP.one {LL L L' : List (Int × Int)} {B : Bool} (h : BesP LL L B) (h' : BesP LL L' B) : L = L' := by
  cases B with
  | true => exact sites_one h.2 h'.2 (h.1.trans h'.1.symm)
  | false => rw [show L = [] from h, show L' = [] from h']
def sgnsOf (m : Nat) (L : List (Int × Int)) : List ByteArray := L.map fun p => strOfNums (locL p.1 p.2 m)
/-- What a string's area, middle and neighbours are, with the error; and what the reference says of them. -/
theorem found_cases (s : ByteArray) (hz : s.size ≤ 13) (ha : Ascii s) : ∃ (a0 a1 a2 a3 m0 m1 : Int) (m : Nat) (LL : List (Int × Int)),
    (∀ W, Calls Tryz.prog 13 #[.string s] W fun r w' => r = .returned (.tuple #[.agg #[.int .i64 a0, .int .i64 a1, .int .i64 a2, .int .i64 a3], .int .i64 (locE s)]) ∧ W.grownBy w' none) ∧
    (∀ W, Calls Tryz.prog 14 #[.string s] W fun r w' => r = .returned (.tuple #[.agg #[.int .i64 m0, .int .i64 m1], .int .i64 (locE s)]) ∧ W.grownBy w' none) ∧
    (∀ W, Calls Tryz.prog 15 #[.string s] W fun r w' => ∃ u L, r = .returned (.tuple #[u, .int .i64 (locE s)]) ∧ BesP LL L (locB s) ∧ StrsFrom W.heap.size w' u (sgnsOf m L) ∧ W.grownBy w' none) ∧
    ((locB s = false ∧ locE s = 3 ∧ a0 = 0 ∧ a1 = 0 ∧ a2 = 0 ∧ a3 = 0 ∧ m0 = 0 ∧ m1 = 0) ∨
     (locB s = true ∧ locE s = 0 ∧
      (∀ W, Calls Tryz.prog 16 #[.string s] W fun r w' => r = .returned (.agg #[.int .i64 a0, .int .i64 a1, .int .i64 a2, .int .i64 a3]) ∧ W.grownBy w' none) ∧
      (∀ W, Calls Tryz.prog 17 #[.string s] W fun r w' => r = .returned (.agg #[.int .i64 m0, .int .i64 m1]) ∧ W.grownBy w' none) ∧
      (∀ W, Calls Tryz.prog 19 #[.string s] W fun r w' => ∃ u L, r = .returned u ∧ BesP LL L true ∧ StrsFrom W.heap.size w' u (sgnsOf m L) ∧ W.grownBy w' none))) := by
  cases hB : locB s with
  | false =>
    have hE : locE s = 3 := by unfold locE; rw [hB]; rfl
    rw [hE]
    refine ⟨0, 0, 0, 0, 0, 0, 0, [], fun W => areaOf_bad s W (by omega) ha hB, fun W => middle_bad s W (by omega) ha hB, fun W => ?_, .inl ⟨rfl, rfl, rfl, rfl, rfl, rfl, rfl, rfl⟩⟩
    exact (beside_bad s W (by omega) ha hB).mono fun r w' ⟨h1, h2⟩ => ⟨_, [], h1, rfl, StrsFrom.nil _ _, h2⟩
  | true =>
    have hE : locE s = 0 := by unfold locE; rw [hB]; rfl
    rw [hE]
    have hL := locS_right hB
    exact ⟨_, _, _, _, _, _, s.size / 2, _, fun W => areaOf_ok s _ _ W hL, fun W => middleS_ok s _ _ W hL,
      fun W => (beside_srt s _ _ W hL).mono fun r w' ⟨u, L, h1, h2, h3, h4, h5⟩ => ⟨u, L, h1, ⟨h2, h3⟩, h4, h5⟩,
      .inr ⟨rfl, rfl, fun W => areaFor_ok s _ _ W hL, fun W => middleOf_ok s _ _ W hL, fun W => (besideOf_ok s _ _ W hL).mono fun r w' ⟨u, L, h1, h2, h3, h4, h5⟩ => ⟨u, L, h1, ⟨h2, h3⟩, h4, h5⟩⟩⟩
theorem locE_cases (s : ByteArray) : (locB s = false ∧ locE s = 3) ∨ (locB s = true ∧ locE s = 0) := by
  unfold locE
  cases locB s
  · exact .inl ⟨rfl, rfl⟩
  · exact .inr ⟨rfl, rfl⟩
theorem withE_or (a b : ByteArray) : (if locE a = 0 then locE b else locE a) = withE a b := by
  unfold withE
  rcases locE_cases a with ⟨h1, h2⟩ | ⟨h1, h2⟩ <;> rcases locE_cases b with ⟨h3, h4⟩ | ⟨h3, h4⟩ <;> rw [h1, h2, h3, h4] <;> rfl

theorem when_z (b : Bool) (n : Int) (w : World) :
    Calls Tryz.prog 22 #[.bool b, .int .i64 n] w fun e w' => e = .returned (.int .i64 (if b then n else 0)) ∧ w = w' := by
  cases b
  · go_enter Tryz.func22, Tryz.ntmps22
    go_wp2_with fail
    go_ret
    exact ⟨rfl, rfl⟩
  · go_enter Tryz.func22, Tryz.ntmps22
    go_wp2_with fail
    go_ret
    exact ⟨rfl, rfl⟩
/-- place.Locator with its errors; and what the reference says. -/
theorem locd_cases (n e p : Int) (hp : p = 2 ∨ p = 4 ∨ p = 6 ∨ p = 3) : ∃ (T : ByteArray) (E : Int),
    (∀ W, Calls Tryz.prog 20 #[.agg #[.int .i64 n, .int .i64 e], .int .i64 p] W fun r w' => r = .returned (.tuple #[.string T, .int .i64 E]) ∧ W.grownBy w' none) ∧
    (if siteE n e = 0 then (if p = 3 then 1 else 0) else siteE n e) = E ∧
    ((E = 0 ∧ ∀ W, Calls Tryz.prog 23 #[.agg #[.int .i64 n, .int .i64 e], .int .i64 p] W fun r w' => r = .returned (.string T) ∧ W.grownBy w' none) ∨ (E = 1 ∧ T = ⟨#[]⟩)) := by
  rcases siteE_01 n e with h | h
  · by_cases h3 : p = 3
    · subst h3
      exact ⟨⟨#[]⟩, 1, fun W => locator_three n e W h, by rw [h]; rfl, .inr ⟨rfl, rfl⟩⟩
    · obtain ⟨m, hm0, hm, rfl⟩ : ∃ m : Nat, 0 < m ∧ m ≤ 3 ∧ p = ((2 * m : Nat) : Int) := by
        rcases hp with rfl | rfl | rfl | rfl
        · exact ⟨1, by omega, by omega, rfl⟩
        · exact ⟨2, by omega, by omega, rfl⟩
        · exact ⟨3, by omega, by omega, rfl⟩
        · exact absurd rfl h3
      obtain ⟨q0, q1, q2, q3⟩ := siteE_rng h
      exact ⟨_, 0, fun W => locatorE_ok n e m W hm0 hm h, by rw [h, if_pos rfl, if_neg h3], .inl ⟨rfl, fun W => locatorFor_any n e m W hm0 hm q0 q1 q2 q3⟩⟩
  · exact ⟨⟨#[]⟩, 1, fun W => locator_bad n e p W h, by rw [h]; rfl, .inr ⟨rfl, rfl⟩⟩
theorem withE_cases (a b : ByteArray) : withE a b = 0 ∨ withE a b = 3 := by
  unfold withE
  cases locB a <;> cases locB b <;> simp
theorem names_strs {base : Nat} {w : World} {v : Value} {l : List (List UInt8)} (h : NamesFrom base w v l) : StrsFrom base w v (l.map fun x => ⟨x.toArray⟩) := by
  unfold StrsFrom
  rw [List.length_map, List.map_map]
  exact h

set_option maxRecDepth 100000 in
set_option maxHeartbeats 16000000 in
theorem foundLaw (A : Option Addr) (n c : Nat) (w : World) (hin : In w A n) :
    Calls Tryz.prog 3 #[.slice A n c] w fun e w' => e = .returned (.bool true) ∧ Below w.heap.size w w' := by
  have hs := Str.start (c := c) hin
  clear hin
  go_enter Tryz.func3, Tryz.ntmps3
  go_wp2_with fail
  have hG0 := World.grownBy_alloc w (.cells #[.slice A n c, .int .i64 0] 25) none
  generalize w.alloc (.cells #[.slice A n c, .int .i64 0] 25) = W0 at *
  generalize hb : w.heap.size = b at *
  have HB := Lib.hid hb
  clear hb
  refine (siteOf_in _ _ _ hs (by omega)).mono ?_
  rintro _ w1 ⟨n1, e1, hn0, hn1, he0, he1, rfl, hs1, hg1⟩
  have hG1 : w.grownBy w1 none := gr_grown hG0 hg1 (fun g e => by injection e with e; exact .inr (by have := HB.out; omega))
  clear hs hG0 hg1
  go_wp2_with fail
  refine (locatorText_in _ _ _ hs1 (by omega)).mono ?_
  rintro _ w2 ⟨s, rfl, hsz, hsa, hs2, hg2⟩
  have hG2 : w.grownBy w2 none := gr_grown hG1 hg2 (fun g e => by injection e with e; exact .inr (by have := HB.out; omega))
  have HSA := Lib.hid hsa
  clear hs1 hG1 hg2 hsa
  go_wp2_with fail
  refine (locatorText_in _ _ _ hs2 (by omega)).mono ?_
  rintro _ w3 ⟨t, rfl, htz, hta, hs3, hg3⟩
  have hG3 : w.grownBy w3 none := gr_grown hG2 hg3 (fun g e => by injection e with e; exact .inr (by have := HB.out; omega))
  have HTA := Lib.hid hta
  clear hs2 hG2 hg3 hta
  go_wp2_with fail
  refine (pick_new _ _ 4 4 [2, 4, 6, 3] _ hs3 (by omega) rfl (by decide) (by decide)).mono ?_
  rintro _ w4 ⟨p, hp, rfl, hs4, hg4⟩
  have hpb : p = 2 ∨ p = 4 ∨ p = 6 ∨ p = 3 := by simpa using hp
  have hG4 : w.grownBy w4 none := gr_grown hG3 hg4 (fun g e => by injection e with e; exact .inr (by have := HB.out; omega))
  clear hs3 hG3 hg4 hp
  go_wp2_with fail
  refine (locatorList_in _ _ 6 _ hs4 (by omega) (by decide) (by decide)).mono ?_
  rintro _ w5 ⟨v, l, rfl, hl, hll, hall, hs5, hg5⟩
  have hG5 : w.grownBy w5 none := gr_grown hG4 hg5 (fun g e => by injection e with e; exact .inr (by have := HB.out; omega))
  have HALL := Lib.hid hall
  have hb4 := hs4.lt
  have hl1 := hl.low (base' := b + 1) (by omega)
  clear hs4 hG4 hg5 hall hl
  go_upto_region 3 with fail
  have hx := Blk.new w5 27 #[.int .i64 n1, .int .i64 e1]
  have hs6 := hs5.alloc (.cells #[.int .i64 n1, .int .i64 e1] 27)
  have hG6 := gr_alloc hG5 (.cells #[.int .i64 n1, .int .i64 e1] 27)
  have hl6 := hl1.grown (World.grownBy_alloc w5 (.cells #[.int .i64 n1, .int .i64 e1] 27) none)
  have hb5 := hs5.lt
  generalize w5.alloc (.cells #[.int .i64 n1, .int .i64 e1] 27) = W at *
  generalize w5.heap.size = gx at *
  clear hs5 hG5 hl1
  go_cut [43] (fun s43 wr => ∃ fb : Bool, s43 = .bool fb ∧ (fb = true → 2 < s.size) ∧ W.grownBy wr (some b))
  case first =>
    as_aux_lemma =>
      go_wp2_with fail
      refine (flip_in _ _ 3 W hs6 (by omega) (by omega) (by omega)).mono ?_
      rintro _ w7 ⟨fl, rfl, hs7, hg7⟩
      cases fl with
      | false =>
        go_wp2_with fail
        go_meet
        exact ⟨false, rfl, (fun h => by cases h), hg7⟩
      | true =>
        by_cases h2 : 2 < s.size
        · have h2i : (2 : Int) < (s.size : Int) := by omega
          go_wp2_with fail
          go_meet
          exact ⟨true, rfl, (fun _ => h2), hg7⟩
        · have h2i : ¬ (2 : Int) < (s.size : Int) := by omega
          go_wp2_with fail
          go_meet
          exact ⟨decide ((2 : Int) < (s.size : Int)), rfl, (fun h => by have := of_decide_eq_true h; omega), hg7⟩
  case rest =>
  obtain ⟨fb, rfl, hfb, hg7⟩ := hcut
  have w7 := wc
  have hx7 := hx.grown hg7 (by simp; omega)
  have hG7 : w.grownBy wc none := gr_grown hG6 hg7 (fun g e => by injection e with e; exact .inr (by have := HB.out; omega))
  have hl7 := hl6.other hg7 (by omega)
  clear hs6 hG6 hg7 hx hl6 w7
  go_upto_if 43 with fail
  go_cut [6] (fun s6 wr => ∃ t' : ByteArray, s6 = .string t' ∧ t'.size ≤ 13 ∧ Ascii t' ∧ wr = wc)
  case first =>
    as_aux_lemma =>
      cases fb with
      | false =>
        go_wp2_with fail
        go_meet
        exact ⟨t, rfl, htz, HTA.out, rfl⟩
      | true =>
        have h2 := hfb rfl
        have h2j : (2 : Int) ≤ (s.size : Int) := by omega
        have hex : (s.extract 0 2).size ≤ 13 := by rw [ByteArray.size_extract]; omega
        go_wp2_with fail
        go_meet
        exact ⟨_, rfl, hex, HSA.out.take 2, rfl⟩
  case rest =>
    obtain ⟨t2, rfl, htz2, hta2, hwc⟩ := hcut
    subst hwc
    clear hfb htz
    have HTA2 := Lib.hid hta2
    clear hta2
    obtain ⟨x0, x1⟩ := hx7.cells2
    obtain ⟨a0, a1, a2, a3, m0, m1, m, LL, hAO, hMI, hBE, hREF⟩ := found_cases s hsz HSA.out
    have HAO := Lib.hid hAO
    have HMI := Lib.hid hMI
    have HBE := Lib.hid hBE
    have HREF := Lib.hid hREF
    have HLF := Lib.hid (fun W => locatorFault_any s W (by omega) HSA.out)
    have HIL := Lib.hid (fun W => isLocator_any s W (by omega) HSA.out)
    have HLF2 := Lib.hid (fun W => locatorFault_any t2 W (by omega) HTA2.out)
    have HWI := Lib.hid (fun W => within_any s t2 W (by omega) HSA.out (by omega) HTA2.out)
    have HEC := Lib.hid (locE_cases s)
    clear hAO hMI hBE hREF
    rw [show locE s = locE s from rfl] at HEC
    obtain ⟨E, hE⟩ : ∃ E, locE s = E := ⟨_, rfl⟩
    obtain ⟨B, hB⟩ : ∃ B, locB s = B := ⟨_, rfl⟩
    rw [hE] at HAO HMI HBE HREF HLF HEC
    rw [hB] at HBE HREF HIL HEC
    have HEE := Lib.hid hE
    clear hE hB
    have HSE := Lib.hid (fun W => siteFault_any n1 e1 W)
    have HSC := Lib.hid (fun W => checkSite_any n1 e1 W)
    have HS01 := Lib.hid (siteE_01 n1 e1)
    obtain ⟨SE, hSE⟩ : ∃ SE, siteE n1 e1 = SE := ⟨_, rfl⟩
    rw [hSE] at HSE HSC HS01
    have HSEE := Lib.hid hSE
    clear hSE
    go_wp2_with fail
    refine (HSE.out _).mono ?_
    rintro _ v1 ⟨rfl, hg1⟩
    go_wp2_with fail
    refine (HLF.out _).mono ?_
    rintro _ v2 ⟨rfl, hg2⟩
    have hg12 := gr_trans hg1 hg2
    have hG8 := gr_trans hG7 hg12
    have hl8 := hl7.grown hg12
    have hx8 := hx7.grown hg12 (by simp)
    clear hg1 hg2 hg12 hG7 hl7 hx7 x0 x1
    obtain ⟨x0, x1⟩ := hx8.cells2
    go_upto_region 6 with fail
    go_cut [60] (fun s60 wr => s60 = .bool false ∧ v2.grownBy wr none)
    case first =>
      as_aux_lemma =>
        rcases HEC.out with ⟨rfl, rfl⟩ | ⟨rfl, rfl⟩
        all_goals
          go_wp2_with fail
          refine (HSC.out _).mono ?_
          rintro _ v3 ⟨rfl, hg3⟩
          go_wp2_with fail
          refine (HIL.out _).mono ?_
          rintro _ v4 ⟨rfl, hg4⟩
          go_wp2_with fail
          go_meet
          exact ⟨by simp, gr_trans hg3 hg4⟩
    case rest =>
      obtain ⟨rfl, hg3⟩ := hcut
      have hG9 := gr_trans hG8 hg3
      have hl9 := hl8.grown hg3
      have hx9 := hx8.grown hg3 (by simp)
      clear hG8 hg3 hl8 hx8 x0 x1
      go_wp2_with fail
      refine (HAO.out _).mono ?_
      rintro _ v5 ⟨rfl, hg5⟩
      have hA5 := Blk.new v5 39 #[.int .i64 a0, .int .i64 a1, .int .i64 a2, .int .i64 a3]
      have hgA := gr_alloc hg5 (.cells #[.int .i64 a0, .int .i64 a1, .int .i64 a2, .int .i64 a3] 39)
      have hG10 := gr_trans hG9 hgA
      have hl10 := hl9.grown hgA
      have hx10 := hx9.grown hgA (by simp)
      clear hG9 hl9 hx9 hg5 hgA
      go_wp2_with fail
      generalize v5.alloc (.cells #[.int .i64 a0, .int .i64 a1, .int .i64 a2, .int .i64 a3] 39) = V5 at *
      generalize v5.heap.size = ga at *
      refine (HMI.out _).mono ?_
      rintro _ v6 ⟨rfl, hg6⟩
      have hM6 := Blk.new v6 27 #[.int .i64 m0, .int .i64 m1]
      have hgM := gr_alloc hg6 (.cells #[.int .i64 m0, .int .i64 m1] 27)
      have hG11 := gr_trans hG10 hgM
      have hl11 := hl10.grown hgM
      have hx11 := hx10.grown hgM (by simp)
      have hA6 := hA5.grown hgM (by simp)
      clear hG10 hl10 hx10 hg6 hgM hA5
      go_wp2_with fail
      generalize v6.alloc (.cells #[.int .i64 m0, .int .i64 m1] 27) = V6 at *
      generalize v6.heap.size = gm at *
      refine (HBE.out _).mono ?_
      rintro _ v7 ⟨u, L, rfl, hbp, hu, hg7⟩
      have hG12 := gr_trans hG11 hg7
      have hl12 := hl11.grown hg7
      have hx12 := hx11.grown hg7 (by simp)
      have hA7 := hA6.grown hg7 (by simp)
      have hM7 := hM6.grown hg7 (by simp)
      have HBP := Lib.hid hbp
      have hu7 : StrsFrom 0 v7 u (sgnsOf m L) := hu.low (Nat.zero_le _)
      clear hG11 hl11 hx11 hg7 hA6 hM6 hbp hu
      go_upto_if 77 with fail
      go_cut [] (fun wr => v7.grownBy wr none)
      case first =>
        as_aux_lemma =>
          rcases HREF.out with ⟨hB, hE, rfl, rfl, rfl, rfl, rfl, rfl⟩ | ⟨hB, hE, hAF, hMO, hBO⟩
          · have hL0 : L = [] := by have h := HBP.out; rw [hB] at h; exact h
            subst hE
            rw [hL0] at hu7
            obtain ⟨A3, c3, rfl, hl3, hsh3⟩ := hu7.shape
            obtain ⟨y0, y1, y2, y3⟩ := hA7.cells4
            obtain ⟨z0, z1⟩ := hM7.cells2
            have hl0 : (sgnsOf m ([] : List (Int × Int))).length = 0 := rfl
            rw [hl0]
            go_wp2_with fail
            go_meet
            exact gr_refl _ _
          · subst hE
            have HBP1 : Hid (BesP LL L true) := by show BesP LL L true; rw [← hB]; exact HBP.out
            have HAF := Lib.hid hAF
            have HMO := Lib.hid hMO
            have HBO := Lib.hid hBO
            have HEQ := Lib.hid (fun (b1 b2 : Nat) (p q : Value) (W : World) (h1 : StrsFrom b1 W p (sgnsOf m L)) (h2 : StrsFrom b2 W q (sgnsOf m L)) => equalStrs_n b1 b2 p q (sgnsOf m L) W h1 h2)
            have KX : Hid (∀ W' : World, v7.grownBy W' none → (W'.cell? ⟨ga, 0, none⟩ = some (.int .i64 a0) ∧ W'.cell? ⟨ga, 1, none⟩ = some (.int .i64 a1) ∧ W'.cell? ⟨ga, 2, none⟩ = some (.int .i64 a2) ∧ W'.cell? ⟨ga, 3, none⟩ = some (.int .i64 a3)) ∧ (W'.cell? ⟨gm, 0, none⟩ = some (.int .i64 m0) ∧ W'.cell? ⟨gm, 1, none⟩ = some (.int .i64 m1)) ∧ v7.grownBy W' none) := fun W' hW =>
              ⟨(hA7.grown hW (by simp)).cells4, (hM7.grown hW (by simp)).cells2, hW⟩
            obtain ⟨y0, y1, y2, y3⟩ := hA7.cells4
            obtain ⟨z0, z1⟩ := hM7.cells2
            clear hB hAF hMO hBO
            go_upto_region 14 with fail
            go_cut [134] (fun s wr => s = .bool false ∧ v7.grownBy wr none)
            case first =>
              go_region_held3 (fun W' => (W'.cell? ⟨ga, 0, none⟩ = some (.int .i64 a0) ∧ W'.cell? ⟨ga, 1, none⟩ = some (.int .i64 a1) ∧ W'.cell? ⟨ga, 2, none⟩ = some (.int .i64 a2) ∧ W'.cell? ⟨ga, 3, none⟩ = some (.int .i64 a3)) ∧ (W'.cell? ⟨gm, 0, none⟩ = some (.int .i64 m0) ∧ W'.cell? ⟨gm, 1, none⟩ = some (.int .i64 m1)) ∧ v7.grownBy W' none)
                ((exact KX.out _ (by repeat (first | exact gr_refl _ _ | assumption | refine gr_drew ?_ | refine gr_alloc ?_ _ | refine gr_trans ?_ (by assumption)))))
                (first | (go_at_call 16; refine (HAF.out _).mono ?_; rintro _ wA ⟨rfl, hgA⟩) | (go_at_call 17; refine (HMO.out _).mono ?_; rintro _ wM ⟨rfl, hgM⟩) | (go_at_call 19; refine (HBO.out _).mono ?_; rintro _ wB ⟨u2, L2, rfl, hbp2, hu2, hgB⟩; have hL2 := BesP.one HBP1.out hbp2; subst hL2) | (go_at_call 18; refine (HEQ.out _ _ _ _ _ (hu7.grown (by repeat (first | exact gr_refl _ _ | assumption | refine gr_drew ?_ | refine gr_alloc ?_ _ | refine gr_trans ?_ (by assumption)))) (hu2.grown (by repeat (first | exact gr_refl _ _ | assumption | refine gr_drew ?_ | refine gr_alloc ?_ _ | refine gr_trans ?_ (by assumption))))).mono ?_; rintro _ wE ⟨rfl, hgE⟩) | fail)
              all_goals
                go_wp2_with fail
                go_meet
                exact ⟨by simp, (by repeat (first | exact gr_refl _ _ | assumption | refine gr_drew ?_ | refine gr_alloc ?_ _ | refine gr_trans ?_ (by assumption)))⟩
            case rest =>
              obtain ⟨rfl, hg⟩ := hcut
              go_wp2_with fail
              go_meet
              exact hg
      case rest =>
        have hg8 := hcut
        have hG13 := gr_trans hG12 hg8
        have hl13 := hl12.grown hg8
        have hx13 := hx12.grown hg8 (by simp)
        clear hG12 hl12 hx12 hg8 hcut hA7 hM7 hu7 HBP HREF HAO HMI HBE HIL HSC
        obtain ⟨x0, x1⟩ := hx13.cells2
        obtain ⟨T, E1, hLO, hE1, hLR⟩ := locd_cases n1 e1 p hpb
        rw [HSEE.out] at hE1
        have HLO := Lib.hid hLO
        have HE1 := Lib.hid hE1
        have HLR := Lib.hid hLR
        clear hLO hE1 hLR
        go_wp2_with fail
        refine (HLO.out _).mono ?_
        rintro _ v8 ⟨rfl, hg8⟩
        have hG14 := gr_trans hG13 hg8
        have hl14 := hl13.grown hg8
        have hx14 := hx13.grown hg8 (by simp)
        clear hG13 hl13 hx13 hg8 x0 x1
        go_upto_region 17 with fail
        go_cut [18] (fun s18 wr => s18 = .int .i64 E1 ∧ v8.grownBy wr none)
        case first =>
          as_aux_lemma =>
            rcases hpb with rfl | rfl | rfl | rfl
            all_goals
              go_wp2_with fail
              refine (when_z _ _ _).mono ?_
              rintro _ _ ⟨rfl, rfl⟩
              go_wp2_with fail
              first | refine (or2_any SE 0 _).mono ?_ | refine (or2_any SE 1 _).mono ?_
              rintro _ v9 ⟨rfl, hg9⟩
              first | rw [show (if SE = 0 then (0 : Int) else SE) = E1 from HE1.out] | rw [show (if SE = 0 then (1 : Int) else SE) = E1 from HE1.out]
              go_wp2_with fail
              go_meet
              exact ⟨rfl, hg9⟩
        case rest =>
          obtain ⟨rfl, hg9⟩ := hcut
          have hG15 := gr_trans hG14 hg9
          have hl15 := hl14.grown hg9
          have hx15 := hx14.grown hg9 (by simp)
          clear hG14 hl14 hx14 hg9
          obtain ⟨x0, x1⟩ := hx15.cells2
          go_upto_region 18 with fail
          go_cut [168] (fun s wr => s = .bool false ∧ wc.grownBy wr none)
          case first =>
            as_aux_lemma =>
              rcases HLR.out with ⟨hz, hLF⟩ | ⟨hz, hT⟩
              · subst hz
                have HLF3 := Lib.hid hLF
                clear hLF
                go_wp2_with fail
                refine (HLF3.out _).mono ?_
                rintro _ v9 ⟨rfl, hg9⟩
                go_wp2_with fail
                go_meet
                exact ⟨by simp, hg9⟩
              · subst hz
                subst hT
                go_wp2_with fail
                go_meet
                exact ⟨by simp, gr_refl _ _⟩
          case rest =>
            obtain ⟨rfl, hg10⟩ := hcut
            have hG16 := gr_trans hG15 hg10
            have hl16 := hl15.grown hg10
            clear hG15 hl15 hx15 hg10 x0 x1 HLO HLR HE1 HLF HSE
            have HWO := Lib.hid (withE_or s t2)
            have HWC := Lib.hid (withE_cases s t2)
            have HWR := Lib.hid (fun W => withinOf_any s t2 W)
            obtain ⟨WE, hWE⟩ : ∃ z, withE s t2 = z := ⟨_, rfl⟩
            obtain ⟨WB, hWB⟩ : ∃ z, withB s t2 = z := ⟨_, rfl⟩
            rw [hWE, hWB] at HWI
            obtain ⟨IB, hIB⟩ : ∃ z, (decide (WE = 0) && WB) = z := ⟨_, rfl⟩
            rw [hIB] at HWI
            have HIB := Lib.hid hIB
            clear hIB
            rw [hWE, HEE.out] at HWO
            rw [hWE] at HWC
            rw [hWB] at HWR
            obtain ⟨E2, hE2⟩ : ∃ z, locE t2 = z := ⟨_, rfl⟩
            rw [hE2] at HLF2 HWO
            clear hWE hWB hE2
            go_wp2_with fail
            refine (HWI.out _).mono ?_
            rintro _ v10 ⟨rfl, hg10⟩
            go_wp2_with fail
            refine (HLF2.out _).mono ?_
            rintro _ v11 ⟨rfl, hg11⟩
            go_wp2_with fail
            refine (or2_any _ _ _).mono ?_
            rintro _ v12 ⟨rfl, hg12⟩
            rw [HWO.out]
            have hg13 := gr_trans (gr_trans hg10 hg11) hg12
            have hG17 := gr_trans hG16 hg13
            have hl17 := hl16.grown hg13
            clear hG16 hl16 hg10 hg11 hg12 hg13
            go_upto_region 22 with fail
            go_cut [193] (fun s wr => s = .bool false ∧ wr = v12)
            case first =>
              as_aux_lemma =>
                rcases HWC.out with rfl | rfl
                · obtain rfl : IB = WB := by rw [← HIB.out]; simp
                  cases IB
                  all_goals
                    go_wp2_with fail
                    refine (HWR.out _).mono ?_
                    rintro _ _ ⟨rfl, rfl⟩
                    go_wp2_with fail
                    go_meet
                    exact ⟨by simp, rfl⟩
                · obtain rfl : IB = false := by rw [← HIB.out]; rfl
                  go_wp2_with fail
                  go_meet
                  exact ⟨by simp, rfl⟩
            case rest =>
              obtain ⟨rfl, hwc⟩ := hcut
              subst hwc
              clear HWO HWC HWR HWI HLF2 HEC HS01
              have HSQ := Lib.hid (fun W (h : StrsFrom (b + 1) W v l) => squares_few (b + 1) v l W h (by omega) HALL.out)
              have HSF := Lib.hid (fun W (h : StrsFrom (b + 1) W v l) => squaresFault_any (b + 1) v l W h (by omega) HALL.out)
              have HSO : Hid (l.all sqB = true → ∀ W, StrsFrom (b + 1) W v l → Calls Tryz.prog 29 #[v] W fun e w' => ∃ u, e = .returned u ∧ NamesFrom W.heap.size w' u (onceB (cutL l)) ∧ W.grownBy w' none) := fun ha W h =>
                squaresOf_any (b + 1) v l W h (by omega) (fun t ht => by
                  have h1 := List.all_eq_true.1 ha t ht
                  have h2 := (HALL.out t ht).1
                  unfold sqB at h1
                  simp only [Bool.and_eq_true, decide_eq_true_eq] at h1
                  exact ⟨h1.2, h2⟩)
              go_wp2_with fail
              refine (HSQ.out _ hl17).mono ?_
              rintro _ v13 hpost
              rcases hpost with ⟨q, ss, ha, rfl, hp1, hp2, hq, hg13⟩ | ⟨ha, rfl, hg13⟩
              · have HSSS := Lib.hid (sq_same hp1 hp2)
                have HA := Lib.hid ha
                have HSO1 := Lib.hid (HSO.out ha)
                have hl18 := hl17.grown hg13
                have hG18 := gr_trans hG17 hg13
                have hq1 : StrsFrom 0 v13 q (ss.map fun x => ⟨x.toArray⟩) := names_strs (base := 0) (ownsRow_low hq (Nat.zero_le _))
                rw [ha] at HSF
                clear ha hp1 hp2 hq hg13 hl17 hG17 HSO
                go_wp2_with fail
                refine (HSF.out _ hl18).mono ?_
                rintro _ v14 ⟨rfl, hg14⟩
                have hl19 := hl18.grown hg14
                have hG19 := gr_trans hG18 hg14
                have hq2 := hq1.grown hg14
                clear hl18 hG18 hq1 hg14
                go_wp2_with fail
                refine (HSO1.out _ hl19).mono ?_
                rintro _ v15 ⟨u3, rfl, hu3, hg15⟩
                have hG20 := gr_trans hG19 hg15
                have hq3 := hq2.grown hg15
                have hu4 := names_strs hu3
                rw [← HSSS.out] at hu4
                have HEQ := Lib.hid (equalStrs_n _ _ _ _ _ _ hq3 hu4)
                clear hl19 hG19 hq2 hg15 hu3 hq3 hu4
                go_wp2_with fail
                refine HEQ.out.mono ?_
                rintro _ v16 ⟨rfl, hg16⟩
                go_wp2_with fail
                refine (placed_any _).mono ?_
                rintro _ _ ⟨rfl, rfl⟩
                go_wp2_with fail
                go_ret
                exact ⟨rfl, gr_below (gr_trans hG20 hg16)⟩
              · have hl18 := hl17.grown hg13
                have hG18 := gr_trans hG17 hg13
                rw [ha] at HSF
                clear ha hg13 hl17 hG17 HSO
                go_wp2_with fail
                refine (HSF.out _ hl18).mono ?_
                rintro _ v14 ⟨rfl, hg14⟩
                go_wp2_with fail
                refine (placed_any _).mono ?_
                rintro _ _ ⟨rfl, rfl⟩
                go_wp2_with fail
                go_ret
                exact ⟨rfl, gr_below (gr_trans hG18 hg14)⟩
end Go.Proofs.YtbaocnbppefciaaGreat
