/- The walks over key.Unit and key.Speed, over the document's SpeedOf and UnitsOf, and over the stream's CodeString. Condition: asciiSpace is Go's own table, MaxLen holds a number. -/
import Derived.Test.YtcimnlcmpfagnaaDoorLowest
import Derived.Test.YtcimnlcmpfagnaaDoorRefCode
import Derived.Test.YtcimnlcmpfagnaaDoorRefSaid
import Derived.Test.YtcimnlcmpfagnaaDoorSayW
import Derived.Test.YtcimnlcmpfagnaaDoorKeyedMarks
import Derived.Deep.DeepCutAuto
namespace Go.Proofs.YtcimnlcmpfagnaaDoor
open Go.RowKit
set_option linter.unusedVariables false
set_option linter.unusedSimpArgs false

/-- 1200 divided by a number of words a minute, where it is from 1 to 100. -/
def unitV (k : Int) : Int := if spanE k 1 100 = 0 then 1200 / k else 0
set_option maxHeartbeats 1000000 in
theorem unit_any (k : Int) (w : World) : Calls Tryd.prog 39 #[.int .i64 k] w fun e w' => e = .returned (.tuple #[.int .i64 (unitV k), .int .i64 (spanE k 1 100)]) ∧ w = w' := by
  have HO := Lib.hid (fun W => outside_any k 1 100 W)
  rcases spanE_cases k 1 100 with ⟨hs, h1, h2⟩ | ⟨hs, ho⟩
  · have hv : unitV k = 1200 / k := by unfold unitV; rw [if_pos hs]
    rw [outB_no h1 h2] at HO
    rw [hv, hs]
    obtain ⟨q, hq⟩ : ∃ q, (1200 : Int) / k = q := ⟨_, rfl⟩
    have hq0 : 0 ≤ q := by rw [← hq]; exact Int.ediv_nonneg (by decide) (by omega)
    have hq1 : q ≤ 1200 := by rw [← hq]; exact Int.ediv_le_self _ (by decide)
    have hw : IntKind.i64.wrap (Int.tdiv 1200 k) = q := by
      rw [Int.tdiv_eq_ediv_of_nonneg (by decide), hq]
      exact IntWalk.i64_in _ ⟨by omega, by omega⟩
    have hw2 : IntKind.i64.wrap (1200 / k) = q := by
      rw [hq]
      exact IntWalk.i64_in _ ⟨by omega, by omega⟩
    have hne : (k == 0) = false := by rw [beq_eq_false_iff_ne]; omega
    have hne2 : ¬ k = 0 := by omega
    have HQ := Lib.hid hq
    clear hv hs hq
    go_enter Tryd.func39, Tryd.ntmps39
    go_wp2_with fail
    refine (HO.out _).mono ?_
    rintro _ _ ⟨rfl, rfl⟩
    go_wp2_with fail
    go_ret2
    exact ⟨by rw [HQ.out]; rfl, rfl⟩
  · have hv : unitV k = 0 := by unfold unitV; rw [hs]; rfl
    rw [outB_yes ho] at HO
    rw [hv, hs]
    go_enter Tryd.func39, Tryd.ntmps39
    go_wp2_with fail
    refine (HO.out _).mono ?_
    rintro _ _ ⟨rfl, rfl⟩
    go_wp2_with fail
    go_ret2
    exact ⟨rfl, rfl⟩
set_option maxRecDepth 100000 in
set_option maxHeartbeats 4000000 in
theorem refUnits_any (b : Nat) (s : ByteArray) (w : World) (hgl : Gl b w) (h0 : saidE s = 0) :
    Calls Tryd.prog 36 #[.string s] w fun e w' => e = .returned (.int .i64 (unitsI s)) ∧ w.grownBy w' none := by
  obtain ⟨z0, z1, z2⟩ := (saidE_is s).1 h0
  have hk := keyed_same h0 1 1
  have hR := keyedOf_any b s 1 1 w hgl z0 z2 (by decide) (by decide) (by decide) (by decide)
  rw [hk] at hR
  have HR := Lib.hid hR
  have hlen := sL_len 1 1 s
  have hone := sL_one (codesOf s)
  have HU : Hid (unitsI s = (sL 1 1 (codesOf s)).sum) := rfl
  generalize sL 1 1 (codesOf s) = K at *
  have HBD : Hid (∀ k, k ≤ K.length → 0 ≤ (K.take k).sum ∧ (K.take k).sum ≤ 7 * (k : Int)) := fun k => by
    induction k with
    | zero => intro _; simp
    | succ k ih =>
      intro hk
      have := ih (by omega)
      rw [sum_snoc K k (by omega)]
      have := hone _ (List.getElem_mem (show k < K.length by omega))
      push_cast
      omega
  clear hk hR hone h0 z1 z2 hgl
  go_enter Tryd.func36, Tryd.ntmps36
  go_wp2_with fail
  refine HR.out.mono ?_
  rintro _ w1 ⟨v, rfl, hv, hg1⟩
  obtain ⟨A, c, rfl, hvl, hA⟩ := IntsFrom.shape hv
  have HA := Lib.hid hA
  obtain ⟨M, hM⟩ : ∃ M, K.length = M := ⟨_, rfl⟩
  have HM := Lib.hid hM
  have HV : Hid (IntsFrom w.heap.size w1 (.slice A K.length c) K) := hv
  rw [hM] at HA hvl hlen ⊢
  clear hv hA hM
  go_wp2_with fail
  go_loop [3, 9] (fun s i => ∃ k : Nat, k ≤ M ∧ i = .int .i64 k ∧ s = .int .i64 (K.take k).sum) (fun _ i => M - (intOf i).toNat)
  case atStart => exact ⟨0, by omega, rfl, rfl⟩
  case round =>
    obtain ⟨k, hk, rfl, rfl⟩ := hrel
    by_cases hlt : k < M
    · have hki : (k : Int) < (M : Int) := by omega
      obtain ⟨g, rfl, _, _⟩ := HA.out (by omega)
      have hkl : k < K.length := by rw [HM.out]; exact hlt
      have hat : w1.cell? ⟨g, k, none⟩ = some (.int .i64 K[k]) := IntsFrom.at_ HV.out k hkl
      have hb0 := HBD.out k (by rw [HM.out]; exact hk)
      have hb1 := HBD.out (k + 1) hkl
      have hsn := sum_snoc K k hkl
      rw [hsn] at hb1
      have HSN := Lib.hid hsn
      clear hsn
      generalize K[k] = x at *
      generalize (K.take k).sum = S at *
      have hwx : IntKind.i64.wrap (S + x) = S + x := IntWalk.i64_in _ ⟨by omega, by omega⟩
      go_wp2_with fail
      go_round
      case rel => exact ⟨k + 1, by omega, by go_num, by rw [HSN.out]⟩
      case measure => simp [intOf]; omega
    · have hki : ¬ (k : Int) < (M : Int) := by omega
      have hfull : K.take k = K := List.take_of_length_le (by rw [HM.out]; omega)
      rw [hfull]
      clear hfull
      go_wp2_with fail
      go_ret
      exact ⟨by rw [HU.out]; rfl, hg1⟩
def CodeStrPost (b k : Nat) (w : World) (e : Ending) (w' : World) : Prop :=
  ∃ u : ByteArray, e = .returned (.string u) ∧ u.size ≤ 400 ∧ Ascii u ∧ Str w' b (k + 120) ∧ w.grownBy w' (some b)
theorem coded_ascii {s : ByteArray} : Ascii (strB (codedL s.data.toList)) := by
  refine Ascii.of_mem (isp_all (P := fun c => c.toNat < 128) ?_ ?_)
  · intro c hc
    simp at hc
    rcases hc with rfl | rfl | rfl <;> decide
  · intro p hp
    obtain ⟨q, _, rfl⟩ := List.mem_map.1 hp
    refine isp_all (P := fun c => c.toNat < 128) ?_ ?_
    · intro c hc
      simp at hc
      subst hc; decide
    · intro y hy
      obtain ⟨x, _, rfl⟩ := List.mem_map.1 hy
      intro c hc
      rcases codeOf_dash x c hc with rfl | rfl <;> decide
set_option maxRecDepth 100000 in
set_option maxHeartbeats 4000000 in
theorem codeStr_in (B b k : Nat) (w : World) (hs : Str w b k) (hk : k ≤ 10000000) (hgl : Gl B w) (hB : B ≤ b) :
    Calls Tryd.prog 28 #[.pointer (some ⟨b, 0, none⟩)] w (CodeStrPost b k w) := by
  have hbs := hs.lt
  have HGL := Lib.hid hgl
  clear hgl
  go_enter Tryd.func28, Tryd.ntmps28
  go_wp2_with fail
  refine (saying_in b k _ hs (by omega)).mono ?_
  rintro _ w1 ⟨t, rfl, ht40, hta, hs1, hg1⟩
  have HTA := Lib.hid hta
  have hgl1 := Lib.hid (HGL.out.grown hg1 (fun g e => by injection e with e; omega))
  clear hs hta
  go_wp2_with fail
  refine (refSaid_any B t _ hgl1.out HTA.out (by omega)).mono ?_
  rintro _ w2 ⟨rfl, hg2⟩
  have hgl2 := Lib.hid (hgl1.out.quiet hg2)
  have hs2 := hs1.grown hg2 (by simp)
  have hG2 := gr_trans hg1 (gr_weak hg2 (some b))
  clear hs1 hg1 hg2 hgl1
  have HRC := Lib.hid (fun (h : saidE t = 0) => refCoded_any B t w2 hgl2.out h)
  have hcl := codedL_len t.data.toList
  have hpl : t.data.toList.length = t.size := by simp
  have hcs : (strB (codedL t.data.toList)).size ≤ 280 := by rw [strB_size]; omega
  have hca := Lib.hid (coded_ascii (s := t))
  generalize strB (codedL t.data.toList) = T at *
  generalize saidE t = E at *
  go_upto_if 9 with fail
  go_cut [3] (fun s wq => ∃ u : ByteArray, s = .string u ∧ u.size ≤ 280 ∧ Hid (Ascii u) ∧ Str wq b (k + 100) ∧ w.grownBy wq (some b))
  case first =>
    as_aux_lemma =>
      by_cases h0 : E = 0
      · subst h0
        have HR := Lib.hid (HRC.out rfl)
        go_wp2_with fail
        refine HR.out.mono ?_
        rintro _ w3 ⟨rfl, hg3⟩
        go_wp2_with fail
        go_meet
        exact ⟨T, rfl, hcs, hca, hs2.grown hg3 (by simp), gr_trans hG2 (gr_weak hg3 (some b))⟩
      · have hb0 : (E == 0) = false := by rw [beq_eq_false_iff_ne]; exact h0
        go_wp2_with fail
        go_meet
        exact ⟨_, rfl, by decide, Ascii.of_mem (by decide), hs2, hG2⟩
  case rest =>
    obtain ⟨u, rfl, hu, hua, hs3, hG3⟩ := hcut
    clear hs2 hG2 hgl2 HRC hca hcs
    go_wp2_with fail
    refine (pick_at b _ _ 4 4 [0, 1, 1, 2] _ hs3 (by first | rfl | simp) (by omega) rfl (by decide) (by decide)).mono ?_
    rintro _ w4 ⟨m', hm, rfl, hs4, hg4⟩
    have hmb : 0 ≤ m' ∧ m' ≤ 2 := by simp at hm; omega
    obtain ⟨m, rfl⟩ := Int.eq_ofNat_of_zero_le hmb.1
    have hG4 := gr_trans hG3 hg4
    clear hm hs3 hG3 hg4
    go_wp2_with fail
    go_loopw [3, 15] (fun s i wr => ∃ (q : Nat) (x : ByteArray), q ≤ m ∧ i = .int .i64 q ∧ s = .string x ∧ x.size ≤ 280 + 6 * q ∧ Hid (Ascii x) ∧ Str wr b (k + 101 + 3 * q) ∧ w.grownBy wr (some b)) (fun _ i _ => m - (intOf i).toNat)
    case atStart => exact ⟨0, u, by omega, rfl, rfl, by omega, hua, hs4.mono (by omega), hG4⟩
    case round =>
      obtain ⟨q, x, hq, rfl, rfl, hx, hxa, hsr, hgr⟩ := hrel
      by_cases hlt : q < m
      · have hqm : (q : Int) < (m : Int) := by omega
        go_wp2_with fail
        refine (changed_in b _ _ _ _ hsr (by omega) (by omega) (by decide) hxa.out (Ascii.of_mem (by decide))).mono ?_
        rintro _ w5 ⟨y, rfl, hy, hya, hs5, hg5⟩
        have hys : y.size ≤ 280 + 6 * (q + 1) := Nat.le_trans hy (by show x.size + 6 ≤ _; omega)
        have HYA := Lib.hid hya
        clear hy hya
        go_wp2_with fail
        go_roundw
        case rel => exact ⟨q + 1, y, by omega, by go_num, rfl, hys, HYA, hs5.mono (by omega), gr_trans hgr hg5⟩
        case measure => simp [intOf]; omega
      · have hqm : ¬ (q : Int) < (m : Int) := by omega
        go_wp2_with fail
        go_ret
        exact ⟨x, rfl, by omega, hxa.out, hsr.mono (by omega), hgr⟩
end Go.Proofs.YtcimnlcmpfagnaaDoor
