/- The walk over place.Farthest, with all its errors but that of a list too long. Condition: a short list of short texts. -/
import Derived.Test.YtnapbnkbchaanaaGreatDoorFarRef
import Derived.Test.YtnapbnkbchaanaaGreatDoorIsLoc
import Derived.Test.YtnapbnkbchaanaaGreatDoorLoc4
namespace Go.Proofs.YtnapbnkbchaanaaGreatDoor
open Go.RowKit
set_option linter.unusedVariables false

theorem middle_right (s : ByteArray) (w : World) (h : locB s = true) :
    Calls Tryz.prog 95 #[.string s] w fun r w' => r = .returned (.agg #[.int .i64 (midN s), .int .i64 (midE s)]) ∧ w.grownBy w' none :=
  middle_ok s (signX s) (s.size / 2) w (locS_right h)
def farV (s : ByteArray) (l : List ByteArray) : Int × Int × Int :=
  if locB s then (if l.length = 0 then (0, 0, 8) else if l.all fun t => locB t then ((farTo s l l.length).1, (farTo s l l.length).2, 0) else (0, 0, 3)) else (0, 0, 3)

set_option maxHeartbeats 8000000 in
theorem farthest_few (base : Nat) (v : Value) (s : ByteArray) (l : List ByteArray) (w : World) (hl : StrsFrom base w v l) (hn : l.length ≤ 2000) (hz : s.size ≤ 13) (ha : Ascii s) (hall : ∀ t ∈ l, t.size ≤ 13 ∧ Ascii t) :
    Calls Tryz.prog 40 #[.string s, v] w fun r w' => r = .returned (.tuple #[.int .i64 (farV s l).1, .int .i64 (farV s l).2.1, .int .i64 (farV s l).2.2]) ∧ w.grownBy w' none := by
  obtain ⟨A, c, rfl, hlen, hA⟩ := hl.shape
  have HL := Lib.hid hl
  have HALL := Lib.hid hall
  have HI := Lib.hid (fun W => isLocator_any s W (by omega) ha)
  have hn2 : ¬ (2000 < (l.length : Int)) := by omega
  clear hl hall ha hz
  cases hs : locB s with
  | false =>
    have HE : Hid (farV s l = (0, 0, 3)) := by show _ = _; unfold farV; rw [hs]; rfl
    rw [hs] at HI
    clear hs
    go_enter Tryz.func40, Tryz.ntmps40
    go_wp2_with fail
    refine (HI.out _).mono ?_
    rintro _ w1 ⟨rfl, hg⟩
    go_wp2_with fail
    refine bodyPost_ret (v := .tuple #[.int .i64 0, .int .i64 0, .int .i64 3]) (by simp [results, Tryz.results40, go_sem]) rfl ⟨by rw [HE.out], hg⟩
  | true =>
    by_cases h0 : l.length = 0
    · have HE : Hid (farV s l = (0, 0, 8)) := by show _ = _; unfold farV; rw [hs, if_pos rfl, if_pos h0]
      rw [hs] at HI
      rw [h0] at hn2 ⊢
      clear hs h0 hA
      go_enter Tryz.func40, Tryz.ntmps40
      go_wp2_with fail
      refine (HI.out _).mono ?_
      rintro _ w1 ⟨rfl, hg⟩
      go_wp2_with fail
      refine bodyPost_ret (v := .tuple #[.int .i64 0, .int .i64 0, .int .i64 8]) (by simp [results, Tryz.results40, go_sem]) rfl ⟨by rw [HE.out], hg⟩
    · have h9 : ((l.length : Int) == 0) = false := by rw [beq_eq_false_iff_ne]; omega
      have h8 : ¬ ((l.length : Int) = 0) := by omega
      have HM := Lib.hid (fun W => middle_right s W hs)
      have hb1 := mid_bd hs
      have HFV : Hid (farV s l = if l.all fun t => locB t then ((farTo s l l.length).1, (farTo s l l.length).2, 0) else (0, 0, 3)) := by show _ = _; unfold farV; rw [hs, if_pos rfl, if_neg h0]
      rw [hs] at HI
      clear hs
      go_enter Tryz.func40, Tryz.ntmps40
      go_wp2_with fail
      refine (HI.out _).mono ?_
      rintro _ w1 ⟨rfl, hg⟩
      go_wp2_with fail
      go_loopw [7, 8, 23] (fun b f i wr => ∃ k : Nat, k ≤ l.length ∧ i = .int .i64 k ∧ ((l.take k).all fun t => locB t) = true ∧ b = .int .i64 (farTo s l k).1 ∧ f = .int .i64 (farTo s l k).2 ∧ w.grownBy wr none) (fun _ _ i _ => l.length - (intOf i).toNat)
      case atStart => exact ⟨0, by omega, rfl, by simp, rfl, rfl, hg⟩
      case round =>
        obtain ⟨k, hk, rfl, hok, rfl, rfl, hgr⟩ := hrel
        have HOK := Lib.hid hok
        clear hok hg
        by_cases hlt : k < l.length
        · obtain ⟨g, rfl, hg0, hg1⟩ := hA (by omega)
          have hkl : (k : Int) < (l.length : Int) := by omega
          have c0 := (HL.out.grown hgr).at_ k hlt
          obtain ⟨tz, ta⟩ := HALL.out _ (List.getElem_mem hlt)
          have HAT := Lib.hid (all_take k hlt)
          have HST : Hid (farTo s l (k + 1) = if farL s l[k] > (farTo s l k).2 then ((k : Int), farL s l[k]) else farTo s l k) := by
            show _ = _
            have e : l.getD k default = l[k] := by simp [hlt]
            show (if farL s (l.getD k default) > (farTo s l k).2 then ((k : Int), farL s (l.getD k default)) else farTo s l k) = _
            rw [e]
          obtain ⟨t, hts⟩ : ∃ t, l[k] = t := ⟨_, rfl⟩
          rw [hts] at c0 tz ta HST HAT
          have HTS := Lib.hid hts
          have HI2 := Lib.hid (fun W => isLocator_any t W (by omega) ta)
          clear hts ta tz hA
          cases hb : locB t with
          | false =>
            have HE : Hid (farV s l = (0, 0, 3)) := by
              show _ = _
              rw [HFV.out, if_neg]
              intro h
              have h2 := List.all_eq_true.1 h _ (List.getElem_mem hlt)
              rw [HTS.out, hb] at h2
              cases h2
            rw [hb] at HI2
            clear hb hb1
            go_wp2_with fail
            refine (HI2.out _).mono ?_
            rintro _ w2 ⟨rfl, hga⟩
            go_wp2_with fail
            refine bodyPost_ret (v := .tuple #[.int .i64 0, .int .i64 0, .int .i64 3]) (by simp [results, Tryz.results40, go_sem]) rfl ⟨by rw [HE.out], gr_trans hgr hga⟩
          | true =>
            have HM2 := Lib.hid (fun W => middle_right t W hb)
            have hb2 := mid_bd hb
            have HOK2 : Hid (((l.take (k + 1)).all fun t => locB t) = true) := by show _ = _; rw [HAT.out, HOK.out, hb]; rfl
            have HD : Hid (∀ W : World, Calls Tryz.prog 94 #[.agg #[.int .i64 (midN s), .int .i64 (midE s)], .agg #[.int .i64 (midN t), .int .i64 (midE t)]] W fun r w' => r = .returned (.int .i64 (farL s t)) ∧ W.grownBy w' none) := fun W => distance_any _ _ _ _ W (by omega) (by omega) (by omega) (by omega) (by omega) (by omega) (by omega) (by omega)
            have hfb := farTo_bd s l k
            rw [hb] at HI2
            generalize farTo s l k = p at *
            obtain ⟨p1, p2⟩ := p
            generalize farL s t = D at *
            clear hb hb1 hb2
            go_wp2_with fail
            refine (HI2.out _).mono ?_
            rintro _ w2 ⟨rfl, hg2⟩
            go_wp2_with fail
            refine (HM.out _).mono ?_
            rintro _ w3 ⟨rfl, hga⟩
            go_wp2_with fail
            refine (HM2.out _).mono ?_
            rintro _ w4 ⟨rfl, hgb⟩
            go_wp2_with fail
            refine (HD.out _).mono ?_
            rintro _ w5 ⟨rfl, hgc⟩
            have hG3 := gr_trans hgr (gr_trans hg2 (gr_trans hga (gr_trans hgb hgc)))
            by_cases hgt : p2 < D
            · go_wp2_with fail
              go_roundw
              case rel => exact ⟨k + 1, by omega, by go_num, HOK2.out, by rw [HST.out, if_pos hgt], by rw [HST.out, if_pos hgt], hG3⟩
              case measure => simp [intOf]; omega
            · go_wp2_with fail
              go_roundw
              case rel => exact ⟨k + 1, by omega, by go_num, HOK2.out, by rw [HST.out, if_neg (by omega)], by rw [HST.out, if_neg (by omega)], hG3⟩
              case measure => simp [intOf]; omega
        · have hkl : ¬ ((k : Int) < l.length) := by omega
          obtain rfl : k = l.length := by omega
          have HE : Hid (farV s l = ((farTo s l l.length).1, (farTo s l l.length).2, 0)) := by
            show _ = _
            have h := HOK.out
            rw [List.take_of_length_le (by omega)] at h
            rw [HFV.out, if_pos h]
          generalize farTo s l l.length = p at *
          obtain ⟨p1, p2⟩ := p
          go_wp2_with fail
          refine bodyPost_ret (v := .tuple #[.int .i64 p1, .int .i64 p2, .int .i64 0]) (by simp [results, Tryz.results40, go_sem]) rfl ⟨by rw [HE.out], hgr⟩
end Go.Proofs.YtnapbnkbchaanaaGreatDoor
