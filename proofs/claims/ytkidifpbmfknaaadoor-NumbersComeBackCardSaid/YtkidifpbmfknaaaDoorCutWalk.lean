/- The walk over key.Cut and key.Uncut at numbers of at most five digits. No condition. -/
import Derived.Test.YtkidifpbmfknaaaDoorCutPlain
import Derived.Test.YtkidifpbmfknaaaDoorFaults
import Derived.Test.YtkidifpbmfknaaaDoorShelf
namespace Go.Proofs.YtkidifpbmfknaaaDoor
open Go.RowKit
set_option linter.unusedVariables false
set_option linter.unusedSimpArgs false

theorem cut_enc : ∀ d : Fin 10, Utf8.encode ((((ByteArray.mk #[116, 49, 50, 51, 52, 53, 54, 55, 56, 110])[d.val]'(by have := d.isLt; show d.val < 10; omega)).toNat : Nat) : Int) = ⟨#[cutS.data.toList.getD d.val 0]⟩ := by decide +kernel
theorem cons_bytes (c : UInt8) (t : ByteArray) : ((⟨#[c]⟩ : ByteArray) ++ t).data.toList = c :: t.data.toList := by simp
theorem one_size (c : UInt8) : (⟨#[c]⟩ : ByteArray).size = 1 := rfl
set_option maxRecDepth 100000 in
set_option maxHeartbeats 2000000 in
theorem cut_any (n0 many : Int) (w : World) (h0 : 0 ≤ n0) (h1 : n0 ≤ 99999) (m0 : 1 ≤ many) (m1 : many ≤ 5) :
    Calls Tryd.prog 36 #[.int .i64 n0, .int .i64 many] w fun r w' => ∃ s : ByteArray, r = .returned (.tuple #[.string s, .int .i64 0]) ∧ numOK s.data.toList = true ∧ numV s.data.toList = n0 ∧ many ≤ (s.size : Int) ∧ s.size ≤ 5 ∧ w = w' := by
  have ho1 : outB n0 0 99999 = false := outB_no h0 h1
  have ho2 : outB many 1 5 = false := outB_no m0 m1
  go_enter Tryd.func36, Tryd.ntmps36
  go_wp2_with fail
  refine (outside_any n0 0 99999 _).mono ?_
  rintro _ _ ⟨rfl, rfl⟩
  rw [ho1]
  go_wp2_with fail
  refine (outside_any many 1 5 _).mono ?_
  rintro _ _ ⟨rfl, rfl⟩
  rw [ho2]
  go_wp2_with fail
  go_loop [0, 6] (fun a s => ∃ (n : Int) (t : ByteArray), a = .int .i64 n ∧ s = .string t ∧ t.size ≤ 5 ∧ Hid (CutAt n0 n t.data.toList)) (fun _ s => 5 - (match s with | .string t => t.size | _ => 0))
  case atStart => exact ⟨n0, ⟨#[]⟩, rfl, rfl, by decide, ⟨h0, rfl, by simp [numV]⟩⟩
  case round =>
    obtain ⟨n, t, rfl, rfl, ht, HC⟩ := hrel
    have hn0 := HC.out.left
    have hfew := cut_few HC.out h1
    rw [← size_len'] at hfew
    by_cases hstop : ¬ 0 < n ∧ many ≤ (t.size : Int)
    · obtain ⟨hs1, hs2⟩ := hstop
      have hz : n = 0 := by omega
      subst hz
      have HD := Lib.hid (cut_done HC.out)
      have hs3 : ¬ (t.size : Int) < many := by omega
      clear hfew
      go_wp2_with fail
      go_ret2
      exact ⟨t, rfl, HD.out.1, HD.out.2, hs2, ht, rfl⟩
    · have ht5 : t.size < 5 := by omega
      have hnb : n ≤ 99999 := by
        have e := HC.out.eq
        have hp := ten_pos t.data.toList.length
        have hv : 0 ≤ numV t.data.toList := numV_nonneg HC.out.ok
        have : n * 1 ≤ n * 10 ^ t.data.toList.length := Int.mul_le_mul_of_nonneg_left hp hn0
        omega
      obtain ⟨d, hd⟩ := Int.eq_ofNat_of_zero_le (show 0 ≤ n % 10 by omega)
      have hd10 : d < 10 := by omega
      have HC2 := Lib.hid (cut_step HC.out d hd.symm)
      have hmod : n.tmod 10 = (d : Int) := by rw [Int.tmod_eq_emod_of_nonneg hn0]; exact hd
      have hdiv : n.tdiv 10 = n / 10 := Int.tdiv_eq_ediv_of_nonneg hn0
      obtain ⟨cc, hcc⟩ : ∃ cc, cutS.data.toList.getD d 0 = cc := ⟨_, rfl⟩
      rw [hcc] at HC2
      have hcat := cons_bytes cc t
      have hsz : ((⟨#[cc]⟩ : ByteArray) ++ t).size = t.size + 1 := by rw [size_len', hcat, size_len' t]; rfl
      have HC3 : Hid (CutAt n0 (n / 10) ((⟨#[cc]⟩ : ByteArray) ++ t).data.toList) := by show CutAt _ _ _; rw [hcat]; exact HC2.out
      have HSZ := Lib.hid hsz
      have HCC := Lib.hid hcc
      clear hfew hcc hcat hsz HC2
      by_cases hn : 0 < n
      case' pos => skip
      case' neg => have hs3 : (t.size : Int) < many := by omega
      all_goals
        go_wp2_with fail
        · exfalso
          have hz := cut_enc ⟨d, hd10⟩
          simp only [HCC.out] at hz
          rename_i hbig
          rw [hz, one_size] at hbig
          omega
        · have HZ := cut_enc ⟨d, hd10⟩
          simp only [HCC.out] at HZ
          go_round
          case rel => exact ⟨n / 10, (⟨#[cc]⟩ : ByteArray) ++ t, rfl, by rw [HZ], by rw [HSZ.out]; omega, HC3⟩
          case measure =>
            rw [HZ]
            show 5 - ((⟨#[cc]⟩ : ByteArray) ++ t).size < 5 - t.size
            have := HSZ.out
            omega

theorem index_dig (x : UInt8) (w : World) : Calls Tryd.prog 73 #[.string ⟨#[48, 49, 50, 51, 52, 53, 54, 55, 56, 57]⟩, .int .u8 x.toNat] w fun e w' => e = .returned (.int .i64 (Lib.indexByte digL x)) ∧ w = w' :=
  (Tryd.strings_IndexByte _ _ w).mono fun e w' ⟨he, hw⟩ => ⟨by
    rw [he]
    have : ((x.toNat : Int)).toNat.toUInt8 = x := by simp
    rw [this]
    rfl, hw.symm⟩
theorem ret_ibi {a b : Int} (h : a = b) : Ending.returned (.tuple #[.int .i64 a, .bool true, .int .i64 0]) = .returned (.tuple #[.int .i64 b, .bool true, .int .i64 0]) := by rw [h]
set_option maxRecDepth 100000 in
set_option maxHeartbeats 2000000 in
theorem uncut_ok (s : ByteArray) (w : World) (h0 : 1 ≤ s.size) (h1 : s.size ≤ 9) (hok : numOK s.data.toList = true) :
    Calls Tryd.prog 37 #[.string s] w fun r w' => r = .returned (.tuple #[.int .i64 (numV s.data.toList), .bool true, .int .i64 0]) ∧ w = w' := by
  have ho : outB (s.size : Int) 1 9 = false := outB_no (by omega) (by omega)
  have HOK := Lib.hid hok
  clear hok
  go_enter Tryd.func37, Tryd.ntmps37
  go_wp2_with fail
  refine (outside_any _ 1 9 _).mono ?_
  rintro _ _ ⟨rfl, rfl⟩
  rw [ho]
  go_wp2_with fail
  go_loop [5, 13] (fun n i => ∃ (k : Nat) (m : Int), k ≤ s.size ∧ i = .int .i64 k ∧ n = .int .i64 m ∧ 0 ≤ m ∧ m ≤ 999999999 ∧ Hid (m = numV (s.data.toList.take k))) (fun _ i => s.size - (intOf i).toNat)
  case atStart => exact ⟨0, 0, Nat.zero_le _, rfl, rfl, by omega, by omega, rfl⟩
  case round =>
    obtain ⟨k, m, hk, rfl, rfl, hm0, hm1, HM⟩ := hrel
    by_cases hlt : k < s.size
    · have hlt2 : (k : Int) < (s.size : Int) := by omega
      have hkl : k < s.data.toList.length := by rw [← size_len']; exact hlt
      have htk : s.data.toList.take (k + 1) = s.data.toList.take k ++ [s[k]] := by
        rw [List.take_succ_eq_append_getElem hkl]; rfl
      have hall := List.all_eq_true.1 HOK.out
      have hc0 : 0 ≤ dOf s[k] := by
        have := hall s[k] (List.getElem_mem hkl)
        simpa using this
      have hkok : numOK (s.data.toList.take (k + 1)) = true := List.all_eq_true.2 fun x hx => hall x (List.mem_of_mem_take hx)
      have hbd := numV_bd (s.data.toList.take (k + 1)) (by rw [List.length_take]; omega) hkok
      rw [htk, numV_snoc, ← HM.out] at hbd
      have HN : Hid (10 * m + dOf s[k] = numV (s.data.toList.take (k + 1))) := by show _ = _; rw [htk, numV_snoc, ← HM.out]
      have hd9 := (dOf_bd s[k]).2
      obtain ⟨c, hc⟩ : ∃ c, s[k] = c := ⟨_, rfl⟩
      rw [hc] at hc0 hbd HN hd9
      have HC := Lib.hid hc
      have hcn : (s[k].toNat : Int) = (c.toNat : Int) := by rw [hc]
      have hi9 : -1 ≤ Lib.indexByte digL c ∧ Lib.indexByte digL c ≤ 9 := by
        have h : ∀ n : Fin 256, -1 ≤ Lib.indexByte digL (UInt8.ofNat n.val) ∧ Lib.indexByte digL (UInt8.ofNat n.val) ≤ 9 := by decide +kernel
        have := h ⟨c.toNat, c.toNat_lt⟩
        simpa using this
      have hne : ∀ z : UInt8, c ≠ z → ¬ (c.toNat : Int) = (z.toNat : Int) := fun z h e => h (UInt8.toNat_inj.1 (by omega))
      clear htk hall hkok hc
      have hway : (c = 116 ∧ dOf c = 0) ∨ (c = 111 ∧ dOf c = 0) ∨ (c = 97 ∧ dOf c = 1) ∨ (c = 110 ∧ dOf c = 9) ∨ (c ≠ 116 ∧ c ≠ 111 ∧ c ≠ 97 ∧ c ≠ 110 ∧ dOf c = Lib.indexByte digL c) := by
        by_cases e1 : c = 116
        · exact .inl ⟨e1, by rw [e1]; rfl⟩
        by_cases e2 : c = 111
        · exact .inr (.inl ⟨e2, by rw [e2]; rfl⟩)
        by_cases e3 : c = 97
        · exact .inr (.inr (.inl ⟨e3, by rw [e3]; rfl⟩))
        by_cases e4 : c = 110
        · exact .inr (.inr (.inr (.inl ⟨e4, by rw [e4]; rfl⟩)))
        · exact .inr (.inr (.inr (.inr ⟨e1, e2, e3, e4, by unfold dOf; rw [if_neg (by simp [e1, e2]), if_neg e3, if_neg e4]⟩)))
      obtain ⟨D, hD⟩ : ∃ D, dOf c = D := ⟨_, rfl⟩
      rw [hD] at hc0 hbd HN hd9 hway
      clear hD
      obtain ⟨hb0, hb1⟩ := hbd
      obtain ⟨hi0, hi1⟩ := hi9
      obtain ⟨X, hX⟩ : ∃ X, Lib.indexByte digL c = X := ⟨_, rfl⟩
      rw [hX] at hi0 hi1 hway
      have HI : Hid (∀ (Z : Int) (W : World), (s[k].toNat : Int) = Z → Calls Tryd.prog 73 #[.string ⟨#[48, 49, 50, 51, 52, 53, 54, 55, 56, 57]⟩, .int .u8 Z] W fun e w' => e = .returned (.int .i64 X) ∧ W = w') := fun Z W hZ => by
        rw [← hZ, hcn, ← hX]; exact index_dig c W
      clear hX
      rcases hway with ⟨rfl, hw⟩ | ⟨rfl, hw⟩ | ⟨rfl, hw⟩ | ⟨rfl, hw⟩ | ⟨e1, e2, e3, e4, hw⟩
      case' inl => have hq : (s[k].toNat : Int) = 116 := by rw [hcn]; rfl
      case' inr.inl => have hq : (s[k].toNat : Int) = 111 := by rw [hcn]; rfl
      case' inr.inr.inl => have hq : (s[k].toNat : Int) = 97 := by rw [hcn]; rfl
      case' inr.inr.inr.inl => have hq : (s[k].toNat : Int) = 110 := by rw [hcn]; rfl
      case' inr.inr.inr.inr =>
        have hq1 : ¬ (s[k].toNat : Int) = 116 := by rw [hcn]; exact hne 116 e1
        have hq2 : ¬ (s[k].toNat : Int) = 111 := by rw [hcn]; exact hne 111 e2
        have hq3 : ¬ (s[k].toNat : Int) = 97 := by rw [hcn]; exact hne 97 e3
        have hq4 : ¬ (s[k].toNat : Int) = 110 := by rw [hcn]; exact hne 110 e4
        clear e1 e2 e3 e4
      all_goals
        subst hw
        clear hne hcn
        go_wp2_with fail
        refine (HI.out _ _ (by first | exact hq | rfl)).mono ?_
        rintro _ _ ⟨rfl, rfl⟩
        go_wp2_with fail
        go_round
        case rel => exact ⟨k + 1, _, by omega, by go_num, by first | rfl | (congr 1; omega), by omega, by omega, by first | exact HN | (show _ = _; rw [← HN.out]; omega)⟩
        case measure => simp [intOf]; omega
    · have hlt2 : ¬ (k : Int) < (s.size : Int) := by omega
      have HE : Hid (m = numV s.data.toList) := by
        show _ = _
        have := HM.out
        rwa [List.take_of_length_le (by rw [← size_len']; omega)] at this
      go_wp2_with fail
      go_ret3
      exact ⟨ret_ibi HE.out, rfl⟩
end Go.Proofs.YtkidifpbmfknaaaDoor
