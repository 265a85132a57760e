/- The walks over kit.Words and key.CheckSaid. Condition: asciiSpace is Go's own table, MaxLen holds a number. -/
import Derived.Test.YtjhklpffmfdkbaaGreatDoorStrs
import Derived.Test.YtjhklpffmfdkbaaGreatDoorKeyBytes
namespace Go.Proofs.YtjhklpffmfdkbaaGreatDoor
open Go.RowKit
set_option linter.unusedVariables false

/-- Is no piece empty? -/
def fullB (l : List ByteArray) : Bool := l.all fun p => !p.toList.isEmpty
theorem fullB_fail {l : List ByteArray} (k : Nat) (h : k < l.length) (he : l[k].toList.isEmpty = true) : fullB l = false := by
  unfold fullB
  rw [List.all_eq_false]
  exact ⟨l[k], List.getElem_mem h, by simp [he]⟩
theorem fullB_snoc (l : List ByteArray) (k : Nat) (h : k < l.length) (h1 : fullB (l.take k) = true) (he : l[k].toList.isEmpty = false) : fullB (l.take (k + 1)) = true := by
  rw [List.take_succ_eq_append_getElem h]
  unfold fullB at h1 ⊢
  rw [List.all_append, h1]
  simp [he]

/-- What Words hands back. -/
def WordsPost (s : ByteArray) (w : World) (e : Ending) (w' : World) : Prop :=
  w.grownBy w' none ∧ ((fullB (wordsOf s) = false ∧ e = .returned (.tuple #[.slice none 0 0, .bool false])) ∨
  (fullB (wordsOf s) = true ∧ ∃ v, e = .returned (.tuple #[v, .bool true]) ∧ StrsFrom w.heap.size w' v (wordsOf s)))

set_option maxHeartbeats 1000000 in
theorem words_any (b : Nat) (s : ByteArray) (w : World) (hgl : Gl b w) (hs : s.size < 4294967281) :
    Calls Tryz.prog 92 #[.string s] w (WordsPost s w) := by
  go_enter Tryz.func92, Tryz.ntmps92
  go_wp2_with fail
  refine (split_blank b s _ hgl hs).mono ?_
  rintro _ w1 ⟨v, rfl, hv, hg⟩
  obtain ⟨A, c, rfl, hl, hA⟩ := hv.shape
  obtain ⟨g, rfl, hg0, _⟩ := hA (wordsOf_pos s)
  have HV := Lib.hid hv
  clear hv hA hgl
  go_wp2_with fail
  go_loop [11] (fun i => ∃ k : Nat, k ≤ (wordsOf s).length ∧ i = .int .i64 k ∧ Hid (fullB ((wordsOf s).take k) = true)) (fun i => (wordsOf s).length - (intOf i).toNat)
  case atStart => exact ⟨0, by omega, rfl, rfl⟩
  case round =>
    obtain ⟨k, hk, rfl, HR⟩ := hrel
    by_cases hlt : k < (wordsOf s).length
    · have hat := HV.out.at_ k hlt
      obtain ⟨p, hp⟩ : ∃ p, (wordsOf s)[k] = p := ⟨_, rfl⟩
      rw [hp] at hat
      have hlt2 : (k : Int) < ((wordsOf s).length : Int) := by omega
      cases he : p.toList.isEmpty
      · have HN := Lib.hid (fullB_snoc _ k hlt HR.out (by rw [hp]; exact he))
        have HP := Lib.hid hp
        clear hp
        go_wp2_with fail
        go_round
        case rel => exact ⟨k + 1, by omega, by go_num, HN⟩
        case measure => simp [intOf]; omega
      · have HN := Lib.hid (fullB_fail k hlt (by rw [hp]; exact he))
        have HP := Lib.hid hp
        clear hp
        go_wp2_with fail
        go_ret2
        exact ⟨hg, .inl ⟨HN.out, rfl⟩⟩
    · have hlt2 : ¬ (k : Int) < ((wordsOf s).length : Int) := by omega
      have HF : Hid (fullB (wordsOf s) = true) := by
        have := HR.out
        rwa [List.take_of_length_le (by omega)] at this
      go_wp2_with fail
      go_ret2
      exact ⟨hg, .inr ⟨HF.out, _, rfl, HV.out⟩⟩

/-- The code of a byte, as a string. -/
def codeS (c : UInt8) : ByteArray := ⟨(codeOf c).toArray⟩
theorem codeS_data (c : UInt8) : (codeS c).data.toList = codeOf c := rfl
theorem codeS_empty (c : UInt8) : (codeS c).toList.isEmpty = (codeOf c).isEmpty := by rw [Lib.toList_data, codeS_data]
theorem MapB.code {w : World} {bm : Nat} (h : MapB w bm 40 codeT) (c : UInt8) :
    (Instr.lookup 130 (.map (some bm)) (.int .u8 (c.toNat : Int)) false).run Tryz.prog w = .ok (.string (codeS c)) w := by
  have := h.look c
  rw [look_codes] at this
  exact this

/-- Has each byte a code? -/
def coded (p : ByteArray) : Bool := p.data.toList.all fun c => !(codeOf c).isEmpty
def saidE (s : ByteArray) : Int := if 500 < s.size then 2 else if fullB (wordsOf s) = true ∧ (wordsOf s).all coded = true then 0 else 3
theorem saidE_large {s : ByteArray} (h : 500 < s.size) : saidE s = 2 := by unfold saidE; rw [if_pos h]
theorem saidE_ok {s : ByteArray} (h : ¬ 500 < s.size) (h1 : fullB (wordsOf s) = true) (h2 : (wordsOf s).all coded = true) : saidE s = 0 := by unfold saidE; rw [if_neg h, if_pos ⟨h1, h2⟩]
theorem saidE_gap {s : ByteArray} (h : ¬ 500 < s.size) (h1 : fullB (wordsOf s) = false) : saidE s = 3 := by unfold saidE; rw [if_neg h, if_neg (by rw [h1]; simp)]
theorem saidE_sign {s : ByteArray} (h : ¬ 500 < s.size) (k : Nat) (hk : k < (wordsOf s).length) (n : Nat) (hn : n < (wordsOf s)[k].size) (he : (codeOf (wordsOf s)[k][n]).isEmpty = true) : saidE s = 3 := by
  unfold saidE
  rw [if_neg h, if_neg]
  rintro ⟨-, h2⟩
  have h3 := List.all_eq_true.1 h2 _ (List.getElem_mem hk)
  unfold coded at h3
  have h4 := List.all_eq_true.1 h3 (wordsOf s)[k][n] (by show (wordsOf s)[k].data[n] ∈ _; simp)
  rw [he] at h4
  simp at h4
theorem saidE_zero {s : ByteArray} (h : saidE s = 0) : s.size ≤ 500 ∧ fullB (wordsOf s) = true ∧ (wordsOf s).all coded = true := by
  unfold saidE at h
  split at h
  · omega
  · split at h
    · rename_i h1 h2; exact ⟨by omega, h2⟩
    · omega

set_option maxRecDepth 100000 in
set_option maxHeartbeats 2000000 in
theorem checkSaid_any (b : Nat) (s : ByteArray) (w : World) (hgl : Gl b w) (hs : s.size < 4294967281) :
    Calls Tryz.prog 61 #[.string s] w fun e w' => e = .returned (.int .i64 (saidE s)) ∧ w.grownBy w' none := by
  by_cases hl : 500 < s.size
  · have hl2 : (500 : Int) < (s.size : Int) := by omega
    have HE := Lib.hid (saidE_large hl)
    clear hgl
    go_enter Tryz.func61, Tryz.ntmps61
    go_wp2_with fail
    go_ret
    exact ⟨ret_of HE.out.symm, gr_refl _ _⟩
  have hl2 : ¬ (500 : Int) < (s.size : Int) := by omega
  have HGL := Lib.hid hgl
  clear hgl
  go_enter Tryz.func61, Tryz.ntmps61
  go_wp2_with fail
  refine (words_any b s _ HGL.out hs).mono ?_
  rintro _ w1 ⟨hg1, hpost⟩
  rcases hpost with ⟨hf, rfl⟩ | ⟨hf, v, rfl, hv⟩
  · have HE := Lib.hid (saidE_gap hl hf)
    clear hf
    go_wp2_with fail
    go_ret
    exact ⟨ret_of HE.out.symm, hg1⟩
  have HF := Lib.hid hf
  obtain ⟨A, c, rfl, hvl, hA⟩ := hv.shape
  obtain ⟨g, rfl, hg0, _⟩ := hA (wordsOf_pos s)
  have HV := Lib.hid hv
  clear hv hA hf
  go_wp2_with fail
  refine (byBytes_any b _ (HGL.out.quiet hg1)).mono ?_
  rintro _ w2 ⟨bm, rfl, hbm, hM, hg2⟩
  have HM := Lib.hid hM
  have HW := Lib.hid (HV.out.grown hg2)
  have HG := Lib.hid (gr_trans hg1 hg2)
  clear hM HV hg1 hg2
  go_wp2_with fail
  go_loop [22] (fun i => ∃ k : Nat, k ≤ (wordsOf s).length ∧ i = .int .i64 k ∧ Hid (∀ j (hj : j < (wordsOf s).length), j < k → coded (wordsOf s)[j] = true)) (fun i => (wordsOf s).length - (intOf i).toNat)
  case atStart => exact ⟨0, by omega, rfl, fun j hj h => by omega⟩
  case round =>
    obtain ⟨k, hk, rfl, HR⟩ := hrel
    by_cases hlt : k < (wordsOf s).length
    · have hat := HW.out.at_ k hlt
      have hsm := wordsOf_small s _ (List.getElem_mem hlt)
      have HS := @saidE_sign s hl k hlt
      obtain ⟨p, hp⟩ : ∃ p, (wordsOf s)[k] = p := ⟨_, rfl⟩
      rw [hp] at hat hsm
      have hlt2 : (k : Int) < ((wordsOf s).length : Int) := by omega
      have HS2 : Hid (∀ n (hn : n < p.size), (codeOf p[n]).isEmpty = true → saidE s = 3) := by
        intro n hn he
        subst hp
        exact HS n hn he
      have HP := Lib.hid hp
      clear hp HS
      go_wp2_with fail
      go_loop [28] (fun i => ∃ n : Nat, n ≤ p.size ∧ i = .int .i64 n ∧ Hid (∀ j (hj : j < p.size), j < n → (codeOf p[j]).isEmpty = false)) (fun i => p.size - (intOf i).toNat)
      case atStart => exact ⟨0, by omega, rfl, fun j hj h => by omega⟩
      case round =>
        obtain ⟨n, hn, rfl, HN⟩ := hrel
        by_cases hlt3 : n < p.size
        · have hlt4 : (n : Int) < (p.size : Int) := by omega
          have hrun := HM.out.code p[n]
          have hem := codeS_empty p[n]
          cases he : (codeOf p[n]).isEmpty
          · rw [he] at hem
            have HN2 : Hid (∀ j (hj : j < p.size), j < n + 1 → (codeOf p[j]).isEmpty = false) := fun j hj h => by
              by_cases e : j = n
              · subst e; exact he
              · exact HN.out j hj (by omega)
            clear he
            go_wp2_with fail
            go_round
            case rel => exact ⟨n + 1, by omega, by go_num, HN2⟩
            case measure => simp [intOf]; omega
          · rw [he] at hem
            have HE := Lib.hid (HS2.out n hlt3 he)
            clear he
            go_wp2_with fail
            go_ret
            exact ⟨ret_of HE.out.symm, HG.out⟩
        · have hlt4 : ¬ (n : Int) < (p.size : Int) := by omega
          have HC : Hid (∀ j (hj : j < (wordsOf s).length), j < k + 1 → coded (wordsOf s)[j] = true) := fun j hj h => by
            by_cases e : j = k
            · subst e
              rw [HP.out]
              unfold coded
              rw [List.all_eq_true]
              intro x hx
              obtain ⟨i, hi, rfl⟩ := List.mem_iff_getElem.1 hx
              have hi2 : i < p.size := by simpa using hi
              have := HN.out i hi2 (by omega)
              show (!(codeOf p[i]).isEmpty) = true
              rw [this]
              rfl
            · exact HR.out j hj (by omega)
          go_wp2_with fail
          go_round
          case rel => exact ⟨k + 1, by omega, by go_num, HC⟩
          case measure => simp [intOf]; omega
    · have hlt2 : ¬ (k : Int) < ((wordsOf s).length : Int) := by omega
      have HE := Lib.hid (saidE_ok hl HF.out (List.all_eq_true.2 fun x hx => by
        obtain ⟨i, hi, rfl⟩ := List.mem_iff_getElem.1 hx
        exact HR.out i hi (by omega)))
      go_wp2_with fail
      go_ret
      exact ⟨ret_of HE.out.symm, HG.out⟩
end Go.Proofs.YtjhklpffmfdkbaaGreatDoor
