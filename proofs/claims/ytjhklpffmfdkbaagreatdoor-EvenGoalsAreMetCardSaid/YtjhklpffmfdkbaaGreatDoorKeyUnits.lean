/- The walk over key.Units. Condition: asciiSpace is Go's own table, MaxLen holds a number. -/
import Derived.Test.YtjhklpffmfdkbaaGreatDoorKeyLens
import Derived.Test.YtjhklpffmfdkbaaGreatDoorFaults
namespace Go.Proofs.YtjhklpffmfdkbaaGreatDoor
open Go.RowKit
set_option linter.unusedVariables false

theorem isp_mem {α : Type} {g : List α} {l : List (List α)} {x : α} (h : x ∈ isp g l) : x ∈ g ∨ ∃ y ∈ l, x ∈ y := by
  cases l with
  | nil => simp [isp] at h
  | cons y r =>
    rcases List.mem_append.1 h with h | h
    · exact .inr ⟨y, by simp, h⟩
    · obtain ⟨z, hz, hx⟩ := List.mem_flatMap.1 h
      rcases List.mem_append.1 hx with h | h
      · exact .inl h
      · exact .inr ⟨z, by simp [hz], h⟩
theorem sL_bd (ll : List (List ByteArray)) : ∀ x ∈ sL 1 1 ll, 0 ≤ x ∧ x ≤ 7 := by
  intro x hx
  rcases isp_mem hx with h | ⟨y, hy, h⟩
  · simp at h; omega
  · obtain ⟨p, _, rfl⟩ := List.mem_map.1 hy
    rcases isp_mem h with h | ⟨z, hz, h⟩
    · simp at h; omega
    · obtain ⟨c, _, rfl⟩ := List.mem_map.1 hz
      rcases isp_mem h with h | ⟨u, hu, h⟩
      · simp at h; omega
      · obtain ⟨b, _, rfl⟩ := List.mem_map.1 hu
        simp at h
        rw [h]
        unfold dl
        split <;> omega
def unitsI (s : ByteArray) : Int := (sL 1 1 (codesOf s)).sum
theorem sum_snoc (l : List Int) (k : Nat) (h : k < l.length) : (l.take (k + 1)).sum = (l.take k).sum + l[k] := by
  rw [List.take_succ_eq_append_getElem h, List.sum_append]
  simp

set_option maxHeartbeats 1000000 in
theorem units_any (b : Nat) (s : ByteArray) (w : World) (hgl : Gl b w) (hs : s.size < 4294967281) :
    Calls Tryz.prog 34 #[.string s] w fun e w' => e = .returned (.tuple #[.int .i64 (okI (saidE s) (unitsI s)), .int .i64 (saidE s)]) ∧ w.grownBy w' none := by
  obtain ⟨E, hE⟩ : ∃ E, saidE s = E := ⟨_, rfl⟩
  have HGL := Lib.hid hgl
  clear hgl
  rw [hE]
  have HC : Hid (∀ W : World, Gl b W → Calls Tryz.prog 61 #[.string s] W fun e w' => e = .returned (.int .i64 E) ∧ W.grownBy w' none) := fun W h => by
    have := checkSaid_any b s W h hs
    rw [hE] at this
    exact this
  by_cases h0 : E = 0
  · subst h0
    have h5 := (saidE_zero hE).1
    have HEE := Lib.hid hE
    clear hE
    go_enter Tryz.func34, Tryz.ntmps34
    go_wp2_with fail
    refine (HC.out _ HGL.out).mono ?_
    rintro _ w1 ⟨rfl, hg1⟩
    go_wp2_with fail
    refine (lengths_any b s 1 1 _ (HGL.out.quiet hg1) h5 (by decide) (by decide) (by decide) (by decide)).mono ?_
    rintro _ w2 ⟨v, rfl, hv, hcm, hg2⟩
    obtain ⟨L, hL⟩ : ∃ L, sL 1 1 (codesOf s) = L := ⟨_, rfl⟩
    have hbd := sL_bd (codesOf s)
    have hun : unitsI s = L.sum := by unfold unitsI; rw [hL]
    rw [hL] at hv hbd hcm
    obtain ⟨A, c, rfl, hvl, hA⟩ := hv.shape
    have HV := Lib.hid hv
    have HBD := Lib.hid hbd
    have HUN := Lib.hid hun
    have HA := Lib.hid hA
    clear hv hbd hun hL hA hvl
    go_wp2_with fail
    go_loop [5, 16] (fun t i => ∃ (k : Nat) (m : Int), k ≤ L.length ∧ i = .int .i64 k ∧ t = .int .i64 m ∧ 0 ≤ m ∧ m ≤ 7 * k ∧ Hid (m = (L.take k).sum)) (fun _ i => L.length - (intOf i).toNat)
    case atStart => exact ⟨0, 0, by omega, rfl, rfl, by omega, by omega, rfl⟩
    case round =>
      obtain ⟨k, m, hk, rfl, rfl, hm0, hm1, HR⟩ := hrel
      by_cases hlt : k < L.length
      · obtain ⟨g, rfl, hg0, _⟩ := HA.out (by omega)
        have hat := HV.out.at_ k hlt
        have hb := HBD.out _ (List.getElem_mem hlt)
        have hsn := sum_snoc L k hlt
        obtain ⟨x, hx⟩ : ∃ x, L[k] = x := ⟨_, rfl⟩
        rw [hx] at hat hb hsn
        obtain ⟨hb0, hb1⟩ := hb
        have HS : Hid (m + x = (L.take (k + 1)).sum) := by show _ = _; rw [hsn, HR.out]
        have hlt2 : (k : Int) < (L.length : Int) := by omega
        clear hsn hx
        go_wp2_with fail
        go_round
        case rel => exact ⟨k + 1, m + x, by omega, by go_num, rfl, by omega, by omega, HS⟩
        case measure => simp [intOf]; omega
      · have hlt2 : ¬ (k : Int) < (L.length : Int) := by omega
        have HF : Hid (m = unitsI s) := by
          show _ = _
          have := HR.out
          rw [List.take_of_length_le (by omega)] at this
          rw [HUN.out, this]
        go_wp2_with fail
        go_ret2
        exact ⟨ret_2i (by rw [HF.out]; rfl) rfl, gr_trans hg1 hg2⟩
  · have hE0 : (E != 0) = true := by simpa using h0
    have HEE := Lib.hid hE
    clear hE
    go_enter Tryz.func34, Tryz.ntmps34
    go_wp2_with fail
    refine (HC.out _ HGL.out).mono ?_
    rintro _ w1 ⟨rfl, hg1⟩
    have h00 := Lib.hid h0
    clear h0
    go_wp2_with fail
    go_ret2
    exact ⟨ret_2i (by unfold okI; rw [if_neg h00.out]) rfl, hg1⟩

/-- The word that 'ready' asks of. -/
def parisS : ByteArray := ⟨#[112, 97, 114, 105, 115]⟩
theorem paris_ok : saidE parisS = 0 := by decide +kernel
theorem paris_units : unitsI parisS = 43 := by decide +kernel
end Go.Proofs.YtjhklpffmfdkbaaGreatDoor
