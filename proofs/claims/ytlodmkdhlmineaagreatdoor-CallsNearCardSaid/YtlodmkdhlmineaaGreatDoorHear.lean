/- The walks over isMark and offOf. Condition: marks and a unit within bounds. -/
import Derived.Test.YtlodmkdhlmineaaGreatDoorHearPlain
import Derived.Test.YtlodmkdhlmineaaGreatDoorMarks
namespace Go.Proofs.YtlodmkdhlmineaaGreatDoor
open Go.RowKit
set_option linter.unusedVariables false
set_option linter.unusedSimpArgs false

theorem isMark_any (k : Nat) (w : World) (hk : k ≤ 1000000) :
    Calls Tryz.prog 137 #[.int .i64 (k : Int)] w fun e w' => e = .returned (.bool (markB k)) ∧ w = w' := by
  by_cases h : k % 2 = 0
  · have HM : Hid (markB k = true) := by show _ = _; unfold markB; simpa using h
    have h2 : (k : Int) % 2 = 0 := by omega
    go_enter Tryz.func137, Tryz.ntmps137
    go_wp2_with fail
    go_ret
    exact ⟨ret_b HM.out.symm, rfl⟩
  · have HM : Hid (markB k = false) := by show _ = _; unfold markB; simpa using h
    have h2 : (k : Int) % 2 = 1 := by omega
    go_enter Tryz.func137, Tryz.ntmps137
    go_wp2_with fail
    go_ret
    exact ⟨ret_b HM.out.symm, rfl⟩

set_option maxHeartbeats 2000000 in
theorem offOf_any (base : Nat) (v : Value) (l : List Int) (u : Int) (w : World) (hl : IntsFrom base w v l) (hn : l.length ≤ 20000) (hb : ∀ x ∈ l, 0 ≤ x ∧ x ≤ 1000000) (u0 : 0 ≤ u) (u1 : u ≤ 100000) :
    Calls Tryz.prog 75 #[v, .int .i64 u] w fun e w' => e = .returned (.int .i64 (offL l u)) ∧ w = w' := by
  obtain ⟨A, c, rfl, hlen, hA⟩ := hl.shape
  have HL := Lib.hid hl
  have HBD := Lib.hid hb
  have HA := Lib.hid hA
  have HOB := Lib.hid (fun k => offTo_bd hb u0 u1 k)
  clear hl hb hA
  go_enter Tryz.func75, Tryz.ntmps75
  go_wp2_with fail
  go_loop [5, 11] (fun s i => ∃ k : Nat, k ≤ l.length ∧ i = .int .i64 k ∧ s = .int .i64 (offTo l u k)) (fun _ i => l.length - (intOf i).toNat)
  case atStart => exact ⟨0, by omega, rfl, rfl⟩
  case round =>
    obtain ⟨k, hk, rfl, rfl⟩ := hrel
    by_cases hlt : k < l.length
    · obtain ⟨g, rfl, hg0, hg1⟩ := HA.out (by omega)
      have hkl : (k : Int) < (l.length : Int) := by omega
      have cx := HL.out.at_ k hlt
      have hx := HBD.out l[k] (List.getElem_mem hlt)
      have hs := HOB.out k
      have HN : Hid (offTo l u (k + 1) = offTo l u k + nearO (markB k) l[k] u) := by
        show offTo l u k + nearO (markB k) (l.getD k 0) u = _
        rw [List.getD_eq_getElem?_getD, List.getElem?_eq_getElem hlt]; rfl
      generalize l[k] = x at *
      generalize offTo l u k = S at *
      obtain ⟨hx0, hx1⟩ := hx
      have HI := Lib.hid (fun W => isMark_any k W (by omega))
      generalize markB k = mk at *
      cases mk
      all_goals
        go_wp2_with fail
        refine (HI.out _).mono ?_
        rintro _ _ ⟨rfl, rfl⟩
        go_wp2_with fail
        go_round
        case rel => exact ⟨k + 1, by omega, by go_num, by rw [HN.out]; unfold nearO dN; simp only [Int.one_mul]; first | rfl | (simp; done) | go_num⟩
        case measure => simp [intOf]; omega
    · have hkl : ¬ (k : Int) < (l.length : Int) := by omega
      obtain rfl : k = l.length := by omega
      go_wp2_with fail
      go_ret
      exact ⟨rfl, rfl⟩

def nthI (k : Nat) : Int := if k = 0 then 1 else if k = 1 then 3 else 7
def nrTo (x u : Int) : Nat → Int × Int
  | 0 => (0, -1)
  | k + 1 => if (nrTo x u k).2 < 0 ∨ dN x u (nthI k) < (nrTo x u k).2 then (nthI k, dN x u (nthI k)) else nrTo x u k
theorem nrTo_1 (x u : Int) : nrTo x u 1 = (1, dN x u 1) := by
  rw [nrTo, show nrTo x u 0 = (0, -1) from rfl, if_pos (.inl (by decide))]; rfl
theorem dN_0 (x u n : Int) : 0 ≤ dN x u n := by unfold dN; omega
theorem nrTo_2 (x u : Int) : nrTo x u 2 = (nearU true x u, nearO true x u) := by
  show (if (nrTo x u 1).2 < 0 ∨ dN x u (nthI 1) < (nrTo x u 1).2 then (nthI 1, dN x u (nthI 1)) else nrTo x u 1) = _
  rw [nrTo_1]
  have h1 := dN_0 x u 1
  have h3 := dN_0 x u 3
  have hn : nthI 1 = 3 := rfl
  rw [hn]
  unfold nearU nearO
  simp only
  generalize dN x u 1 = a at *
  generalize dN x u 3 = b at *
  by_cases h : b < a
  · simp [h]; omega
  · simp [h]; split <;> simp <;> omega
theorem nrTo_3 (x u : Int) : nrTo x u 3 = (nearU false x u, nearO false x u) := by
  show (if (nrTo x u 2).2 < 0 ∨ dN x u (nthI 2) < (nrTo x u 2).2 then (nthI 2, dN x u (nthI 2)) else nrTo x u 2) = _
  rw [nrTo_2]
  have h1 := dN_0 x u 1
  have h3 := dN_0 x u 3
  have h7 := dN_0 x u 7
  have hn : nthI 2 = 7 := rfl
  rw [hn]
  unfold nearU nearO
  simp only
  generalize dN x u 1 = a at *
  generalize dN x u 3 = b at *
  generalize dN x u 7 = c at *
  by_cases h : c < min a b
  · have h' : min a b < 0 ∨ c < min a b := .inr h
    simp [h, h']; omega
  · have h' : ¬ (min a b < 0 ∨ c < min a b) := by omega
    have h2 : min (min a b) c = min a b := by omega
    rw [h2]
    simp [h, h']
    intro hneg
    exfalso
    omega
end Go.Proofs.YtlodmkdhlmineaaGreatDoor
