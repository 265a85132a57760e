/- The walks over call.Is, call.Distance and call.CheckCalls. Condition: strings of ASCII of at most 100 bytes. -/
import Derived.Test.YtlodmkdhlmineaaGreatDoorStepsW
import Derived.Test.YtlodmkdhlmineaaGreatDoorCall
import Derived.Test.YtlodmkdhlmineaaGreatDoorKeyB
namespace Go.Proofs.YtlodmkdhlmineaaGreatDoor
open Go.RowKit
set_option linter.unusedVariables false
set_option linter.unusedSimpArgs false

def isCall (s : ByteArray) : Bool := (partsOf s).isSome
theorem parts_flat {s : ByteArray} {w w' : World} {e : Ending} (h : PartsPost s w e w') : w.grownBy w' none ∧ ∃ (t0 t1 t2 t4 : ByteArray) (kd : Int), e = .returned (.tuple #[.agg #[.string t0, .string t1, .string t2, .int .i64 kd, .string t4], .bool (isCall s)]) := by
  obtain ⟨hg, ⟨hn, he⟩ | ⟨t, k, kd, ad, hn, he⟩⟩ := h
  · have hb : isCall s = false := by unfold isCall; rw [hn]; rfl
    rw [hb]
    exact ⟨hg, _, _, _, _, _, he⟩
  · have hb : isCall s = true := by unfold isCall; rw [hn]; rfl
    rw [hb]
    exact ⟨hg, _, _, _, _, _, he⟩
set_option maxHeartbeats 1000000 in
theorem isCall_any (s : ByteArray) (w : World) (hs : s.size < 4294967281) (ha : Ascii s) :
    Calls Tryz.prog 30 #[.string s] w fun e w' => e = .returned (.bool (isCall s)) ∧ w.grownBy w' none := by
  have HP := Lib.hid ((parts_any s w hs ha).mono fun e w' h => parts_flat h)
  clear hs ha
  generalize isCall s = B at *
  go_enter Tryz.func30, Tryz.ntmps30
  go_wp2_with fail
  refine HP.out.mono ?_
  rintro _ w1 ⟨hg1, t0, t1, t2, t4, kd, rfl⟩
  have hG := gr_alloc hg1 (.cells #[.string t0, .string t1, .string t2, .int .i64 kd, .string t4] 82)
  go_wp2_with fail
  go_ret
  exact ⟨rfl, hG⟩
set_option maxHeartbeats 1000000 in
theorem distance_ok (a b : ByteArray) (w : World) (ha : a.size ≤ 100) (hb : b.size ≤ 100) (xa : Ascii a) (xb : Ascii b) (ia : isCall a = true) (ib : isCall b = true) :
    Calls Tryz.prog 12 #[.string a, .string b] w fun e w' => e = .returned (.tuple #[.int .i64 (stepsL a.data.toList b.data.toList : Nat), .int .i64 0]) ∧ w.grownBy w' none := by
  have H1 := Lib.hid (fun W => isCall_any a W (by omega) xa)
  have H2 := Lib.hid (fun W => isCall_any b W (by omega) xb)
  have H3 := Lib.hid (fun W => steps_any a b W ha hb)
  rw [ia] at H1
  rw [ib] at H2
  clear ia ib
  generalize stepsL a.data.toList b.data.toList = S at *
  go_enter Tryz.func12, Tryz.ntmps12
  go_wp2_with fail
  refine (H1.out _).mono ?_
  rintro _ w1 ⟨rfl, hg1⟩
  go_wp2_with fail
  refine (H2.out _).mono ?_
  rintro _ w2 ⟨rfl, hg2⟩
  go_wp2_with fail
  refine (H3.out _).mono ?_
  rintro _ w3 ⟨rfl, hg3⟩
  go_wp2_with fail
  go_ret2
  exact ⟨rfl, gr_trans (gr_trans hg1 hg2) hg3⟩
/-- The closure of CheckCalls: what is no call sign. -/
theorem noCall_any (s : ByteArray) (w : World) (hs : s.size < 4294967281) (ha : Ascii s) :
    Calls Tryz.prog 119 #[.string s] w fun e w' => e = .returned (.bool (!isCall s)) ∧ w.grownBy w' none := by
  have H1 := Lib.hid (fun W => isCall_any s W hs ha)
  generalize isCall s = B at *
  cases B
  all_goals
    go_enter Tryz.func119, Tryz.ntmps119
    go_wp2_with fail
    refine (H1.out _).mono ?_
    rintro _ w1 ⟨rfl, hg1⟩
    go_wp2_with fail
    go_ret
    exact ⟨rfl, hg1⟩
set_option maxRecDepth 100000 in
set_option maxHeartbeats 4000000 in
/-- Call signs alone: slices.ContainsFunc finds none that is no call sign. -/
theorem idxNoCall (base : Nat) (v : Value) (l : List ByteArray) (w : World) (hl : StrsFrom base w v l) (hn : l.length ≤ 1000) (hc : ∀ s ∈ l, s.size ≤ 100 ∧ Ascii s ∧ isCall s = true) :
    Calls Tryz.prog 129 #[v, .func (.func 119) #[] #[]] w fun e w' => e = .returned (.int .i64 (-1)) ∧ w.grownBy w' none := by
  obtain ⟨A, ca, rfl, hla, hA⟩ := hl.shape
  have HU := Lib.hid hl
  have HC := Lib.hid hc
  have HA := Lib.hid hA
  clear hl hc hA
  go_enter Tryz.func129, Tryz.ntmps129
  go_wp2_with fail
  go_loopw [8] (fun i wr => ∃ k : Nat, k ≤ l.length ∧ i = .int .i64 k ∧ w.grownBy wr none) (fun i _ => l.length - (intOf i).toNat)
  case atStart => exact ⟨0, by omega, rfl, gr_refl _ _⟩
  case round =>
    obtain ⟨k, hk, rfl, hgr⟩ := hrel
    by_cases hlt : k < l.length
    · obtain ⟨g, rfl, _, _⟩ := HA.out (by omega)
      have cx := (HU.out.grown hgr).at_ k hlt
      have hkl : (k : Int) < (l.length : Int) := by omega
      obtain ⟨h1, h2, h3⟩ := HC.out l[k] (List.getElem_mem hlt)
      have HN := Lib.hid (noCall_any l[k] wr (by omega) h2)
      rw [h3] at HN
      clear h1 h2 h3
      generalize l[k] = x at *
      go_wp2_with fail
      refine HN.out.mono ?_
      rintro _ w1 ⟨rfl, hg1⟩
      go_wp2_with fail
      go_roundw
      case rel => exact ⟨k + 1, by omega, by go_num, gr_trans hgr hg1⟩
      case measure => simp [intOf]; omega
    · have hkl : ¬ (k : Int) < (l.length : Int) := by omega
      go_wp2_with fail
      go_ret
      exact ⟨rfl, hgr⟩
set_option maxHeartbeats 1000000 in
theorem checkCalls_ok (base : Nat) (v : Value) (l : List ByteArray) (w : World) (hl : StrsFrom base w v l) (hn : l.length ≤ 1000) (hc : ∀ s ∈ l, s.size ≤ 100 ∧ Ascii s ∧ isCall s = true) :
    Calls Tryz.prog 58 #[v] w fun e w' => e = .returned (.int .i64 0) ∧ w.grownBy w' none := by
  have HI := Lib.hid (fun W (h : StrsFrom base W v l) => idxNoCall base v l W h hn hc)
  have HC : Hid (∀ W, StrsFrom base W v l → Calls Tryz.prog 118 #[v, .func (.func 119) #[] #[]] W fun e w' => e = .returned (.bool false) ∧ W.grownBy w' none) := fun W h => by
    go_enter Tryz.func118, Tryz.ntmps118
    go_wp2_with fail
    refine (HI.out _ h).mono ?_
    rintro _ w1 ⟨rfl, hg1⟩
    go_wp2_with fail
    go_ret
    exact ⟨rfl, hg1⟩
  have HL := Lib.hid hl
  obtain ⟨A, ca, rfl, hla, hA⟩ := hl.shape
  have hn2 : ¬ (1000 : Int) < (l.length : Int) := by omega
  clear hl hA hc
  generalize l.length = N at *
  go_enter Tryz.func58, Tryz.ntmps58
  go_wp2_with fail
  refine (HC.out _ HL.out).mono ?_
  rintro _ w1 ⟨rfl, hg1⟩
  go_wp2_with fail
  go_ret
  exact ⟨rfl, hg1⟩
end Go.Proofs.YtlodmkdhlmineaaGreatDoor
