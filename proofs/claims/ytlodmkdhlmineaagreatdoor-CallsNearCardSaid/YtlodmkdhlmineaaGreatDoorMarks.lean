/- Marks and gaps: CheckMarks, what slices.ContainsFunc finds in them. No condition. -/
import Derived.Test.YtlodmkdhlmineaaGreatDoorInts
import Derived.Test.YtlodmkdhlmineaaGreatDoorFaults
namespace Go.Proofs.YtlodmkdhlmineaaGreatDoor
open Go.RowKit
set_option linter.unusedVariables false

def badM (x : Int) : Bool := outB x 1 100000
def bigM (x : Int) : Bool := decide (100000 < x)
theorem badM_any (x : Int) (w : World) : Calls Tryz.prog 175 #[.int .i64 x] w fun r w' => r = .returned (.bool (badM x)) ∧ w = w' := by
  go_enter Tryz.func175, Tryz.ntmps175
  go_wp2_with fail
  refine (outside_any x 1 100000 _).mono ?_
  rintro _ _ ⟨rfl, rfl⟩
  go_wp2_with fail
  go_ret
  exact ⟨rfl, rfl⟩
/-- The first place of a number that is so; -1: there is none. -/
def IdxBad (l : List Int) (w : World) (e : Ending) (w' : World) : Prop := ∃ i : Int, e = .returned (.int .i64 i) ∧ (i = -1 ∧ l.any badM = false ∨ 0 ≤ i ∧ l.any badM = true) ∧ w = w'
set_option maxHeartbeats 1000000 in
theorem indexBad (base : Nat) (u : Value) (l : List Int) (w : World) (hu : IntsFrom base w u l) :
    Calls Tryz.prog 225 #[u, .func (.func 175) #[] #[]] w (IdxBad l w) := by
  obtain ⟨A, ca, rfl, hla, hA⟩ := hu.shape
  have HU := Lib.hid hu
  clear hu
  go_enter Tryz.func225, Tryz.ntmps225
  go_wp2_with fail
  go_loop [8] (fun i => ∃ k : Nat, k ≤ l.length ∧ i = .int .i64 k ∧ Hid ((l.take k).any badM = false)) (fun i => l.length - (intOf i).toNat)
  case atStart => exact ⟨0, by omega, rfl, by show List.any (List.take 0 l) _ = _; simp⟩
  case round =>
    obtain ⟨k, hk, rfl, HN⟩ := hrel
    by_cases hlt : k < l.length
    · obtain ⟨g, rfl, _, _⟩ := hA (by omega)
      have cx := HU.out.at_ k hlt
      have hkl : (k : Int) < (l.length : Int) := by omega
      have hall : l.any badM = false → badM l[k] = false := fun h => by
        have := List.any_eq_false.1 h l[k] (List.getElem_mem hlt)
        simpa using this
      have htk : (l.take (k + 1)).any badM = ((l.take k).any badM || badM l[k]) := by
        rw [List.take_succ_eq_append_getElem hlt, List.any_append]; simp
      have hyes : badM l[k] = true → l.any badM = true := fun h => List.any_eq_true.2 ⟨l[k], List.getElem_mem hlt, h⟩
      rw [HN.out] at htk
      generalize l[k] = x at *
      rcases hd : badM x
      · have HN2 : Hid ((l.take (k + 1)).any badM = false) := by show _ = _; rw [htk, hd]; rfl
        clear htk hyes hall
        go_wp2_with fail
        refine (badM_any x w).mono ?_
        rintro _ w1 ⟨rfl, rfl⟩
        rw [hd]
        go_wp2_with fail
        go_round
        case rel => exact ⟨k + 1, by omega, by go_num, HN2⟩
        case measure => simp [intOf]; omega
      · have HY := Lib.hid (hyes hd)
        clear htk hyes hall
        go_wp2_with fail
        refine (badM_any x w).mono ?_
        rintro _ w1 ⟨rfl, rfl⟩
        rw [hd]
        go_wp2_with fail
        go_ret
        exact ⟨k, rfl, .inr ⟨by omega, HY.out⟩, rfl⟩
    · have hkl : ¬ (k : Int) < (l.length : Int) := by omega
      have HN3 : Hid (l.any badM = false) := by
        show _ = _
        have := HN.out
        rwa [List.take_of_length_le (by omega)] at this
      go_wp2_with fail
      go_ret
      exact ⟨-1, rfl, .inl ⟨rfl, HN3.out⟩, rfl⟩
theorem hasBad (base : Nat) (u : Value) (l : List Int) (w : World) (hu : IntsFrom base w u l) :
    Calls Tryz.prog 174 #[u, .func (.func 175) #[] #[]] w fun r w' => r = .returned (.bool (l.any badM)) ∧ w = w' := by
  have HU := Lib.hid hu
  clear hu
  go_enter Tryz.func174, Tryz.ntmps174
  go_wp2_with fail
  refine (indexBad base u l _ HU.out).mono ?_
  rintro _ _ ⟨i, rfl, hi, rfl⟩
  rcases hi with ⟨rfl, h⟩ | ⟨h0, h⟩
  · have H := Lib.hid h
    clear h
    go_wp2_with fail
    go_ret
    exact ⟨ret_b (by rw [H.out]), rfl⟩
  · have H := Lib.hid h
    clear h
    go_wp2_with fail
    go_ret
    exact ⟨ret_b (by rw [H.out]), rfl⟩

/-- The first place of a number that is so; -1: there is none. -/
def IdxBig (l : List Int) (w : World) (e : Ending) (w' : World) : Prop := ∃ i : Int, e = .returned (.int .i64 i) ∧ (i = -1 ∧ l.any bigM = false ∨ 0 ≤ i ∧ l.any bigM = true) ∧ w = w'
/-- The error of marks and gaps. -/
def marksE (l : List Int) : Int := if l.length = 0 then 8 else if 20000 < l.length then 2 else if l.length % 2 = 0 then 3 else if l.any badM = true then 1 else 0
theorem marksE_ok {l : List Int} (h : marksE l = 0) : l.length % 2 = 1 ∧ l.length ≤ 20000 ∧ ∀ x ∈ l, 1 ≤ x ∧ x ≤ 100000 := by
  unfold marksE at h
  split at h
  · omega
  split at h
  · omega
  split at h
  · omega
  split at h
  · omega
  rename_i h1 h2 h3 h4
  refine ⟨by omega, by omega, fun x hx => ?_⟩
  have h5 : l.any badM = false := by simpa using h4
  have h6 := List.any_eq_false.1 h5 x hx
  unfold badM at h6
  rcases (show x < 1 ∨ 100000 < x ∨ (1 ≤ x ∧ x ≤ 100000) by omega) with h | h | h
  · exact absurd (outB_yes (.inl h)) h6
  · exact absurd (outB_yes (.inr h)) h6
  · exact h
theorem marksE_zero {l : List Int} (h1 : l.length % 2 = 1) (h2 : l.length ≤ 20000) (h3 : ∀ x ∈ l, 1 ≤ x ∧ x ≤ 100000) : marksE l = 0 := by
  unfold marksE
  rw [if_neg (by omega), if_neg (by omega), if_neg (by omega), if_neg]
  intro h
  obtain ⟨x, hx, hb⟩ := List.any_eq_true.1 h
  unfold badM at hb
  rw [outB_no (h3 x hx).1 (h3 x hx).2] at hb
  cases hb
set_option maxHeartbeats 1000000 in
theorem checkMarks_any (base : Nat) (u : Value) (l : List Int) (w : World) (hu : IntsFrom base w u l) :
    Calls Tryz.prog 131 #[u] w fun r w' => r = .returned (.int .i64 (marksE l)) ∧ w = w' := by
  obtain ⟨A, ca, rfl, hla, hA⟩ := hu.shape
  have HU := Lib.hid hu
  clear hu hA
  obtain ⟨n, hn⟩ : ∃ n, l.length = n := ⟨_, rfl⟩
  have HE : Hid (marksE l = if n = 0 then 8 else if 20000 < n then 2 else if n % 2 = 0 then 3 else if l.any badM = true then 1 else 0) := by
    show _ = _
    rw [← hn]; rfl
  have HH : Hid (∀ W : World, w = W → Calls Tryz.prog 174 #[.slice A n ca, .func (.func 175) #[] #[]] W fun r w' => r = .returned (.bool (l.any badM)) ∧ W = w') := fun W hW => by
    subst hW
    rw [← hn]
    exact hasBad base _ l w HU.out
  rw [hn] at hla ⊢
  clear hn
  by_cases h0 : n = 0
  · have HR : Hid (marksE l = 8) := by show _ = _; rw [HE.out, if_pos h0]
    have hz : ((n : Int) == 0) = true := by subst h0; rfl
    go_enter Tryz.func131, Tryz.ntmps131
    go_wp2_with fail
    go_ret
    exact ⟨ret_of HR.out.symm, rfl⟩
  have hz : ((n : Int) == 0) = false := by rw [beq_eq_false_iff_ne]; omega
  by_cases h1 : 20000 < n
  · have HR : Hid (marksE l = 2) := by show _ = _; rw [HE.out, if_neg h0, if_pos h1]
    have h1' : (20000 : Int) < (n : Int) := by omega
    go_enter Tryz.func131, Tryz.ntmps131
    go_wp2_with fail
    go_ret
    exact ⟨ret_of HR.out.symm, rfl⟩
  have h1' : ¬ (20000 : Int) < (n : Int) := by omega
  by_cases h2 : n % 2 = 0
  · have HR : Hid (marksE l = 3) := by show _ = _; rw [HE.out, if_neg h0, if_neg h1, if_pos h2]
    have h2' : (n : Int) % 2 = 0 := by omega
    go_enter Tryz.func131, Tryz.ntmps131
    go_wp2_with fail
    go_ret
    exact ⟨ret_of HR.out.symm, rfl⟩
  have h2' : (n : Int) % 2 = 1 := by omega
  have HR : Hid (marksE l = if l.any badM = true then 1 else 0) := by show _ = _; rw [HE.out, if_neg h0, if_neg h1, if_neg h2]
  generalize l.any badM = β at *
  clear HE
  go_enter Tryz.func131, Tryz.ntmps131
  go_wp2_with fail
  refine (HH.out _ rfl).mono ?_
  rintro _ _ ⟨rfl, rfl⟩
  cases β
  · go_wp2_with fail
    go_ret
    exact ⟨ret_of (by rw [HR.out]; rfl), rfl⟩
  · go_wp2_with fail
    go_ret
    exact ⟨ret_of (by rw [HR.out]; rfl), rfl⟩
end Go.Proofs.YtlodmkdhlmineaaGreatDoor
