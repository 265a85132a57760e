/- The plain side of what is keyed: marks and gaps that are right, of bounded length; what is heard of what is keyed evenly. No condition. -/
import Derived.Test.YtlodmkdhlmineaaGreatDoorSaidPlain
import Derived.Test.YtlodmkdhlmineaaGreatDoorHearW
import Derived.Test.YtlodmkdhlmineaaGreatDoorKeyW
namespace Go.Proofs.YtlodmkdhlmineaaGreatDoor
open Go.RowKit
set_option linter.unusedVariables false
set_option linter.unusedSimpArgs false

theorem isp_len_gen {α : Type} (g : List α) (l : List (List α)) : (isp g l).length ≤ (l.map List.length).sum + g.length * l.length := by
  have key : ∀ r : List (List α), (r.flatMap fun y => g ++ y).length = (r.map List.length).sum + g.length * r.length := fun r => by
    induction r with
    | nil => simp
    | cons y r ih => simp only [List.flatMap_cons, List.length_append, List.map_cons, List.sum_cons, List.length_cons, ih, Nat.mul_add]; omega
  cases l with
  | nil => simp [isp]
  | cons x r =>
    have := key r
    simp only [isp, List.length_append, List.map_cons, List.sum_cons, List.length_cons, Nat.mul_add] at this ⊢
    omega
theorem isp_len_eq {α : Type} (g : List α) (l : List (List α)) (h : l ≠ []) : (isp g l).length + g.length = (l.map List.length).sum + g.length * l.length := by
  have key : ∀ r : List (List α), (r.flatMap fun y => g ++ y).length = (r.map List.length).sum + g.length * r.length := fun r => by
    induction r with
    | nil => simp
    | cons y r ih => simp only [List.flatMap_cons, List.length_append, List.map_cons, List.sum_cons, List.length_cons, ih, Nat.mul_add]; omega
  cases l with
  | nil => exact absurd rfl h
  | cons x r =>
    have := key r
    simp only [isp, List.length_append, List.map_cons, List.sum_cons, List.length_cons, Nat.mul_add] at this ⊢
    omega
theorem sum_le_mul (B : Nat) : ∀ l : List Nat, (∀ x ∈ l, x ≤ B) → l.sum ≤ B * l.length
  | [], _ => by simp
  | a :: r, h => by
    have h1 := h a (by simp)
    have h2 := sum_le_mul B r (fun x hx => h x (by simp [hx]))
    simp only [List.sum_cons, List.length_cons, Nat.mul_add]
    omega
theorem cL_len (u : Int) (c : UInt8) : (cL u (codeOf c)).length ≤ 12 := by
  have h1 := isp_len_gen [u] ((codeOf c).map fun b => [dl u b])
  have h2 := codeOf_short c
  have h3 := sum_le_mul 1 (((codeOf c).map fun b => [dl u b]).map List.length) (fun x hx => by
    obtain ⟨y, hy, rfl⟩ := List.mem_map.1 hx
    obtain ⟨z, hz, rfl⟩ := List.mem_map.1 hy
    simp)
  unfold cL
  simp only [List.length_map, List.length_cons, List.length_nil] at h1 h3
  omega
theorem wLL_len (u sl : Int) (p : List UInt8) : (wLL u sl p).length ≤ 13 * p.length := by
  have h1 := isp_len_gen [3 * sl] (p.map fun c => cL u (codeOf c))
  have h3 := sum_le_mul 12 ((p.map fun c => cL u (codeOf c)).map List.length) (fun x hx => by
    obtain ⟨y, hy, rfl⟩ := List.mem_map.1 hx
    obtain ⟨z, hz, rfl⟩ := List.mem_map.1 hy
    exact cL_len u z)
  unfold wLL
  simp only [List.length_map, List.length_cons, List.length_nil] at h1 h3
  omega
/-- What is keyed has at most 13 marks and gaps for each byte, and some. -/
theorem sL_len (u sl : Int) (s : ByteArray) : (sL u sl (codesOf s)).length ≤ 13 * s.size + 13 := by
  rw [sL_cut]
  have h1 := isp_len_gen [7 * sl] ((cutW s.data.toList).map (wLL u sl))
  have h2 := isp_len_eq [(32 : UInt8)] (cutW s.data.toList) (cutW_ne _)
  rw [cutW_isp] at h2
  have h3 : ∀ ps : List (List UInt8), ((ps.map (wLL u sl)).map List.length).sum ≤ 13 * (ps.map List.length).sum := fun ps => by
    induction ps with
    | nil => simp
    | cons p r ih =>
      have := wLL_len u sl p
      simp only [List.map_cons, List.sum_cons, Nat.mul_add]
      omega
  have h4 := h3 (cutW s.data.toList)
  have hs : s.data.toList.length = s.size := by simp
  simp only [List.length_map, List.length_cons, List.length_nil] at h1 h2
  omega
theorem sL_one (ll : List (List ByteArray)) : ∀ x ∈ sL 1 1 ll, 1 ≤ x ∧ x ≤ 7 := by
  intro x hx
  rcases isp_mem hx with h | ⟨y, hy, h⟩
  · simp at h; omega
  · obtain ⟨p, _, rfl⟩ := List.mem_map.1 hy
    rcases isp_mem h with h | ⟨z, hz, h⟩
    · simp at h; omega
    · obtain ⟨c, _, rfl⟩ := List.mem_map.1 hz
      rcases isp_mem h with h | ⟨u, hu, h⟩
      · simp at h; omega
      · obtain ⟨b, _, rfl⟩ := List.mem_map.1 hu
        simp at h
        rw [h]
        unfold dl
        split <;> omega
theorem sL_even {u : Int} (hu : 1 ≤ u) (ll : List (List ByteArray)) : ∀ x ∈ sL u u ll, u ≤ x ∧ x ≤ 7 * u := by
  intro x hx
  rw [sL_mul] at hx
  obtain ⟨y, hy, rfl⟩ := List.mem_map.1 hx
  obtain ⟨h1, h2⟩ := sL_one ll y hy
  have a := Int.mul_le_mul_of_nonneg_left h1 (show 0 ≤ u by omega)
  have c := Int.mul_le_mul_of_nonneg_left h2 (show 0 ≤ u by omega)
  have e : u * 7 = 7 * u := Int.mul_comm _ _
  show u ≤ u * y ∧ u * y ≤ 7 * u
  omega
/-- What is keyed evenly: right marks and gaps. -/
theorem keyed_marks {s : ByteArray} (h : saidE s = 0) {u : Int} (hu : 1 ≤ u) (hu2 : u ≤ 2000) : marksE (sL u u (codesOf s)) = 0 ∧ (sL u u (codesOf s)).length ≤ 6600 := by
  have h1 := (keyed_heard h hu).2.2
  have h2 := sL_len u u s
  have h3 := (saidE_zero h).1
  refine ⟨marksE_zero h1 (by omega) (fun x hx => ?_), by omega⟩
  have := sL_even hu _ x hx
  omega
/-- What is heard of it has no deviation. -/
theorem keyed_hear {s : ByteArray} (h : saidE s = 0) {u : Int} (hu : 1 ≤ u) (hu2 : u ≤ 2000) : (hearTo (sL u u (codesOf s)) 2000).2 = 0 := by
  obtain ⟨hE, _⟩ := keyed_marks h hu hu2
  obtain ⟨m1, m2, m3⟩ := marksE_ok hE
  obtain ⟨_, _, _, q4⟩ := hearTo_ok (sL u u (codesOf s)) 2000 (by decide)
  have h1 := (q4 u hu hu2).1
  rw [(keyed_heard h hu).2.1] at h1
  have h2 := hearTo_bd (l := sL u u (codesOf s)) (fun x hx => by have := m3 x hx; omega) m2 2000 (Nat.le_refl _)
  omega
theorem units_bd (s : ByteArray) : 0 ≤ unitsI s ∧ unitsI s ≤ 91 * (s.size : Int) + 91 := by
  have h1 := sL_len 1 1 s
  have key : ∀ l : List Int, (∀ x ∈ l, 1 ≤ x ∧ x ≤ 7) → 0 ≤ l.sum ∧ l.sum ≤ 7 * (l.length : Int) := fun l => by
    induction l with
    | nil => intro _; simp
    | cons a r ih =>
      intro h
      have h1 := h a (by simp)
      have h2 := ih (fun x hx => h x (by simp [hx]))
      simp only [List.sum_cons, List.length_cons]
      push_cast
      omega
  have h2 := key _ (sL_one (codesOf s))
  unfold unitsI
  omega
theorem keyE_ok {s : ByteArray} (h : saidE s = 0) {u sl : Int} (h1 : 1 ≤ u) (h2 : u ≤ 2000) (h3 : u ≤ sl) (h4 : sl ≤ 2000) : keyE s u sl = 0 ∧ keyK s u sl = sL u sl (codesOf s) := by
  have e : keyE s u sl = 0 := by unfold keyE; rw [if_pos h, outB_no h1 h2, outB_no h3 h4]; rfl
  exact ⟨e, by unfold keyK; rw [if_pos e]⟩
end Go.Proofs.YtlodmkdhlmineaaGreatDoor
