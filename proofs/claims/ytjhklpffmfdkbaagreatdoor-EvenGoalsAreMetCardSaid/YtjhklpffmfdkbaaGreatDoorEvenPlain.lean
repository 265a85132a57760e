/- Plain law: at the end one is ahead by how many there are less the goal; who has no contact less is never behind. Condition: times without error. -/
import Derived.Test.YtjhklpffmfdkbaaGreatDoorGoal
import Derived.Test.YtjhklpffmfdkbaaGreatDoorAheadPlain
namespace Go.Proofs.YtjhklpffmfdkbaaGreatDoor
set_option linter.unusedVariables false

theorem cntLt_all {l : List Int} {x : Int} (h : ∀ y ∈ l, y < x) : cntLt l x = l.length := by
  unfold cntLt
  congr 1
  rw [List.countP_eq_length]
  intro y hy
  simpa using h y hy
theorem goal_last (l : List Int) (a z goal : Int) (h : timesE l a z = 0) : ∃ N, (goalL l a z goal).length = N + 1 ∧ (goalL l a z goal)[N]? = some ((l.length : Int) - goal) := by
  have O := timesE_ok h
  have o1 := O.ato
  have hN : 1 ≤ hoursI a z := by unfold hoursI; omega
  obtain ⟨N, hN2⟩ : ∃ N : Nat, (hoursI a z).toNat = N + 1 := ⟨(hoursI a z).toNat - 1, by omega⟩
  refine ⟨N, by unfold goalL; simp [hN2], ?_⟩
  unfold goalL
  rw [hN2, List.getElem?_map, List.getElem?_range (by omega)]
  simp only [Option.map_some, Option.some.injEq]
  have he : goalEnd a z N = z := by
    unfold goalEnd
    have : z ≤ a + ((N : Int) + 1) * 3600000 := by
      have h1 : hoursI a z = (N : Int) + 1 := by omega
      unfold hoursI at h1
      omega
    omega
  unfold goalAt
  rw [he, cntLt_all (fun y hy => (O.mem y hy).2), ← Int.sub_mul]
  exact Int.mul_ediv_cancel _ (by omega)

theorem ahead_self (l : List Int) (z : Int) : aheadL l l z = [] := by
  have hf : ∀ (r : List Int), r.foldl (ahStep (nowB l l)) ([], none) = ([], none) := by
    intro r
    induction r with
    | nil => rfl
    | cons x r ih =>
      rw [List.foldl_cons]
      have : ahStep (nowB l l) ([], none) x = ([], none) := by simp [ahStep, nowB]
      rw [this]
      exact ih
  unfold aheadL ahFold
  rw [hf]
  rfl
theorem ahead_alone_nil (z : Int) : aheadL [] [] z = [] := ahead_self [] z
theorem ahead_alone (x : Int) (r : List Int) (z : Int) (hs : (x :: r).Pairwise (· ≤ ·)) : aheadL (x :: r) [] z = [(x, z)] := by
  obtain ⟨hp, hm⟩ := bothL_props (x :: r) []
  simp only [List.append_nil] at hm
  have hall : ∀ y ∈ bothL (x :: r) [], nowB (x :: r) [] y = true := fun y hy => by
    have h1 := (hm y).1 hy
    unfold nowB
    have h2 : 0 < cntLt (x :: r) (y + 1) := by
      unfold cntLt
      have : 0 < (x :: r).countP (fun t => decide (t < y + 1)) := List.countP_pos_iff.2 ⟨y, h1, by simp; omega⟩
      omega
    have h3 : cntLt [] (y + 1) = 0 := rfl
    rw [h3]
    simpa using h2
  cases hb : bothL (x :: r) [] with
  | nil =>
    have := (hm x).2 (by simp)
    rw [hb] at this
    simp at this
  | cons y q =>
    have hyx : y = x := by
      have h1 : y ∈ x :: r := (hm y).1 (by rw [hb]; simp)
      have h2 : x ≤ y := by
        rcases List.mem_cons.1 h1 with rfl | h
        · exact Int.le_refl _
        · exact (List.pairwise_cons.1 hs).1 y h
      have h3 : x ∈ y :: q := by rw [← hb]; exact (hm x).2 (by simp)
      rcases List.mem_cons.1 h3 with h | h
      · omega
      · rw [hb] at hp
        have := (List.pairwise_cons.1 hp).1 x h
        omega
    subst hyx
    rw [hb] at hall
    have hf : ∀ (q : List Int), (∀ t ∈ q, nowB (y :: r) [] t = true) → q.foldl (ahStep (nowB (y :: r) [])) ([], some y) = ([], some y) := by
      intro q
      induction q with
      | nil => intro _; rfl
      | cons t q ih =>
        intro h
        rw [List.foldl_cons]
        have : ahStep (nowB (y :: r) []) ([], some y) t = ([], some y) := by simp [ahStep, h t (by simp)]
        rw [this]
        exact ih (fun u hu => h u (by simp [hu]))
    unfold aheadL ahFold
    rw [hb, List.foldl_cons]
    have h0 : ahStep (nowB (y :: r) []) ([], none) y = ([], some y) := by simp [ahStep, hall y (by simp)]
    rw [h0, hf q (fun t ht => hall t (by simp [ht]))]
    rfl
end Go.Proofs.YtjhklpffmfdkbaaGreatDoor
