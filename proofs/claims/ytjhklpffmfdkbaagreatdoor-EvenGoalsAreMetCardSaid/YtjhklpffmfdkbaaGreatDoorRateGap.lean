/- The walks over slices.Clone, rate.Gap, pileref1.gaps and GapOf. Condition: the window's end is no number beyond 2^60; times without error where the name says ok. -/
import Derived.Test.YtjhklpffmfdkbaaGreatDoorRateBest
import Derived.Deep.AppendLies
namespace Go.Proofs.YtjhklpffmfdkbaaGreatDoor
open Go.RowKit
set_option linter.unusedVariables false

theorem clone_any (base : Nat) (v : Value) (l : List Int) (w : World) (hl : IntsFrom base w v l) (hn : l.length ≤ 1000000) :
    Calls Tryz.prog 75 #[v] w fun r w' => ∃ u, r = .returned u ∧ IntsFrom w.heap.size w' u l ∧ w.grownBy w' none := by
  obtain ⟨A, c, rfl, hlen, hA⟩ := hl.shape
  rcases Nat.eq_zero_or_pos l.length with h0 | h0
  · have hl0 : l = [] := List.eq_nil_of_length_eq_zero h0
    subst hl0
    cases A with
    | none =>
      refine (Tryz.slices_Clone_int_nil 0 c w).mono ?_
      rintro _ w1 ⟨rfl, rfl⟩
      exact ⟨_, rfl, IntsFrom.nil _ _, gr_refl _ _⟩
    | some ad =>
      refine (Tryz.slices_Clone_int_zero ad c w).mono ?_
      rintro _ w1 ⟨u, rfl, hown, _, hb⟩
      exact ⟨_, rfl, hown, gr_of_below hb⟩
  · obtain ⟨g, rfl, _, _⟩ := hA h0
    have hc : ∀ j, j < l.length → w.cell? ⟨g, 0 + j, none⟩ = some (.int .i64 (l.getD j 0)) := fun j hj => by
      rw [Nat.zero_add, hl.at_ j hj]
      simp [List.getD, hj]
    refine (Tryz.slices_Clone_int g 0 l.length c l w (Nat.le_refl _) (by omega) hc).mono ?_
    rintro _ w1 ⟨u, rfl, hown, _, hb⟩
    rw [List.take_length] at hown
    exact ⟨_, rfl, hown, gr_of_below hb⟩

theorem gapI_drop (l : List Int) (st : (Int × Int) × Int) (k : Nat) (h : k < l.length) : (l.drop k).foldl gapStep st = (l.drop (k + 1)).foldl gapStep (gapStep st l[k]) := by
  rw [List.drop_eq_getElem_cons h]; rfl

theorem one_kept {w w' : World} {x : Int} {t : TypeId} (hg : (w.alloc (.cells #[.int .i64 x] t)).drew.grownBy w' none) : ∀ j u, ([Value.int .i64 x])[j]? = some u → w'.cell? ((⟨w.heap.size, 0, none⟩ : Addr).add j) = some u := fun j u hu =>
  hg.cell (a := (⟨w.heap.size, 0, none⟩ : Addr).add j) (one_cell w x t j u hu) (by simp)

end Go.Proofs.YtjhklpffmfdkbaaGreatDoor
