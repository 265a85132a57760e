/- The stream's Some: one of some strings. Condition: it has handed out at most 10^12 numbers. -/
import Derived.Test.YtlodmkdhlmineaaGreatDoorStream
namespace Go.Proofs.YtlodmkdhlmineaaGreatDoor
set_option linter.unusedVariables false
open Go.RowKit

/-- One of the strings. -/
def SomePost (b k : Nat) (xs : List ByteArray) (w : World) (e : Ending) (w' : World) : Prop :=
  ∃ v : ByteArray, v ∈ xs ∧ e = .returned (.string v) ∧ Str w' b (k + 1) ∧ w.grownBy w' (some b)
theorem getS_of {xs : List ByteArray} {i : Nat} (h : i < xs.length) : ((xs.map Value.string).toArray)[i]? = some (.string xs[i]) := by simp [h]

set_option maxHeartbeats 400000 in
theorem some_in (b k g m c : Nat) (xs : List ByteArray) (w : World) (hs : Str w b k) (hk : k ≤ 1000000000000) (hg : Blk w g 9 (xs.map Value.string).toArray) (hne : g ≠ b) (hm : m = xs.length) (h1 : 1 ≤ m) (h2 : m ≤ 1000) :
    Calls Tryz.prog 34 #[.pointer (some ⟨b, 0, none⟩), .slice (some ⟨g, 0, none⟩) m c] w (SomePost b k xs w) := by
  have HM := Lib.hid hm
  clear hm
  go_enter Tryz.func34, Tryz.ntmps34
  go_wp2_with fail
  refine (next_in b k _ _ hs hk (by omega) (by omega)).mono ?_
  rintro e w1 ⟨v, hv0, hv1, rfl, hs1, hg1⟩
  obtain ⟨i, rfl⟩ := Int.eq_ofNat_of_zero_le hv0
  have hi : i < xs.length := by have := HM.out; omega
  have hc := (hg.grown hg1 (by simpa using hne)).cell i
  rw [getS_of hi] at hc
  obtain ⟨z, hz⟩ : ∃ z, z = xs[i] := ⟨_, rfl⟩
  have hmem : z ∈ xs := by rw [hz]; exact List.getElem_mem hi
  rw [← hz] at hc
  clear hz
  go_wp2_with fail
  go_ret
  exact ⟨z, hmem, rfl, hs1, hg1⟩

/-- Some of strings that have just been laid. -/
theorem some_at (b k g m c : Nat) (xs : List ByteArray) (w : World) (hs : Str w b k) (hg : g = w.heap.size) (hk : k ≤ 1000000000000) (hm : m = xs.length) (h1 : 1 ≤ m) (h2 : m ≤ 1000) :
    Calls Tryz.prog 34 #[.pointer (some ⟨b, 0, none⟩), .slice (some ⟨g, 0, none⟩) m c] (w.alloc (.cells (xs.map Value.string).toArray 9)) (SomePost b k xs w) := by
  subst hg
  exact (some_in b k _ m c xs _ (hs.alloc _) hk (Blk.new _ _ _) (by have := hs.lt; omega) hm h1 h2).mono fun e w' ⟨v, hv, he, hs', hg⟩ =>
    ⟨v, hv, he, hs', gr_trans (World.grownBy_alloc w _ _) hg⟩
end Go.Proofs.YtlodmkdhlmineaaGreatDoor
