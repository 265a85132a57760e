/- slices.Sorted over maps.Keys of a map from strings to numbers that the program has made: its keys, each once. Condition: at most 10^6 keys. -/
import Derived.Test.YtnapbnkbchaanaaGreatDoorRangeS
import Derived.Test.YtnapbnkbchaanaaGreatDoorInts
import Derived.Test.YtnapbnkbchaanaaGreatDoorIter
namespace Go.Proofs.YtnapbnkbchaanaaGreatDoor
open Go.RowKit
set_option linter.unusedVariables false

theorem keys_any (bm : Nat) (w : World) : Calls Tryz.prog 113 #[.map (some bm)] w fun e w' => e = .returned (.func (.func 172) #[] #[.pointer (some ⟨w.heap.size, 0, none⟩)]) ∧ w' = w.alloc (.cells #[.map (some bm)] 146) :=
  (callsIn_wide (n := 5)).1 (Tryz.maps_Keys_113 (some bm) w)
theorem keys_perm {D : DataW Unit} {w : World} {bm n : Nat} {l : List (List UInt8 × Int)} (h : w.ownsMap Tryz.prog 9 (plainElem Tryz.prog 3) bm n D) (h4 : ∀ k, Maps.has D (.string k) = hasS l k) (h6 : (l.map (·.1)).Nodup) : (l.map (·.1)).Perm (strKeys D) := by
  obtain ⟨es, rfl, hp, _⟩ := h.entries strK
  obtain ⟨es', he, hk⟩ := h.keysOf
  injection he with he
  subst he
  refine perm_strKeys hp (fun p hp' => ?_) h6 (fun x => by rw [h4, hasS_mem])
  obtain ⟨v, hv⟩ := hk p hp'
  obtain ⟨x, _, hx, _⟩ := Maps.keyOf_str Tryz.underlying9 hv
  exact ⟨x, hx⟩
theorem sorted_any (bm n : Nat) (l : List (List UInt8 × Int)) (w : World) (h : MapS w bm n l) (hl : l.length ≤ 1000000) :
    Calls Tryz.prog 92 #[.func (.func 172) #[] #[.pointer (some ⟨w.heap.size, 0, none⟩)]] (w.alloc (.cells #[.map (some bm)] 146)) fun e w' =>
      ∃ (v : Value) (ss : List (List UInt8)), e = .returned v ∧ ss.Perm (l.map (·.1)) ∧ ss.Pairwise (· ≤ ·) ∧ w'.ownsRow w.heap.size 9 1 v ss.length (ss.map encStr) ∧ w.grownBy w' none := by
  obtain ⟨D, h1, h2, h3, h4, h5, h6⟩ := h
  refine ((callsIn_wide (n := 5)).1 (Tryz.slices_Sorted_keys_92_113 bm n D _ w h1 (by rw [h5]; unfold maxLen; omega) (by rw [h5]; omega))).mono ?_
  rintro e w' ⟨v, ss, rfl, hp, hrow, _, hb⟩
  refine ⟨v, ss.mergeSort (fun x y => decide (x ≤ y)), rfl, ((List.mergeSort_perm _ _).trans hp).trans (keys_perm h1 h4 h6).symm, ?_, ?_, gr_trans (World.grownBy_alloc w _ none) (gr_of_below hb)⟩
  · exact (List.pairwise_mergeSort (le := fun x y : List UInt8 => decide (x ≤ y)) (by intro a b c h1 h2; simp only [decide_eq_true_eq] at *; exact List.le_trans h1 h2) (by intro a b; simp only [Bool.or_eq_true, decide_eq_true_eq]; exact List.le_total a b) ss).imp (by intro a b h; simpa using h)
  · rw [List.length_mergeSort]
    exact ownsRow_low hrow (by simp)
end Go.Proofs.YtnapbnkbchaanaaGreatDoor
