/- A slice of ints that the program has made, as a list of numbers; slices.Equal at two that are equal. No condition. -/
import Derived.Test.YtlbhphfmckhimaaBase
namespace Go.Proofs.Ytlbhphfmckhimaa
open Go.RowKit
set_option linter.unusedVariables false

theorem ownsRow_low {w : World} {base base' : Nat} {e : TypeId} {size : Nat} {v : Value} {n : Nat} {xs : List Value} (h : w.ownsRow base e size v n xs) (hb : base' ≤ base) : w.ownsRow base' e size v n xs := by
  obtain ⟨h1, h2⟩ := h
  refine ⟨h1, ?_⟩
  rcases h2 with h2 | ⟨g, cap, cur, hv, hg, r⟩
  · exact .inl h2
  · exact .inr ⟨g, cap, cur, hv, by omega, r⟩
theorem ownsRow_grown {w w' : World} {base : Nat} {e : TypeId} {size : Nat} {v : Value} {n : Nat} {xs : List Value} (h : w.ownsRow base e size v n xs) (hg : w.grownBy w' none) : w'.ownsRow base e size v n xs :=
  h.kept hg (by cases v.ownBlock <;> simp)
theorem ownsRow_other {w w' : World} {base b : Nat} {e : TypeId} {size : Nat} {v : Value} {n : Nat} {xs : List Value} (h : w.ownsRow base e size v n xs) (hg : w.grownBy w' (some b)) (hb : b < base) : w'.ownsRow base e size v n xs :=
  h.kept hg (by
    cases hv : v.ownBlock with
    | none => exact .inl rfl
    | some g => exact .inr (fun e => by injection e with e; have := (h.lt g hv).1; omega))
theorem ownsRow_shape {w : World} {base : Nat} {e : TypeId} {size : Nat} {v : Value} {n : Nat} {xs : List Value} (h : w.ownsRow base e size v n xs) :
    ∃ A c, v = .slice A n c ∧ n ≤ 9223372036854775807 ∧ (0 < n → ∃ g, A = some ⟨g, 0, none⟩ ∧ base ≤ g ∧ g < w.heap.size) := by
  rcases h.2 with ⟨rfl, rfl⟩ | ⟨g, cap, cur, rfl, hb, hh, hnc, hm, _⟩
  · exact ⟨none, 0, rfl, by omega, fun h => absurd h (by omega)⟩
  · unfold maxLen at hm
    exact ⟨_, _, rfl, by omega, fun _ => ⟨g, rfl, hb, (Array.getElem?_eq_some_iff.1 hh).1⟩⟩

/-- The numbers of a slice, that lies in a block from base on. -/
def IntsFrom (base : Nat) (w : World) (v : Value) (l : List Int) : Prop := w.ownsRow base 3 1 v l.length (l.map (Value.int .i64))
abbrev Ints (w : World) (v : Value) (l : List Int) : Prop := IntsFrom 0 w v l
theorem IntsFrom.low {base : Nat} {w : World} {v : Value} {l : List Int} (h : IntsFrom base w v l) : Ints w v l := ownsRow_low h (Nat.zero_le _)
theorem IntsFrom.grown {base : Nat} {w w' : World} {v : Value} {l : List Int} (h : IntsFrom base w v l) (hg : w.grownBy w' none) : IntsFrom base w' v l := ownsRow_grown h hg
theorem IntsFrom.other {base b : Nat} {w w' : World} {v : Value} {l : List Int} (h : IntsFrom base w v l) (hg : w.grownBy w' (some b)) (hb : b < base) : IntsFrom base w' v l := ownsRow_other h hg hb
theorem IntsFrom.nil (base : Nat) (w : World) : IntsFrom base w (.slice none 0 0) [] := World.ownsRow_nil _ _ _ _
theorem IntsFrom.shape {base : Nat} {w : World} {v : Value} {l : List Int} (h : IntsFrom base w v l) :
    ∃ A c, v = .slice A l.length c ∧ l.length ≤ 9223372036854775807 ∧ (0 < l.length → ∃ g, A = some ⟨g, 0, none⟩ ∧ base ≤ g ∧ g < w.heap.size) := ownsRow_shape h
theorem IntsFrom.at_ {base : Nat} {w : World} {g c : Nat} {l : List Int} (h : IntsFrom base w (.slice (some ⟨g, 0, none⟩) l.length c) l) (k : Nat) (hk : k < l.length) : w.cell? ⟨g, k, none⟩ = some (.int .i64 l[k]) := by
  rw [World.ownsRow.cellAt h k (by omega)]
  simp [hk]

theorem intInfo : (Try.prog.info? 3).map (fun i => (i.zero, i.size, i.bytes)) = some (some (.int .i64 0), 1, 8) := by kernel_rfl
theorem one_cell (w : World) (x : Int) (t : TypeId) : ∀ j u, ([Value.int .i64 x])[j]? = some u → (w.alloc (.cells #[.int .i64 x] t)).cell? ((⟨w.heap.size, 0, none⟩ : Addr).add j) = some u := by
  intro j u hu
  have hb := (Blk.new w t #[.int .i64 x]).cell j
  have hadd : (⟨w.heap.size, 0, none⟩ : Addr).add j = ⟨w.heap.size, j, none⟩ := by unfold Addr.add; split <;> simp_all
  rw [hadd, hb]
  simpa using hu
theorem one_oneCell (x : Int) : ∀ u ∈ [Value.int .i64 x], u.oneCell' = true := by
  intro u hu
  simp at hu
  subst hu
  rfl

end Go.Proofs.Ytlbhphfmckhimaa
