/- The walks over rate.Rate and its twin in the reference. Condition: the window's end is no number beyond 2^60; times without error where the name says ok. -/
import Derived.Test.YtjhklpffmfdkbaaGreatDoorRateE
namespace Go.Proofs.YtjhklpffmfdkbaaGreatDoor
open Go.RowKit
set_option linter.unusedVariables false

theorem ret_3 {a b c d : Int} {p : Bool} {e f : Int} (h : a = b) (h' : c = d) (h2 : e = f) :
    Ending.returned (.tuple #[.agg #[.int .i64 a, .int .i64 c], .bool p, .int .i64 e]) = .returned (.tuple #[.agg #[.int .i64 b, .int .i64 d], .bool p, .int .i64 f]) := by rw [h, h', h2]

theorem gr_put2 {a w : World} {g : Nat} (h : a.grownBy w (some g)) (i j : Nat) (u v : Value) : a.grownBy ((w.setCell ⟨g, i, none⟩ u).setCell ⟨g, j, none⟩ v) (some g) :=
  gr_put (p := ⟨g, j, none⟩) (gr_put (p := ⟨g, i, none⟩) h (.inl rfl) u) (.inl rfl) v
theorem many_scale {m d : Int} (h0 : 0 ≤ m) (h1 : m ≤ 2000) : 0 ≤ m * 3600000 ∧ m * 3600000 ≤ 1000000000000000000 := by omega

end Go.Proofs.YtjhklpffmfdkbaaGreatDoor
