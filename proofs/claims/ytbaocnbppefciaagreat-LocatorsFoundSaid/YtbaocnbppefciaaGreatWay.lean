/- The walk over place.Way. No condition but bounds of the numbers. -/
import Derived.Test.YtbaocnbppefciaaGreatDist
import Derived.Test.YtbaocnbppefciaaGreatPairs
import Derived.Deep.AppendLies
import Derived.Deep.RegionHeld3
namespace Go.Proofs.YtbaocnbppefciaaGreat
open Go.RowKit
set_option linter.unusedVariables false

theorem siteInfo : (Tryz.prog.info? 27).map (fun i => (i.zero, i.size, i.bytes)) = some (some (.agg #[.int .i64 0, .int .i64 0]), 2, 16) := by kernel_rfl
/-- A slice that holds these sites. -/
def Sites (base : Nat) (w : World) (v : Value) (l : List (Int × Int)) : Prop := w.ownsRow base 27 2 v l.length (wcells l)
theorem Sites.nil (base : Nat) (w : World) : Sites base w (.slice none 0 0) [] := World.ownsRow_nil _ _ _ _
theorem Sites.grown {base : Nat} {w w' : World} {v : Value} {l : List (Int × Int)} (h : Sites base w v l) (hg : w.grownBy w' none) : Sites base w' v l := ownsRow_grown h hg

theorem range_snoc2 {α : Type} (f : Nat → α) (k : Nat) : (List.range (k + 1)).map f = (List.range k).map f ++ [f k] := by rw [List.range_succ, List.map_append]; rfl
theorem mulK_bd {d k p : Int} (h0 : -648000 ≤ d) (h1 : d ≤ 648000) (k0 : 0 ≤ k) (k1 : k ≤ p) (p1 : p ≤ 1000) : -648000000 ≤ d * k ∧ d * k ≤ 648000000 := by
  have := mul_bd d k 648000 1000 h0 h1 (by omega) (by omega)
  omega

end Go.Proofs.YtbaocnbppefciaaGreat
