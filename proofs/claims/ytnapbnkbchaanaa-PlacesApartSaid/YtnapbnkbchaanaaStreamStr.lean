/- The stream's Some: one of some strings. Condition: it has handed out at most 10^12 numbers. -/
import Derived.Test.YtnapbnkbchaanaaStream
namespace Go.Proofs.Ytnapbnkbchaanaa
set_option linter.unusedVariables false
open Go.RowKit

/-- One of the strings. -/
def SomePost (b k : Nat) (xs : List ByteArray) (w : World) (e : Ending) (w' : World) : Prop :=
  ∃ v : ByteArray, v ∈ xs ∧ e = .returned (.string v) ∧ Str w' b (k + 1) ∧ w.grownBy w' (some b)
theorem getS_of {xs : List ByteArray} {i : Nat} (h : i < xs.length) : ((xs.map Value.string).toArray)[i]? = some (.string xs[i]) := by simp [h]

end Go.Proofs.Ytnapbnkbchaanaa
