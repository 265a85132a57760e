/- The walk over rate.Fairest. Condition: few shifts without error; a contest's time. -/
import Derived.Test.YtnapbnkbchaanaaGreatDoorLongs
import Derived.Test.YtnapbnkbchaanaaGreatDoorRangeS
import Derived.Test.YtnapbnkbchaanaaGreatDoorRateA
namespace Go.Proofs.YtnapbnkbchaanaaGreatDoor
open Go.RowKit
set_option linter.unusedVariables false
set_option linter.unusedSimpArgs false

theorem wpList_lenS (w : World) {ops : Array Oper} {rest : List Oper} {o : Oper} {a : Act} {Q : Exit → Act → World → Prop} (hg : o.guard = none) (m : Operand)
    (hop : o.op = Op.call { callee := Callee.builtin Builtin.len, args := #[m], argTypes := #[146] }) (bm n : Nat) (l : List (List UInt8 × Int)) (hm : a.eval m = .map (some bm)) (h : MapS w bm n l)
    (hK : wpList Tryz.prog ops Q rest (a.put o.dst (.int .i64 l.length)) w) : wpList Tryz.prog ops Q (o :: rest) a w := by
  obtain ⟨D, h1, h2, h3, h4, h5, h6⟩ := h
  rw [← h5] at hK
  exact wpList_len_own w hg m 146 hop 9 3 Tryz.underlying146 _ bm n D hm h1 hK
/-- How much time would have to change hands. -/
def fairS (l : List (List UInt8 × Int)) : Int := if l = [] then 0 else ((l.map (·.1)).map fun k => max 0 (valS l k - sumS l / (l.length : Int))).sum
theorem sum_nonneg {f : List UInt8 → Int} {l : List (List UInt8)} (h : ∀ k, 0 ≤ f k) : 0 ≤ (l.map f).sum := by
  induction l with
  | nil => simp
  | cons a r ih => have := h a; simp only [List.map_cons, List.sum_cons]; omega

end Go.Proofs.YtnapbnkbchaanaaGreatDoor
