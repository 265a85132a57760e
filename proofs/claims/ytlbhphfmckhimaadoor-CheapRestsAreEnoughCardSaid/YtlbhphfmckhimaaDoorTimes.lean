/- The walk over the stream's TimesOf: a list of at most 20 numbers and a window. Condition: the stream has handed out at most 10^10 numbers. -/
import Derived.Test.YtlbhphfmckhimaaDoorStreamA
import Derived.Test.YtlbhphfmckhimaaDoorInts
namespace Go.Proofs.YtlbhphfmckhimaaDoor
open Go.RowKit
set_option linter.unusedVariables false

def sliceLen : Value → Nat
  | .slice _ n _ => n
  | _ => 0
theorem IntsFrom.take {base : Nat} {w : World} {A : Option Addr} {c : Nat} {l : List Int} (h : IntsFrom base w (.slice A l.length c) l) (m : Nat) (hm : m ≤ l.length) : IntsFrom base w (.slice A m c) (l.take m) := by
  have hl : (l.take m).length = m := by simp; omega
  unfold IntsFrom
  rw [hl]
  refine ⟨by simp; omega, ?_⟩
  rcases h.2 with ⟨h1, h2⟩ | ⟨g, cap, cur, h1, h2, h3, h4, h5, h6, h7⟩
  · injection h1 with e1 e2 e3
    subst e1; subst e3
    exact .inl ⟨by rw [show m = 0 by omega], by omega⟩
  · injection h1 with e1 e2 e3
    subst e1; subst e3
    refine .inr ⟨g, _, cur, rfl, h2, h3, by omega, h5, h6, ?_⟩
    rw [List.map_take, ← h7, List.take_take]
    congr 1
    omega

theorem IntsFrom.cap {base : Nat} {w : World} {A : Option Addr} {c n : Nat} {l : List Int} (h : IntsFrom base w (.slice A n c) l) : n ≤ c := by
  rcases h.2 with ⟨h1, h2⟩ | ⟨g, cap, cur, h1, h2, h3, h4, h5, h6, h7⟩
  · injection h1 with e1 e2 e3
    omega
  · injection h1 with e1 e2 e3
    omega

def TimesPost (b k : Nat) (w : World) (e : Ending) (w' : World) : Prop :=
  ∃ (v : Value) (l : List Int) (a zt : Int), e = .returned (.tuple #[v, .agg #[.int .i64 a, .int .i64 zt]]) ∧ IntsFrom w.heap.size w' v l ∧ l.length ≤ 20 ∧ 0 ≤ a ∧ a ≤ 1000 ∧ 0 ≤ zt ∧ (zt ≤ 30000000 ∨ zt = 345686400001) ∧ Str w' b (k + 40) ∧ w.grownBy w' (some b)

end Go.Proofs.YtlbhphfmckhimaaDoor
