/- How a law begins: the stream is laid over the numbers that came in. No condition. -/
import Derived.Test.YtlodmkdhlmineaaGreatDoorStream
import Derived.WalkKit
import Derived.ProofKit
import Derived.OpenShut
import Derived.ShutString
import Derived.ChangeOld
import Derived.Below
namespace Go.Proofs.YtlodmkdhlmineaaGreatDoor
open Go.RowKit
set_option linter.unusedVariables false

/-- The numbers that came in, as the walks ask for them. -/
def In (w : World) (A : Option Addr) (n : Nat) : Prop :=
  n ≤ 9223372036854775807 ∧ (0 < n → ∃ ad, A = some ad ∧ ad.block < w.heap.size ∧ ∀ j, j < n → ∃ z : Int, w.cell? (ad.add j) = some (.int .i64 z))

theorem Str.start {w : World} {A : Option Addr} {n c : Nat} (h : In w A n) :
    Str (w.alloc (.cells #[.slice A n c, .int .i64 0] 25)) w.heap.size 0 := by
  obtain ⟨h1, h2⟩ := h
  refine ⟨A, n, c, 0, Blk.new _ _ _, by omega, by omega, h1, fun hn => ?_⟩
  obtain ⟨ad, e, hb, hc⟩ := h2 hn
  refine ⟨ad, e, hb, fun j hj => ?_⟩
  obtain ⟨z, hz⟩ := hc j hj
  exact ⟨z, (World.cell?_alloc_lt w _ _ (by rw [add_block]; exact hb)).trans hz⟩

/-- WHAT IS TOLD OF A SLICE OF INTEGERS THAT CAME IN: it is nil; or it leads to a row of 'cap' cells, the numbers 'zs'. -/
def IsRow (k : IntKind) (w : World) (a : Option Addr) (len cap : Nat) (zs : List Int) : Prop :=
  (a = none ∧ len = 0 ∧ cap = 0 ∧ zs = []) ∨
  ∃ x, a = some x ∧ len ≤ cap ∧ cap ≤ maxLen ∧ zs.length = cap ∧ (∀ i, i < zs.length → w.cell? (x.add i) = some (.int k (zs.getD i 0))) ∧ ∀ n ∈ zs, (Lit.int k n).wf = true

theorem In.of_row {w : World} {a : Option Addr} {len cap : Nat} {zs : List Int} (h : IsRow .i64 w a len cap zs) : In w a len := by
  rcases h with ⟨_, rfl, _, _⟩ | ⟨x, rfl, h1, h2, h3, h4, _⟩
  · exact ⟨by omega, fun h => absurd h (by omega)⟩
  · unfold maxLen at h2
    refine ⟨by omega, fun hn => ⟨x, rfl, ?_, fun j hj => ⟨_, h4 j (by omega)⟩⟩⟩
    have := World.block_lt_of_cell? w _ (h4 0 (by omega))
    rwa [add_block] at this
end Go.Proofs.YtlodmkdhlmineaaGreatDoor
