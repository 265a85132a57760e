/- slices.Sorted over maps.Keys of a map from strings to numbers that the program has made: its keys, each once. Condition: at most 10^6 keys. -/
import Derived.Test.YtbaocnbppefciaaGreatRangeS
import Derived.Test.YtbaocnbppefciaaGreatInts
import Derived.Test.YtbaocnbppefciaaGreatIter
namespace Go.Proofs.YtbaocnbppefciaaGreat
open Go.RowKit
set_option linter.unusedVariables false

theorem keys_perm {D : DataW Unit} {w : World} {bm n : Nat} {l : List (List UInt8 × Int)} (h : w.ownsMap Tryz.prog 9 (plainElem Tryz.prog 3) bm n D) (h4 : ∀ k, Maps.has D (.string k) = hasS l k) (h6 : (l.map (·.1)).Nodup) : (l.map (·.1)).Perm (strKeys D) := by
  obtain ⟨es, rfl, hp, _⟩ := h.entries strK
  obtain ⟨es', he, hk⟩ := h.keysOf
  injection he with he
  subst he
  refine perm_strKeys hp (fun p hp' => ?_) h6 (fun x => by rw [h4, hasS_mem])
  obtain ⟨v, hv⟩ := hk p hp'
  obtain ⟨x, _, hx, _⟩ := Maps.keyOf_str Tryz.underlying9 hv
  exact ⟨x, hx⟩
end Go.Proofs.YtbaocnbppefciaaGreat
