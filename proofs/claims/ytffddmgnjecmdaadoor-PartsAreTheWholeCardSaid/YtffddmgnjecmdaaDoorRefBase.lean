/- The walk over the closure of the reference's PartsOf: the parts of a base call. Condition: a base call of ASCII. -/
import Derived.Test.YtffddmgnjecmdaaDoorBaseAt
namespace Go.Proofs.YtffddmgnjecmdaaDoor
open Go.RowKit
set_option linter.unusedVariables false
set_option linter.unusedSimpArgs false

set_option maxRecDepth 100000 in
set_option maxHeartbeats 2000000 in
theorem refBase_any (s : ByteArray) (k : Nat) (w : World) (hs : s.size ≤ 1000000000) (ha : Ascii s) (hb : baseI s.data.toList = k) :
    Calls Tryd.prog 61 #[.string s] w fun e w' => e = .returned (.agg #[.string s, .string (s.extract 0 (k + 1)), .string (s.extract (k + 1) s.size), .int .i64 0, .string ⟨#[]⟩]) ∧ w.grownBy w' none := by
  have hl : s.data.toList.length = s.size := by simp
  have hk1 : k + 1 ≤ s.size := by
    have := baseI_cases s.data.toList
    rw [hb, hl] at this
    omega
  have HB := Lib.hid hb
  have HA := Lib.hid ha
  have e1 : IntKind.i64.wrap ((k : Int) + 1) = (k : Int) + 1 := IntWalk.i64_in _ ⟨by omega, by omega⟩
  have e2 : ((k : Int) + 1).toNat = k + 1 := by omega
  have e3 : (0 : Int) ≤ (k : Int) + 1 := by omega
  have e4 : (k : Int) + 1 ≤ (s.size : Int) := by omega
  clear hb hl ha
  go_enter Tryd.func61, Tryd.ntmps61
  go_wp2_with fail
  refine (baseAt_any s _ hs HA.out).mono ?_
  rintro _ w1 ⟨rfl, hg⟩
  rw [HB.out]
  have hB := (Blk.new w 28 #[.string ⟨#[]⟩, .string ⟨#[]⟩, .string ⟨#[]⟩, .int .i64 0, .string ⟨#[]⟩]).grown hg (by simp)
  have c0 := hB.cell 0
  have c1 := hB.cell 1
  have c2 := hB.cell 2
  have c3 := hB.cell 3
  have c4 := hB.cell 4
  have f0 := hB.free 0
  have f1 := hB.free 1
  have f2 := hB.free 2
  have f3 := hB.free 3
  have f4 := hB.free 4
  simp only [List.getElem?_toArray, List.getElem?_cons_zero, List.getElem?_cons_succ] at c0 c1 c2 c3 c4
  go_wp2_with fail
  go_region
  go_wp2_with fail
  refine bodyPost_ret (v := .agg #[.string s, .string (s.extract 0 (k + 1)), .string (s.extract (k + 1) s.size), .int .i64 0, .string ⟨#[]⟩]) (by simp [results, Tryd.results61, go_sem, c0, c1, c2, c3, c4]) rfl ?_
  refine ⟨rfl, ?_⟩
  have hg0 := gr_trans (World.grownBy_alloc w _ none) hg
  exact gr_drew (gr_put (gr_put (gr_put (gr_put (gr_put hg0 (.inr (Nat.le_refl _)) _) (.inr (Nat.le_refl _)) _) (.inr (Nat.le_refl _)) _) (.inr (Nat.le_refl _)) _) (.inr (Nat.le_refl _)) _)
end Go.Proofs.YtffddmgnjecmdaaDoor
