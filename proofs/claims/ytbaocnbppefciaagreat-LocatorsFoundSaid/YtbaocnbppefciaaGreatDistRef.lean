/- The walks over the reference's around, apart, root, DistanceOf. Condition: sites without error. -/
import Derived.Test.YtbaocnbppefciaaGreatDist
namespace Go.Proofs.YtbaocnbppefciaaGreat
open Go.RowKit
set_option linter.unusedVariables false

set_option maxHeartbeats 400000 in
theorem aroundR_any (x : Int) (w : World) (h0 : -100000000 ≤ x) (h1 : x ≤ 100000000) :
    Calls Tryz.prog 46 #[.int .i64 x] w fun e w' => e = .returned (.int .i64 (aroundI x)) ∧ w = w' := by
  have ht := tmod_lo (x + 648000) 1296000 (by omega)
  obtain ⟨t1, t2⟩ := ht
  have m0 : IntKind.i64.wrap (x + 648000) = x + 648000 := i64_in _ ⟨by omega, by omega⟩
  by_cases hx : (x + 648000).tmod 1296000 < 0
  · have HE : Hid ((x + 648000).tmod 1296000 + 1296000 - 648000 = aroundI x) := by show _ = _; rw [tmod_neg' hx]; rfl
    obtain ⟨t, hq⟩ : ∃ t, (x + 648000).tmod 1296000 = t := ⟨_, rfl⟩
    rw [hq] at HE t1 t2 hx
    have m1 : IntKind.i64.wrap t = t := i64_in _ ⟨by omega, by omega⟩
    go_enter Tryz.func46, Tryz.ntmps46
    go_wp2_with fail
    go_ret
    exact ⟨ret_of HE.out, rfl⟩
  · have HE : Hid ((x + 648000).tmod 1296000 - 648000 = aroundI x) := by show _ = _; rw [tmod_nonneg' (by omega)]; rfl
    obtain ⟨t, hq⟩ : ∃ t, (x + 648000).tmod 1296000 = t := ⟨_, rfl⟩
    rw [hq] at HE t1 t2 hx
    have m1 : IntKind.i64.wrap t = t := i64_in _ ⟨by omega, by omega⟩
    go_enter Tryz.func46, Tryz.ntmps46
    go_wp2_with fail
    go_ret
    exact ⟨ret_of HE.out, rfl⟩

end Go.Proofs.YtbaocnbppefciaaGreat
