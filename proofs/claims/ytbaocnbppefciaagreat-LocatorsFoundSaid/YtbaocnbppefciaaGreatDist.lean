/- The walks over package place's ways: around, between, inMetres, root, distance. Condition: sites without error. -/
import Derived.Test.YtbaocnbppefciaaGreatDistPlain
import Derived.Test.YtbaocnbppefciaaGreatStreamA
import Derived.Test.YtbaocnbppefciaaGreatSkyR
namespace Go.Proofs.YtbaocnbppefciaaGreat
open Go.RowKit
set_option linter.unusedVariables false

set_option maxHeartbeats 400000 in
theorem around_any (x : Int) (w : World) (h0 : -100000000 ≤ x) (h1 : x ≤ 100000000) :
    Calls Tryz.prog 41 #[.int .i64 x] w fun e w' => e = .returned (.int .i64 (aroundI x)) ∧ w = w' := by
  have ht := tmod_lo (x + 648000) 1296000 (by omega)
  obtain ⟨t1, t2⟩ := ht
  have hc := tmod_circle (x + 648000)
  by_cases hx : 0 ≤ x + 648000
  · have HE : Hid ((x + 648000) % 1296000 - 648000 = aroundI x) := rfl
    clear hc t1 t2
    go_enter Tryz.func41, Tryz.ntmps41
    go_wp2_with fail
    go_ret
    exact ⟨ret_of HE.out, rfl⟩
  · have HE : Hid ((x + 648000).tmod 1296000 % 1296000 - 648000 = aroundI x) := by show _ = _; unfold aroundI; omega
    clear hc
    go_enter Tryz.func41, Tryz.ntmps41
    go_wp2_with fail
    go_ret
    exact ⟨ret_of HE.out, rfl⟩

/-- Two sites that have just been laid. -/
theorem two_sites (w : World) (n e n2 e2 : Int) : ∃ W, W = (w.alloc (.cells #[.int .i64 n, .int .i64 e] 27)).alloc (.cells #[.int .i64 n2, .int .i64 e2] 27) ∧
    Blk W w.heap.size 27 #[.int .i64 n, .int .i64 e] ∧ Blk W (w.heap.size + 1) 27 #[.int .i64 n2, .int .i64 e2] ∧ w.grownBy W none := by
  have h := Blk.new (w.alloc (.cells #[.int .i64 n, .int .i64 e] 27)) 27 #[.int .i64 n2, .int .i64 e2]
  rw [World.size_alloc] at h
  exact ⟨_, rfl, (Blk.new w _ _).alloc _, h, gr_alloc (World.grownBy_alloc w _ none) _⟩

end Go.Proofs.YtbaocnbppefciaaGreat
