/- The law HeardIsLeast: no unit that is drawn has less deviation than the one that is heard. Condition: an argument that lies in its block, and asciiSpace as Go has it. -/
import Derived.Test.YtmhddmngencaeaaDoorHearW
import Derived.Test.YtmhddmngencaeaaDoorWith
import Derived.Test.YtmhddmngencaeaaDoorRightKeyed
import Derived.Test.YtmhddmngencaeaaDoorReady
import Derived.Test.YtmhddmngencaeaaDoorStart
namespace Go.Proofs.YtmhddmngencaeaaDoor
open Go.RowKit
set_option linter.unusedVariables false
set_option linter.unusedSimpArgs false

theorem unitE_ok {l : List Int} {u : Int} (h : marksE l = 0) (u0 : 1 ≤ u) (u1 : u ≤ 2000) : unitE l u = 0 := by unfold unitE; rw [if_pos h]; exact spanE_no u0 u1
theorem hear_ok {l : List Int} (hE : marksE l = 0) (hn : l.length ≤ 200) : hearB l = true := by
  unfold hearB hearS
  rw [hE]
  have := readL_len l (hearU l)
  simp
  omega
set_option maxRecDepth 100000 in
set_option maxHeartbeats 4000000 in
theorem leastLaw (A : Option Addr) (n c : Nat) (w : World) (hin : In w A n) (hgl : Gl w.heap.size w) :
    Calls Tryd.prog 6 #[.slice A n c] w fun r w' => r = .returned (.bool true) ∧ Below w.heap.size w w' := by
  have hs0 := Str.start (c := c) hin
  have HGL := Lib.hid hgl
  clear hin hgl
  go_enter Tryd.func6, Tryd.ntmps6
  go_wp2_with fail
  have hG0 := World.grownBy_alloc w (.cells #[.slice A n c, .int .i64 0] 25) none
  generalize w.alloc (.cells #[.slice A n c, .int .i64 0] 25) = W0 at *
  generalize hb : w.heap.size = b at *
  have HB := Lib.hid hb
  clear hb
  have hgl0 := HGL.out.quiet hG0
  refine (rightKeyed_in b b 0 _ hs0 (by decide) hgl0 (Nat.le_refl _)).mono ?_
  rintro _ w1 ⟨v, l, rfl, hv, ho, h33, hx, hs1, hg1⟩
  have hG1 : w.grownBy w1 none := gr_grown hG0 hg1 (fun g e => by injection e with e; exact .inr (by have := HB.out; omega))
  have hlt0 := hs0.lt
  have hv1 : IntsFrom (b + 1) w1 v l := ownsRow_low hv (by omega)
  have hE : marksE l = 0 := marksE_zero ho (by omega) (fun x h => by have := hx x h; omega)
  have HEB := Lib.hid (hear_ok hE (by omega))
  obtain ⟨q1, q2, q3, q4⟩ := hearTo_ok l 2000 (by decide)
  have HV := Lib.hid hv1
  clear hs0 hG0 hgl0 hv hv1 hx hg1 hlt0 ho h33
  go_wp2_with fail
  refine (range_in b _ 1 2000 _ hs1 (by decide) (by decide) (by decide) (by decide)).mono ?_
  rintro _ w2 ⟨z, hz0, hz1, rfl, hs2, hg2⟩
  have hG2 : w.grownBy w2 none := gr_grown hG1 hg2 (fun g e => by injection e with e; exact .inr (by have := HB.out; omega))
  have hV2 := IntsFrom.other HV.out hg2 (by omega)
  have HW := Lib.hid (fun W u (h : IntsFrom (b + 1) W v l) (hg : Gl b W) => with_any (b + 1) b v l u W h hg)
  have hEz := unitE_ok hE hz0 hz1
  have hEu : unitE l (hearU l) = 0 := unitE_ok hE q1 q2
  have HZ : Hid (withO l z = offL l z ∧ unitE l z = 0) := ⟨by unfold withO; rw [if_pos hEz], hEz⟩
  have HU : Hid (withT l (hearU l) = hearS l ∧ withO l (hearU l) = (hearTo l 2000).2 ∧ unitE l (hearU l) = 0) := ⟨by unfold withT; rw [if_pos hEu]; rfl, by unfold withO; rw [if_pos hEu]; exact q3.symm, hEu⟩
  obtain ⟨r1, r2⟩ := q4 z hz0 hz1
  have r2' : offL l z = (hearTo l 2000).2 → ¬ (hearU l) < z := fun e h => by have := r2 e; unfold hearU at h; omega
  have hE0 := Lib.hid hE
  clear q1 q2 q3 q4 r2 hEz hEu hs1 hG1 hg2 hE
  generalize hD : offL l z = D at *
  generalize hU : hearU l = U at *
  generalize hQ : (hearTo l 2000).2 = Q at *
  have HUQ : Hid (hearU l = U ∧ (hearTo l 2000).2 = Q) := ⟨hU, hQ⟩
  clear hU hQ hD
  have hDlt : ¬ D < Q := by omega
  go_wp2_with fail
  refine (hear_any (b + 1) b v l _ hV2 (HGL.out.quiet hG2)).mono ?_
  rintro _ w3 ⟨hg3, hway⟩
  obtain ⟨hBt, rfl⟩ := hway.resolve_right (fun h => by have := HEB.out; rw [h.1] at this; cases this)
  rw [HUQ.out.1, HUQ.out.2]
  have hV3 := hV2.grown hg3
  have hG3 := gr_trans hG2 hg3
  obtain ⟨T, hT⟩ : ∃ T : ByteArray, T = ⟨(hearS l).toArray⟩ := ⟨_, rfl⟩
  rw [← hT]
  have HT := Lib.hid hT
  clear hway hBt hT hV2 hG2 hg3
  go_wp2_with fail
  have hB4 := Blk.new w3 35 #[.string T, .int .i64 U, .int .i64 Q]
  have hG4 := gr_alloc hG3 (.cells #[.string T, .int .i64 U, .int .i64 Q] 35)
  have hV4 := hV3.grown (World.grownBy_alloc w3 (.cells #[.string T, .int .i64 U, .int .i64 Q] 35) none)
  generalize w3.alloc (.cells #[.string T, .int .i64 U, .int .i64 Q] 35) = w4 at *
  generalize w3.heap.size = g4 at *
  refine (HW.out _ z hV4 (HGL.out.quiet hG4)).mono ?_
  rintro _ w5 ⟨rfl, hg5⟩
  rw [HZ.out.1, HZ.out.2]
  have hB5 := hB4.grown hg5 (by simp)
  have hV5 := hV4.grown hg5
  have hG5 := gr_trans hG4 hg5
  obtain ⟨c0, c1, c2⟩ := blk_cells3 hB5
  clear hB4 hV3 hV4 hG3 hG4 hg5
  generalize withT l z = T2 at *
  by_cases hDQ : D = Q
  · subst hDQ
    have hUz := r2' rfl
    clear r2' r1
    go_wp2_with fail
    refine (HW.out _ U hV5 (HGL.out.quiet hG5)).mono ?_
    rintro _ w6 ⟨rfl, hg6⟩
    rw [HU.out.1, HU.out.2.1, HU.out.2.2, ← HT.out]
    have hG6 := gr_trans hG5 hg6
    obtain ⟨c0, c1, c2⟩ := blk_cells3 (hB5.grown hg6 (by simp))
    have HTT : (T.toList == T.toList) = true := by simp
    clear hV5 hG5 hg6
    go_wp2_with fail
    refine (ready_any b _ (HGL.out.quiet hG6)).mono ?_
    rintro _ w7 ⟨rfl, hg⟩
    go_wp2_with fail
    go_ret
    exact ⟨rfl, gr_below (gr_trans hG6 hg)⟩
  · have hDQ2 : (D == Q) = false := by rw [beq_eq_false_iff_ne]; exact hDQ
    clear r2' r1
    go_wp2_with fail
    refine (HW.out _ U hV5 (HGL.out.quiet hG5)).mono ?_
    rintro _ w6 ⟨rfl, hg6⟩
    rw [HU.out.1, HU.out.2.1, HU.out.2.2, ← HT.out]
    have hG6 := gr_trans hG5 hg6
    obtain ⟨c0, c1, c2⟩ := blk_cells3 (hB5.grown hg6 (by simp))
    have HTT : (T.toList == T.toList) = true := by simp
    clear hV5 hG5 hg6
    go_wp2_with fail
    refine (ready_any b _ (HGL.out.quiet hG6)).mono ?_
    rintro _ w7 ⟨rfl, hg⟩
    go_wp2_with fail
    go_ret
    exact ⟨rfl, gr_below (gr_trans hG6 hg)⟩
end Go.Proofs.YtmhddmngencaeaaDoor
