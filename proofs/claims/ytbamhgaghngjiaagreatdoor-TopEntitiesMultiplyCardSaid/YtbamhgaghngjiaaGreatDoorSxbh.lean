/- The jjq jlx score.Duplicates, where nothing is wrong. Condition: a right contest, right contacts, fewer than 20. -/
import Derived.Test.YtbamhgaghngjiaaGreatDoorSxaw
namespace Go.Proofs.YtbamhgaghngjiaaGreatDoor
open Go.RowKit
set_option linter.unusedVariables false
set_option linter.unusedSimpArgs false

def jsn (c : Cst) (l : List Con) (w : World) (e : Ending) (w' : World) : Prop :=
 ∃ u, e = .returned (.tuple #[u, .int .i64 0]) ∧ IntsFrom w.heap.size w' u (jb0 (j2 (joq c l))) ∧ w.grownBy w' none
set_option maxRecDepth 100000 in
set_option maxHeartbeats 16000000 in
theorem jx3 (base : Nat) (u v rv mv : Value) (c : Cst) (xv : Value) (l : List Con) (w : World) (h : CstFrom base w u v rv mv c) (hs : CstSm c) (hx : ConsFrom base w xv l) (hxs : ∀ y ∈ l, jbk y) (hR : ScRight c l) (h20 : l.length < 20) :
 Calls Tryz.prog 11 #[.agg #[u, v, .string c.own, .int .i64 c.beg, .int .i64 c.fin, rv, mv, .bool c.byMode], xv] w (jsn c l w) := by
 have HO : Hid (∀ W, w.grownBy W none → Calls Tryz.prog 45 #[.agg #[u, v, .string c.own, .int .i64 c.beg, .int .i64 c.fin, rv, mv, .bool c.byMode], xv] W fun e w' => ∃ base2 gS gT bB bW, e = .returned (.tuple #[.pointer (some ⟨gS, 0, none⟩), .int .i64 0]) ∧ ScAt base base2 gS gT bB bW u v rv mv c w' ∧ W.grownBy w' none) := fun W hW => jgh base u v rv mv c xv l W (h.grown hW) hs (hx.grown hW) hxs hR.E hR.len hR.beg
 have HS : Hid (∀ base2 gS gT bB bW W, w.grownBy W none → ScAt base base2 gS gT bB bW u v rv mv c W → Calls Tryz.prog 46 #[.pointer (some ⟨gS, 0, none⟩), xv] W fun e w' => ∃ a b, e = .returned (.tuple #[a, b]) ∧ IntsFrom W.heap.size w' b (j2 (joq c l)) ∧ W.grownBy w' none) := fun base2 gS gT bB bW W hW hsc => (jf9 base base2 gS gT bB bW u v rv mv c xv l W hsc (hx.grown hW) hR.tm h20 hR.ok (fun y hy => ⟨(hR.nam y hy).m0, (hR.nam y hy).m1⟩)).mono fun e w' ⟨a, b, h1, _, h3, h4⟩ => ⟨a, b, h1, h3, h4⟩
 have hdl : (j2 (joq c l)).length ≤ 100 := by
  have h1 := jvu c l
  have h2 := jfl c.beg c.fin l l.length
  unfold j2
  rw [List.length_map]; omega
 obtain ⟨P, hP⟩ : ∃ P : Ending → World → Prop, jsn c l w = P := ⟨_, rfl⟩
 have HP : Hid (∀ r w' u, r = .returned (.tuple #[u, .int .i64 0]) → IntsFrom w.heap.size w' u (jb0 (j2 (joq c l))) → w.grownBy w' none → P r w') := fun r w' u h1 h2 h3 => by rw [← hP]; exact ⟨u, h1, h2, h3⟩
 rw [hP]
 generalize j2 (joq c l) = D at *
 obtain ⟨UA, uc, rfl, _, _⟩ := h.ents.shape
 obtain ⟨VA, vc, rfl, _, _⟩ := h.pfxs.shape
 obtain ⟨RA, rc, rfl, _, _⟩ := h.ruls.shape
 obtain ⟨MA, mc, rfl, _, _⟩ := h.muls.shape
 obtain ⟨XA, xc, rfl, _, _⟩ := hx.shape
 have hB := Blk.new w 33 #[.slice UA c.ents.length uc, .slice VA c.pfxs.length vc, .string c.own, .int .i64 c.beg, .int .i64 c.fin, .slice RA c.ruls.length rc, .slice MA c.muls.length mc, .bool c.byMode]
 have hgB := World.grownBy_alloc w (.cells #[.slice UA c.ents.length uc, .slice VA c.pfxs.length vc, .string c.own, .int .i64 c.beg, .int .i64 c.fin, .slice RA c.ruls.length rc, .slice MA c.muls.length mc, .bool c.byMode] 33) none
 clear h hs hx hxs hR hP
 go_enter Tryz.func11, Tryz.ntmps11
 go_upto_region 1 with fail
 generalize w.alloc (.cells #[.slice UA c.ents.length uc, .slice VA c.pfxs.length vc, .string c.own, .int .i64 c.beg, .int .i64 c.fin, .slice RA c.ruls.length rc, .slice MA c.muls.length mc, .bool c.byMode] 33) = w0 at *
 obtain ⟨gC, hgC⟩ : ∃ g, w.heap.size = g := ⟨_, rfl⟩
 have HGC := Lib.hid hgC
 rw [hgC] at hB
 (try rw [hgC])
 obtain ⟨k0, k1, k2, k3, k4, k5, k6, k7⟩ := qz hB
 clear hB hgC
 go_wp2_with fail
 refine (HO.out _ hgB).mono ?_
 rintro _ w1 ⟨base2, gS, gT, bB, bW, rfl, hS1, hg1⟩
 have hG1 := ja hgB hg1
 have HS1 := Lib.hid (HS.out _ _ _ _ _ _ hG1 hS1)
 clear k0 k1 k2 k3 k4 k5 k6 k7 hS1 HO HS
 go_wp2_with fail
 refine HS1.out.mono ?_
 rintro _ w2 ⟨av, bv, rfl, hb, hg2⟩
 have hG2 := ja hG1 hg2
 have hb0 : IntsFrom w.heap.size w2 bv D := jt hb hG1.size
 obtain ⟨BA, bc, rfl, _, _⟩ := hb.shape
 clear HS1 hg1
 go_wp2_with fail
 refine (jn3 _ _ D w2 hb0 (by omega)).mono ?_
 rintro _ w3 ⟨rfl, hsv, hg3⟩
 have hG3 : w.grownBy w3 none := jh hG2 hg3 (fun g e => .inr ((World.ownsRow.lt hb0 g e).1))
 clear hb hb0 hg3
 go_wp2_with fail
 first
 | exact HP.out _ _ _ rfl hsv hG3
 | (go_ret2; exact HP.out _ _ _ rfl hsv hG3)
end Go.Proofs.YtbamhgaghngjiaaGreatDoor
