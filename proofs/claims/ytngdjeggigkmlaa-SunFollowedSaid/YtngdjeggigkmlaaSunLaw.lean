/- The walk over the law SunFollowed: it answers true whatever numbers come in. No condition. -/
import Derived.Test.YtngdjeggigkmlaaStart
import Derived.Test.YtngdjeggigkmlaaSky
namespace Go.Proofs.Ytngdjeggigkmlaa
open Go.RowKit
set_option linter.unusedVariables false

theorem spanE_rng {n l h : Int} (he : spanE n l h = 0) : l ≤ n ∧ n ≤ h := by
  rcases spanE_cases n l h with ⟨_, h1, h2⟩ | ⟨h1, _⟩
  · exact ⟨h1, h2⟩
  · omega
theorem momE_rng {a : Int} (he : momE a = 0) : 0 ≤ a ∧ a ≤ 345686399999 := spanE_rng he
theorem siteE_rng {n e : Int} (h : siteE n e = 0) : -324000 ≤ n ∧ n ≤ 324000 ∧ -648000 ≤ e ∧ e ≤ 647999 := by
  rcases siteE_cases n e with ⟨_, h1⟩ | h1
  · exact h1
  · omega
theorem sunE_val {n e a s m : Int} (h : siteE n e = s) (h' : momE a = m) : sunE n e a = if s = 0 then m else s := by unfold sunE; rw [h, h']
theorem greyE_val {n e a v s m : Int} (h : sunE n e a = s) (h' : spanE v 0 200000 = m) : greyE n e a v = if s = 0 then m else s := by unfold greyE; rw [h, h']

set_option maxHeartbeats 2000000 in
theorem sunLaw (A : Option Addr) (n c : Nat) (w : World) (hin : In w A n) :
    Calls Try.prog 3 #[.slice A n c] w fun e w' => e = .returned (.bool true) ∧ Below w.heap.size w w' := by
  have hs := Str.start (c := c) hin
  clear hin
  go_enter Try.func3, Try.ntmps3
  go_wp2_with fail
  refine (siteOf_in _ _ _ hs (by omega)).mono ?_
  rintro _ w1 ⟨n1, e1, hn0, hn1, he0, he1, rfl, hs1, hg1⟩
  go_wp2_with fail
  refine (skyTime_in _ _ _ hs1 (by omega)).mono ?_
  rintro _ w2 ⟨a, ha0, ha1, rfl, hs2, hg2⟩
  go_wp2_with fail
  refine (pick_new _ _ 6 6 [0, 10000, 100000, 200000, -1, 200001] _ hs2 (by omega) rfl (by decide) (by decide)).mono ?_
  rintro _ w3 ⟨v, hv, rfl, hs3, hg3⟩
  have hvb : -1 ≤ v ∧ v ≤ 200001 := by simp at hv; omega
  clear hv
  go_wp2_with fail
  refine (flip_in _ _ _ _ (hs3.alloc _) (by omega) (by omega) (by omega)).mono ?_
  rintro _ w4 ⟨fl, rfl, hs4, hg4⟩
  have hp4 : Blk w4 w3.heap.size 27 #[.int .i64 n1, .int .i64 e1] := (Blk.new w3 _ _).grown hg4 (by have := hs3.lt; have := hs.lt; simp; omega)
  have hb0 : w.heap.size < w3.heap.size := hs3.lt
  have hG4 : w.grownBy w4 none := gr_grown (gr_alloc (gr_grown (gr_grown (gr_grown (World.grownBy_alloc w _ none) hg1 (by simp)) hg2 (by simp)) hg3 (by simp)) _) hg4 (by simp)
  clear hg1 hg2 hg3 hg4 hs1 hs2 hs3 hs
  have hab : -1 ≤ a ∧ a ≤ 345686400000 := by omega
  cases fl
  all_goals go_wp2_with fail
  all_goals first
    | (go_at_call 8
       refine (pick_new _ _ 2 2 [-1, 345686400000] _ hs4 (by omega) rfl (by decide) (by decide)).mono ?_
       rintro _ W ⟨x, hv, rfl, hs5, hg5⟩
       have hxb : -1 ≤ x ∧ x ≤ 345686400000 := by simp at hv; omega
       clear hv hab ha0 ha1 hs4
       have hab := hxb
       clear hxb
       have hp5 := hp4.grown hg5 (by simp; omega)
       have hG5 := gr_grown hG4 hg5 (by simp)
       clear hp4 hG4 hg5 hs5
       have hp4 := hp5
       have hG4 := hG5
       clear hp5 hG5
       go_wp2_with fail)
    | (clear hs4 ha0 ha1
       generalize w4 = W at *
       generalize a = x at *)
  all_goals
    obtain ⟨se, hse, hs01⟩ : ∃ se, siteE n1 e1 = se ∧ (se = 0 ∨ se = 1) := ⟨_, rfl, by rcases siteE_cases n1 e1 with h | h; exact .inl h.1; exact .inr h⟩
    obtain ⟨me, hme, hm01⟩ : ∃ me, momE x = me ∧ (me = 0 ∨ me = 1) := ⟨_, rfl, by rcases momE_cases x with h | h; exact .inl h.1; exact .inr h.1⟩
    obtain ⟨ve, hve, hv01⟩ : ∃ ve, spanE v 0 200000 = ve ∧ (ve = 0 ∨ ve = 1) := ⟨_, rfl, by rcases spanE_cases v 0 200000 with h | h; exact .inl h.1; exact .inr h.1⟩
    have hab0 := hab.1
    have hab1 := hab.2
    have hvb0 := hvb.1
    have hvb1 := hvb.2
    rcases hs01 with rfl | rfl <;> rcases hm01 with rfl | rfl <;> rcases hv01 with rfl | rfl
  all_goals
    have q1 := sunE_val hse hme
    have q2 := greyE_val q1 hve
    simp only [if_false, Int.reduceEq, if_pos] at q1 q2
    have o1 : ∀ y : Int, okI 0 y = y := fun _ => rfl
    have o2 : ∀ y : Int, okI 1 y = 0 := fun _ => rfl
    have o3 : ∀ y : Bool, okB 0 y = y := fun _ => rfl
    have o4 : ∀ y : Bool, okB 1 y = false := fun _ => rfl
    have c0 := hp4.cell 0
    have c1 := hp4.cell 1
    simp only [List.getElem?_toArray, List.getElem?_cons_zero, List.getElem?_cons_succ] at c0 c1
    refine (tiltE_any _ _).mono ?_
    rintro _ w5 ⟨rfl, rfl⟩
    go_wp2_with fail
    refine (sunE_any _ _ _ _).mono ?_
    rintro _ w6 ⟨rfl, hg6⟩
    have hp6 := hp4.grown hg6 (by simp)
    have d0 := hp6.cell 0
    have d1 := hp6.cell 1
    simp only [List.getElem?_toArray, List.getElem?_cons_zero, List.getElem?_cons_succ] at d0 d1
    have hG6 := gr_trans hG4 hg6
    clear hg6
    go_wp2_with fail
    refine (greyE_any _ _ _ _ _).mono ?_
    rintro _ w7 ⟨rfl, hg7⟩
    have hp7 := hp6.grown hg7 (by simp)
    have a0 := hp7.cell 0
    have a1 := hp7.cell 1
    simp only [List.getElem?_toArray, List.getElem?_cons_zero, List.getElem?_cons_succ] at a0 a1
    have hG7 := gr_trans hG6 hg7
    clear hg7
    go_wp2_with fail
    refine (momentFault_any _ _).mono ?_
    rintro _ w8 ⟨rfl, rfl⟩
    go_wp2_with fail
    refine (siteFault_any _ _ _).mono ?_
    rintro _ w9 ⟨rfl, hg9⟩
    have hp9 := hp7.grown hg9 (by simp)
    have b0 := hp9.cell 0
    have b1 := hp9.cell 1
    simp only [List.getElem?_toArray, List.getElem?_cons_zero, List.getElem?_cons_succ] at b0 b1
    have hG9 := gr_trans hG7 hg9
    clear hg9
    go_wp2_with fail
    refine (or2_any _ _ _).mono ?_
    rintro _ w10 ⟨rfl, hg10⟩
    have hpA := hp9.grown hg10 (by simp)
    have hGA := gr_trans hG9 hg10
    clear hg10
    go_wp2_with fail
    refine (spanFault_any _ _ _ _).mono ?_
    rintro _ w11 ⟨rfl, rfl⟩
    go_wp2_with fail
    refine (or2_any _ _ _).mono ?_
    rintro _ W12 ⟨rfl, hg12⟩
    have hpB := hpA.grown hg12 (by simp)
    have hGB := gr_trans hGA hg12
    clear hg12
    have e0 := hpB.cell 0
    have e1' := hpB.cell 1
    simp only [List.getElem?_toArray, List.getElem?_cons_zero, List.getElem?_cons_succ] at e0 e1'
    clear hpA hGA hp9 hG9 hp7 hG7 hp6 hG6 hp4 hG4 c0 c1 d0 d1 a0 a1 b0 b1
    go_wp2_with fail
    all_goals first
      | (go_at_call 17
         have hx := momE_rng hme
         refine (tiltOf_any _ _ hx.1 (by omega)).mono ?_
         rintro _ W13 ⟨rfl, rfl⟩
         go_wp2_with fail)
      | skip
    all_goals first
      | (go_at_call 18
         have hx := momE_rng hme
         have hsr := siteE_rng hse
         refine (sunOf_any _ _ _ _ hx.1 (by omega) (by omega) (by omega) (by omega) (by omega)).mono ?_
         rintro _ W14 ⟨rfl, hg14⟩
         have hpC := hpB.grown hg14 (by simp)
         have hGC := gr_trans hGB hg14
         clear hg14
         have k0 := hpC.cell 0
         have k1 := hpC.cell 1
         simp only [List.getElem?_toArray, List.getElem?_cons_zero, List.getElem?_cons_succ] at k0 k1
         go_wp2_with fail)
      | skip
    all_goals first
      | (go_at_call 19
         have hx := momE_rng hme
         have hsr := siteE_rng hse
         have hvr := spanE_rng hve
         refine (greyAt_any _ _ _ _ _ hx.1 (by omega) (by omega) (by omega) (by omega) (by omega) (by omega) (by omega)).mono ?_
         rintro _ W15 ⟨rfl, hg15⟩
         have hGD := gr_trans hGC hg15
         clear hg15
         go_wp2_with fail)
      | skip
    all_goals
      refine (placed_any _).mono ?_
      rintro _ _ ⟨rfl, rfl⟩
      go_wp2_with fail
      go_ret
      exact ⟨rfl, gr_below (by assumption)⟩
end Go.Proofs.Ytngdjeggigkmlaa
