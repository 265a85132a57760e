/- The errors of rests in the reference; rate.TooLong with all its errors. Condition: the window's end is at most 2^60. -/
import Derived.Test.YtlbhphfmckhimaaTooRef
namespace Go.Proofs.Ytlbhphfmckhimaa
open Go.RowKit
set_option linter.unusedVariables false

set_option maxHeartbeats 400000 in
theorem leastFault_any (n : Int) (w : World) :
    Calls Try.prog 10 #[.int .i64 n] w fun e w' => e = .returned (.int .i64 (spanE n 1000 86400000)) ∧ w = w' := by
  go_enter Try.func10, Try.ntmps10
  go_wp2_with fail
  refine (spanFault_any _ _ _ _).mono ?_
  rintro e w' ⟨rfl, rfl⟩
  go_wp2_with fail
  go_ret
  exact ⟨rfl, rfl⟩

def tooA (l : List Int) (a z need least : Int) : Int := if needE l a z need least = 0 then tooN (tooI l a z need least) else 0
def tooS (l : List Int) (a z need least : Int) : Bool := if needE l a z need least = 0 then (tooI l a z need least).isSome else false
set_option maxHeartbeats 1000000 in
theorem tooLong_all (base : Nat) (v : Value) (l : List Int) (a z need least : Int) (w : World) (hl : IntsFrom base w v l) (hto : -1152921504606846976 ≤ z) (hto2 : z ≤ 1152921504606846976) :
    Calls Try.prog 13 #[v, .agg #[.int .i64 a, .int .i64 z], .agg #[.int .i64 need, .int .i64 least]] w fun r w' =>
      r = .returned (.tuple #[.int .i64 (tooA l a z need least), .bool (tooS l a z need least), .int .i64 (needE l a z need least)]) ∧ w.grownBy w' none := by
  by_cases h : needE l a z need least = 0
  · refine (tooLong_ok base v l a z need least w hl h).mono ?_
    rintro r w' ⟨rfl, hg⟩
    refine ⟨?_, hg⟩
    unfold tooA tooS
    rw [if_pos h, if_pos h, h]
  · have hA : tooA l a z need least = 0 := by unfold tooA; rw [if_neg h]
    have hS : tooS l a z need least = false := by unfold tooS; rw [if_neg h]
    rw [hA, hS]
    clear hA hS
    obtain ⟨E, hE⟩ : ∃ E, needE l a z need least = E := ⟨_, rfl⟩
    rw [hE] at h ⊢
    have b0 : (E != 0) = true := by rw [bne_iff_ne]; exact h
    have hG := gr_alloc (World.grownBy_alloc w (.cells #[.int .i64 a, .int .i64 z] 27) none) (.cells #[.int .i64 need, .int .i64 least] 32)
    have HL := Lib.hid (hl.grown hG)
    have HE := Lib.hid hE
    clear hl hE h
    go_enter Try.func13, Try.ntmps13
    go_wp2_with fail
    refine (needFault_any base _ _ _ _ _ _ _ HL.out hto hto2).mono ?_
    rintro _ w1 ⟨rfl, hg⟩
    rw [HE.out]
    go_wp2_with fail
    go_ret3
    exact ⟨rfl, gr_trans hG hg⟩

theorem or2_drew (a b : Int) (w : World) :
    Calls Try.prog 9 #[.slice (some ⟨w.heap.size, 0, none⟩) 2 2] (w.alloc (.cells #[.int .i64 a, .int .i64 b] 36)).drew fun r w' =>
      r = .returned (.int .i64 (if a = 0 then b else a)) ∧ w.grownBy w' none :=
  (or_any [a, b] _ 2 2 _ ((Blk.new w _ _).drew) rfl (by decide)).mono fun e w' ⟨he, hw⟩ => ⟨by rw [he]; exact ret_of (by simp only [orL]; split <;> (try split) <;> simp_all), by rw [← hw]; exact gr_drew (World.grownBy_alloc w _ none)⟩
set_option maxHeartbeats 1000000 in
theorem restsFault_any (a z need least : Int) (w : World) (h0 : 0 ≤ a) (h1 : a < z) (h2 : z ≤ 345686400000) :
    Calls Try.prog 18 #[.agg #[.int .i64 a, .int .i64 z], .agg #[.int .i64 need, .int .i64 least]] w fun r w' => r = .returned (.int .i64 (restsE a z need least)) ∧ w.grownBy w' none := by
  have hG := gr_alloc (World.grownBy_alloc w (.cells #[.int .i64 a, .int .i64 z] 27) none) (.cells #[.int .i64 need, .int .i64 least] 32)
  have hx0 := (Blk.new w 27 #[.int .i64 a, .int .i64 z]).alloc (.cells #[.int .i64 need, .int .i64 least] 32)
  have hy0 := Blk.new (w.alloc (.cells #[.int .i64 a, .int .i64 z] 27)) 32 #[.int .i64 need, .int .i64 least]
  rw [World.size_alloc] at hy0
  have hRE : restsE a z need least = if spanE need 0 (z - a) = 0 then spanE least 1000 86400000 else spanE need 0 (z - a) := rfl
  have HRE := Lib.hid hRE
  have e1 : IntKind.i64.wrap (z - a) = z - a := IntWalk.i64_in _ ⟨by omega, by omega⟩
  clear hRE
  go_enter Try.func18, Try.ntmps18
  go_wp2_with fail
  generalize (w.alloc (.cells #[.int .i64 a, .int .i64 z] 27)).alloc (.cells #[.int .i64 need, .int .i64 least] 32) = w1 at *
  have KX : Hid (∀ W' : World, w1.grownBy W' none → W'.cell? ⟨w.heap.size, 0, none⟩ = some (.int .i64 a) ∧ W'.cell? ⟨w.heap.size, 1, none⟩ = some (.int .i64 z) ∧ W'.cell? ⟨w.heap.size + 1, 0, none⟩ = some (.int .i64 need) ∧ W'.cell? ⟨w.heap.size + 1, 1, none⟩ = some (.int .i64 least) ∧ w1.grownBy W' none) :=
    fun W' hW => ⟨(hx0.grown hW (by simp)).cell 0, (hx0.grown hW (by simp)).cell 1, (hy0.grown hW (by simp)).cell 0, (hy0.grown hW (by simp)).cell 1, hW⟩
  go_region_held3 (fun W' => W'.cell? ⟨w.heap.size, 0, none⟩ = some (.int .i64 a) ∧ W'.cell? ⟨w.heap.size, 1, none⟩ = some (.int .i64 z) ∧ W'.cell? ⟨w.heap.size + 1, 0, none⟩ = some (.int .i64 need) ∧ W'.cell? ⟨w.heap.size + 1, 1, none⟩ = some (.int .i64 least) ∧ w1.grownBy W' none)
    ((exact KX.out _ (by repeat (first | exact gr_refl _ _ | assumption | refine gr_drew ?_ | refine gr_alloc ?_ _ | refine gr_trans ?_ (by assumption)))))
    (first | (go_at_call 27; refine (spanFault_any _ _ _ _).mono ?_; rintro _ wA ⟨rfl, rfl⟩) | (go_at_call 10; refine (leastFault_any _ _).mono ?_; rintro _ wB ⟨rfl, rfl⟩) | (go_at_call 9; refine (or2_drew _ _ _).mono ?_; rintro _ wE ⟨rfl, hgE⟩; rw [← HRE.out]) | fail)
  go_wp2_with fail
  go_ret
  exact ⟨rfl, gr_trans hG (by repeat (first | exact gr_refl _ _ | assumption | refine gr_drew ?_ | refine gr_alloc ?_ _ | refine gr_trans ?_ (by assumption)))⟩
end Go.Proofs.Ytlbhphfmckhimaa
