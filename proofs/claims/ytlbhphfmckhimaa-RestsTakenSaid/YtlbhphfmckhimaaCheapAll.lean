/- The walk over rate.Cheapest where an argument is wrong. Condition: numbers of at most 60 bits. -/
import Derived.Test.YtlbhphfmckhimaaCheapE
namespace Go.Proofs.Ytlbhphfmckhimaa
open Go.RowKit
set_option linter.unusedVariables false
set_option linter.unusedSimpArgs false

/-- The error of rate.Cheapest. -/
def chpE (l : List Int) (a z nd ls : Int) : Int := if needE l a z nd ls = 0 then cheapE a z nd ls else needE l a z nd ls
theorem cheapE_form {a z nd ls : Int} (h : cheapE a z nd ls ≠ 0) (hz : ¬ 400000 < z - a) : cheapE a z nd ls = 3 ∧ [a, z, nd, ls].any remM = true := by
  unfold cheapE at h ⊢
  rw [if_neg hz] at h ⊢
  simp only [List.any_cons, List.any_nil, Bool.or_false]
  generalize remM a = x1 at *
  generalize remM z = x2 at *
  generalize remM nd = x3 at *
  generalize remM ls = x4 at *
  cases x1 <;> cases x2 <;> cases x3 <;> cases x4 <;> first | exact ⟨rfl, rfl⟩ | exact absurd rfl h
theorem cheapE_large {a z nd ls : Int} (hz : 400000 < z - a) : cheapE a z nd ls = 2 := by unfold cheapE; rw [if_pos hz]
set_option maxRecDepth 100000 in
set_option maxHeartbeats 4000000 in
theorem cheapest_bad (base : Nat) (v : Value) (l : List Int) (a z nd ls : Int) (w : World) (hl : IntsFrom base w v l) (hto : -1152921504606846976 ≤ z) (hto2 : z ≤ 1152921504606846976) (hE : chpE l a z nd ls ≠ 0) :
    Calls Try.prog 14 #[v, .agg #[.int .i64 a, .int .i64 z], .agg #[.int .i64 nd, .int .i64 ls]] w fun r w' => r = .returned (.tuple #[.slice none 0 0, .int .i64 0, .bool false, .int .i64 (chpE l a z nd ls)]) ∧ w.grownBy w' none := by
  have hHNF := fun W (h : IntsFrom base W v l) => needFault_any base v l a z nd ls W h hto hto2
  have HNF := Lib.hid hHNF
  have hx := (Blk.new w 27 #[.int .i64 a, .int .i64 z]).alloc (.cells #[.int .i64 nd, .int .i64 ls] 32)
  have hy := Blk.new (w.alloc (.cells #[.int .i64 a, .int .i64 z] 27)) 32 #[.int .i64 nd, .int .i64 ls]
  rw [World.size_alloc] at hy
  have hG := gr_alloc (World.grownBy_alloc w (.cells #[.int .i64 a, .int .i64 z] 27) none) (.cells #[.int .i64 nd, .int .i64 ls] 32)
  have hl2 := hl.grown hG
  clear hl hHNF
  by_cases hN : needE l a z nd ls = 0
  · have hce : chpE l a z nd ls = cheapE a z nd ls := by unfold chpE; rw [if_pos hN]
    rw [hce] at hE ⊢
    have hT : timesE l a z = 0 := by unfold needE at hN; exact (orE_0' hN).1
    have O := timesE_ok hT
    have ha0 := O.a0
    have hzt := O.to_
    have hat := O.ato
    rw [hN] at HNF
    have hsub : IntKind.i64.wrap (z - a) = z - a := by rw [IntKind.wrap_i64]; omega
    by_cases hbig : 400000 < z - a
    · have HE := Lib.hid (cheapE_large (nd := nd) (ls := ls) hbig)
      clear hce hN hT O hE
      rw [HE.out]
      go_enter Try.func14, Try.ntmps14
      go_upto_region 1 with fail
      generalize (w.alloc (.cells #[.int .i64 a, .int .i64 z] 27)).alloc (.cells #[.int .i64 nd, .int .i64 ls] 32) = W2 at *
      obtain ⟨x0, x1⟩ := hx.cells2
      obtain ⟨y0, y1⟩ := hy.cells2
      go_wp2_with fail
      refine (HNF.out _ hl2).mono ?_
      rintro _ w3 ⟨rfl, hg3⟩
      have hx3 := hx.grown hg3 (by simp)
      have hy3 := hy.grown hg3 (by simp)
      clear x0 x1 y0 y1
      obtain ⟨x0, x1⟩ := hx3.cells2
      obtain ⟨y0, y1⟩ := hy3.cells2
      go_wp2_with fail
      refine bodyPost_ret (v := .tuple #[.slice none 0 0, .int .i64 0, .bool false, .int .i64 2]) (by simp [results, Try.results14, go_sem]) rfl ?_
      exact ⟨rfl, gr_trans hG hg3⟩
    · obtain ⟨hE3, hrem⟩ := cheapE_form hE hbig
      have HHR : Hid (∀ W g, Blk W g 3 #[.int .i64 a, .int .i64 z, .int .i64 nd, .int .i64 ls] → Calls Try.prog 32 #[.slice (some ⟨g, 0, none⟩) 4 4, .func (.func 33) #[] #[]] W fun r w' => r = .returned (.bool true) ∧ W = w') := fun W g h => by
        have h2 := hasRem 0 (.slice (some ⟨g, 0, none⟩) 4 4) [a, z, nd, ls] W ⟨by simp, .inr ⟨g, 4, _, rfl, Nat.zero_le _, h, Nat.le_refl _, by unfold maxLen; omega, by simp, rfl⟩⟩
        rw [hrem] at h2
        exact h2
      clear hce hN hT O hE hrem
      rw [hE3]
      go_enter Try.func14, Try.ntmps14
      go_upto_region 1 with fail
      generalize (w.alloc (.cells #[.int .i64 a, .int .i64 z] 27)).alloc (.cells #[.int .i64 nd, .int .i64 ls] 32) = W2 at *
      obtain ⟨x0, x1⟩ := hx.cells2
      obtain ⟨y0, y1⟩ := hy.cells2
      go_wp2_with fail
      refine (HNF.out _ hl2).mono ?_
      rintro _ w3 ⟨rfl, hg3⟩
      have hx3 := hx.grown hg3 (by simp)
      have hy3 := hy.grown hg3 (by simp)
      clear x0 x1 y0 y1
      obtain ⟨x0, x1⟩ := hx3.cells2
      obtain ⟨y0, y1⟩ := hy3.cells2
      go_wp2_with fail
      have hB4 := Blk.new w3 3 #[.int .i64 a, .int .i64 z, .int .i64 nd, .int .i64 ls]
      refine (HHR.out _ _ hB4).mono ?_
      rintro _ _ ⟨rfl, rfl⟩
      go_wp2_with fail
      refine bodyPost_ret (v := .tuple #[.slice none 0 0, .int .i64 0, .bool false, .int .i64 3]) (by simp [results, Try.results14, go_sem]) rfl ?_
      exact ⟨rfl, gr_alloc (gr_trans hG hg3) _⟩
  · have hce : chpE l a z nd ls = needE l a z nd ls := by unfold chpE; rw [if_neg hN]
    rw [hce]
    generalize needE l a z nd ls = T at *
    have hTb : (T != 0) = true := by simpa using hN
    clear hce hE
    go_enter Try.func14, Try.ntmps14
    go_upto_region 1 with fail
    generalize (w.alloc (.cells #[.int .i64 a, .int .i64 z] 27)).alloc (.cells #[.int .i64 nd, .int .i64 ls] 32) = W2 at *
    obtain ⟨x0, x1⟩ := hx.cells2
    obtain ⟨y0, y1⟩ := hy.cells2
    go_wp2_with fail
    refine (HNF.out _ hl2).mono ?_
    rintro _ w3 ⟨rfl, hg3⟩
    go_wp2_with fail
    refine bodyPost_ret (v := .tuple #[.slice none 0 0, .int .i64 0, .bool false, .int .i64 T]) (by simp [results, Try.results14, go_sem]) rfl ?_
    exact ⟨rfl, gr_trans hG hg3⟩
end Go.Proofs.Ytlbhphfmckhimaa
