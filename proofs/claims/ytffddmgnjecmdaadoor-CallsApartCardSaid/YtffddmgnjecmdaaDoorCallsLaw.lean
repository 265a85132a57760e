/- The walk over the law CallsApart: it answers true whatever numbers come in. No condition. -/
import Derived.Test.YtffddmgnjecmdaaDoorCallOf
import Derived.Test.YtffddmgnjecmdaaDoorCallsE
import Derived.Test.YtffddmgnjecmdaaDoorStart
namespace Go.Proofs.YtffddmgnjecmdaaDoor
open Go.RowKit
set_option linter.unusedVariables false
set_option linter.unusedSimpArgs false

set_option maxRecDepth 100000 in
set_option maxHeartbeats 4000000 in
theorem callsLaw (A : Option Addr) (n c : Nat) (w : World) (hin : In w A n) :
    Calls Tryd.prog 3 #[.slice A n c] w fun r w' => r = .returned (.bool true) ∧ Below w.heap.size w w' := by
  have hs0 := Str.start (c := c) hin
  clear hin
  go_enter Tryd.func3, Tryd.ntmps3
  go_wp2_with fail
  have hG0 := World.grownBy_alloc w (.cells #[.slice A n c, .int .i64 0] 25) none
  generalize w.alloc (.cells #[.slice A n c, .int .i64 0] 25) = W0 at *
  generalize hb : w.heap.size = b at *
  have HB := Lib.hid hb
  clear hb
  refine (callOf_in b 0 _ hs0 (by decide)).mono ?_
  rintro _ w1 ⟨t, rfl, ht, hta, hs1, hg1⟩
  have hG1 : w.grownBy w1 none := gr_grown hG0 hg1 (fun g e => by injection e with e; exact .inr (by have := HB.out; omega))
  have HTA := Lib.hid hta
  have hP : ∃ P, partsOf t = P := ⟨_, rfl⟩
  obtain ⟨P, hP⟩ := hP
  have HP := Lib.hid hP
  clear hs0 hG0 hg1 hs1 hta hP
  go_wp2_with fail
  refine (refParts_any t _ (by omega) HTA.out).mono ?_
  rintro _ w2 ⟨hg2, hq⟩
  replace hG1 := gr_trans hG1 hg2
  clear hg2
  rcases hq with ⟨hn, rfl⟩ | ⟨x, k, kd, ad, hn, rfl⟩
  · rw [HP.out] at hn
    subst hn
    have hB1 := Blk.new w2 28 #[.string ⟨#[]⟩, .string ⟨#[]⟩, .string ⟨#[]⟩, .int .i64 0, .string ⟨#[]⟩]
    replace hG1 := gr_alloc hG1 (.cells #[.string ⟨#[]⟩, .string ⟨#[]⟩, .string ⟨#[]⟩, .int .i64 0, .string ⟨#[]⟩] 28)
    go_wp2_with fail
    refine (apart_any t _ (by omega) HTA.out).mono ?_
    rintro _ w3 ⟨hg3, hq⟩
    replace hG1 := gr_trans hG1 hg3
    replace hB1 := hB1.grown hg3 (by simp)
    clear hg3
    rcases hq with ⟨hn, rfl⟩ | ⟨x, k, kd, ad, hn, rfl⟩
    case inr => rw [HP.out] at hn; cases hn
    clear hn
    have hB2 := Blk.new w3 28 #[.string ⟨#[]⟩, .string ⟨#[]⟩, .string ⟨#[]⟩, .int .i64 0, .string ⟨#[]⟩]
    replace hB1 := hB1.alloc (.cells #[.string ⟨#[]⟩, .string ⟨#[]⟩, .string ⟨#[]⟩, .int .i64 0, .string ⟨#[]⟩] 28)
    replace hG1 := gr_alloc hG1 (.cells #[.string ⟨#[]⟩, .string ⟨#[]⟩, .string ⟨#[]⟩, .int .i64 0, .string ⟨#[]⟩] 28)
    go_wp2_with fail
    refine (base_any t _ (by omega) HTA.out).mono ?_
    rintro _ w4 ⟨hg4, hq⟩
    replace hG1 := gr_trans hG1 hg4
    replace hB1 := hB1.grown hg4 (by simp)
    replace hB2 := hB2.grown hg4 (by simp)
    clear hg4
    rcases hq with ⟨hn, rfl⟩ | ⟨x, k, kd, ad, hn, rfl⟩
    case inr => rw [HP.out] at hn; cases hn
    clear hn
    go_wp2_with fail
    refine (when_any _ _ _).mono ?_
    rintro _ _ ⟨rfl, rfl⟩
    go_wp2_with fail
    refine (isCall_any t _ (by omega) HTA.out).mono ?_
    rintro _ w5 ⟨rfl, hg5⟩
    rw [HP.out]
    replace hG1 := gr_trans hG1 hg5
    replace hB1 := hB1.grown hg5 (by simp)
    replace hB2 := hB2.grown hg5 (by simp)
    clear hg5
    obtain ⟨c0, c1, c2, c3, c4⟩ := hB1.cells5
    obtain ⟨d0, d1, d2, d3, d4⟩ := hB2.cells5
    go_wp2_with fail
    refine (called_any _).mono ?_
    rintro _ w6 ⟨rfl, hg6⟩
    go_wp2_with fail
    go_ret
    exact ⟨rfl, gr_below (gr_trans hG1 hg6)⟩
  · rw [HP.out] at hn
    subst hn
    have hB1 := Blk.new w2 28 #[.string x, .string (x.extract 0 (k + 1)), .string (x.extract (k + 1) x.size), .int .i64 kd, .string ad]
    replace hG1 := gr_alloc hG1 (.cells #[.string x, .string (x.extract 0 (k + 1)), .string (x.extract (k + 1) x.size), .int .i64 kd, .string ad] 28)
    go_wp2_with fail
    refine (apart_any t _ (by omega) HTA.out).mono ?_
    rintro _ w3 ⟨hg3, hq⟩
    replace hG1 := gr_trans hG1 hg3
    replace hB1 := hB1.grown hg3 (by simp)
    clear hg3
    rcases hq with ⟨hn, rfl⟩ | ⟨x', k', kd', ad', hn, rfl⟩
    case inl => rw [HP.out] at hn; cases hn
    rw [HP.out] at hn
    simp only [Option.some.injEq, Prod.mk.injEq] at hn
    obtain ⟨rfl, rfl, rfl, rfl⟩ := hn
    have hB2 := Blk.new w3 28 #[.string x, .string (x.extract 0 (k + 1)), .string (x.extract (k + 1) x.size), .int .i64 kd, .string ad]
    replace hB1 := hB1.alloc (.cells #[.string x, .string (x.extract 0 (k + 1)), .string (x.extract (k + 1) x.size), .int .i64 kd, .string ad] 28)
    replace hG1 := gr_alloc hG1 (.cells #[.string x, .string (x.extract 0 (k + 1)), .string (x.extract (k + 1) x.size), .int .i64 kd, .string ad] 28)
    go_wp2_with fail
    refine (base_any t _ (by omega) HTA.out).mono ?_
    rintro _ w4 ⟨hg4, hq⟩
    replace hG1 := gr_trans hG1 hg4
    replace hB1 := hB1.grown hg4 (by simp)
    replace hB2 := hB2.grown hg4 (by simp)
    clear hg4
    rcases hq with ⟨hn, rfl⟩ | ⟨x', k', kd', ad', hn, rfl⟩
    case inl => rw [HP.out] at hn; cases hn
    rw [HP.out] at hn
    simp only [Option.some.injEq, Prod.mk.injEq] at hn
    obtain ⟨rfl, rfl, rfl, rfl⟩ := hn
    go_wp2_with fail
    refine (when_any _ _ _).mono ?_
    rintro _ _ ⟨rfl, rfl⟩
    go_wp2_with fail
    refine (isCall_any t _ (by omega) HTA.out).mono ?_
    rintro _ w5 ⟨rfl, hg5⟩
    rw [HP.out]
    replace hG1 := gr_trans hG1 hg5
    replace hB1 := hB1.grown hg5 (by simp)
    replace hB2 := hB2.grown hg5 (by simp)
    clear hg5
    obtain ⟨c0, c1, c2, c3, c4⟩ := hB1.cells5
    obtain ⟨d0, d1, d2, d3, d4⟩ := hB2.cells5
    generalize x.extract 0 (k + 1) = xa at *
    generalize x.extract (k + 1) x.size = xb at *
    go_wp2_with fail
    refine (called_any _).mono ?_
    rintro _ w6 ⟨rfl, hg6⟩
    go_wp2_with fail
    go_ret
    exact ⟨rfl, gr_below (gr_trans hG1 hg6)⟩
end Go.Proofs.YtffddmgnjecmdaaDoor
