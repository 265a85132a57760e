/- The walk over the law PartsAreTheWhole. Condition: asciiSpace is Go's own table, MaxLen holds a number. -/
import Derived.Test.YtffddmgnjecmdaaDoorCallOf
import Derived.Test.YtffddmgnjecmdaaDoorCallsE
import Derived.Test.YtffddmgnjecmdaaDoorReady
import Derived.Test.YtffddmgnjecmdaaDoorStart
namespace Go.Proofs.YtffddmgnjecmdaaDoor
open Go.RowKit
set_option linter.unusedVariables false
set_option linter.unusedSimpArgs false

theorem parts_glue (t : ByteArray) (k : Nat) (h : k + 1 ≤ t.size) : t.extract 0 (k + 1) ++ t.extract (k + 1) t.size = t := by
  apply bytes_eq
  rw [ByteArray.data_append, Array.toList_append, Lib.extract_data, Lib.extract_data]
  have hl : t.data.toList.length = t.size := by simp
  rw [List.drop_zero, Nat.sub_zero, List.take_of_length_le (i := t.size - (k + 1)) (by rw [List.length_drop]; omega)]
  exact List.take_append_drop _ _
set_option maxRecDepth 100000 in
set_option maxHeartbeats 4000000 in
theorem partsLaw (A : Option Addr) (n c : Nat) (w : World) (hin : In w A n) (hgl : Gl w.heap.size w) :
    Calls Tryd.prog 6 #[.slice A n c] w fun r w' => r = .returned (.bool true) ∧ Below w.heap.size w w' := by
  have hs0 := Str.start (c := c) hin
  have HGL := Lib.hid hgl
  clear hin hgl
  go_enter Tryd.func6, Tryd.ntmps6
  go_wp2_with fail
  have hG0 := World.grownBy_alloc w (.cells #[.slice A n c, .int .i64 0] 25) none
  generalize w.alloc (.cells #[.slice A n c, .int .i64 0] 25) = W0 at *
  generalize hb : w.heap.size = b at *
  have HB := Lib.hid hb
  clear hb
  refine (rightCall_in b 0 _ hs0 (by decide)).mono ?_
  rintro _ w1 ⟨t, rfl, ht, hta, hti, hs1, hg1⟩
  have hG1 : w.grownBy w1 none := gr_grown hG0 hg1 (fun g e => by injection e with e; exact .inr (by have := HB.out; omega))
  have HTA := Lib.hid hta
  have HTI := Lib.hid hti
  clear hs0 hG0 hg1 hs1 hta hti
  go_wp2_with fail
  refine (apart_any t _ (by omega) HTA.out).mono ?_
  rintro _ w2 ⟨hg2, hq⟩
  replace hG1 := gr_trans hG1 hg2
  clear hg2
  rcases hq with ⟨hn, rfl⟩ | ⟨x, k, kd, ad, hn, rfl⟩
  · have := HTI.out
    rw [hn] at this
    cases this
  obtain ⟨hbase, hown, hhas, hlt, hfew⟩ := parts_based hn
  have HBASE := Lib.hid hbase
  have HOWN := Lib.hid hown
  have HHAS := Lib.hid hhas
  have HGLUE := Lib.hid (parts_glue x k hlt)
  have HXA : Hid (Ascii x) := by
    refine Ascii.of_mem fun z hz => ?_
    have hp : plainL x.data.toList = true := by
      rcases baseI_cases x.data.toList with h | ⟨_, h, _⟩
      · omega
      · exact h
    have h1 : plB z = true := List.all_eq_true.1 hp z hz
    have h2 : ∀ n : Fin 256, plB (UInt8.ofNat n.val) = true → n.val < 128 := by decide +kernel
    have := h2 ⟨z.toNat, z.toNat_lt⟩ (by simpa using h1)
    exact this
  have hB1 := Blk.new w2 28 #[.string x, .string (x.extract 0 (k + 1)), .string (x.extract (k + 1) x.size), .int .i64 kd, .string ad]
  replace hG1 := gr_alloc hG1 (.cells #[.string x, .string (x.extract 0 (k + 1)), .string (x.extract (k + 1) x.size), .int .i64 kd, .string ad] 28)
  clear hn hbase hown hhas
  obtain ⟨c0, c1, c2, c3, c4⟩ := hB1.cells5
  go_wp2_with fail
  refine (apart_any x _ (by omega) HXA.out).mono ?_
  rintro _ w3 ⟨hg3, hq⟩
  rcases hq with ⟨hn, rfl⟩ | ⟨x', k', kd', ad', hn, rfl⟩
  case inl => rw [HOWN.out] at hn; cases hn
  rw [HOWN.out] at hn
  simp only [Option.some.injEq, Prod.mk.injEq] at hn
  obtain ⟨rfl, rfl, rfl, rfl⟩ := hn
  have hB2 := Blk.new w3 28 #[.string x, .string (x.extract 0 (k + 1)), .string (x.extract (k + 1) x.size), .int .i64 0, .string ⟨#[]⟩]
  replace hG1 := gr_alloc (gr_trans hG1 hg3) (.cells #[.string x, .string (x.extract 0 (k + 1)), .string (x.extract (k + 1) x.size), .int .i64 0, .string ⟨#[]⟩] 28)
  replace hB1 := (hB1.grown hg3 (by simp)).alloc (.cells #[.string x, .string (x.extract 0 (k + 1)), .string (x.extract (k + 1) x.size), .int .i64 0, .string ⟨#[]⟩] 28)
  clear hg3 c0 c1 c2 c3 c4
  obtain ⟨c0, c1, c2, c3, c4⟩ := hB1.cells5
  obtain ⟨d0, d1, d2, d3, d4⟩ := hB2.cells5
  have hxs : (x.extract 0 (k + 1)).size ≤ 10 := by simp; omega
  have hxs2 : (x.extract (k + 1) x.size).size ≤ 10 := by simp; omega
  have hxe : (((x.extract 0 (k + 1)) ++ (x.extract (k + 1) x.size)).toList == x.toList) = true := by rw [HGLUE.out]; simp
  generalize x.extract 0 (k + 1) = xa at *
  generalize x.extract (k + 1) x.size = xb at *
  go_wp2_with fail
  obtain ⟨m, hm⟩ := (HGL.out.quiet hG1).mx
  refine (Tryd.strings_Contains t x m _ (by omega) hm).mono ?_
  rintro _ _ ⟨rfl, rfl⟩
  rw [HHAS.out]
  clear hm
  go_wp2_with fail
  refine (isCall_any t _ (by omega) HTA.out).mono ?_
  rintro _ w5 ⟨rfl, hg5⟩
  rw [HTI.out]
  replace hG1 := gr_trans hG1 hg5
  replace hB1 := hB1.grown hg5 (by simp)
  clear hg5 c0 c1 c2 c3 c4 d0 d1 d2 d3 d4
  obtain ⟨c0, c1, c2, c3, c4⟩ := hB1.cells5
  go_wp2_with fail
  refine (isCall_any x _ (by omega) HXA.out).mono ?_
  rintro _ w6 ⟨rfl, hg6⟩
  have HOW : Hid ((partsOf x).isSome = true) := by show _ = _; rw [HOWN.out]; rfl
  rw [HOW.out]
  replace hG1 := gr_trans hG1 hg6
  clear hg6
  go_wp2_with fail
  refine (ready_any b _ (HGL.out.quiet hG1)).mono ?_
  rintro _ w7 ⟨rfl, hg⟩
  go_wp2_with fail
  go_ret
  exact ⟨rfl, gr_below (gr_trans hG1 hg)⟩
end Go.Proofs.YtffddmgnjecmdaaDoor
