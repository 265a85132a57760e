/- The walk over the reference's PartsOf, with a slash. Condition: a string of ASCII. -/
import Derived.Test.YtffddmgnjecmdaaDoorPartsOf
namespace Go.Proofs.YtffddmgnjecmdaaDoor
open Go.RowKit
set_option linter.unusedVariables false
set_option linter.unusedSimpArgs false

set_option maxRecDepth 100000 in
set_option maxHeartbeats 4000000 in
theorem refParts_begin (s a b : ByteArray) (i : Nat) (w : World) (hs : s.size ≤ 1000000000) (ha : Ascii s) (h : ¬ 14 < s.size) (hi : Lib.indexByte s.data.toList 47 = (i : Int))
    (hea : s.extract 0 i = a) (heb : s.extract (i + 1) s.size = b) (h1 : 0 ≤ baseI b.data.toList) (h2 : beginB a.data.toList = true) :
    Calls Tryd.prog 10 #[.string s] w (PartsPost s w) := by
  have h14 : ¬ (14 : Int) < (s.size : Int) := by omega
  have has : a.size ≤ 1000000000 := by rw [← hea]; simp; omega
  have hbs : b.size ≤ 1000000000 := by rw [← heb]; simp; omega
  have haa := Lib.hid (show Ascii a by rw [← hea]; exact ha.take _)
  have hba := Lib.hid (show Ascii b by rw [← heb]; exact ha.drop _)
  obtain ⟨k, hk⟩ := Int.eq_ofNat_of_zero_le h1
  have HP : Hid (partsOf s = some (b, k, 1, a)) := by
    show _ = _
    rw [partsOf_cut h (slash_base hi) hi, hea, heb, if_pos ⟨h1, h2⟩, hk]; rfl
  have HC : Hid (∀ W : World, Calls Tryd.prog 60 #[.string s, .string ⟨#[47]⟩] W fun e w' => e = .returned (.tuple #[.string a, .string b, .bool true]) ∧ W.grownBy w' none) := fun W => by
    have := cut_hit s 47 i W (by omega) hi
    rw [hea, heb] at this
    exact this
  have HK := Lib.hid hk
  have H2 := Lib.hid h2
  have hk0 : (0 : Int) ≤ (k : Int) := by omega
  clear hi hea heb h1 h2 ha h hk
  go_enter Tryd.func10, Tryd.ntmps10
  go_wp2_with fail
  refine (HC.out _).mono ?_
  rintro _ w1 ⟨rfl, hg⟩
  have hB := (Blk.new w 28 #[.string ⟨#[]⟩, .string ⟨#[]⟩, .string ⟨#[]⟩, .int .i64 0, .string ⟨#[]⟩]).grown hg (by simp)
  have hG := gr_trans (World.grownBy_alloc w (.cells #[.string ⟨#[]⟩, .string ⟨#[]⟩, .string ⟨#[]⟩, .int .i64 0, .string ⟨#[]⟩] 28) none) hg
  clear hg
  go_wp2_with fail
  refine (baseAt_any b _ hbs hba.out).mono ?_
  rintro _ w2 ⟨rfl, hg⟩
  rw [HK.out]
  replace hB := hB.grown hg (by simp)
  replace hG := gr_trans hG hg
  clear hg
  go_wp2_with fail
  refine (refBegin_any a _ has haa.out).mono ?_
  rintro _ w3 ⟨rfl, hg⟩
  rw [H2.out]
  replace hB := hB.grown hg (by simp)
  replace hG := gr_trans hG hg
  clear hg
  go_wp2_with fail
  refine (refBase_any b k _ hbs hba.out HK.out).mono ?_
  rintro _ w4 ⟨rfl, hg⟩
  replace hB := hB.grown hg (by simp)
  replace hG := gr_trans hG hg
  clear hg
  have hlt := hB.lt
  have hf := hB.free
  obtain ⟨c0, c1, c2, c3, c4⟩ := hB.cells5
  go_wp2_with fail
  obtain ⟨d0, d1, d2, d3, d4⟩ := ((hB.put5 (.string b) (.string (b.extract 0 (k + 1))) (.string (b.extract (k + 1) b.size)) (.int .i64 1) (.string a)).alloc (.cells #[.string b, .string (b.extract 0 (k + 1)), .string (b.extract (k + 1) b.size), .int .i64 1, .string a] 28)).cells5
  refine bodyPost_ret (v := .tuple #[.agg #[.string b, .string (b.extract 0 (k + 1)), .string (b.extract (k + 1) b.size), .int .i64 1, .string a], .bool true]) (by simp [results, Tryd.results10, go_sem, d0, d1, d2, d3, d4]) rfl ?_
  exact parts_yes HP.out (gr_alloc (gr_put5 hG (Nat.le_refl _) _ _ _ _ _) _)
end Go.Proofs.YtffddmgnjecmdaaDoor
