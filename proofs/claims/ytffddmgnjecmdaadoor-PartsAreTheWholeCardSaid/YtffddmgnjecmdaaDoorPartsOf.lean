/- The walk over the reference's PartsOf: it takes call signs apart as the program does. Condition: a string of ASCII. -/
import Derived.Test.YtffddmgnjecmdaaDoorRefBase
namespace Go.Proofs.YtffddmgnjecmdaaDoor
open Go.RowKit
set_option linter.unusedVariables false
set_option linter.unusedSimpArgs false

theorem slash_base {s : ByteArray} {i : Nat} (hi : Lib.indexByte s.data.toList 47 = (i : Int)) : ¬ 0 ≤ baseI s.data.toList := by
  intro h
  have h1 := (Lib.indexByte_some hi).1
  rcases baseI_cases s.data.toList with h2 | ⟨_, h2, _⟩
  · omega
  · have h3 := List.all_eq_true.1 h2 47 (List.mem_of_getElem? h1)
    exact absurd h3 (by decide)
def zParts : Array Value := #[.string ⟨#[]⟩, .string ⟨#[]⟩, .string ⟨#[]⟩, .int .i64 0, .string ⟨#[]⟩]
def noParts : Value := .tuple #[.agg #[.string ⟨#[]⟩, .string ⟨#[]⟩, .string ⟨#[]⟩, .int .i64 0, .string ⟨#[]⟩], .bool false]

set_option maxRecDepth 100000 in
set_option maxHeartbeats 4000000 in
theorem refParts_long (s a b : ByteArray) (f : Bool) (w : World) (h : 14 < s.size) (HC : ∀ W : World, Calls Tryd.prog 60 #[.string s, .string ⟨#[47]⟩] W fun e w' => e = .returned (.tuple #[.string a, .string b, .bool f]) ∧ W.grownBy w' none) :
    Calls Tryd.prog 10 #[.string s] w (PartsPost s w) := by
  have h14 : (14 : Int) < (s.size : Int) := by omega
  have HP := Lib.hid (partsOf_long h)
  have HC' := Lib.hid HC
  clear HC h
  go_enter Tryd.func10, Tryd.ntmps10
  go_wp2_with fail
  refine (HC'.out _).mono ?_
  rintro _ w1 ⟨rfl, hg⟩
  have hB := (Blk.new w 28 #[.string ⟨#[]⟩, .string ⟨#[]⟩, .string ⟨#[]⟩, .int .i64 0, .string ⟨#[]⟩]).grown hg (by simp)
  have hG := gr_trans (World.grownBy_alloc w (.cells #[.string ⟨#[]⟩, .string ⟨#[]⟩, .string ⟨#[]⟩, .int .i64 0, .string ⟨#[]⟩] 28) none) hg
  have hf := hB.free
  obtain ⟨c0, c1, c2, c3, c4⟩ := hB.cells5
  clear hg
  go_wp2_with fail
  refine bodyPost_ret (v := .tuple #[.agg #[.string ⟨#[]⟩, .string ⟨#[]⟩, .string ⟨#[]⟩, .int .i64 0, .string ⟨#[]⟩], .bool false]) (by simp [results, Tryd.results10, go_sem, c0, c1, c2, c3, c4]) rfl ?_
  exact parts_no HP.out (gr_put5 hG (Nat.le_refl _) _ _ _ _ _)

set_option maxRecDepth 100000 in
set_option maxHeartbeats 4000000 in
theorem refParts_bare (s : ByteArray) (w : World) (hs : s.size ≤ 1000000000) (ha : Ascii s) (h : ¬ 14 < s.size) (hi : Lib.indexByte s.data.toList 47 = -1) :
    Calls Tryd.prog 10 #[.string s] w (PartsPost s w) := by
  have h14 : ¬ (14 : Int) < (s.size : Int) := by omega
  have HC : Hid (∀ W : World, Calls Tryd.prog 60 #[.string s, .string ⟨#[47]⟩] W fun e w' => e = .returned (.tuple #[.string s, .string ⟨#[]⟩, .bool false]) ∧ W.grownBy w' none) := fun W => cut_miss s 47 W (by omega) hi
  have HA := Lib.hid ha
  by_cases hb : 0 ≤ baseI s.data.toList
  · obtain ⟨k, hk⟩ := Int.eq_ofNat_of_zero_le hb
    have HP : Hid (partsOf s = some (s, k, 0, ⟨#[]⟩)) := by show _ = _; rw [partsOf_base h hb, hk]; rfl
    have HK := Lib.hid hk
    have hk0 : ¬ (k : Int) < 0 := by omega
    clear ha h hi hb hk
    go_enter Tryd.func10, Tryd.ntmps10
    go_wp2_with fail
    refine (HC.out _).mono ?_
    rintro _ w1 ⟨rfl, hg⟩
    have hB := (Blk.new w 28 #[.string ⟨#[]⟩, .string ⟨#[]⟩, .string ⟨#[]⟩, .int .i64 0, .string ⟨#[]⟩]).grown hg (by simp)
    have hG := gr_trans (World.grownBy_alloc w (.cells #[.string ⟨#[]⟩, .string ⟨#[]⟩, .string ⟨#[]⟩, .int .i64 0, .string ⟨#[]⟩] 28) none) hg
    clear hg
    go_wp2_with fail
    refine (baseAt_any s _ hs HA.out).mono ?_
    rintro _ w2 ⟨rfl, hg⟩
    rw [HK.out]
    replace hB := hB.grown hg (by simp)
    replace hG := gr_trans hG hg
    clear hg
    go_wp2_with fail
    refine (refBase_any s k _ hs HA.out HK.out).mono ?_
    rintro _ w3 ⟨rfl, hg⟩
    replace hB := hB.grown hg (by simp)
    replace hG := gr_trans hG hg
    clear hg
    have hf := hB.free
    obtain ⟨c0, c1, c2, c3, c4⟩ := hB.cells5
    go_wp2_with fail
    refine bodyPost_ret (v := .tuple #[.agg #[.string s, .string (s.extract 0 (k + 1)), .string (s.extract (k + 1) s.size), .int .i64 0, .string ⟨#[]⟩], .bool true]) (by simp [results, Tryd.results10, go_sem, c0, c1, c2, c3, c4]) rfl ?_
    exact parts_yes HP.out (gr_put5 hG (Nat.le_refl _) _ _ _ _ _)
  · have hbn : baseI s.data.toList = -1 := by
      rcases baseI_cases s.data.toList with h1 | ⟨_, _, _, h1, _⟩
      · exact h1
      · omega
    have HP : Hid (partsOf s = none) := partsOf_bare h hb (by omega)
    have HK := Lib.hid hbn
    clear ha h hi hb hbn
    go_enter Tryd.func10, Tryd.ntmps10
    go_wp2_with fail
    refine (HC.out _).mono ?_
    rintro _ w1 ⟨rfl, hg⟩
    have hB := (Blk.new w 28 #[.string ⟨#[]⟩, .string ⟨#[]⟩, .string ⟨#[]⟩, .int .i64 0, .string ⟨#[]⟩]).grown hg (by simp)
    have hG := gr_trans (World.grownBy_alloc w (.cells #[.string ⟨#[]⟩, .string ⟨#[]⟩, .string ⟨#[]⟩, .int .i64 0, .string ⟨#[]⟩] 28) none) hg
    clear hg
    go_wp2_with fail
    refine (baseAt_any s _ hs HA.out).mono ?_
    rintro _ w2 ⟨rfl, hg⟩
    rw [HK.out]
    replace hB := hB.grown hg (by simp)
    replace hG := gr_trans hG hg
    clear hg
    have hf := hB.free
    obtain ⟨c0, c1, c2, c3, c4⟩ := hB.cells5
    go_wp2_with fail
    refine bodyPost_ret (v := .tuple #[.agg #[.string ⟨#[]⟩, .string ⟨#[]⟩, .string ⟨#[]⟩, .int .i64 0, .string ⟨#[]⟩], .bool false]) (by simp [results, Tryd.results10, go_sem, c0, c1, c2, c3, c4]) rfl ?_
    exact parts_no HP.out (gr_put5 hG (Nat.le_refl _) _ _ _ _ _)
end Go.Proofs.YtffddmgnjecmdaaDoor
