/- strings.Join at a row of strings, and strings.Split at any separator. Condition: short texts; MaxLen holds a number. -/
import Derived.Test.YtcimnlcmpfagnaaDoorSplitPlain
namespace Go.Proofs.YtcimnlcmpfagnaaDoor
open Go.RowKit
set_option linter.unusedVariables false
set_option linter.unusedSimpArgs false

theorem join_isp (xs : List (List UInt8)) (sep : List UInt8) : Lib.join xs sep = isp sep xs := by
  cases xs with
  | nil => rfl
  | cons x r => rw [Lib.join_cons]; simp [isp, Lib.joinTail, List.flatMap]
def joinB (sep : ByteArray) (l : List ByteArray) : ByteArray := strB (isp sep.data.toList (l.map (·.data.toList)))
theorem join_any (base : Nat) (v : Value) (l : List ByteArray) (sep : ByteArray) (w : World) (hl : StrsFrom base w v l) (hn : (isp sep.data.toList (l.map (·.data.toList))).length ≤ 1000000000) (hm : l.length ≤ 1000000000) :
    Calls Tryd.prog 73 #[v, .string sep] w fun e w' => e = .returned (.string (joinB sep l)) ∧ w.grownBy w' none := by
  obtain ⟨A, c, rfl, hlen, hA⟩ := hl.shape
  rcases Nat.eq_zero_or_pos l.length with h0 | h0
  · obtain rfl : l = [] := List.eq_nil_of_length_eq_zero h0
    refine (Any.strings_Join_none Tryd.lays156 Tryd.Builder_Extra_156 A c sep w).mono ?_
    rintro e w' ⟨rfl, rfl⟩
    exact ⟨rfl, gr_refl _ _⟩
  · obtain ⟨g, rfl, hg0, hg1⟩ := hA h0
    have hcap : l.length ≤ c := by
      rcases hl.2 with ⟨e, _⟩ | ⟨g', cap, cur, e, _, _, h1, _⟩
      · simp at e
      · injection e with _ _ e; omega
    refine (Tryd.strings_Join g 0 c l sep w (fun j x hx => ?_) hg1 (by omega) hcap (by rw [join_isp]; omega)).mono ?_
    · have hj : j < l.length := by
        rcases Nat.lt_or_ge j l.length with h | h
        · exact h
        · rw [List.getElem?_eq_none h] at hx; cases hx
      rw [List.getElem?_eq_getElem hj] at hx
      injection hx with hx
      rw [Nat.zero_add, ← hx]
      exact hl.at_ j hj
    · rintro e w' ⟨rfl, hb⟩
      refine ⟨?_, gr_of_below hb⟩
      rw [join_isp]; rfl

theorem pieces_len (sep s : ByteArray) (h : 1 ≤ sep.size) : (piecesOf sep s).length = Lib.countB s sep + 1 := Lib.splitB_all sep h 0 _ s rfl
theorem pieces_few (sep s : ByteArray) (h : 1 ≤ sep.size) : (piecesOf sep s).length ≤ s.size + 1 := by
  have := Lib.countB_mul_le sep h s.size s (Nat.le_refl _)
  have h2 := Nat.le_mul_of_pos_right (Lib.countB s sep) (show 0 < sep.size by omega)
  rw [pieces_len sep s h]
  omega
theorem splitSep_any (b : Nat) (s sep : ByteArray) (w : World) (hgl : Gl b w) (hs : s.size < 4294967281) (h1 : 1 ≤ sep.size) :
    Calls Tryd.prog 67 #[.string s, .string sep] w (StrsPost (piecesOf sep s) w) := by
  obtain ⟨m, hm⟩ := hgl.mx
  refine (Tryd.strings_Split s sep m w hs hm h1).mono ?_
  rintro e w' ⟨he, hw⟩
  have hl := pieces_len sep s h1
  have hf := pieces_few sep s h1
  subst hw
  refine ⟨_, he, ?_, World.grownBy_alloc w _ none⟩
  have h := blk_strs (Blk.new w 9 ((piecesOf sep s).map Value.string).toArray) (Nat.le_refl _) (by omega)
  show StrsFrom _ _ (.slice _ (Lib.countB s sep + 1) (Lib.countB s sep + 1)) (piecesOf sep s)
  rw [← hl]
  exact h
end Go.Proofs.YtcimnlcmpfagnaaDoor
