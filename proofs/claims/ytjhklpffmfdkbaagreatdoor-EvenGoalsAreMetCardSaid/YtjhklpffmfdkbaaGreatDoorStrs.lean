/- A slice of strings that the program has made, as a list of strings; strings.Split at one byte. Condition: MaxLen holds a number. -/
import Derived.Test.YtjhklpffmfdkbaaGreatDoorKeyPlain
import Derived.Test.YtjhklpffmfdkbaaGreatDoorGlob
import Derived.Lib.SplitLaws
namespace Go.Proofs.YtjhklpffmfdkbaaGreatDoor
open Go.RowKit
set_option linter.unusedVariables false

/-- The strings of a slice, that lies in a block from base on. -/
def StrsFrom (base : Nat) (w : World) (v : Value) (l : List ByteArray) : Prop := w.ownsRow base 9 1 v l.length (l.map Value.string)
theorem StrsFrom.low {base base' : Nat} {w : World} {v : Value} {l : List ByteArray} (h : StrsFrom base w v l) (hb : base' ≤ base) : StrsFrom base' w v l := ownsRow_low h hb
theorem StrsFrom.grown {base : Nat} {w w' : World} {v : Value} {l : List ByteArray} (h : StrsFrom base w v l) (hg : w.grownBy w' none) : StrsFrom base w' v l := ownsRow_grown h hg
theorem StrsFrom.other {base b : Nat} {w w' : World} {v : Value} {l : List ByteArray} (h : StrsFrom base w v l) (hg : w.grownBy w' (some b)) (hb : b < base) : StrsFrom base w' v l := ownsRow_other h hg hb
theorem StrsFrom.nil (base : Nat) (w : World) : StrsFrom base w (.slice none 0 0) [] := World.ownsRow_nil _ _ _ _
theorem StrsFrom.shape {base : Nat} {w : World} {v : Value} {l : List ByteArray} (h : StrsFrom base w v l) :
    ∃ A c, v = .slice A l.length c ∧ l.length ≤ 9223372036854775807 ∧ (0 < l.length → ∃ g, A = some ⟨g, 0, none⟩ ∧ base ≤ g ∧ g < w.heap.size) := ownsRow_shape h
theorem StrsFrom.at_ {base : Nat} {w : World} {g c : Nat} {l : List ByteArray} (h : StrsFrom base w (.slice (some ⟨g, 0, none⟩) l.length c) l) (k : Nat) (hk : k < l.length) : w.cell? ⟨g, k, none⟩ = some (.string l[k]) := by
  rw [World.ownsRow.cellAt h k (by omega)]
  simp [hk]
theorem blk_strs {w : World} {g base : Nat} {l : List ByteArray} (h : Blk w g 9 (l.map Value.string).toArray) (hb : base ≤ g) (hn : l.length ≤ 100000000000) : StrsFrom base w (.slice (some ⟨g, 0, none⟩) l.length l.length) l := by
  refine ⟨by simp, .inr ⟨g, l.length, _, rfl, hb, h, Nat.le_refl _, by unfold maxLen; omega, by simp, ?_⟩⟩
  exact List.take_of_length_le (by simp)
theorem strInfo : (Tryz.prog.info? 9).map (fun i => (i.zero, i.size, i.bytes)) = some (some (.string ⟨#[]⟩), 1, 16) := by kernel_rfl
theorem str_one (x : ByteArray) : ∀ u ∈ [Value.string x], u.oneCell' = true := by
  intro u hu; simp at hu; subst hu; rfl

/-- The pieces of a string between its blanks. -/
def blankS : ByteArray := ⟨#[32]⟩
def wordsOf (s : ByteArray) : List ByteArray := Lib.splitB blankS 0 (Lib.countB s blankS) s
theorem wordsOf_len (s : ByteArray) : (wordsOf s).length = Lib.countB s blankS + 1 := Lib.splitB_all blankS (by decide) 0 _ s rfl
theorem wordsOf_few (s : ByteArray) : (wordsOf s).length ≤ s.size + 1 := by
  rw [wordsOf_len]
  have := Lib.countB_le blankS (by decide) s.size s (Nat.le_refl _)
  omega
theorem wordsOf_pos (s : ByteArray) : 0 < (wordsOf s).length := by rw [wordsOf_len]; omega
theorem splitB_small (sep : ByteArray) : ∀ (k : Nat) (s : ByteArray), ∀ p ∈ Lib.splitB sep 0 k s, p.size ≤ s.size
  | 0, s, p, hp => by
    rw [Lib.splitB_zero] at hp
    simp at hp
    rw [hp]
    exact Nat.le_refl _
  | k + 1, s, p, hp => by
    unfold Lib.splitB at hp
    split at hp
    · simp at hp
      rw [hp]
      exact Nat.le_refl _
    · rcases List.mem_cons.1 hp with h | h
      · rw [h]; simp; omega
      · have := splitB_small sep k _ p h
        simp at this
        omega
theorem wordsOf_small (s : ByteArray) : ∀ p ∈ wordsOf s, p.size ≤ s.size := splitB_small blankS _ s

def StrsPost (l : List ByteArray) (w : World) (e : Ending) (w' : World) : Prop := ∃ v, e = .returned v ∧ StrsFrom w.heap.size w' v l ∧ w.grownBy w' none
theorem split_blank (b : Nat) (s : ByteArray) (w : World) (hgl : Gl b w) (hs : s.size < 4294967281) :
    Calls Tryz.prog 116 #[.string s, .string ⟨#[32]⟩] w (StrsPost (wordsOf s) w) := by
  obtain ⟨m, hm⟩ := hgl.mx
  refine (Tryz.strings_Split s ⟨#[32]⟩ m w hs hm (by decide)).mono ?_
  rintro e w' ⟨he, hw⟩
  have hl := wordsOf_len s
  have hf := wordsOf_few s
  subst hw
  refine ⟨_, he, ?_, World.grownBy_alloc w _ none⟩
  have h := blk_strs (Blk.new w 9 ((wordsOf s).map Value.string).toArray) (Nat.le_refl _) (by omega)
  show StrsFrom _ _ (.slice _ (Lib.countB s blankS + 1) (Lib.countB s blankS + 1)) (wordsOf s)
  rw [← hl]
  exact h
end Go.Proofs.YtjhklpffmfdkbaaGreatDoor
