/- A slice of strings that the program has made, as a list of strings; strings.Split at one byte. Condition: MaxLen holds a number. The walks over kit.Words and key.CheckSaid. Condition: asciiSpace is Go's own table, MaxLen holds a number. The walk over key.words: the codes of the signs of words, in new memory. Condition: asciiSpace is Go's own table, MaxLen holds a number, the string has at most 10^6 bytes. The walk over key.lengths: the lengths of marks and gaps in turn. Condition: asciiSpace is Go's own table, MaxLen holds a number, the string has at most 500 bytes, units are small. The walk over key.Units. Condition: asciiSpace is Go's own table, MaxLen holds a number. -/
import Derived.Test.YtbaocnbppefciaaGreatKeyA
import Derived.Lib.SplitLaws
import Derived.Deep.DeepCutAuto
import Derived.Test.YtbaocnbppefciaaGreatFaults
namespace Go.Proofs.YtbaocnbppefciaaGreat
open Go.RowKit
set_option linter.unusedVariables false

/-- The strings of a slice, that lies in a block from base on. -/
def StrsFrom (base : Nat) (w : World) (v : Value) (l : List ByteArray) : Prop := w.ownsRow base 9 1 v l.length (l.map Value.string)
theorem StrsFrom.low {base base' : Nat} {w : World} {v : Value} {l : List ByteArray} (h : StrsFrom base w v l) (hb : base' ≤ base) : StrsFrom base' w v l := ownsRow_low h hb
theorem StrsFrom.grown {base : Nat} {w w' : World} {v : Value} {l : List ByteArray} (h : StrsFrom base w v l) (hg : w.grownBy w' none) : StrsFrom base w' v l := ownsRow_grown h hg
theorem StrsFrom.other {base b : Nat} {w w' : World} {v : Value} {l : List ByteArray} (h : StrsFrom base w v l) (hg : w.grownBy w' (some b)) (hb : b < base) : StrsFrom base w' v l := ownsRow_other h hg hb
theorem StrsFrom.nil (base : Nat) (w : World) : StrsFrom base w (.slice none 0 0) [] := World.ownsRow_nil _ _ _ _
theorem StrsFrom.shape {base : Nat} {w : World} {v : Value} {l : List ByteArray} (h : StrsFrom base w v l) :
    ∃ A c, v = .slice A l.length c ∧ l.length ≤ 9223372036854775807 ∧ (0 < l.length → ∃ g, A = some ⟨g, 0, none⟩ ∧ base ≤ g ∧ g < w.heap.size) := ownsRow_shape h
theorem StrsFrom.at_ {base : Nat} {w : World} {g c : Nat} {l : List ByteArray} (h : StrsFrom base w (.slice (some ⟨g, 0, none⟩) l.length c) l) (k : Nat) (hk : k < l.length) : w.cell? ⟨g, k, none⟩ = some (.string l[k]) := by
  rw [World.ownsRow.cellAt h k (by omega)]
  simp [hk]
theorem blk_strs {w : World} {g base : Nat} {l : List ByteArray} (h : Blk w g 9 (l.map Value.string).toArray) (hb : base ≤ g) (hn : l.length ≤ 100000000000) : StrsFrom base w (.slice (some ⟨g, 0, none⟩) l.length l.length) l := by
  refine ⟨by simp, .inr ⟨g, l.length, _, rfl, hb, h, Nat.le_refl _, by unfold maxLen; omega, by simp, ?_⟩⟩
  exact List.take_of_length_le (by simp)
theorem strInfo : (Tryz.prog.info? 9).map (fun i => (i.zero, i.size, i.bytes)) = some (some (.string ⟨#[]⟩), 1, 16) := by kernel_rfl
theorem str_one (x : ByteArray) : ∀ u ∈ [Value.string x], u.oneCell' = true := by
  intro u hu; simp at hu; subst hu; rfl

/-- The pieces of a string between its blanks. -/
def blankS : ByteArray := ⟨#[32]⟩
def wordsOf (s : ByteArray) : List ByteArray := Lib.splitB blankS 0 (Lib.countB s blankS) s
theorem wordsOf_len (s : ByteArray) : (wordsOf s).length = Lib.countB s blankS + 1 := Lib.splitB_all blankS (by decide) 0 _ s rfl
theorem wordsOf_few (s : ByteArray) : (wordsOf s).length ≤ s.size + 1 := by
  rw [wordsOf_len]
  have := Lib.countB_le blankS (by decide) s.size s (Nat.le_refl _)
  omega
theorem wordsOf_pos (s : ByteArray) : 0 < (wordsOf s).length := by rw [wordsOf_len]; omega
theorem splitB_small (sep : ByteArray) : ∀ (k : Nat) (s : ByteArray), ∀ p ∈ Lib.splitB sep 0 k s, p.size ≤ s.size
  | 0, s, p, hp => by
    rw [Lib.splitB_zero] at hp
    simp at hp
    rw [hp]
    exact Nat.le_refl _
  | k + 1, s, p, hp => by
    unfold Lib.splitB at hp
    split at hp
    · simp at hp
      rw [hp]
      exact Nat.le_refl _
    · rcases List.mem_cons.1 hp with h | h
      · rw [h]; simp; omega
      · have := splitB_small sep k _ p h
        simp at this
        omega
theorem wordsOf_small (s : ByteArray) : ∀ p ∈ wordsOf s, p.size ≤ s.size := splitB_small blankS _ s

def StrsPost (l : List ByteArray) (w : World) (e : Ending) (w' : World) : Prop := ∃ v, e = .returned v ∧ StrsFrom w.heap.size w' v l ∧ w.grownBy w' none
end Go.Proofs.YtbaocnbppefciaaGreat

namespace Go.Proofs.YtbaocnbppefciaaGreat
open Go.RowKit
set_option linter.unusedVariables false

/-- Is no piece empty? -/
def fullB (l : List ByteArray) : Bool := l.all fun p => !p.toList.isEmpty
theorem fullB_fail {l : List ByteArray} (k : Nat) (h : k < l.length) (he : l[k].toList.isEmpty = true) : fullB l = false := by
  unfold fullB
  rw [List.all_eq_false]
  exact ⟨l[k], List.getElem_mem h, by simp [he]⟩
theorem fullB_snoc (l : List ByteArray) (k : Nat) (h : k < l.length) (h1 : fullB (l.take k) = true) (he : l[k].toList.isEmpty = false) : fullB (l.take (k + 1)) = true := by
  rw [List.take_succ_eq_append_getElem h]
  unfold fullB at h1 ⊢
  rw [List.all_append, h1]
  simp [he]

/-- What Words hands back. -/
def WordsPost (s : ByteArray) (w : World) (e : Ending) (w' : World) : Prop :=
  w.grownBy w' none ∧ ((fullB (wordsOf s) = false ∧ e = .returned (.tuple #[.slice none 0 0, .bool false])) ∨
  (fullB (wordsOf s) = true ∧ ∃ v, e = .returned (.tuple #[v, .bool true]) ∧ StrsFrom w.heap.size w' v (wordsOf s)))

/-- The code of a byte, as a string. -/
def codeS (c : UInt8) : ByteArray := ⟨(codeOf c).toArray⟩
theorem codeS_data (c : UInt8) : (codeS c).data.toList = codeOf c := rfl
theorem codeS_empty (c : UInt8) : (codeS c).toList.isEmpty = (codeOf c).isEmpty := by rw [Lib.toList_data, codeS_data]
/-- Has each byte a code? -/
def coded (p : ByteArray) : Bool := p.data.toList.all fun c => !(codeOf c).isEmpty
def saidE (s : ByteArray) : Int := if 500 < s.size then 2 else if fullB (wordsOf s) = true ∧ (wordsOf s).all coded = true then 0 else 3
theorem saidE_large {s : ByteArray} (h : 500 < s.size) : saidE s = 2 := by unfold saidE; rw [if_pos h]
theorem saidE_ok {s : ByteArray} (h : ¬ 500 < s.size) (h1 : fullB (wordsOf s) = true) (h2 : (wordsOf s).all coded = true) : saidE s = 0 := by unfold saidE; rw [if_neg h, if_pos ⟨h1, h2⟩]
theorem saidE_gap {s : ByteArray} (h : ¬ 500 < s.size) (h1 : fullB (wordsOf s) = false) : saidE s = 3 := by unfold saidE; rw [if_neg h, if_neg (by rw [h1]; simp)]
theorem saidE_sign {s : ByteArray} (h : ¬ 500 < s.size) (k : Nat) (hk : k < (wordsOf s).length) (n : Nat) (hn : n < (wordsOf s)[k].size) (he : (codeOf (wordsOf s)[k][n]).isEmpty = true) : saidE s = 3 := by
  unfold saidE
  rw [if_neg h, if_neg]
  rintro ⟨-, h2⟩
  have h3 := List.all_eq_true.1 h2 _ (List.getElem_mem hk)
  unfold coded at h3
  have h4 := List.all_eq_true.1 h3 (wordsOf s)[k][n] (by show (wordsOf s)[k].data[n] ∈ _; simp)
  rw [he] at h4
  simp at h4
theorem saidE_zero {s : ByteArray} (h : saidE s = 0) : s.size ≤ 500 ∧ fullB (wordsOf s) = true ∧ (wordsOf s).all coded = true := by
  unfold saidE at h
  split at h
  · omega
  · split at h
    · rename_i h1 h2; exact ⟨by omega, h2⟩
    · omega

end Go.Proofs.YtbaocnbppefciaaGreat

namespace Go.Proofs.YtbaocnbppefciaaGreat
open Go.RowKit
set_option linter.unusedVariables false

theorem slcInfo : (Tryz.prog.info? 31).map (fun i => (i.zero, i.size, i.bytes)) = some (some (.slice none 0 0), 1, 24) := by kernel_rfl
theorem slc_one {base : Nat} {w : World} {v : Value} {l : List ByteArray} (h : StrsFrom base w v l) : ∀ u ∈ [v], u.oneCell' = true := by
  obtain ⟨A, c, rfl, _, _⟩ := h.shape
  intro u hu; simp at hu; subst hu; rfl

/-- Two slices over different types lie apart. -/
theorem own_apart {w : World} {b1 b2 s1 s2 n1 n2 : Nat} {e1 e2 : TypeId} {v1 v2 : Value} {x1 x2 : List Value} (h1 : w.ownsRow b1 e1 s1 v1 n1 x1) (h2 : w.ownsRow b2 e2 s2 v2 n2 x2) (he : e1 ≠ e2) : v1.ownBlock = none ∨ v1.ownBlock ≠ v2.ownBlock := by
  rcases h1.2 with ⟨rfl, _⟩ | ⟨g, cap, cur, rfl, _, hh, _⟩
  · exact .inl rfl
  · refine .inr fun e => ?_
    rcases h2.2 with ⟨rfl, _⟩ | ⟨g', cap', cur', rfl, _, hh', _⟩
    · cases e
    · simp only [Value.ownBlock, Option.some.injEq] at e
      subst e
      rw [hh] at hh'
      injection hh' with hh'
      injection hh' with _ h4
      exact he h4

/-- The lists of strings of a slice of slices. -/
def SsFrom (base : Nat) (w : World) (v : Value) (ll : List (List ByteArray)) : Prop :=
  ∃ vs : List Value, vs.length = ll.length ∧ w.ownsRow base 31 1 v ll.length vs ∧ ∀ (i : Nat) (u : Value) (l : List ByteArray), vs[i]? = some u → ll[i]? = some l → StrsFrom base w u l
theorem SsFrom.low {base base' : Nat} {w : World} {v : Value} {l : List (List ByteArray)} (h : SsFrom base w v l) (hb : base' ≤ base) : SsFrom base' w v l := by
  obtain ⟨vs, h1, h2, h3⟩ := h
  exact ⟨vs, h1, ownsRow_low h2 hb, fun i u x hu hx => (h3 i u x hu hx).low hb⟩
theorem SsFrom.grown {base : Nat} {w w' : World} {v : Value} {l : List (List ByteArray)} (h : SsFrom base w v l) (hg : w.grownBy w' none) : SsFrom base w' v l := by
  obtain ⟨vs, h1, h2, h3⟩ := h
  exact ⟨vs, h1, ownsRow_grown h2 hg, fun i u x hu hx => (h3 i u x hu hx).grown hg⟩
theorem SsFrom.nil (base : Nat) (w : World) : SsFrom base w (.slice none 0 0) [] := ⟨[], rfl, World.ownsRow_nil _ _ _ _, fun i u l hu => by simp at hu⟩
theorem SsFrom.shape {base : Nat} {w : World} {v : Value} {l : List (List ByteArray)} (h : SsFrom base w v l) :
    ∃ A c, v = .slice A l.length c ∧ l.length ≤ 9223372036854775807 ∧ (0 < l.length → ∃ g, A = some ⟨g, 0, none⟩ ∧ base ≤ g ∧ g < w.heap.size) := by
  obtain ⟨vs, h1, h2, h3⟩ := h
  exact ownsRow_shape h2
theorem SsFrom.at_ {base : Nat} {w : World} {g c : Nat} {l : List (List ByteArray)} (h : SsFrom base w (.slice (some ⟨g, 0, none⟩) l.length c) l) (k : Nat) (hk : k < l.length) : ∃ u, w.cell? ⟨g, k, none⟩ = some u ∧ StrsFrom base w u l[k] := by
  obtain ⟨vs, h1, h2, h3⟩ := h
  refine ⟨vs[k]'(by omega), ?_, h3 k _ _ (List.getElem?_eq_getElem _) (List.getElem?_eq_getElem hk)⟩
  rw [World.ownsRow.cellAt h2 k (by omega)]
  simp [h1, hk]

/-- The codes of the signs of the words. -/
def codesW (p : ByteArray) : List ByteArray := p.data.toList.map codeS
def codesOf (s : ByteArray) : List (List ByteArray) := (wordsOf s).map codesW
def SsPost (l : List (List ByteArray)) (w : World) (e : Ending) (w' : World) : Prop := ∃ v, e = .returned v ∧ SsFrom w.heap.size w' v l ∧ w.grownBy w' none

end Go.Proofs.YtbaocnbppefciaaGreat

namespace Go.Proofs.YtbaocnbppefciaaGreat
open Go.RowKit
set_option linter.unusedVariables false

/-- Lists behind one another, with g between. -/
def isp {α : Type} (g : List α) : List (List α) → List α
  | [] => []
  | x :: r => x ++ r.flatMap fun y => g ++ y
/-- .. and with g behind them, if there are any. -/
def ispP {α : Type} (g : List α) (l : List (List α)) : List α := if l = [] then [] else isp g l ++ g
theorem isp_snoc {α : Type} (g : List α) (l : List (List α)) (x : List α) : isp g (l ++ [x]) = ispP g l ++ x := by
  cases l with
  | nil => simp [isp, ispP]
  | cons y r => simp [isp, ispP, List.flatMap_append]
theorem ispP_nil {α : Type} (g : List α) : ispP g [] = [] := rfl
theorem ispP_some {α : Type} (g : List α) (l : List (List α)) (h : 0 < l.length) : ispP g l = isp g l ++ g := by
  unfold ispP
  rw [if_neg (by intro e; rw [e] at h; simp at h)]

def dl (unit : Int) (c : UInt8) : Int := if c = 45 then unit * 3 else unit
def cL (unit : Int) (c : List UInt8) : List Int := isp [unit] (c.map fun b => [dl unit b])
def wL (unit slow : Int) (p : List ByteArray) : List Int := isp [3 * slow] (p.map fun c => cL unit c.data.toList)
def sL (unit slow : Int) (ll : List (List ByteArray)) : List Int := isp [7 * slow] (ll.map (wL unit slow))

/-- Numbers in a slice, so many. -/
def IsL (base : Nat) (w : World) (v : Value) (n : Nat) (L : List Int) : Prop := w.ownsRow base 3 1 v n (L.map (Value.int .i64))
theorem IsL.app {base n : Nat} {w : World} {v : Value} {L : List Int} {x : Int} (h : w.ownsRow base 3 1 v (n + 1) (L.map (Value.int .i64) ++ [.int .i64 x])) : IsL base w v (n + 1) (L ++ [x]) := by
  unfold IsL
  rw [List.map_append]
  exact h
theorem IsL.low {base n : Nat} {w : World} {v : Value} {L : List Int} (h : IsL base w v n L) (gg : Nat) (e : v.ownBlock = some gg) : base ≤ gg := (World.ownsRow.lt h gg e).1
theorem IsL.len {base n : Nat} {w : World} {v : Value} {L : List Int} (h : IsL base w v n L) : L.length = n := by
  have := h.1
  simpa using this
theorem IsL.ints {base n : Nat} {w : World} {v : Value} {L : List Int} (h : IsL base w v n L) : IntsFrom base w v L := by
  unfold IntsFrom
  rw [h.len]
  exact h
theorem take_snocS (s : ByteArray) (k : Nat) (h : k < s.size) : s.data.toList.take (k + 1) = s.data.toList.take k ++ [s[k]] := by
  rw [List.take_succ_eq_append_getElem (by simpa using h)]; rfl
theorem codeOf_short (c : UInt8) : (codeOf c).length ≤ 6 := by
  have h : ∀ n : Fin 256, (codeOf (UInt8.ofNat n.val)).length ≤ 6 := by decide +kernel
  have := h ⟨c.toNat, c.toNat_lt⟩
  simpa using this

end Go.Proofs.YtbaocnbppefciaaGreat

namespace Go.Proofs.YtbaocnbppefciaaGreat
open Go.RowKit
set_option linter.unusedVariables false

theorem isp_mem {α : Type} {g : List α} {l : List (List α)} {x : α} (h : x ∈ isp g l) : x ∈ g ∨ ∃ y ∈ l, x ∈ y := by
  cases l with
  | nil => simp [isp] at h
  | cons y r =>
    rcases List.mem_append.1 h with h | h
    · exact .inr ⟨y, by simp, h⟩
    · obtain ⟨z, hz, hx⟩ := List.mem_flatMap.1 h
      rcases List.mem_append.1 hx with h | h
      · exact .inl h
      · exact .inr ⟨z, by simp [hz], h⟩
theorem sL_bd (ll : List (List ByteArray)) : ∀ x ∈ sL 1 1 ll, 0 ≤ x ∧ x ≤ 7 := by
  intro x hx
  rcases isp_mem hx with h | ⟨y, hy, h⟩
  · simp at h; omega
  · obtain ⟨p, _, rfl⟩ := List.mem_map.1 hy
    rcases isp_mem h with h | ⟨z, hz, h⟩
    · simp at h; omega
    · obtain ⟨c, _, rfl⟩ := List.mem_map.1 hz
      rcases isp_mem h with h | ⟨u, hu, h⟩
      · simp at h; omega
      · obtain ⟨b, _, rfl⟩ := List.mem_map.1 hu
        simp at h
        rw [h]
        unfold dl
        split <;> omega
def unitsI (s : ByteArray) : Int := (sL 1 1 (codesOf s)).sum
theorem sum_snoc (l : List Int) (k : Nat) (h : k < l.length) : (l.take (k + 1)).sum = (l.take k).sum + l[k] := by
  rw [List.take_succ_eq_append_getElem h, List.sum_append]
  simp

/-- The word that 'ready' asks of. -/
def parisS : ByteArray := ⟨#[112, 97, 114, 105, 115]⟩
theorem paris_ok : saidE parisS = 0 := by decide +kernel
theorem paris_units : unitsI parisS = 43 := by decide +kernel
end Go.Proofs.YtbaocnbppefciaaGreat
