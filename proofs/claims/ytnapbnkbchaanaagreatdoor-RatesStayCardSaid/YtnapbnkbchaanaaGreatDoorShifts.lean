/- A slice of shifts as a list of pairs; the plain error of shifts. No condition. -/
import Derived.Test.YtnapbnkbchaanaaGreatDoorInts
import Derived.Test.YtnapbnkbchaanaaGreatDoorKeyName
namespace Go.Proofs.YtnapbnkbchaanaaGreatDoor
open Go.RowKit
set_option linter.unusedVariables false

def scells (l : List (Int × ByteArray)) : List Value := l.flatMap fun p => [.int .i64 p.1, .string p.2]
theorem scells_len (l : List (Int × ByteArray)) : (scells l).length = l.length * 2 := by
  induction l with
  | nil => rfl
  | cons p r ih => simp only [scells, List.flatMap_cons, List.length_append, List.length_cons, List.length_nil] at ih ⊢; omega
theorem scells_snoc (l : List (Int × ByteArray)) (x : Int) (y : ByteArray) : scells (l ++ [(x, y)]) = scells l ++ [.int .i64 x, .string y] := by
  simp [scells]
theorem scells_at (l : List (Int × ByteArray)) (k : Nat) (h : k < l.length) : (scells l)[k * 2]? = some (.int .i64 l[k].1) ∧ (scells l)[k * 2 + 1]? = some (.string l[k].2) := by
  induction l generalizing k with
  | nil => simp at h
  | cons p r ih =>
    have e : scells (p :: r) = .int .i64 p.1 :: .string p.2 :: scells r := rfl
    rw [e]
    cases k with
    | zero => simp
    | succ k =>
      have := ih k (by simpa using h)
      rw [show (k + 1) * 2 = k * 2 + 1 + 1 from by omega]
      simpa using this
theorem shInfo : (Tryz.prog.info? 89).map (fun i => (i.zero, i.size, i.bytes)) = some (some (.agg #[.int .i64 0, .string ⟨#[]⟩]), 2, 24) := by kernel_rfl
theorem sh_cells (w : World) (x : Int) (y : ByteArray) (t : TypeId) : ∀ j u, ([Value.int .i64 x, .string y])[j]? = some u → (w.alloc (.cells #[.int .i64 x, .string y] t)).cell? ((⟨w.heap.size, 0, none⟩ : Addr).add j) = some u := by
  intro j u hu
  have hb := (Blk.new w t #[.int .i64 x, .string y]).cell j
  have hadd : (⟨w.heap.size, 0, none⟩ : Addr).add j = ⟨w.heap.size, j, none⟩ := by unfold Addr.add; split <;> simp_all
  rw [hadd, hb]
  simpa using hu
theorem sh_oneCell (x : Int) (y : ByteArray) : ∀ u ∈ [Value.int .i64 x, .string y], u.oneCell' = true := by
  intro u hu; simp at hu; rcases hu with rfl | rfl <;> rfl

/-- The shifts of a slice, that lies in a block from base on. -/
def ShFrom (base : Nat) (w : World) (v : Value) (l : List (Int × ByteArray)) : Prop := w.ownsRow base 89 2 v l.length (scells l)
theorem ShFrom.lowTo {base base' : Nat} {w : World} {v : Value} {l : List (Int × ByteArray)} (h : ShFrom base w v l) (hb : base' ≤ base) : ShFrom base' w v l := ownsRow_low h hb
theorem ShFrom.grown {base : Nat} {w w' : World} {v : Value} {l : List (Int × ByteArray)} (h : ShFrom base w v l) (hg : w.grownBy w' none) : ShFrom base w' v l := ownsRow_grown h hg
theorem ShFrom.alloc {base : Nat} {w : World} {v : Value} {l : List (Int × ByteArray)} (h : ShFrom base w v l) (o : Obj) : ShFrom base (w.alloc o) v l := ownsRow_grown h (World.grownBy_alloc w o none)
theorem ShFrom.other {base b : Nat} {w w' : World} {v : Value} {l : List (Int × ByteArray)} (h : ShFrom base w v l) (hg : w.grownBy w' (some b)) (hb : b < base) : ShFrom base w' v l := ownsRow_other h hg hb
theorem ShFrom.nil (base : Nat) (w : World) : ShFrom base w (.slice none 0 0) [] := World.ownsRow_nil _ _ _ _
theorem ShFrom.shape {base : Nat} {w : World} {v : Value} {l : List (Int × ByteArray)} (h : ShFrom base w v l) :
    ∃ A c, v = .slice A l.length c ∧ l.length ≤ 9223372036854775807 ∧ (0 < l.length → ∃ g, A = some ⟨g, 0, none⟩ ∧ base ≤ g ∧ g < w.heap.size) := ownsRow_shape h
theorem ShFrom.at1 {base : Nat} {w : World} {g c : Nat} {l : List (Int × ByteArray)} (h : ShFrom base w (.slice (some ⟨g, 0, none⟩) l.length c) l) (k : Nat) (hk : k < l.length) : w.cell? ⟨g, k * 2, none⟩ = some (.int .i64 l[k].1) ∧ w.cell? ⟨g, k * 2 + 1, none⟩ = some (.string l[k].2) := by
  have hc := scells_at l k hk
  rw [World.ownsRow.cellAt h (k * 2) (by omega), World.ownsRow.cellAt h (k * 2 + 1) (by omega)]
  exact hc

/-- The error of shifts that are few and of few. -/
def scanS : Option Int → List (Int × ByteArray) → Int
  | _, [] => 0
  | p, x :: r => if momE x.1 = 0 then (if nameB x.2.data.toList = false then 5 else if p.any (fun y => decide (x.1 ≤ y)) then 7 else scanS (some x.1) r) else 1
/-- Shifts as they are drawn: few. -/
structure ShFew (l : List (Int × ByteArray)) : Prop where
  len : l.length ≤ 6
  num : ∀ p ∈ l, -1152921504606846976 ≤ p.1 ∧ p.1 ≤ 1152921504606846976
  str : ∀ p ∈ l, p.2.size ≤ 1000
theorem scanS_mom {p : Option Int} {x : Int × ByteArray} {r : List (Int × ByteArray)} (h : momE x.1 = 1) : scanS p (x :: r) = 1 := by unfold scanS; rw [if_neg (by omega)]
theorem scanS_name {p : Option Int} {x : Int × ByteArray} {r : List (Int × ByteArray)} (h : momE x.1 = 0) (h2 : nameB x.2.data.toList = false) : scanS p (x :: r) = 5 := by unfold scanS; rw [if_pos h, if_pos h2]
theorem scanS_order {y : Int} {x : Int × ByteArray} {r : List (Int × ByteArray)} (h : momE x.1 = 0) (h2 : nameB x.2.data.toList = true) (h3 : x.1 ≤ y) : scanS (some y) (x :: r) = 7 := by
  unfold scanS
  rw [if_pos h, if_neg (by rw [h2]; simp), if_pos (by simpa using h3)]
theorem scanS_next {p : Option Int} {x : Int × ByteArray} {r : List (Int × ByteArray)} (h : momE x.1 = 0) (h2 : nameB x.2.data.toList = true) (h3 : ∀ y, p = some y → ¬ x.1 ≤ y) : scanS p (x :: r) = scanS (some x.1) r := by
  conv => lhs; unfold scanS
  rw [if_pos h, if_neg (by rw [h2]; simp)]
  cases p with
  | none => simp
  | some y => have := h3 y rfl; simp [this]
/-- The begin of the shift before one. -/
def prevS (l : List (Int × ByteArray)) : Nat → Option Int
  | 0 => none
  | k + 1 => (l[k]?).map (·.1)
theorem prevS_pos (l : List (Int × ByteArray)) (k : Nat) (h : k < l.length) : prevS l (k + 1) = some l[k].1 := by simp [prevS, h]

/-- What holds of shifts without error. -/
structure ShOk (l : List (Int × ByteArray)) : Prop where
  mom : ∀ p ∈ l, 0 ≤ p.1 ∧ p.1 ≤ 345686399999
  ord : l.Pairwise (fun p q => p.1 < q.1)
theorem scanS_ok : ∀ (p : Option Int) (l : List (Int × ByteArray)), scanS p l = 0 → ShOk l ∧ ∀ y, p = some y → ∀ x ∈ l, y < x.1
  | p, [], _ => ⟨⟨by simp, by simp⟩, by simp⟩
  | p, x :: r, h => by
    unfold scanS at h
    split at h
    · rename_i hm
      split at h
      · omega
      split at h
      · omega
      rename_i hp
      obtain ⟨ih, ih2⟩ := scanS_ok (some x.1) r h
      have hx : 0 ≤ x.1 ∧ x.1 ≤ 345686399999 := by
        rcases momE_cases x.1 with ⟨_, _, h1, h2⟩ | ⟨h1, _⟩
        · exact ⟨h1, h2⟩
        · omega
      refine ⟨⟨fun q hq => ?_, ?_⟩, fun y hy q hq => ?_⟩
      · rcases List.mem_cons.1 hq with rfl | hq
        · exact hx
        · exact ih.mom q hq
      · exact List.pairwise_cons.2 ⟨fun q hq => ih2 x.1 rfl q hq, ih.ord⟩
      · subst hy
        have hxy : y < x.1 := by simp at hp; omega
        rcases List.mem_cons.1 hq with rfl | hq
        · exact hxy
        · have := ih2 x.1 rfl q hq; omega
    · omega
end Go.Proofs.YtnapbnkbchaanaaGreatDoor
