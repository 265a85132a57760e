/- A map from strings to numbers that the program has made, as a list of pairs whose keys differ; sums over it in any order. No condition. -/
import Derived.Test.YtbaocnbppefciaaGreatBase
import Derived.Maps.OwnOps
import Derived.Maps.Views
import Derived.Maps.StringElems
import Derived.Maps.RangeWalk
import Derived.StringKeys
namespace Go.Proofs.YtbaocnbppefciaaGreat
open Go.RowKit
set_option linter.unusedVariables false

/-- What a list of pairs says of a key. -/
def valS (l : List (List UInt8 × Int)) (k : List UInt8) : Int := match l with
  | [] => 0
  | p :: r => if p.1 = k then p.2 else valS r k
def hasS (l : List (List UInt8 × Int)) (k : List UInt8) : Bool := l.any fun p => decide (p.1 = k)
def addS (l : List (List UInt8 × Int)) (k : List UInt8) (d : Int) : List (List UInt8 × Int) := match l with
  | [] => [(k, d)]
  | p :: r => if p.1 = k then (k, p.2 + d) :: r else p :: addS r k d
def sumS (l : List (List UInt8 × Int)) : Int := (l.map (·.2)).sum
theorem valS_add (l : List (List UInt8 × Int)) (k : List UInt8) (d : Int) (j : List UInt8) : valS (addS l k d) j = valS l j + if j = k then d else 0 := by
  induction l with
  | nil =>
    by_cases h : k = j
    · subst h; simp [addS, valS]
    · simp [addS, valS, h, Ne.symm h]
  | cons p r ih =>
    unfold addS
    by_cases h : p.1 = k
    · rw [if_pos h]
      by_cases h2 : k = j
      · subst h2; simp [valS, h]
      · have : p.1 ≠ j := fun e => h2 (h.symm.trans e)
        simp [valS, h2, this, Ne.symm h2]
    · rw [if_neg h]
      by_cases h2 : p.1 = j
      · have : j ≠ k := fun e => h (h2.trans e)
        simp [valS, h2, this]
      · simp only [valS, if_neg h2]; exact ih
theorem hasS_add (l : List (List UInt8 × Int)) (k : List UInt8) (d : Int) (j : List UInt8) : hasS (addS l k d) j = (hasS l j || decide (k = j)) := by
  induction l with
  | nil => simp [addS, hasS]
  | cons p r ih =>
    unfold addS
    by_cases h : p.1 = k
    · rw [if_pos h]
      unfold hasS
      rw [List.any_cons, List.any_cons, h]
      cases decide (k = j) <;> simp
    · rw [if_neg h]
      unfold hasS at ih ⊢
      rw [List.any_cons, ih, List.any_cons, Bool.or_assoc]
theorem sumS_add (l : List (List UInt8 × Int)) (k : List UInt8) (d : Int) : sumS (addS l k d) = sumS l + d := by
  induction l with
  | nil => simp [addS, sumS]
  | cons p r ih =>
    unfold addS
    by_cases h : p.1 = k
    · rw [if_pos h]; simp only [sumS, List.map_cons, List.sum_cons]; omega
    · rw [if_neg h]; simp only [sumS, List.map_cons, List.sum_cons] at ih ⊢; omega
theorem keysS_add (l : List (List UInt8 × Int)) (k : List UInt8) (d : Int) : (addS l k d).map (·.1) = if hasS l k then l.map (·.1) else l.map (·.1) ++ [k] := by
  induction l with
  | nil => simp [addS, hasS]
  | cons p r ih =>
    unfold addS
    by_cases h : p.1 = k
    · rw [if_pos h]; simp [hasS, h]
    · rw [if_neg h, List.map_cons, ih]
      have : hasS (p :: r) k = hasS r k := by simp [hasS, h]
      rw [this]
      split <;> simp
theorem hasS_mem (l : List (List UInt8 × Int)) (k : List UInt8) : hasS l k = true ↔ k ∈ l.map (·.1) := by
  simp [hasS, List.any_eq_true]
theorem valS_none {l : List (List UInt8 × Int)} {k : List UInt8} (h : hasS l k = false) : valS l k = 0 := by
  induction l with
  | nil => rfl
  | cons p r ih =>
    simp only [hasS, List.any_cons, Bool.or_eq_false_iff, decide_eq_false_iff_not] at h
    unfold valS
    rw [if_neg h.1]
    exact ih h.2
theorem nodup_add {l : List (List UInt8 × Int)} (h : (l.map (·.1)).Nodup) (k : List UInt8) (d : Int) : ((addS l k d).map (·.1)).Nodup := by
  rw [keysS_add]
  split
  · exact h
  · rename_i hn
    rw [List.nodup_append]
    refine ⟨h, by simp, fun a ha b hb => ?_⟩
    simp only [List.mem_singleton] at hb
    subst hb
    intro e
    subst e
    exact hn ((hasS_mem _ _).2 ha)
theorem sumS_keys (l : List (List UInt8 × Int)) (h : (l.map (·.1)).Nodup) : ((l.map (·.1)).map (valS l)).sum = sumS l := by
  induction l with
  | nil => rfl
  | cons p r ih =>
    rw [List.map_cons, List.nodup_cons] at h
    have e : ∀ k ∈ r.map (·.1), valS (p :: r) k = valS r k := fun k hk => by
      have : p.1 ≠ k := fun e => h.1 (e ▸ hk)
      simp [valS, this]
    simp only [List.map_cons, List.sum_cons, sumS]
    have e0 : valS (p :: r) p.1 = p.2 := by simp [valS]
    rw [e0, List.map_congr_left e, ih h.2]
    rfl

/-- Block bm is a map that reads so. -/
def MapS (w : World) (bm n : Nat) (l : List (List UInt8 × Int)) : Prop :=
  ∃ D : DataW Unit, w.ownsMap Tryz.prog 9 (plainElem Tryz.prog 3) bm n D ∧ Maps.Tidy D ∧ (∀ k, D.atKey (.string k) (.lit (.int .i64 0)) = .lit (.int .i64 (valS l k))) ∧
    (∀ k, Maps.has D (.string k) = hasS l k) ∧ Maps.size D = l.length ∧ (l.map (·.1)).Nodup
theorem strK : Maps.Keyed Tryz.prog 9 := Maps.string_keyed Tryz.underlying9
theorem MapS.lt {w : World} {bm n : Nat} {l : List (List UInt8 × Int)} (h : MapS w bm n l) : bm < w.heap.size := by obtain ⟨D, h1, _⟩ := h; exact h1.lt
theorem MapS.made (w : World) : MapS (w.alloc (.map #[] 0)) w.heap.size 0 [] :=
  ⟨_, World.ownsMap_made w _ _ _, Maps.tidy_empty, fun c => rfl, fun c => rfl, rfl, by simp⟩
theorem MapS.kept {w w' : World} {bm n : Nat} {l : List (List UInt8 × Int)} (h : MapS w bm n l) {row : Option Nat} (hg : w.grownBy w' row) (hr : some bm ≠ row) : MapS w' bm n l := by
  obtain ⟨D, h1, h2⟩ := h
  exact ⟨D, h1.kept hg hr, h2⟩
theorem MapS.mono {w : World} {bm n : Nat} {l : List (List UInt8 × Int)} (h : MapS w bm n l) : MapS w bm (n + 1) l := by
  obtain ⟨D, h1, h2⟩ := h
  exact ⟨D, h1.mono (by omega), h2⟩
theorem MapS.quiet {w w' : World} {bm n : Nat} {l : List (List UInt8 × Int)} (h : MapS w bm n l) (hg : w.grownBy w' none) : MapS w' bm n l := h.kept hg (by simp)
theorem str_key (s : ByteArray) (h : s.size ≤ 1000000) : keyOf Tryz.prog 9 (.string s) = some (.string s.data.toList) :=
  WideMaps.keyOf_string_mk Tryz.underlying9 (by unfold maxLen; omega)
theorem i64_wf {n : Int} (h0 : -9223372036854775808 ≤ n) (h1 : n ≤ 9223372036854775807) : (Lit.int .i64 n).wf = true := by
  simp [Lit.wf, IntKind.min, IntKind.max, IntKind.signed, IntKind.bits]
  omega
theorem valS_bd {l : List (List UInt8 × Int)} {B : Int} (h0 : 0 ≤ B) (h : ∀ p ∈ l, 0 ≤ p.2 ∧ p.2 ≤ B) (k : List UInt8) : 0 ≤ valS l k ∧ valS l k ≤ B := by
  induction l with
  | nil => exact ⟨by simp [valS], by simpa [valS] using h0⟩
  | cons p r ih =>
    unfold valS
    split
    · exact h p (by simp)
    · exact ih (fun q hq => h q (by simp [hq]))
theorem addS_bd {l : List (List UInt8 × Int)} {B d : Int} (hd : 0 ≤ d) (h : ∀ p ∈ l, 0 ≤ p.2 ∧ p.2 ≤ B) (hB : 0 ≤ B) (k : List UInt8) : ∀ p ∈ addS l k d, 0 ≤ p.2 ∧ p.2 ≤ B + d := by
  induction l with
  | nil => intro p hp; simp [addS] at hp; subst hp; exact ⟨hd, by show d ≤ B + d; omega⟩
  | cons q r ih =>
    intro p hp
    unfold addS at hp
    split at hp
    · rcases List.mem_cons.1 hp with rfl | hp
      · have := h q (by simp); exact ⟨by show 0 ≤ q.2 + d; omega, by show q.2 + d ≤ B + d; omega⟩
      · have := h p (by simp [hp]); omega
    · rcases List.mem_cons.1 hp with rfl | hp
      · have := h p (by simp); omega
      · exact ih (fun q hq => h q (by simp [hq])) p hp
theorem addS_len (l : List (List UInt8 × Int)) (k : List UInt8) (d : Int) : (addS l k d).length ≤ l.length + 1 := by
  induction l with
  | nil => simp [addS]
  | cons p r ih => unfold addS; split <;> simp; omega
end Go.Proofs.YtbaocnbppefciaaGreat
