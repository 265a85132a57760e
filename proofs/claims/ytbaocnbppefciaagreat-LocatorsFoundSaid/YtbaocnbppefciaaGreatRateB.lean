/- The walks over rate.Rate and its twin in the reference. Condition: the window's end is no number beyond 2^60; times without error where the name says ok. The walks over rate.Best and its twin in the reference. Condition: the window's end is no number beyond 2^60; times without error where the name says ok. The walks over slices.Clone, rate.Gap, pileref1.gaps and GapOf. Condition: the window's end is no number beyond 2^60; times without error where the name says ok. The walks over pileref1.gaps and GapOf. Condition: times without error; gaps begun at most a second behind. The walk over pileref1.GapOf. Condition: times without error. -/
import Derived.Test.YtbaocnbppefciaaGreatRateA
import Derived.Deep.AppendLies
import Derived.Test.YtbaocnbppefciaaGreatPairs
namespace Go.Proofs.YtbaocnbppefciaaGreat
open Go.RowKit
set_option linter.unusedVariables false

theorem ret_3 {a b c d : Int} {p : Bool} {e f : Int} (h : a = b) (h' : c = d) (h2 : e = f) :
    Ending.returned (.tuple #[.agg #[.int .i64 a, .int .i64 c], .bool p, .int .i64 e]) = .returned (.tuple #[.agg #[.int .i64 b, .int .i64 d], .bool p, .int .i64 f]) := by rw [h, h', h2]

theorem gr_put2 {a w : World} {g : Nat} (h : a.grownBy w (some g)) (i j : Nat) (u v : Value) : a.grownBy ((w.setCell ⟨g, i, none⟩ u).setCell ⟨g, j, none⟩ v) (some g) :=
  gr_put (p := ⟨g, j, none⟩) (gr_put (p := ⟨g, i, none⟩) h (.inl rfl) u) (.inl rfl) v
theorem many_scale {m d : Int} (h0 : 0 ≤ m) (h1 : m ≤ 2000) : 0 ≤ m * 3600000 ∧ m * 3600000 ≤ 1000000000000000000 := by omega

end Go.Proofs.YtbaocnbppefciaaGreat

namespace Go.Proofs.YtbaocnbppefciaaGreat
open Go.RowKit
set_option linter.unusedVariables false

def bestE (l : List Int) (a zt long : Int) : Int := if timesE l a zt = 0 then longE long else timesE l a zt
theorem ret_3i {a b c d e f : Int} (h : a = b) (h' : c = d) (h2 : e = f) : Ending.returned (.tuple #[.int .i64 a, .int .i64 c, .int .i64 e]) = .returned (.tuple #[.int .i64 b, .int .i64 d, .int .i64 f]) := by rw [h, h', h2]
theorem ret_2ii {a b c d : Int} (h : a = b) (h' : c = d) : Ending.returned (.tuple #[.int .i64 a, .int .i64 c]) = .returned (.tuple #[.int .i64 b, .int .i64 d]) := by rw [h, h']
theorem bestI_drop (l : List Int) (long : Int) (st : Int × Int) (k : Nat) (h : k < l.length) : (l.drop k).foldl (bestStep l long) st = (l.drop (k + 1)).foldl (bestStep l long) (bestStep l long st l[k]) := by
  rw [List.drop_eq_getElem_cons h]; rfl

end Go.Proofs.YtbaocnbppefciaaGreat

namespace Go.Proofs.YtbaocnbppefciaaGreat
open Go.RowKit
set_option linter.unusedVariables false

theorem gapI_drop (l : List Int) (st : (Int × Int) × Int) (k : Nat) (h : k < l.length) : (l.drop k).foldl gapStep st = (l.drop (k + 1)).foldl gapStep (gapStep st l[k]) := by
  rw [List.drop_eq_getElem_cons h]; rfl

theorem one_kept {w w' : World} {x : Int} {t : TypeId} (hg : (w.alloc (.cells #[.int .i64 x] t)).drew.grownBy w' none) : ∀ j u, ([Value.int .i64 x])[j]? = some u → w'.cell? ((⟨w.heap.size, 0, none⟩ : Addr).add j) = some u := fun j u hu =>
  hg.cell (a := (⟨w.heap.size, 0, none⟩ : Addr).add j) (one_cell w x t j u hu) (by simp)

end Go.Proofs.YtbaocnbppefciaaGreat

namespace Go.Proofs.YtbaocnbppefciaaGreat
open Go.RowKit
set_option linter.unusedVariables false

theorem gapsL_drop (begun : Int) (l r : List Int) (f : Int) (k : Nat) (h : k < l.length) : gapsL begun f (l.drop k ++ r) = (f, l[k]) :: gapsL begun (l[k] + begun) (l.drop (k + 1) ++ r) := by
  rw [List.drop_eq_getElem_cons h]; rfl

theorem gapsL_mem (begun lo hi : Int) : ∀ (l : List Int) (f : Int), lo ≤ f → f ≤ hi → (∀ x ∈ l, lo ≤ x ∧ x + begun ≤ hi) → 0 ≤ begun → ∀ p ∈ gapsL begun f l, lo ≤ p.1 ∧ p.1 ≤ hi ∧ lo ≤ p.2 ∧ p.2 ≤ hi
  | [], _, _, _, _, _, p, hp => by simp [gapsL] at hp
  | x :: r, f, h1, h2, h3, h4, p, hp => by
    have hx := h3 x (by simp)
    simp only [gapsL, List.mem_cons] at hp
    rcases hp with rfl | hp
    · exact ⟨h1, h2, hx.1, by show x ≤ hi; omega⟩
    · exact gapsL_mem begun lo hi r (x + begun) (by omega) (by omega) (fun y hy => h3 y (by simp [hy])) h4 p hp
theorem gapsL_len (begun : Int) : ∀ (l : List Int) (f : Int), (gapsL begun f l).length = l.length
  | [], _ => rfl
  | x :: r, f => by simp [gapsL, gapsL_len begun r]
end Go.Proofs.YtbaocnbppefciaaGreat

namespace Go.Proofs.YtbaocnbppefciaaGreat
open Go.RowKit
set_option linter.unusedVariables false

def gapOfI (gs : List (Int × Int)) : Int × Int := match gs with | [] => (0, 0) | g :: r => r.foldl gapPick g
def gapAt (gs : List (Int × Int)) (k : Nat) (st : Int × Int) : Int × Int := if k = 0 then gapOfI gs else (gs.drop k).foldl gapPick st
theorem gapAt_first (gs : List (Int × Int)) (st : Int × Int) (h : 0 < gs.length) : gapAt gs 0 st = gapAt gs 1 gs[0] := by
  cases gs with
  | nil => simp at h
  | cons g r => rfl
theorem gapAt_next (gs : List (Int × Int)) (k : Nat) (st : Int × Int) (h0 : 0 < k) (h : k < gs.length) : gapAt gs k st = gapAt gs (k + 1) (gapPick st gs[k]) := by
  unfold gapAt
  rw [if_neg (by omega), if_neg (by omega), List.drop_eq_getElem_cons h]; rfl
theorem gapAt_end (gs : List (Int × Int)) (k : Nat) (st : Int × Int) (h : gs.length ≤ k) (h0 : k = 0 → st = (0, 0)) : gapAt gs k st = st := by
  unfold gapAt
  by_cases hk : k = 0
  · rw [if_pos hk, h0 hk]
    have : gs = [] := List.eq_nil_of_length_eq_zero (by omega)
    subst this; rfl
  · rw [if_neg hk, List.drop_eq_nil_of_le h]; rfl

end Go.Proofs.YtbaocnbppefciaaGreat
