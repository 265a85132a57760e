/- slices.DeleteFunc at windows: those that are long enough stay, in their order. Condition: at most 3000 windows, numbers up to 10^15. -/
import Derived.Test.YtlbhphfmckhimaaDoorDeleteW
namespace Go.Proofs.YtlbhphfmckhimaaDoor
open Go.RowKit
set_option linter.unusedVariables false

theorem zeroWin (w : World) : (zeroValue 27).run Tryd.prog w = .ok (.agg #[.int .i64 0, .int .i64 0]) w := by kernel_rfl
theorem run_clear_win (w : World) (ty : TypeId) (b o n c : Nat) (hn : 0 < n) (hc : ∀ j, j < 2 * n → (w.cell? ⟨b, o + j, none⟩).isSome = true) (hf : ∀ j, j < 2 * n → w.frozen? ⟨b, o + j, none⟩ = false) :
    (Builtin.clear_ #[36] ty #[.slice (some ⟨b, o, none⟩) n c]).run Tryd.prog w = .ok (.tuple #[]) (w.setCells b o (List.replicate (2 * n) (.int .i64 0))) := by
  have hzc : (Builtin.zeroCells (Value.agg #[.int .i64 0, .int .i64 0]).cells n).toList = List.replicate (2 * n) (.int .i64 0) := by
    simp [Builtin.zeroCells, Value.cells]
    apply List.ext_getElem
    · simp; omega
    · intro i h1 h2
      simp
      rcases Nat.mod_two_eq_zero_or_one i with h | h <;> simp [h]
  have hst := run_storeCells_cells (P := Tryd.prog) b o (List.replicate (2 * n) (Value.int .i64 0)) 0 w (by simpa using hc) (by simpa using hf) (by intro v hv'; rw [List.eq_of_mem_replicate hv']; rfl)
  simp only [Nat.add_zero] at hst
  obtain ⟨m, rfl⟩ : ∃ m, n = m + 1 := ⟨n - 1, by omega⟩
  simp [Builtin.clear_, run_underlying Tryd.underlying36, hzc, hst]

theorem wcells_set (l : List (Int × Int)) (k : Nat) (x y : Int) : ((wcells l).set (k * 2) (.int .i64 x)).set (k * 2 + 1) (.int .i64 y) = wcells (l.set k (x, y)) := by
  induction l generalizing k with
  | nil => simp [wcells]
  | cons p r ih =>
    have e : wcells (p :: r) = .int .i64 p.1 :: .int .i64 p.2 :: wcells r := rfl
    cases k with
    | zero => rw [e]; rfl
    | succ k =>
      rw [e, show (k + 1) * 2 = k * 2 + 1 + 1 by omega]
      simp only [List.set_cons_succ]
      rw [ih k]; rfl
/-- Zeros from a cell on leave the windows before it. -/
theorem wins_zeros (base g n c : Nat) : ∀ (m o : Nat) (w : World) (xs : List Value), w.ownsRow base 27 2 (.slice (some ⟨g, 0, none⟩) n c) n xs →
    ∃ xs' : List Value, (∀ j, j < o → xs'[j]? = xs[j]?) ∧ xs'.length = xs.length ∧ (w.setCells g o (List.replicate m (.int .i64 0))).ownsRow base 27 2 (.slice (some ⟨g, 0, none⟩) n c) n xs' ∧ w.grownBy (w.setCells g o (List.replicate m (.int .i64 0))) (some g)
  | 0, o, w, xs, h => ⟨xs, fun _ _ => rfl, rfl, h, gr_refl _ _⟩
  | m + 1, o, w, xs, h => by
    have h1 := h.stored o (.int .i64 0)
    obtain ⟨xs', e, el, h2, h3⟩ := wins_zeros base g n c m (o + 1) _ _ h1.1
    refine ⟨xs', fun j hj => ?_, by rw [el]; simp, h2, gr_trans h1.2 h3⟩
    rw [e j (by omega), List.getElem?_set_ne (by omega)]

theorem wcells_take (l : List (Int × Int)) (k : Nat) (h : k ≤ l.length) : (wcells l).take (k * 2) = wcells (l.take k) := by
  induction l generalizing k with
  | nil => simp [wcells]
  | cons p r ih =>
    have e : wcells (p :: r) = .int .i64 p.1 :: .int .i64 p.2 :: wcells r := rfl
    cases k with
    | zero => simp [wcells]
    | succ k =>
      rw [e, show (k + 1) * 2 = k * 2 + 1 + 1 by omega]
      simp only [List.take_succ_cons]
      rw [ih k (by simpa using h)]; rfl
theorem win_take {w : World} {base : Nat} {e : TypeId} {A : Option Addr} {n c : Nat} {xs : List Value} (h : w.ownsRow base e 2 (.slice A n c) n xs) (m : Nat) (hm : m ≤ n) : w.ownsRow base e 2 (.slice A m c) m (xs.take (m * 2)) := by
  have hx := h.1
  refine ⟨by rw [List.length_take]; omega, ?_⟩
  rcases h.2 with ⟨h1, h2⟩ | ⟨g, cap, cur, h1, h2, h3, h4, h5, h6, h7⟩
  · injection h1 with e1 e2 e3
    subst e1; subst e3
    exact .inl ⟨by rw [show m = 0 by omega], by omega⟩
  · injection h1 with e1 e2 e3
    subst e1; subst e3
    refine .inr ⟨g, _, cur, rfl, h2, h3, by omega, h5, h6, ?_⟩
    rw [← h7, List.take_take]
    congr 1
    omega

def keepB (least : Int) (p : Int × Int) : Bool := !shortB least p
theorem filter_all {l : List (Int × Int)} {least : Int} (h : ∀ p ∈ l, shortB least p = false) : l.filter (keepB least) = l := List.filter_eq_self.2 (fun p hp => by unfold keepB; rw [h p hp]; rfl)
theorem keep_long (least : Int) (p : Int × Int) : keepB least p = longB least p := by
  unfold keepB shortB longB
  by_cases h : least ≤ p.2 - p.1
  · simp [h]
  · simp [h]; omega

def DelWPost (base : Nat) (u : Value) (l : List (Int × Int)) (least : Int) (w : World) (e : Ending) (w' : World) : Prop := ∃ v, e = .returned v ∧ WinsFrom base w' v (l.filter (keepB least)) ∧ w.grownBy w' u.ownBlock
theorem WinsFrom.cap {base n : Nat} {w : World} {A : Option Addr} {c : Nat} {l : List (Int × Int)} (h : WinsFrom base w (.slice A l.length c) l) : l.length ≤ c := by
  rcases h.2 with ⟨h1, h2⟩ | ⟨g, cap, cur, h1, h2, h3, h4, h5, h6, h7⟩
  · omega
  · injection h1 with e1 e2 e3
    omega

end Go.Proofs.YtlbhphfmckhimaaDoor
