/- The reference's search for the cheapest rests in memory: what a choice is, and the map of what is known. Condition: contests of at most 24 seconds. -/
import Derived.Test.YtlbhphfmckhimaaChoice
import Derived.WideKeyPair
import Derived.WalkArith
namespace Go.Proofs.Ytlbhphfmckhimaa
open Go.RowKit
set_option linter.unusedVariables false
set_option linter.unusedSimpArgs false

theorem winW_short {n L : Nat} (hL : 0 < L) : ∀ {W : List (Nat × Nat)} {s : Nat}, WinW n L s W → s ≤ n + 1 → s + W.length ≤ n + 1
  | [], s, _, hs => by simpa using hs
  | (x, y) :: r, s, h, hs => by
    obtain ⟨h1, h2, h3, h4⟩ := h
    have := winW_short hL h4 (by omega)
    simp only [List.length_cons]
    omega
/-- The ways that the search finds are small. -/
theorem ref_bd {n L : Nat} {M : Nat → Int} (hL : 0 < L) (hM : Rise n M) (hMb : ∀ k, k ≤ n → 0 ≤ M k ∧ M k ≤ 2000) {d need : Nat} {r : Way} (hd : d ≤ n + 1) (h : refD n L M d need = some r) :
    0 ≤ costW M r ∧ costW M r ≤ 2000 ∧ longW r ≤ n ∧ r.length ≤ n + 1 := by
  have h1 := (refD_min (n := n) (M := M) hL hM (2 * d + 1)).1 d need (Nat.le_refl _) hd
  rw [h] at h1
  have hw := h1.1.1
  rcases Nat.lt_or_ge n (n + 1 - d) with h2 | h2
  · cases r with
    | nil => exact ⟨Int.le_refl _, by show (0 : Int) ≤ 2000; decide, Nat.zero_le _, Nat.zero_le _⟩
    | cons p r =>
      obtain ⟨a, b⟩ := p
      obtain ⟨q1, q2, q3, _⟩ := hw
      omega
  · have h3 := costW_bd hM hL r _ h2 hw
    have h4 := winW_short hL hw (by omega)
    have h5 := hMb n (Nat.le_refl _)
    have h6 := hMb (n + 1 - d) h2
    omega
theorem cmpN_Z (a b : Int) : cmpN a b = cmpZ a b := rfl
theorem cmpZ_scale (x y : Int) : cmpZ (1000 * x) (1000 * y) = cmpZ x y := by
  unfold cmpZ
  split <;> split <;> first | rfl | omega | (split <;> first | rfl | omega)
theorem cmpZ_shift (a x y : Int) : cmpZ (a + x * 1000) (a + y * 1000) = cmpZ x y := by
  unfold cmpZ
  split <;> split <;> first | rfl | omega | (split <;> first | rfl | omega)
theorem cmpWI_scale (a : Int) : ∀ p q : Way, cmpWI (scaleW a p) (scaleW a q) = cmpW p q
  | [], [] => rfl
  | [], _ :: _ => rfl
  | _ :: _, [] => rfl
  | x :: r, y :: s => by
    have ih := cmpWI_scale a r s
    show (if (if cmpN (a + (x.1 : Int) * 1000) (a + (y.1 : Int) * 1000) = 0 then cmpN (a + (x.2 : Int) * 1000) (a + (y.2 : Int) * 1000) else cmpN (a + (x.1 : Int) * 1000) (a + (y.1 : Int) * 1000)) = 0 then cmpWI (scaleW a r) (scaleW a s) else _) = _
    rw [ih, cmpN_Z, cmpN_Z, cmpZ_shift, cmpZ_shift]
    rfl
theorem cmpCI_K (a : Int) (M : Nat → Int) (p q : Way) : cmpCI (costW M p) (1000 * (longW p : Int)) (costW M q) (1000 * (longW q : Int)) (scaleW a p) (scaleW a q) = cmpK M p q := by
  unfold cmpCI cmpK
  rw [orL_cons, orL_cons, orL_cons, orL1, cmpN_Z, cmpN_Z, cmpN_Z, cmpZ_scale, cmpWI_scale]
  rw [show (scaleW a p).length = p.length by simp [scaleW], show (scaleW a q).length = q.length by simp [scaleW]]

/-- A choice in memory; none: a nil pointer. -/
def ChoiceAt (base : Nat) (a : Int) (M : Nat → Int) (W : World) (u : Value) : Option Way → Prop
  | none => u = .pointer none
  | some r => ∃ (g : Nat) (s : Value), u = .pointer (some ⟨g, 0, none⟩) ∧ base ≤ g ∧ Blk W g 86 #[.int .i64 (costW M r), .int .i64 (1000 * (longW r : Int)), s] ∧ WinsFrom base W s (scaleW a r) ∧ (r = [] → s = .slice none 0 0)
theorem ChoiceAt.grown {base : Nat} {a : Int} {M : Nat → Int} {W W' : World} {u : Value} {o : Option Way} (h : ChoiceAt base a M W u o) {row : Option Nat} (hg : W.grownBy W' row) (hr : ∀ g, base ≤ g → some g ≠ row) : ChoiceAt base a M W' u o := by
  cases o with
  | none => exact h
  | some r =>
    obtain ⟨g, s, h1, h2, h3, h4, h5⟩ := h
    refine ⟨g, s, h1, h2, h3.grown hg (hr g h2), ?_, h5⟩
    refine World.ownsRow.kept h4 hg ?_
    cases hs : s.ownBlock with
    | none => exact .inl rfl
    | some k => exact .inr (hr k (World.ownsRow.lt h4 k hs).1)
theorem ChoiceAt.quiet {base : Nat} {a : Int} {M : Nat → Int} {W W' : World} {u : Value} {o : Option Way} (h : ChoiceAt base a M W u o) (hg : W.grownBy W' none) : ChoiceAt base a M W' u o := h.grown hg (fun _ _ => by simp)
theorem ChoiceAt.over {base bm : Nat} {a : Int} {M : Nat → Int} {W W' : World} {u : Value} {o : Option Way} (h : ChoiceAt base a M W u o) (hb : bm < base) (hg : W.grownBy W' (some bm)) : ChoiceAt base a M W' u o := h.grown hg (fun g hg e => by injection e with e; omega)

theorem fndLaid : laidOutB Try.prog = true := by kernel_rfl
theorem fndArr : Go.WideMaps.ArrKey Try.prog 88 3 2 := ⟨Try.underlying88, by kernel_rfl, by kernel_rfl, by kernel_rfl⟩
theorem fndLaw : Maps.Keyed Try.prog 88 := Maps.Keyed.of_law (deep_law_laid fndLaid (m := 2) (by omega) (of_decide_eq_true (by kernel_rfl)) (by kernel_rfl) (by rw [Try.underlying88]))
def fLit (x y : Int) : Lit := .string (keyBytes [.int .i64 x, .int .i64 y])
theorem fndKey (x y : Int) (hx : -1000000000000 ≤ x ∧ x ≤ 1000000000000) (hy : -1000000000000 ≤ y ∧ y ≤ 1000000000000) : keyOf Try.prog 88 (.agg #[.int .i64 x, .int .i64 y]) = some (fLit x y) :=
  Go.WideMaps.keyOf_pair fndArr Try.underlying3 ⟨Try.prog.types.size - 1, by have : 0 < Try.prog.types.size := of_decide_eq_true (by kernel_rfl); omega⟩ (WalkArith.wf_i64 ⟨by omega, by omega⟩) (WalkArith.wf_i64 ⟨by omega, by omega⟩)
theorem fnd_inj {x y x' y' : Int} (hx : -1000000000000 ≤ x ∧ x ≤ 1000000000000) (hy : -1000000000000 ≤ y ∧ y ≤ 1000000000000) (hx' : -1000000000000 ≤ x' ∧ x' ≤ 1000000000000) (hy' : -1000000000000 ≤ y' ∧ y' ≤ 1000000000000) (h : fLit x y = fLit x' y') : x = x' ∧ y = y' := by
  have h1 := fndLaw.inj (fndKey x y hx hy) (by rw [h]; exact fndKey x' y' hx' hy')
  simp only [Value.agg.injEq, Array.mk.injEq, List.cons.injEq, Value.int.injEq] at h1
  omega
/-- How a pointer to a choice reads. -/
def ptrR (v : Value) : Option (DataW Unit × List MemPlace) :=
  match v with
  | .pointer none => some (.lit (.int .i64 (-1)), [])
  | .pointer (some p) => if p.off = 0 ∧ p.spot = none then some (.lit (.int .i64 (p.block : Int)), []) else none
  | _ => none
theorem ptrR_nil : ptrR (.pointer none) = some (.lit (.int .i64 (-1)), []) := rfl
theorem ptrR_at (g : Nat) : ptrR (.pointer (some ⟨g, 0, none⟩)) = some (.lit (.int .i64 (g : Int)), []) := by simp [ptrR]
theorem ptrR_inv {v : Value} {d : DataW Unit} {ps : List MemPlace} (h : ptrR v = some (d, ps)) : (v = .pointer none ∧ d = .lit (.int .i64 (-1))) ∨ ∃ g : Nat, v = .pointer (some ⟨g, 0, none⟩) ∧ d = .lit (.int .i64 (g : Int)) := by
  cases v with
  | pointer p =>
    cases p with
    | none => rw [ptrR_nil] at h; injection h with h; injection h with h1 h2; exact .inl ⟨rfl, h1.symm⟩
    | some p =>
      obtain ⟨g, o, s⟩ := p
      by_cases hc : o = 0 ∧ s = none
      · obtain ⟨rfl, rfl⟩ := hc
        rw [ptrR_at] at h
        injection h with h
        injection h with h1 h2
        exact .inr ⟨g, rfl, h1.symm⟩
      · simp [ptrR, hc] at h
  | _ => simp [ptrR] at h
theorem ptrR_one {u v : Value} {d : DataW Unit} {ps qs : List MemPlace} (hu : ptrR u = some (d, ps)) (hv : ptrR v = some (d, qs)) : u = v := by
  rcases ptrR_inv hu with ⟨rfl, rfl⟩ | ⟨g, rfl, rfl⟩ <;> rcases ptrR_inv hv with ⟨rfl, h⟩ | ⟨g', rfl, h⟩
  · rfl
  · injection h with h; injection h with _ h; omega
  · injection h with h; injection h with _ h; omega
  · injection h with h; injection h with _ h; rw [show g = g' by omega]
theorem ChoiceAt.ptr {base : Nat} {a : Int} {M : Nat → Int} {W : World} {u : Value} {o : Option Way} (h : ChoiceAt base a M W u o) : ∃ d, ptrR u = some (d, []) := by
  cases o with
  | none => exact ⟨_, by rw [show u = _ from h]; rfl⟩
  | some r =>
    obtain ⟨g, s, rfl, _⟩ := h
    exact ⟨_, ptrR_at g⟩
/-- A map that holds right choices alone. -/
def MapC (base : Nat) (a : Int) (M : Nat → Int) (n L : Nat) (W : World) (bm cnt : Nat) : Prop :=
  ∃ D : DataW Unit, W.ownsMap Try.prog 88 ptrR bm cnt D ∧ Maps.IsMap D ∧ ∀ t k : Nat, t ≤ 1000 → k ≤ 1000 → Maps.has D (fLit (a + 1000 * (t : Int)) (1000 * (k : Int))) = true →
    ∃ u, ChoiceAt base a M W u (refD n L M (n + 1 - t) k) ∧ ptrR u = some (D.atKey (fLit (a + 1000 * (t : Int)) (1000 * (k : Int))) (.lit (.int .i64 (-1))), [])
section
variable {base n L : Nat} {a : Int} {M : Nat → Int}
theorem MapC.made (w : World) : MapC base a M n L (w.alloc (.map #[] 0)) w.heap.size 0 := ⟨_, World.ownsMap_made w _ _ _, Maps.isMap_empty, fun t k _ _ h => by cases h⟩
theorem MapC.kept {w w' : World} {bm cnt : Nat} (h : MapC base a M n L w bm cnt) {row : Option Nat} (hg : w.grownBy w' row) (hr : some bm ≠ row) (hr2 : ∀ g, base ≤ g → some g ≠ row) : MapC base a M n L w' bm cnt := by
  obtain ⟨D, h1, h2, h3⟩ := h
  refine ⟨D, h1.kept hg hr, h2, fun t k ht hk hh => ?_⟩
  obtain ⟨u, q1, q2⟩ := h3 t k ht hk hh
  exact ⟨u, q1.grown hg hr2, q2⟩
theorem MapC.quiet {w w' : World} {bm cnt : Nat} (h : MapC base a M n L w bm cnt) (hg : w.grownBy w' none) : MapC base a M n L w' bm cnt := h.kept hg (by simp) (fun _ _ => by simp)
theorem MapC.more {w : World} {bm cnt cnt' : Nat} (h : MapC base a M n L w bm cnt) (hn : cnt ≤ cnt') : MapC base a M n L w bm cnt' := by
  obtain ⟨D, ⟨es, cl, h1, h2, h3, h4⟩, h5⟩ := h
  exact ⟨D, ⟨es, cl, h1, h2, Nat.le_trans h3 hn, h4⟩, h5⟩
theorem MapC.look {w : World} {bm cnt : Nat} (h : MapC base a M n L w bm cnt) (ha : 0 ≤ a ∧ a ≤ 1000000) (t k : Nat) (ht : t ≤ 1000) (hk : k ≤ 1000) :
    (∃ v, (Instr.lookup 82 (.map (some bm)) (.agg #[.int .i64 (a + 1000 * (t : Int)), .int .i64 (1000 * (k : Int))]) true).run Try.prog w = .ok (.tuple #[v, .bool false]) w) ∨
    ∃ u, ChoiceAt base a M w u (refD n L M (n + 1 - t) k) ∧ (Instr.lookup 82 (.map (some bm)) (.agg #[.int .i64 (a + 1000 * (t : Int)), .int .i64 (1000 * (k : Int))]) true).run Try.prog w = .ok (.tuple #[u, .bool true]) w := by
  obtain ⟨D, h1, h2, h3⟩ := h
  obtain ⟨v, ps, hrun, hv⟩ := h1.look_ok fndLaw Try.underlying82 (z := .pointer none) (by kernel_rfl) ptrR_nil (fndKey (a + 1000 * (t : Int)) (1000 * (k : Int)) (by omega) (by omega))
  cases hh : Maps.has D (fLit (a + 1000 * (t : Int)) (1000 * (k : Int)))
  · rw [hh] at hrun
    exact .inl ⟨v, hrun⟩
  · rw [hh] at hrun
    obtain ⟨u, q1, q2⟩ := h3 t k ht hk hh
    rw [ptrR_one hv q2] at hrun
    exact .inr ⟨u, q1, hrun⟩
theorem MapC.put {w : World} {bm cnt : Nat} (h : MapC base a M n L w bm cnt) (hb : bm < base) (hn : cnt < maxLen) (ha : 0 ≤ a ∧ a ≤ 1000000) (t k : Nat) (ht : t ≤ 1000) (hk : k ≤ 1000) (u : Value) (hu : ChoiceAt base a M w u (refD n L M (n + 1 - t) k)) :
    ∃ w', (Instr.mapUpdate 82 (.map (some bm)) (.agg #[.int .i64 (a + 1000 * (t : Int)), .int .i64 (1000 * (k : Int))]) u).run Try.prog w = .ok () w' ∧ MapC base a M n L w' bm (cnt + 1) ∧ w.grownBy w' (some bm) := by
  obtain ⟨D, h1, h2, h3⟩ := h
  obtain ⟨d, hd⟩ := hu.ptr
  obtain ⟨w', hrun, ho, hg⟩ := h1.update fndLaw Try.underlying82 hn (fndKey (a + 1000 * (t : Int)) (1000 * (k : Int)) (by omega) (by omega)) hd
  refine ⟨w', hrun, ⟨_, ho, h2.put _ _, fun t' k' ht' hk' hh => ?_⟩, hg⟩
  by_cases e : t = t' ∧ k = k'
  · obtain ⟨rfl, rfl⟩ := e
    refine ⟨u, hu.over hb hg, ?_⟩
    rw [Maps.atKey_put_same h2 (k := fLit (a + 1000 * (t : Int)) (1000 * (k : Int))) (by trivial)]
    exact hd
  · have hne : fLit (a + 1000 * (t' : Int)) (1000 * (k' : Int)) ≠ fLit (a + 1000 * (t : Int)) (1000 * (k : Int)) := fun e2 => e (by obtain ⟨h4, h5⟩ := fnd_inj (by omega) (by omega) (by omega) (by omega) e2; omega)
    rw [Maps.has_put_other hne] at hh
    obtain ⟨u', q1, q2⟩ := h3 t' k' ht' hk' hh
    refine ⟨u', q1.over hb hg, ?_⟩
    rw [Maps.atKey_put_other hne]
    exact q2
end
/-- The closure's variables, and the map. -/
structure FM (base0 base xr xw xk xf xl bm cnt n L : Nat) (a z ls : Int) (M : Nat → Int) (v F : Value) (l : List Int) (W : World) : Prop where
  cr : W.cell? ⟨xr, 1, none⟩ = some (.int .i64 ls)
  cw : W.cell? ⟨xw, 1, none⟩ = some (.int .i64 z)
  ck : W.cell? ⟨xk, 0, none⟩ = some (.map (some bm))
  cf : W.cell? ⟨xf, 0, none⟩ = some F
  cl : W.cell? ⟨xl, 0, none⟩ = some v
  il : IntsFrom base0 W v l
  mp : MapC base a M n L W bm cnt
section
variable {base0 base xr xw xk xf xl bm cnt n L : Nat} {a z ls : Int} {M : Nat → Int} {v F : Value} {l : List Int} {W W' : World}
theorem FM.quiet (h : FM base0 base xr xw xk xf xl bm cnt n L a z ls M v F l W) (hg : W.grownBy W' none) : FM base0 base xr xw xk xf xl bm cnt n L a z ls M v F l W' :=
  ⟨cell_stay h.cr hg (by simp), cell_stay h.cw hg (by simp), cell_stay h.ck hg (by simp), cell_stay h.cf hg (by simp), cell_stay h.cl hg (by simp), h.il.grown hg, h.mp.quiet hg⟩
theorem FM.more (h : FM base0 base xr xw xk xf xl bm cnt n L a z ls M v F l W) {cnt' : Nat} (hn : cnt ≤ cnt') : FM base0 base xr xw xk xf xl bm cnt' n L a z ls M v F l W :=
  ⟨h.cr, h.cw, h.ck, h.cf, h.cl, h.il, h.mp.more hn⟩
theorem FM.turned (h : FM base0 base xr xw xk xf xl bm cnt n L a z ls M v F l W) (hg : W.grownBy W' (some bm)) (h1 : xr ≠ bm) (h2 : xw ≠ bm) (h3 : xk ≠ bm) (h4 : xf ≠ bm) (h5 : xl ≠ bm) (hv : v.ownBlock ≠ some bm) {cnt' : Nat} (hm : MapC base a M n L W' bm cnt') : FM base0 base xr xw xk xf xl bm cnt' n L a z ls M v F l W' :=
  ⟨cell_stay h.cr hg (by simpa using h1), cell_stay h.cw hg (by simpa using h2), cell_stay h.ck hg (by simpa using h3), cell_stay h.cf hg (by simpa using h4), cell_stay h.cl hg (by simpa using h5), ints_off h.il hg hv, hm⟩
end
end Go.Proofs.Ytlbhphfmckhimaa
