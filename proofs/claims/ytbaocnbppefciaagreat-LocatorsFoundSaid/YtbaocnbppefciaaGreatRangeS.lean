/- A range over a map from strings to numbers that the program has made: whatever the order, each key once. No condition. -/
import Derived.Test.YtbaocnbppefciaaGreatMapS
import Derived.Sort.KeysCollected
namespace Go.Proofs.YtbaocnbppefciaaGreat
open Go.RowKit
open Go.Maps (Keyed)
set_option linter.unusedVariables false

theorem sum_perm {l m : List Int} (h : l.Perm m) : l.sum = m.sum := by
  induction h with
  | nil => rfl
  | cons x _ ih => simp [ih]
  | swap x y l => simp only [List.sum_cons]; omega
  | trans _ _ ih1 ih2 => exact ih1.trans ih2
theorem sum_erase (f : List UInt8 → Int) {l : List (List UInt8)} {k : List UInt8} (h : k ∈ l) : (l.map f).sum = f k + ((l.erase k).map f).sum := by
  have := sum_perm ((List.perm_cons_erase h).map f)
  rw [this]
  rfl
/-- The range under way: 'todo' are the keys that are still to come. -/
def RangeS (w : World) (bm r n : Nat) (l : List (List UInt8 × Int)) (todo : List (List UInt8)) (cnt : Nat) : Prop :=
  ∃ (D : DataW Unit) (left : Lit → Bool), w.ranges Tryz.prog 9 (plainElem Tryz.prog 3) bm r n D left cnt ∧ (∀ k, D.atKey (.string k) (.lit (.int .i64 0)) = .lit (.int .i64 (valS l k))) ∧
    (∀ k, left (.string k) = decide (k ∈ todo)) ∧ todo.Nodup ∧ MapS w bm n l
theorem RangeS.map {w : World} {bm r n : Nat} {l : List (List UInt8 × Int)} {todo : List (List UInt8)} {cnt : Nat} (h : RangeS w bm r n l todo cnt) : MapS w bm n l := by obtain ⟨D, left, _, _, _, _, h⟩ := h; exact h
theorem RangeS.left_eq {w : World} {bm r n : Nat} {l : List (List UInt8 × Int)} {todo : List (List UInt8)} {cnt : Nat} (h : RangeS w bm r n l todo cnt) : w.rangeLeft bm r = cnt := by obtain ⟨D, left, h, _⟩ := h; exact h.left_eq
theorem strS {D : DataW Unit} (s : ByteArray) : s.data.toList = s.data.toList := rfl

theorem wpList_nextS (w : World) {ops : Array Oper} {rest : List Oper} {o : Oper} {a : Act} {Q : Exit → Act → World → Prop} (hg : o.guard = none) (it : Operand) (hop : o.op = Op.next it false) (bm r n : Nat) (l : List (List UInt8 × Int)) (todo : List (List UInt8)) (cnt : Nat)
    (hit : a.eval it = .pointer (some ⟨r, 0, none⟩)) (h : RangeS w bm r n l todo cnt)
    (hDone : todo = [] → wpList Tryz.prog ops Q rest (a.put o.dst (.tuple #[.bool false])) w)
    (hMore : ∀ (s : ByteArray) (w' : World) (cnt' : Nat), s.data.toList ∈ todo → RangeS w' bm r n l (todo.erase s.data.toList) cnt' → cnt' < cnt → w.grownBy w' (some r) →
      (Instr.entry (.pointer (some ⟨r, 0, none⟩))).run Tryz.prog w' = .ok (.tuple #[.string s, .int .i64 (valS l s.data.toList)]) w' → wpList Tryz.prog ops Q rest (a.put o.dst (.tuple #[.bool true, .string s, .int .i64 (valS l s.data.toList)])) w') :
    wpList Tryz.prog ops Q (o :: rest) a w := by
  obtain ⟨D, left, h1, h3, h4, h5, h6⟩ := h
  refine wpList_next_ranges w hg it hop 9 strK (plainElem Tryz.prog 3) Value.string (Value.int .i64) (fun key kl hk => by
      obtain ⟨x, hx, _⟩ := Maps.keyOf_str Tryz.underlying9 hk
      exact ⟨_, hx⟩) (fun v y hv => by obtain ⟨c, rfl, _⟩ := plainElem_int_inv Tryz.underlying3 hv; exact ⟨c, rfl⟩) bm r n D left cnt hit h1 ?_ ?_
  · intro _ hl
    refine hDone (List.eq_nil_iff_forall_not_mem.2 fun k hk => ?_)
    have := h4 k
    rw [hl] at this
    simp [hk] at this
  · intro s c kl y w' cnt' hkey hlk hy hat hr hlt hgr hsz hen
    obtain ⟨x, hx, hkl, _⟩ := Maps.keyOf_str Tryz.underlying9 hkey
    have hs : s.data.toList = x := by
      have : Value.string s = encStr x := hx
      simp only [encStr, Value.string.injEq] at this
      rw [this]
    subst hkl
    obtain ⟨c', ec, rfl, hwc⟩ := plainElem_int_inv Tryz.underlying3 hy
    cases ec
    have hc : c = valS l s.data.toList := by
      have := (hat (.lit (.int .i64 0))).symm.trans (h3 x)
      simp only [DataW.lit.injEq, Lit.int.injEq, true_and] at this
      rw [hs]
      exact this
    subst hc
    have hmem : s.data.toList ∈ todo := by
      have := h4 x
      rw [hlk] at this
      rw [hs]
      simpa using this.symm
    have hne := h1.ne
    refine hMore s w' cnt' hmem ⟨D, _, hr, h3, fun k => ?_, h5.erase _, h6.kept hgr (fun e => by injection e with e; exact hne e.symm)⟩ hlt hgr hen
    rw [h4, hs]
    by_cases e : k = x
    · subst e
      have hn : ¬ k ∈ todo.erase k := fun h => (h5.mem_erase_iff.1 h).1 rfl
      simp [hn, Lit.sameKey]
    · have e2 : (Lit.string k).sameKey (.string x) = false := Maps.sameKey_ne (fun h => e (by injection h))
      have hn : k ∈ todo.erase x ↔ k ∈ todo := by rw [h5.mem_erase_iff]; simp [e]
      rw [e2]
      simp [hn]
end Go.Proofs.YtbaocnbppefciaaGreat
