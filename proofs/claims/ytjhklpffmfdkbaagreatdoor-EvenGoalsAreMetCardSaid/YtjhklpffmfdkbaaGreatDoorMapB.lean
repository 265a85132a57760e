/- A map from bytes to strings that the program has made, as a list of pairs of which the last one counts. No condition. -/
import Derived.Test.YtjhklpffmfdkbaaGreatDoorKeyPlain
import Derived.Maps.OwnOps
import Derived.Maps.Views
import Derived.Maps.StringElems
namespace Go.Proofs.YtjhklpffmfdkbaaGreatDoor
open Go.RowKit
set_option linter.unusedVariables false

/-- What a list of pairs says of a byte: the last one counts. -/
def look (l : List (UInt8 × List UInt8)) (c : UInt8) : List UInt8 := l.foldl (fun acc p => if p.1 = c then p.2 else acc) []
theorem look_snoc (l : List (UInt8 × List UInt8)) (x : UInt8) (y : List UInt8) (c : UInt8) : look (l ++ [(x, y)]) c = if x = c then y else look l c := by simp [look]
theorem look_codes (c : UInt8) : look codeT c = codeOf c := by
  have h : ∀ n : Fin 256, look codeT (UInt8.ofNat n.val) = codeOf (UInt8.ofNat n.val) := by decide +kernel
  have := h ⟨c.toNat, c.toNat_lt⟩
  simpa using this

def MapB (w : World) (bm n : Nat) (l : List (UInt8 × List UInt8)) : Prop :=
  ∃ D : DataW Unit, w.ownsMap Tryz.prog 5 (plainElem Tryz.prog 9) bm n D ∧ Maps.IsMap D ∧ ∀ c : UInt8, D.atKey (.int .u8 c.toNat) (.lit (.string [])) = .lit (.string (look l c))
theorem MapB.lt {w : World} {bm n : Nat} {l : List (UInt8 × List UInt8)} (h : MapB w bm n l) : bm < w.heap.size := by obtain ⟨D, h1, _⟩ := h; exact h1.lt
theorem MapB.made (w : World) : MapB (w.alloc (.map #[] 0)) w.heap.size 0 [] := ⟨_, World.ownsMap_made w _ _ _, Maps.isMap_empty, fun c => rfl⟩
theorem MapB.kept {w w' : World} {bm n : Nat} {l : List (UInt8 × List UInt8)} (h : MapB w bm n l) {row : Option Nat} (hg : w.grownBy w' row) (hr : some bm ≠ row) : MapB w' bm n l := by
  obtain ⟨D, h1, h2, h3⟩ := h
  exact ⟨D, h1.kept hg hr, h2, h3⟩
theorem MapB.quiet {w w' : World} {bm n : Nat} {l : List (UInt8 × List UInt8)} (h : MapB w bm n l) (hg : w.grownBy w' none) : MapB w' bm n l := h.kept hg (by simp)
theorem u8_wf (c : UInt8) : (Lit.int .u8 (c.toNat : Int)).wf = true := by
  have := c.toNat_lt
  simp [Lit.wf, IntKind.min, IntKind.max, IntKind.signed, IntKind.bits]
  omega
theorem u8_key (c : UInt8) : keyOf Tryz.prog 5 (.int .u8 (c.toNat : Int)) = some (.int .u8 (c.toNat : Int)) := Maps.keyOf_int_mk Tryz.underlying5 (u8_wf c)
theorem MapB.look {w : World} {bm n : Nat} {l : List (UInt8 × List UInt8)} (h : MapB w bm n l) (c : UInt8) :
    (Instr.lookup 130 (.map (some bm)) (.int .u8 (c.toNat : Int)) false).run Tryz.prog w = .ok (.string ⟨(look l c).toArray⟩) w := by
  obtain ⟨D, h1, h2, h3⟩ := h
  obtain ⟨v, ps, hrun, hv⟩ := h1.lookup (Maps.int_keyed Tryz.underlying5) Tryz.underlying130 (z := .string ⟨#[]⟩) (by kernel_rfl) (plainElem_string Tryz.underlying9 (by decide)) (u8_key c)
  rw [show (⟨#[]⟩ : ByteArray).data.toList = [] from rfl, h3 c] at hv
  obtain ⟨s, rfl, hs, _⟩ := plainElem_string_inv Tryz.underlying9 hv
  simp only [Prod.mk.injEq, DataW.lit.injEq, Lit.string.injEq] at hs
  rw [hs.1]
  exact hrun
theorem MapB.put {w : World} {bm n : Nat} {l : List (UInt8 × List UInt8)} (h : MapB w bm n l) (hn : n ≤ 1000000) (x : UInt8) (y : List UInt8) (hy : y.length ≤ 1000000) :
    ∃ w', (Instr.mapUpdate 130 (.map (some bm)) (.int .u8 (x.toNat : Int)) (.string ⟨y.toArray⟩)).run Tryz.prog w = .ok () w' ∧ MapB w' bm (n + 1) (l ++ [(x, y)]) ∧ w.grownBy w' (some bm) := by
  obtain ⟨D, h1, h2, h3⟩ := h
  obtain ⟨w', hrun, ho, hg⟩ := h1.update (Maps.int_keyed Tryz.underlying5) Tryz.underlying130 (by unfold maxLen; omega) (u8_key x) (plainElem_string (s := ⟨y.toArray⟩) Tryz.underlying9 (by unfold maxLen; show y.toArray.size ≤ _; simp; omega))
  refine ⟨w', hrun, ⟨_, ho, h2.put _ _, fun c => ?_⟩, hg⟩
  rw [look_snoc]
  by_cases e : x = c
  · subst e
    rw [if_pos rfl, Maps.atKey_put_same h2 (k := .int .u8 x.toNat) (by trivial)]
  · rw [if_neg e, Maps.atKey_put_other (by
      intro h
      injection h with _ h
      exact e (UInt8.toNat_inj.1 (by omega)).symm), h3 c]

/-- The update, as the last step of a region. -/
theorem step_mapB {w : World} {ops : Array Oper} {o : Oper} {a : Act} {K : Act → World → Prop} {Q : Exit → Act → World → Prop} {E : Prop} (hgd : o.guard = none) (m x v : Operand)
    (ho : o.op = Op.mapUpdate 130 m x v) (bm n : Nat) (l : List (UInt8 × List UInt8)) (p : UInt8) (y : List UInt8)
    (hm : a.eval m = .map (some bm)) (hx : a.eval x = .int .u8 (p.toNat : Int)) (hv : a.eval v = .string ⟨y.toArray⟩) (h : MapB w bm n l) (hn : n ≤ 1000000) (hy : y.length ≤ 1000000)
    (hK : ∀ w', MapB w' bm (n + 1) (l ++ [(p, y)]) → w.grownBy w' (some bm) → K (a.put o.dst undef) w') : if Region.wanted o (yielded ops a.tmps) = true then Oper.wp Tryz.prog o a w K Q else E := by
  have hw : Region.wanted o (yielded ops a.tmps) = true := by simp [Region.wanted, hgd]
  rw [if_pos hw]
  obtain ⟨w', hrun, h1, h2⟩ := h.put hn p y hy
  unfold Oper.wp
  simp [execOp, ho, hm, hx, hv, hrun, Result.andThen]
  exact hK w' h1 h2
end Go.Proofs.YtjhklpffmfdkbaaGreatDoor
