/- The signs with their codes, as bytes; a slice of signs with codes, as a list of pairs. No condition. What the walks ask of package-level variables: MaxLen holds a number, asciiSpace is Go's own table. No condition. The walk over key.Codes: the forty signs with their codes, in new memory. Condition: asciiSpace is Go's own table. A map from bytes to strings that the program has made, as a list of pairs of which the last one counts. No condition. The walk over key.byBytes: a map from the forty signs to their codes, in new memory. Condition: asciiSpace is Go's own table. -/
import Derived.Test.YtlbhphfmckhimaaDoorInts
import Derived.Lib.Fields
import Derived.Test.YtlbhphfmckhimaaDoorBase
import Derived.Test.YtlbhphfmckhimaaDoorShelf
import Derived.Lib.SmallJoins
import Derived.Deep.AppendLies
import Derived.Deep.RegionHeld3
import Derived.Maps.OwnOps
import Derived.Maps.Views
import Derived.Maps.StringElems
namespace Go.Proofs.YtlbhphfmckhimaaDoor
open Go.RowKit
set_option linter.unusedVariables false

/-- The forty signs, each with its code. -/
def codeT : List (UInt8 × List UInt8) := [
  (97, [46, 45]), (98, [45, 46, 46, 46]), (99, [45, 46, 45, 46]), (100, [45, 46, 46]), (101, [46]), (102, [46, 46, 45, 46]), (103, [45, 45, 46]), (104, [46, 46, 46, 46]),
  (105, [46, 46]), (106, [46, 45, 45, 45]), (107, [45, 46, 45]), (108, [46, 45, 46, 46]), (109, [45, 45]), (110, [45, 46]), (111, [45, 45, 45]), (112, [46, 45, 45, 46]),
  (113, [45, 45, 46, 45]), (114, [46, 45, 46]), (115, [46, 46, 46]), (116, [45]), (117, [46, 46, 45]), (118, [46, 46, 46, 45]), (119, [46, 45, 45]), (120, [45, 46, 46, 45]),
  (121, [45, 46, 45, 45]), (122, [45, 45, 46, 46]), (48, [45, 45, 45, 45, 45]), (49, [46, 45, 45, 45, 45]), (50, [46, 46, 45, 45, 45]), (51, [46, 46, 46, 45, 45]), (52, [46, 46, 46, 46, 45]), (53, [46, 46, 46, 46, 46]),
  (54, [45, 46, 46, 46, 46]), (55, [45, 45, 46, 46, 46]), (56, [45, 45, 45, 46, 46]), (57, [45, 45, 45, 45, 46]), (47, [45, 46, 46, 45, 46]), (63, [46, 46, 45, 45, 46, 46]), (61, [45, 46, 46, 46, 45]), (43, [46, 45, 46, 45, 46])]
theorem codeT_len : codeT.length = 40 := by decide +kernel
/-- The code of a byte; empty: it is no sign. -/
def codeOf (c : UInt8) : List UInt8 := ((codeT.find? fun p => p.1 == c).map (·.2)).getD []

def wdL (l : List (UInt8 × List UInt8)) : List (List UInt8) := l.flatMap fun p => [[p.1], p.2]
def wdCells (l : List (UInt8 × List UInt8)) : List Value := l.flatMap fun p => [.string ⟨#[p.1]⟩, .string ⟨p.2.toArray⟩]
theorem wdCells_len (l : List (UInt8 × List UInt8)) : (wdCells l).length = l.length * 2 := by
  induction l with
  | nil => rfl
  | cons p r ih => simp only [wdCells, List.flatMap_cons, List.length_append, List.length_cons, List.length_nil] at ih ⊢; omega
theorem wdCells_snoc (l : List (UInt8 × List UInt8)) (x : UInt8) (y : List UInt8) : wdCells (l ++ [(x, y)]) = wdCells l ++ [.string ⟨#[x]⟩, .string ⟨y.toArray⟩] := by
  simp [wdCells]
theorem wdCells_at (l : List (UInt8 × List UInt8)) (k : Nat) (h : k < l.length) : (wdCells l)[k * 2]? = some (.string ⟨#[l[k].1]⟩) ∧ (wdCells l)[k * 2 + 1]? = some (.string ⟨l[k].2.toArray⟩) := by
  induction l generalizing k with
  | nil => simp at h
  | cons p r ih =>
    have e : wdCells (p :: r) = .string ⟨#[p.1]⟩ :: .string ⟨p.2.toArray⟩ :: wdCells r := rfl
    rw [e]
    cases k with
    | zero => simp
    | succ k =>
      have := ih k (by simpa using h)
      rw [show (k + 1) * 2 = k * 2 + 1 + 1 from by omega]
      simpa using this
theorem wdCells_of (l : List (UInt8 × List UInt8)) : (wdL l).map (fun x => Value.string ⟨x.toArray⟩) = wdCells l := by
  induction l with
  | nil => rfl
  | cons p r ih => simp only [wdL, wdCells, List.flatMap_cons, List.map_append] at ih ⊢; rw [ih]; rfl

/-- Is this the text of the table? -/
def tabOK (s : ByteArray) : Bool := decide (s.size < 100000) && s.data.toList.all (fun b => decide (b.toNat < 128)) && (Lib.fields s.data.toList == wdL codeT)
theorem tabOK_is {s : ByteArray} (h : tabOK s = true) : s.size < 4294967281 ∧ (∀ (j : Nat) b, s.data.toList[j]? = some b → b.toNat < 128) ∧ Lib.fields s.data.toList = wdL codeT := by
  unfold tabOK at h
  rw [Bool.and_eq_true, Bool.and_eq_true, decide_eq_true_eq, List.all_eq_true, beq_iff_eq] at h
  obtain ⟨⟨h1, h2⟩, h3⟩ := h
  exact ⟨by omega, fun j b hb => by simpa using h2 b (List.mem_of_getElem? hb), h3⟩

/-- The signs with codes of a slice, that lies in a block from base on. -/
def SgnFrom (base : Nat) (w : World) (v : Value) (l : List (UInt8 × List UInt8)) : Prop := w.ownsRow base 105 2 v l.length (wdCells l)
theorem SgnFrom.low {base base' : Nat} {w : World} {v : Value} {l : List (UInt8 × List UInt8)} (h : SgnFrom base w v l) (hb : base' ≤ base) : SgnFrom base' w v l := ownsRow_low h hb
theorem SgnFrom.grown {base : Nat} {w w' : World} {v : Value} {l : List (UInt8 × List UInt8)} (h : SgnFrom base w v l) (hg : w.grownBy w' none) : SgnFrom base w' v l := ownsRow_grown h hg
theorem SgnFrom.other {base b : Nat} {w w' : World} {v : Value} {l : List (UInt8 × List UInt8)} (h : SgnFrom base w v l) (hg : w.grownBy w' (some b)) (hb : b < base) : SgnFrom base w' v l := ownsRow_other h hg hb
theorem SgnFrom.nil (base : Nat) (w : World) : SgnFrom base w (.slice none 0 0) [] := World.ownsRow_nil _ _ _ _
theorem SgnFrom.shape {base : Nat} {w : World} {v : Value} {l : List (UInt8 × List UInt8)} (h : SgnFrom base w v l) :
    ∃ A c, v = .slice A l.length c ∧ l.length ≤ 9223372036854775807 ∧ (0 < l.length → ∃ g, A = some ⟨g, 0, none⟩ ∧ base ≤ g ∧ g < w.heap.size) := ownsRow_shape h
theorem SgnFrom.at1 {base : Nat} {w : World} {g c : Nat} {l : List (UInt8 × List UInt8)} (h : SgnFrom base w (.slice (some ⟨g, 0, none⟩) l.length c) l) (k : Nat) (hk : k < l.length) : w.cell? ⟨g, k * 2, none⟩ = some (.string ⟨#[l[k].1]⟩) ∧ w.cell? ⟨g, k * 2 + 1, none⟩ = some (.string ⟨l[k].2.toArray⟩) := by
  have hc := wdCells_at l k hk
  rw [World.ownsRow.cellAt h (k * 2) (by omega), World.ownsRow.cellAt h (k * 2 + 1) (by omega)]
  exact hc

theorem sgnInfo : (Tryd.prog.info? 105).map (fun i => (i.zero, i.size, i.bytes)) = some (some (.agg #[.string ⟨#[]⟩, .string ⟨#[]⟩]), 2, 32) := by kernel_rfl
theorem cells_new (w : World) (cs : List Value) (t : TypeId) : ∀ j u, cs[j]? = some u → (w.alloc (.cells cs.toArray t)).cell? ((⟨w.heap.size, 0, none⟩ : Addr).add j) = some u := by
  intro j u hu
  have hb := (Blk.new w t cs.toArray).cell j
  have hadd : (⟨w.heap.size, 0, none⟩ : Addr).add j = ⟨w.heap.size, j, none⟩ := by unfold Addr.add; split <;> simp_all
  rw [hadd, hb]
  simpa using hu
theorem two_one (x y : ByteArray) : ∀ u ∈ [Value.string x, .string y], u.oneCell' = true := by
  intro u hu; simp at hu; rcases hu with rfl | rfl <;> rfl
end Go.Proofs.YtlbhphfmckhimaaDoor

namespace Go.Proofs.YtlbhphfmckhimaaDoor
open Go.RowKit
set_option linter.unusedVariables false

/-- The variables, in blocks ahead of block b. -/
structure Gl (b : Nat) (w : World) : Prop where
  mx : ∃ m : Int, w.cell? ⟨0, 0, none⟩ = some (.int .i64 m)
  sp : Lib.TabIs Tryd.prog w "strings.asciiSpace" .u8 Lib.asciiSpaceTab
  lm : 0 < b
  ls : 1 < b
  lb : b ≤ w.heap.size
theorem tab_grown {w w' : World} {row : Option Nat} {g : Nat} {n : String} {k : IntKind} {zs : List Int} (hn : Tryd.prog.globalNamed n = some g) (h : Lib.TabIs Tryd.prog w n k zs) (hg : w.grownBy w' row) (hb : g < w.heap.size) (hr : some g ≠ row) : Lib.TabIs Tryd.prog w' n k zs := by
  unfold Lib.TabIs World.var? at h ⊢
  rw [hn] at h ⊢
  simp only [Option.bind_some] at h ⊢
  rw [hg.block g hb hr]
  exact h
theorem Gl.grown {b : Nat} {w w' : World} {row : Option Nat} (h : Gl b w) (hg : w.grownBy w' row) (hr : ∀ g, row = some g → b ≤ g) : Gl b w' := by
  obtain ⟨⟨m, hm⟩, hs, h1, h2, h3⟩ := h
  refine ⟨⟨m, ?_⟩, tab_grown (by kernel_rfl) hs hg (Nat.lt_of_lt_of_le h2 h3) (fun e => by have h9 : b ≤ 1 := hr _ e.symm; omega), h1, h2, Nat.le_trans h3 hg.size⟩
  exact (World.cell?_of_block (hg.block _ (Nat.lt_of_lt_of_le h1 h3) (fun e => by have h9 : b ≤ 0 := hr _ e.symm; omega))).trans hm
theorem Gl.quiet {b : Nat} {w w' : World} (h : Gl b w) (hg : w.grownBy w' none) : Gl b w' := h.grown hg (by simp)
end Go.Proofs.YtlbhphfmckhimaaDoor

namespace Go.Proofs.YtlbhphfmckhimaaDoor
open Go.RowKit
set_option linter.unusedVariables false

theorem fields_tab (s : ByteArray) (w : World) (h : tabOK s = true) (hs : Lib.TabIs Tryd.prog w "strings.asciiSpace" .u8 Lib.asciiSpaceTab) :
    Calls Tryd.prog 72 #[.string s] w fun e w' => e = .returned (.slice (some ⟨w.heap.size, 0, none⟩) 80 80) ∧ w' = w.alloc (.cells (wdCells codeT).toArray 9) := by
  obtain ⟨h1, h2, h3⟩ := tabOK_is h
  refine (Tryd.strings_Fields s w h1 h2 hs).mono ?_
  rintro e w' ⟨he, hw⟩
  rw [h3] at he hw
  rw [wdCells_of] at hw
  exact ⟨he, hw⟩

def SgnPost (l : List (UInt8 × List UInt8)) (w : World) (e : Ending) (w' : World) : Prop := ∃ v, e = .returned v ∧ SgnFrom w.heap.size w' v l ∧ w.grownBy w' none

set_option maxRecDepth 100000 in
set_option maxHeartbeats 2000000 in
theorem codes_any (b : Nat) (w : World) (hgl : Gl b w) :
    Calls Tryd.prog 66 #[] w (SgnPost codeT w) := by
  have HGL := Lib.hid hgl
  clear hgl
  obtain ⟨i0, hi, hz0, hz1, hz2⟩ := info_parts sgnInfo
  go_enter Tryd.func66, Tryd.ntmps66
  go_wp2_with fail
  refine (fields_tab _ _ (by kernel_rfl) HGL.out.sp).mono ?_
  rintro _ w1 ⟨rfl, hw1⟩
  have hG1 : w.grownBy w1 none := by rw [hw1]; exact World.grownBy_alloc w _ none
  have hW1 : Blk w1 w.heap.size 9 (wdCells codeT).toArray := by rw [hw1]; exact Blk.new _ _ _
  have HW1 := Lib.hid hw1
  clear hw1
  go_wp2_with fail
  go_loopw [2, 3] (fun o i wr => ∃ k j : Nat, k ≤ 40 ∧ Hid (j = k * 2) ∧ j ≤ 80 ∧ i = .int .i64 j ∧ SgnFrom w1.heap.size wr o (codeT.take k) ∧ w1.grownBy wr none) (fun _ i _ => 82 - (intOf i).toNat)
  case atStart => exact ⟨0, 0, by omega, rfl, by omega, rfl, SgnFrom.nil _ _, gr_refl _ _⟩
  case round =>
    obtain ⟨k, j, hk, HJ, hj, rfl, hown, hgr⟩ := hrel
    have hlen : (codeT.take k).length = k := by rw [List.length_take, codeT_len]; omega
    have hown1 : wr.ownsRow w1.heap.size 105 2 u2 k (wdCells (codeT.take k)) := by
      have h := hown
      unfold SgnFrom at h
      rwa [hlen] at h
    clear hown
    obtain ⟨A2, c2, rfl, hk9, hA2⟩ := ownsRow_shape hown1
    by_cases hlt : k < 40
    · have hkl : k < codeT.length := by rw [codeT_len]; exact hlt
      have hat1 := wdCells_at codeT k hkl
      have htk : codeT.take (k + 1) = codeT.take k ++ [(codeT[k].1, codeT[k].2)] := by
        rw [List.take_succ_eq_append_getElem hkl]
      obtain ⟨x, hx⟩ : ∃ x, codeT[k].1 = x := ⟨_, rfl⟩
      obtain ⟨y, hy⟩ : ∃ y, codeT[k].2 = y := ⟨_, rfl⟩
      rw [hx, hy] at hat1 htk
      have HJ2 := HJ.out
      rw [← HJ2] at hat1
      have KX : Hid (∀ W' : World, w1.grownBy W' none → W'.cell? ⟨w.heap.size, j, none⟩ = some (.string ⟨#[x]⟩) ∧ W'.cell? ⟨w.heap.size, j + 1, none⟩ = some (.string ⟨y.toArray⟩) ∧ w1.grownBy W' none) :=
        fun W' hW => ⟨((hW1.grown hW (by simp)).cell j).trans (by simpa using hat1.1), ((hW1.grown hW (by simp)).cell (j + 1)).trans (by simpa using hat1.2), hW⟩
      have HT := Lib.hid htk
      have HO := Lib.hid hown1
      obtain ⟨q1, q2, -⟩ := KX.out wr hgr
      have hj1 : (j : Int) < 80 := by omega
      have hj2 : (j : Int) + 1 < 80 := by omega
      have hj3 : (0 : Int) ≤ (j : Int) + 1 := by omega
      have hj4 : j < 80 := by omega
      have hj5 : j + 1 < 80 := by omega
      have e1 : IntKind.i64.wrap ((j : Int) + 1) = (j : Int) + 1 := IntWalk.i64_in _ ⟨by omega, by omega⟩
      have e2 : ((j : Int) + 1).toNat = j + 1 := by omega
      have hzw := hgr.size
      clear hat1 htk hx hy HJ2 hown1 hlen hA2
      go_wp2_with fail
      go_region_held3 (fun W' => W'.cell? ⟨w.heap.size, j, none⟩ = some (.string ⟨#[x]⟩) ∧ W'.cell? ⟨w.heap.size, j + 1, none⟩ = some (.string ⟨y.toArray⟩) ∧ w1.grownBy W' none)
        ((exact KX.out _ (by first | exact gr_grown (show w1.grownBy _ none from (by repeat (first | exact gr_refl _ _ | assumption | refine gr_alloc ?_ _ | refine gr_drewN ?_ _ | refine gr_drew ?_))) hgq (fun kk h => .inr (HO.out.lt kk h).1) | exact (by repeat (first | exact gr_refl _ _ | assumption | refine gr_alloc ?_ _ | refine gr_drewN ?_ _ | refine gr_drew ?_)))))
        ((refine step_append_lies _ (by rfl) (.tmp 11) (.tmp 22) 102 (by rfl) w1.heap.size 105 i0 _ 2 32 Tryd.underlying102 hi hz0 hz1 hz2 rfl (by decide) _ k (wdCells (codeT.take k)) (by simp [Act.eval]) (World.ownsRow.alloc (show World.ownsRow _ w1.heap.size 105 2 _ k (wdCells (codeT.take k)) from HO.out) _) ⟨_, 0, none⟩ 1 1 [.string ⟨#[x]⟩, .string ⟨y.toArray⟩] (by simp [Act.eval]) rfl (cells_new _ _ _) (two_one _ _) (by decide) (by unfold maxLen; omega) (by omega) (by simp; omega) _ rfl ?_; intro gq cap w9 hqq hgq hat hglt))
      have hgF : w1.grownBy w9 none := gr_grown (show w1.grownBy _ none from (by repeat (first | exact gr_refl _ _ | assumption | refine gr_alloc ?_ _ | refine gr_drewN ?_ _ | refine gr_drew ?_))) hgq (fun kk h => .inr (HO.out.lt kk h).1)
      have hw9 : SgnFrom w1.heap.size w9 (.slice (some ⟨gq, 0, none⟩) (k + 1) cap) (codeT.take (k + 1)) := by
        unfold SgnFrom
        rw [HT.out, wdCells_snoc, show (codeT.take k ++ [(x, y)]).length = k + 1 by simp [codeT_len]; omega]
        exact hqq
      go_wp2_with fail
      go_roundw
      case rel => exact ⟨k + 1, j + 2, by omega, by show _ = _; have := HJ.out; omega, by have := HJ.out; omega, by go_num, hw9, hgF⟩
      case measure => simp [intOf]; omega
    · have hf : codeT.take k = codeT := List.take_of_length_le (by rw [codeT_len]; omega)
      have HF := Lib.hid hf
      have hj0 : ¬ (j : Int) < 80 := by have := HJ.out; omega
      have HO := Lib.hid hown1
      clear hf hown1 hlen hA2
      go_wp2_with fail
      go_ret
      refine ⟨_, rfl, ?_, gr_trans hG1 hgr⟩
      have h := HO.out
      rw [HF.out] at h
      obtain rfl : k = 40 := by omega
      unfold SgnFrom
      rw [codeT_len]
      exact ownsRow_low h hG1.size
end Go.Proofs.YtlbhphfmckhimaaDoor

namespace Go.Proofs.YtlbhphfmckhimaaDoor
open Go.RowKit
set_option linter.unusedVariables false

/-- What a list of pairs says of a byte: the last one counts. -/
def look (l : List (UInt8 × List UInt8)) (c : UInt8) : List UInt8 := l.foldl (fun acc p => if p.1 = c then p.2 else acc) []
theorem look_snoc (l : List (UInt8 × List UInt8)) (x : UInt8) (y : List UInt8) (c : UInt8) : look (l ++ [(x, y)]) c = if x = c then y else look l c := by simp [look]
theorem look_codes (c : UInt8) : look codeT c = codeOf c := by
  have h : ∀ n : Fin 256, look codeT (UInt8.ofNat n.val) = codeOf (UInt8.ofNat n.val) := by decide +kernel
  have := h ⟨c.toNat, c.toNat_lt⟩
  simpa using this

def MapB (w : World) (bm n : Nat) (l : List (UInt8 × List UInt8)) : Prop :=
  ∃ D : DataW Unit, w.ownsMap Tryd.prog 5 (plainElem Tryd.prog 9) bm n D ∧ Maps.IsMap D ∧ ∀ c : UInt8, D.atKey (.int .u8 c.toNat) (.lit (.string [])) = .lit (.string (look l c))
theorem MapB.lt {w : World} {bm n : Nat} {l : List (UInt8 × List UInt8)} (h : MapB w bm n l) : bm < w.heap.size := by obtain ⟨D, h1, _⟩ := h; exact h1.lt
theorem MapB.made (w : World) : MapB (w.alloc (.map #[] 0)) w.heap.size 0 [] := ⟨_, World.ownsMap_made w _ _ _, Maps.isMap_empty, fun c => rfl⟩
theorem MapB.kept {w w' : World} {bm n : Nat} {l : List (UInt8 × List UInt8)} (h : MapB w bm n l) {row : Option Nat} (hg : w.grownBy w' row) (hr : some bm ≠ row) : MapB w' bm n l := by
  obtain ⟨D, h1, h2, h3⟩ := h
  exact ⟨D, h1.kept hg hr, h2, h3⟩
theorem MapB.quiet {w w' : World} {bm n : Nat} {l : List (UInt8 × List UInt8)} (h : MapB w bm n l) (hg : w.grownBy w' none) : MapB w' bm n l := h.kept hg (by simp)
theorem u8_wf (c : UInt8) : (Lit.int .u8 (c.toNat : Int)).wf = true := by
  have := c.toNat_lt
  simp [Lit.wf, IntKind.min, IntKind.max, IntKind.signed, IntKind.bits]
  omega
theorem u8_key (c : UInt8) : keyOf Tryd.prog 5 (.int .u8 (c.toNat : Int)) = some (.int .u8 (c.toNat : Int)) := Maps.keyOf_int_mk Tryd.underlying5 (u8_wf c)
theorem MapB.look {w : World} {bm n : Nat} {l : List (UInt8 × List UInt8)} (h : MapB w bm n l) (c : UInt8) :
    (Instr.lookup 93 (.map (some bm)) (.int .u8 (c.toNat : Int)) false).run Tryd.prog w = .ok (.string ⟨(look l c).toArray⟩) w := by
  obtain ⟨D, h1, h2, h3⟩ := h
  obtain ⟨v, ps, hrun, hv⟩ := h1.lookup (Maps.int_keyed Tryd.underlying5) Tryd.underlying93 (z := .string ⟨#[]⟩) (by kernel_rfl) (plainElem_string Tryd.underlying9 (by decide)) (u8_key c)
  rw [show (⟨#[]⟩ : ByteArray).data.toList = [] from rfl, h3 c] at hv
  obtain ⟨s, rfl, hs, _⟩ := plainElem_string_inv Tryd.underlying9 hv
  simp only [Prod.mk.injEq, DataW.lit.injEq, Lit.string.injEq] at hs
  rw [hs.1]
  exact hrun
theorem MapB.put {w : World} {bm n : Nat} {l : List (UInt8 × List UInt8)} (h : MapB w bm n l) (hn : n ≤ 1000000) (x : UInt8) (y : List UInt8) (hy : y.length ≤ 1000000) :
    ∃ w', (Instr.mapUpdate 93 (.map (some bm)) (.int .u8 (x.toNat : Int)) (.string ⟨y.toArray⟩)).run Tryd.prog w = .ok () w' ∧ MapB w' bm (n + 1) (l ++ [(x, y)]) ∧ w.grownBy w' (some bm) := by
  obtain ⟨D, h1, h2, h3⟩ := h
  obtain ⟨w', hrun, ho, hg⟩ := h1.update (Maps.int_keyed Tryd.underlying5) Tryd.underlying93 (by unfold maxLen; omega) (u8_key x) (plainElem_string (s := ⟨y.toArray⟩) Tryd.underlying9 (by unfold maxLen; show y.toArray.size ≤ _; simp; omega))
  refine ⟨w', hrun, ⟨_, ho, h2.put _ _, fun c => ?_⟩, hg⟩
  rw [look_snoc]
  by_cases e : x = c
  · subst e
    rw [if_pos rfl, Maps.atKey_put_same h2 (k := .int .u8 x.toNat) (by trivial)]
  · rw [if_neg e, Maps.atKey_put_other (by
      intro h
      injection h with _ h
      exact e (UInt8.toNat_inj.1 (by omega)).symm), h3 c]

/-- The update, as the last step of a region. -/
theorem step_mapB {w : World} {ops : Array Oper} {o : Oper} {a : Act} {K : Act → World → Prop} {Q : Exit → Act → World → Prop} {E : Prop} (hgd : o.guard = none) (m x v : Operand)
    (ho : o.op = Op.mapUpdate 93 m x v) (bm n : Nat) (l : List (UInt8 × List UInt8)) (p : UInt8) (y : List UInt8)
    (hm : a.eval m = .map (some bm)) (hx : a.eval x = .int .u8 (p.toNat : Int)) (hv : a.eval v = .string ⟨y.toArray⟩) (h : MapB w bm n l) (hn : n ≤ 1000000) (hy : y.length ≤ 1000000)
    (hK : ∀ w', MapB w' bm (n + 1) (l ++ [(p, y)]) → w.grownBy w' (some bm) → K (a.put o.dst undef) w') : if Region.wanted o (yielded ops a.tmps) = true then Oper.wp Tryd.prog o a w K Q else E := by
  have hw : Region.wanted o (yielded ops a.tmps) = true := by simp [Region.wanted, hgd]
  rw [if_pos hw]
  obtain ⟨w', hrun, h1, h2⟩ := h.put hn p y hy
  unfold Oper.wp
  simp [execOp, ho, hm, hx, hv, hrun, Result.andThen]
  exact hK w' h1 h2
end Go.Proofs.YtlbhphfmckhimaaDoor

namespace Go.Proofs.YtlbhphfmckhimaaDoor
open Go.RowKit
set_option linter.unusedVariables false

theorem codeT_short : ∀ p ∈ codeT, p.2.length ≤ 6 := by decide +kernel
/-- What byBytes hands back: a map of the codes, in new memory. -/
def MapPost (w : World) (e : Ending) (w' : World) : Prop := ∃ bm, e = .returned (.map (some bm)) ∧ w.heap.size ≤ bm ∧ MapB w' bm 40 codeT ∧ w.grownBy w' none

set_option maxRecDepth 100000 in
set_option maxHeartbeats 2000000 in
theorem byBytes_any (b : Nat) (w : World) (hgl : Gl b w) :
    Calls Tryd.prog 56 #[] w (MapPost w) := by
  have HGL := Lib.hid hgl
  clear hgl
  have hmm := @run_makeMap Tryd.prog
  go_enter Tryd.func56, Tryd.ntmps56
  go_wp2_with fail
  clear hmm
  have hM0 := MapB.made w
  have hlt0 := hM0.lt
  refine (codes_any b _ (HGL.out.quiet (World.grownBy_alloc w _ none))).mono ?_
  rintro _ w1 ⟨v, rfl, hv, hg1⟩
  have hM1 := hM0.quiet hg1
  have hG1 := gr_trans (World.grownBy_alloc w (.map #[] 0) none) hg1
  obtain ⟨A, c, hve, hvl, hvA⟩ := hv.shape
  subst hve
  obtain ⟨g, hAg, hg0, _⟩ := hvA (by rw [codeT_len]; decide)
  subst hAg
  rw [codeT_len] at hv ⊢
  have hgm : w.heap.size < g := by simp at hg0; omega
  have HV := Lib.hid (show SgnFrom (w.alloc (.map #[] 0)).heap.size w1 (.slice (some ⟨g, 0, none⟩) codeT.length c) codeT by rw [codeT_len]; exact hv)
  have hsz1 := hg1.size
  clear hv hvl hvA hM0 hg1
  go_wp2_with fail
  go_loopw [7] (fun i wr => ∃ k : Nat, k ≤ 40 ∧ i = .int .i64 k ∧ MapB wr w.heap.size k (codeT.take k) ∧ w1.grownBy wr (some w.heap.size)) (fun i _ => 40 - (intOf i).toNat)
  case atStart => exact ⟨0, by omega, rfl, hM1, gr_refl _ _⟩
  case round =>
    obtain ⟨k, hk, rfl, hM, hgr⟩ := hrel
    by_cases hlt : k < 40
    · have hkl : k < codeT.length := by rw [codeT_len]; exact hlt
      have hat1 := (SgnFrom.other HV.out hgr (by simp)).at1 k hkl
      have hsh := codeT_short codeT[k] (List.getElem_mem hkl)
      have htk : codeT.take (k + 1) = codeT.take k ++ [(codeT[k].1, codeT[k].2)] := by
        rw [List.take_succ_eq_append_getElem hkl]
      obtain ⟨x, hx⟩ : ∃ x, codeT[k].1 = x := ⟨_, rfl⟩
      obtain ⟨y, hy⟩ : ∃ y, codeT[k].2 = y := ⟨_, rfl⟩
      rw [hx, hy] at hat1 htk
      rw [hy] at hsh
      obtain ⟨q1, q2⟩ := hat1
      have HT := Lib.hid htk
      have hlt2 : (k : Int) < 40 := by omega
      have hzr := hgr.size
      have hMlt := hM.lt
      clear htk hx hy hM1
      go_wp2_with fail
      have hB := Blk.new wr 105 #[.string ⟨#[x]⟩, .string ⟨y.toArray⟩]
      have hMA := hM.quiet (World.grownBy_alloc wr (.cells #[.string ⟨#[x]⟩, .string ⟨y.toArray⟩] 105) none)
      have hGA := gr_alloc hgr (.cells #[.string ⟨#[x]⟩, .string ⟨y.toArray⟩] 105)
      have hBl : wr.heap.size < (wr.alloc (.cells #[.string ⟨#[x]⟩, .string ⟨y.toArray⟩] 105)).heap.size := hB.lt
      generalize wr.alloc (.cells #[.string ⟨#[x]⟩, .string ⟨y.toArray⟩] 105) = W at *
      have b0 : W.cell? ⟨wr.heap.size, 0, none⟩ = some (.string ⟨#[x]⟩) := hB.cell 0
      have b1 : W.cell? ⟨wr.heap.size, 1, none⟩ = some (.string ⟨y.toArray⟩) := hB.cell 1
      obtain ⟨w9, hrun, hM9, hg9⟩ := MapB.put (w := W.drew) hMA (by omega) x y (by omega)
      have hrun' : (Instr.mapUpdate 93 (.map (some w.heap.size)) (.int .u8 (((⟨#[x]⟩ : ByteArray)[0]'(by show 0 < 1; decide)).toNat : Int)) (.string ⟨y.toArray⟩)).run Tryd.prog W.drew = .ok () w9 := hrun
      clear hrun
      go_region
      go_wp2_with fail
      go_roundw
      case rel => exact ⟨k + 1, by omega, by go_num, by rw [HT.out]; exact hM9, gr_grown (gr_drew hGA) hg9 (fun g e => .inl e)⟩
      case measure => simp [intOf]; omega
    · have hf : codeT.take k = codeT := List.take_of_length_le (by rw [codeT_len]; omega)
      rw [hf] at hM
      obtain rfl : k = 40 := by omega
      clear hf hM1
      go_wp2_with fail
      go_ret
      exact ⟨_, rfl, Nat.le_refl _, hM, gr_grown hG1 hgr (fun g e => by injection e with e; exact .inr (by omega))⟩
end Go.Proofs.YtlbhphfmckhimaaDoor
