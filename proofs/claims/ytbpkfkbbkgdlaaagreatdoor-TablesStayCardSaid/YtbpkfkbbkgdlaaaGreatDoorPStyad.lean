/- The signs with their codes, as bytes; a slice of signs with codes, as a list of pairs. No condition. What the walks ask of package-level variables: MaxLen holds a number, asciiSpace is Go's own table. No condition. The walk over key.Codes: the forty signs with their codes, in new memory. Condition: asciiSpace is Go's own table. A map from bytes to strings that the program has made, as a list of pairs of which the last one counts. No condition. The walk over key.byBytes: a map from the forty signs to their codes, in new memory. Condition: asciiSpace is Go's own table. A slice of strings that the program has made, as a list of strings; strings.Split at one byte. Condition: MaxLen holds a number. The walks over kit.Words and key.CheckSaid. Condition: asciiSpace is Go's own table, MaxLen holds a number. The walk over key.words: the codes of the signs of words, in new memory. Condition: asciiSpace is Go's own table, MaxLen holds a number, the string has at most 10^6 bytes. The walk over key.lengths: the lengths of marks and gaps in turn. Condition: asciiSpace is Go's own table, MaxLen holds a number, the string has at most 500 bytes, units are small. The walk over key.Units. Condition: asciiSpace is Go's own table, MaxLen holds a number. What the laws that compare two streams share: the two streams laid, the numbers that came in told exactly, rows that stay beside a store; slices.Equal at two slices of strings that are equal. No condition. The walks over call.CheckEntities. Condition: keys of at most 10^9 bytes, ends of at most 60 bits. The walks over call.Is, call.Base; called. Condition: strings of ASCII. -/
import Derived.Test.YtbpkfkbbkgdlaaaGreatDoorPStyaa
import Derived.Lib.Fields
import Derived.Lib.SmallJoins
import Derived.Deep.AppendLies
import Derived.Deep.RegionHeld3
import Derived.Maps.OwnOps
import Derived.Maps.Views
import Derived.Maps.StringElems
import Derived.Lib.SplitLaws
import Derived.Deep.DeepCutAuto
import Derived.Test.YtbpkfkbbkgdlaaaGreatDoorPStyab
import Derived.Test.YtbpkfkbbkgdlaaaGreatDoorPStyac
namespace Go.Proofs.YtbpkfkbbkgdlaaaGreatDoor
open Go.RowKit
set_option linter.unusedVariables false

/-- The forty signs, each with its code. -/
def codeT : List (UInt8 × List UInt8) := [
 (97, [46, 45]), (98, [45, 46, 46, 46]), (99, [45, 46, 45, 46]), (100, [45, 46, 46]), (101, [46]), (102, [46, 46, 45, 46]), (103, [45, 45, 46]), (104, [46, 46, 46, 46]),
 (105, [46, 46]), (106, [46, 45, 45, 45]), (107, [45, 46, 45]), (108, [46, 45, 46, 46]), (109, [45, 45]), (110, [45, 46]), (111, [45, 45, 45]), (112, [46, 45, 45, 46]),
 (113, [45, 45, 46, 45]), (114, [46, 45, 46]), (115, [46, 46, 46]), (116, [45]), (117, [46, 46, 45]), (118, [46, 46, 46, 45]), (119, [46, 45, 45]), (120, [45, 46, 46, 45]),
 (121, [45, 46, 45, 45]), (122, [45, 45, 46, 46]), (48, [45, 45, 45, 45, 45]), (49, [46, 45, 45, 45, 45]), (50, [46, 46, 45, 45, 45]), (51, [46, 46, 46, 45, 45]), (52, [46, 46, 46, 46, 45]), (53, [46, 46, 46, 46, 46]),
 (54, [45, 46, 46, 46, 46]), (55, [45, 45, 46, 46, 46]), (56, [45, 45, 45, 46, 46]), (57, [45, 45, 45, 45, 46]), (47, [45, 46, 46, 45, 46]), (63, [46, 46, 45, 45, 46, 46]), (61, [45, 46, 46, 46, 45]), (43, [46, 45, 46, 45, 46])]
theorem codeT_len : codeT.length = 40 := by decide +kernel
/-- The code of a byte; empty: it is no sign. -/
def codeOf (c : UInt8) : List UInt8 := ((codeT.find? fun p => p.1 == c).map (·.2)).getD []
def wdL (l : List (UInt8 × List UInt8)) : List (List UInt8) := l.flatMap fun p => [[p.1], p.2]
def wdCells (l : List (UInt8 × List UInt8)) : List Value := l.flatMap fun p => [.string ⟨#[p.1]⟩, .string ⟨p.2.toArray⟩]
theorem wdCells_snoc (l : List (UInt8 × List UInt8)) (x : UInt8) (y : List UInt8) : wdCells (l ++ [(x, y)]) = wdCells l ++ [.string ⟨#[x]⟩, .string ⟨y.toArray⟩] := by
 simp [wdCells]
theorem wdCells_at (l : List (UInt8 × List UInt8)) (k : Nat) (h : k < l.length) : (wdCells l)[k * 2]? = some (.string ⟨#[l[k].1]⟩) ∧ (wdCells l)[k * 2 + 1]? = some (.string ⟨l[k].2.toArray⟩) := by
 induction l generalizing k with
 | nil => simp at h
 | cons p r ih =>
   have e : wdCells (p :: r) = .string ⟨#[p.1]⟩ :: .string ⟨p.2.toArray⟩ :: wdCells r := rfl
   rw [e]
   cases k with
   | zero => simp
   | succ k =>
     have := ih k (by simpa using h)
     rw [show (k + 1) * 2 = k * 2 + 1 + 1 from by omega]
     simpa using this
theorem wdCells_of (l : List (UInt8 × List UInt8)) : (wdL l).map (fun x => Value.string ⟨x.toArray⟩) = wdCells l := by
 induction l with
 | nil => rfl
 | cons p r ih => simp only [wdL, wdCells, List.flatMap_cons, List.map_append] at ih ⊢; rw [ih]; rfl
/-- Is this the text of the table? -/
def tabOK (s : ByteArray) : Bool := decide (s.size < 100000) && s.data.toList.all (fun b => decide (b.toNat < 128)) && (Lib.fields s.data.toList == wdL codeT)
theorem tabOK_is {s : ByteArray} (h : tabOK s = true) : s.size < 4294967281 ∧ (∀ (j : Nat) b, s.data.toList[j]? = some b → b.toNat < 128) ∧ Lib.fields s.data.toList = wdL codeT := by
 unfold tabOK at h
 rw [Bool.and_eq_true, Bool.and_eq_true, decide_eq_true_eq, List.all_eq_true, beq_iff_eq] at h
 obtain ⟨⟨h1, h2⟩, h3⟩ := h
 exact ⟨by omega, fun j b hb => by simpa using h2 b (List.mem_of_getElem? hb), h3⟩
/-- The signs with codes of a slice, that lies in a block from base on. -/
def SgnFrom (base : Nat) (w : World) (v : Value) (l : List (UInt8 × List UInt8)) : Prop := w.ownsRow base 233 2 v l.length (wdCells l)
theorem SgnFrom.low {base base' : Nat} {w : World} {v : Value} {l : List (UInt8 × List UInt8)} (h : SgnFrom base w v l) (hb : base' ≤ base) : SgnFrom base' w v l := ownsRow_low h hb
theorem SgnFrom.grown {base : Nat} {w w' : World} {v : Value} {l : List (UInt8 × List UInt8)} (h : SgnFrom base w v l) (hg : w.grownBy w' none) : SgnFrom base w' v l := ownsRow_grown h hg
theorem SgnFrom.other {base b : Nat} {w w' : World} {v : Value} {l : List (UInt8 × List UInt8)} (h : SgnFrom base w v l) (hg : w.grownBy w' (some b)) (hb : b < base) : SgnFrom base w' v l := ownsRow_other h hg hb
theorem SgnFrom.nil (base : Nat) (w : World) : SgnFrom base w (.slice none 0 0) [] := World.ownsRow_nil _ _ _ _
theorem SgnFrom.shape {base : Nat} {w : World} {v : Value} {l : List (UInt8 × List UInt8)} (h : SgnFrom base w v l) :
 ∃ A c, v = .slice A l.length c ∧ l.length ≤ 9223372036854775807 ∧ (0 < l.length → ∃ g, A = some ⟨g, 0, none⟩ ∧ base ≤ g ∧ g < w.heap.size) := ownsRow_shape h
theorem SgnFrom.at1 {base : Nat} {w : World} {g c : Nat} {l : List (UInt8 × List UInt8)} (h : SgnFrom base w (.slice (some ⟨g, 0, none⟩) l.length c) l) (k : Nat) (hk : k < l.length) : w.cell? ⟨g, k * 2, none⟩ = some (.string ⟨#[l[k].1]⟩) ∧ w.cell? ⟨g, k * 2 + 1, none⟩ = some (.string ⟨l[k].2.toArray⟩) := by
 have hc := wdCells_at l k hk
 rw [World.ownsRow.cellAt h (k * 2) (by omega), World.ownsRow.cellAt h (k * 2 + 1) (by omega)]
 exact hc
theorem sgnInfo : (Tryz.prog.info? 233).map (fun i => (i.zero, i.size, i.bytes)) = some (some (.agg #[.string ⟨#[]⟩, .string ⟨#[]⟩]), 2, 32) := by kernel_rfl
theorem cells_new (w : World) (cs : List Value) (t : TypeId) : ∀ j u, cs[j]? = some u → (w.alloc (.cells cs.toArray t)).cell? ((⟨w.heap.size, 0, none⟩ : Addr).add j) = some u := by
 intro j u hu
 have hb := (Blk.new w t cs.toArray).cell j
 have hadd : (⟨w.heap.size, 0, none⟩ : Addr).add j = ⟨w.heap.size, j, none⟩ := by unfold Addr.add; split <;> simp_all
 rw [hadd, hb]
 simpa using hu
theorem two_one (x y : ByteArray) : ∀ u ∈ [Value.string x, .string y], u.oneCell' = true := by
 intro u hu; simp at hu; rcases hu with rfl | rfl <;> rfl
end Go.Proofs.YtbpkfkbbkgdlaaaGreatDoor

namespace Go.Proofs.YtbpkfkbbkgdlaaaGreatDoor
open Go.RowKit
set_option linter.unusedVariables false

/-- The variables, in blocks ahead of block b. -/
structure Gl (b : Nat) (w : World) : Prop where
 mx : ∃ m : Int, w.cell? ⟨0, 0, none⟩ = some (.int .i64 m)
 sp : Lib.TabIs Tryz.prog w "strings.asciiSpace" .u8 Lib.asciiSpaceTab
 lm : 0 < b
 ls : 6 < b
 lb : b ≤ w.heap.size
theorem tab_grown {w w' : World} {row : Option Nat} {g : Nat} {n : String} {k : IntKind} {zs : List Int} (hn : Tryz.prog.globalNamed n = some g) (h : Lib.TabIs Tryz.prog w n k zs) (hg : w.grownBy w' row) (hb : g < w.heap.size) (hr : some g ≠ row) : Lib.TabIs Tryz.prog w' n k zs := by
 unfold Lib.TabIs World.var? at h ⊢
 rw [hn] at h ⊢
 simp only [Option.bind_some] at h ⊢
 rw [hg.block g hb hr]
 exact h
theorem Gl.grown {b : Nat} {w w' : World} {row : Option Nat} (h : Gl b w) (hg : w.grownBy w' row) (hr : ∀ g, row = some g → b ≤ g) : Gl b w' := by
 obtain ⟨⟨m, hm⟩, hs, h1, h2, h3⟩ := h
 refine ⟨⟨m, ?_⟩, tab_grown (by kernel_rfl) hs hg (Nat.lt_of_lt_of_le h2 h3) (fun e => by have h9 : b ≤ 6 := hr _ e.symm; omega), h1, h2, Nat.le_trans h3 hg.size⟩
 exact (World.cell?_of_block (hg.block _ (Nat.lt_of_lt_of_le h1 h3) (fun e => by have h9 : b ≤ 0 := hr _ e.symm; omega))).trans hm
theorem Gl.quiet {b : Nat} {w w' : World} (h : Gl b w) (hg : w.grownBy w' none) : Gl b w' := h.grown hg (by simp)
end Go.Proofs.YtbpkfkbbkgdlaaaGreatDoor

namespace Go.Proofs.YtbpkfkbbkgdlaaaGreatDoor
open Go.RowKit
set_option linter.unusedVariables false

theorem fields_tab (s : ByteArray) (w : World) (h : tabOK s = true) (hs : Lib.TabIs Tryz.prog w "strings.asciiSpace" .u8 Lib.asciiSpaceTab) :
 Calls Tryz.prog 240 #[.string s] w fun e w' => e = .returned (.slice (some ⟨w.heap.size, 0, none⟩) 80 80) ∧ w' = w.alloc (.cells (wdCells codeT).toArray 9) := by
 obtain ⟨h1, h2, h3⟩ := tabOK_is h
 refine (Tryz.strings_Fields s w h1 h2 hs).mono ?_
 rintro e w' ⟨he, hw⟩
 rw [h3] at he hw
 rw [wdCells_of] at hw
 exact ⟨he, hw⟩
def SgnPost (l : List (UInt8 × List UInt8)) (w : World) (e : Ending) (w' : World) : Prop := ∃ v, e = .returned v ∧ SgnFrom w.heap.size w' v l ∧ w.grownBy w' none
set_option maxRecDepth 100000 in
set_option maxHeartbeats 2000000 in
theorem codes_any (b : Nat) (w : World) (hgl : Gl b w) :
 Calls Tryz.prog 215 #[] w (SgnPost codeT w) := by
 have HGL := Lib.hid hgl
 clear hgl
 obtain ⟨i0, hi, hz0, hz1, hz2⟩ := info_parts sgnInfo
 go_enter Tryz.func215, Tryz.ntmps215
 go_wp2_with fail
 refine (fields_tab _ _ (by kernel_rfl) HGL.out.sp).mono ?_
 rintro _ w1 ⟨rfl, hw1⟩
 have hG1 : w.grownBy w1 none := by rw [hw1]; exact World.grownBy_alloc w _ none
 have hW1 : Blk w1 w.heap.size 9 (wdCells codeT).toArray := by rw [hw1]; exact Blk.new _ _ _
 have HW1 := Lib.hid hw1
 clear hw1
 go_wp2_with fail
 go_loopw [2, 3] (fun o i wr => ∃ k j : Nat, k ≤ 40 ∧ Hid (j = k * 2) ∧ j ≤ 80 ∧ i = .int .i64 j ∧ SgnFrom w1.heap.size wr o (codeT.take k) ∧ w1.grownBy wr none) (fun _ i _ => 82 - (intOf i).toNat)
 case atStart => exact ⟨0, 0, by omega, rfl, by omega, rfl, SgnFrom.nil _ _, gr_refl _ _⟩
 case round =>
  obtain ⟨k, j, hk, HJ, hj, rfl, hown, hgr⟩ := hrel
  have hlen : (codeT.take k).length = k := by rw [List.length_take, codeT_len]; omega
  have hown1 : wr.ownsRow w1.heap.size 233 2 u2 k (wdCells (codeT.take k)) := by
   have h := hown
   unfold SgnFrom at h
   rwa [hlen] at h
  clear hown
  obtain ⟨A2, c2, rfl, hk9, hA2⟩ := ownsRow_shape hown1
  by_cases hlt : k < 40
  ·have hkl : k < codeT.length := by rw [codeT_len]; exact hlt
   have hat1 := wdCells_at codeT k hkl
   have htk : codeT.take (k + 1) = codeT.take k ++ [(codeT[k].1, codeT[k].2)] := by
    rw [List.take_succ_eq_append_getElem hkl]
   obtain ⟨x, hx⟩ : ∃ x, codeT[k].1 = x := ⟨_, rfl⟩
   obtain ⟨y, hy⟩ : ∃ y, codeT[k].2 = y := ⟨_, rfl⟩
   rw [hx, hy] at hat1 htk
   have HJ2 := HJ.out
   rw [← HJ2] at hat1
   have KX : Hid (∀ W' : World, w1.grownBy W' none → W'.cell? ⟨w.heap.size, j, none⟩ = some (.string ⟨#[x]⟩) ∧ W'.cell? ⟨w.heap.size, j + 1, none⟩ = some (.string ⟨y.toArray⟩) ∧ w1.grownBy W' none) :=
    fun W' hW => ⟨((hW1.grown hW (by simp)).cell j).trans (by simpa using hat1.1), ((hW1.grown hW (by simp)).cell (j + 1)).trans (by simpa using hat1.2), hW⟩
   have HT := Lib.hid htk
   have HO := Lib.hid hown1
   obtain ⟨q1, q2, -⟩ := KX.out wr hgr
   have hj1 : (j : Int) < 80 := by omega
   have hj2 : (j : Int) + 1 < 80 := by omega
   have hj3 : (0 : Int) ≤ (j : Int) + 1 := by omega
   have hj4 : j < 80 := by omega
   have hj5 : j + 1 < 80 := by omega
   have e1 : IntKind.i64.wrap ((j : Int) + 1) = (j : Int) + 1 := IntWalk.i64_in _ ⟨by omega, by omega⟩
   have e2 : ((j : Int) + 1).toNat = j + 1 := by omega
   have hzw := hgr.size
   clear hat1 htk hx hy HJ2 hown1 hlen hA2
   go_wp2_with fail
   go_region_held3 (fun W' => W'.cell? ⟨w.heap.size, j, none⟩ = some (.string ⟨#[x]⟩) ∧ W'.cell? ⟨w.heap.size, j + 1, none⟩ = some (.string ⟨y.toArray⟩) ∧ w1.grownBy W' none)
    ((exact KX.out _ (by first | exact gr_grown (show w1.grownBy _ none from (by repeat (first | exact gr_refl _ _ | assumption | refine gr_alloc ?_ _ | refine gr_drewN ?_ _ | refine gr_drew ?_))) hgq (fun kk h => .inr (HO.out.lt kk h).1) | exact (by repeat (first | exact gr_refl _ _ | assumption | refine gr_alloc ?_ _ | refine gr_drewN ?_ _ | refine gr_drew ?_)))))
    ((refine step_append_lies _ (by rfl) (.tmp 11) (.tmp 22) 230 (by rfl) w1.heap.size 233 i0 _ 2 32 Tryz.underlying230 hi hz0 hz1 hz2 rfl (by decide) _ k (wdCells (codeT.take k)) (by simp [Act.eval]) (World.ownsRow.alloc (show World.ownsRow _ w1.heap.size 233 2 _ k (wdCells (codeT.take k)) from HO.out) _) ⟨_, 0, none⟩ 1 1 [.string ⟨#[x]⟩, .string ⟨y.toArray⟩] (by simp [Act.eval]) rfl (cells_new _ _ _) (two_one _ _) (by decide) (by unfold maxLen; omega) (by omega) (by simp; omega) _ rfl ?_; intro gq cap w9 hqq hgq hat hglt))
   have hgF : w1.grownBy w9 none := gr_grown (show w1.grownBy _ none from (by repeat (first | exact gr_refl _ _ | assumption | refine gr_alloc ?_ _ | refine gr_drewN ?_ _ | refine gr_drew ?_))) hgq (fun kk h => .inr (HO.out.lt kk h).1)
   have hw9 : SgnFrom w1.heap.size w9 (.slice (some ⟨gq, 0, none⟩) (k + 1) cap) (codeT.take (k + 1)) := by
    unfold SgnFrom
    rw [HT.out, wdCells_snoc, show (codeT.take k ++ [(x, y)]).length = k + 1 by simp [codeT_len]; omega]
    exact hqq
   go_wp2_with fail
   go_roundw
   case rel => exact ⟨k + 1, j + 2, by omega, by show _ = _; have := HJ.out; omega, by have := HJ.out; omega, by go_num, hw9, hgF⟩
   case measure => simp [intOf]; omega
  ·have hf : codeT.take k = codeT := List.take_of_length_le (by rw [codeT_len]; omega)
   have HF := Lib.hid hf
   have hj0 : ¬ (j : Int) < 80 := by have := HJ.out; omega
   have HO := Lib.hid hown1
   clear hf hown1 hlen hA2
   go_wp2_with fail
   go_ret
   refine ⟨_, rfl, ?_, gr_trans hG1 hgr⟩
   have h := HO.out
   rw [HF.out] at h
   obtain rfl : k = 40 := by omega
   unfold SgnFrom
   rw [codeT_len]
   exact ownsRow_low h hG1.size
end Go.Proofs.YtbpkfkbbkgdlaaaGreatDoor

namespace Go.Proofs.YtbpkfkbbkgdlaaaGreatDoor
open Go.RowKit
set_option linter.unusedVariables false

/-- What a list of pairs says of a byte: the last one counts. -/
def look (l : List (UInt8 × List UInt8)) (c : UInt8) : List UInt8 := l.foldl (fun acc p => if p.1 = c then p.2 else acc) []
theorem look_snoc (l : List (UInt8 × List UInt8)) (x : UInt8) (y : List UInt8) (c : UInt8) : look (l ++ [(x, y)]) c = if x = c then y else look l c := by simp [look]
theorem look_codes (c : UInt8) : look codeT c = codeOf c := by
 have h : ∀ n : Fin 256, look codeT (UInt8.ofNat n.val) = codeOf (UInt8.ofNat n.val) := by decide +kernel
 have := h ⟨c.toNat, c.toNat_lt⟩
 simpa using this
def MapB (w : World) (bm n : Nat) (l : List (UInt8 × List UInt8)) : Prop :=
 ∃ D : DataW Unit, w.ownsMap Tryz.prog 5 (plainElem Tryz.prog 9) bm n D ∧ Maps.IsMap D ∧ ∀ c : UInt8, D.atKey (.int .u8 c.toNat) (.lit (.string [])) = .lit (.string (look l c))
theorem MapB.lt {w : World} {bm n : Nat} {l : List (UInt8 × List UInt8)} (h : MapB w bm n l) : bm < w.heap.size := by obtain ⟨D, h1, _⟩ := h; exact h1.lt
theorem MapB.made (w : World) : MapB (w.alloc (.map #[] 0)) w.heap.size 0 [] := ⟨_, World.ownsMap_made w _ _ _, Maps.isMap_empty, fun c => rfl⟩
theorem MapB.kept {w w' : World} {bm n : Nat} {l : List (UInt8 × List UInt8)} (h : MapB w bm n l) {row : Option Nat} (hg : w.grownBy w' row) (hr : some bm ≠ row) : MapB w' bm n l := by
 obtain ⟨D, h1, h2, h3⟩ := h
 exact ⟨D, h1.kept hg hr, h2, h3⟩
theorem MapB.quiet {w w' : World} {bm n : Nat} {l : List (UInt8 × List UInt8)} (h : MapB w bm n l) (hg : w.grownBy w' none) : MapB w' bm n l := h.kept hg (by simp)
theorem u8_wf (c : UInt8) : (Lit.int .u8 (c.toNat : Int)).wf = true := by
 have := c.toNat_lt
 simp [Lit.wf, IntKind.min, IntKind.max, IntKind.signed, IntKind.bits]
 omega
theorem u8_key (c : UInt8) : keyOf Tryz.prog 5 (.int .u8 (c.toNat : Int)) = some (.int .u8 (c.toNat : Int)) := Maps.keyOf_int_mk Tryz.underlying5 (u8_wf c)
theorem MapB.look {w : World} {bm n : Nat} {l : List (UInt8 × List UInt8)} (h : MapB w bm n l) (c : UInt8) :
 (Instr.lookup 126 (.map (some bm)) (.int .u8 (c.toNat : Int)) false).run Tryz.prog w = .ok (.string ⟨(look l c).toArray⟩) w := by
 obtain ⟨D, h1, h2, h3⟩ := h
 obtain ⟨v, ps, hrun, hv⟩ := h1.lookup (Maps.int_keyed Tryz.underlying5) Tryz.underlying126 (z := .string ⟨#[]⟩) (by kernel_rfl) (plainElem_string Tryz.underlying9 (by decide)) (u8_key c)
 rw [show (⟨#[]⟩ : ByteArray).data.toList = [] from rfl, h3 c] at hv
 obtain ⟨s, rfl, hs, _⟩ := plainElem_string_inv Tryz.underlying9 hv
 simp only [Prod.mk.injEq, DataW.lit.injEq, Lit.string.injEq] at hs
 rw [hs.1]
 exact hrun
theorem MapB.put {w : World} {bm n : Nat} {l : List (UInt8 × List UInt8)} (h : MapB w bm n l) (hn : n ≤ 1000000) (x : UInt8) (y : List UInt8) (hy : y.length ≤ 1000000) :
 ∃ w', (Instr.mapUpdate 126 (.map (some bm)) (.int .u8 (x.toNat : Int)) (.string ⟨y.toArray⟩)).run Tryz.prog w = .ok () w' ∧ MapB w' bm (n + 1) (l ++ [(x, y)]) ∧ w.grownBy w' (some bm) := by
 obtain ⟨D, h1, h2, h3⟩ := h
 obtain ⟨w', hrun, ho, hg⟩ := h1.update (Maps.int_keyed Tryz.underlying5) Tryz.underlying126 (by unfold maxLen; omega) (u8_key x) (plainElem_string (s := ⟨y.toArray⟩) Tryz.underlying9 (by unfold maxLen; show y.toArray.size ≤ _; simp; omega))
 refine ⟨w', hrun, ⟨_, ho, h2.put _ _, fun c => ?_⟩, hg⟩
 rw [look_snoc]
 by_cases e : x = c
 ·subst e
  rw [if_pos rfl, Maps.atKey_put_same h2 (k := .int .u8 x.toNat) (by trivial)]
 ·rw [if_neg e, Maps.atKey_put_other (by
   intro h
   injection h with _ h
   exact e (UInt8.toNat_inj.1 (by omega)).symm), h3 c]
end Go.Proofs.YtbpkfkbbkgdlaaaGreatDoor

namespace Go.Proofs.YtbpkfkbbkgdlaaaGreatDoor
open Go.RowKit
set_option linter.unusedVariables false

theorem codeT_short : ∀ p ∈ codeT, p.2.length ≤ 6 := by decide +kernel
/-- What byBytes hands back: a map of the codes, in new memory. -/
def MapPost (w : World) (e : Ending) (w' : World) : Prop := ∃ bm, e = .returned (.map (some bm)) ∧ w.heap.size ≤ bm ∧ MapB w' bm 40 codeT ∧ w.grownBy w' none
set_option maxRecDepth 100000 in
set_option maxHeartbeats 2000000 in
theorem byBytes_any (b : Nat) (w : World) (hgl : Gl b w) :
 Calls Tryz.prog 171 #[] w (MapPost w) := by
 have HGL := Lib.hid hgl
 clear hgl
 have hmm := @run_makeMap Tryz.prog
 go_enter Tryz.func171, Tryz.ntmps171
 go_wp2_with fail
 clear hmm
 have hM0 := MapB.made w
 have hlt0 := hM0.lt
 refine (codes_any b _ (HGL.out.quiet (World.grownBy_alloc w _ none))).mono ?_
 rintro _ w1 ⟨v, rfl, hv, hg1⟩
 have hM1 := hM0.quiet hg1
 have hG1 := gr_trans (World.grownBy_alloc w (.map #[] 0) none) hg1
 obtain ⟨A, c, hve, hvl, hvA⟩ := hv.shape
 subst hve
 obtain ⟨g, hAg, hg0, _⟩ := hvA (by rw [codeT_len]; decide)
 subst hAg
 rw [codeT_len] at hv ⊢
 have hgm : w.heap.size < g := by simp at hg0; omega
 have HV := Lib.hid (show SgnFrom (w.alloc (.map #[] 0)).heap.size w1 (.slice (some ⟨g, 0, none⟩) codeT.length c) codeT by rw [codeT_len]; exact hv)
 have hsz1 := hg1.size
 clear hv hvl hvA hM0 hg1
 go_wp2_with fail
 go_loopw [7] (fun i wr => ∃ k : Nat, k ≤ 40 ∧ i = .int .i64 k ∧ MapB wr w.heap.size k (codeT.take k) ∧ w1.grownBy wr (some w.heap.size)) (fun i _ => 40 - (intOf i).toNat)
 case atStart => exact ⟨0, by omega, rfl, hM1, gr_refl _ _⟩
 case round =>
  obtain ⟨k, hk, rfl, hM, hgr⟩ := hrel
  by_cases hlt : k < 40
  ·have hkl : k < codeT.length := by rw [codeT_len]; exact hlt
   have hat1 := (SgnFrom.other HV.out hgr (by simp)).at1 k hkl
   have hsh := codeT_short codeT[k] (List.getElem_mem hkl)
   have htk : codeT.take (k + 1) = codeT.take k ++ [(codeT[k].1, codeT[k].2)] := by
    rw [List.take_succ_eq_append_getElem hkl]
   obtain ⟨x, hx⟩ : ∃ x, codeT[k].1 = x := ⟨_, rfl⟩
   obtain ⟨y, hy⟩ : ∃ y, codeT[k].2 = y := ⟨_, rfl⟩
   rw [hx, hy] at hat1 htk
   rw [hy] at hsh
   obtain ⟨q1, q2⟩ := hat1
   have HT := Lib.hid htk
   have hlt2 : (k : Int) < 40 := by omega
   have hzr := hgr.size
   have hMlt := hM.lt
   clear htk hx hy hM1
   go_wp2_with fail
   have hB := Blk.new wr 233 #[.string ⟨#[x]⟩, .string ⟨y.toArray⟩]
   have hMA := hM.quiet (World.grownBy_alloc wr (.cells #[.string ⟨#[x]⟩, .string ⟨y.toArray⟩] 233) none)
   have hGA := gr_alloc hgr (.cells #[.string ⟨#[x]⟩, .string ⟨y.toArray⟩] 233)
   have hBl : wr.heap.size < (wr.alloc (.cells #[.string ⟨#[x]⟩, .string ⟨y.toArray⟩] 233)).heap.size := hB.lt
   generalize wr.alloc (.cells #[.string ⟨#[x]⟩, .string ⟨y.toArray⟩] 233) = W at *
   have b0 : W.cell? ⟨wr.heap.size, 0, none⟩ = some (.string ⟨#[x]⟩) := hB.cell 0
   have b1 : W.cell? ⟨wr.heap.size, 1, none⟩ = some (.string ⟨y.toArray⟩) := hB.cell 1
   obtain ⟨w9, hrun, hM9, hg9⟩ := MapB.put (w := W.drew) hMA (by omega) x y (by omega)
   have hrun' : (Instr.mapUpdate 126 (.map (some w.heap.size)) (.int .u8 (((⟨#[x]⟩ : ByteArray)[0]'(by show 0 < 1; decide)).toNat : Int)) (.string ⟨y.toArray⟩)).run Tryz.prog W.drew = .ok () w9 := hrun
   clear hrun
   go_region
   go_wp2_with fail
   go_roundw
   case rel => exact ⟨k + 1, by omega, by go_num, by rw [HT.out]; exact hM9, gr_grown (gr_drew hGA) hg9 (fun g e => .inl e)⟩
   case measure => simp [intOf]; omega
  ·have hf : codeT.take k = codeT := List.take_of_length_le (by rw [codeT_len]; omega)
   rw [hf] at hM
   obtain rfl : k = 40 := by omega
   clear hf hM1
   go_wp2_with fail
   go_ret
   exact ⟨_, rfl, Nat.le_refl _, hM, gr_grown hG1 hgr (fun g e => by injection e with e; exact .inr (by omega))⟩
end Go.Proofs.YtbpkfkbbkgdlaaaGreatDoor

namespace Go.Proofs.YtbpkfkbbkgdlaaaGreatDoor
open Go.RowKit
set_option linter.unusedVariables false

/-- The strings of a slice, that lies in a block from base on. -/
def StrsFrom (base : Nat) (w : World) (v : Value) (l : List ByteArray) : Prop := w.ownsRow base 9 1 v l.length (l.map Value.string)
theorem StrsFrom.low {base base' : Nat} {w : World} {v : Value} {l : List ByteArray} (h : StrsFrom base w v l) (hb : base' ≤ base) : StrsFrom base' w v l := ownsRow_low h hb
theorem StrsFrom.grown {base : Nat} {w w' : World} {v : Value} {l : List ByteArray} (h : StrsFrom base w v l) (hg : w.grownBy w' none) : StrsFrom base w' v l := ownsRow_grown h hg
theorem StrsFrom.other {base b : Nat} {w w' : World} {v : Value} {l : List ByteArray} (h : StrsFrom base w v l) (hg : w.grownBy w' (some b)) (hb : b < base) : StrsFrom base w' v l := ownsRow_other h hg hb
theorem StrsFrom.nil (base : Nat) (w : World) : StrsFrom base w (.slice none 0 0) [] := World.ownsRow_nil _ _ _ _
theorem StrsFrom.shape {base : Nat} {w : World} {v : Value} {l : List ByteArray} (h : StrsFrom base w v l) :
 ∃ A c, v = .slice A l.length c ∧ l.length ≤ 9223372036854775807 ∧ (0 < l.length → ∃ g, A = some ⟨g, 0, none⟩ ∧ base ≤ g ∧ g < w.heap.size) := ownsRow_shape h
theorem StrsFrom.at_ {base : Nat} {w : World} {g c : Nat} {l : List ByteArray} (h : StrsFrom base w (.slice (some ⟨g, 0, none⟩) l.length c) l) (k : Nat) (hk : k < l.length) : w.cell? ⟨g, k, none⟩ = some (.string l[k]) := by
 rw [World.ownsRow.cellAt h k (by omega)]
 simp [hk]
theorem blk_strs {w : World} {g base : Nat} {l : List ByteArray} (h : Blk w g 9 (l.map Value.string).toArray) (hb : base ≤ g) (hn : l.length ≤ 100000000000) : StrsFrom base w (.slice (some ⟨g, 0, none⟩) l.length l.length) l := by
 refine ⟨by simp, .inr ⟨g, l.length, _, rfl, hb, h, Nat.le_refl _, by unfold maxLen; omega, by simp, ?_⟩⟩
 exact List.take_of_length_le (by simp)
theorem strInfo : (Tryz.prog.info? 9).map (fun i => (i.zero, i.size, i.bytes)) = some (some (.string ⟨#[]⟩), 1, 16) := by kernel_rfl
theorem str_one (x : ByteArray) : ∀ u ∈ [Value.string x], u.oneCell' = true := by
 intro u hu; simp at hu; subst hu; rfl
/-- The pieces of a string between its blanks. -/
def blankS : ByteArray := ⟨#[32]⟩
def wordsOf (s : ByteArray) : List ByteArray := Lib.splitB blankS 0 (Lib.countB s blankS) s
theorem wordsOf_len (s : ByteArray) : (wordsOf s).length = Lib.countB s blankS + 1 := Lib.splitB_all blankS (by decide) 0 _ s rfl
theorem wordsOf_few (s : ByteArray) : (wordsOf s).length ≤ s.size + 1 := by
 rw [wordsOf_len]
 have := Lib.countB_le blankS (by decide) s.size s (Nat.le_refl _)
 omega
theorem wordsOf_pos (s : ByteArray) : 0 < (wordsOf s).length := by rw [wordsOf_len]; omega
theorem splitB_small (sep : ByteArray) : ∀ (k : Nat) (s : ByteArray), ∀ p ∈ Lib.splitB sep 0 k s, p.size ≤ s.size
 | 0, s, p, hp => by
   rw [Lib.splitB_zero] at hp
   simp at hp
   rw [hp]
   exact Nat.le_refl _
 | k + 1, s, p, hp => by
   unfold Lib.splitB at hp
   split at hp
   ·simp at hp
    rw [hp]
    exact Nat.le_refl _
   ·rcases List.mem_cons.1 hp with h | h
    ·rw [h]; simp; omega
    ·have := splitB_small sep k _ p h
     simp at this
     omega
theorem wordsOf_small (s : ByteArray) : ∀ p ∈ wordsOf s, p.size ≤ s.size := splitB_small blankS _ s
def StrsPost (l : List ByteArray) (w : World) (e : Ending) (w' : World) : Prop := ∃ v, e = .returned v ∧ StrsFrom w.heap.size w' v l ∧ w.grownBy w' none
theorem split_blank (b : Nat) (s : ByteArray) (w : World) (hgl : Gl b w) (hs : s.size < 4294967281) :
 Calls Tryz.prog 214 #[.string s, .string ⟨#[32]⟩] w (StrsPost (wordsOf s) w) := by
 obtain ⟨m, hm⟩ := hgl.mx
 refine (Tryz.strings_Split s ⟨#[32]⟩ m w hs hm (by decide)).mono ?_
 rintro e w' ⟨he, hw⟩
 have hl := wordsOf_len s
 have hf := wordsOf_few s
 subst hw
 refine ⟨_, he, ?_, World.grownBy_alloc w _ none⟩
 have h := blk_strs (Blk.new w 9 ((wordsOf s).map Value.string).toArray) (Nat.le_refl _) (by omega)
 show StrsFrom _ _ (.slice _ (Lib.countB s blankS + 1) (Lib.countB s blankS + 1)) (wordsOf s)
 rw [← hl]
 exact h
end Go.Proofs.YtbpkfkbbkgdlaaaGreatDoor

namespace Go.Proofs.YtbpkfkbbkgdlaaaGreatDoor
open Go.RowKit
set_option linter.unusedVariables false

/-- Is no piece empty? -/
def fullB (l : List ByteArray) : Bool := l.all fun p => !p.toList.isEmpty
theorem fullB_fail {l : List ByteArray} (k : Nat) (h : k < l.length) (he : l[k].toList.isEmpty = true) : fullB l = false := by
 unfold fullB
 rw [List.all_eq_false]
 exact ⟨l[k], List.getElem_mem h, by simp [he]⟩
theorem fullB_snoc (l : List ByteArray) (k : Nat) (h : k < l.length) (h1 : fullB (l.take k) = true) (he : l[k].toList.isEmpty = false) : fullB (l.take (k + 1)) = true := by
 rw [List.take_succ_eq_append_getElem h]
 unfold fullB at h1 ⊢
 rw [List.all_append, h1]
 simp [he]
/-- What Words hands back. -/
def WordsPost (s : ByteArray) (w : World) (e : Ending) (w' : World) : Prop :=
 w.grownBy w' none ∧ ((fullB (wordsOf s) = false ∧ e = .returned (.tuple #[.slice none 0 0, .bool false])) ∨
 (fullB (wordsOf s) = true ∧ ∃ v, e = .returned (.tuple #[v, .bool true]) ∧ StrsFrom w.heap.size w' v (wordsOf s)))
set_option maxHeartbeats 1000000 in
theorem words_any (b : Nat) (s : ByteArray) (w : World) (hgl : Gl b w) (hs : s.size < 4294967281) :
 Calls Tryz.prog 170 #[.string s] w (WordsPost s w) := by
 go_enter Tryz.func170, Tryz.ntmps170
 go_wp2_with fail
 refine (split_blank b s _ hgl hs).mono ?_
 rintro _ w1 ⟨v, rfl, hv, hg⟩
 obtain ⟨A, c, rfl, hl, hA⟩ := hv.shape
 obtain ⟨g, rfl, hg0, _⟩ := hA (wordsOf_pos s)
 have HV := Lib.hid hv
 clear hv hA hgl
 go_wp2_with fail
 go_loop [11] (fun i => ∃ k : Nat, k ≤ (wordsOf s).length ∧ i = .int .i64 k ∧ Hid (fullB ((wordsOf s).take k) = true)) (fun i => (wordsOf s).length - (intOf i).toNat)
 case atStart => exact ⟨0, by omega, rfl, rfl⟩
 case round =>
  obtain ⟨k, hk, rfl, HR⟩ := hrel
  by_cases hlt : k < (wordsOf s).length
  ·have hat := HV.out.at_ k hlt
   obtain ⟨p, hp⟩ : ∃ p, (wordsOf s)[k] = p := ⟨_, rfl⟩
   rw [hp] at hat
   have hlt2 : (k : Int) < ((wordsOf s).length : Int) := by omega
   cases he : p.toList.isEmpty
   ·have HN := Lib.hid (fullB_snoc _ k hlt HR.out (by rw [hp]; exact he))
    have HP := Lib.hid hp
    clear hp
    go_wp2_with fail
    go_round
    case rel => exact ⟨k + 1, by omega, by go_num, HN⟩
    case measure => simp [intOf]; omega
   ·have HN := Lib.hid (fullB_fail k hlt (by rw [hp]; exact he))
    have HP := Lib.hid hp
    clear hp
    go_wp2_with fail
    go_ret2
    exact ⟨hg, .inl ⟨HN.out, rfl⟩⟩
  ·have hlt2 : ¬ (k : Int) < ((wordsOf s).length : Int) := by omega
   have HF : Hid (fullB (wordsOf s) = true) := by
    have := HR.out
    rwa [List.take_of_length_le (by omega)] at this
   go_wp2_with fail
   go_ret2
   exact ⟨hg, .inr ⟨HF.out, _, rfl, HV.out⟩⟩
/-- The code of a byte, as a string. -/
def codeS (c : UInt8) : ByteArray := ⟨(codeOf c).toArray⟩
theorem codeS_data (c : UInt8) : (codeS c).data.toList = codeOf c := rfl
theorem codeS_empty (c : UInt8) : (codeS c).toList.isEmpty = (codeOf c).isEmpty := by rw [Lib.toList_data, codeS_data]
theorem MapB.code {w : World} {bm : Nat} (h : MapB w bm 40 codeT) (c : UInt8) :
 (Instr.lookup 126 (.map (some bm)) (.int .u8 (c.toNat : Int)) false).run Tryz.prog w = .ok (.string (codeS c)) w := by
 have := h.look c
 rw [look_codes] at this
 exact this
/-- Has each byte a code? -/
def coded (p : ByteArray) : Bool := p.data.toList.all fun c => !(codeOf c).isEmpty
def saidE (s : ByteArray) : Int := if 500 < s.size then 2 else if fullB (wordsOf s) = true ∧ (wordsOf s).all coded = true then 0 else 3
theorem saidE_large {s : ByteArray} (h : 500 < s.size) : saidE s = 2 := by unfold saidE; rw [if_pos h]
theorem saidE_ok {s : ByteArray} (h : ¬ 500 < s.size) (h1 : fullB (wordsOf s) = true) (h2 : (wordsOf s).all coded = true) : saidE s = 0 := by unfold saidE; rw [if_neg h, if_pos ⟨h1, h2⟩]
theorem saidE_gap {s : ByteArray} (h : ¬ 500 < s.size) (h1 : fullB (wordsOf s) = false) : saidE s = 3 := by unfold saidE; rw [if_neg h, if_neg (by rw [h1]; simp)]
theorem saidE_sign {s : ByteArray} (h : ¬ 500 < s.size) (k : Nat) (hk : k < (wordsOf s).length) (n : Nat) (hn : n < (wordsOf s)[k].size) (he : (codeOf (wordsOf s)[k][n]).isEmpty = true) : saidE s = 3 := by
 unfold saidE
 rw [if_neg h, if_neg]
 rintro ⟨-, h2⟩
 have h3 := List.all_eq_true.1 h2 _ (List.getElem_mem hk)
 unfold coded at h3
 have h4 := List.all_eq_true.1 h3 (wordsOf s)[k][n] (by show (wordsOf s)[k].data[n] ∈ _; simp)
 rw [he] at h4
 simp at h4
theorem saidE_zero {s : ByteArray} (h : saidE s = 0) : s.size ≤ 500 ∧ fullB (wordsOf s) = true ∧ (wordsOf s).all coded = true := by
 unfold saidE at h
 split at h
 ·omega
 ·split at h
  ·rename_i h1 h2; exact ⟨by omega, h2⟩
  ·omega
set_option maxRecDepth 100000 in
set_option maxHeartbeats 2000000 in
theorem checkSaid_any (b : Nat) (s : ByteArray) (w : World) (hgl : Gl b w) (hs : s.size < 4294967281) :
 Calls Tryz.prog 130 #[.string s] w fun e w' => e = .returned (.int .i64 (saidE s)) ∧ w.grownBy w' none := by
 by_cases hl : 500 < s.size
 ·have hl2 : (500 : Int) < (s.size : Int) := by omega
  have HE := Lib.hid (saidE_large hl)
  clear hgl
  go_enter Tryz.func130, Tryz.ntmps130
  go_wp2_with fail
  go_ret
  exact ⟨ret_of HE.out.symm, gr_refl _ _⟩
 have hl2 : ¬ (500 : Int) < (s.size : Int) := by omega
 have HGL := Lib.hid hgl
 clear hgl
 go_enter Tryz.func130, Tryz.ntmps130
 go_wp2_with fail
 refine (words_any b s _ HGL.out hs).mono ?_
 rintro _ w1 ⟨hg1, hpost⟩
 rcases hpost with ⟨hf, rfl⟩ | ⟨hf, v, rfl, hv⟩
 ·have HE := Lib.hid (saidE_gap hl hf)
  clear hf
  go_wp2_with fail
  go_ret
  exact ⟨ret_of HE.out.symm, hg1⟩
 have HF := Lib.hid hf
 obtain ⟨A, c, rfl, hvl, hA⟩ := hv.shape
 obtain ⟨g, rfl, hg0, _⟩ := hA (wordsOf_pos s)
 have HV := Lib.hid hv
 clear hv hA hf
 go_wp2_with fail
 refine (byBytes_any b _ (HGL.out.quiet hg1)).mono ?_
 rintro _ w2 ⟨bm, rfl, hbm, hM, hg2⟩
 have HM := Lib.hid hM
 have HW := Lib.hid (HV.out.grown hg2)
 have HG := Lib.hid (gr_trans hg1 hg2)
 clear hM HV hg1 hg2
 go_wp2_with fail
 go_loop [22] (fun i => ∃ k : Nat, k ≤ (wordsOf s).length ∧ i = .int .i64 k ∧ Hid (∀ j (hj : j < (wordsOf s).length), j < k → coded (wordsOf s)[j] = true)) (fun i => (wordsOf s).length - (intOf i).toNat)
 case atStart => exact ⟨0, by omega, rfl, fun j hj h => by omega⟩
 case round =>
  obtain ⟨k, hk, rfl, HR⟩ := hrel
  by_cases hlt : k < (wordsOf s).length
  ·have hat := HW.out.at_ k hlt
   have hsm := wordsOf_small s _ (List.getElem_mem hlt)
   have HS := @saidE_sign s hl k hlt
   obtain ⟨p, hp⟩ : ∃ p, (wordsOf s)[k] = p := ⟨_, rfl⟩
   rw [hp] at hat hsm
   have hlt2 : (k : Int) < ((wordsOf s).length : Int) := by omega
   have HS2 : Hid (∀ n (hn : n < p.size), (codeOf p[n]).isEmpty = true → saidE s = 3) := by
    intro n hn he
    subst hp
    exact HS n hn he
   have HP := Lib.hid hp
   clear hp HS
   go_wp2_with fail
   go_loop [28] (fun i => ∃ n : Nat, n ≤ p.size ∧ i = .int .i64 n ∧ Hid (∀ j (hj : j < p.size), j < n → (codeOf p[j]).isEmpty = false)) (fun i => p.size - (intOf i).toNat)
   case atStart => exact ⟨0, by omega, rfl, fun j hj h => by omega⟩
   case round =>
    obtain ⟨n, hn, rfl, HN⟩ := hrel
    by_cases hlt3 : n < p.size
    ·have hlt4 : (n : Int) < (p.size : Int) := by omega
     have hrun := HM.out.code p[n]
     have hem := codeS_empty p[n]
     cases he : (codeOf p[n]).isEmpty
     ·rw [he] at hem
      have HN2 : Hid (∀ j (hj : j < p.size), j < n + 1 → (codeOf p[j]).isEmpty = false) := fun j hj h => by
       by_cases e : j = n
       ·subst e; exact he
       ·exact HN.out j hj (by omega)
      clear he
      go_wp2_with fail
      go_round
      case rel => exact ⟨n + 1, by omega, by go_num, HN2⟩
      case measure => simp [intOf]; omega
     ·rw [he] at hem
      have HE := Lib.hid (HS2.out n hlt3 he)
      clear he
      go_wp2_with fail
      go_ret
      exact ⟨ret_of HE.out.symm, HG.out⟩
    ·have hlt4 : ¬ (n : Int) < (p.size : Int) := by omega
     have HC : Hid (∀ j (hj : j < (wordsOf s).length), j < k + 1 → coded (wordsOf s)[j] = true) := fun j hj h => by
      by_cases e : j = k
      ·subst e
       rw [HP.out]
       unfold coded
       rw [List.all_eq_true]
       intro x hx
       obtain ⟨i, hi, rfl⟩ := List.mem_iff_getElem.1 hx
       have hi2 : i < p.size := by simpa using hi
       have := HN.out i hi2 (by omega)
       show (!(codeOf p[i]).isEmpty) = true
       rw [this]
       rfl
      ·exact HR.out j hj (by omega)
     go_wp2_with fail
     go_round
     case rel => exact ⟨k + 1, by omega, by go_num, HC⟩
     case measure => simp [intOf]; omega
  ·have hlt2 : ¬ (k : Int) < ((wordsOf s).length : Int) := by omega
   have HE := Lib.hid (saidE_ok hl HF.out (List.all_eq_true.2 fun x hx => by
    obtain ⟨i, hi, rfl⟩ := List.mem_iff_getElem.1 hx
    exact HR.out i hi (by omega)))
   go_wp2_with fail
   go_ret
   exact ⟨ret_of HE.out.symm, HG.out⟩
end Go.Proofs.YtbpkfkbbkgdlaaaGreatDoor

namespace Go.Proofs.YtbpkfkbbkgdlaaaGreatDoor
open Go.RowKit
set_option linter.unusedVariables false

theorem slcInfo : (Tryz.prog.info? 31).map (fun i => (i.zero, i.size, i.bytes)) = some (some (.slice none 0 0), 1, 24) := by kernel_rfl
theorem slc_one {base : Nat} {w : World} {v : Value} {l : List ByteArray} (h : StrsFrom base w v l) : ∀ u ∈ [v], u.oneCell' = true := by
 obtain ⟨A, c, rfl, _, _⟩ := h.shape
 intro u hu; simp at hu; subst hu; rfl
/-- Two slices over different types lie apart. -/
theorem own_apart {w : World} {b1 b2 s1 s2 n1 n2 : Nat} {e1 e2 : TypeId} {v1 v2 : Value} {x1 x2 : List Value} (h1 : w.ownsRow b1 e1 s1 v1 n1 x1) (h2 : w.ownsRow b2 e2 s2 v2 n2 x2) (he : e1 ≠ e2) : v1.ownBlock = none ∨ v1.ownBlock ≠ v2.ownBlock := by
 rcases h1.2 with ⟨rfl, _⟩ | ⟨g, cap, cur, rfl, _, hh, _⟩
 ·exact .inl rfl
 ·refine .inr fun e => ?_
  rcases h2.2 with ⟨rfl, _⟩ | ⟨g', cap', cur', rfl, _, hh', _⟩
  ·cases e
  ·simp only [Value.ownBlock, Option.some.injEq] at e
   subst e
   rw [hh] at hh'
   injection hh' with hh'
   injection hh' with _ h4
   exact he h4
/-- The lists of strings of a slice of slices. -/
def SsFrom (base : Nat) (w : World) (v : Value) (ll : List (List ByteArray)) : Prop :=
 ∃ vs : List Value, vs.length = ll.length ∧ w.ownsRow base 31 1 v ll.length vs ∧ ∀ (i : Nat) (u : Value) (l : List ByteArray), vs[i]? = some u → ll[i]? = some l → StrsFrom base w u l
theorem SsFrom.low {base base' : Nat} {w : World} {v : Value} {l : List (List ByteArray)} (h : SsFrom base w v l) (hb : base' ≤ base) : SsFrom base' w v l := by
 obtain ⟨vs, h1, h2, h3⟩ := h
 exact ⟨vs, h1, ownsRow_low h2 hb, fun i u x hu hx => (h3 i u x hu hx).low hb⟩
theorem SsFrom.grown {base : Nat} {w w' : World} {v : Value} {l : List (List ByteArray)} (h : SsFrom base w v l) (hg : w.grownBy w' none) : SsFrom base w' v l := by
 obtain ⟨vs, h1, h2, h3⟩ := h
 exact ⟨vs, h1, ownsRow_grown h2 hg, fun i u x hu hx => (h3 i u x hu hx).grown hg⟩
theorem SsFrom.nil (base : Nat) (w : World) : SsFrom base w (.slice none 0 0) [] := ⟨[], rfl, World.ownsRow_nil _ _ _ _, fun i u l hu => by simp at hu⟩
theorem SsFrom.shape {base : Nat} {w : World} {v : Value} {l : List (List ByteArray)} (h : SsFrom base w v l) :
 ∃ A c, v = .slice A l.length c ∧ l.length ≤ 9223372036854775807 ∧ (0 < l.length → ∃ g, A = some ⟨g, 0, none⟩ ∧ base ≤ g ∧ g < w.heap.size) := by
 obtain ⟨vs, h1, h2, h3⟩ := h
 exact ownsRow_shape h2
theorem SsFrom.at_ {base : Nat} {w : World} {g c : Nat} {l : List (List ByteArray)} (h : SsFrom base w (.slice (some ⟨g, 0, none⟩) l.length c) l) (k : Nat) (hk : k < l.length) : ∃ u, w.cell? ⟨g, k, none⟩ = some u ∧ StrsFrom base w u l[k] := by
 obtain ⟨vs, h1, h2, h3⟩ := h
 refine ⟨vs[k]'(by omega), ?_, h3 k _ _ (List.getElem?_eq_getElem _) (List.getElem?_eq_getElem hk)⟩
 rw [World.ownsRow.cellAt h2 k (by omega)]
 simp [h1, hk]
/-- The codes of the signs of the words. -/
def codesW (p : ByteArray) : List ByteArray := p.data.toList.map codeS
def codesOf (s : ByteArray) : List (List ByteArray) := (wordsOf s).map codesW
def SsPost (l : List (List ByteArray)) (w : World) (e : Ending) (w' : World) : Prop := ∃ v, e = .returned v ∧ SsFrom w.heap.size w' v l ∧ w.grownBy w' none
set_option maxRecDepth 100000 in
set_option maxHeartbeats 2000000 in
theorem keyWords_any (b : Nat) (s : ByteArray) (w : World) (hgl : Gl b w) (hs : s.size ≤ 1000000) :
 Calls Tryz.prog 172 #[.string s] w (SsPost (codesOf s) w) := by
 have HGL := Lib.hid hgl
 clear hgl
 obtain ⟨i0, hi, hz0, hz1, hz2⟩ := info_parts strInfo
 obtain ⟨j0, hj, hy0, hy1, hy2⟩ := info_parts slcInfo
 go_enter Tryz.func172, Tryz.ntmps172
 go_wp2_with fail
 refine (byBytes_any b _ HGL.out).mono ?_
 rintro _ w1 ⟨bm, rfl, hbm, hM, hg1⟩
 go_wp2_with fail
 refine (split_blank b s _ (HGL.out.quiet hg1) (by omega)).mono ?_
 rintro _ w2 ⟨v, rfl, hv, hg2⟩
 obtain ⟨A, c, rfl, hvl, hA⟩ := hv.shape
 obtain ⟨g, rfl, hg0, _⟩ := hA (wordsOf_pos s)
 have HM := Lib.hid (hM.quiet hg2)
 have HV := Lib.hid hv
 have HG := Lib.hid (gr_trans hg1 hg2)
 have hfew := wordsOf_few s
 have hwl : (wordsOf s).length ≤ 1000001 := by omega
 have hll : (codesOf s).length = (wordsOf s).length := by unfold codesOf; simp
 have HLL := Lib.hid hll
 clear hv hA hM hg1 hg2 hll hfew
 go_wp2_with fail
 go_loopw [4, 13] (fun o i wr => ∃ k : Nat, k ≤ (wordsOf s).length ∧ i = .int .i64 k ∧ SsFrom w2.heap.size wr o ((codesOf s).take k) ∧ w2.grownBy wr none) (fun _ i _ => (wordsOf s).length - (intOf i).toNat)
 case atStart => exact ⟨0, by omega, rfl, SsFrom.nil _ _, gr_refl _ _⟩
 case round =>
  obtain ⟨k, hk, rfl, ⟨vs, hvs, hown, hvv⟩, hgr⟩ := hrel
  have hlk : ((codesOf s).take k).length = k := by rw [List.length_take, HLL.out]; omega
  rw [hlk] at hvs hown
  obtain ⟨A2, c2, rfl, hk9, hA2⟩ := ownsRow_shape hown
  by_cases hlt : k < (wordsOf s).length
  ·have hat := (HV.out.grown hgr).at_ k hlt
   have hsm := wordsOf_small s _ (List.getElem_mem hlt)
   have htk : (codesOf s).take (k + 1) = (codesOf s).take k ++ [codesW (wordsOf s)[k]] := by
    rw [List.take_succ_eq_append_getElem (by rw [HLL.out]; exact hlt)]
    simp [codesOf]
   obtain ⟨p, hp⟩ : ∃ p, (wordsOf s)[k] = p := ⟨_, rfl⟩
   rw [hp] at hat hsm htk
   have hlt2 : (k : Int) < ((wordsOf s).length : Int) := by omega
   have HP := Lib.hid hp
   have HT := Lib.hid htk
   have HO := Lib.hid hown
   have HVV := Lib.hid hvv
   have HVS := Lib.hid hvs
   have hcl : (codesW p).length = p.size := by unfold codesW; simp
   have HCL := Lib.hid hcl
   clear hp htk hown hvv hA2 hlk hvs hcl
   go_wp2_with fail
   generalize wr = wo at *
   go_loopw [7, 19] (fun l i wr => ∃ n : Nat, n ≤ p.size ∧ i = .int .i64 n ∧ StrsFrom wo.heap.size wr l ((codesW p).take n) ∧ wo.grownBy wr none) (fun _ i _ => p.size - (intOf i).toNat)
   case atStart => exact ⟨0, by omega, rfl, StrsFrom.nil _ _, gr_refl _ _⟩
   case round =>
    obtain ⟨n, hn, rfl, hl, hgq⟩ := hrel
    have hln : ((codesW p).take n).length = n := by rw [List.length_take, HCL.out]; omega
    have hl1 : wr.ownsRow wo.heap.size 9 1 u7 n (((codesW p).take n).map Value.string) := by
     have h := hl
     unfold StrsFrom at h
     rwa [hln] at h
    obtain ⟨A3, c3, rfl, hn9, hA3⟩ := ownsRow_shape hl1
    by_cases hlt3 : n < p.size
    ·have hlt4 : (n : Int) < (p.size : Int) := by omega
     have htn : (codesW p).take (n + 1) = (codesW p).take n ++ [codeS p[n]] := by
      rw [List.take_succ_eq_append_getElem (by rw [HCL.out]; exact hlt3)]
      simp [codesW]
      rfl
     have hrun := (HM.out.quiet (gr_trans hgr hgq)).code p[n]
     have HTN := Lib.hid htn
     have HLN := Lib.hid hln
     have hzq := hgq.size
     have hrow : ∀ gg, (Value.slice A3 n c3).ownBlock = some gg → wo.heap.size ≤ gg := fun gg e => (hl1.lt gg e).1
     clear htn hln hl hA3
     go_wp2_with (at_builtin; refine wpList_append_own _ rfl _ _ 31 rfl wo.heap.size 9 i0 _ 1 16 Tryz.underlying31 hi hz0 hz1 hz2 rfl (by decide) _ _ _ rfl (hl1.alloc _) ⟨wr.heap.size, 0, none⟩ 1 1 [.string (codeS p[n])] rfl rfl (cells_new _ _ _) (str_one _) (by unfold maxLen; omega) (by omega) (by simp; omega) ?_; intro v' w6 hown2 hgrow2 _)
     have hG6 : wo.grownBy w6 none := gr_grown (gr_alloc hgq _) hgrow2 (fun gg e => .inr (hrow gg e))
     have hl6 : StrsFrom wo.heap.size w6 v' ((codesW p).take (n + 1)) := by
      unfold StrsFrom
      rw [HTN.out, List.map_append, List.length_append, HLN.out]
      exact hown2
     go_wp2_with fail
     go_roundw
     case rel => exact ⟨n + 1, by omega, by go_num, hl6, hG6⟩
     case measure => simp [intOf]; omega
    ·have hlt4 : ¬ (n : Int) < (p.size : Int) := by omega
     have hf : (codesW p).take n = codesW p := List.take_of_length_le (by rw [HCL.out]; omega)
     rw [hf] at hl
     have HL := Lib.hid hl
     have hgw := gr_trans hgr hgq
     have hown3 : wr.ownsRow w2.heap.size 31 1 (.slice A2 k c2) k vs := ownsRow_grown HO.out hgq
     have hz2 := hgw.size
     have hzr := hgr.size
     have hone := slc_one hl
     have hrow : ∀ gg, (Value.slice A2 k c2).ownBlock = some gg → w2.heap.size ≤ gg := fun gg e => (hown3.lt gg e).1
     clear hf hl hl1 hln hA3
     go_wp2_with (at_builtin; refine wpList_append_own _ rfl _ _ 73 rfl w2.heap.size 31 j0 _ 1 24 Tryz.underlying73 hj hy0 hy1 hy2 rfl (by decide) _ _ _ rfl (hown3.alloc _) ⟨wr.heap.size, 0, none⟩ 1 1 [.slice A3 n c3] rfl rfl (cells_new _ _ _) hone (by unfold maxLen; omega) (by omega) (by simp; omega) ?_; intro v' w6 hown2 hgrow2 _)
     have hG6 : w2.grownBy w6 none := gr_grown (gr_alloc hgw _) hgrow2 (fun gg e => .inr (hrow gg e))
     have hS6 : SsFrom w2.heap.size w6 v' ((codesOf s).take (k + 1)) := by
      have hkeep : ∀ (u : Value) (l : List ByteArray), StrsFrom w2.heap.size wr u l → StrsFrom w2.heap.size w6 u l := fun u l h =>
       World.ownsRow.kept (World.ownsRow.alloc h _) hgrow2 (own_apart h hown3 (by decide))
      have hlen2 : ((codesOf s).take (k + 1)).length = k + 1 := by rw [List.length_take, HLL.out]; omega
      refine ⟨vs ++ [.slice A3 n c3], ?_, ?_, fun i u l hu hl => ?_⟩
      ·rw [hlen2]; simp [HVS.out]
      ·rw [hlen2]; exact hown2
      ·rw [HT.out] at hl
       have hck : ((codesOf s).take k).length = k := by rw [List.length_take, HLL.out]; omega
       by_cases hik : i < k
       ·rw [List.getElem?_append_left (by rw [HVS.out]; exact hik)] at hu
        rw [List.getElem?_append_left (by rw [hck]; exact hik)] at hl
        exact hkeep u l ((HVV.out i u l hu hl).grown hgq)
       ·rw [List.getElem?_append_right (by rw [HVS.out]; omega)] at hu
        rw [List.getElem?_append_right (by rw [hck]; omega)] at hl
        rw [HVS.out] at hu
        rw [hck] at hl
        obtain rfl : i = k := by
         have := (List.getElem?_eq_some_iff.1 hu).1
         simp at this
         omega
        simp at hu hl
        subst hu; subst hl
        exact hkeep _ _ (HL.out.low hzr)
     go_wp2_with fail
     go_roundw
     case rel => exact ⟨k + 1, by omega, by go_num, hS6, hG6⟩
     case measure => simp [intOf]; omega
  ·have hlt2 : ¬ (k : Int) < ((wordsOf s).length : Int) := by omega
   have hf : (codesOf s).take k = codesOf s := List.take_of_length_le (by rw [HLL.out]; omega)
   rw [hf] at hvv
   have HO := Lib.hid hown
   have HVV := Lib.hid hvv
   have HVS := Lib.hid hvs
   clear hown hvv hA2 hf hvs hlk
   go_wp2_with fail
   go_ret
   have hz2 := HG.out.size
   have hkk : (codesOf s).length = k := by rw [HLL.out]; omega
   exact ⟨_, rfl, SsFrom.low (base := w2.heap.size) ⟨vs, by rw [hkk]; exact HVS.out, by rw [hkk]; exact HO.out, HVV.out⟩ hz2, gr_trans HG.out hgr⟩
end Go.Proofs.YtbpkfkbbkgdlaaaGreatDoor

namespace Go.Proofs.YtbpkfkbbkgdlaaaGreatDoor
open Go.RowKit
set_option linter.unusedVariables false

/-- Lists behind one another, with g between. -/
def isp {α : Type} (g : List α) : List (List α) → List α
 | [] => []
 | x :: r => x ++ r.flatMap fun y => g ++ y
/-- .. and with g behind them, if there are any. -/
def ispP {α : Type} (g : List α) (l : List (List α)) : List α := if l = [] then [] else isp g l ++ g
theorem isp_snoc {α : Type} (g : List α) (l : List (List α)) (x : List α) : isp g (l ++ [x]) = ispP g l ++ x := by
 cases l with
 | nil => simp [isp, ispP]
 | cons y r => simp [isp, ispP, List.flatMap_append]
theorem ispP_some {α : Type} (g : List α) (l : List (List α)) (h : 0 < l.length) : ispP g l = isp g l ++ g := by
 unfold ispP
 rw [if_neg (by intro e; rw [e] at h; simp at h)]
def dl (unit : Int) (c : UInt8) : Int := if c = 45 then unit * 3 else unit
def cL (unit : Int) (c : List UInt8) : List Int := isp [unit] (c.map fun b => [dl unit b])
def wL (unit slow : Int) (p : List ByteArray) : List Int := isp [3 * slow] (p.map fun c => cL unit c.data.toList)
def sL (unit slow : Int) (ll : List (List ByteArray)) : List Int := isp [7 * slow] (ll.map (wL unit slow))
/-- Numbers in a slice, so many. -/
def IsL (base : Nat) (w : World) (v : Value) (n : Nat) (L : List Int) : Prop := w.ownsRow base 3 1 v n (L.map (Value.int .i64))
theorem IsL.app {base n : Nat} {w : World} {v : Value} {L : List Int} {x : Int} (h : w.ownsRow base 3 1 v (n + 1) (L.map (Value.int .i64) ++ [.int .i64 x])) : IsL base w v (n + 1) (L ++ [x]) := by
 unfold IsL
 rw [List.map_append]
 exact h
theorem IsL.low {base n : Nat} {w : World} {v : Value} {L : List Int} (h : IsL base w v n L) (gg : Nat) (e : v.ownBlock = some gg) : base ≤ gg := (World.ownsRow.lt h gg e).1
theorem IsL.len {base n : Nat} {w : World} {v : Value} {L : List Int} (h : IsL base w v n L) : L.length = n := by
 have := h.1
 simpa using this
theorem IsL.ints {base n : Nat} {w : World} {v : Value} {L : List Int} (h : IsL base w v n L) : IntsFrom base w v L := by
 unfold IntsFrom
 rw [h.len]
 exact h
theorem take_snocS (s : ByteArray) (k : Nat) (h : k < s.size) : s.data.toList.take (k + 1) = s.data.toList.take k ++ [s[k]] := by
 rw [List.take_succ_eq_append_getElem (by simpa using h)]; rfl
theorem codeOf_short (c : UInt8) : (codeOf c).length ≤ 6 := by
 have h : ∀ n : Fin 256, (codeOf (UInt8.ofNat n.val)).length ≤ 6 := by decide +kernel
 have := h ⟨c.toNat, c.toNat_lt⟩
 simpa using this
set_option maxRecDepth 100000 in
set_option maxHeartbeats 4000000 in
theorem lengths_any (b : Nat) (s : ByteArray) (unit slow : Int) (w : World) (hgl : Gl b w) (hs : s.size ≤ 500) (hu0 : 0 ≤ unit) (hu1 : unit ≤ 1000000) (hs0 : 0 ≤ slow) (hs1 : slow ≤ 1000000) :
 Calls Tryz.prog 131 #[.string s, .int .i64 unit, .int .i64 slow] w fun e w' => ∃ v, e = .returned v ∧ IntsFrom w.heap.size w' v (sL unit slow (codesOf s)) ∧ (sL unit slow (codesOf s)).length ≤ 4000000 ∧ w.grownBy w' none := by
 obtain ⟨i0, hi, hz0, hz1, hz2⟩ := info_parts intInfo
 go_enter Tryz.func131, Tryz.ntmps131
 go_wp2_with fail
 refine (keyWords_any b s _ hgl (by omega)).mono ?_
 rintro _ w1 ⟨v, rfl, hv, hg1⟩
 obtain ⟨A, c, rfl, hvl, hA⟩ := hv.shape
 have hll : (codesOf s).length = (wordsOf s).length := by unfold codesOf; simp
 obtain ⟨g, rfl, hg0, _⟩ := hA (by rw [hll]; exact wordsOf_pos s)
 have hfew := wordsOf_few s
 obtain ⟨N, hN⟩ : ∃ N, (codesOf s).length = N := ⟨_, rfl⟩
 rw [hN] at hv ⊢
 have HV := Lib.hid (show SsFrom w.heap.size w1 (.slice (some ⟨g, 0, none⟩) (codesOf s).length c) (codesOf s) by rw [hN]; exact hv)
 have hN5 : N ≤ 501 := by omega
 have HN := Lib.hid hN
 have HLL := Lib.hid hll
 clear hv hA hll hfew hN hgl hvl
 have hz1w := hg1.size
 go_wp2_with fail
 go_loopw [7, 17] (fun o i wr => ∃ k n : Nat, k ≤ N ∧ i = .int .i64 k ∧ n ≤ 7000 * k ∧ IsL w1.heap.size wr o n (sL unit slow ((codesOf s).take k)) ∧ w1.grownBy wr none) (fun _ i _ => N - (intOf i).toNat)
 case atStart => exact ⟨0, 0, by omega, rfl, by omega, World.ownsRow_nil _ _ _ _, gr_refl _ _⟩
 case round =>
  obtain ⟨k, n, hk, rfl, hn, ho, hgr⟩ := hrel
  obtain ⟨A2, c2, rfl, hk9, hA2⟩ := ownsRow_shape ho
  by_cases hlt : k < N
  ·have hkN : k < (codesOf s).length := by rw [HN.out]; exact hlt
   obtain ⟨u, hcu1, hu⟩ := HV.out.at_ k hkN
   have hcu : wr.cell? ⟨g, k, none⟩ = some u := (World.cell?_of_block (hgr.block g (World.block_lt_of_cell? w1 ⟨g, k, none⟩ hcu1) (by simp))).trans hcu1
   have hkw : k < (wordsOf s).length := by rw [← HLL.out]; exact hkN
   have hsm := wordsOf_small s _ (List.getElem_mem hkw)
   have hck : (codesOf s)[k] = codesW (wordsOf s)[k] := by simp [codesOf]
   have hlk : ((codesOf s).take k).length = k := by rw [List.length_take]; omega
   have htk : sL unit slow ((codesOf s).take (k + 1)) = ispP [7 * slow] (((codesOf s).take k).map (wL unit slow)) ++ wL unit slow (codesW (wordsOf s)[k]) := by
    rw [List.take_succ_eq_append_getElem hkN, hck]
    unfold sL
    rw [List.map_append]
    exact isp_snoc _ _ _
   have hlk2 : (((codesOf s).take k).map (wL unit slow)).length = k := by rw [List.length_map]; exact hlk
   rw [hck] at hu
   obtain ⟨p, hp⟩ : ∃ p, (wordsOf s)[k] = p := ⟨_, rfl⟩
   rw [hp] at hsm htk hu
   obtain ⟨A3, c3, rfl, hu9, hA3⟩ := hu.shape
   have hm : (codesW p).length = p.size := by unfold codesW; simp
   obtain ⟨M, hM⟩ : ∃ M, (codesW p).length = M := ⟨_, rfl⟩
   rw [hM] at hA3 hcu
   clear hcu1
   have hM5 : M ≤ 500 := by omega
   have HU := Lib.hid hu
   have HM := Lib.hid hM
   have HT := Lib.hid htk
   have HA3 := Lib.hid hA3
   have HLK := Lib.hid hlk2
   have hlt2 : (k : Int) < (N : Int) := by omega
   have hzr := hgr.size
   clear hp htk hu hck hlk hlk2 hm hM hA2 hA3 hu9
   obtain ⟨L0, hL0⟩ : ∃ L0, ispP [7 * slow] (((codesOf s).take k).map (wL unit slow)) = L0 := ⟨_, rfl⟩
   have HL0 := Lib.hid hL0
   clear hL0
   go_upto_if 23 with fail
   go_cut [7] (fun s7 wq => ∃ n' : Nat, n' ≤ 7000 * k + 1 ∧ IsL w1.heap.size wq s7 n' L0 ∧ w1.grownBy wq none)
   case first =>
    by_cases hk0 : 0 < k
    ·go_wp2_with (at_builtin; refine wpList_append_own _ rfl _ _ 22 rfl w1.heap.size 3 i0 _ 1 8 Tryz.underlying22 hi hz0 hz1 hz2 rfl (by decide) _ _ _ rfl (World.ownsRow.alloc ho _) ⟨wr.heap.size, 0, none⟩ 1 1 [.int .i64 (7 * slow)] rfl rfl (one_cell _ _ _) (one_oneCell _) (by unfold maxLen; omega) (by omega) (by simp; omega) ?_; intro v2 w2 h2_ hgw_ _)
     have ho2 := IsL.app h2_
     have hg2 : w1.grownBy w2 none := gr_grown (gr_alloc hgr _) hgw_ (fun gg e => .inr (ho.low gg e))
     clear h2_ hgw_
     go_wp2_with fail
     go_meet
     exact ⟨n + 1, by omega, by rw [← HL0.out, ispP_some _ _ (by rw [HLK.out]; exact hk0)]; exact ho2, hg2⟩
    ·obtain rfl : k = 0 := by omega
     go_wp2_with fail
     go_meet
     exact ⟨n, by omega, by rw [← HL0.out]; exact ho, hgr⟩
   case rest =>
    obtain ⟨n1, hn1, ho1, hgc⟩ := hcut
    clear ho hgr hcu hzr
    go_wp2_with fail
    go_loopw [7, 31] (fun o i wr => ∃ k2 n2 : Nat, k2 ≤ M ∧ i = .int .i64 k2 ∧ n2 ≤ 7000 * k + 1 + 13 * k2 ∧ IsL w1.heap.size wr o n2 (L0 ++ isp [3 * slow] (((codesW p).take k2).map fun c => cL unit c.data.toList)) ∧ w1.grownBy wr none) (fun _ i _ => M - (intOf i).toNat)
    case atStart => exact ⟨0, n1, by omega, rfl, by omega, by show IsL _ _ _ _ (L0 ++ []); rw [List.append_nil]; exact ho1, hgc⟩
    case round =>
     clear ho1 hgc
     obtain ⟨k2, n2, hk2, rfl, hn2, ho, hgr⟩ := hrel
     obtain ⟨A4, c4, rfl, hk8, hA4⟩ := ownsRow_shape ho
     by_cases hlt3 : k2 < M
     ·obtain ⟨g3, rfl, hg3, _⟩ := HA3.out (by omega)
      have hkM : k2 < (codesW p).length := by rw [HM.out]; exact hlt3
      have hat : wr.cell? ⟨g3, k2, none⟩ = some (.string (codesW p)[k2]) := by
       have h := HU.out.grown hgr
       exact h.at_ k2 hkM
      have hq : (codesW p)[k2] = codeS (p.data.toList[k2]'(by simpa [codesW] using hkM)) := by simp [codesW]
      have hqs : (codesW p)[k2].size ≤ 6 := by
       rw [hq]
       have := codeOf_short (p.data.toList[k2]'(by simpa [codesW] using hkM))
       rw [← codeS_data] at this
       simpa using this
      have htk : (((codesW p).take (k2 + 1)).map fun c => cL unit c.data.toList) = (((codesW p).take k2).map fun c => cL unit c.data.toList) ++ [cL unit (codesW p)[k2].data.toList] := by
       rw [List.take_succ_eq_append_getElem hkM, List.map_append]
       rfl
      have hlk : (((codesW p).take k2).map fun c => cL unit c.data.toList).length = k2 := by rw [List.length_map, List.length_take]; omega
      obtain ⟨q, hqq⟩ : ∃ q, (codesW p)[k2] = q := ⟨_, rfl⟩
      rw [hqq] at hat hqs htk
      obtain ⟨Z, hZ⟩ : ∃ Z, (((codesW p).take k2).map fun c => cL unit c.data.toList) = Z := ⟨_, rfl⟩
      rw [hZ] at htk hlk ho
      have HT2 := Lib.hid htk
      have HLK2 := Lib.hid hlk
      have hlt4 : (k2 : Int) < (M : Int) := by omega
      have hzr := hgr.size
      obtain ⟨L1, hL1⟩ : ∃ L1, L0 ++ ispP [3 * slow] Z = L1 := ⟨_, rfl⟩
      have HL1 := Lib.hid hL1
      clear hq hqq htk hlk hZ hA4 hL1
      go_upto_if 37 with fail
      go_cut [7] (fun s7 wq => ∃ n' : Nat, n' ≤ 7000 * k + 2 + 13 * k2 ∧ IsL w1.heap.size wq s7 n' L1 ∧ w1.grownBy wq none)
      case first =>
       by_cases hk0 : 0 < k2
       ·go_wp2_with (at_builtin; refine wpList_append_own _ rfl _ _ 22 rfl w1.heap.size 3 i0 _ 1 8 Tryz.underlying22 hi hz0 hz1 hz2 rfl (by decide) _ _ _ rfl (World.ownsRow.alloc ho _) ⟨wr.heap.size, 0, none⟩ 1 1 [.int .i64 (3 * slow)] rfl rfl (one_cell _ _ _) (one_oneCell _) (by unfold maxLen; omega) (by omega) (by simp; omega) ?_; intro v2 w2 h2_ hgw_ _)
        have ho2 := IsL.app h2_
        have hg2 : w1.grownBy w2 none := gr_grown (gr_alloc hgr _) hgw_ (fun gg e => .inr (ho.low gg e))
        clear h2_ hgw_
        go_wp2_with fail
        go_meet
        exact ⟨n2 + 1, by omega, by rw [← HL1.out, ispP_some _ _ (by rw [HLK2.out]; exact hk0), ← List.append_assoc]; exact ho2, hg2⟩
       ·obtain rfl : k2 = 0 := by omega
        go_wp2_with fail
        go_meet
        refine ⟨n2, by omega, ?_, hgr⟩
        have hZ0 : Z = [] := List.eq_nil_of_length_eq_zero HLK2.out
        rw [← HL1.out, hZ0]
        rw [hZ0] at ho
        exact ho
      case rest =>
       obtain ⟨n1', hn1', ho1, hgc⟩ := hcut
       clear ho hgr hat hzr
       go_wp2_with fail
       go_loopw [7, 45] (fun o i wr => ∃ k3 n3 : Nat, k3 ≤ q.size ∧ i = .int .i64 k3 ∧ n3 ≤ 7000 * k + 2 + 13 * k2 + 2 * k3 ∧ IsL w1.heap.size wr o n3 (L1 ++ isp [unit] ((q.data.toList.take k3).map fun b => [dl unit b])) ∧ w1.grownBy wr none) (fun _ i _ => q.size - (intOf i).toNat)
       case atStart => exact ⟨0, n1', by omega, rfl, by omega, by show IsL _ _ _ _ (L1 ++ []); rw [List.append_nil]; exact ho1, hgc⟩
       case round =>
        clear ho1 hgc
        obtain ⟨k3, n3, hk3, rfl, hn3, ho, hgr⟩ := hrel
        obtain ⟨A5, c5, rfl, hk7, hA5⟩ := ownsRow_shape ho
        by_cases hlt5 : k3 < q.size
        ·have htk : ((q.data.toList.take (k3 + 1)).map fun b => [dl unit b]) = ((q.data.toList.take k3).map fun b => [dl unit b]) ++ [[dl unit q[k3]]] := by
          rw [take_snocS q k3 hlt5, List.map_append]
          rfl
         have hlk : ((q.data.toList.take k3).map fun b => [dl unit b]).length = k3 := by
          rw [List.length_map, List.length_take]
          simp
          omega
         obtain ⟨ch, hch⟩ : ∃ ch, q[k3] = ch := ⟨_, rfl⟩
         obtain ⟨Y, hY⟩ : ∃ Y, ((q.data.toList.take k3).map fun b => [dl unit b]) = Y := ⟨_, rfl⟩
         rw [hY, hch] at htk
         rw [hY] at hlk ho
         have HT3 : Hid (∀ L : List Int, L = L1 ++ (ispP [unit] Y ++ [dl unit ch]) → L = L1 ++ isp [unit] ((q.data.toList.take (k3 + 1)).map fun b => [dl unit b])) := fun L hL => by
          rw [hL, htk, isp_snoc]
         have HLK3 := Lib.hid hlk
         have hlt6 : (k3 : Int) < (q.size : Int) := by omega
         have hzr := hgr.size
         by_cases hk0 : 0 < k3
         ·have hPY : ispP [unit] Y = isp [unit] Y ++ [unit] := ispP_some _ _ (by rw [hlk]; exact hk0)
          have HPY := Lib.hid hPY
          by_cases h45 : ch = 45
          ·have hd : dl unit ch = unit * 3 := by unfold dl; rw [if_pos h45]
           have HD := Lib.hid hd
           have he : ((ch.toNat : Int) == 45) = true := by rw [h45]; rfl
           have HC := Lib.hid h45
           clear htk hlk hY hA5 hPY hd h45
           skip
           go_wp2_with (first | (at_builtin; refine wpList_append_own _ rfl _ _ 22 rfl w1.heap.size 3 i0 _ 1 8 Tryz.underlying22 hi hz0 hz1 hz2 rfl (by decide) _ _ _ rfl (World.ownsRow.alloc ho _) ⟨wr.heap.size, 0, none⟩ 1 1 [.int .i64 (unit)] rfl rfl (one_cell _ _ _) (one_oneCell _) (by unfold maxLen; omega) (by omega) (by simp; omega) ?_; intro v2 w2 h2_ hgw_ _; have ho2 := IsL.app h2_; have hg2 : w1.grownBy w2 none := gr_grown (gr_alloc hgr _) hgw_ (fun gg e => .inr (ho.low gg e)); clear h2_ hgw_; have hzzw2 := hg2.size) | (at_builtin; refine wpList_append_own _ rfl _ _ 22 rfl w1.heap.size 3 i0 _ 1 8 Tryz.underlying22 hi hz0 hz1 hz2 rfl (by decide) _ _ _ rfl (World.ownsRow.alloc ho2 _) ⟨w2.heap.size, 0, none⟩ 1 1 [.int .i64 (unit * 3)] rfl rfl (one_cell _ _ _) (one_oneCell _) (by unfold maxLen; omega) (by omega) (by simp; omega) ?_; intro v3 w3 h2_ hgw_ _; have ho3 := IsL.app h2_; have hg3' : w1.grownBy w3 none := gr_grown (gr_alloc hg2 _) hgw_ (fun gg e => .inr (ho2.low gg e)); clear h2_ hgw_; have hzzw3 := hg3'.size) | fail)
           go_wp2_with fail
           go_roundw
           case rel => exact ⟨k3 + 1, n3 + 1 + 1, by omega, by go_num, by omega, by rw [← HT3.out _ (show (L1 ++ isp [unit] Y ++ [unit]) ++ [unit * 3] = _ by rw [HPY.out, HD.out]; simp)]; exact ho3, hg3'⟩
           case measure => simp [intOf]; omega
          ·have hd : dl unit ch = unit := by unfold dl; rw [if_neg h45]
           have HD := Lib.hid hd
           have he : ((ch.toNat : Int) == 45) = false := by
            rw [beq_eq_false_iff_ne]
            intro e
            exact h45 (UInt8.toNat_inj.1 (by show ch.toNat = 45; omega))
           clear htk hlk hY hA5 hPY hd h45
           skip
           go_wp2_with (first | (at_builtin; refine wpList_append_own _ rfl _ _ 22 rfl w1.heap.size 3 i0 _ 1 8 Tryz.underlying22 hi hz0 hz1 hz2 rfl (by decide) _ _ _ rfl (World.ownsRow.alloc ho _) ⟨wr.heap.size, 0, none⟩ 1 1 [.int .i64 (unit)] rfl rfl (one_cell _ _ _) (one_oneCell _) (by unfold maxLen; omega) (by omega) (by simp; omega) ?_; intro v2 w2 h2_ hgw_ _; have ho2 := IsL.app h2_; have hg2 : w1.grownBy w2 none := gr_grown (gr_alloc hgr _) hgw_ (fun gg e => .inr (ho.low gg e)); clear h2_ hgw_; have hzzw2 := hg2.size) | (at_builtin; refine wpList_append_own _ rfl _ _ 22 rfl w1.heap.size 3 i0 _ 1 8 Tryz.underlying22 hi hz0 hz1 hz2 rfl (by decide) _ _ _ rfl (World.ownsRow.alloc ho2 _) ⟨w2.heap.size, 0, none⟩ 1 1 [.int .i64 (unit)] rfl rfl (one_cell _ _ _) (one_oneCell _) (by unfold maxLen; omega) (by omega) (by simp; omega) ?_; intro v3 w3 h2_ hgw_ _; have ho3 := IsL.app h2_; have hg3' : w1.grownBy w3 none := gr_grown (gr_alloc hg2 _) hgw_ (fun gg e => .inr (ho2.low gg e)); clear h2_ hgw_; have hzzw3 := hg3'.size) | fail)
           go_wp2_with fail
           go_roundw
           case rel => exact ⟨k3 + 1, n3 + 1 + 1, by omega, by go_num, by omega, by rw [← HT3.out _ (show (L1 ++ isp [unit] Y ++ [unit]) ++ [unit] = _ by rw [HPY.out, HD.out]; simp)]; exact ho3, hg3'⟩
           case measure => simp [intOf]; omega
         ·obtain rfl : k3 = 0 := by omega
          have hY0 : Y = [] := List.eq_nil_of_length_eq_zero hlk
          have HY0 := Lib.hid hY0
          by_cases h45 : ch = 45
          ·have hd : dl unit ch = unit * 3 := by unfold dl; rw [if_pos h45]
           have HD := Lib.hid hd
           have he : ((ch.toNat : Int) == 45) = true := by rw [h45]; rfl
           have HC := Lib.hid h45
           clear htk hlk hY hA5 hd h45 hY0
           go_wp2_with (at_builtin; refine wpList_append_own _ rfl _ _ 22 rfl w1.heap.size 3 i0 _ 1 8 Tryz.underlying22 hi hz0 hz1 hz2 rfl (by decide) _ _ _ rfl (World.ownsRow.alloc ho _) ⟨wr.heap.size, 0, none⟩ 1 1 [.int .i64 (unit * 3)] rfl rfl (one_cell _ _ _) (one_oneCell _) (by unfold maxLen; omega) (by omega) (by simp; omega) ?_; intro v3 w3 h2_ hgw_ _)
           have ho3 := IsL.app h2_
           have hg3' : w1.grownBy w3 none := gr_grown (gr_alloc hgr _) hgw_ (fun gg e => .inr (ho.low gg e))
           clear h2_ hgw_
           go_wp2_with fail
           go_roundw
           case rel => exact ⟨1, n3 + 1, by omega, by go_num, by omega, by rw [← HT3.out _ (show (L1 ++ isp [unit] Y) ++ [unit * 3] = _ by rw [HY0.out, HD.out]; simp [isp, ispP])]; exact ho3, hg3'⟩
           case measure => simp [intOf]; omega
          ·have hd : dl unit ch = unit := by unfold dl; rw [if_neg h45]
           have HD := Lib.hid hd
           have he : ((ch.toNat : Int) == 45) = false := by
            rw [beq_eq_false_iff_ne]
            intro e
            exact h45 (UInt8.toNat_inj.1 (by show ch.toNat = 45; omega))
           clear htk hlk hY hA5 hd h45 hY0
           go_wp2_with (at_builtin; refine wpList_append_own _ rfl _ _ 22 rfl w1.heap.size 3 i0 _ 1 8 Tryz.underlying22 hi hz0 hz1 hz2 rfl (by decide) _ _ _ rfl (World.ownsRow.alloc ho _) ⟨wr.heap.size, 0, none⟩ 1 1 [.int .i64 (unit)] rfl rfl (one_cell _ _ _) (one_oneCell _) (by unfold maxLen; omega) (by omega) (by simp; omega) ?_; intro v3 w3 h2_ hgw_ _)
           have ho3 := IsL.app h2_
           have hg3' : w1.grownBy w3 none := gr_grown (gr_alloc hgr _) hgw_ (fun gg e => .inr (ho.low gg e))
           clear h2_ hgw_
           go_wp2_with fail
           go_roundw
           case rel => exact ⟨1, n3 + 1, by omega, by go_num, by omega, by rw [← HT3.out _ (show (L1 ++ isp [unit] Y) ++ [unit] = _ by rw [HY0.out, HD.out]; simp [isp, ispP])]; exact ho3, hg3'⟩
           case measure => simp [intOf]; omega
        ·have hf : q.data.toList.take k3 = q.data.toList := List.take_of_length_le (by simp; omega)
         rw [hf] at ho
         have hlt6 : ¬ (k3 : Int) < (q.size : Int) := by omega
         have HO := Lib.hid ho
         clear hf ho hA5
         go_wp2_with fail
         go_roundw
         case rel =>
          refine ⟨k2 + 1, n3, by omega, by go_num, by omega, ?_, hgr⟩
          rw [HT2.out, isp_snoc, ← List.append_assoc, HL1.out]
          exact HO.out
         case measure => simp [intOf]; omega
     ·have hf : (codesW p).take k2 = codesW p := List.take_of_length_le (by rw [HM.out]; omega)
      rw [hf] at ho
      have hlt4 : ¬ (k2 : Int) < (M : Int) := by omega
      have HO := Lib.hid ho
      clear hf ho hA4
      go_wp2_with fail
      go_roundw
      case rel =>
       refine ⟨k + 1, n2, by omega, by go_num, by omega, ?_, hgr⟩
       rw [HT.out, HL0.out]
       exact HO.out
      case measure => simp [intOf]; omega
  ·have hf : (codesOf s).take k = codesOf s := List.take_of_length_le (by rw [HN.out]; omega)
   rw [hf] at ho
   have hlt2 : ¬ (k : Int) < (N : Int) := by omega
   have HO := Lib.hid ho
   clear hf ho hA2
   go_wp2_with fail
   go_ret
   exact ⟨_, rfl, ownsRow_low HO.out.ints hz1w, by rw [HO.out.len]; omega, gr_trans hg1 hgr⟩
end Go.Proofs.YtbpkfkbbkgdlaaaGreatDoor

namespace Go.Proofs.YtbpkfkbbkgdlaaaGreatDoor
open Go.RowKit
set_option linter.unusedVariables false

theorem isp_mem {α : Type} {g : List α} {l : List (List α)} {x : α} (h : x ∈ isp g l) : x ∈ g ∨ ∃ y ∈ l, x ∈ y := by
 cases l with
 | nil => simp [isp] at h
 | cons y r =>
   rcases List.mem_append.1 h with h | h
   ·exact .inr ⟨y, by simp, h⟩
   ·obtain ⟨z, hz, hx⟩ := List.mem_flatMap.1 h
    rcases List.mem_append.1 hx with h | h
    ·exact .inl h
    ·exact .inr ⟨z, by simp [hz], h⟩
theorem sL_bd (ll : List (List ByteArray)) : ∀ x ∈ sL 1 1 ll, 0 ≤ x ∧ x ≤ 7 := by
 intro x hx
 rcases isp_mem hx with h | ⟨y, hy, h⟩
 ·simp at h; omega
 ·obtain ⟨p, _, rfl⟩ := List.mem_map.1 hy
  rcases isp_mem h with h | ⟨z, hz, h⟩
  ·simp at h; omega
  ·obtain ⟨c, _, rfl⟩ := List.mem_map.1 hz
   rcases isp_mem h with h | ⟨u, hu, h⟩
   ·simp at h; omega
   ·obtain ⟨b, _, rfl⟩ := List.mem_map.1 hu
    simp at h
    rw [h]
    unfold dl
    split <;> omega
def unitsI (s : ByteArray) : Int := (sL 1 1 (codesOf s)).sum
theorem sum_snoc (l : List Int) (k : Nat) (h : k < l.length) : (l.take (k + 1)).sum = (l.take k).sum + l[k] := by
 rw [List.take_succ_eq_append_getElem h, List.sum_append]
 simp
set_option maxHeartbeats 1000000 in
theorem units_any (b : Nat) (s : ByteArray) (w : World) (hgl : Gl b w) (hs : s.size < 4294967281) :
 Calls Tryz.prog 80 #[.string s] w fun e w' => e = .returned (.tuple #[.int .i64 (okI (saidE s) (unitsI s)), .int .i64 (saidE s)]) ∧ w.grownBy w' none := by
 obtain ⟨E, hE⟩ : ∃ E, saidE s = E := ⟨_, rfl⟩
 have HGL := Lib.hid hgl
 clear hgl
 rw [hE]
 have HC : Hid (∀ W : World, Gl b W → Calls Tryz.prog 130 #[.string s] W fun e w' => e = .returned (.int .i64 E) ∧ W.grownBy w' none) := fun W h => by
  have := checkSaid_any b s W h hs
  rw [hE] at this
  exact this
 by_cases h0 : E = 0
 ·subst h0
  have h5 := (saidE_zero hE).1
  have HEE := Lib.hid hE
  clear hE
  go_enter Tryz.func80, Tryz.ntmps80
  go_wp2_with fail
  refine (HC.out _ HGL.out).mono ?_
  rintro _ w1 ⟨rfl, hg1⟩
  go_wp2_with fail
  refine (lengths_any b s 1 1 _ (HGL.out.quiet hg1) h5 (by decide) (by decide) (by decide) (by decide)).mono ?_
  rintro _ w2 ⟨v, rfl, hv, hcm, hg2⟩
  obtain ⟨L, hL⟩ : ∃ L, sL 1 1 (codesOf s) = L := ⟨_, rfl⟩
  have hbd := sL_bd (codesOf s)
  have hun : unitsI s = L.sum := by unfold unitsI; rw [hL]
  rw [hL] at hv hbd hcm
  obtain ⟨A, c, rfl, hvl, hA⟩ := hv.shape
  have HV := Lib.hid hv
  have HBD := Lib.hid hbd
  have HUN := Lib.hid hun
  have HA := Lib.hid hA
  clear hv hbd hun hL hA hvl
  go_wp2_with fail
  go_loop [5, 16] (fun t i => ∃ (k : Nat) (m : Int), k ≤ L.length ∧ i = .int .i64 k ∧ t = .int .i64 m ∧ 0 ≤ m ∧ m ≤ 7 * k ∧ Hid (m = (L.take k).sum)) (fun _ i => L.length - (intOf i).toNat)
  case atStart => exact ⟨0, 0, by omega, rfl, rfl, by omega, by omega, rfl⟩
  case round =>
   obtain ⟨k, m, hk, rfl, rfl, hm0, hm1, HR⟩ := hrel
   by_cases hlt : k < L.length
   ·obtain ⟨g, rfl, hg0, _⟩ := HA.out (by omega)
    have hat := HV.out.at_ k hlt
    have hb := HBD.out _ (List.getElem_mem hlt)
    have hsn := sum_snoc L k hlt
    obtain ⟨x, hx⟩ : ∃ x, L[k] = x := ⟨_, rfl⟩
    rw [hx] at hat hb hsn
    obtain ⟨hb0, hb1⟩ := hb
    have HS : Hid (m + x = (L.take (k + 1)).sum) := by show _ = _; rw [hsn, HR.out]
    have hlt2 : (k : Int) < (L.length : Int) := by omega
    clear hsn hx
    go_wp2_with fail
    go_round
    case rel => exact ⟨k + 1, m + x, by omega, by go_num, rfl, by omega, by omega, HS⟩
    case measure => simp [intOf]; omega
   ·have hlt2 : ¬ (k : Int) < (L.length : Int) := by omega
    have HF : Hid (m = unitsI s) := by
     show _ = _
     have := HR.out
     rw [List.take_of_length_le (by omega)] at this
     rw [HUN.out, this]
    go_wp2_with fail
    go_ret2
    exact ⟨ret_2i (by rw [HF.out]; rfl) rfl, gr_trans hg1 hg2⟩
 ·have hE0 : (E != 0) = true := by simpa using h0
  have HEE := Lib.hid hE
  clear hE
  go_enter Tryz.func80, Tryz.ntmps80
  go_wp2_with fail
  refine (HC.out _ HGL.out).mono ?_
  rintro _ w1 ⟨rfl, hg1⟩
  have h00 := Lib.hid h0
  clear h0
  go_wp2_with fail
  go_ret2
  exact ⟨ret_2i (by unfold okI; rw [if_neg h00.out]) rfl, hg1⟩
/-- The word that 'ready' asks of. -/
def parisS : ByteArray := ⟨#[112, 97, 114, 105, 115]⟩
theorem paris_ok : saidE parisS = 0 := by decide +kernel
theorem paris_units : unitsI parisS = 43 := by decide +kernel
end Go.Proofs.YtbpkfkbbkgdlaaaGreatDoor

namespace Go.Proofs.YtbpkfkbbkgdlaaaGreatDoor
open Go.RowKit
set_option linter.unusedVariables false

theorem InX.of_row {w : World} {a : Option Addr} {len cap : Nat} {zs : List Int} (h : IsRow .i64 w a len cap zs) : InX w a len := by
 rcases h with ⟨_, rfl, _, _⟩ | ⟨x, rfl, h1, h2, h3, h4, _⟩
 ·exact ⟨by omega, [], rfl, fun h => absurd h (by omega)⟩
 ·unfold maxLen at h2
  refine ⟨by omega, zs.take len, by simp; omega, fun hn => ⟨x, rfl, ?_, fun j hj => ?_⟩⟩
  ·have := World.block_lt_of_cell? w _ (h4 0 (by omega))
   rwa [add_block] at this
  ·rw [h4 j (by omega), List.getD_eq_getElem?_getD, List.getD_eq_getElem?_getD, List.getElem?_take_of_lt hj]
theorem own_far {w w' : World} {base : Nat} {e : TypeId} {s : Nat} {v : Value} {n : Nat} {xs : List Value} (h : w.ownsRow base e s v n xs) {row : Option Nat} (hg : w.grownBy w' row) (hr : ∀ g, row = some g → g < base) : w'.ownsRow base e s v n xs := by
 refine h.kept hg ?_
 cases hv : v.ownBlock with
 | none => exact .inl rfl
 | some g => exact .inr fun e => by have h1 := hr g e.symm; have h2 := (h.lt g hv).1; omega
theorem own_low {w w' : World} {base B : Nat} {e : TypeId} {s : Nat} {v : Value} {n : Nat} {xs : List Value} (h : w.ownsRow base e s v n xs) (hv : ∀ g, v.ownBlock = some g → g < B) {row : Option Nat} (hg : w.grownBy w' row) (hr : ∀ g, row = some g → B ≤ g) : w'.ownsRow base e s v n xs := by
 refine h.kept hg ?_
 cases hv' : v.ownBlock with
 | none => exact .inl rfl
 | some g => exact .inr fun e => by have h1 := hr g e.symm; have h2 := hv g hv'; omega
theorem two_streams (w : World) (A : Option Addr) (n c : Nat) : ∃ W, W = (w.alloc (.cells #[.slice A n c, .int .i64 0] 25)).alloc (.cells #[.slice A n c, .int .i64 0] 25) ∧ Blk W w.heap.size 25 #[.slice A n c, .int .i64 0] ∧ Blk W (w.heap.size + 1) 25 #[.slice A n c, .int .i64 0] ∧ W.heap.size = w.heap.size + 2 ∧ w.grownBy W none :=
 ⟨_, rfl, (Blk.new w _ _).alloc _, by simpa using Blk.new (w.alloc (.cells #[.slice A n c, .int .i64 0] 25)) 25 #[.slice A n c, .int .i64 0], by simp, gr_alloc (World.grownBy_alloc w _ none) _⟩
end Go.Proofs.YtbpkfkbbkgdlaaaGreatDoor

namespace Go.Proofs.YtbpkfkbbkgdlaaaGreatDoor
open Go.RowKit
set_option linter.unusedVariables false
set_option linter.unusedSimpArgs false

set_option maxRecDepth 100000 in
set_option maxHeartbeats 4000000 in
theorem entityFault_any (base : Nat) (v : Value) (l : List Ent) (k : Nat) (w : World) (hl : EntsFrom base w v l) (hlt : k < l.length) (hbig : l.length ≤ 1000) (hsm : EntSm l[k]) :
 Calls Tryz.prog 52 #[v, .int .i64 k] w fun r w' => r = .returned (.int .i64 (entE1 (prevL l k) l[k])) ∧ w.grownBy w' none := by
 obtain ⟨A, c, rfl, hlen, hA⟩ := hl.shape
 obtain ⟨g, rfl, hg0, hglt⟩ := hA (by omega)
 obtain ⟨q0, q1, q2, q3, q4⟩ := hl.at_ k hlt
 obtain ⟨s1, s2, s3⟩ := hsm
 have HPV : Hid (∀ j, k = j + 1 → ∃ q : Ent, prevL l k = some q ∧ w.cell? ⟨g, j * 5, none⟩ = some (.string q.key)) := fun j hj => by
  subst hj
  exact ⟨l[j], prevL_succ l j (by omega), (hl.at_ j (by omega)).1⟩
 have hcs := entE1_cases (prevL l k) l[k]
 have hki : (k : Int) < (l.length : Int) := by omega
 have hk0' : (0 : Int) ≤ (k : Int) := by omega
 generalize l[k].key = K at *
 generalize l[k].cont = C at *
 generalize l[k].zone = Z at *
 generalize l[k].a = ea at *
 generalize l[k].z = ez at *
 obtain ⟨E, hE⟩ : ∃ E, entE1 (prevL l k) l[k] = E := ⟨_, rfl⟩
 rw [hE] at hcs ⊢
 obtain ⟨KB, hKB⟩ : ∃ x, keyB K.data.toList = x := ⟨_, rfl⟩
 obtain ⟨CB, hCB⟩ : ∃ x, outB C 1 7 = x := ⟨_, rfl⟩
 obtain ⟨ZB, hZB⟩ : ∃ x, outB Z 1 90 = x := ⟨_, rfl⟩
 obtain ⟨TB, hTB⟩ : ∃ x, timeB ea ez = x := ⟨_, rfl⟩
 have hKE := fun W => isKey_any K W s1
 have hIC := fun W => outside_any C 1 7 W
 have hIZ := fun W => outside_any Z 1 90 W
 have hTF := fun W => isTime_any ea ez W s2 s3
 rw [hKB] at hcs hKE
 rw [hCB] at hcs hIC
 rw [hZB] at hcs hIZ
 rw [hTB] at hcs hTF
 have HKE := Lib.hid hKE
 have HIC := Lib.hid hIC
 have HIZ := Lib.hid hIZ
 have HTF := Lib.hid hTF
 have HCS := Lib.hid hcs
 have hB := Blk.new w 77 #[.string K, .int .i64 C, .int .i64 Z, .int .i64 ea, .int .i64 ez]
 have hgA := World.grownBy_alloc w (.cells #[.string K, .int .i64 C, .int .i64 Z, .int .i64 ea, .int .i64 ez] 77) none
 clear hE hKB hCB hZB hTB hKE hIC hIZ hTF hcs hl hA
 go_enter Tryz.func52, Tryz.ntmps52
 go_upto_region 2 with fail
 generalize w.alloc (.cells #[.string K, .int .i64 C, .int .i64 Z, .int .i64 ea, .int .i64 ez] 77) = w1 at *
 generalize w.heap.size = gE at *
 have k0 := hB.cell 0
 have k1 := hB.cell 1
 have k2 := hB.cell 2
 simp only [List.getElem?_toArray, List.getElem?_cons_zero, List.getElem?_cons_succ] at k0 k1 k2
 go_wp2_with fail
 refine (HKE.out _).mono ?_
 rintro _ w2 ⟨rfl, hg2⟩
 have hB2 := hB.grown hg2 (by simp)
 clear k0 k1 k2 q0 q1 q2 q3 q4
 have k0 := hB2.cell 0
 have k1 := hB2.cell 1
 have k2 := hB2.cell 2
 have k3 := hB2.cell 3
 have k4 := hB2.cell 4
 simp only [List.getElem?_toArray, List.getElem?_cons_zero, List.getElem?_cons_succ] at k0 k1 k2 k3 k4
 have hg12 := gr_trans hgA hg2
 cases KB
 ·have hE : Hid (E = 5) := by show _ = _; simpa using HCS.out
  go_wp2_with fail
  go_ret
  exact ⟨ret_of hE.out.symm, hg12⟩
 ·go_wp2_with fail
  refine (HIC.out _).mono ?_
  rintro _ _ ⟨rfl, rfl⟩
  cases CB
  ·go_wp2_with fail
   refine (HIZ.out _).mono ?_
   rintro _ _ ⟨rfl, rfl⟩
   cases ZB
   ·go_wp2_with fail
    refine (HTF.out _).mono ?_
    rintro _ w3 ⟨rfl, hg3⟩
    have hB3 := hB2.grown hg3 (by simp)
    have hg13 := gr_trans hg12 hg3
    clear k0 k1 k2 k3 k4
    have k0 := hB3.cell 0
    simp only [List.getElem?_toArray, List.getElem?_cons_zero] at k0
    cases TB
    ·have hE : Hid (E = 1) := by show _ = _; simpa using HCS.out
     go_wp2_with fail
     go_ret
     exact ⟨ret_of hE.out.symm, hg13⟩
    ·rcases Nat.eq_zero_or_pos k with hk0 | hk0
     ·have hp : prevL l k = none := by rw [hk0]; rfl
      have hE : Hid (E = 0) := by
       have := HCS.out
       rw [hp] at this
       show _ = _
       simpa using this
      have hkn : decide ((0 : Int) < (k : Int)) = false := by simp; omega
      have hknN : decide (0 < k) = false := by simp; omega
      clear hp hk0 HPV
      go_wp2_with fail
      refine wp_region_held_drew (S := fun _ => True) (by kernel_rfl) trivial (fun hHeld => ?_)
      refine wpAnyH_take (i := 0) (v := ?_) rfl (by kernel_rfl) (by kernel_rfl) (by kernel_rfl) (fun _ _ _ h => h) (Or.inl ⟨by kernel_rfl, ?_⟩) hHeld ?_
      rotate_left
      ·intro w hSw
       (try dsimp only at hSw)
       go_simp
       (try with_reducible rfl)
      change wpAnyH _ _ _ _ _ _ _ (Act.put _ (some 30) _) _
      simp only [Act.put, ssA, ssZ, ssS]
      refine wpAnyH_take (i := 1) (v := ?_) rfl (by kernel_rfl) (by kernel_rfl) (by kernel_rfl) (fun _ _ _ h => h) (Or.inl ⟨by kernel_rfl, ?_⟩) hHeld ?_
      rotate_left
      ·intro w hSw
       (try dsimp only at hSw)
       go_simp
       (try with_reducible rfl)
      change wpAnyH _ _ _ _ _ _ _ (Act.put _ (some 31) _) _
      simp only [Act.put, ssA, ssZ, ssS]
      refine wpAnyH_take (i := 2) (v := ?_) rfl (by kernel_rfl) (by kernel_rfl) (by kernel_rfl) (fun _ _ _ h => h) (Or.inl ⟨by kernel_rfl, ?_⟩) hHeld ?_
      rotate_left
      ·intro w hSw
       (try dsimp only at hSw)
       go_simp
       (try with_reducible rfl)
      change wpAnyH _ _ _ _ _ _ _ (Act.put _ (some 32) _) _
      simp only [Act.put, ssA, ssZ, ssS]
      refine wpAnyH_take (i := 3) (v := undef) rfl (by kernel_rfl) (by kernel_rfl) (by kernel_rfl) (fun _ _ _ h => h) (Or.inr ⟨by kernel_rfl, rfl⟩) hHeld ?_
      change wpAnyH _ _ _ _ _ _ _ (Act.put _ (some 33) _) _
      simp only [Act.put, ssA, ssZ, ssS]
      refine wpAnyH_take (i := 4) (v := undef) rfl (by kernel_rfl) (by kernel_rfl) (by kernel_rfl) (fun _ _ _ h => h) (Or.inr ⟨by kernel_rfl, rfl⟩) hHeld ?_
      change wpAnyH _ _ _ _ _ _ _ (Act.put _ (some 34) _) _
      simp only [Act.put, ssA, ssZ, ssS]
      refine wpAnyH_take (i := 5) (v := undef) rfl (by kernel_rfl) (by kernel_rfl) (by kernel_rfl) (fun _ _ _ h => h) (Or.inr ⟨by kernel_rfl, rfl⟩) hHeld ?_
      change wpAnyH _ _ _ _ _ _ _ (Act.put _ (some 35) _) _
      simp only [Act.put, ssA, ssZ, ssS]
      refine wpAnyH_take (i := 6) (v := undef) rfl (by kernel_rfl) (by kernel_rfl) (by kernel_rfl) (fun _ _ _ h => h) (Or.inr ⟨by kernel_rfl, rfl⟩) hHeld ?_
      change wpAnyH _ _ _ _ _ _ _ (Act.put _ (some 36) _) _
      simp only [Act.put, ssA, ssZ, ssS]
      refine wpAnyH_take (i := 7) (v := undef) rfl (by kernel_rfl) (by kernel_rfl) (by kernel_rfl) (fun _ _ _ h => h) (Or.inr ⟨by kernel_rfl, rfl⟩) hHeld ?_
      change wpAnyH _ _ _ _ _ _ _ (Act.put _ (some 37) _) _
      simp only [Act.put, ssA, ssZ, ssS]
      refine wpAnyH_take (i := 8) (v := undef) rfl (by kernel_rfl) (by kernel_rfl) (by kernel_rfl) (fun _ _ _ h => h) (Or.inr ⟨by kernel_rfl, rfl⟩) hHeld ?_
      change wpAnyH _ _ _ _ _ _ _ (Act.put _ (some 38) _) _
      simp only [Act.put, ssA, ssZ, ssS]
      refine wpAnyH_take (i := 9) (v := undef) rfl (by kernel_rfl) (by kernel_rfl) (by kernel_rfl) (fun _ _ _ h => h) (Or.inr ⟨by kernel_rfl, rfl⟩) hHeld ?_
      change wpAnyH _ _ _ _ _ _ _ (Act.put _ (some 39) _) _
      simp only [Act.put, ssA, ssZ, ssS]
      refine wpAnyH_take (i := 10) (v := undef) rfl (by kernel_rfl) (by kernel_rfl) (by kernel_rfl) (fun _ _ _ h => h) (Or.inr ⟨by kernel_rfl, rfl⟩) hHeld ?_
      change wpAnyH _ _ _ _ _ _ _ (Act.put _ (some 40) _) _
      simp only [Act.put, ssA, ssZ, ssS]
      refine wpAnyH_take (i := 11) (v := undef) rfl (by kernel_rfl) (by kernel_rfl) (by kernel_rfl) (fun _ _ _ h => h) (Or.inr ⟨by kernel_rfl, rfl⟩) hHeld ?_
      change wpAnyH _ _ _ _ _ _ _ (Act.put _ (some 41) _) _
      simp only [Act.put, ssA, ssZ, ssS]
      refine wpAnyH_take (i := 12) (v := ?_) rfl (by kernel_rfl) (by kernel_rfl) (by kernel_rfl) (fun _ _ _ h => h) (Or.inl ⟨by kernel_rfl, ?_⟩) hHeld ?_
      rotate_left
      ·intro w hSw
       (try dsimp only at hSw)
       go_simp
       (try with_reducible rfl)
      change wpAnyH _ _ _ _ _ _ _ (Act.put _ (some 42) _) _
      simp only [Act.put, ssA, ssZ, ssS]
      refine wpAnyH_take (i := 13) (v := ?_) rfl (by kernel_rfl) (by kernel_rfl) (by kernel_rfl) (fun _ _ _ h => h) (Or.inl ⟨by kernel_rfl, ?_⟩) hHeld ?_
      rotate_left
      ·intro w hSw
       (try dsimp only at hSw)
       go_simp
       (try with_reducible rfl)
      change wpAnyH _ _ _ _ _ _ _ (Act.put _ (some 29) _) _
      simp only [Act.put, ssA, ssZ, ssS]
      refine wpAnyH_done (by kernel_rfl) ?_ _
      go_wp2_with fail
      go_ret
      exact ⟨ret_of hE.out.symm, gr_drew hg13⟩
     ·obtain ⟨j, hj⟩ : ∃ j, k = j + 1 := ⟨k - 1, by omega⟩
      obtain ⟨q, hq, cq⟩ := HPV.out j hj
      obtain ⟨QK, hQK⟩ : ∃ x, q.key = x := ⟨_, rfl⟩
      rw [hQK] at cq
      obtain ⟨LB, hLB⟩ : ∃ x, (Op.bytesLess K.toList QK.toList || K.toList == QK.toList) = x := ⟨_, rfl⟩
      have hE : E = if LB then 7 else 0 := by
       have h := HCS.out
       rw [hq] at h
       have h2 : leS K q.key = LB := by rw [hQK]; exact hLB
       simpa [h2] using h
      have cq3 := hg13.cell cq (by simp)
      have e2 : IntKind.i64.wrap ((k : Int) - 1) = (j : Int) := by rw [show (k : Int) - 1 = (j : Int) by omega, IntKind.wrap_i64]; omega
      have e3 : IntKind.i64.wrap (j : Int) = (j : Int) := by rw [IntKind.wrap_i64]; omega
      have hj0 : (0 : Int) ≤ (j : Int) := by omega
      have hj1 : (j : Int) < (l.length : Int) := by omega
      have hj2 : j < l.length := by omega
      have hkn : decide ((0 : Int) < (k : Int)) = true := by simp; omega
      have hknN : decide (0 < k) = true := by simp; omega
      have hkn2 : (0 : Int) < (k : Int) := by omega
      have HJ := Lib.hid hj
      have HEE := Lib.hid hE
      clear hE hq hk0 HPV hj cq hQK
      go_wp2_with fail
      refine wp_region_held_drew (S := fun W => W.cell? ⟨gE, 0, none⟩ = some (.string K) ∧ W.cell? ⟨g, j * 5, none⟩ = some (.string QK)) (by kernel_rfl) ⟨k0, cq3⟩ (fun hHeld => ?_)
      refine wpAnyH_take (i := 0) (v := ?_) rfl (by kernel_rfl) (by kernel_rfl) (by kernel_rfl) (fun _ _ _ h => h) (Or.inl ⟨by kernel_rfl, ?_⟩) hHeld ?_
      rotate_left
      ·intro w hSw
       (try dsimp only at hSw)
       obtain ⟨hS0, hS1⟩ := hSw
       go_simp
       (try with_reducible rfl)
      change wpAnyH _ _ _ _ _ _ _ (Act.put _ (some 30) _) _
      simp only [Act.put, ssA, ssZ, ssS]
      refine wpAnyH_take (i := 1) (v := ?_) rfl (by kernel_rfl) (by kernel_rfl) (by kernel_rfl) (fun _ _ _ h => h) (Or.inl ⟨by kernel_rfl, ?_⟩) hHeld ?_
      rotate_left
      ·intro w hSw
       (try dsimp only at hSw)
       obtain ⟨hS0, hS1⟩ := hSw
       go_simp
       (try with_reducible rfl)
      change wpAnyH _ _ _ _ _ _ _ (Act.put _ (some 31) _) _
      simp only [Act.put, ssA, ssZ, ssS]
      refine wpAnyH_take (i := 2) (v := ?_) rfl (by kernel_rfl) (by kernel_rfl) (by kernel_rfl) (fun _ _ _ h => h) (Or.inl ⟨by kernel_rfl, ?_⟩) hHeld ?_
      rotate_left
      ·intro w hSw
       (try dsimp only at hSw)
       obtain ⟨hS0, hS1⟩ := hSw
       go_simp
       (try with_reducible rfl)
      change wpAnyH _ _ _ _ _ _ _ (Act.put _ (some 32) _) _
      simp only [Act.put, ssA, ssZ, ssS]
      refine wpAnyH_take (i := 3) (v := ?_) rfl (by kernel_rfl) (by kernel_rfl) (by kernel_rfl) (fun _ _ _ h => h) (Or.inl ⟨by kernel_rfl, ?_⟩) hHeld ?_
      rotate_left
      ·intro w hSw
       (try dsimp only at hSw)
       obtain ⟨hS0, hS1⟩ := hSw
       go_simp
       (try with_reducible rfl)
      change wpAnyH _ _ _ _ _ _ _ (Act.put _ (some 33) _) _
      simp only [Act.put, ssA, ssZ, ssS]
      refine wpAnyH_take (i := 4) (v := ?_) rfl (by kernel_rfl) (by kernel_rfl) (by kernel_rfl) (fun _ _ _ h => h) (Or.inl ⟨by kernel_rfl, ?_⟩) hHeld ?_
      rotate_left
      ·intro w hSw
       (try dsimp only at hSw)
       obtain ⟨hS0, hS1⟩ := hSw
       go_simp
       (try with_reducible rfl)
      change wpAnyH _ _ _ _ _ _ _ (Act.put _ (some 34) _) _
      simp only [Act.put, ssA, ssZ, ssS]
      refine wpAnyH_take (i := 5) (v := ?_) rfl (by kernel_rfl) (by kernel_rfl) (by kernel_rfl) (fun _ _ _ h => h) (Or.inl ⟨by kernel_rfl, ?_⟩) hHeld ?_
      rotate_left
      ·intro w hSw
       (try dsimp only at hSw)
       obtain ⟨hS0, hS1⟩ := hSw
       go_simp
       (try with_reducible rfl)
      change wpAnyH _ _ _ _ _ _ _ (Act.put _ (some 35) _) _
      simp only [Act.put, ssA, ssZ, ssS]
      refine wpAnyH_take (i := 6) (v := ?_) rfl (by kernel_rfl) (by kernel_rfl) (by kernel_rfl) (fun _ _ _ h => h) (Or.inl ⟨by kernel_rfl, ?_⟩) hHeld ?_
      rotate_left
      ·intro w hSw
       (try dsimp only at hSw)
       obtain ⟨hS0, hS1⟩ := hSw
       go_simp
       (try with_reducible rfl)
      change wpAnyH _ _ _ _ _ _ _ (Act.put _ (some 36) _) _
      simp only [Act.put, ssA, ssZ, ssS]
      refine wpAnyH_take (i := 7) (v := ?_) rfl (by kernel_rfl) (by kernel_rfl) (by kernel_rfl) (fun _ _ _ h => h) (Or.inl ⟨by kernel_rfl, ?_⟩) hHeld ?_
      rotate_left
      ·intro w hSw
       (try dsimp only at hSw)
       obtain ⟨hS0, hS1⟩ := hSw
       go_simp
       (try with_reducible rfl)
      change wpAnyH _ _ _ _ _ _ _ (Act.put _ (some 37) _) _
      simp only [Act.put, ssA, ssZ, ssS]
      refine wpAnyH_take (i := 8) (v := ?_) rfl (by kernel_rfl) (by kernel_rfl) (by kernel_rfl) (fun _ _ _ h => h) (Or.inl ⟨by kernel_rfl, ?_⟩) hHeld ?_
      rotate_left
      ·intro w hSw
       (try dsimp only at hSw)
       obtain ⟨hS0, hS1⟩ := hSw
       go_simp
       (try with_reducible rfl)
      change wpAnyH _ _ _ _ _ _ _ (Act.put _ (some 38) _) _
      simp only [Act.put, ssA, ssZ, ssS]
      refine wpAnyH_take (i := 9) (v := ?_) rfl (by kernel_rfl) (by kernel_rfl) (by kernel_rfl) (fun _ _ _ h => h) (Or.inl ⟨by kernel_rfl, ?_⟩) hHeld ?_
      rotate_left
      ·intro w hSw
       (try dsimp only at hSw)
       obtain ⟨hS0, hS1⟩ := hSw
       go_simp
       (try with_reducible rfl)
      change wpAnyH _ _ _ _ _ _ _ (Act.put _ (some 39) _) _
      simp only [Act.put, ssA, ssZ, ssS]
      refine wpAnyH_take (i := 10) (v := ?_) rfl (by kernel_rfl) (by kernel_rfl) (by kernel_rfl) (fun _ _ _ h => h) (Or.inl ⟨by kernel_rfl, ?_⟩) hHeld ?_
      rotate_left
      ·intro w hSw
       (try dsimp only at hSw)
       obtain ⟨hS0, hS1⟩ := hSw
       go_simp
       (try with_reducible rfl)
      change wpAnyH _ _ _ _ _ _ _ (Act.put _ (some 40) _) _
      simp only [Act.put, ssA, ssZ, ssS]
      refine wpAnyH_take (i := 11) (v := ?_) rfl (by kernel_rfl) (by kernel_rfl) (by kernel_rfl) (fun _ _ _ h => h) (Or.inl ⟨by kernel_rfl, ?_⟩) hHeld ?_
      rotate_left
      ·intro w hSw
       (try dsimp only at hSw)
       obtain ⟨hS0, hS1⟩ := hSw
       go_simp
       (try with_reducible rfl)
      change wpAnyH _ _ _ _ _ _ _ (Act.put _ (some 41) _) _
      simp only [Act.put, ssA, ssZ, ssS]
      refine wpAnyH_take (i := 12) (v := ?_) rfl (by kernel_rfl) (by kernel_rfl) (by kernel_rfl) (fun _ _ _ h => h) (Or.inl ⟨by kernel_rfl, ?_⟩) hHeld ?_
      rotate_left
      ·intro w hSw
       (try dsimp only at hSw)
       obtain ⟨hS0, hS1⟩ := hSw
       go_simp
       (try with_reducible rfl)
      change wpAnyH _ _ _ _ _ _ _ (Act.put _ (some 42) _) _
      simp only [Act.put, ssA, ssZ, ssS]
      refine wpAnyH_take (i := 13) (v := ?_) rfl (by kernel_rfl) (by kernel_rfl) (by kernel_rfl) (fun _ _ _ h => h) (Or.inl ⟨by kernel_rfl, ?_⟩) hHeld ?_
      rotate_left
      ·intro w hSw
       (try dsimp only at hSw)
       obtain ⟨hS0, hS1⟩ := hSw
       go_simp
       (try with_reducible rfl)
      change wpAnyH _ _ _ _ _ _ _ (Act.put _ (some 29) _) _
      simp only [Act.put, ssA, ssZ, ssS]
      refine wpAnyH_done (by kernel_rfl) ?_ _
      cases LB
      ·have hE : Hid (E = 0) := by show _ = _; simpa using HEE.out
       go_wp2_with fail
       go_ret
       exact ⟨ret_of hE.out.symm, gr_drew hg13⟩
      ·have hE : Hid (E = 7) := by show _ = _; simpa using HEE.out
       go_wp2_with fail
       go_ret
       exact ⟨ret_of hE.out.symm, gr_drew hg13⟩
   ·have hE : Hid (E = 1) := by show _ = _; simpa using HCS.out
    go_wp2_with fail
    go_ret
    exact ⟨ret_of hE.out.symm, hg12⟩
  ·have hE : Hid (E = 4) := by show _ = _; simpa using HCS.out
   go_wp2_with fail
   go_ret
   exact ⟨ret_of hE.out.symm, hg12⟩
set_option maxRecDepth 100000 in
set_option maxHeartbeats 4000000 in
theorem checkEntities_any (base : Nat) (v : Value) (l : List Ent) (w : World) (hl : EntsFrom base w v l) (hsm : ∀ e ∈ l, EntSm e) :
 Calls Tryz.prog 12 #[v] w fun r w' => r = .returned (.int .i64 (entsE l)) ∧ w.grownBy w' none := by
 have HL := Lib.hid hl
 obtain ⟨A, c, rfl, hlen, _⟩ := hl.shape
 clear hl
 by_cases hbig : 400 < l.length
 ·have HE : Hid (entsE l = 2) := by show _ = _; unfold entsE; rw [if_pos hbig]
  have hb : (400 : Int) < (l.length : Int) := by omega
  go_enter Tryz.func12, Tryz.ntmps12
  go_wp2_with fail
  go_ret
  exact ⟨ret_of HE.out.symm, gr_refl _ _⟩
 ·have HE : Hid (entsE l = entsScan none l) := by show _ = _; unfold entsE; rw [if_neg hbig]
  have hb : ¬ (400 : Int) < (l.length : Int) := by omega
  go_enter Tryz.func12, Tryz.ntmps12
  go_wp2_with fail
  go_loopw [10] (fun iv wr => ∃ k : Nat, k ≤ l.length ∧ iv = .int .i64 k ∧ Hid (entsE l = entsScan (prevL l k) (l.drop k)) ∧ w.grownBy wr none) (fun iv _ => l.length - (intOf iv).toNat)
  case atStart => exact ⟨0, by omega, rfl, HE, gr_refl _ _⟩
  case round =>
   obtain ⟨k, hk, rfl, HN, hg⟩ := hrel
   by_cases hlt : k < l.length
   ·have hki : (k : Int) < (l.length : Int) := by omega
    have hst := entsScan_step l k hlt
    rw [← HN.out] at hst
    have HF := Lib.hid (entityFault_any base _ l k wr (HL.out.grown hg) hlt (by omega) (hsm _ (List.getElem_mem hlt)))
    generalize entE1 (prevL l k) l[k] = E at *
    by_cases hE : E = 0
    ·have HR : Hid (entsE l = entsScan (prevL l (k + 1)) (l.drop (k + 1))) := by show _ = _; rw [hst, if_pos hE]
     subst hE
     clear hst
     go_wp2_with fail
     refine HF.out.mono ?_
     rintro _ w2 ⟨rfl, hg2⟩
     go_wp2_with fail
     go_roundw
     case rel => exact ⟨k + 1, by omega, by go_num, HR, gr_trans hg hg2⟩
     case measure => simp [intOf]; omega
    ·have HR : Hid (entsE l = E) := by show _ = _; rw [hst, if_neg hE]
     have hEb : (E != 0) = true := by simpa using hE
     clear hst hE
     go_wp2_with fail
     refine HF.out.mono ?_
     rintro _ w2 ⟨rfl, hg2⟩
     go_wp2_with fail
     go_ret
     exact ⟨ret_of HR.out.symm, gr_trans hg hg2⟩
   ·obtain rfl : k = l.length := by omega
    have hkl : ¬ (l.length : Int) < (l.length : Int) := by omega
    have HR : Hid (entsE l = 0) := by show _ = _; rw [HN.out, entsScan_end]
    go_wp2_with fail
    go_ret
    exact ⟨ret_of HR.out.symm, hg⟩
end Go.Proofs.YtbpkfkbbkgdlaaaGreatDoor

namespace Go.Proofs.YtbpkfkbbkgdlaaaGreatDoor
open Go.RowKit
set_option linter.unusedVariables false
set_option linter.unusedSimpArgs false

set_option maxRecDepth 100000 in
set_option maxHeartbeats 2000000 in
theorem isCallE_any (s : ByteArray) (w : World) (hs : s.size ≤ 1000000000) (ha : Ascii s) :
 Calls Tryz.prog 36 #[.string s] w fun e w' => e = .returned (.bool (partsOf s).isSome) ∧ w.grownBy w' none := by
 go_enter Tryz.func36, Tryz.ntmps36
 go_wp2_with fail
 refine (parts_any s _ (by omega) ha).mono ?_
 rintro _ w1 ⟨hg, ⟨hn, rfl⟩ | ⟨t, k, kd, ad, hn, rfl⟩⟩
 ·have HN := Lib.hid hn
  clear hn
  go_wp2_with fail
  go_ret
  exact ⟨by rw [HN.out]; rfl, gr_alloc hg _⟩
 ·have HN := Lib.hid hn
  clear hn
  go_wp2_with fail
  go_ret
  exact ⟨by rw [HN.out]; rfl, gr_alloc hg _⟩
end Go.Proofs.YtbpkfkbbkgdlaaaGreatDoor
