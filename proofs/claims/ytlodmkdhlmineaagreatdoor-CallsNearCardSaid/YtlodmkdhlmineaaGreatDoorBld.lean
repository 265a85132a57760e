/- strings.Builder beside other rows of bytes: its own block and its buffer's row alone turn: WriteByte, WriteString, String, Reset. No condition but short texts. -/
import Derived.Test.YtlodmkdhlmineaaGreatDoorInts
import Derived.Test.YtlodmkdhlmineaaGreatDoorShelf
import Derived.Lib.UnsafeStr
import Derived.Lib.AppendStr
namespace Go.Proofs.YtlodmkdhlmineaaGreatDoor
open Go.RowKit
set_option linter.unusedVariables false
set_option linter.unusedSimpArgs false

/-- Block b is a builder whose buffer v holds l, in a row from base on. -/
structure Bld (w : World) (base b : Nat) (v : Value) (l : List UInt8) : Prop where
  at_ : ∃ p, (p = .pointer none ∨ p = .pointer (some ⟨b, 0, none⟩)) ∧ Blk w b 133 #[p, v]
  row : w.ownsRow base 5 1 v l.length (Lib.byteCells l)
theorem Bld.lt {w : World} {base b : Nat} {v : Value} {l : List UInt8} (h : Bld w base b v l) : b < w.heap.size := by
  obtain ⟨⟨p, _, hb⟩, _⟩ := h
  exact hb.lt
theorem Bld.ne {w : World} {base b : Nat} {v : Value} {l : List UInt8} (h : Bld w base b v l) : v.ownBlock ≠ some b := by
  obtain ⟨⟨p, _, hb⟩, hr⟩ := h
  rcases hr.2 with ⟨rfl, _⟩ | ⟨g, cap, cur, rfl, _, hg, _⟩
  · simp [Value.ownBlock]
  · intro he
    simp only [Value.ownBlock, Option.some.injEq] at he
    subst he
    unfold Blk at hb
    rw [hg] at hb
    simp at hb
theorem Bld.fresh (w : World) (base : Nat) : Bld (w.alloc (.cells #[.pointer none, .slice none 0 0] 133)) base w.heap.size (.slice none 0 0) [] :=
  ⟨⟨_, .inl rfl, Blk.new _ _ _⟩, World.ownsRow_nil _ _ _ _⟩
theorem Bld.kept {w w' : World} {base b : Nat} {v : Value} {l : List UInt8} (h : Bld w base b v l) {row : Option Nat} (hg : w.grownBy w' row) (h1 : row ≠ some b) (h2 : ∀ g, v.ownBlock = some g → row ≠ some g) : Bld w' base b v l := by
  obtain ⟨⟨p, hp, hb⟩, hr⟩ := h
  refine ⟨⟨p, hp, hb.grown hg (Ne.symm h1)⟩, hr.kept hg ?_⟩
  cases hv : v.ownBlock with
  | none => exact .inl rfl
  | some g => exact .inr (fun e => h2 g hv e.symm)
theorem Bld.quiet {w w' : World} {base b : Nat} {v : Value} {l : List UInt8} (h : Bld w base b v l) (hg : w.grownBy w' none) : Bld w' base b v l := h.kept hg (by simp) (by simp)
theorem Bld.low {w : World} {base base' b : Nat} {v : Value} {l : List UInt8} (h : Bld w base b v l) (hb : base' ≤ base) : Bld w base' b v l := ⟨h.at_, ownsRow_low h.row hb⟩

/-- Block b and the row r alone have turned. -/
def Gb (w w' : World) (b : Nat) (r : Option Nat) : Prop := ∃ w1 w2, w.grownBy w1 (some b) ∧ w1.grownBy w2 r ∧ w2.grownBy w' (some b)
theorem Gb.size {w w' : World} {b : Nat} {r : Option Nat} (h : Gb w w' b r) : w.heap.size ≤ w'.heap.size := by
  obtain ⟨w1, w2, h1, h2, h3⟩ := h
  have := h1.size; have := h2.size; have := h3.size
  omega
theorem Gb.out {a w w' : World} {b : Nat} {r : Option Nat} (h : Gb w w' b r) (ha : a.grownBy w none) (hb : a.heap.size ≤ b) (hr : ∀ g, r = some g → a.heap.size ≤ g) : a.grownBy w' none := by
  obtain ⟨w1, w2, h1, h2, h3⟩ := h
  exact gr_grown (gr_grown (gr_grown ha h1 (fun g e => by injection e with e; exact .inr (by omega))) h2 (fun g e => .inr (hr g e))) h3 (fun g e => by injection e with e; exact .inr (by omega))
theorem Gb.bld {w w' : World} {b : Nat} {r : Option Nat} (h : Gb w w' b r) {base c : Nat} {v : Value} {l : List UInt8} (hB : Bld w base c v l) (h1 : c ≠ b) (h2 : r ≠ some c) (h3 : v.ownBlock ≠ some b) (h4 : ∀ g, v.ownBlock = some g → r ≠ some g) : Bld w' base c v l := by
  obtain ⟨w1, w2, g1, g2, g3⟩ := h
  have hb : ∀ g, v.ownBlock = some g → some b ≠ some g := fun g e e2 => h3 (by rw [e]; exact e2.symm)
  exact ((hB.kept g1 (fun e => h1 (by injection e with e; exact e.symm)) hb).kept g2 h2 h4).kept g3 (fun e => h1 (by injection e with e; exact e.symm)) hb

theorem row_lo {w : World} {base b : Nat} {v : Value} {l : List UInt8} (h : Bld w base b v l) : ∀ g, v.ownBlock = some g → base ≤ g ∧ g < w.heap.size := fun g e => h.row.lt g e
theorem Gb.blk {w w' : World} {b : Nat} {r : Option Nat} (h : Gb w w' b r) {g : Nat} {t : TypeId} {cs : Array Value} (hB : Blk w g t cs) (h1 : g ≠ b) (h2 : r ≠ some g) : Blk w' g t cs := by
  obtain ⟨w1, w2, g1, g2, g3⟩ := h
  exact ((hB.grown g1 (by simpa using h1)).grown g2 (Ne.symm h2)).grown g3 (by simpa using h1)

theorem u8Info : (Tryz.prog.info? 5).map (fun i => (i.zero, i.size, i.bytes)) = some (some (.int .u8 0), 1, 1) := by kernel_rfl

theorem bld_check (b : Nat) (p v : Value) (w : World) (hp : p = .pointer none ∨ p = .pointer (some ⟨b, 0, none⟩)) (hb : Blk w b 133 #[p, v]) :
    Calls Tryz.prog 167 #[.pointer (some ⟨b, 0, none⟩)] w fun e w' => e = .returned (.tuple #[]) ∧ Blk w' b 133 #[.pointer (some ⟨b, 0, none⟩), v] ∧ w.grownBy w' (some b) := by
  have c0 : w.cell? ⟨b, 0, none⟩ = some p := hb.cell 0
  rcases hp with rfl | rfl
  · refine (Any.Builder_copyCheck_fresh (P := Tryz.prog) (ρ := Tryz.lays156_ren) { Tryz.lays156 with } Tryz.Builder_Extra_156.toX72 b w c0 ?_ (hb.free 0)).mono ?_
    · unfold Blk at hb
      simp only [World.shape?, hb]
      rfl
    · rintro e w' ⟨rfl, rfl⟩
      exact ⟨rfl, hb.put 0 _, gr_put (gr_refl w _) (.inl rfl) _⟩
  · refine (Any.Builder_copyCheck_used (P := Tryz.prog) (ρ := Tryz.lays156_ren) { Tryz.lays156 with } Tryz.Builder_Extra_156.toX72 b w c0).mono ?_
    rintro e w' ⟨rfl, rfl⟩
    exact ⟨rfl, hb, gr_refl _ _⟩

theorem u8_cell (w : World) (x : Int) (t : TypeId) : ∀ j u, ([Value.int .u8 x])[j]? = some u → (w.alloc (.cells #[.int .u8 x] t)).cell? ((⟨w.heap.size, 0, none⟩ : Addr).add j) = some u := by
  intro j u hj
  match j, hj with
  | 0, hj => simp at hj; subst hj; simp [Addr.add]

set_option maxHeartbeats 2000000 in
set_option maxRecDepth 100000 in
theorem bld_writeByte (base b : Nat) (v : Value) (l : List UInt8) (c : UInt8) (w : World) (h : Bld w base b v l) (hlen : l.length ≤ 1000000) (hbw : base ≤ w.heap.size) :
    Calls Tryz.prog 138 #[.pointer (some ⟨b, 0, none⟩), .int .u8 (c.toNat : Int)] w fun e w' => e = .returned .nilIface ∧ (∃ v', Bld w' base b v' (l ++ [c])) ∧ Gb w w' b v.ownBlock := by
  obtain ⟨i0, hi, hz0, hz1, hz2⟩ := info_parts u8Info
  have hne := Lib.hid h.ne
  have hlt0 := h.lt
  obtain ⟨⟨p, hp, hbk⟩, hrow⟩ := h
  go_enter Tryz.func138, Tryz.ntmps138
  go_wp2_with fail
  refine (bld_check b p v _ hp hbk).mono ?_
  rintro _ w1 ⟨rfl, hb1, hg1⟩
  have hrow1 := hrow.kept hg1 (by cases hv : v.ownBlock with | none => exact .inl rfl | some g => exact .inr (fun e => hne.out (hv.trans e)))
  have c0 : w1.cell? ⟨b, 0, none⟩ = some (.pointer (some ⟨b, 0, none⟩)) := hb1.cell 0
  have c1 : w1.cell? ⟨b, 1, none⟩ = some v := hb1.cell 1
  have hsz := hg1.size
  have hbl := Lib.byteCells_length l
  clear hbk hrow hp
  go_wp2_with (at_builtin; refine wpList_append_own _ rfl _ _ 131 rfl base 5 i0 (.int .u8 0) 1 1 Tryz.underlying131 hi hz0 hz1 hz2 rfl (by decide) _ _ _ rfl (hrow1.alloc _) ⟨w1.heap.size, 0, none⟩ 1 1 [.int .u8 (c.toNat : Int)] rfl rfl (u8_cell w1 _ _) (by intro u hu; simp at hu; subst hu; rfl) (by unfold maxLen; omega) (by omega) (by simp; omega) ?_; intro v' w2 hown' hgrow _; obtain ⟨g, cap, hvv⟩ : ∃ g cap, v' = .slice (some ⟨g, 0, none⟩) (l.length + 1) cap := hown'.2.elim (fun h => absurd h.2 (by omega)) (fun ⟨g, cap, cur, hv, _⟩ => ⟨g, cap, hv⟩); subst hvv; have hG12 : w1.grownBy w2 v.ownBlock := gr_trans (gr_weak (World.grownBy_alloc w1 _ none) _) hgrow; have hb2 : Blk w2 b 133 #[.pointer (some ⟨b, 0, none⟩), v] := hb1.grown hG12 (fun e => hne.out e.symm); have d0 : w2.cell? ⟨b, 0, none⟩ = some (.pointer (some ⟨b, 0, none⟩)) := hb2.cell 0; have d1 : w2.cell? ⟨b, 1, none⟩ = some v := hb2.cell 1; have f1 : w2.frozen? ⟨b, 1, none⟩ = false := hb2.free 1; clear hgrow)
  have HO := Lib.hid hown'
  clear hown'
  go_wp2_with fail
  go_ret
  refine ⟨rfl, ⟨_, ⟨_, .inr rfl, hb2.put 1 _⟩, ?_⟩, w1, w2, hg1, hG12, gr_put (gr_refl w2 _) (.inl rfl) _⟩
  have hr2 := HO.out
  rw [show Lib.byteCells (l ++ [c]) = Lib.byteCells l ++ [.int .u8 (c.toNat : Int)] from Lib.byteCells_append _ _, List.length_append]
  refine hr2.kept (gr_put (gr_refl w2 (some b)) (.inl rfl) _) (.inr ?_)
  intro e
  simp only [Value.ownBlock, Option.some.injEq] at e
  subst e
  rcases hr2.2 with ⟨e0, _⟩ | ⟨g2, cap2, cur2, e2, _, hg2, _⟩
  · simp at e0
  · injection e2 with e2 _ _
    injection e2 with e2
    injection e2 with e2 _ _
    subst e2
    unfold Blk at hb2
    rw [hg2] at hb2
    simp at hb2

set_option maxHeartbeats 2000000 in
set_option maxRecDepth 100000 in
theorem bld_writeString (base b : Nat) (v : Value) (l : List UInt8) (s : ByteArray) (w : World) (h : Bld w base b v l) (hlen : l.length ≤ 1000000) (hs : s.size ≤ 1000000) (hbw : base ≤ w.heap.size) :
    Calls Tryz.prog 115 #[.pointer (some ⟨b, 0, none⟩), .string s] w fun e w' => e = .returned (.tuple #[.int .i64 s.size, .nilIface]) ∧ (∃ v', Bld w' base b v' (l ++ s.data.toList)) ∧ Gb w w' b v.ownBlock := by
  obtain ⟨i0, hi, hz0, hz1, hz2⟩ := info_parts u8Info
  have hne := Lib.hid h.ne
  have hlt0 := h.lt
  obtain ⟨⟨p, hp, hbk⟩, hrow⟩ := h
  go_enter Tryz.func115, Tryz.ntmps115
  go_wp2_with fail
  refine (bld_check b p v _ hp hbk).mono ?_
  rintro _ w1 ⟨rfl, hb1, hg1⟩
  have hrow1 := hrow.kept hg1 (by cases hv : v.ownBlock with | none => exact .inl rfl | some g => exact .inr (fun e => hne.out (hv.trans e)))
  have c0 : w1.cell? ⟨b, 0, none⟩ = some (.pointer (some ⟨b, 0, none⟩)) := hb1.cell 0
  have c1 : w1.cell? ⟨b, 1, none⟩ = some v := hb1.cell 1
  have hsz := hg1.size
  have hbl := Lib.byteCells_length l
  clear hbk hrow hp
  go_wp2_with (at_builtin; refine Lib.wpList_append_own_string _ rfl _ _ 131 9 rfl base 5 i0 Tryz.underlying131 Tryz.underlying9 hi hz0 hz1 hz2 _ _ _ rfl hrow1 s rfl (by unfold maxLen; omega) (by omega) (by omega) ?_; intro v' w2 hown' hgrow0 _; obtain ⟨ao, n', cap, hvv⟩ : ∃ ao n' cap, v' = .slice ao n' cap := hown'.2.elim (fun h => ⟨_, _, _, h.1⟩) (fun ⟨g, cap, cur, hv, _⟩ => ⟨_, _, _, hv⟩); subst hvv; have hgrow : w1.grownBy w2 v.ownBlock := hgrow0; have hb2 : Blk w2 b 133 #[.pointer (some ⟨b, 0, none⟩), v] := hb1.grown hgrow (fun e => hne.out e.symm); have d0 : w2.cell? ⟨b, 0, none⟩ = some (.pointer (some ⟨b, 0, none⟩)) := hb2.cell 0; have d1 : w2.cell? ⟨b, 1, none⟩ = some v := hb2.cell 1; have f1 : w2.frozen? ⟨b, 1, none⟩ = false := hb2.free 1; clear hgrow0)
  have HO := Lib.hid hown'
  clear hown'
  go_wp2_with fail
  go_ret2
  refine ⟨rfl, ⟨_, ⟨_, .inr rfl, hb2.put 1 _⟩, ?_⟩, w1, w2, hg1, hgrow, gr_put (gr_refl w2 _) (.inl rfl) _⟩
  have hr2 := HO.out
  rw [Lib.byteCells_append, List.length_append, ← Lib.strCells_eq, show s.data.toList.length = s.size from Array.length_toList]
  refine hr2.kept (gr_put (gr_refl w2 (some b)) (.inl rfl) _) ?_
  rcases hr2.2 with ⟨e0, _⟩ | ⟨g2, cap2, cur2, e2, _, hg2, _⟩
  · rw [e0]; exact .inl rfl
  · rw [e2]
    refine .inr ?_
    intro e
    simp only [Value.ownBlock, Option.some.injEq] at e
    subst e
    unfold Blk at hb2
    rw [hg2] at hb2
    simp at hb2

set_option maxHeartbeats 2000000 in
set_option maxRecDepth 100000 in
theorem bld_string (base b : Nat) (v : Value) (l : List UInt8) (w : World) (h : Bld w base b v l) (h0 : l ≠ []) (hlen : l.length ≤ 1000000) :
    Calls Tryz.prog 117 #[.pointer (some ⟨b, 0, none⟩)] w fun e w' => e = .returned (.string ⟨l.toArray⟩) ∧ w.grownBy w' v.ownBlock := by
  obtain ⟨⟨p, hp, hbk⟩, hown⟩ := h
  have hl0 : l.length ≠ 0 := by simpa using h0
  obtain ⟨g, cap, cur, rfl, hbg, hg, hnc, hcm, hcs, htake⟩ : ∃ g cap cur, v = .slice (some ⟨g, 0, none⟩) l.length cap ∧ base ≤ g ∧ w.heap[g]? = some (.cells cur 5 (0, 0)) ∧ l.length ≤ cap ∧ cap ≤ maxLen ∧ cur.size = cap * 1 ∧ cur.toList.take (l.length * 1) = Lib.byteCells l := by
    rcases hown.2 with ⟨_, hz⟩ | ⟨g, cap, cur, hv, r⟩
    · exact absurd hz hl0
    · exact ⟨g, cap, cur, hv, r⟩
  have c1 : w.drew.cell? ⟨b, 1, none⟩ = some (.slice (some ⟨g, 0, none⟩) l.length cap) := hbk.cell 1
  have hSD : (Builtin.unsafeSliceData_ #[131] 197 #[.slice (some ⟨g, 0, none⟩) l.length cap]).run Tryz.prog w.drew = .ok (.pointer (some ⟨g, 0, none⟩)) w.drew :=
    Lib.run_unsafeSliceData_row _ _ _ _ _ _ (by omega)
  have hUS : (Builtin.unsafeString_ #[197, 3] 9 #[.pointer (some ⟨g, 0, none⟩), .int .i64 l.length]).run Tryz.prog w.drew = .ok (.string ⟨l.toArray⟩) (w.drew.freeze ⟨g, 0, none⟩ l.length) := by
    refine Lib.run_unsafeString_row w.drew 197 3 9 5 (by kernel_rfl) (by kernel_rfl) g cur.size (by have hg' : w.drew.heap[g]? = some (.cells cur 5 (0, 0)) := hg; simp [World.shape?, hg']) l h0 (by omega) (by omega) ?_
    intro j x hx
    exact World.ownsRow.cells (w := w) hown (g := g) rfl j (.int .u8 x.toNat) (by simp [Lib.byteCells, hx])
  have hG : w.grownBy (w.drew.freeze ⟨g, 0, none⟩ l.length) (some g) := by
    unfold World.freeze
    split
    · exact gr_drew (gr_refl w _)
    · refine ⟨rfl, rfl, rfl, by simp, fun k hk hkg => ?_⟩
      simp only [Array.getElem?_modify]
      rw [if_neg (fun e => hkg (by rw [e]))]
      rfl
  have HG := Lib.hid hG
  clear hG hown hg hcs htake hbk hp
  go_enter Tryz.func117, Tryz.ntmps117
  go_wp2_with fail
  go_region
  all_goals (go_wp2_with fail; go_ret; exact ⟨rfl, HG.out⟩)

set_option maxHeartbeats 1000000 in
theorem bld_reset (b : Nat) (p v : Value) (w : World) (hb : Blk w b 133 #[p, v]) :
    Calls Tryz.prog 135 #[.pointer (some ⟨b, 0, none⟩)] w fun e w' => e = .returned (.tuple #[]) ∧ (∀ base, Bld w' base b (.slice none 0 0) []) ∧ w.grownBy w' (some b) := by
  have c0 := hb.cell 0
  have c1 := hb.cell 1
  have f0 := hb.free 0
  have f1 := hb.free 1
  simp only [List.getElem?_toArray, List.getElem?_cons_zero, List.getElem?_cons_succ] at c0 c1
  have HB := Lib.hid hb
  clear hb
  go_enter Tryz.func135, Tryz.ntmps135
  go_wp2_with fail
  go_end0
  exact ⟨rfl, fun base => ⟨⟨_, .inl rfl, (HB.out.put 0 _).put 1 _⟩, World.ownsRow_nil _ _ _ _⟩, gr_put (p := ⟨b, 1, none⟩) (gr_put (p := ⟨b, 0, none⟩) (gr_refl w (some b)) (.inl rfl) _) (.inl rfl) _⟩
end Go.Proofs.YtlodmkdhlmineaaGreatDoor
