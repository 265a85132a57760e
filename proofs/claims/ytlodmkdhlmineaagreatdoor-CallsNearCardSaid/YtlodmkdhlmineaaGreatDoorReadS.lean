/- Two builders side by side, as key's read uses them: what is written of the text and of the code that is open. No condition but short texts. -/
import Derived.Test.YtlodmkdhlmineaaGreatDoorBld
import Derived.Test.YtlodmkdhlmineaaGreatDoorByCodes
namespace Go.Proofs.YtlodmkdhlmineaaGreatDoor
open Go.RowKit
set_option linter.unusedVariables false
set_option linter.unusedSimpArgs false

/-- Where the blocks lie. -/
structure RdP (w : World) (B0 bv bm bo bc : Nat) : Prop where
  v0 : w.heap.size ≤ bv
  m0 : w.heap.size ≤ bm
  o0 : w.heap.size ≤ bo
  c0 : w.heap.size ≤ bc
  v1 : bv < B0
  m1 : bm < B0
  o1 : bo < B0
  c1 : bc < B0
  oc : bo ≠ bc
  vo : bv ≠ bo
  vc : bv ≠ bc
  mo : bm ≠ bo
  mc : bm ≠ bc
/-- What is written: the text lo, the code lc. -/
structure RdS (w wr : World) (B0 bv bm bo bc : Nat) (lo lc : List UInt8) : Prop where
  gr : w.grownBy wr none
  hv : Blk wr bv 154 #[.map (some bm)]
  hm : MapC wr bm 40 codeT
  ex : ∃ vo vc Bc, Bld wr B0 bo vo lo ∧ Bld wr Bc bc vc lc ∧ B0 ≤ Bc ∧ Bc ≤ wr.heap.size ∧ (∀ g, vo.ownBlock = some g → g < Bc) ∧ (lc = [] → vc = .slice none 0 0)
theorem Gb.map {w w' : World} {b : Nat} {r : Option Nat} (h : Gb w w' b r) {bm n : Nat} {l : List (UInt8 × List UInt8)} (hB : MapC w bm n l) (h1 : bm ≠ b) (h2 : r ≠ some bm) : MapC w' bm n l := by
  obtain ⟨w1, w2, g1, g2, g3⟩ := h
  exact ((hB.kept g1 (by simpa using h1)).kept g2 (Ne.symm h2)).kept g3 (by simpa using h1)

theorem RdS.quiet {w wr w' : World} {B0 bv bm bo bc : Nat} {lo lc : List UInt8} (h : RdS w wr B0 bv bm bo bc lo lc) (hg : wr.grownBy w' none) : RdS w w' B0 bv bm bo bc lo lc := by
  obtain ⟨hgr, hv, hm, vo, vc, Bc, h1, h2, h3, h4, h5, h6⟩ := h
  exact ⟨gr_trans hgr hg, hv.grown hg (by simp), hm.quiet hg, vo, vc, Bc, h1.quiet hg, h2.quiet hg, h3, Nat.le_trans h4 hg.size, h5, h6⟩

/-- A byte of the code. -/
theorem rd_code {w wr : World} {B0 bv bm bo bc : Nat} {lo lc : List UInt8} (P : RdP w B0 bv bm bo bc) (c : UInt8) (h : RdS w wr B0 bv bm bo bc lo lc) (hl : lc.length ≤ 1000000) :
    Calls Tryz.prog 138 #[.pointer (some ⟨bc, 0, none⟩), .int .u8 (c.toNat : Int)] wr fun e w' => e = .returned .nilIface ∧ RdS w w' B0 bv bm bo bc lo (lc ++ [c]) := by
  obtain ⟨hgr, hv, hm, vo, vc, Bc, h1, h2, h3, h4, h5, h6⟩ := h
  have r1 := row_lo h1
  have r2 := row_lo h2
  have hc1 := P.c1; have ho1 := P.o1; have hv1 := P.v1; have hm1 := P.m1; have hc0 := P.c0; have hoc := P.oc
  refine (bld_writeByte Bc bc vc lc c wr h2 hl h4).mono ?_
  rintro e w' ⟨rfl, ⟨v', h2'⟩, hG⟩
  have far : ∀ x, x < B0 → vc.ownBlock ≠ some x := fun x hx e => by have := (r2 x e).1; omega
  refine ⟨rfl, hG.out hgr P.c0 (fun g e => by have := (r2 g e).1; omega), hG.blk hv P.vc (far _ P.v1), hG.map hm P.mc (far _ P.m1), vo, v', Bc, ?_, h2', h3, Nat.le_trans h4 hG.size, h5, by simp⟩
  refine hG.bld h1 P.oc (far _ P.o1) (fun e => by have := (r1 _ e).1; omega) (fun g e e2 => ?_)
  have := h5 g e
  have := (r2 g e2).1
  omega

/-- A byte of the text, where no code is open. -/
theorem rd_text {w wr : World} {B0 bv bm bo bc : Nat} {lo : List UInt8} (P : RdP w B0 bv bm bo bc) (c : UInt8) (h : RdS w wr B0 bv bm bo bc lo []) (hl : lo.length ≤ 1000000) :
    Calls Tryz.prog 138 #[.pointer (some ⟨bo, 0, none⟩), .int .u8 (c.toNat : Int)] wr fun e w' => e = .returned .nilIface ∧ RdS w w' B0 bv bm bo bc (lo ++ [c]) [] := by
  obtain ⟨hgr, hv, hm, vo, vc, Bc, h1, h2, h3, h4, h5, h6⟩ := h
  have r1 := row_lo h1
  have hc1 := P.c1; have ho1 := P.o1; have hv1 := P.v1; have hm1 := P.m1; have hc0 := P.c0; have ho0 := P.o0; have hoc := P.oc
  obtain rfl := h6 rfl
  refine (bld_writeByte B0 bo vo lo c wr h1 hl (by omega)).mono ?_
  rintro e w' ⟨rfl, ⟨v', h1'⟩, hG⟩
  have far : ∀ x, x < B0 → vo.ownBlock ≠ some x := fun x hx e => by have := (r1 x e).1; omega
  have h2' := hG.bld h2 (Ne.symm P.oc) (far _ P.c1) (by simp [Value.ownBlock]) (by simp [Value.ownBlock])
  have hsz := hG.size
  exact ⟨rfl, hG.out hgr P.o0 (fun g e => by have := (r1 g e).1; omega), hG.blk hv P.vo (far _ P.v1), hG.map hm P.mo (far _ P.m1), v', .slice none 0 0, w'.heap.size, h1', ⟨h2'.at_, World.ownsRow_nil _ _ _ _⟩, by omega, Nat.le_refl _, fun g e => (row_lo h1' g e).2, fun _ => rfl⟩

/-- What is written, where the code's buffer is of no weight any more. -/
structure RdT (w wr : World) (B0 bv bm bo bc : Nat) (lo : List UInt8) : Prop where
  gr : w.grownBy wr none
  hv : Blk wr bv 154 #[.map (some bm)]
  hm : MapC wr bm 40 codeT
  ex : ∃ vo p vc, Bld wr B0 bo vo lo ∧ Blk wr bc 133 #[p, vc] ∧ B0 ≤ wr.heap.size
theorem RdT.quiet {w wr w' : World} {B0 bv bm bo bc : Nat} {lo : List UInt8} (h : RdT w wr B0 bv bm bo bc lo) (hg : wr.grownBy w' none) : RdT w w' B0 bv bm bo bc lo := by
  obtain ⟨hgr, hv, hm, vo, p, vc, h1, h2, hB⟩ := h
  exact ⟨gr_trans hgr hg, hv.grown hg (by simp), hm.quiet hg, vo, p, vc, h1.quiet hg, h2.grown hg (by simp), Nat.le_trans hB hg.size⟩

/-- The code as a string. -/
theorem rd_string {w wr : World} {B0 bv bm bo bc : Nat} {lo lc : List UInt8} (P : RdP w B0 bv bm bo bc) (h : RdS w wr B0 bv bm bo bc lo lc) (hl : lc.length ≤ 1000000) (h0 : lc ≠ []) :
    Calls Tryz.prog 117 #[.pointer (some ⟨bc, 0, none⟩)] wr fun e w' => e = .returned (.string ⟨lc.toArray⟩) ∧ RdT w w' B0 bv bm bo bc lo := by
  obtain ⟨hgr, hv, hm, vo, vc, Bc, h1, h2, h3, h4, h5, h6⟩ := h
  have r1 := row_lo h1
  have r2 := row_lo h2
  have hc1 := P.c1; have ho1 := P.o1; have hv1 := P.v1; have hm1 := P.m1; have hc0 := P.c0
  refine (bld_string Bc bc vc lc wr h2 h0 hl).mono ?_
  rintro e w' ⟨rfl, hG⟩
  have far : ∀ x, x < B0 → some x ≠ vc.ownBlock := fun x hx e => by have := (r2 x e.symm).1; omega
  obtain ⟨p, _, hb⟩ := h2.at_
  refine ⟨rfl, gr_grown hgr hG (fun g e => .inr (by have := (r2 g e).1; omega)), hv.grown hG (far _ P.v1), hm.kept hG (far _ P.m1), vo, p, vc, h1.kept hG (Ne.symm (far _ P.o1)) (fun g e e2 => ?_), hb.grown hG (far _ P.c1), Nat.le_trans (Nat.le_trans h3 h4) hG.size⟩
  have := h5 g e
  have := (r2 g e2).1
  omega

/-- A string for the text. -/
theorem rd_put {w wr : World} {B0 bv bm bo bc : Nat} {lo : List UInt8} (P : RdP w B0 bv bm bo bc) (s : List UInt8) (h : RdT w wr B0 bv bm bo bc lo) (hl : lo.length ≤ 1000000) (hs : s.length ≤ 1000000) :
    Calls Tryz.prog 115 #[.pointer (some ⟨bo, 0, none⟩), .string ⟨s.toArray⟩] wr fun e w' => e = .returned (.tuple #[.int .i64 (s.length : Int), .nilIface]) ∧ RdT w w' B0 bv bm bo bc (lo ++ s) := by
  obtain ⟨hgr, hv, hm, vo, p, vc, h1, h2, hB⟩ := h
  have r1 := row_lo h1
  have hlt := h1.lt
  have hc1 := P.c1; have ho1 := P.o1; have hv1 := P.v1; have hm1 := P.m1; have hc0 := P.c0; have ho0 := P.o0
  have hsz : (⟨s.toArray⟩ : ByteArray).size = s.length := by show s.toArray.size = _; simp
  refine (bld_writeString B0 bo vo lo ⟨s.toArray⟩ wr h1 hl (by omega) hB).mono ?_
  rintro e w' ⟨rfl, ⟨v', h3⟩, hG⟩
  have far : ∀ x, x < B0 → vo.ownBlock ≠ some x := fun x hx e => by have := (r1 x e).1; omega
  exact ⟨by rw [hsz], hG.out hgr P.o0 (fun g e => by have := (r1 g e).1; omega), hG.blk hv P.vo (far _ P.v1), hG.map hm P.mo (far _ P.m1), v', p, vc, h3, hG.blk h2 (Ne.symm P.oc) (far _ P.c1), Nat.le_trans hB hG.size⟩

/-- The code is empty again. -/
theorem rd_reset {w wr : World} {B0 bv bm bo bc : Nat} {lo : List UInt8} (P : RdP w B0 bv bm bo bc) (h : RdT w wr B0 bv bm bo bc lo) :
    Calls Tryz.prog 135 #[.pointer (some ⟨bc, 0, none⟩)] wr fun e w' => e = .returned (.tuple #[]) ∧ RdS w w' B0 bv bm bo bc lo [] := by
  obtain ⟨hgr, hv, hm, vo, p, vc, h1, h2, hB⟩ := h
  have r1 := row_lo h1
  have hc1 := P.c1; have ho1 := P.o1; have hv1 := P.v1; have hm1 := P.m1; have hc0 := P.c0; have ho0 := P.o0
  refine (bld_reset bc p vc wr h2).mono ?_
  rintro e w' ⟨rfl, h3, hG⟩
  have hsz := hG.size
  have h4 := h1.kept hG (fun e => P.oc (by injection e with e; exact e.symm)) (fun g e e2 => by injection e2 with e2; have := (r1 g e).1; omega)
  exact ⟨rfl, gr_grown hgr hG (fun g e => by injection e with e; exact .inr (by omega)), hv.grown hG (fun e => P.vc (by injection e)), hm.kept hG (fun e => P.mc (by injection e)), vo, .slice none 0 0, w'.heap.size, h4, h3 _, by omega, Nat.le_refl _, fun g e => (row_lo h4 g e).2, fun _ => rfl⟩
end Go.Proofs.YtlodmkdhlmineaaGreatDoor
