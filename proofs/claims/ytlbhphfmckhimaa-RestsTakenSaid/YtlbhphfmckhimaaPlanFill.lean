/- The walk over the planner's fill: both tables as the plain functions say. Condition: at most 400 seconds, counts that do not fall. -/
import Derived.Test.YtlbhphfmckhimaaPlanW
namespace Go.Proofs.Ytlbhphfmckhimaa
open Go.RowKit
set_option linter.unusedVariables false
set_option linter.unusedSimpArgs false

/-- No block of the planner's own. -/
def Off (S : Nat → Prop) (pB gm gO gI : Nat) (row : Option Nat) : Prop := some pB ≠ row ∧ some gm ≠ row ∧ some gO ≠ row ∧ some gI ≠ row ∧ ∀ g, S g → some g ≠ row
/-- The planner with the rows behind t filled, and the row t laid. -/
structure FillAt (w : World) (pB gm cm gO gI N n L t go gi : Nat) (S : Nat → Prop) (M : Nat → Int) : Prop where
  pl : Blk w pB 71 (PlCells gm cm gO gI N L)
  mn : ManyF w gm N M
  tbo : TabF w gO N (t + 1) S (outT n L M)
  tbi : TabF w gI N (t + 1) S (inT n L M)
  co : w.cell? ⟨gO, t, none⟩ = some (.slice (some ⟨go, 0, none⟩) N N)
  ci : w.cell? ⟨gI, t, none⟩ = some (.slice (some ⟨gi, 0, none⟩) N N)
theorem FillAt.grown {w w' : World} {pB gm cm gO gI N n L t go gi : Nat} {S : Nat → Prop} {M : Nat → Int} (h : FillAt w pB gm cm gO gI N n L t go gi S M) {row : Option Nat} (hg : w.grownBy w' row) (ho : Off S pB gm gO gI row) :
    FillAt w' pB gm cm gO gI N n L t go gi S M := by
  obtain ⟨h1, h2, h3, h4, h5⟩ := ho
  obtain ⟨cs, c1, c2, c3⟩ := h.tbo
  obtain ⟨ds, d1, d2, d3⟩ := h.tbi
  refine ⟨h.pl.grown hg h1, h.mn.grown hg h2, h.tbo.grown hg h3 h5, h.tbi.grown hg h4 h5, ?_, ?_⟩
  · rw [(c1.grown hg h3).cell, ← c1.cell]; exact h.co
  · rw [(d1.grown hg h4).cell, ← d1.cell]; exact h.ci
theorem off_none (S : Nat → Prop) (pB gm gO gI : Nat) : Off S pB gm gO gI none := ⟨by simp, by simp, by simp, by simp, fun _ _ => by simp⟩
/-- A row of which the first so many costs are known; one more is stored. -/
theorem rowC_put {rs : Array Value} {N m : Nat} {f : Nat → Co} (h : RowC rs m f) (hs : rs.size = N * 2) (hm : m < N) (c1 c2 : Int) :
    ((rs.setIfInBounds (m * 2) (.int .i64 c1)).setIfInBounds (m * 2 + 1) (.int .i64 c2)).size = N * 2 ∧
    RowC ((rs.setIfInBounds (m * 2) (.int .i64 c1)).setIfInBounds (m * 2 + 1) (.int .i64 c2)) m f ∧
    (f m = (c1, c2) → RowC ((rs.setIfInBounds (m * 2) (.int .i64 c1)).setIfInBounds (m * 2 + 1) (.int .i64 c2)) (m + 1) f) := by
  have hkeep : ∀ k, k < m → ((rs.setIfInBounds (m * 2) (.int .i64 c1)).setIfInBounds (m * 2 + 1) (.int .i64 c2))[k * 2]? = rs[k * 2]? ∧ ((rs.setIfInBounds (m * 2) (.int .i64 c1)).setIfInBounds (m * 2 + 1) (.int .i64 c2))[k * 2 + 1]? = rs[k * 2 + 1]? := fun k hk => by
    simp only [Array.getElem?_setIfInBounds]
    rw [if_neg (by omega), if_neg (by omega), if_neg (by omega), if_neg (by omega)]
    exact ⟨rfl, rfl⟩
  refine ⟨by simp [hs], fun k hk => ?_, fun hf k hk => ?_⟩
  · rw [(hkeep k hk).1, (hkeep k hk).2]; exact h k hk
  · rcases (by omega : k < m ∨ k = m) with h1 | rfl
    · rw [(hkeep k h1).1, (hkeep k h1).2]; exact h k h1
    · rw [hf]
      simp only [Array.getElem?_setIfInBounds, Array.size_setIfInBounds]
      constructor
      · rw [if_neg (by omega)]; simp; omega
      · simp; omega
/-- The planner with its two tables just laid. -/
theorem firstLaid {w : World} {pB gm cm N L : Nat} (hP : Blk w pB 71 #[.slice (some ⟨gm, 0, none⟩) N cm, .int .i64 L, .slice none 0 0, .slice none 0 0]) (hpl : pB < w.heap.size) (OZ : Array Value) (x y : Nat)
    (hxy : (x = w.heap.size ∧ y = w.heap.size + 1) ∨ (x = w.heap.size + 1 ∧ y = w.heap.size)) : ∃ gO gI : Nat, w.heap.size ≤ gO ∧ w.heap.size ≤ gI ∧ gO ≠ gI ∧
      Blk ((((w.setCell ⟨pB, 2, none⟩ (.slice (some ⟨x, 0, none⟩) N N)).setCell ⟨pB, 3, none⟩ (.slice (some ⟨y, 0, none⟩) N N)).alloc (.cells OZ 76)).alloc (.cells OZ 76)).drew pB 71 (PlCells gm cm gO gI N L) ∧
      Blk ((((w.setCell ⟨pB, 2, none⟩ (.slice (some ⟨x, 0, none⟩) N N)).setCell ⟨pB, 3, none⟩ (.slice (some ⟨y, 0, none⟩) N N)).alloc (.cells OZ 76)).alloc (.cells OZ 76)).drew gO 76 OZ ∧
      Blk ((((w.setCell ⟨pB, 2, none⟩ (.slice (some ⟨x, 0, none⟩) N N)).setCell ⟨pB, 3, none⟩ (.slice (some ⟨y, 0, none⟩) N N)).alloc (.cells OZ 76)).alloc (.cells OZ 76)).drew gI 76 OZ ∧
      w.grownBy ((((w.setCell ⟨pB, 2, none⟩ (.slice (some ⟨x, 0, none⟩) N N)).setCell ⟨pB, 3, none⟩ (.slice (some ⟨y, 0, none⟩) N N)).alloc (.cells OZ 76)).alloc (.cells OZ 76)).drew (some pB) := by
  have h1 := (hP.put 2 (.slice (some ⟨x, 0, none⟩) N N)).put 3 (.slice (some ⟨y, 0, none⟩) N N)
  simp only [List.setIfInBounds_toArray, List.set_cons_zero, List.set_cons_succ] at h1
  have hg := gr_drew (gr_alloc (gr_alloc (gr_put (p := (⟨pB, 3, none⟩ : Addr)) (gr_put (p := (⟨pB, 2, none⟩ : Addr)) (gr_refl w (some pB)) (.inl rfl) (.slice (some ⟨x, 0, none⟩) N N)) (.inl rfl) (.slice (some ⟨y, 0, none⟩) N N)) (.cells OZ 76)) (.cells OZ 76))
  have hs : ((w.setCell ⟨pB, 2, none⟩ (.slice (some ⟨x, 0, none⟩) N N)).setCell ⟨pB, 3, none⟩ (.slice (some ⟨y, 0, none⟩) N N)).heap.size = w.heap.size := by simp
  generalize (w.setCell ⟨pB, 2, none⟩ (.slice (some ⟨x, 0, none⟩) N N)).setCell ⟨pB, 3, none⟩ (.slice (some ⟨y, 0, none⟩) N N) = W at *
  have b1 := (Blk.new W 76 OZ).alloc (.cells OZ 76)
  have b2 := Blk.new (W.alloc (.cells OZ 76)) 76 OZ
  have hs2 : (W.alloc (.cells OZ 76)).heap.size = w.heap.size + 1 := by rw [World.size_alloc, hs]
  rw [hs] at b1
  rw [hs2] at b2
  refine ⟨x, y, by omega, by omega, by omega, ((h1.alloc _).alloc _).drew, ?_, ?_, hg⟩
  · rcases hxy with ⟨rfl, -⟩ | ⟨rfl, -⟩
    · exact b1.drew
    · exact b2.drew
  · rcases hxy with ⟨-, rfl⟩ | ⟨-, rfl⟩
    · exact b2.drew
    · exact b1.drew
theorem TabF.put {w : World} {B N t : Nat} {S : Nat → Prop} {f : Nat → Nat → Co} (h : TabF w B N (t + 1) S f) (ht : t < N) (hB : ¬ S B) (v : Value) :
    TabF (w.setCell ⟨B, t, none⟩ v) B N (t + 1) S f ∧ (w.setCell ⟨B, t, none⟩ v).cell? ⟨B, t, none⟩ = some v := by
  obtain ⟨cs, h1, h2, h3⟩ := h
  have hp := h1.put t v
  refine ⟨⟨_, hp, by simp [h2], fun u hu hN => ?_⟩, ?_⟩
  · obtain ⟨g, rs, q1, q2, q3, q4⟩ := h3 u hu hN
    refine ⟨g, rs, ?_, q2, q3.far (p := (⟨B, t, none⟩ : Addr)) (fun e => hB (by have e' : g = B := e; rw [← e']; exact q2)) v, q4⟩
    rw [Array.getElem?_setIfInBounds, if_neg (by omega)]
    exact q1
  · rw [hp.cell]
    simp [h2, ht]
/-- What the planner has when a row has just been laid in both tables. -/
def RowLaid (w w' : World) (pB gm cm gO gI N n L t : Nat) (S : Nat → Prop) (M : Nat → Int) (RZ : Array Value) : Prop := ∃ go gi : Nat, w.heap.size ≤ go ∧ w.heap.size ≤ gi ∧ go ≠ gi ∧
    FillAt w' pB gm cm gO gI N n L t go gi S M ∧ Blk w' go 75 RZ ∧ Blk w' gi 75 RZ
theorem rowLaid {w : World} {pB gm cm gO gI N n L t : Nat} {S : Nat → Prop} {M : Nat → Int} (hP : Blk w pB 71 (PlCells gm cm gO gI N L)) (hm : ManyF w gm N M) (hTO : TabF w gO N (t + 1) S (outT n L M)) (hTI : TabF w gI N (t + 1) S (inT n L M))
    (ht : t < N) (hO : ¬ S gO) (hI : ¬ S gI) (d1 : pB ≠ gO) (d2 : pB ≠ gI) (d3 : gm ≠ gO) (d4 : gm ≠ gI) (d5 : gO ≠ gI) (RZ : Array Value) (x y : Nat)
    (hxy : (x = w.heap.size ∧ y = w.heap.size + 1) ∨ (x = w.heap.size + 1 ∧ y = w.heap.size)) :
    RowLaid w (((((w.setCell ⟨gO, t, none⟩ (.slice (some ⟨x, 0, none⟩) N N)).setCell ⟨gI, t, none⟩ (.slice (some ⟨y, 0, none⟩) N N)).alloc (.cells RZ 75)).alloc (.cells RZ 75)).drew) pB gm cm gO gI N n L t S M RZ := by
  have g1 : w.grownBy (w.setCell ⟨gO, t, none⟩ (.slice (some ⟨x, 0, none⟩) N N)) (some gO) := gr_put (gr_refl _ _) (.inl rfl) _
  obtain ⟨o1, o2⟩ := hTO.put ht hO (.slice (some ⟨x, 0, none⟩) N N)
  have p1 := hP.grown g1 (by simp; exact d1)
  have m1 := hm.grown g1 (by simp; exact d3)
  have i1 := hTI.grown g1 (by simp; exact fun e => d5 e.symm) (fun g hg e => by injection e with e; exact hO (e ▸ hg))
  have s1 : (w.setCell ⟨gO, t, none⟩ (.slice (some ⟨x, 0, none⟩) N N)).heap.size = w.heap.size := by simp
  clear g1 hTO hP hm hTI
  generalize w.setCell ⟨gO, t, none⟩ (.slice (some ⟨x, 0, none⟩) N N) = w1 at *
  have g2 : w1.grownBy (w1.setCell ⟨gI, t, none⟩ (.slice (some ⟨y, 0, none⟩) N N)) (some gI) := gr_put (gr_refl _ _) (.inl rfl) _
  obtain ⟨i2, i3⟩ := i1.put ht hI (.slice (some ⟨y, 0, none⟩) N N)
  have p2 := p1.grown g2 (by simp; exact d2)
  have m2 := m1.grown g2 (by simp; exact d4)
  have o3 := o1.grown g2 (by simp; exact d5) (fun g hg e => by injection e with e; exact hI (e ▸ hg))
  have o4 : (w1.setCell ⟨gI, t, none⟩ (.slice (some ⟨y, 0, none⟩) N N)).cell? ⟨gO, t, none⟩ = some (.slice (some ⟨x, 0, none⟩) N N) := by
    obtain ⟨cs, c1, _⟩ := o1
    rw [(c1.far (p := (⟨gI, t, none⟩ : Addr)) d5 _).cell, ← c1.cell]
    exact o2
  have s2 : (w1.setCell ⟨gI, t, none⟩ (.slice (some ⟨y, 0, none⟩) N N)).heap.size = w.heap.size := by rw [← s1]; simp
  clear g2 i1 p1 m1 o1
  generalize w1.setCell ⟨gI, t, none⟩ (.slice (some ⟨y, 0, none⟩) N N) = w2 at *
  have hF : FillAt w2 pB gm cm gO gI N n L t x y S M := ⟨p2, m2, o3, i2, o4, i3⟩
  have g5 : w2.grownBy ((w2.alloc (.cells RZ 75)).alloc (.cells RZ 75)).drew none := gr_drew (gr_alloc (World.grownBy_alloc w2 _ none) _)
  have b1 := ((Blk.new w2 75 RZ).alloc (.cells RZ 75)).drew
  have b2 := (Blk.new (w2.alloc (.cells RZ 75)) 75 RZ).drew
  have s3 : (w2.alloc (.cells RZ 75)).heap.size = w.heap.size + 1 := by rw [World.size_alloc, s2]
  rw [s2] at b1
  rw [s3] at b2
  refine ⟨x, y, by omega, by omega, by omega, hF.grown g5 (off_none _ _ _ _ _), ?_, ?_⟩
  · rcases hxy with ⟨rfl, -⟩ | ⟨rfl, -⟩
    · exact b1
    · exact b2
  · rcases hxy with ⟨-, rfl⟩ | ⟨-, rfl⟩
    · exact b2
    · exact b1
theorem TabF.snoc {w : World} {B N t go : Nat} {S : Nat → Prop} {f : Nat → Nat → Co} {rs : Array Value} (h : TabF w B N (t + 1) S f) (hc : w.cell? ⟨B, t, none⟩ = some (.slice (some ⟨go, 0, none⟩) N N)) (hR : Blk w go 75 rs) (hf : RowC rs N (f t)) :
    TabF w B N t (fun g => S g ∨ g = go) f := by
  obtain ⟨cs, h1, h2, h3⟩ := h
  refine ⟨cs, h1, h2, fun u hu hN => ?_⟩
  rcases (by omega : u = t ∨ t + 1 ≤ u) with rfl | h4
  · exact ⟨go, rs, by rw [← h1.cell]; exact hc, .inr rfl, hR, hf⟩
  · obtain ⟨g, rs', q1, q2, q3⟩ := h3 u h4 hN
    exact ⟨g, rs', q1, .inl q2, q3⟩
theorem TabF.mono {w : World} {B N t : Nat} {S S' : Nat → Prop} {f : Nat → Nat → Co} (h : TabF w B N t S f) (hS : ∀ g, S g → S' g) : TabF w B N t S' f := by
  obtain ⟨cs, h1, h2, h3⟩ := h
  refine ⟨cs, h1, h2, fun u hu hN => ?_⟩
  obtain ⟨g, rs', q1, q2, q3⟩ := h3 u hu hN
  exact ⟨g, rs', q1, hS g q2, q3⟩
/-- A row of which the first j costs are known, and what stands at j. -/
def RowAt (w : World) (go N j : Nat) (f : Nat → Co) (c1 c2 : Int) : Prop := ∃ rs : Array Value, Blk w go 75 rs ∧ rs.size = N * 2 ∧ RowC rs j f ∧ rs[j * 2]? = some (.int .i64 c1) ∧ rs[j * 2 + 1]? = some (.int .i64 c2)
theorem rowAt_put {w : World} {go N j : Nat} {f : Nat → Co} {rs : Array Value} (hR : Blk w go 75 rs) (hs : rs.size = N * 2) (h : RowC rs j f) (hj : j < N) (c1 c2 : Int) :
    RowAt ((w.setCell ⟨go, j * 2, none⟩ (.int .i64 c1)).setCell ⟨go, j * 2 + 1, none⟩ (.int .i64 c2)) go N j f c1 c2 := by
  obtain ⟨h1, h2, -⟩ := rowC_put h hs hj c1 c2
  refine ⟨_, (hR.put _ _).put _ _, h1, h2, ?_, ?_⟩
  · simp only [Array.getElem?_setIfInBounds, Array.size_setIfInBounds]
    rw [if_neg (by omega)]
    simp
    omega
  · simp only [Array.getElem?_setIfInBounds, Array.size_setIfInBounds]
    simp
    omega
theorem RowAt.put {w : World} {go N j : Nat} {f : Nat → Co} {c1 c2 : Int} (h : RowAt w go N j f c1 c2) (hj : j < N) (d1 d2 : Int) :
    RowAt ((w.setCell ⟨go, j * 2, none⟩ (.int .i64 d1)).setCell ⟨go, j * 2 + 1, none⟩ (.int .i64 d2)) go N j f d1 d2 := by
  obtain ⟨rs, h1, h2, h3, -⟩ := h
  exact rowAt_put h1 h2 h3 hj d1 d2
theorem RowAt.grown {w w' : World} {go N j : Nat} {f : Nat → Co} {c1 c2 : Int} (h : RowAt w go N j f c1 c2) (hg : w.grownBy w' none) : RowAt w' go N j f c1 c2 := by
  obtain ⟨rs, h1, h2⟩ := h
  exact ⟨rs, h1.grown hg (by simp), h2⟩
theorem RowAt.full {w : World} {go N j : Nat} {f : Nat → Co} {c1 c2 : Int} (h : RowAt w go N j f c1 c2) (hf : f j = (c1, c2)) : ∃ rs : Array Value, Blk w go 75 rs ∧ rs.size = N * 2 ∧ RowC rs (j + 1) f := by
  obtain ⟨rs, h1, h2, h3, h4, h5⟩ := h
  refine ⟨rs, h1, h2, fun k hk => ?_⟩
  rcases (by omega : k < j ∨ k = j) with h6 | rfl
  · exact h3 k h6
  · rw [hf]; exact ⟨h4, h5⟩
theorem RowAt.facts {w : World} {go N j : Nat} {f : Nat → Co} {c1 c2 : Int} (h : RowAt w go N j f c1 c2) :
    w.cell? ⟨go, j * 2, none⟩ = some (.int .i64 c1) ∧ w.cell? ⟨go, j * 2 + 1, none⟩ = some (.int .i64 c2) ∧ (∀ i, w.frozen? ⟨go, i, none⟩ = false) ∧ go < w.heap.size := by
  obtain ⟨rs, h1, h2, h3, h4, h5⟩ := h
  exact ⟨by rw [h1.cell]; exact h4, by rw [h1.cell]; exact h5, h1.free, h1.lt⟩
set_option maxRecDepth 100000 in
set_option maxHeartbeats 16000000 in
theorem fill_ok (pB gm cm N n L : Nat) (M : Nat → Int) (w : World) (hP : Blk w pB 71 #[.slice (some ⟨gm, 0, none⟩) N cm, .int .i64 L, .slice none 0 0, .slice none 0 0]) (hm : ManyF w gm N M)
    (hpm : pB ≠ gm) (hn : N = n + 1) (hN : N ≤ 500) (hL : 0 < L) (hL2 : L ≤ 100000) (hM : Rise n M) (hMb : ∀ k, k < N → 0 ≤ M k ∧ M k ≤ 2000) :
    Calls Try.prog 35 #[.pointer (some ⟨pB, 0, none⟩)] w fun r w' => r = .returned (.tuple #[]) ∧ ∃ (gO gI : Nat) (S : Nat → Prop),
      Blk w' pB 71 (PlCells gm cm gO gI N L) ∧ TabF w' gO N 0 S (outT n L M) ∧ TabF w' gI N 0 S (inT n L M) ∧ w.grownBy w' (some pB) := by
  obtain ⟨i0, hi, hz0, hz1, hz2⟩ := info_parts (show (Try.prog.info? 75).map (fun i => (i.zero, i.size, i.bytes)) = some (some (.agg #[.int .i64 0, .int .i64 0]), 2, 16) by kernel_rfl)
  obtain ⟨j0, hj, hy0, hy1, hy2⟩ := info_parts (show (Try.prog.info? 76).map (fun i => (i.zero, i.size, i.bytes)) = some (some (.slice none 0 0), 1, 24) by kernel_rfl)
  obtain ⟨RZ, hRZ, hRs⟩ : ∃ R : Array Value, madeCells (Value.agg #[.int .i64 0, .int .i64 0]).cells (N * 2) = R ∧ R.size = N * 2 := ⟨_, rfl, size_madeCells _ _⟩
  obtain ⟨OZ, hOZ, hOs⟩ : ∃ R : Array Value, madeCells (Value.slice none 0 0).cells (N * 1) = R ∧ R.size = N := ⟨_, rfl, by rw [size_madeCells]; omega⟩
  have hNt : ((N : Int)).toNat = N := by omega
  have hmk : ∀ W : World, (Instr.makeSlice 76 (.int .i64 (N : Int)) (.int .i64 (N : Int))).run Try.prog W = .ok (.slice (some ⟨W.heap.size, 0, none⟩) N N) (W.alloc (.cells RZ 75)) := fun W => by
    have h := run_make (P := Try.prog) W 76 75 i0 _ Try.underlying76 hi hz0 .i64 .i64 (N : Int) (N : Int) (by omega) (by omega) (by rw [hz2]; omega) (by omega)
    rw [h, hz1, hNt, hRZ]
  have hmo : ∀ W : World, (Instr.makeSlice 69 (.int .i64 (N : Int)) (.int .i64 (N : Int))).run Try.prog W = .ok (.slice (some ⟨W.heap.size, 0, none⟩) N N) (W.alloc (.cells OZ 76)) := fun W => by
    have h := run_make (P := Try.prog) W 69 76 j0 _ Try.underlying69 hj hy0 .i64 .i64 (N : Int) (N : Int) (by omega) (by omega) (by rw [hy2]; omega) (by omega)
    rw [h, hy1, hNt, hOZ]
  have hw1 : IntKind.i64.wrap ((n : Int) + 1) = (N : Int) := by rw [IntKind.wrap_i64]; omega
  have HLG := Lib.hid (long_ok pB gm N cm n w (hP.cell 0) hn (by omega))
  have HBD : Hid (∀ u v, u ≤ n → CoSm (outT n L M u v) ∧ CoSm (inT n L M u v)) := fun u v hu => by
    obtain ⟨h1, h2⟩ := cost_bd' (L := L) hL hM hu v
    have h3 := hMb u (by omega)
    have h4 := hMb n (by omega)
    unfold CoBd at h1 h2
    unfold CoSm
    omega
  have HN := Lib.hid hn
  have HM := Lib.hid hM
  have HMB := Lib.hid hMb
  have HPL := Lib.hid hP
  have HMN := Lib.hid hm
  have hpl := hP.lt
  have hml : gm < w.heap.size := by obtain ⟨cs, h, _⟩ := hm; exact h.lt
  clear hRZ hOZ hn hM hMb hNt
  go_enter Try.func35, Try.ntmps35
  go_wp2_with fail
  refine HLG.out.mono ?_
  rintro _ _ ⟨rfl, rfl⟩
  go_upto_region 1 with fail
  have hPd := hP.drew
  go_cut [] (fun wr => ∃ gO gI : Nat, w.heap.size ≤ gO ∧ w.heap.size ≤ gI ∧ gO ≠ gI ∧ Blk wr pB 71 (PlCells gm cm gO gI N L) ∧ Blk wr gO 76 OZ ∧ Blk wr gI 76 OZ ∧ w.grownBy wr (some pB))
  case first =>
    have F1 := Lib.hid (firstLaid hP hpl OZ w.heap.size (w.heap.size + 1) (.inl ⟨rfl, rfl⟩))
    have F2 := Lib.hid (firstLaid hP hpl OZ (w.heap.size + 1) w.heap.size (.inr ⟨rfl, rfl⟩))
    have hf := hP.free
    have c2 := hP.cell 2
    have c3 := hP.cell 3
    go_region_held3 (fun _ => True) (exact trivial) (fail)
    all_goals
      go_wp2_with fail
      go_meet
      first
        | with_reducible exact F1.out
        | with_reducible exact F2.out
  case rest =>
    obtain ⟨gO, gI, ho1, ho2, ho3, hP1, hO1, hI1, hG1⟩ := hcut
    have hh := hG1.size
    have ho4 := hO1.lt
    have ho5 := hI1.lt
    have hm1 : ManyF wc gm N M := HMN.out.grown hG1 (by simp; omega)
    have hTO : TabF wc gO N N (fun g => wc.heap.size ≤ g ∧ g < wc.heap.size) (outT n L M) := ⟨OZ, hO1, hOs, fun t h1 h2 => by omega⟩
    have hTI : TabF wc gI N N (fun g => wc.heap.size ≤ g ∧ g < wc.heap.size) (inT n L M) := ⟨OZ, hI1, hOs, fun t h1 h2 => by omega⟩
    rename World => w1
    clear hPd HLG
    go_wp2_with fail
    go_loopw [3] (fun i wr => ∃ (k : Nat) (z : Int), k ≤ N ∧ Hid (z = (n : Int) - (k : Int)) ∧ -1 ≤ z ∧ z ≤ n ∧ i = .int .i64 z ∧ Blk wr pB 71 (PlCells gm cm gO gI N L) ∧ ManyF wr gm N M ∧ TabF wr gO N (N - k) (fun g => w1.heap.size ≤ g ∧ g < wr.heap.size) (outT n L M) ∧ TabF wr gI N (N - k) (fun g => w1.heap.size ≤ g ∧ g < wr.heap.size) (inT n L M) ∧ w.grownBy wr (some pB) ∧ w1.heap.size ≤ wr.heap.size) (fun i _ => (intOf i + 1).toNat)
    case atStart => exact ⟨0, n, by omega, (show (n : Int) = (n : Int) - ((0 : Nat) : Int) by omega), by omega, by omega, rfl, hP1, hm1, hTO, hTI, hG1, Nat.le_refl _⟩
    case round =>
      obtain ⟨k, z, hk, HZ, hz0', hz1', rfl, hPr, hmr, hTOr, hTIr, hgr, hszr⟩ := hrel
      by_cases hz : 0 ≤ z
      · obtain ⟨t, ht⟩ : ∃ t : Nat, n - k = t := ⟨_, rfl⟩
        have hkn : k ≤ n := by have := HZ.out; omega
        have hzt : z = (t : Int) := by have := HZ.out; omega
        have htn : t ≤ n := by omega
        have hNk : N - k = t + 1 := by have := HN.out; omega
        have hNk2 : N - (k + 1) = t := by have := HN.out; omega
        rw [hNk] at hTOr hTIr
        have HT2 := Lib.hid hNk2
        have HZ1 : Hid ((t : Int) - 1 = (n : Int) - ((k + 1 : Nat) : Int)) := by show _ = _; omega
        have HKN := Lib.hid hkn
        subst hzt
        clear ht HZ hNk hNk2 hk hz0' hz1'
        have htN : t < N := by have := HN.out; omega
        have htNi : (t : Int) < (N : Int) := by omega
        have ht0 : (0 : Int) ≤ (t : Int) := by omega
        have d1 : pB ≠ gO := by omega
        have d2 : pB ≠ gI := by omega
        have d3 : gm ≠ gO := by omega
        have d4 : gm ≠ gI := by omega
        generalize hS : (fun g => w1.heap.size ≤ g ∧ g < wr.heap.size) = S at *
        have HS : Hid (∀ g, S g ↔ w1.heap.size ≤ g ∧ g < wr.heap.size) := fun g => by rw [← hS]
        clear hS
        have hSO : ¬ S gO := fun h => by have := (HS.out gO).1 h; omega
        have hSI : ¬ S gI := fun h => by have := (HS.out gI).1 h; omega
        go_upto_region 5 with fail
        have F1 := Lib.hid (rowLaid hPr hmr hTOr hTIr htN hSO hSI d1 d2 d3 d4 ho3 RZ wr.heap.size (wr.heap.size + 1) (.inl ⟨rfl, rfl⟩))
        have F2 := Lib.hid (rowLaid hPr hmr hTOr hTIr htN hSO hSI d1 d2 d3 d4 ho3 RZ (wr.heap.size + 1) wr.heap.size (.inr ⟨rfl, rfl⟩))
        go_cut [] (fun wy => RowLaid wr wy pB gm cm gO gI N n L t S M RZ ∧ w.grownBy wy (some pB))
        case first =>
          as_aux_lemma =>
            --A(
            have c2 := hPr.cell 2
            have c3 := hPr.cell 3
            obtain ⟨cs, q1, q2, -⟩ := hTOr
            obtain ⟨ds, r1, r2, -⟩ := hTIr
            have hfO := q1.free
            have hfI := r1.free
            have hO6 := q1.lt
            have hI6 := r1.lt
            have vO : wr.cell? ⟨gO, t, none⟩ = some (cs[t]'(by omega)) := by rw [q1.cell]; simp [q2, htN]
            have vI : wr.cell? ⟨gI, t, none⟩ = some (ds[t]'(by omega)) := by rw [r1.cell]; simp [r2, htN]
            have hP6 := hPr.lt
            have e1 : ¬ gO = pB := fun e => d1 e.symm
            have e2 : ¬ gI = pB := fun e => d2 e.symm
            go_region_held3 (fun W' => W'.cell? ⟨pB, 2, none⟩ = some (.slice (some ⟨gO, 0, none⟩) N N) ∧ W'.cell? ⟨pB, 3, none⟩ = some (.slice (some ⟨gI, 0, none⟩) N N)) ((exact ⟨(show Blk _ pB 71 (PlCells gm cm gO gI N L) from by repeat (first | exact hPr | refine Blk.drew ?_ | refine Blk.alloc ?_ _ | refine Blk.far ?_ (by first | exact d1 | exact d2) _)).cell 2, (show Blk _ pB 71 (PlCells gm cm gO gI N L) from by repeat (first | exact hPr | refine Blk.drew ?_ | refine Blk.alloc ?_ _ | refine Blk.far ?_ (by first | exact d1 | exact d2) _)).cell 3⟩)) (fail)
            all_goals
              go_wp2_with fail
              go_meet
              first
                | with_reducible exact ⟨F1.out, gr_drew (gr_alloc (gr_alloc (gr_put (gr_put hgr (.inr ho1) _) (.inr ho2) _) _) _)⟩
                | with_reducible exact ⟨F2.out, gr_drew (gr_alloc (gr_alloc (gr_put (gr_put hgr (.inr ho1) _) (.inr ho2) _) _) _)⟩
            --A)
        case rest =>
          obtain ⟨⟨go, gi, hgo, hgi, hgg, hF, hRO, hRI⟩, hG2⟩ := hcut
          rename World => w5
          have hbds : pB < wr.heap.size ∧ gm < wr.heap.size ∧ gO < wr.heap.size ∧ gI < wr.heap.size := by omega
          have hOffO : Off S pB gm gO gI (some go) := ⟨by simp; omega, by simp; omega, by simp; omega, by simp; omega, fun g hg e => by injection e with e; have := (HS.out g).1 hg; omega⟩
          have hOffI : Off S pB gm gO gI (some gi) := ⟨by simp; omega, by simp; omega, by simp; omega, by simp; omega, fun g hg e => by injection e with e; have := (HS.out g).1 hg; omega⟩
          have hw5 : go < w5.heap.size ∧ gi < w5.heap.size := ⟨hRO.lt, hRI.lt⟩
          have hwg : w.heap.size ≤ go ∧ w.heap.size ≤ gi := by have := hgr.size; omega
          clear F1 F2 hPr hmr hTOr hTIr hgr
          go_wp2_with fail
          go_loopw [47] (fun i wy => ∃ (j : Nat) (rs : Array Value), j ≤ N ∧ i = .int .i64 j ∧ Blk wy go 75 rs ∧ rs.size = N * 2 ∧ Hid (RowC rs j (outT n L M t)) ∧ w5.grownBy wy (some go)) (fun i _ => N - (intOf i).toNat)
          case atStart => exact ⟨0, RZ, by omega, rfl, hRO, hRs, (fun k hk => by omega), gr_refl _ _⟩
          case round =>
            rename World => wy
            obtain ⟨j, rs, hj, rfl, hR, hrs, HRC, hg5⟩ := hrel
            by_cases hlt : j < N
            · have hltn : (j : Int) < (N : Int) := by omega
              have hF5 := hF.grown hg5 hOffO
              have KX : Hid (∀ W' : World, wy.grownBy W' (some go) → (W'.cell? ⟨pB, 2, none⟩ = some (.slice (some ⟨gO, 0, none⟩) N N) ∧ W'.cell? ⟨gO, t, none⟩ = some (.slice (some ⟨go, 0, none⟩) N N)) ∧ wy.grownBy W' (some go)) := fun W' hW =>
                ⟨⟨(hF5.grown hW hOffO).pl.cell 2, (hF5.grown hW hOffO).co⟩, hW⟩
              obtain ⟨⟨p2, q0⟩, -⟩ := KX.out wy (gr_refl _ _)
              obtain ⟨v0, hv0⟩ : ∃ v, rs[j * 2]? = some v := ⟨_, Array.getElem?_eq_getElem (by omega)⟩
              obtain ⟨v1, hv1⟩ : ∃ v, rs[j * 2 + 1]? = some v := ⟨_, Array.getElem?_eq_getElem (by omega)⟩
              go_upto_region 9 with fail
              go_cut [] (fun wz => RowAt wz go N j (outT n L M t) 2001 0 ∧ wy.grownBy wz (some go))
              case first =>
                as_aux_lemma =>
                --A(
                  go_region_held3 (fun W' => (W'.cell? ⟨pB, 2, none⟩ = some (.slice (some ⟨gO, 0, none⟩) N N) ∧ W'.cell? ⟨gO, t, none⟩ = some (.slice (some ⟨go, 0, none⟩) N N)) ∧ wy.grownBy W' (some go)) ((exact KX.out _ (by repeat (first | exact gr_refl _ _ | assumption | refine gr_drew ?_ | refine gr_alloc ?_ _ | refine gr_put ?_ (.inl rfl) _ | refine gr_trans ?_ (gr_weak (by assumption) _)))))
                    (first | (go_at_call 53; refine (never_any _).mono ?_; rintro _ wA ⟨rfl, hgA⟩; have hRA := Blk.grown (show Blk _ go 75 rs from by repeat (first | exact hR | refine Blk.drew ?_)) hgA (by simp); have hfA := hRA.free; have hlA := hRA.lt; have vA0 := (hRA.cell (j * 2)).trans hv0; have vA1 := (hRA.cell (j * 2 + 1)).trans hv1) | fail)
                  all_goals
                    go_wp2_with fail
                    go_meet
                    exact ⟨by first | exact rowAt_put hRA hrs HRC.out hlt 2001 0 | exact RowAt.grown (rowAt_put hRA hrs HRC.out hlt 2001 0) (gr_drew (gr_refl _ _)), (by repeat (first | exact gr_refl _ _ | assumption | refine gr_drew ?_ | refine gr_alloc ?_ _ | refine gr_put ?_ (.inl rfl) _ | refine gr_trans ?_ (gr_weak (by assumption) _)))⟩
                --A)
              case rest =>
                obtain ⟨hRT, hg6⟩ := hcut
                rename World => wz
                have hgz := gr_trans hg5 hg6
                have hFz := hF.grown hgz hOffO
                obtain ⟨⟨p2, q0⟩, -⟩ := KX.out wz hg6
                clear hg5 hg6 hF5 KX hR hrs HRC hv0 hv1
                by_cases h0 : j = 0
                · subst h0
                  obtain ⟨r0, r1, r2, r3⟩ := hRT.facts
                  have hfin := outT_zero (n := n) (L := L) (M := M) t
                  go_wp2_with fail
                  obtain ⟨rs2, u1, u2, u3⟩ := (hRT.put hlt 0 0).full hfin
                  have HU3 := Lib.hid u3
                  have hgq6 := gr_put (p := (⟨go, 0 * 2 + 1, none⟩ : Addr)) (gr_put (p := (⟨go, 0 * 2, none⟩ : Addr)) hgz (.inl rfl) (.int .i64 0)) (.inl rfl) (.int .i64 0)
                  clear u3 hfin
                  go_roundw
                  case rel => exact ⟨0 + 1, rs2, by omega, by go_num, u1, u2, HU3, hgq6⟩
                  case measure => simp [intOf]; omega
                · have hj0 : ((j : Int) == 0) = false := by rw [beq_eq_false_iff_ne]; omega
                  have hj0' : ¬ (j : Int) = 0 := by omega
                  by_cases h1 : t < n
                  · have h1i : (t : Int) < (n : Int) := by omega
                    obtain ⟨T, hT⟩ : ∃ T, t + 1 = T := ⟨_, rfl⟩
                    have hTi : IntKind.i64.wrap ((t : Int) + 1) = (T : Int) := by rw [IntKind.wrap_i64]; omega
                    have hTN : T < N := by have := HN.out; omega
                    have hTNi : (T : Int) < (N : Int) := by omega
                    obtain ⟨g1, k0, k1⟩ := hFz.tbo.at_ T (by omega) hTN
                    obtain ⟨k1, k2⟩ := k1 j hlt
                    obtain ⟨c1, hc1⟩ : ∃ z, (outT n L M T j).1 = z := ⟨_, rfl⟩
                    obtain ⟨c2, hc2⟩ : ∃ z, (outT n L M T j).2 = z := ⟨_, rfl⟩
                    obtain ⟨b1, hb1⟩ : ∃ z, (begT n L M t j).1 = z := ⟨_, rfl⟩
                    obtain ⟨b2, hb2⟩ : ∃ z, (begT n L M t j).2 = z := ⟨_, rfl⟩
                    rw [hc1] at k1
                    rw [hc2] at k2
                    have HST : Hid (outT n L M t j = betC (b1, b2) (c1, c2)) := by
                      show _ = _
                      rw [outT_step hL h1 h0, hT, ← hc1, ← hc2, ← hb1, ← hb2]
                    have HBG : Hid (∀ W, FillAt W pB gm cm gO gI N n L t go gi S M → Calls Try.prog 54 #[.pointer (some ⟨pB, 0, none⟩), .int .i64 t, .int .i64 j] W fun r w' => r = .returned (.agg #[.int .i64 b1, .int .i64 b2]) ∧ W.grownBy w' none) := fun W hW => by
                      rw [← hb1, ← hb2]
                      exact begun_ok pB gm cm gO gI N n L (t + 1) S (inT n L M) M t j W hW.pl hW.tbi hW.mn HN.out (by omega) hL2 htn (by omega) hlt (fun u v _ hu => (HBD.out u v hu).2) HMB.out
                    clear hc1 hc2 hb1 hb2 hT
                    have p2d : wz.drew.cell? ⟨pB, 2, none⟩ = _ := p2
                    have q0d : wz.drew.cell? ⟨gO, t, none⟩ = _ := q0
                    have k0d : wz.drew.cell? ⟨gO, T, none⟩ = _ := k0
                    have k1d : wz.drew.cell? ⟨g1, j * 2, none⟩ = _ := k1
                    have k2d : wz.drew.cell? ⟨g1, j * 2 + 1, none⟩ = _ := k2
                    have hRTd := hRT.grown (gr_drew (gr_refl wz none))
                    have hgzd := gr_drew hgz
                    have hFzd := hFz.grown (gr_drew (gr_refl wz none)) (off_none _ _ _ _ _)
                    go_wp2_with fail
                    go_still_tail 19, (by kernel_rfl)
                    change wpList _ _ _ _ _ wz.drew
                    clear p2 q0 k0 k1 k2 p2d q0d k0d k1d k2d hRT hgz hFz
                    generalize wz.drew = wy2 at *
                    obtain ⟨r0, r1, r2, r3⟩ := hRTd.facts
                    have hRT2 := hRTd.put hlt c1 c2
                    have hgp := gr_put (p := (⟨go, j * 2 + 1, none⟩ : Addr)) (gr_put (p := (⟨go, j * 2, none⟩ : Addr)) (gr_refl wy2 (some go)) (.inl rfl) (.int .i64 c1)) (.inl rfl) (.int .i64 c2)
                    have hgq := gr_trans hgzd hgp
                    have hFq := hFzd.grown hgp hOffO
                    clear hRTd hgzd hFzd hgp
                    go_wp2_with fail
                    refine (HBG.out _ hFq).mono ?_
                    rintro _ w7 ⟨rfl, hg7⟩
                    have hX := Blk.new w7 75 #[.int .i64 b1, .int .i64 b2]
                    have hgX := gr_alloc hg7 (.cells #[.int .i64 b1, .int .i64 b2] 75)
                    have hRT3 := hRT2.grown hgX
                    have hgq3 := gr_trans hgq (gr_weak hgX (some go))
                    have hFq3 := hFq.grown hgX (off_none _ _ _ _ _)
                    clear hg7 hgX hRT2 hgq hFq
                    go_upto_region 15 with fail
                    generalize w7.alloc (.cells #[.int .i64 b1, .int .i64 b2] 75) = w8 at *
                    generalize w7.heap.size = gx at *
                    have KY : Hid (∀ W' : World, w8.grownBy W' none → (W'.cell? ⟨pB, 2, none⟩ = some (.slice (some ⟨gO, 0, none⟩) N N) ∧ W'.cell? ⟨gO, t, none⟩ = some (.slice (some ⟨go, 0, none⟩) N N) ∧ W'.cell? ⟨go, j * 2, none⟩ = some (.int .i64 c1) ∧ W'.cell? ⟨go, j * 2 + 1, none⟩ = some (.int .i64 c2) ∧ W'.cell? ⟨gx, 0, none⟩ = some (.int .i64 b1) ∧ W'.cell? ⟨gx, 1, none⟩ = some (.int .i64 b2)) ∧ w8.grownBy W' none) := fun W' hW =>
                      ⟨⟨(hFq3.grown hW (off_none _ _ _ _ _)).pl.cell 2, (hFq3.grown hW (off_none _ _ _ _ _)).co, (hRT3.grown hW).facts.1, (hRT3.grown hW).facts.2.1, (hX.grown hW (by simp)).cell 0, (hX.grown hW (by simp)).cell 1⟩, hW⟩
                    obtain ⟨⟨p2, q0, r0, r1, x0, x1⟩, -⟩ := KY.out w8 (gr_refl _ _)
                    obtain ⟨lv, hlv⟩ : ∃ lv, lessC (b1, b2) (c1, c2) = lv := ⟨_, rfl⟩
                    have HLV := Lib.hid hlv
                    have HLS : Hid (∀ W, Calls Try.prog 55 #[.agg #[.int .i64 b1, .int .i64 b2], .agg #[.int .i64 c1, .int .i64 c2]] W fun r w' => r = .returned (.bool lv) ∧ W.grownBy w' none) := fun W => by rw [← hlv]; exact less_any _ _ _ _ W
                    clear hlv
                    go_cut [110] (fun s wq => s = .bool lv ∧ w8.grownBy wq none)
                    case first =>
                      as_aux_lemma =>
                      --A(
                        go_region_held3 (fun W' => (W'.cell? ⟨pB, 2, none⟩ = some (.slice (some ⟨gO, 0, none⟩) N N) ∧ W'.cell? ⟨gO, t, none⟩ = some (.slice (some ⟨go, 0, none⟩) N N) ∧ W'.cell? ⟨go, j * 2, none⟩ = some (.int .i64 c1) ∧ W'.cell? ⟨go, j * 2 + 1, none⟩ = some (.int .i64 c2) ∧ W'.cell? ⟨gx, 0, none⟩ = some (.int .i64 b1) ∧ W'.cell? ⟨gx, 1, none⟩ = some (.int .i64 b2)) ∧ w8.grownBy W' none) ((exact KY.out _ (by repeat (first | exact gr_refl _ _ | assumption | refine gr_drew ?_ | refine gr_alloc ?_ _ | refine gr_trans ?_ (by assumption)))))
                          (first | (go_at_call 55; refine (HLS.out _).mono ?_; rintro _ wA ⟨rfl, hgA⟩) | fail)
                        all_goals
                          go_wp2_with fail
                          go_meet
                          exact ⟨rfl, (by repeat (first | exact gr_refl _ _ | assumption | refine gr_drew ?_ | refine gr_alloc ?_ _ | refine gr_trans ?_ (by assumption)))⟩
                      --A)
                    case rest =>
                      obtain ⟨rfl, hg9⟩ := hcut
                      rename World => w9
                      have hRT4 := hRT3.grown hg9
                      have hgq4 := gr_trans hgq3 (gr_weak hg9 (some go))
                      obtain ⟨⟨p2, q0, r0, r1, x0, x1⟩, -⟩ := KY.out w9 hg9
                      cases lv with
                      | false =>
                        have hfin : outT n L M t j = (c1, c2) := by
                          rw [HST.out]
                          show betC (b1, b2) (c1, c2) = (c1, c2)
                          unfold betC
                          rw [HLV.out]
                          rfl
                        obtain ⟨rs2, u1, u2, u3⟩ := hRT4.full hfin
                        have HU3 := Lib.hid u3
                        clear u3 hfin
                        go_wp2_with fail
                        go_roundw
                        case rel => exact ⟨j + 1, rs2, by omega, by go_num, u1, u2, HU3, hgq4⟩
                        case measure => simp [intOf]; omega
                      | true =>
                        have hfin : outT n L M t j = (b1, b2) := by
                          rw [HST.out]
                          show betC (b1, b2) (c1, c2) = (b1, b2)
                          unfold betC
                          rw [HLV.out]
                          rfl
                        have p2d : w9.drew.cell? ⟨pB, 2, none⟩ = _ := p2
                        have q0d : w9.drew.cell? ⟨gO, t, none⟩ = _ := q0
                        have x0d : w9.drew.cell? ⟨gx, 0, none⟩ = _ := x0
                        have x1d : w9.drew.cell? ⟨gx, 1, none⟩ = _ := x1
                        have hRT5 := hRT4.grown (gr_drew (gr_refl w9 none))
                        have hgq5 := gr_drew hgq4
                        go_wp2_with fail
                        go_still_tail 9, (by kernel_rfl)
                        change wpList _ _ _ _ _ w9.drew
                        clear p2 q0 r0 r1 x0 x1 p2d q0d x0d x1d hRT4 hgq4
                        generalize w9.drew = w10 at *
                        obtain ⟨r0, r1, r2, r3⟩ := hRT5.facts
                        go_wp2_with fail
                        obtain ⟨rs2, u1, u2, u3⟩ := (hRT5.put hlt b1 b2).full hfin
                        have HU3 := Lib.hid u3
                        have hgq6 := gr_put (p := (⟨go, j * 2 + 1, none⟩ : Addr)) (gr_put (p := (⟨go, j * 2, none⟩ : Addr)) hgq5 (.inl rfl) (.int .i64 b1)) (.inl rfl) (.int .i64 b2)
                        clear u3 hfin
                        go_roundw
                        case rel => exact ⟨j + 1, rs2, by omega, by go_num, u1, u2, HU3, hgq6⟩
                        case measure => simp [intOf]; omega
                  · have h1i : ¬ (t : Int) < (n : Int) := by omega
                    obtain rfl : t = n := by omega
                    obtain ⟨rs2, u1, u2, u3⟩ := hRT.full (outT_end (L := L) (M := M) h0)
                    have HU3 := Lib.hid u3
                    clear u3
                    go_wp2_with fail
                    go_roundw
                    case rel => exact ⟨j + 1, rs2, by omega, by go_num, u1, u2, HU3, hgz⟩
                    case measure => simp [intOf]; omega
            · obtain rfl : N = j := by omega
              have hjn : ¬ ((N : Int) < (N : Int)) := by omega
              have hFy := hF.grown hg5 hOffO
              have hRIy := hRI.grown hg5 (by simp; omega)
              have hTOt := hFy.tbo.snoc hFy.co hR HRC.out
              have hGy : w.grownBy wy (some pB) := gr_grown hG2 hg5 (fun g e => .inr (by injection e with e; omega))
              have hsy := hg5.size
              clear hF hg5 hR hrs HRC hRO hRI hG2
              have hOffI2 : ∀ g, (S g ∨ g = go) → some g ≠ some gi := fun g hg e => by
                injection e with e
                rcases hg with hg | hg
                · have := (HS.out g).1 hg; omega
                · omega
              go_wp2_with fail
              go_loopw [124] (fun i wr => ∃ (j2 : Nat) (rs : Array Value), j2 ≤ N ∧ i = .int .i64 j2 ∧ Blk wr gi 75 rs ∧ rs.size = N * 2 ∧ Hid (RowC rs j2 (inT n L M t)) ∧ wy.grownBy wr (some gi)) (fun i _ => N - (intOf i).toNat)
              case atStart => exact ⟨0, RZ, by omega, rfl, hRIy, hRs, (fun k hk => by omega), gr_refl _ _⟩
              case round =>
                rename World => wx
                obtain ⟨j, rs, hj, rfl, hR, hrs, HRC, hg5⟩ := hrel
                by_cases hlt : j < N
                · have hltn : (j : Int) < (N : Int) := by omega
                  have hFx := hFy.grown hg5 hOffI
                  have hTx := hTOt.grown hg5 (by simp; omega) hOffI2
                  have KX : Hid (∀ W' : World, wx.grownBy W' (some gi) → (W'.cell? ⟨pB, 3, none⟩ = some (.slice (some ⟨gI, 0, none⟩) N N) ∧ W'.cell? ⟨gI, t, none⟩ = some (.slice (some ⟨gi, 0, none⟩) N N)) ∧ wx.grownBy W' (some gi)) := fun W' hW =>
                    ⟨⟨(hFx.grown hW hOffI).pl.cell 3, (hFx.grown hW hOffI).ci⟩, hW⟩
                  obtain ⟨⟨p2, q0⟩, -⟩ := KX.out wx (gr_refl _ _)
                  obtain ⟨v0, hv0⟩ : ∃ v, rs[j * 2]? = some v := ⟨_, Array.getElem?_eq_getElem (by omega)⟩
                  obtain ⟨v1, hv1⟩ : ∃ v, rs[j * 2 + 1]? = some v := ⟨_, Array.getElem?_eq_getElem (by omega)⟩
                  obtain ⟨e1, he1⟩ : ∃ z, (endT n L M t j).1 = z := ⟨_, rfl⟩
                  obtain ⟨e2, he2⟩ : ∃ z, (endT n L M t j).2 = z := ⟨_, rfl⟩
                  obtain ⟨b1, hb1⟩ : ∃ z, (goneT n L M t j).1 = z := ⟨_, rfl⟩
                  obtain ⟨b2, hb2⟩ : ∃ z, (goneT n L M t j).2 = z := ⟨_, rfl⟩
                  have HST : Hid (inT n L M t j = betC (b1, b2) (e1, e2)) := by
                    show _ = _
                    rw [inT_step htn, ← he1, ← he2, ← hb1, ← hb2]
                  have HEN : Hid (∀ W', wx.grownBy W' (some gi) → Calls Try.prog 56 #[.pointer (some ⟨pB, 0, none⟩), .int .i64 t, .int .i64 j] W' fun r w' => r = .returned (.agg #[.int .i64 e1, .int .i64 e2]) ∧ W'.grownBy w' none) := fun W' hW => by
                    rw [← he1, ← he2]
                    exact ended_ok pB gm cm gO gI N n L t (fun g => S g ∨ g = go) (outT n L M) t j W' (hFx.grown hW hOffI).pl (hTx.grown hW (by simp; omega) hOffI2) HN.out (by omega) htn (by omega) hlt
                  have HGN : Hid (∀ W, FillAt W pB gm cm gO gI N n L t go gi S M → Calls Try.prog 57 #[.pointer (some ⟨pB, 0, none⟩), .int .i64 t, .int .i64 j] W fun r w' => r = .returned (.agg #[.int .i64 b1, .int .i64 b2]) ∧ W.grownBy w' none) := fun W hW => by
                    rw [← hb1, ← hb2]
                    exact gone_ok pB gm cm gO gI N n L (t + 1) S (inT n L M) M t j W hW.pl hW.tbi hW.mn HN.out (by omega) htn (by omega) hlt (fun u v _ hu => (HBD.out u v hu).2) HMB.out
                  clear he1 he2 hb1 hb2
                  go_upto_region 21 with fail
                  go_cut [] (fun wz => RowAt wz gi N j (inT n L M t) e1 e2 ∧ wx.grownBy wz (some gi))
                  case first =>
                    as_aux_lemma =>
                    --A(
                      go_region_held3 (fun W' => (W'.cell? ⟨pB, 3, none⟩ = some (.slice (some ⟨gI, 0, none⟩) N N) ∧ W'.cell? ⟨gI, t, none⟩ = some (.slice (some ⟨gi, 0, none⟩) N N)) ∧ wx.grownBy W' (some gi)) ((exact KX.out _ (by repeat (first | exact gr_refl _ _ | assumption | refine gr_drew ?_ | refine gr_alloc ?_ _ | refine gr_put ?_ (.inl rfl) _ | refine gr_trans ?_ (gr_weak (by assumption) _)))))
                        (first | (go_at_call 56; refine (HEN.out _ (by repeat (first | exact gr_refl _ _ | assumption | refine gr_drew ?_ | refine gr_alloc ?_ _ | refine gr_put ?_ (.inl rfl) _ | refine gr_trans ?_ (gr_weak (by assumption) _)))).mono ?_; rintro _ wA ⟨rfl, hgA⟩; have hRA := Blk.grown (show Blk _ gi 75 rs from by repeat (first | exact hR | refine Blk.drew ?_)) hgA (by simp); have hfA := hRA.free; have hlA := hRA.lt; have vA0 := (hRA.cell (j * 2)).trans hv0; have vA1 := (hRA.cell (j * 2 + 1)).trans hv1) | fail)
                      all_goals
                        go_wp2_with fail
                        go_meet
                        exact ⟨by first | exact rowAt_put hRA hrs HRC.out hlt e1 e2 | exact RowAt.grown (rowAt_put hRA hrs HRC.out hlt e1 e2) (gr_drew (gr_refl _ _)), (by repeat (first | exact gr_refl _ _ | assumption | refine gr_drew ?_ | refine gr_alloc ?_ _ | refine gr_put ?_ (.inl rfl) _ | refine gr_trans ?_ (gr_weak (by assumption) _)))⟩
                    --A)
                  case rest =>
                  obtain ⟨hRT2, hg6⟩ := hcut
                  have hgq := gr_trans hg5 hg6
                  have hFq := hFy.grown hgq hOffI
                  clear hg5 hg6 hFx hTx KX p2 q0 hR hrs HRC hv0 hv1 HEN
                  go_wp2_with fail
                  refine (HGN.out _ hFq).mono ?_
                  rintro _ w7 ⟨rfl, hg7⟩
                  have hX := Blk.new w7 75 #[.int .i64 b1, .int .i64 b2]
                  have hgX := gr_alloc hg7 (.cells #[.int .i64 b1, .int .i64 b2] 75)
                  have hRT3 := hRT2.grown hgX
                  have hgq3 := gr_trans hgq (gr_weak hgX (some gi))
                  have hFq3 := hFq.grown hgX (off_none _ _ _ _ _)
                  clear hg7 hgX hRT2 hgq hFq
                  go_upto_region 23 with fail
                  generalize w7.alloc (.cells #[.int .i64 b1, .int .i64 b2] 75) = w8 at *
                  generalize w7.heap.size = gx at *
                  have KY : Hid (∀ W' : World, w8.grownBy W' none → (W'.cell? ⟨pB, 3, none⟩ = some (.slice (some ⟨gI, 0, none⟩) N N) ∧ W'.cell? ⟨gI, t, none⟩ = some (.slice (some ⟨gi, 0, none⟩) N N) ∧ W'.cell? ⟨gi, j * 2, none⟩ = some (.int .i64 e1) ∧ W'.cell? ⟨gi, j * 2 + 1, none⟩ = some (.int .i64 e2) ∧ W'.cell? ⟨gx, 0, none⟩ = some (.int .i64 b1) ∧ W'.cell? ⟨gx, 1, none⟩ = some (.int .i64 b2)) ∧ w8.grownBy W' none) := fun W' hW =>
                    ⟨⟨(hFq3.grown hW (off_none _ _ _ _ _)).pl.cell 3, (hFq3.grown hW (off_none _ _ _ _ _)).ci, (hRT3.grown hW).facts.1, (hRT3.grown hW).facts.2.1, (hX.grown hW (by simp)).cell 0, (hX.grown hW (by simp)).cell 1⟩, hW⟩
                  obtain ⟨⟨p2, q0, r0, r1, x0, x1⟩, -⟩ := KY.out w8 (gr_refl _ _)
                  obtain ⟨lv, hlv⟩ : ∃ lv, lessC (b1, b2) (e1, e2) = lv := ⟨_, rfl⟩
                  have HLV := Lib.hid hlv
                  have HLS : Hid (∀ W, Calls Try.prog 55 #[.agg #[.int .i64 b1, .int .i64 b2], .agg #[.int .i64 e1, .int .i64 e2]] W fun r w' => r = .returned (.bool lv) ∧ W.grownBy w' none) := fun W => by rw [← hlv]; exact less_any _ _ _ _ W
                  clear hlv
                  go_cut [155] (fun s wq => s = .bool lv ∧ w8.grownBy wq none)
                  case first =>
                    as_aux_lemma =>
                    --A(
                      go_region_held3 (fun W' => (W'.cell? ⟨pB, 3, none⟩ = some (.slice (some ⟨gI, 0, none⟩) N N) ∧ W'.cell? ⟨gI, t, none⟩ = some (.slice (some ⟨gi, 0, none⟩) N N) ∧ W'.cell? ⟨gi, j * 2, none⟩ = some (.int .i64 e1) ∧ W'.cell? ⟨gi, j * 2 + 1, none⟩ = some (.int .i64 e2) ∧ W'.cell? ⟨gx, 0, none⟩ = some (.int .i64 b1) ∧ W'.cell? ⟨gx, 1, none⟩ = some (.int .i64 b2)) ∧ w8.grownBy W' none) ((exact KY.out _ (by repeat (first | exact gr_refl _ _ | assumption | refine gr_drew ?_ | refine gr_alloc ?_ _ | refine gr_trans ?_ (by assumption)))))
                        (first | (go_at_call 55; refine (HLS.out _).mono ?_; rintro _ wA ⟨rfl, hgA⟩) | fail)
                      all_goals
                        go_wp2_with fail
                        go_meet
                        exact ⟨rfl, (by repeat (first | exact gr_refl _ _ | assumption | refine gr_drew ?_ | refine gr_alloc ?_ _ | refine gr_trans ?_ (by assumption)))⟩
                    --A)
                  case rest =>
                    obtain ⟨rfl, hg9⟩ := hcut
                    rename World => w9
                    have hRT4 := hRT3.grown hg9
                    have hgq4 := gr_trans hgq3 (gr_weak hg9 (some gi))
                    obtain ⟨⟨p2, q0, r0, r1, x0, x1⟩, -⟩ := KY.out w9 hg9
                    cases lv with
                    | false =>
                      have hfin : inT n L M t j = (e1, e2) := by
                        rw [HST.out]
                        show betC (b1, b2) (e1, e2) = (e1, e2)
                        unfold betC
                        rw [HLV.out]
                        rfl
                      obtain ⟨rs2, u1, u2, u3⟩ := hRT4.full hfin
                      have HU3 := Lib.hid u3
                      clear u3 hfin
                      go_wp2_with fail
                      go_roundw
                      case rel => exact ⟨j + 1, rs2, by omega, by go_num, u1, u2, HU3, hgq4⟩
                      case measure => simp [intOf]; omega
                    | true =>
                      have hfin : inT n L M t j = (b1, b2) := by
                        rw [HST.out]
                        show betC (b1, b2) (e1, e2) = (b1, b2)
                        unfold betC
                        rw [HLV.out]
                        rfl
                      have p2d : w9.drew.cell? ⟨pB, 3, none⟩ = _ := p2
                      have q0d : w9.drew.cell? ⟨gI, t, none⟩ = _ := q0
                      have x0d : w9.drew.cell? ⟨gx, 0, none⟩ = _ := x0
                      have x1d : w9.drew.cell? ⟨gx, 1, none⟩ = _ := x1
                      have hRT5 := hRT4.grown (gr_drew (gr_refl w9 none))
                      have hgq5 := gr_drew hgq4
                      go_wp2_with fail
                      go_still_tail 9, (by kernel_rfl)
                      change wpList _ _ _ _ _ w9.drew
                      clear p2 q0 r0 r1 x0 x1 p2d q0d x0d x1d hRT4 hgq4
                      generalize w9.drew = w10 at *
                      obtain ⟨r0, r1, r2, r3⟩ := hRT5.facts
                      go_wp2_with fail
                      obtain ⟨rs2, u1, u2, u3⟩ := (hRT5.put hlt b1 b2).full hfin
                      have HU3 := Lib.hid u3
                      have hgq6 := gr_put (p := (⟨gi, j * 2 + 1, none⟩ : Addr)) (gr_put (p := (⟨gi, j * 2, none⟩ : Addr)) hgq5 (.inl rfl) (.int .i64 b1)) (.inl rfl) (.int .i64 b2)
                      clear u3 hfin
                      go_roundw
                      case rel => exact ⟨j + 1, rs2, by omega, by go_num, u1, u2, HU3, hgq6⟩
                      case measure => simp [intOf]; omega
                · obtain rfl : N = j := by omega
                  have hjn : ¬ ((N : Int) < (N : Int)) := by omega
                  have hFx := hFy.grown hg5 hOffI
                  have hTx := hTOt.grown hg5 (by simp; omega) hOffI2
                  have hTi := hFx.tbi.snoc hFx.ci hR HRC.out
                  have hwt1 : IntKind.i64.wrap ((t : Int) - 1) = (t : Int) - 1 := by rw [IntKind.wrap_i64]; omega
                  have hsx := hg5.size
                  have hGx : w.grownBy wx (some pB) := gr_grown hGy hg5 (fun g e => .inr (by injection e with e; omega))
                  have hPx := hFx.pl
                  have hmx := hFx.mn
                  have HTO : Hid (TabF wx gO N (N - (k + 1)) (fun g => w1.heap.size ≤ g ∧ g < wx.heap.size) (outT n L M)) := by
                    show TabF _ _ _ _ _ _
                    rw [HT2.out]
                    exact hTx.mono (fun g hg => by
                      rcases hg with hg | hg
                      · have := (HS.out g).1 hg; omega
                      · omega)
                  have HTI : Hid (TabF wx gI N (N - (k + 1)) (fun g => w1.heap.size ≤ g ∧ g < wx.heap.size) (inT n L M)) := by
                    show TabF _ _ _ _ _ _
                    rw [HT2.out]
                    exact hTi.mono (fun g hg => by
                      rcases hg with hg | hg
                      · have := (HS.out g).1 hg; omega
                      · omega)
                  have hk1 : k + 1 ≤ N := by have := HN.out; have := HKN.out; omega
                  have hs1 : w1.heap.size ≤ wx.heap.size := by omega
                  clear hFx hTx hTi hg5 hFy hTOt
                  go_wp2_with fail
                  go_roundw
                  case rel => exact ⟨k + 1, (t : Int) - 1, hk1, HZ1, by omega, by omega, by first | rfl | go_num, hPx, hmx, HTO.out, HTI.out, hGx, hs1⟩
                  case measure => simp [intOf] <;> omega
      · obtain rfl : z = -1 := by omega
        obtain rfl : N = k := by have := HZ.out; have := HN.out; omega
        have HO0 : Hid (TabF wr gO N 0 (fun g => w1.heap.size ≤ g ∧ g < wr.heap.size) (outT n L M)) := by
          show TabF _ _ _ _ _ _
          rw [Nat.sub_self] at hTOr
          exact hTOr
        have HI0 : Hid (TabF wr gI N 0 (fun g => w1.heap.size ≤ g ∧ g < wr.heap.size) (inT n L M)) := by
          show TabF _ _ _ _ _ _
          rw [Nat.sub_self] at hTIr
          exact hTIr
        clear hTOr hTIr
        go_wp2_with fail
        go_end0
        exact ⟨rfl, gO, gI, hPr, _, HO0.out, HI0.out, hgr⟩
end Go.Proofs.Ytlbhphfmckhimaa
