/- The walks over the planner's parts: long, begun, gone, ended, and the cost's methods. Condition: the tables lie in memory as they were filled. -/
import Derived.Test.YtlbhphfmckhimaaPlanPlain
import Derived.Test.YtlbhphfmckhimaaFaults
import Derived.Test.YtlbhphfmckhimaaInts
import Derived.Deep.RegionHeld3
import Derived.Deep.RegionWith
import Derived.Deep.DeepCutAuto
import Derived.StillTailTactics
namespace Go.Proofs.Ytlbhphfmckhimaa
open Go.RowKit
set_option linter.unusedVariables false
set_option linter.unusedSimpArgs false

/-- A row of costs. -/
def RowC (rs : Array Value) (m : Nat) (f : Nat → Co) : Prop := ∀ k, k < m → rs[k * 2]? = some (.int .i64 (f k).1) ∧ rs[k * 2 + 1]? = some (.int .i64 (f k).2)
/-- A table of which the rows from one on are filled; they lie in such blocks. -/
def TabF (w : World) (B N lo : Nat) (S : Nat → Prop) (f : Nat → Nat → Co) : Prop :=
  ∃ cs : Array Value, Blk w B 76 cs ∧ cs.size = N ∧ ∀ t, lo ≤ t → t < N → ∃ (g : Nat) (rs : Array Value), cs[t]? = some (.slice (some ⟨g, 0, none⟩) N N) ∧ S g ∧ Blk w g 75 rs ∧ RowC rs N (f t)
theorem TabF.grown {w w' : World} {B N lo : Nat} {S : Nat → Prop} {f : Nat → Nat → Co} (h : TabF w B N lo S f) {row : Option Nat} (hg : w.grownBy w' row) (hB : some B ≠ row) (hr : ∀ g, S g → some g ≠ row) : TabF w' B N lo S f := by
  obtain ⟨cs, h1, h2, h3⟩ := h
  refine ⟨cs, h1.grown hg hB, h2, fun t ht hN => ?_⟩
  obtain ⟨g, rs, q1, q2, q4, q5⟩ := h3 t ht hN
  exact ⟨g, rs, q1, q2, q4.grown hg (hr g q2), q5⟩
theorem TabF.quiet {w w' : World} {B N lo : Nat} {S : Nat → Prop} {f : Nat → Nat → Co} (h : TabF w B N lo S f) (hg : w.grownBy w' none) : TabF w' B N lo S f := h.grown hg (by simp) (fun g _ => by simp)
theorem TabF.at_ {w : World} {B N lo : Nat} {S : Nat → Prop} {f : Nat → Nat → Co} (h : TabF w B N lo S f) (t : Nat) (ht : lo ≤ t) (hN : t < N) :
    ∃ g, w.cell? ⟨B, t, none⟩ = some (.slice (some ⟨g, 0, none⟩) N N) ∧ ∀ k, k < N → w.cell? ⟨g, k * 2, none⟩ = some (.int .i64 (f t k).1) ∧ w.cell? ⟨g, k * 2 + 1, none⟩ = some (.int .i64 (f t k).2) := by
  obtain ⟨cs, h1, h2, h3⟩ := h
  obtain ⟨g, rs, q1, q2, q4, q5⟩ := h3 t ht hN
  exact ⟨g, by rw [h1.cell, q1], fun k hk => by rw [q4.cell, q4.cell]; exact q5 k hk⟩

theorem never_any (w : World) : Calls Try.prog 53 #[] w fun r w' => r = .returned (.agg #[.int .i64 2001, .int .i64 0]) ∧ w.grownBy w' none := by
  have hB := Blk.new w 75 #[.int .i64 0, .int .i64 0]
  have hG := World.grownBy_alloc w (.cells #[.int .i64 0, .int .i64 0] 75) none
  go_enter Try.func53, Try.ntmps53
  go_upto_region 1 with fail
  generalize w.alloc (.cells #[.int .i64 0, .int .i64 0] 75) = W at *
  have hf := hB.free
  have hl := hB.lt
  have v0 := hB.cell 0
  have v1 := hB.cell 1
  go_wp2_with fail
  have hR := (hB.put 0 (.int .i64 2001)).put 1 (.int .i64 0)
  simp only [List.setIfInBounds_toArray, List.set_cons_zero, List.set_cons_succ] at hR
  have r0 := hR.cell 0
  have r1 := hR.cell 1
  refine bodyPost_ret (v := .agg #[.int .i64 2001, .int .i64 0]) (by simp [results, Try.results53, go_sem, r0, r1]) rfl ⟨rfl, ?_⟩
  exact gr_put (gr_put hG (.inr (by first | exact Nat.le_refl _ | exact Nat.le_succ _ | simp | omega)) _) (.inr (by first | exact Nat.le_refl _ | exact Nat.le_succ _ | simp | omega)) _
theorem plus_any (a b x y : Int) (w : World) (ha : -1000000 ≤ a ∧ a ≤ 1000000) (hb : -1000000 ≤ b ∧ b ≤ 1000000) (hx : -1000000 ≤ x ∧ x ≤ 1000000) (hy : -1000000 ≤ y ∧ y ≤ 1000000) :
    Calls Try.prog 70 #[.agg #[.int .i64 a, .int .i64 b], .int .i64 x, .int .i64 y] w fun r w' => r = .returned (.agg #[.int .i64 (a + x), .int .i64 (b + y)]) ∧ w.grownBy w' none := by
  have m1 : IntKind.i64.wrap (a + x) = a + x := by rw [IntKind.wrap_i64]; omega
  have m2 : IntKind.i64.wrap (b + y) = b + y := by rw [IntKind.wrap_i64]; omega
  have hA := (Blk.new w 75 #[.int .i64 a, .int .i64 b]).alloc (.cells #[.int .i64 0, .int .i64 0] 75)
  have hB := Blk.new (w.alloc (.cells #[.int .i64 a, .int .i64 b] 75)) 75 #[.int .i64 0, .int .i64 0]
  have hz : (w.alloc (.cells #[.int .i64 a, .int .i64 b] 75)).heap.size = w.heap.size + 1 := by simp
  have hG := gr_alloc (World.grownBy_alloc w (.cells #[.int .i64 a, .int .i64 b] 75) none) (.cells #[.int .i64 0, .int .i64 0] 75)
  rw [hz] at hB
  go_enter Try.func70, Try.ntmps70
  go_upto_region 1 with fail
  generalize (w.alloc (.cells #[.int .i64 a, .int .i64 b] 75)).alloc (.cells #[.int .i64 0, .int .i64 0] 75) = W at *
  have c0 := hA.cell 0
  have c1 := hA.cell 1
  have v0 := hB.cell 0
  have v1 := hB.cell 1
  have hf := hB.free
  go_wp2_with fail
  have hR := (hB.put 0 (.int .i64 (a + x))).put 1 (.int .i64 (b + y))
  simp only [List.setIfInBounds_toArray, List.set_cons_zero, List.set_cons_succ] at hR
  have r0 := hR.cell 0
  have r1 := hR.cell 1
  refine bodyPost_ret (v := .agg #[.int .i64 (a + x), .int .i64 (b + y)]) (by simp [results, Try.results70, go_sem, r0, r1]) rfl ⟨rfl, ?_⟩
  exact gr_put (gr_put hG (.inr (by first | exact Nat.le_refl _ | exact Nat.le_succ _ | simp | omega)) _) (.inr (by first | exact Nat.le_refl _ | exact Nat.le_succ _ | simp | omega)) _
theorem less_any (a b c d : Int) (w : World) :
    Calls Try.prog 55 #[.agg #[.int .i64 a, .int .i64 b], .agg #[.int .i64 c, .int .i64 d]] w fun r w' => r = .returned (.bool (lessC (a, b) (c, d))) ∧ w.grownBy w' none := by
  have hA := (Blk.new w 75 #[.int .i64 a, .int .i64 b]).alloc (.cells #[.int .i64 c, .int .i64 d] 75)
  have hB := Blk.new (w.alloc (.cells #[.int .i64 a, .int .i64 b] 75)) 75 #[.int .i64 c, .int .i64 d]
  have hz : (w.alloc (.cells #[.int .i64 a, .int .i64 b] 75)).heap.size = w.heap.size + 1 := by simp
  have hG := gr_alloc (World.grownBy_alloc w (.cells #[.int .i64 a, .int .i64 b] 75) none) (.cells #[.int .i64 c, .int .i64 d] 75)
  rw [hz] at hB
  have hway : (a < c ∧ lessC (a, b) (c, d) = true) ∨ (¬ a < c ∧ Hid (a = c) ∧ lessC (a, b) (c, d) = decide (b < d)) ∨ (¬ a < c ∧ Hid (¬ a = c) ∧ lessC (a, b) (c, d) = false) := by
    unfold lessC
    by_cases h1 : a < c
    · exact .inl ⟨h1, by simp [h1]⟩
    · by_cases h2 : a = c
      · exact .inr (.inl ⟨h1, h2, by simp [h1, h2]⟩)
      · exact .inr (.inr ⟨h1, h2, by simp [h1, h2]⟩)
  rcases hway with ⟨h1, hv⟩ | ⟨h1, H2, hv⟩ | ⟨h1, H2, hv⟩
  all_goals
    rw [hv]
    clear hv
    go_enter Try.func55, Try.ntmps55
    go_upto_region 1 with fail
    generalize (w.alloc (.cells #[.int .i64 a, .int .i64 b] 75)).alloc (.cells #[.int .i64 c, .int .i64 d] 75) = W at *
    have c0 := hA.cell 0
    have c1 := hA.cell 1
    have v0 := hB.cell 0
    have v1 := hB.cell 1
    try have h2 := H2.out
    go_wp2_with fail
    go_ret
    exact ⟨by first | rfl | simp, hG⟩
theorem long_ok (pB gm N cm n : Nat) (w : World) (h0 : w.cell? ⟨pB, 0, none⟩ = some (.slice (some ⟨gm, 0, none⟩) N cm)) (hn : N = n + 1) (hN : N ≤ 1000) :
    Calls Try.prog 36 #[.pointer (some ⟨pB, 0, none⟩)] w fun r w' => r = .returned (.int .i64 n) ∧ w = w' := by
  have hw : IntKind.i64.wrap ((N : Int) - 1) = n := by rw [IntKind.wrap_i64]; omega
  go_enter Try.func36, Try.ntmps36
  go_wp2_with fail
  go_ret
  exact ⟨rfl, rfl⟩
/-- The planner as it lies in memory. -/
abbrev PlCells (gm cm gO gI N L : Nat) : Array Value := #[.slice (some ⟨gm, 0, none⟩) N cm, .int .i64 L, .slice (some ⟨gO, 0, none⟩) N N, .slice (some ⟨gI, 0, none⟩) N N]
set_option maxRecDepth 100000 in
set_option maxHeartbeats 4000000 in
theorem ended_ok (pB gm cm gO gI N n L lo : Nat) (S : Nat → Prop) (f : Nat → Nat → Co) (t left : Nat) (w : World) (hP : Blk w pB 71 (PlCells gm cm gO gI N L)) (hO : TabF w gO N lo S f)
    (hn : N = n + 1) (hN : N ≤ 1000) (ht : t ≤ n) (hlo : lo ≤ min (t + 1) n) (hl : left < N) :
    Calls Try.prog 56 #[.pointer (some ⟨pB, 0, none⟩), .int .i64 t, .int .i64 left] w fun r w' => r = .returned (.agg #[.int .i64 (f (min (t + 1) n) left).1, .int .i64 (f (min (t + 1) n) left).2]) ∧ w.grownBy w' none := by
  have hB := Blk.new w 75 #[.int .i64 0, .int .i64 0]
  have hG := World.grownBy_alloc w (.cells #[.int .i64 0, .int .i64 0] 75) none
  have hP1 := hP.alloc (.cells #[.int .i64 0, .int .i64 0] 75)
  have hO1 := hO.quiet hG
  obtain ⟨q, hq⟩ : ∃ q, min (t + 1) n = q := ⟨_, rfl⟩
  have hqN : q < N := by omega
  have hli : (left : Int) < (N : Int) := by omega
  obtain ⟨T, hT⟩ : ∃ T, t + 1 = T := ⟨_, rfl⟩
  have hwt : IntKind.i64.wrap ((t : Int) + 1) = (T : Int) := by rw [IntKind.wrap_i64]; omega
  rw [hq] at hlo ⊢
  have HLG : Hid (∀ W : World, Blk W pB 71 (PlCells gm cm gO gI N L) → Calls Try.prog 36 #[.pointer (some ⟨pB, 0, none⟩)] W fun r w' => r = .returned (.int .i64 n) ∧ W = w') := fun W h => long_ok pB gm N cm n W (h.cell 0) hn hN
  obtain ⟨c1, hc1⟩ : ∃ z, (f q left).1 = z := ⟨_, rfl⟩
  obtain ⟨c2, hc2⟩ : ∃ z, (f q left).2 = z := ⟨_, rfl⟩
  rw [hc1, hc2]
  have HC1 := Lib.hid hc1
  have HC2 := Lib.hid hc2
  obtain ⟨cs, hO2, -, hO3⟩ := hO
  obtain ⟨g, rs, k0, -, k1, k2⟩ := hO3 q hlo hqN
  have KX : Hid (∀ W' : World, w.grownBy W' none → (W'.cell? ⟨pB, 2, none⟩ = some (.slice (some ⟨gO, 0, none⟩) N N) ∧ W'.cell? ⟨gO, q, none⟩ = some (.slice (some ⟨g, 0, none⟩) N N) ∧ W'.cell? ⟨g, left * 2, none⟩ = some (.int .i64 c1) ∧ W'.cell? ⟨g, left * 2 + 1, none⟩ = some (.int .i64 c2)) ∧ w.grownBy W' none) := fun W' hW => by
    refine ⟨⟨(hP.grown hW (by simp)).cell 2, ?_, ?_, ?_⟩, hW⟩
    · rw [(hO2.grown hW (by simp)).cell, k0]
    · rw [(k1.grown hW (by simp)).cell, (k2 left hl).1, HC1.out]
    · rw [(k1.grown hW (by simp)).cell, (k2 left hl).2, HC2.out]
  clear hP hO1 hO2 hO3 k0 k1 k2 hc1 hc2
  have hway : (q = T ∧ (T : Int) ≤ (n : Int) ∧ (T : Int) < (N : Int) ∧ 0 ≤ (T : Int)) ∨ (q = n ∧ ¬ (T : Int) ≤ (n : Int) ∧ (n : Int) < (N : Int) ∧ (n : Int) ≤ (T : Int)) := by omega
  clear hT
  rcases hway with ⟨hTq, hw1, hw2, hw3⟩ | ⟨hTq, hw1, hw2, hw3⟩
  all_goals
    subst hTq
    clear hq hn
    go_enter Try.func56, Try.ntmps56
    go_upto_region 1 with fail
    generalize w.alloc (.cells #[.int .i64 0, .int .i64 0] 75) = W at *
    have p0 := hP1.cell 0
    have p2 := hP1.cell 2
    have hfd := hB.drew.free
    have hPd := hP1.drew
    have hld := hB.drew.lt
    have v0 := hB.drew.cell 0
    have v1 := hB.drew.cell 1
    have hf := hB.free
    have hlw := hB.lt
    have v0w := hB.cell 0
    have v1w := hB.cell 1
    obtain ⟨⟨y2, y3, y4, y5⟩, -⟩ := KX.out W hG
    go_region_with (first | (go_at_call 36; refine (HLG.out _ (by assumption)).mono ?_; rintro _ wA ⟨rfl, rfl⟩) | fail)
    all_goals
      go_wp2_with fail
      have hR0 := hB.put 0 (.int .i64 c1)
      have hR := hR0.put 1 (.int .i64 c2)
      simp only [List.setIfInBounds_toArray, List.set_cons_zero, List.set_cons_succ] at hR hR0
      have s0 := hR0.cell 0
      have r0 := hR.cell 0
      have r1 := hR.cell 1
      refine bodyPost_ret (v := .agg #[.int .i64 c1, .int .i64 c2]) (by simp [results, Try.results56, go_sem, s0, r0, r1]) rfl ⟨rfl, ?_⟩
      exact (by repeat (first | exact gr_refl _ _ | assumption | refine gr_drew ?_ | refine gr_alloc ?_ _ | refine gr_put ?_ (.inr (by first | exact Nat.le_refl _ | exact Nat.le_succ _ | simp)) _ | refine gr_trans ?_ (by assumption)))
/-- The counts before each second. -/
def ManyF (w : World) (gm N : Nat) (M : Nat → Int) : Prop := ∃ cs : Array Value, Blk w gm 3 cs ∧ ∀ k, k < N → cs[k]? = some (.int .i64 (M k))
theorem ManyF.grown {w w' : World} {gm N : Nat} {M : Nat → Int} (h : ManyF w gm N M) {row : Option Nat} (hg : w.grownBy w' row) (hr : some gm ≠ row) : ManyF w' gm N M := by
  obtain ⟨cs, h1, h2⟩ := h
  exact ⟨cs, h1.grown hg hr, h2⟩
theorem ManyF.at_ {w : World} {gm N : Nat} {M : Nat → Int} (h : ManyF w gm N M) (k : Nat) (hk : k < N) : w.cell? ⟨gm, k, none⟩ = some (.int .i64 (M k)) := by
  obtain ⟨cs, h1, h2⟩ := h
  rw [h1.cell]
  exact h2 k hk
def CoSm (c : Co) : Prop := (-1000000 ≤ c.1 ∧ c.1 ≤ 1000000) ∧ (-1000000 ≤ c.2 ∧ c.2 ≤ 1000000)
set_option maxRecDepth 100000 in
set_option maxHeartbeats 8000000 in
theorem gone_ok (pB gm cm gO gI N n L lo : Nat) (S : Nat → Prop) (f : Nat → Nat → Co) (M : Nat → Int) (t left : Nat) (w : World) (hP : Blk w pB 71 (PlCells gm cm gO gI N L)) (hI : TabF w gI N lo S f) (hm : ManyF w gm N M)
    (hn : N = n + 1) (hN : N ≤ 1000) (ht : t ≤ n) (hlo : lo ≤ t + 1) (hl : left < N) (hbd : ∀ u v, lo ≤ u → u ≤ n → CoSm (f u v)) (hMb : ∀ k, k < N → 0 ≤ M k ∧ M k ≤ 2000) :
    Calls Try.prog 57 #[.pointer (some ⟨pB, 0, none⟩), .int .i64 t, .int .i64 left] w fun r w' =>
      r = .returned (.agg #[.int .i64 (if t < n ∧ 0 < left then plusC (f (t + 1) (left - 1)) (M (t + 1) - M t) 0 else nevC).1, .int .i64 (if t < n ∧ 0 < left then plusC (f (t + 1) (left - 1)) (M (t + 1) - M t) 0 else nevC).2]) ∧ w.grownBy w' none := by
  have hB := Blk.new w 75 #[.int .i64 0, .int .i64 0]
  have hG := World.grownBy_alloc w (.cells #[.int .i64 0, .int .i64 0] 75) none
  have hP1 := hP.alloc (.cells #[.int .i64 0, .int .i64 0] 75)
  have hI1 := hI.quiet hG
  have hm1 := hm.grown hG (by simp)
  have HLG : Hid (∀ W : World, Blk W pB 71 (PlCells gm cm gO gI N L) → Calls Try.prog 36 #[.pointer (some ⟨pB, 0, none⟩)] W fun r w' => r = .returned (.int .i64 n) ∧ W = w') := fun W h => long_ok pB gm N cm n W (h.cell 0) hn hN
  clear hP hI hm
  have HN := Lib.hid hn
  by_cases hc : t < n ∧ 0 < left
  · rw [if_pos hc]
    obtain ⟨h1, h2⟩ := hc
    obtain ⟨l1, hl1⟩ : ∃ l1, left - 1 = l1 := ⟨_, rfl⟩
    rw [hl1]
    obtain ⟨hs1, hs2⟩ := hbd (t + 1) l1 hlo (by omega)
    have hb1 := hMb (t + 1) (by omega)
    have hb2 := hMb t (by omega)
    have e1 : ((t : Int) == (n : Int)) = false := by rw [beq_eq_false_iff_ne]; omega
    have e2 : ((left : Int) == 0) = false := by rw [beq_eq_false_iff_ne]; omega
    have e1' : ¬ ((t : Int) = (n : Int)) := by omega
    have e2' : ¬ ((left : Int) = 0) := by omega
    obtain ⟨T, hT⟩ : ∃ T, t + 1 = T := ⟨_, rfl⟩
    have hTi : IntKind.i64.wrap ((t : Int) + 1) = (T : Int) := by rw [IntKind.wrap_i64]; omega
    have hLi : IntKind.i64.wrap ((left : Int) - 1) = (l1 : Int) := by rw [IntKind.wrap_i64]; omega
    rw [hT] at hlo hs1 hs2 hb1 ⊢
    have hTN : T < N := by omega
    have hTNi : (T : Int) < (N : Int) := by omega
    have htN : t < N := by omega
    have htNi : (t : Int) < (N : Int) := by omega
    have hlN : l1 < N := by omega
    have hlNi : (l1 : Int) < (N : Int) := by omega
    obtain ⟨c1, hc1⟩ : ∃ z, (f T l1).1 = z := ⟨_, rfl⟩
    obtain ⟨c2, hc2⟩ : ∃ z, (f T l1).2 = z := ⟨_, rfl⟩
    obtain ⟨x, hx⟩ : ∃ z, M T = z := ⟨_, rfl⟩
    obtain ⟨y, hy⟩ : ∃ z, M t = z := ⟨_, rfl⟩
    unfold plusC
    rw [hc1, hc2, hx, hy]
    rw [hc1] at hs1
    rw [hc2] at hs2
    rw [hx] at hb1
    rw [hy] at hb2
    have HC1 := Lib.hid hc1
    have HC2 := Lib.hid hc2
    have HX := Lib.hid hx
    have HY := Lib.hid hy
    clear hc1 hc2 hx hy
    have HT := Lib.hid hT
    clear hT hn hl1
    go_enter Try.func57, Try.ntmps57
    go_upto_region 1 with fail
    generalize w.alloc (.cells #[.int .i64 0, .int .i64 0] 75) = W at *
    go_wp2_with fail
    refine (HLG.out _ hP1).mono ?_
    rintro _ _ ⟨rfl, rfl⟩
    go_wp2_with fail
    obtain ⟨g, k0, k1⟩ := hI1.at_ T hlo hTN
    obtain ⟨k1, k2⟩ := k1 l1 hlN
    have mT := hm1.at_ T hTN
    have mt := hm1.at_ t htN
    rw [HC1.out] at k1
    rw [HC2.out] at k2
    rw [HX.out] at mT
    rw [HY.out] at mt
    clear hI1 hbd hMb
    have hxy : IntKind.i64.wrap (x - y) = x - y := by rw [IntKind.wrap_i64]; omega
    have p0 := hP1.cell 0
    have p3 := hP1.cell 3
    have p0d : W.drew.cell? ⟨pB, 0, none⟩ = _ := p0
    have p3d : W.drew.cell? ⟨pB, 3, none⟩ = _ := p3
    have k0d : W.drew.cell? ⟨gI, T, none⟩ = _ := k0
    have k1d : W.drew.cell? ⟨g, l1 * 2, none⟩ = _ := k1
    have k2d : W.drew.cell? ⟨g, l1 * 2 + 1, none⟩ = _ := k2
    have mTd : W.drew.cell? ⟨gm, T, none⟩ = _ := mT
    have mtd : W.drew.cell? ⟨gm, t, none⟩ = _ := mt
    go_still_tail 28, (by kernel_rfl)
    change wpList _ _ _ _ _ W.drew
    have hBd := hB.drew
    have hGd := gr_drew hG
    clear p0d p3d k0d k1d k2d mTd mtd
    generalize W.drew = W2 at *
    go_wp2_with fail
    refine (plus_any c1 c2 (x - y) 0 _ hs1 hs2 (by omega) (by omega)).mono ?_
    rintro _ w3 ⟨rfl, hg3⟩
    have hB3 := hBd.grown hg3 (by simp)
    have hG3 := gr_trans hGd hg3
    have hf := hB3.free
    have hl := hB3.lt
    have v0 := hB3.cell 0
    have v1 := hB3.cell 1
    go_wp2_with fail
    have hR := (hB3.put 0 (.int .i64 (c1 + (x - y)))).put 1 (.int .i64 c2)
    simp only [List.setIfInBounds_toArray, List.set_cons_zero, List.set_cons_succ] at hR
    have r0 := hR.cell 0
    have r1 := hR.cell 1
    refine bodyPost_ret (v := .agg #[.int .i64 (c1 + (x - y)), .int .i64 c2]) (by simp [results, Try.results57, go_sem, r0, r1]) rfl ⟨by simp, ?_⟩
    exact gr_put (gr_put hG3 (.inr (by first | exact Nat.le_refl _ | exact Nat.le_succ _ | simp | omega)) _) (.inr (by first | exact Nat.le_refl _ | exact Nat.le_succ _ | simp | omega)) _
  · rw [if_neg hc]
    have hway : t = n ∨ (t < n ∧ left = 0) := by omega
    rcases hway with rfl | ⟨h1, rfl⟩
    · clear hI1 hm1
      have e1 : ((t : Int) == (t : Int)) = true := by simp
      go_enter Try.func57, Try.ntmps57
      go_upto_region 1 with fail
      generalize w.alloc (.cells #[.int .i64 0, .int .i64 0] 75) = W at *
      go_wp2_with fail
      refine (HLG.out _ hP1).mono ?_
      rintro _ _ ⟨rfl, rfl⟩
      go_wp2_with fail
      refine (never_any _).mono ?_
      rintro _ w3 ⟨rfl, hg3⟩
      have hB3 := hB.grown hg3 (by simp)
      have hG3 := gr_trans hG hg3
      have hf := hB3.free
      have hl := hB3.lt
      have v0 := hB3.cell 0
      have v1 := hB3.cell 1
      go_wp2_with fail
      have hR := (hB3.put 0 (.int .i64 2001)).put 1 (.int .i64 0)
      simp only [List.setIfInBounds_toArray, List.set_cons_zero, List.set_cons_succ] at hR
      have r0 := hR.cell 0
      have r1 := hR.cell 1
      refine bodyPost_ret (v := .agg #[.int .i64 2001, .int .i64 0]) (by simp [results, Try.results57, go_sem, r0, r1]) rfl ⟨rfl, ?_⟩
      exact gr_put (gr_put hG3 (.inr (by first | exact Nat.le_refl _ | exact Nat.le_succ _ | simp | omega)) _) (.inr (by first | exact Nat.le_refl _ | exact Nat.le_succ _ | simp | omega)) _
    · clear hI1 hm1
      have e1 : ((t : Int) == (n : Int)) = false := by rw [beq_eq_false_iff_ne]; omega
      have e1' : ¬ ((t : Int) = (n : Int)) := by omega
      go_enter Try.func57, Try.ntmps57
      go_upto_region 1 with fail
      generalize w.alloc (.cells #[.int .i64 0, .int .i64 0] 75) = W at *
      go_wp2_with fail
      refine (HLG.out _ hP1).mono ?_
      rintro _ _ ⟨rfl, rfl⟩
      go_wp2_with fail
      refine (never_any _).mono ?_
      rintro _ w3 ⟨rfl, hg3⟩
      have hB3 := hB.grown hg3 (by simp)
      have hG3 := gr_trans hG hg3
      have hf := hB3.free
      have hl := hB3.lt
      have v0 := hB3.cell 0
      have v1 := hB3.cell 1
      go_wp2_with fail
      have hR := (hB3.put 0 (.int .i64 2001)).put 1 (.int .i64 0)
      simp only [List.setIfInBounds_toArray, List.set_cons_zero, List.set_cons_succ] at hR
      have r0 := hR.cell 0
      have r1 := hR.cell 1
      refine bodyPost_ret (v := .agg #[.int .i64 2001, .int .i64 0]) (by simp [results, Try.results57, go_sem, r0, r1]) rfl ⟨rfl, ?_⟩
      exact gr_put (gr_put hG3 (.inr (by first | exact Nat.le_refl _ | exact Nat.le_succ _ | simp | omega)) _) (.inr (by first | exact Nat.le_refl _ | exact Nat.le_succ _ | simp | omega)) _
set_option maxRecDepth 100000 in
set_option maxHeartbeats 8000000 in
theorem begun_ok (pB gm cm gO gI N n L lo : Nat) (S : Nat → Prop) (f : Nat → Nat → Co) (M : Nat → Int) (t left : Nat) (w : World) (hP : Blk w pB 71 (PlCells gm cm gO gI N L)) (hI : TabF w gI N lo S f) (hm : ManyF w gm N M)
    (hn : N = n + 1) (hN : N ≤ 1000) (hL : L ≤ 100000) (ht : t ≤ n) (hlo : lo ≤ t + L) (hl : left < N) (hbd : ∀ u v, lo ≤ u → u ≤ n → CoSm (f u v)) (hMb : ∀ k, k < N → 0 ≤ M k ∧ M k ≤ 2000) :
    Calls Try.prog 54 #[.pointer (some ⟨pB, 0, none⟩), .int .i64 t, .int .i64 left] w fun r w' =>
      r = .returned (.agg #[.int .i64 (if t + L ≤ n ∧ L ≤ left then plusC (f (t + L) (left - L)) (M (t + L) - M t) 1 else nevC).1, .int .i64 (if t + L ≤ n ∧ L ≤ left then plusC (f (t + L) (left - L)) (M (t + L) - M t) 1 else nevC).2]) ∧ w.grownBy w' none := by
  have hB := Blk.new w 75 #[.int .i64 0, .int .i64 0]
  have hG := World.grownBy_alloc w (.cells #[.int .i64 0, .int .i64 0] 75) none
  have hP1 := hP.alloc (.cells #[.int .i64 0, .int .i64 0] 75)
  have hI1 := hI.quiet hG
  have hm1 := hm.grown hG (by simp)
  have HLG : Hid (∀ W : World, Blk W pB 71 (PlCells gm cm gO gI N L) → Calls Try.prog 36 #[.pointer (some ⟨pB, 0, none⟩)] W fun r w' => r = .returned (.int .i64 n) ∧ W = w') := fun W h => long_ok pB gm N cm n W (h.cell 0) hn hN
  clear hP hI hm
  obtain ⟨T, hT⟩ : ∃ T, t + L = T := ⟨_, rfl⟩
  have hTi : IntKind.i64.wrap ((t : Int) + (L : Int)) = (T : Int) := by rw [IntKind.wrap_i64]; omega
  rw [hT] at hlo ⊢
  by_cases hc : T ≤ n ∧ L ≤ left
  · rw [if_pos hc]
    obtain ⟨h1, h2⟩ := hc
    obtain ⟨l1, hl1⟩ : ∃ l1, left - L = l1 := ⟨_, rfl⟩
    have hLi : IntKind.i64.wrap ((left : Int) - (L : Int)) = (l1 : Int) := by rw [IntKind.wrap_i64]; omega
    rw [hl1]
    obtain ⟨hs1, hs2⟩ := hbd T l1 hlo h1
    have hTN : T < N := by omega
    have hb1 := hMb T hTN
    have hb2 := hMb t (by omega)
    have d1 : decide ((T : Int) > (n : Int)) = false := decide_eq_false (by omega)
    have d1' : ¬ (n : Int) < (T : Int) := by omega
    have d2' : ¬ (left : Int) < (L : Int) := by omega
    have hTNi : (T : Int) < (N : Int) := by omega
    have htN : t < N := by omega
    have htNi : (t : Int) < (N : Int) := by omega
    have hlN : l1 < N := by omega
    have hlNi : (l1 : Int) < (N : Int) := by omega
    obtain ⟨c1, hc1⟩ : ∃ z, (f T l1).1 = z := ⟨_, rfl⟩
    obtain ⟨c2, hc2⟩ : ∃ z, (f T l1).2 = z := ⟨_, rfl⟩
    obtain ⟨x, hx⟩ : ∃ z, M T = z := ⟨_, rfl⟩
    obtain ⟨y, hy⟩ : ∃ z, M t = z := ⟨_, rfl⟩
    unfold plusC
    rw [hc1, hc2, hx, hy]
    rw [hc1] at hs1
    rw [hc2] at hs2
    rw [hx] at hb1
    rw [hy] at hb2
    have HC1 := Lib.hid hc1
    have HC2 := Lib.hid hc2
    have HX := Lib.hid hx
    have HY := Lib.hid hy
    clear hc1 hc2 hx hy
    have HT := Lib.hid hT
    clear hT hn hl1
    go_enter Try.func54, Try.ntmps54
    go_upto_region 1 with fail
    generalize w.alloc (.cells #[.int .i64 0, .int .i64 0] 75) = W at *
    have p0 := hP1.cell 0
    have p1 := hP1.cell 1
    have p3 := hP1.cell 3
    go_cut [23] (fun s wr => s = .bool false ∧ ∃ q : Nat, wr = W.drewN q)
    case first =>
      go_quiet ((go_at_call 36; first | exact quiet_same (HLG.out _ (by assumption)) | exact quiet_n (HLG.out _ (by first | assumption | exact Blk.drewN (by assumption) _)) | exact quiet_add (HLG.out _ (by first | assumption | exact Blk.drewN (by assumption) _))))
      go_wp2_with fail
      go_meet
      exact ⟨rfl, _, rfl⟩
    case rest =>
      obtain ⟨rfl, q0, rfl⟩ := hcut
      replace hB := hB.drewN q0
      replace hP1 := hP1.drewN q0
      replace hG := gr_drewN hG q0
      replace hI1 := hI1.quiet (gr_drewN (gr_refl W none) q0)
      replace hm1 := hm1.grown (gr_drewN (gr_refl W none) q0) (by simp)
      clear p0 p1 p3
      generalize W.drewN q0 = W1 at *
      go_wp2_with fail
      obtain ⟨g, k0, k1⟩ := hI1.at_ T hlo hTN
      obtain ⟨k1, k2⟩ := k1 l1 hlN
      have mT := hm1.at_ T hTN
      have mt := hm1.at_ t htN
      rw [HC1.out] at k1
      rw [HC2.out] at k2
      rw [HX.out] at mT
      rw [HY.out] at mt
      clear hI1 hbd hMb
      have hxy : IntKind.i64.wrap (x - y) = x - y := by rw [IntKind.wrap_i64]; omega
      have p0 := hP1.cell 0
      have p1 := hP1.cell 1
      have p3 := hP1.cell 3
      have p0d : W1.drew.cell? ⟨pB, 0, none⟩ = _ := p0
      have p1d : W1.drew.cell? ⟨pB, 1, none⟩ = _ := p1
      have p3d : W1.drew.cell? ⟨pB, 3, none⟩ = _ := p3
      have k0d : W1.drew.cell? ⟨gI, T, none⟩ = _ := k0
      have k1d : W1.drew.cell? ⟨g, l1 * 2, none⟩ = _ := k1
      have k2d : W1.drew.cell? ⟨g, l1 * 2 + 1, none⟩ = _ := k2
      have mTd : W1.drew.cell? ⟨gm, T, none⟩ = _ := mT
      have mtd : W1.drew.cell? ⟨gm, t, none⟩ = _ := mt
      go_still_tail 40, (by kernel_rfl)
      change wpList _ _ _ _ _ W1.drew
      have hBd := hB.drew
      have hGd := gr_drew hG
      clear p0d p1d p3d k0d k1d k2d mTd mtd
      generalize W1.drew = W2 at *
      go_wp2_with fail
      refine (plus_any c1 c2 (x - y) 1 _ hs1 hs2 (by omega) (by omega)).mono ?_
      rintro _ w3 ⟨rfl, hg3⟩
      have hB3 := hBd.grown hg3 (by simp)
      have hG3 := gr_trans hGd hg3
      have hf := hB3.free
      have hl := hB3.lt
      have v0 := hB3.cell 0
      have v1 := hB3.cell 1
      go_wp2_with fail
      have hR := (hB3.put 0 (.int .i64 (c1 + (x - y)))).put 1 (.int .i64 (c2 + 1))
      simp only [List.setIfInBounds_toArray, List.set_cons_zero, List.set_cons_succ] at hR
      have r0 := hR.cell 0
      have r1 := hR.cell 1
      refine bodyPost_ret (v := .agg #[.int .i64 (c1 + (x - y)), .int .i64 (c2 + 1)]) (by simp [results, Try.results54, go_sem, r0, r1]) rfl ⟨rfl, ?_⟩
      exact gr_put (gr_put hG3 (.inr (by first | exact Nat.le_refl _ | exact Nat.le_succ _ | simp | omega)) _) (.inr (by first | exact Nat.le_refl _ | exact Nat.le_succ _ | simp | omega)) _
  · rw [if_neg hc]
    have hway : n < T ∨ (T ≤ n ∧ left < L) := by omega
    clear hI1 hm1 hc
    rcases hway with h1 | ⟨h1, h2⟩
    all_goals
      (try have d1 : decide ((T : Int) > (n : Int)) = true := decide_eq_true (by omega))
      (try have d1 : decide ((T : Int) > (n : Int)) = false := decide_eq_false (by omega))
      (try have d1' : (n : Int) < (T : Int) := by omega)
      (try have d1' : ¬ (n : Int) < (T : Int) := by omega)
      (try have d2' : (left : Int) < (L : Int) := by omega)
      go_enter Try.func54, Try.ntmps54
      go_upto_region 1 with fail
      generalize w.alloc (.cells #[.int .i64 0, .int .i64 0] 75) = W at *
      have p0 := hP1.cell 0
      have p1 := hP1.cell 1
      go_cut [23] (fun s wr => s = .bool true ∧ ∃ q : Nat, wr = W.drewN q)
      case first =>
        go_quiet ((go_at_call 36; first | exact quiet_same (HLG.out _ (by assumption)) | exact quiet_n (HLG.out _ (by first | assumption | exact Blk.drewN (by assumption) _)) | exact quiet_add (HLG.out _ (by first | assumption | exact Blk.drewN (by assumption) _))))
        go_wp2_with fail
        go_meet
        exact ⟨rfl, _, rfl⟩
      case rest =>
        obtain ⟨rfl, q0, rfl⟩ := hcut
        replace hB := hB.drewN q0
        replace hG := gr_drewN hG q0
        clear p0 p1 hP1
        generalize W.drewN q0 = W1 at *
        go_wp2_with fail
        refine (never_any _).mono ?_
        rintro _ w3 ⟨rfl, hg3⟩
        have hB3 := hB.grown hg3 (by simp)
        have hG3 := gr_trans hG hg3
        have hf := hB3.free
        have hl := hB3.lt
        have v0 := hB3.cell 0
        have v1 := hB3.cell 1
        go_wp2_with fail
        have hR := (hB3.put 0 (.int .i64 2001)).put 1 (.int .i64 0)
        simp only [List.setIfInBounds_toArray, List.set_cons_zero, List.set_cons_succ] at hR
        have r0 := hR.cell 0
        have r1 := hR.cell 1
        refine bodyPost_ret (v := .agg #[.int .i64 2001, .int .i64 0]) (by simp [results, Try.results54, go_sem, r0, r1]) rfl ⟨rfl, ?_⟩
        exact gr_put (gr_put hG3 (.inr (by first | exact Nat.le_refl _ | exact Nat.le_succ _ | simp | omega)) _) (.inr (by first | exact Nat.le_refl _ | exact Nat.le_succ _ | simp | omega)) _
end Go.Proofs.Ytlbhphfmckhimaa
