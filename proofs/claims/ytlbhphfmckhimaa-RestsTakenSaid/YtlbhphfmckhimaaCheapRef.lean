/- The walk over the reference CheapestOf. Condition: right arguments in whole seconds, contests of at most 24 seconds. -/
import Derived.Test.YtlbhphfmckhimaaFindW
import Derived.Laws.EntriesVeiled
namespace Go.Proofs.Ytlbhphfmckhimaa
open Go.RowKit
set_option linter.unusedVariables false
set_option linter.unusedSimpArgs false

theorem MapC.empty {base n L : Nat} {a : Int} {M : Nat → Int} {W : World} {bm : Nat} (h : W.ownsMap Try.prog 88 ptrR bm 0 (.map [])) : MapC base a M n L W bm 0 := ⟨_, h, Maps.isMap_empty, fun t k _ _ h => by cases h⟩
def RefPost (n L need : Nat) (a : Int) (M : Nat → Int) (w : World) (r : Ending) (w' : World) : Prop :=
  (refD n L M (n + 1) need = none ∧ r = .returned (.tuple #[.slice none 0 0, .int .i64 0, .bool false]) ∧ w.grownBy w' none) ∨
  ∃ (u : Value) (way : Way), refD n L M (n + 1) need = some way ∧ r = .returned (.tuple #[u, .int .i64 (costW M way), .bool true]) ∧ WinsFrom w.heap.size w' u (scaleW a way) ∧ w.grownBy w' none
set_option maxRecDepth 100000 in
set_option maxHeartbeats 4000000 in
theorem cheapestOf_ok (base0 : Nat) (v : Value) (l : List Int) (a z nd ls : Int) (n L need : Nat) (w : World) (hl : IntsFrom base0 w v l)
    (hz : z = a + 1000 * (n : Int)) (hnd : nd = 1000 * (need : Int)) (hls : ls = 1000 * (L : Int)) (ha : 0 ≤ a ∧ a ≤ 1000000) (hn : n ≤ 24) (hL : 0 < L) (hL2 : L ≤ 100000) (hnn : need ≤ n) (hll : l.length ≤ 2000) :
    Calls Try.prog 22 #[v, .agg #[.int .i64 a, .int .i64 z], .agg #[.int .i64 nd, .int .i64 ls]] w (RefPost n L need a (manyM l a) w) := by
  obtain ⟨A, ca, rfl, _, _⟩ := hl.shape
  have hmm := @run_makeMap Try.prog
  have hOWN := World.ownsRow.lt hl
  have hB1 := ((Blk.new w 22 #[.slice A l.length ca]).alloc (.cells #[.int .i64 a, .int .i64 z] 27)).alloc (.cells #[.int .i64 nd, .int .i64 ls] 32)
  have hB2 := (Blk.new (w.alloc (.cells #[.slice A l.length ca] 22)) 27 #[.int .i64 a, .int .i64 z]).alloc (.cells #[.int .i64 nd, .int .i64 ls] 32)
  have hB3 := Blk.new ((w.alloc (.cells #[.slice A l.length ca] 22)).alloc (.cells #[.int .i64 a, .int .i64 z] 27)) 32 #[.int .i64 nd, .int .i64 ls]
  have hsz1 : (w.alloc (.cells #[.slice A l.length ca] 22)).heap.size = w.heap.size + 1 := by simp
  have hsz2 : ((w.alloc (.cells #[.slice A l.length ca] 22)).alloc (.cells #[.int .i64 a, .int .i64 z] 27)).heap.size = w.heap.size + 1 + 1 := by simp
  have hsz3 : (((w.alloc (.cells #[.slice A l.length ca] 22)).alloc (.cells #[.int .i64 a, .int .i64 z] 27)).alloc (.cells #[.int .i64 nd, .int .i64 ls] 32)).heap.size = w.heap.size + 3 := by simp
  have hG2 := gr_alloc (gr_alloc (World.grownBy_alloc w (.cells #[.slice A l.length ca] 22) none) (.cells #[.int .i64 a, .int .i64 z] 27)) (.cells #[.int .i64 nd, .int .i64 ls] 32)
  rw [hsz1] at hB2
  rw [hsz2] at hB3
  have hl2 := hl.grown hG2
  have HZ := Lib.hid hz
  have HND := Lib.hid hnd
  have HLS := Lib.hid hls
  clear hsz1 hsz2 hl hz hnd hls
  go_enter Try.func22, Try.ntmps22
  go_upto_region 1 with fail
  generalize ((w.alloc (.cells #[.slice A l.length ca] 22)).alloc (.cells #[.int .i64 a, .int .i64 z] 27)).alloc (.cells #[.int .i64 nd, .int .i64 ls] 32) = W2 at *
  generalize Value.slice A l.length ca = v at *
  obtain ⟨X, hX⟩ : ∃ X, w.heap.size = X := ⟨_, rfl⟩
  rw [hX] at hB1 hB2 hB3 hsz3 hOWN ⊢
  have HX := Lib.hid hX
  clear hX
  have hMm := World.ownsMap_made W2 Try.prog 88 ptrR
  rw [hsz3] at hMm
  have hM4 := World.ownsMap.kept hMm (World.grownBy_alloc (W2.alloc (.map #[] 0)) (.cells #[.map (some (X + 3))] 82) none) (by simp)
  have hB5 := Blk.new (W2.alloc (.map #[] 0)) 82 #[.map (some (X + 3))]
  have hs3 : (W2.alloc (.map #[] 0)).heap.size = X + 3 + 1 := by rw [World.size_alloc, hsz3]
  rw [hs3] at hB5
  have hs4 : ((W2.alloc (.map #[] 0)).alloc (.cells #[.map (some (X + 3))] 82)).heap.size = X + 3 + 1 + 1 := by rw [World.size_alloc, hs3]
  have hg24 := gr_alloc (World.grownBy_alloc W2 (.map #[] 0) none) (.cells #[.map (some (X + 3))] 82)
  have hB14 := hB1.grown hg24 (by simp)
  have hB24 := hB2.grown hg24 (by simp)
  have hB34 := hB3.grown hg24 (by simp)
  have hl4 := hl2.grown hg24
  have hG4 := gr_trans hG2 hg24
  clear hMm hB1 hB2 hB3 hG2 hs3 hl2 hg24
  go_upto_region 2 with fail
  generalize (W2.alloc (.map #[] 0)).alloc (.cells #[.map (some (X + 3))] 82) = W4 at *
  have hB6 := Blk.new W4 83 #[.nilFunc]
  rw [hs4] at hB6
  have hg45 := World.grownBy_alloc W4 (.cells #[.nilFunc] 83) none
  have hB15 := hB14.grown hg45 (by simp)
  have hB25 := hB24.grown hg45 (by simp)
  have hB35 := hB34.grown hg45 (by simp)
  have hB55 := hB5.grown hg45 (by simp)
  have hM5 := World.ownsMap.kept hM4 hg45 (by simp)
  have hl5 := hl4.grown hg45
  have hG5 := gr_trans hG4 hg45
  clear hB14 hB24 hB34 hB5 hM4 hG4 hsz3 hg45 hl4
  go_upto_region 3 with fail
  generalize W4.alloc (.cells #[.nilFunc] 83) = W5 at *
  have d6 : W5.cell? ⟨X + 3 + 1 + 1, 0, none⟩ = some .nilFunc := hB6.cell 0
  have f6 := hB6.free 0
  obtain ⟨F, hF⟩ : ∃ F : Value, Value.func (.func 43) #[] #[.pointer (some ⟨X + 1 + 1, 0, none⟩), .pointer (some ⟨X + 1, 0, none⟩), .pointer (some ⟨X + 3 + 1, 0, none⟩), .pointer (some ⟨X + 3 + 1 + 1, 0, none⟩), .pointer (some ⟨X, 0, none⟩)] = F := ⟨_, rfl⟩
  have HF := Lib.hid hF
  clear hF
  have hp := gr_put (p := (⟨X + 3 + 1 + 1, 0, none⟩ : Addr)) (gr_refl W5 (some (X + 3 + 1 + 1))) (.inl rfl) F
  have hB7 := hB6.put 0 F
  simp only [List.setIfInBounds_toArray, List.set_cons_zero] at hB7
  have hvn : ∀ k, X ≤ k → v.ownBlock ≠ some k := fun k hk e => by have := (hOWN k e).2; omega
  have hMEM : FM base0 (X + 3 + 1) (X + 1 + 1) (X + 1) (X + 3 + 1) (X + 3 + 1 + 1) X (X + 3) 0 n L a z ls (manyM l a) v F l (W5.setCell ⟨X + 3 + 1 + 1, 0, none⟩ F) :=
    ⟨(hB35.grown hp (by intro e; injection e with e; omega)).cell 1, (hB25.grown hp (by intro e; injection e with e; omega)).cell 1, (hB55.grown hp (by intro e; injection e with e; omega)).cell 0, hB7.cell 0, (hB15.grown hp (by intro e; injection e with e; omega)).cell 0, ints_off hl5 hp (hvn _ (by omega)), MapC.empty (World.ownsMap.kept hM5 hp (by intro e; injection e with e; omega))⟩
  have hG6 : w.grownBy (W5.setCell ⟨X + 3 + 1 + 1, 0, none⟩ F) none := gr_put (p := (⟨X + 3 + 1 + 1, 0, none⟩ : Addr)) hG5 (.inr (by rw [HX.out]; show X ≤ X + 3 + 1 + 1; omega)) _
  have hp15 := hB25.grown hp (by intro e; injection e with e; omega)
  have hp35 := hB35.grown hp (by intro e; injection e with e; omega)
  clear hB15 hB25 hB35 hB55 hB6 hM5 hG5 hp hB7 hs4 hmm hl5
  go_upto_region 4 with fail
  rw [HF.out]
  generalize W5.setCell ⟨X + 3 + 1 + 1, 0, none⟩ F = W6 at *
  have c6 := hMEM.cf
  rw [← HF.out] at c6
  have hpw : 2 ^ (n + 1) ≤ 33554432 := by
    have := Nat.pow_le_pow_right (show 0 < 2 by decide) (show n + 1 ≤ 25 by omega)
    simpa using this
  have HCALL := Lib.hid (find_ok base0 (X + 3 + 1) (X + 1 + 1) (X + 1) (X + 3 + 1) (X + 3 + 1 + 1) X (X + 3) n L a z ls v l rfl (by omega) (by omega) (by omega) (by omega) (by omega) (hvn _ (by omega)) ha HZ.out HLS.out hL hL2 hn hll (n + 1) (need : Int) 0 W6 (Nat.le_refl _) (by omega) (by omega) (by omega) (by
    have e : fndF (X + 1 + 1) (X + 1) (X + 3 + 1) (X + 3 + 1 + 1) X = F := HF.out
    rw [e]
    exact hMEM))
  rw [show a + 1000 * ((n + 1 - (n + 1) : Nat) : Int) = a by omega, show 1000 * (need : Int) = nd by have := HND.out; omega, Int.toNat_natCast] at HCALL
  unfold FindPost at HCALL
  obtain ⟨x0, x1⟩ := hp15.cells2
  obtain ⟨y0, y1⟩ := hp35.cells2
  clear hMEM d6 f6 hpw hp15 hp35
  go_wp2_with fail
  refine HCALL.out.mono ?_
  rintro _ w7 ⟨u, rfl, hu, _, hg7⟩
  have hG7 : w.grownBy w7 none := gr_grown hG6 hg7 (fun g e => by injection e with e; exact .inr (by have := HX.out; omega))
  cases hro : refD n L (manyM l a) (n + 1) need with
  | none =>
    rw [hro] at hu
    obtain rfl : u = .pointer none := hu
    have HRO := Lib.hid hro
    clear hro
    go_wp2_with fail
    go_ret3
    exact .inl ⟨HRO.out, rfl, hG7⟩
  | some way =>
    rw [hro] at hu
    obtain ⟨g, s, rfl, hgb, hBX, hW, _⟩ := hu
    have q0 := hBX.cell 0
    have q2 := hBX.cell 2
    simp only [List.getElem?_toArray, List.getElem?_cons_zero, List.getElem?_cons_succ] at q0 q2
    have HP : Hid (RefPost n L need a (manyM l a) w (.returned (.tuple #[s, .int .i64 (costW (manyM l a) way), .bool true])) w7.drew) :=
      .inr ⟨s, way, hro, rfl, ownsRow_low (w := w7.drew) hW (by have := HX.out; omega), gr_drew hG7⟩
    clear hro hW
    generalize costW (manyM l a) way = CC at *
    go_wp2_with fail
    refine wp_region_held_drew (S := fun W => W.cell? ⟨g, 0, none⟩ = some (.int .i64 CC) ∧ W.cell? ⟨g, 2, none⟩ = some s) (by kernel_rfl) ⟨q0, q2⟩ (fun hHeld => ?_)
    refine wpAnyH_take (i := 0) (v := ?_) rfl (by kernel_rfl) (by kernel_rfl) (by kernel_rfl) (fun _ _ _ h => h) (Or.inl ⟨by kernel_rfl, ?_⟩) hHeld ?_
    rotate_left
    · intro w hSw
      (try dsimp only at hSw)
      obtain ⟨hS0, hS1⟩ := hSw
      go_simp
      (try with_reducible rfl)
    change wpAnyH _ _ _ _ _ _ _ (Act.put _ (some 22) _) _
    simp only [Act.put, List.setIfInBounds_toArray, List.set_cons_zero, List.set_cons_succ]
    refine wpAnyH_take (i := 1) (v := ?_) rfl (by kernel_rfl) (by kernel_rfl) (by kernel_rfl) (fun _ _ _ h => h) (Or.inl ⟨by kernel_rfl, ?_⟩) hHeld ?_
    rotate_left
    · intro w hSw
      (try dsimp only at hSw)
      obtain ⟨hS0, hS1⟩ := hSw
      go_simp
      (try with_reducible rfl)
    change wpAnyH _ _ _ _ _ _ _ (Act.put _ (some 23) _) _
    simp only [Act.put, List.setIfInBounds_toArray, List.set_cons_zero, List.set_cons_succ]
    refine wpAnyH_take (i := 2) (v := ?_) rfl (by kernel_rfl) (by kernel_rfl) (by kernel_rfl) (fun _ _ _ h => h) (Or.inl ⟨by kernel_rfl, ?_⟩) hHeld ?_
    rotate_left
    · intro w hSw
      (try dsimp only at hSw)
      obtain ⟨hS0, hS1⟩ := hSw
      go_simp
      (try with_reducible rfl)
    change wpAnyH _ _ _ _ _ _ _ (Act.put _ (some 24) _) _
    simp only [Act.put, List.setIfInBounds_toArray, List.set_cons_zero, List.set_cons_succ]
    refine wpAnyH_take (i := 3) (v := ?_) rfl (by kernel_rfl) (by kernel_rfl) (by kernel_rfl) (fun _ _ _ h => h) (Or.inl ⟨by kernel_rfl, ?_⟩) hHeld ?_
    rotate_left
    · intro w hSw
      (try dsimp only at hSw)
      obtain ⟨hS0, hS1⟩ := hSw
      go_simp
      (try with_reducible rfl)
    change wpAnyH _ _ _ _ _ _ _ (Act.put _ (some 25) _) _
    simp only [Act.put, List.setIfInBounds_toArray, List.set_cons_zero, List.set_cons_succ]
    refine wpAnyH_take (i := 4) (v := ?_) rfl (by kernel_rfl) (by kernel_rfl) (by kernel_rfl) (fun _ _ _ h => h) (Or.inl ⟨by kernel_rfl, ?_⟩) hHeld ?_
    rotate_left
    · intro w hSw
      (try dsimp only at hSw)
      obtain ⟨hS0, hS1⟩ := hSw
      go_simp
      (try with_reducible rfl)
    change wpAnyH _ _ _ _ _ _ _ (Act.put _ (some 26) _) _
    simp only [Act.put, List.setIfInBounds_toArray, List.set_cons_zero, List.set_cons_succ]
    refine wpAnyH_take (i := 5) (v := ?_) rfl (by kernel_rfl) (by kernel_rfl) (by kernel_rfl) (fun _ _ _ h => h) (Or.inl ⟨by kernel_rfl, ?_⟩) hHeld ?_
    rotate_left
    · intro w hSw
      (try dsimp only at hSw)
      obtain ⟨hS0, hS1⟩ := hSw
      go_simp
      (try with_reducible rfl)
    change wpAnyH _ _ _ _ _ _ _ (Act.put _ (some 27) _) _
    simp only [Act.put, List.setIfInBounds_toArray, List.set_cons_zero, List.set_cons_succ]
    refine wpAnyH_take (i := 6) (v := ?_) rfl (by kernel_rfl) (by kernel_rfl) (by kernel_rfl) (fun _ _ _ h => h) (Or.inl ⟨by kernel_rfl, ?_⟩) hHeld ?_
    rotate_left
    · intro w hSw
      (try dsimp only at hSw)
      obtain ⟨hS0, hS1⟩ := hSw
      go_simp
      (try with_reducible rfl)
    change wpAnyH _ _ _ _ _ _ _ (Act.put _ (some 28) _) _
    simp only [Act.put, List.setIfInBounds_toArray, List.set_cons_zero, List.set_cons_succ]
    refine wpAnyH_take (i := 7) (v := ?_) rfl (by kernel_rfl) (by kernel_rfl) (by kernel_rfl) (fun _ _ _ h => h) (Or.inl ⟨by kernel_rfl, ?_⟩) hHeld ?_
    rotate_left
    · intro w hSw
      (try dsimp only at hSw)
      obtain ⟨hS0, hS1⟩ := hSw
      go_simp
      (try with_reducible rfl)
    change wpAnyH _ _ _ _ _ _ _ (Act.put _ (some 29) _) _
    simp only [Act.put, List.setIfInBounds_toArray, List.set_cons_zero, List.set_cons_succ]
    refine wpAnyH_take (i := 8) (v := ?_) rfl (by kernel_rfl) (by kernel_rfl) (by kernel_rfl) (fun _ _ _ h => h) (Or.inl ⟨by kernel_rfl, ?_⟩) hHeld ?_
    rotate_left
    · intro w hSw
      (try dsimp only at hSw)
      obtain ⟨hS0, hS1⟩ := hSw
      go_simp
      (try with_reducible rfl)
    change wpAnyH _ _ _ _ _ _ _ (Act.put _ (some 6) _) _
    simp only [Act.put, List.setIfInBounds_toArray, List.set_cons_zero, List.set_cons_succ]
    refine wpAnyH_take (i := 9) (v := ?_) rfl (by kernel_rfl) (by kernel_rfl) (by kernel_rfl) (fun _ _ _ h => h) (Or.inl ⟨by kernel_rfl, ?_⟩) hHeld ?_
    rotate_left
    · intro w hSw
      (try dsimp only at hSw)
      obtain ⟨hS0, hS1⟩ := hSw
      go_simp
      (try with_reducible rfl)
    change wpAnyH _ _ _ _ _ _ _ (Act.put _ (some 7) _) _
    simp only [Act.put, List.setIfInBounds_toArray, List.set_cons_zero, List.set_cons_succ]
    refine wpAnyH_take (i := 10) (v := ?_) rfl (by kernel_rfl) (by kernel_rfl) (by kernel_rfl) (fun _ _ _ h => h) (Or.inl ⟨by kernel_rfl, ?_⟩) hHeld ?_
    rotate_left
    · intro w hSw
      (try dsimp only at hSw)
      obtain ⟨hS0, hS1⟩ := hSw
      go_simp
      (try with_reducible rfl)
    change wpAnyH _ _ _ _ _ _ _ (Act.put _ (some 8) _) _
    simp only [Act.put, List.setIfInBounds_toArray, List.set_cons_zero, List.set_cons_succ]
    refine wpAnyH_done (by kernel_rfl) ?_ _
    go_wp2_with fail
    go_ret3
    exact HP.out
end Go.Proofs.Ytlbhphfmckhimaa
