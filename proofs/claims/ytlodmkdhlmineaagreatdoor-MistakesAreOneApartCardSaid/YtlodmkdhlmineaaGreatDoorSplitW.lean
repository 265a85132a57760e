/- The walks over key.Split: the ways to read elements without gaps. Condition: 1 to 40 elements with at most 10^12 ways behind each; asciiSpace is Go's own table, MaxLen holds a number. -/
import Derived.Test.YtlodmkdhlmineaaGreatDoorWaysPlain
import Derived.Test.YtlodmkdhlmineaaGreatDoorSortSgn
import Derived.Test.YtlodmkdhlmineaaGreatDoorStepsW
import Derived.Test.YtlodmkdhlmineaaGreatDoorRefSaidM
import Derived.Test.YtlodmkdhlmineaaGreatDoorPlainW
import Derived.StillTailTactics
namespace Go.Proofs.YtlodmkdhlmineaaGreatDoor
open Go.RowKit
set_option linter.unusedVariables false
set_option linter.unusedSimpArgs false

theorem Blk.cells4s {w : World} {g : Nat} {t : TypeId} {a0 a1 a2 a3 : Value} (h : Blk w g t #[a0, a1, a2, a3]) : w.cell? ⟨g, 0, none⟩ = some a0 ∧ w.cell? ⟨g, 1, none⟩ = some a1 ∧ w.cell? ⟨g, 2, none⟩ = some a2 ∧ w.cell? ⟨g, 3, none⟩ = some a3 := ⟨h.cell 0, h.cell 1, h.cell 2, h.cell 3⟩
/-- The rows of count: the ways from a place on. -/
def WayIs (code : List UInt8) (L : List Int) (p : Nat) : Prop := (∀ j, p ≤ j → j ≤ code.length → L.getD j 0 = ((waysR code).getD j 0 : Nat)) ∧ ∀ j, j < p → L.getD j 0 = 0
def WaySum (code : List UInt8) (L : List Int) (p q : Nat) : Prop := (∀ j, p < j → j ≤ code.length → L.getD j 0 = ((waysR code).getD j 0 : Nat)) ∧ (∀ j, j < p → L.getD j 0 = 0) ∧ L.getD p 0 = (sumTo (code.drop p) (waysR (code.drop (p + 1))) q : Nat)
theorem WayIs.sum {code : List UInt8} {L : List Int} {p : Nat} (h : WayIs code L (p + 1)) : WaySum code L p 0 := ⟨fun j h1 h2 => h.1 j h1 h2, fun j h1 => h.2 j (by omega), by rw [sumTo_0]; exact h.2 p (by omega)⟩
theorem WaySum.is {code : List UInt8} {L : List Int} {p : Nat} (h : WaySum code L p 40) (hp : p < code.length) : WayIs code L p := by
  refine ⟨fun j h1 h2 => ?_, h.2.1⟩
  by_cases e : j = p
  · subst e; rw [h.2.2, waysR_head hp]
  · exact h.1 j (by omega) h2
theorem WaySum.next {code : List UInt8} {L : List Int} {p q : Nat} (h : WaySum code L p q) (hp : p < code.length) (hl : L.length = code.length + 1) {x : Int} (hx : x = (sumTo (code.drop p) (waysR (code.drop (p + 1))) (q + 1) : Nat)) : WaySum code (L.set p x) p (q + 1) := by
  refine ⟨fun j h1 h2 => ?_, fun j h1 => ?_, ?_⟩
  · rw [set_getD _ _ _ _ (by omega), if_neg (by omega)]; exact h.1 j h1 h2
  · rw [set_getD _ _ _ _ (by omega), if_neg (by omega)]; exact h.2.1 j h1
  · rw [set_getD _ _ _ _ (by omega), if_pos rfl, hx]
theorem WaySum.same {code : List UInt8} {L : List Int} {p q : Nat} (h : WaySum code L p q) (hx : sumTo (code.drop p) (waysR (code.drop (p + 1))) (q + 1) = sumTo (code.drop p) (waysR (code.drop (p + 1))) q) : WaySum code L p (q + 1) := ⟨h.1, h.2.1, by rw [hx]; exact h.2.2⟩
theorem headD_getD2 (l : List Nat) : l.headD 0 = l.getD 0 0 := by cases l <;> rfl
def sgS (p : UInt8 × List UInt8) : ByteArray := ⟨#[p.1]⟩
def sgC (p : UInt8 × List UInt8) : ByteArray := ⟨p.2.toArray⟩
set_option maxRecDepth 100000 in
set_option maxHeartbeats 8000000 in
theorem count_any (base X gs cs : Nat) (code : ByteArray) (w : World) (hc1 : 1 ≤ code.size) (hc : code.size ≤ 40) (hw : ∀ j, (waysR code.data.toList).getD j 0 ≤ 1000000000000)
    (hB : Blk w X 109 #[.string code, .slice (some ⟨gs, 0, none⟩) signT.length cs, .slice none 0 0, .slice none 0 0]) (hS : SgnFrom base w (.slice (some ⟨gs, 0, none⟩) signT.length cs) signT) (hgx : gs ≠ X) :
    Calls Tryz.prog 92 #[.pointer (some ⟨X, 0, none⟩)] w fun e w' => e = .returned (.tuple #[]) ∧ ∃ L, Blk w' X 109 #[.string code, .slice (some ⟨gs, 0, none⟩) signT.length cs, .slice (some ⟨w.heap.size, 0, none⟩) (code.size + 1) (code.size + 1), .slice none 0 0] ∧
      LFrom w.heap.size w' (.slice (some ⟨w.heap.size, 0, none⟩) (code.size + 1) (code.size + 1)) (code.size + 1) L ∧ WayIs code.data.toList L 0 ∧ SgnFrom base w' (.slice (some ⟨gs, 0, none⟩) signT.length cs) signT ∧ w.grownBy w' (some X) := by
  obtain ⟨C, hC⟩ : ∃ C, code.data.toList = C := ⟨_, rfl⟩
  obtain ⟨N, hN⟩ : ∃ N, code.size = N := ⟨_, rfl⟩
  have hCl : C.length = N := by rw [← hC, ← hN]; simp
  rw [hC] at hw ⊢
  rw [hN] at hc hc1 ⊢
  obtain ⟨i0, hi, hz0, hz1, hz2⟩ := info_parts intInfo
  have hN1 : ((N + 1 : Nat) : Int) = (N : Int) + 1 := by push_cast; rfl
  have hmk : ∀ W : World, (Instr.makeSlice 22 (.int .i64 ((N : Int) + 1)) (.int .i64 ((N : Int) + 1))).run Tryz.prog W = .ok (.slice (some ⟨W.heap.size, 0, none⟩) (N + 1) (N + 1)) (W.alloc (.cells (Array.replicate (N + 1) (Value.int .i64 0)) 3)) := fun W => by
    have h := run_make (P := Tryz.prog) W 22 3 i0 _ Tryz.underlying22 hi hz0 .i64 .i64 ((N : Int) + 1) ((N : Int) + 1) (by omega) (by omega) (by rw [hz2]; omega) (by omega)
    rw [h, hz1]
    have e : ((N : Int) + 1).toNat = N + 1 := by omega
    rw [e]
    rw [made_intsO, Nat.mul_one]
  have HW := Lib.hid hw
  have HCC := Lib.hid hC
  have HNN := Lib.hid hN
  have HCL := Lib.hid hCl
  have hXw := hB.lt
  obtain ⟨c0, c1, c2, c3⟩ := hB.cells4s
  have f2 := hB.free 2
  have hsz1 : (w.setCell ⟨X, 2, none⟩ (.slice (some ⟨w.heap.size, 0, none⟩) (N + 1) (N + 1))).heap.size = w.heap.size := by simp [World.setCell]
  have hBb := (hB.put 2 (.slice (some ⟨w.heap.size, 0, none⟩) (N + 1) (N + 1))).alloc (.cells (Array.replicate (N + 1) (Value.int .i64 0)) 3)
  simp only [List.setIfInBounds_toArray, List.set_cons_zero, List.set_cons_succ] at hBb
  have hGb : w.grownBy ((w.setCell ⟨X, 2, none⟩ (.slice (some ⟨w.heap.size, 0, none⟩) (N + 1) (N + 1))).alloc (.cells (Array.replicate (N + 1) (Value.int .i64 0)) 3)) (some X) := gr_alloc (gr_put (p := (⟨X, 2, none⟩ : Addr)) (gr_refl w (some X)) (.inl rfl) _) _
  have hBn := Blk.new (w.setCell ⟨X, 2, none⟩ (.slice (some ⟨w.heap.size, 0, none⟩) (N + 1) (N + 1))) 3 (Array.replicate (N + 1) (Value.int .i64 0))
  rw [hsz1] at hBn
  have hrow0 := blk_intsO (base := w.heap.size) (l := List.replicate (N + 1) 0) (by rw [List.map_replicate]; rw [List.toArray_replicate]; exact hBn) (Nat.le_refl _) (by simp; omega)
  have hL0 : LFrom w.heap.size ((w.setCell ⟨X, 2, none⟩ (.slice (some ⟨w.heap.size, 0, none⟩) (N + 1) (N + 1))).alloc (.cells (Array.replicate (N + 1) (Value.int .i64 0)) 3)) (.slice (some ⟨w.heap.size, 0, none⟩) (N + 1) (N + 1)) (N + 1) (List.replicate (N + 1) 0) := by
    have h := hrow0
    unfold IntsFrom at h
    rw [List.length_replicate] at h
    exact h
  have HS : Hid (∀ W : World, w.grownBy W (some X) → SgnFrom base W (.slice (some ⟨gs, 0, none⟩) signT.length cs) signT) := fun W hW => World.ownsRow.kept hS hW (.inr (by intro e; injection e with e; exact hgx e))
  have hY : w.heap.size ≠ X := by omega
  clear hB hS hrow0 hBn hsz1 hC hCl hw
  go_enter Tryz.func92, Tryz.ntmps92
  go_upto_region 2 with fail
  generalize ((w.setCell ⟨X, 2, none⟩ (.slice (some ⟨w.heap.size, 0, none⟩) (N + 1) (N + 1))).alloc (.cells (Array.replicate (N + 1) (Value.int .i64 0)) 3)) = W2 at *
  obtain ⟨Y, hYe⟩ : ∃ Y, w.heap.size = Y := ⟨_, rfl⟩
  rw [hYe] at hBb hL0 hY ⊢
  have HYE := Lib.hid hYe
  clear hYe
  obtain ⟨c0, c1, c2, c3⟩ := hBb.cells4s
  have hl := hL0.at_ N (by omega)
  have hfz := World.ownsRow.frozenAt hL0 N
  have hst := (World.ownsRow.stored hL0 N (.int .i64 1)).1
  rw [← List.map_set] at hst
  have hstg := (World.ownsRow.stored hL0 N (.int .i64 1)).2
  have hBc := hBb.far (p := ⟨Y, N, none⟩) (by intro e; exact hY e.symm) (.int .i64 1)
  have hGc : w.grownBy (W2.setCell ⟨Y, N, none⟩ (.int .i64 1)) (some X) := gr_put (p := (⟨Y, N, none⟩ : Addr)) hGb (.inr (by rw [HYE.out]; exact Nat.le_refl _)) _
  have hNn : N < N + 1 := by omega
  have hNi : (N : Int) < (N : Int) + 1 := by omega
  have hNw : IntKind.i64.wrap (N : Int) = (N : Int) := IntWalk.i64_in _ ⟨by omega, by omega⟩
  have HST := Lib.hid hst
  clear hst hL0 hstg
  have hcl : (signT.length : Int) = 40 := by rw [signT_len]; rfl
  go_wp2_with fail
  generalize W2.setCell ⟨Y, N, none⟩ (.int .i64 1) = W3 at *
  have hW0 : WayIs C ((List.replicate (N + 1) 0).set N 1) N := by
    refine ⟨fun j h1 h2 => ?_, fun j h => ?_⟩
    · have := HCL.out
      obtain rfl : j = N := by omega
      have h9 := waysR_last C
      rw [this] at h9
      rw [set_getD _ _ _ _ (by simp), if_pos rfl, h9]; rfl
    · rw [set_getD _ _ _ _ (by simp), if_neg (by omega), List.getD_eq_getElem?_getD, List.getElem?_replicate]
      split <;> rfl
  clear c0 c1 c2 c3 hl hfz hBb hGb hNn
  go_loopw [3] (fun i wr => ∃ (z : Int) (k : Nat) (L : List Int), k ≤ N ∧ z + 1 = (k : Int) ∧ i = .int .i64 z ∧ Blk wr X 109 #[.string code, .slice (some ⟨gs, 0, none⟩) signT.length cs, .slice (some ⟨Y, 0, none⟩) (N + 1) (N + 1), .slice none 0 0] ∧ LFrom Y wr (.slice (some ⟨Y, 0, none⟩) (N + 1) (N + 1)) (N + 1) L ∧ Hid (WayIs C L k) ∧ w.grownBy wr (some X)) (fun i _ => (intOf i + 1).toNat)
  case atStart => exact ⟨_, N, _, Nat.le_refl _, by omega, rfl, hBc, HST.out, hW0, hGc⟩
  case round =>
    obtain ⟨z, k, L, hk, hzk, rfl, hB, hL, HWI, hgr⟩ := hrel
    rename World => wo
    clear hBc hGc hW0
    obtain ⟨c0, c1, c2, c3⟩ := hB.cells4s
    by_cases hz : 0 ≤ z
    · obtain ⟨p, rfl⟩ := Int.eq_ofNat_of_zero_le hz
      obtain rfl : k = p + 1 := by omega
      have HWS := Lib.hid HWI.out.sum
      have hpN : p < N := by omega
      have hp0 : (0 : Int) ≤ (p : Int) := by omega
      have hpw : IntKind.i64.wrap (p : Int) = (p : Int) := IntWalk.i64_in _ ⟨by omega, by omega⟩
      have hpNi : (p : Int) < (N : Int) := by omega
      have hpNi1 : (p : Int) < (N : Int) + 1 := by omega
      have hpNl : (p : Int) ≤ (N : Int) := by omega
      have hpNle : p ≤ N := by omega
      clear hz HWI hzk hk
      go_wp2_with fail
      go_loopw [34] (fun i wr => ∃ (q : Nat) (L : List Int), q ≤ 40 ∧ i = .int .i64 q ∧ Blk wr X 109 #[.string code, .slice (some ⟨gs, 0, none⟩) signT.length cs, .slice (some ⟨Y, 0, none⟩) (N + 1) (N + 1), .slice none 0 0] ∧ LFrom Y wr (.slice (some ⟨Y, 0, none⟩) (N + 1) (N + 1)) (N + 1) L ∧ Hid (WaySum C L p q) ∧ w.grownBy wr (some X)) (fun i _ => 40 - (intOf i).toNat)
      case atStart => exact ⟨0, L, by omega, rfl, hB, hL, HWS, hgr⟩
      case round =>
        obtain ⟨q, L2, hq, rfl, hB2, hL2, HWQ, hg2⟩ := hrel
        rename World => wx
        clear hB hL hgr HWS c0 c1 c2 c3
        by_cases hlq : q < 40
        · have hkq : (q : Int) < 40 := by omega
          have hql : q < signT.length := by rw [signT_len]; exact hlq
          have hqi : (q : Int) < (signT.length : Int) := by omega
          obtain ⟨a0, a1⟩ := (HS.out wx hg2).at1 q hql
          have hyl := signT_short _ (List.getElem_mem hql)
          have hsm := sumTo_succ (C.drop p) (waysR (C.drop (p + 1))) hql
          have had := addAt_at (l := C) (i := p) (by rw [HCL.out]; exact hpN) signT[q] hyl.1
          rw [had] at hsm
          generalize signT[q].1 = x at *
          generalize signT[q].2 = y at *
          obtain ⟨sx, hsx⟩ : ∃ t : ByteArray, ⟨#[x]⟩ = t := ⟨_, rfl⟩
          obtain ⟨sy, hsy⟩ : ∃ t : ByteArray, ⟨y.toArray⟩ = t := ⟨_, rfl⟩
          rw [hsx] at a0
          rw [hsy] at a1
          have hyz : sy.size = y.length := by rw [← hsy]; show y.toArray.size = _; simp
          have hyd : sy.data.toList = y := by rw [← hsy]
          obtain ⟨R, hR⟩ : ∃ R, code.extract p N = R := ⟨_, rfl⟩
          have hRd : R.data.toList = C.drop p := by rw [← hR, ← HNN.out, Lib.extract_to_end, HCC.out]
          obtain ⟨B, hBB⟩ : ∃ B, y.isPrefixOf (C.drop p) = B := ⟨_, rfl⟩
          have HHP : Hid (∀ W, Calls Tryz.prog 113 #[.string R, .string sy] W fun e w' => e = .returned (.bool B) ∧ W = w') := fun W => (Tryz.strings_HasPrefix R sy W).mono fun e w' ⟨he, hw⟩ => ⟨by rw [he, hRd, hyd]; show Ending.returned (.bool (y.isPrefixOf (C.drop p))) = _; rw [hBB], hw.symm⟩
          rw [hBB] at hsm
          have HSM := Lib.hid hsm
          have hbz := Blk.new wx 100 #[.string sx, .string sy]
          have hGz := World.grownBy_alloc wx (.cells #[.string sx, .string sy] 100) (some X)
          have hB3 := hB2.alloc (.cells #[.string sx, .string sy] 100)
          have hL3 : LFrom Y (wx.alloc (.cells #[.string sx, .string sy] 100)) (.slice (some ⟨Y, 0, none⟩) (N + 1) (N + 1)) (N + 1) L2 := World.ownsRow.alloc hL2 _
          have hg3 := gr_trans hg2 hGz
          have HYZ := Lib.hid hyz
          have HBB := Lib.hid hBB
          have HYL := Lib.hid hyl
          clear hsm had hsx hsy hyd hRd hBB hL2 hB2 hg2 hGz hyz hyl
          go_upto_region 9 with fail
          generalize wx.alloc (.cells #[.string sx, .string sy] 100) = w6 at *
          generalize wx.heap.size = Z at *
          obtain ⟨c0, c1, c2, c3⟩ := hB3.cells4s
          have b0 : w6.cell? ⟨Z, 0, none⟩ = some (.string sx) := hbz.cell 0
          have b1 : w6.cell? ⟨Z, 1, none⟩ = some (.string sy) := hbz.cell 1
          refine wp_region_held_drew (S := fun W => W.cell? ⟨X, 0, none⟩ = some (.string code) ∧ W.cell? ⟨Z, 1, none⟩ = some (.string sy)) (by kernel_rfl) ⟨c0, b1⟩ (fun hHeld => ?_)
          refine wpAnyH_take (i := 0) (v := ?_) rfl (by kernel_rfl) (by kernel_rfl) (by kernel_rfl) (fun _ _ _ h => h) (Or.inl ⟨by kernel_rfl, ?_⟩) hHeld ?_
          rotate_left
          · intro w hSw
            (try dsimp only at hSw)
            obtain ⟨hS0, hS1⟩ := hSw
            go_simp
            (try with_reducible rfl)
          change wpAnyH _ _ _ _ _ _ _ (Act.put _ (some 38) _) _
          simp only [Act.put, List.setIfInBounds_toArray, List.set_cons_zero, List.set_cons_succ]
          refine wpAnyH_take (i := 1) (v := ?_) rfl (by kernel_rfl) (by kernel_rfl) (by kernel_rfl) (fun _ _ _ h => h) (Or.inl ⟨by kernel_rfl, ?_⟩) hHeld ?_
          rotate_left
          · intro w hSw
            (try dsimp only at hSw)
            obtain ⟨hS0, hS1⟩ := hSw
            go_simp
            (try with_reducible rfl)
          change wpAnyH _ _ _ _ _ _ _ (Act.put _ (some 39) _) _
          simp only [Act.put, List.setIfInBounds_toArray, List.set_cons_zero, List.set_cons_succ]
          refine wpAnyH_take (i := 2) (v := ?_) rfl (by kernel_rfl) (by kernel_rfl) (by kernel_rfl) (fun _ _ _ h => h) (Or.inl ⟨by kernel_rfl, ?_⟩) hHeld ?_
          rotate_left
          · intro w hSw
            (try dsimp only at hSw)
            obtain ⟨hS0, hS1⟩ := hSw
            go_simp
            (try with_reducible rfl)
          change wpAnyH _ _ _ _ _ _ _ (Act.put _ (some 40) _) _
          simp only [Act.put, List.setIfInBounds_toArray, List.set_cons_zero, List.set_cons_succ]
          refine wpAnyH_take (i := 3) (v := ?_) rfl (by kernel_rfl) (by kernel_rfl) (by kernel_rfl) (fun _ _ _ h => h) (Or.inl ⟨by kernel_rfl, ?_⟩) hHeld ?_
          rotate_left
          · intro w hSw
            (try dsimp only at hSw)
            obtain ⟨hS0, hS1⟩ := hSw
            go_simp
            (try with_reducible rfl)
          change wpAnyH _ _ _ _ _ _ _ (Act.put _ (some 41) _) _
          simp only [Act.put, List.setIfInBounds_toArray, List.set_cons_zero, List.set_cons_succ]
          refine wpAnyH_take (i := 4) (v := ?_) rfl (by kernel_rfl) (by kernel_rfl) (by kernel_rfl) (fun _ _ _ h => h) (Or.inl ⟨by kernel_rfl, ?_⟩) hHeld ?_
          rotate_left
          · intro w hSw
            (try dsimp only at hSw)
            obtain ⟨hS0, hS1⟩ := hSw
            go_simp
            (try with_reducible rfl)
          change wpAnyH _ _ _ _ _ _ _ (Act.put _ (some 42) _) _
          simp only [Act.put, List.setIfInBounds_toArray, List.set_cons_zero, List.set_cons_succ]
          refine wpAnyH_take (i := 5) (v := ?_) rfl (by kernel_rfl) (by kernel_rfl) (by kernel_rfl) (fun _ _ _ h => h) (Or.inl ⟨by kernel_rfl, ?_⟩) hHeld ?_
          rotate_left
          · intro w hSw
            (try dsimp only at hSw)
            obtain ⟨hS0, hS1⟩ := hSw
            go_simp
            (try with_reducible rfl)
          change wpAnyH _ _ _ _ _ _ _ (Act.put _ (some 43) _) _
          simp only [Act.put, List.setIfInBounds_toArray, List.set_cons_zero, List.set_cons_succ]
          refine wpAnyH_take (i := 6) (v := ?_) rfl (by kernel_rfl) (by kernel_rfl) (by kernel_rfl) (fun _ _ _ h => h) (Or.inl ⟨by kernel_rfl, ?_⟩) hHeld ?_
          rotate_left
          · intro w hSw
            (try dsimp only at hSw)
            obtain ⟨hS0, hS1⟩ := hSw
            go_simp
            (try with_reducible rfl)
          change wpAnyH _ _ _ _ _ _ _ (Act.put _ (some 44) _) _
          simp only [Act.put, List.setIfInBounds_toArray, List.set_cons_zero, List.set_cons_succ]
          refine wpAnyH_take (i := 7) (v := ?_) rfl (by kernel_rfl) (by kernel_rfl) (by kernel_rfl) (fun _ _ _ h => h) (Or.inl ⟨by kernel_rfl, ?_⟩) hHeld ?_
          rotate_left
          · intro w hSw
            (try dsimp only at hSw)
            obtain ⟨hS0, hS1⟩ := hSw
            go_simp
            (try with_reducible rfl)
          change wpAnyH _ _ _ _ _ _ _ (Act.put _ (some 45) _) _
          simp only [Act.put, List.setIfInBounds_toArray, List.set_cons_zero, List.set_cons_succ]
          refine wpAnyH_ready (rs := [8]) (by kernel_rfl) (by simp) ?_
          refine AllReadyH.cons (o := _) rfl (fun K hK => ?_) AllReadyH.nil
          go_simp
          (go_at_call 113; refine (HHP.out _).mono ?_; rintro _ _ ⟨rfl, rfl⟩)
          refine hK.out _ _ ⟨c0, b1⟩ (fun hHeld8 => ?_)
          clear hK K
          (try simp only [Act.put, List.setIfInBounds_toArray, List.set_cons_zero, List.set_cons_succ])
          refine wpAnyH_done (by kernel_rfl) ?_ _
          clear HHP
          cases B
          · go_wp2_with fail
            go_roundw
            case rel => exact ⟨q + 1, L2, by omega, by go_num, hB3, hL3, HWQ.out.same (by rw [HSM.out, if_neg (by simp), Nat.add_zero]), (by repeat (first | exact gr_refl _ _ | assumption | refine gr_alloc ?_ _ | refine gr_drewN ?_ _ | refine gr_drew ?_))⟩
            case measure => simp [intOf]; omega
          · replace hB3 := hB3.drew
            replace hL3 : LFrom Y w6.drew (.slice (some ⟨Y, 0, none⟩) (N + 1) (N + 1)) (N + 1) L2 := hL3
            replace hg3 := gr_drew hg3
            replace b1 : w6.drew.cell? ⟨Z, 1, none⟩ = some (.string sy) := b1
            clear c0 c1 c2 c3 b0 hbz
            generalize w6.drew = w7 at *
            obtain ⟨c0, c1, c2, c3⟩ := hB3.cells4s
            have hlen : p + y.length ≤ N := by
              have h := (List.isPrefixOf_iff_prefix.1 HBB.out).length_le
              rw [List.length_drop, HCL.out] at h
              omega
            have hy1 := HYL.out.1
            obtain ⟨M, hM⟩ : ∃ M, p + y.length = M := ⟨_, rfl⟩
            have hsm := HSM.out
            rw [if_pos rfl, hM] at hsm
            have hs1 := HWQ.out.2.2
            have hs2 := HWQ.out.1 M (by omega) (by rw [HCL.out]; omega)
            have hs3 := sumTo_mono (C.drop p) (waysR (C.drop (p + 1))) (show q + 1 ≤ 40 by omega)
            have hs4 := waysR_head (l := C) (i := p) (by rw [HCL.out]; exact hpN)
            have hs5 := HW.out p
            have k1 := hL3.at_ p (by omega)
            have k2 := hL3.at_ M (by omega)
            have hUV : L2.getD p 0 + L2.getD M 0 = (sumTo (C.drop p) (waysR (C.drop (p + 1))) (q + 1) : Nat) := by rw [hs1, hs2, hsm]; push_cast; rfl
            have HNX := Lib.hid (HWQ.out.next (by rw [HCL.out]; exact hpN) (by rw [hL3.len, HCL.out]) hUV)
            have hb1 : 0 ≤ L2.getD p 0 + L2.getD M 0 ∧ L2.getD p 0 + L2.getD M 0 ≤ 1000000000000 := by omega
            obtain ⟨U, hU⟩ : ∃ U : Int, L2.getD p 0 = U := ⟨_, rfl⟩
            obtain ⟨V, hV⟩ : ∃ V : Int, L2.getD M 0 = V := ⟨_, rfl⟩
            rw [hU] at k1 HNX hb1
            rw [hV] at k2 HNX hb1
            have hUw : IntKind.i64.wrap (U + V) = U + V := IntWalk.i64_in _ ⟨by omega, by omega⟩
            have hMw : IntKind.i64.wrap ((p : Int) + (sy.size : Int)) = (M : Int) := by
              rw [show (p : Int) + (sy.size : Int) = (M : Int) by have := HYZ.out; omega]
              exact IntWalk.i64_in _ ⟨by omega, by omega⟩
            have hMw2 : IntKind.i64.wrap (M : Int) = (M : Int) := IntWalk.i64_in _ ⟨by omega, by omega⟩
            have hM0 : (0 : Int) ≤ (M : Int) := by omega
            have hMN : M < N + 1 := by omega
            have hMNi : (M : Int) < (N : Int) + 1 := by omega
            have hpN1 : p < N + 1 := by omega
            have hst := (World.ownsRow.stored hL3 p (.int .i64 (U + V))).1
            rw [← List.map_set] at hst
            have HS5 := Lib.hid (ownsRow_grown hst (gr_drew (gr_refl _ none)))
            have hB5 := (hB3.far (p := ⟨Y, p, none⟩) (by intro e; exact hY e.symm) (.int .i64 (U + V))).drew
            have hg5 : w.grownBy ((w7.setCell ⟨Y, p, none⟩ (.int .i64 (U + V))).drew) (some X) := gr_drew (gr_put (p := (⟨Y, p, none⟩ : Addr)) hg3 (.inr (by rw [HYE.out]; exact Nat.le_refl _)) _)
            have hfz := World.ownsRow.frozenAt hL3 p
            have z0 : w7.drew.cell? ⟨X, 0, none⟩ = _ := c0
            have z1 : w7.drew.cell? ⟨X, 1, none⟩ = _ := c1
            have z2 : w7.drew.cell? ⟨X, 2, none⟩ = _ := c2
            have z3 : w7.drew.cell? ⟨Y, p, none⟩ = _ := k1
            have z4 : w7.drew.cell? ⟨Y, M, none⟩ = _ := k2
            have z5 : w7.drew.cell? ⟨Z, 1, none⟩ = _ := b1
            have z6 : w7.drew.frozen? ⟨Y, p, none⟩ = false := hfz
            clear hst hs1 hs2 hs3 hs4 hs5 hsm hUV hU hV hL3 hB3 hg3 hM hlen hy1 HSM HBB
            go_wp2_with fail
            go_still_tail 19, (by kernel_rfl)
            change wpList _ _ _ _ _ w7.drew
            go_wp2_with fail
            go_roundw
            case rel => exact ⟨q + 1, L2.set p (U + V), by omega, by go_num, hB5, HS5.out, HNX.out, hg5⟩
            case measure => simp [intOf]; omega
        · have hkq : ¬ (q : Int) < 40 := by omega
          obtain rfl : q = 40 := by omega
          have HWD := Lib.hid (HWQ.out.is (by rw [HCL.out]; exact hpN))
          go_wp2_with fail
          go_roundw
          case rel => exact ⟨_, p, L2, by omega, by omega, rfl, hB2, hL2, HWD, hg2⟩
          case measure => simp [intOf]
    · have hzn : ¬ 0 ≤ z := hz
      obtain rfl : k = 0 := by omega
      have hSw := HS.out wo hgr
      go_wp2_with fail
      go_end0
      rw [HYE.out]
      exact ⟨rfl, hB, L, hL, HWI.out, hSw, hgr⟩

/-- The splitter, with the ways counted. -/
structure SplR (base X gs cs Y N : Nat) (code : ByteArray) (L : List Int) (W : World) (vo : Value) (outs : List ByteArray) : Prop where
  blk : Blk W X 109 #[.string code, .slice (some ⟨gs, 0, none⟩) signT.length cs, .slice (some ⟨Y, 0, none⟩) (N + 1) (N + 1), vo]
  sgn : SgnFrom base W (.slice (some ⟨gs, 0, none⟩) signT.length cs) signT
  way : LFrom base W (.slice (some ⟨Y, 0, none⟩) (N + 1) (N + 1)) (N + 1) L
  out : StrsFrom base W vo outs
theorem SplR.grown {base X gs cs Y N : Nat} {code : ByteArray} {L : List Int} {W W' : World} {vo : Value} {outs : List ByteArray} (h : SplR base X gs cs Y N code L W vo outs) (hg : W.grownBy W' none) : SplR base X gs cs Y N code L W' vo outs :=
  ⟨h.blk.grown hg (by simp), h.sgn.grown hg, ownsRow_grown h.way hg, h.out.grown hg⟩
theorem own_ne_blk {W : World} {X : Nat} {t e : TypeId} {cs : Array Value} {base size n : Nat} {v : Value} {xs : List Value} (hb : Blk W X t cs) (h : W.ownsRow base e size v n xs) (he : e ≠ t) : v.ownBlock ≠ some X := by
  rcases h.2 with ⟨rfl, _⟩ | ⟨g, cap, cur, rfl, _, hg, _⟩
  · intro e; cases e
  · intro e1
    have e2 : g = X := by
      have e3 : some g = some X := e1
      injection e3
    subst e2
    unfold Blk at hb
    rw [hg] at hb
    injection hb with hb
    injection hb with _ h2 _
    exact he h2
theorem SplR.put {base X gs cs Y N : Nat} {code : ByteArray} {L : List Int} {W W' : World} {vo vo' : Value} {outs outs' : List ByteArray} (h : SplR base X gs cs Y N code L W vo outs) (hg : W.grownBy W' vo.ownBlock) (ho : StrsFrom base W' vo' outs') : SplR base X gs cs Y N code L (W'.setCell ⟨X, 3, none⟩ vo') vo' outs' := by
  have hb1 := h.blk.grown hg (fun e => own_ne_blk h.blk h.out (by decide) e.symm)
  have hs1 : SgnFrom base W' (.slice (some ⟨gs, 0, none⟩) signT.length cs) signT := World.ownsRow.kept h.sgn hg (own_apart h.sgn h.out (by decide))
  have hw1 : LFrom base W' (.slice (some ⟨Y, 0, none⟩) (N + 1) (N + 1)) (N + 1) L := World.ownsRow.kept h.way hg (own_apart h.way h.out (by decide))
  have hp : W'.grownBy (W'.setCell ⟨X, 3, none⟩ vo') (some X) := gr_put (p := (⟨X, 3, none⟩ : Addr)) (gr_refl W' (some X)) (.inl rfl) _
  have hb2 := hb1.put 3 vo'
  simp only [List.setIfInBounds_toArray, List.set_cons_zero, List.set_cons_succ] at hb2
  exact ⟨hb2, World.ownsRow.kept hs1 hp (.inr (own_ne_blk hb1 hs1 (by decide))), World.ownsRow.kept hw1 hp (.inr (own_ne_blk hb1 hw1 (by decide))), World.ownsRow.kept ho hp (.inr (own_ne_blk hb1 ho (by decide)))⟩
def rdB (l : List (List UInt8)) : List ByteArray := l.map strB
theorem rd_full {α : Type} {a b : List α} (h : a.length = 100) : (a ++ b).take 100 = a := by
  rw [List.take_append, h, Nat.sub_self, List.take_zero, List.append_nil]
  exact List.take_of_length_le (by omega)
theorem rd_few {α : Type} {a b : List α} (h : (a ++ b).length ≤ 100) : (a ++ b).take 100 = a ++ b := List.take_of_length_le h
set_option maxRecDepth 100000 in
set_option maxHeartbeats 4000000 in
theorem read_full (w0 : World) (X gs cs Y N i : Nat) (code said : ByteArray) (L : List Int) (W : World) (vo : Value) (outs : List ByteArray) (hg : w0.grownBy W none) (h : SplR w0.heap.size X gs cs Y N code L W vo outs) (h100 : outs.length = 100) :
    Calls Tryz.prog 93 #[.pointer (some ⟨X, 0, none⟩), .int .i64 i, .string said] W fun e w' => e = .returned (.tuple #[]) ∧ ∃ vo', SplR w0.heap.size X gs cs Y N code L w' vo' outs ∧ w0.grownBy w' none := by
  obtain ⟨c0, c1, c2, c3⟩ := h.blk.cells4s
  obtain ⟨A, c, rfl, hln, hsh⟩ := h.out.shape
  clear hsh
  have HS := Lib.hid h
  have h1 : ((outs.length : Int) == 100) = true := by rw [h100]; rfl
  clear h
  go_enter Tryz.func93, Tryz.ntmps93
  go_wp2_with fail
  (first | go_end0 | ((try simp only [Exit.inBlock, Exit.then]); refine bodyPost_ret (results_none rfl _ _ _) rfl ?_))
  first | exact ⟨rfl, ⟨_, HS.out⟩, hg⟩ | exact ⟨rfl, _, HS.out, hg⟩
set_option maxRecDepth 100000 in
set_option maxHeartbeats 4000000 in
theorem read_end (w0 : World) (X gs cs Y N : Nat) (code said : ByteArray) (L : List Int) (W : World) (vo : Value) (outs : List ByteArray) (hN : code.size = N) (hX : w0.heap.size ≤ X) (hg : w0.grownBy W none) (h : SplR w0.heap.size X gs cs Y N code L W vo outs) (h100 : outs.length < 100) :
    Calls Tryz.prog 93 #[.pointer (some ⟨X, 0, none⟩), .int .i64 N, .string said] W fun e w' => e = .returned (.tuple #[]) ∧ ∃ vo', SplR w0.heap.size X gs cs Y N code L w' vo' (outs ++ [said]) ∧ w0.grownBy w' none := by
  obtain ⟨i0, hi0, hz0, hz1, hz2⟩ := info_parts strInfo
  obtain ⟨c0, c1, c2, c3⟩ := h.blk.cells4s
  have hsz := hg.size
  have hout0 := h.out
  obtain ⟨A, c, rfl, hln, hsh⟩ := h.out.shape
  clear hsh
  have hout : W.ownsRow w0.heap.size 9 1 (.slice A outs.length c) outs.length (outs.map Value.string) := hout0
  have hrow : ∀ kk, (Value.slice A outs.length c).ownBlock = some kk → w0.heap.size ≤ kk := fun kk hk => (hout.lt kk hk).1
  have HNE := Lib.hid (own_ne_blk h.blk hout (by decide))
  have HROW := Lib.hid hrow
  have HBK := Lib.hid h.blk
  have HS := Lib.hid h
  have h1 : ((outs.length : Int) == 100) = false := by rw [beq_eq_false_iff_ne]; omega
  clear h hout0 hrow
  go_enter Tryz.func93, Tryz.ntmps93
  go_wp2_with (at_builtin; refine wpList_append_own _ rfl _ _ 27 rfl w0.heap.size 9 i0 _ 1 16 Tryz.underlying27 hi0 hz0 hz1 hz2 rfl (by decide) _ _ _ rfl (hout.alloc _) ⟨W.heap.size, 0, none⟩ 1 1 [.string said] rfl rfl (cells_new _ _ _) (str_one _) (by unfold maxLen; omega) (by omega) (by simp; omega) ?_; intro v' w7 hownB hgrB0 _; obtain ⟨ao, n', cap, hvv⟩ : ∃ ao n' cap, v' = .slice ao n' cap := hownB.2.elim (fun h => ⟨_, _, _, h.1⟩) (fun ⟨g, cap, cur, hv, _⟩ => ⟨_, _, _, hv⟩); subst hvv; have hgrB : W.grownBy w7 (Value.slice A outs.length c).ownBlock := gr_trans (World.grownBy_alloc W _ _) hgrB0; have hb7 := HBK.out.grown hgrB (fun e => HNE.out e.symm); have f7 := hb7.free 3; have d7 : w7.cell? ⟨X, 3, none⟩ = some (.slice A outs.length c) := hb7.cell 3; clear hgrB0)
  have HO := Lib.hid hownB
  have HG := Lib.hid hgrB
  clear hownB hgrB hb7
  go_wp2_with fail
  (first | go_end0 | ((try simp only [Exit.inBlock, Exit.then]); refine bodyPost_ret (results_none rfl _ _ _) rfl ?_))
  have hout7 : StrsFrom w0.heap.size w7 (.slice ao n' cap) (outs ++ [said]) := by
    unfold StrsFrom
    rw [List.map_append, List.length_append]
    exact HO.out
  have hA := HS.out.put HG.out hout7
  have hB : w0.grownBy (w7.setCell ⟨X, 3, none⟩ (.slice ao n' cap)) none := gr_put (p := (⟨X, 3, none⟩ : Addr)) (gr_grown hg HG.out (fun g e => .inr (HROW.out g e))) (.inr hX) _
  first | exact ⟨rfl, ⟨_, hA⟩, hB⟩ | exact ⟨rfl, _, hA, hB⟩
theorem rdB_app (a b : List (List UInt8)) : rdB (a ++ b) = rdB a ++ rdB b := List.map_append
set_option maxRecDepth 100000 in
set_option maxHeartbeats 8000000 in
theorem read_all (w0 : World) (X gs cs Y N : Nat) (code : ByteArray) (C : List UInt8) (L : List Int) (hC : code.data.toList = C) (hN : code.size = N) (hN40 : N ≤ 40) (hWI : WayIs C L 0) (hX : w0.heap.size ≤ X) : ∀ (f i : Nat) (said : ByteArray) (W : World) (vo : Value) (outs : List ByteArray), w0.grownBy W none → SplR w0.heap.size X gs cs Y N code L W vo outs → i ≤ N → N - i ≤ f → said.size ≤ i → outs.length ≤ 100 →
    Calls Tryz.prog 93 #[.pointer (some ⟨X, 0, none⟩), .int .i64 i, .string said] W fun e w' => e = .returned (.tuple #[]) ∧ ∃ vo', SplR w0.heap.size X gs cs Y N code L w' vo' ((outs ++ rdB (readR f (C.drop i) said.data.toList)).take 100) ∧ w0.grownBy w' none := fun f => by
  have hCl : C.length = N := by rw [← hC, ← hN]; simp
  have HCL := Lib.hid hCl
  have HEND : Hid (∀ (f : Nat) (said : ByteArray) (W : World) (vo : Value) (outs : List ByteArray), w0.grownBy W none → SplR w0.heap.size X gs cs Y N code L W vo outs → outs.length < 100 →
      Calls Tryz.prog 93 #[.pointer (some ⟨X, 0, none⟩), .int .i64 N, .string said] W fun e w' => e = .returned (.tuple #[]) ∧ ∃ vo', SplR w0.heap.size X gs cs Y N code L w' vo' ((outs ++ rdB (readR f (C.drop N) said.data.toList)).take 100) ∧ w0.grownBy w' none) := fun f said W vo outs hg h h100 => by
    have e : (outs ++ rdB (readR f (C.drop N) said.data.toList)).take 100 = outs ++ [said] := by
      rw [List.drop_of_length_le (by omega), readR_nil]
      show (outs ++ [strB said.data.toList]).take 100 = _
      rw [strB_of]
      exact rd_few (by rw [List.length_append]; simp; omega)
    rw [e]
    exact read_end w0 X gs cs Y N code said L W vo outs hN hX hg h h100
  clear hCl
  induction f with
  | zero =>
    intro i said W vo outs hg h hi hf hsd h100
    obtain rfl : i = N := by omega
    rcases Nat.lt_or_ge outs.length 100 with hl | hl
    · exact HEND.out 0 said W vo outs hg h hl
    · rw [rd_full (by omega)]
      exact read_full w0 X gs cs Y i i code said L W vo outs hg h (by omega)
  | succ f ih =>
    intro i said W vo outs hg h hi hf hsd h100
    rcases Nat.lt_or_ge outs.length 100 with hl | hl
    · rcases Nat.lt_or_ge i N with hiN | hiN
      · have HIH := Lib.hid ih
        have HS0 := Lib.hid h
        obtain ⟨c0, c1, c2, c3⟩ := h.blk.cells4s
        obtain ⟨A, c, rfl, hln, hsh⟩ := h.out.shape
        clear hsh
        have h1 : ((outs.length : Int) == 100) = false := by rw [beq_eq_false_iff_ne]; omega
        have h2 : ((i : Int) == (N : Int)) = false := by rw [beq_eq_false_iff_ne]; omega
        have hcl : (signT.length : Int) = 40 := by rw [signT_len]; rfl
        have HO0 : Hid (outs = (outs ++ rdB (readIn f (C.drop i) said.data.toList 0)).take 100) := by
          show _ = _
          rw [show readIn f (C.drop i) said.data.toList 0 = [] from rfl, show rdB [] = [] from rfl, List.append_nil]
          exact (List.take_of_length_le h100).symm
        have HALL : Hid (readIn f (C.drop i) said.data.toList 40 = readR (f + 1) (C.drop i) said.data.toList) := readIn_all f _ (by
          intro e
          have := congrArg List.length e
          rw [List.length_drop, HCL.out] at this
          simp at this
          omega)
        have HWI := Lib.hid hWI
        have HCC := Lib.hid hC
        obtain ⟨T, hT⟩ : ∃ T, said.data.toList = T := ⟨_, rfl⟩
        have HT := Lib.hid hT
        rw [hT] at HO0 HALL
        obtain ⟨R1, hR1⟩ : ∃ R1, readR (f + 1) (C.drop i) said.data.toList = R1 := ⟨_, rfl⟩
        rw [hR1]
        rw [hT] at hR1
        rw [hR1] at HALL
        clear ih h hWI hC hT hR1 hln
        go_enter Tryz.func93, Tryz.ntmps93
        go_wp2_with fail
        go_loopw [36] (fun j wr => ∃ (q : Nat) (vo : Value) (os : List ByteArray), q ≤ 40 ∧ j = .int .i64 q ∧ Hid (os = (outs ++ rdB (readIn f (C.drop i) T q)).take 100) ∧ Hid (SplR w0.heap.size X gs cs Y N code L wr vo os) ∧ w0.grownBy wr none) (fun j _ => 40 - (intOf j).toNat)
        case atStart => exact ⟨0, _, outs, by omega, rfl, HO0, HS0, hg⟩
        case round =>
          obtain ⟨q, vq, os, hq, rfl, HOS, HSQ, hgq⟩ := hrel
          rename World => wx
          clear c0 c1 c2 c3 hg HS0 HO0
          by_cases hlq : q < 40
          · have hkq : (q : Int) < 40 := by omega
            have hql : q < signT.length := by rw [signT_len]; exact hlq
            have hqi : (q : Int) < (signT.length : Int) := by omega
            have hosl : os.length ≤ 100 := by rw [HOS.out]; exact List.length_take_le _ _
            obtain ⟨a0, a1⟩ := HSQ.out.sgn.at1 q hql
            have hyl := signT_short _ (List.getElem_mem hql)
            have hrs := readIn_succ f (C.drop i) T hql
            generalize signT[q].1 = x at *
            generalize signT[q].2 = y at *
            obtain ⟨sx, hsx⟩ : ∃ t : ByteArray, ⟨#[x]⟩ = t := ⟨_, rfl⟩
            obtain ⟨sy, hsy⟩ : ∃ t : ByteArray, ⟨y.toArray⟩ = t := ⟨_, rfl⟩
            rw [hsx] at a0
            rw [hsy] at a1
            have hyz : sy.size = y.length := by rw [← hsy]; show y.toArray.size = _; simp
            have hyd : sy.data.toList = y := by rw [← hsy]
            have hxd : sx.data.toList = [x] := by rw [← hsx]
            have hxz : sx.size = 1 := by rw [← hsx]; rfl
            obtain ⟨R, hR⟩ : ∃ R, code.extract i N = R := ⟨_, rfl⟩
            have hRd : R.data.toList = C.drop i := by
              rw [← hR, ← HCC.out, ← hN, Lib.extract_to_end]
            obtain ⟨B, hBB⟩ : ∃ B, y.isPrefixOf (C.drop i) = B := ⟨_, rfl⟩
            have HHP : Hid (∀ W, Calls Tryz.prog 113 #[.string R, .string sy] W fun e w' => e = .returned (.bool B) ∧ W = w') := fun W => (Tryz.strings_HasPrefix R sy W).mono fun e w' ⟨he, hw⟩ => ⟨by rw [he, hRd, hyd]; show Ending.returned (.bool (y.isPrefixOf (C.drop i))) = _; rw [hBB], hw.symm⟩
            rw [hBB] at hrs
            have HRS := Lib.hid hrs
            have hbz := Blk.new wx 100 #[.string sx, .string sy]
            have hGz := World.grownBy_alloc wx (.cells #[.string sx, .string sy] 100) none
            have HS3 := Lib.hid (HSQ.out.grown hGz)
            have hg3 := gr_trans hgq hGz
            have HYZ := Lib.hid hyz
            have HBB := Lib.hid hBB
            have HYL := Lib.hid hyl
            have HXD := Lib.hid hxd
            have HXZ := Lib.hid hxz
            have hi0 : (0 : Int) ≤ (i : Int) := by omega
            have hiNl : (i : Int) ≤ (N : Int) := by omega
            have hiNle : i ≤ N := by omega
            have hiw : IntKind.i64.wrap (i : Int) = (i : Int) := IntWalk.i64_in _ ⟨by omega, by omega⟩
            clear hrs hsx hsy hyd hRd hBB hGz hyz hyl hxd hxz hgq HSQ
            go_upto_region 6 with fail
            generalize wx.alloc (.cells #[.string sx, .string sy] 100) = w6 at *
            generalize wx.heap.size = Z at *
            obtain ⟨c0, c1, c2, c3⟩ := HS3.out.blk.cells4s
            have b0 : w6.cell? ⟨Z, 0, none⟩ = some (.string sx) := hbz.cell 0
            have b1 : w6.cell? ⟨Z, 1, none⟩ = some (.string sy) := hbz.cell 1
            cases B
            · skip
              refine wp_region_held_drew (S := fun W => W.cell? ⟨X, 0, none⟩ = some (.string code) ∧ W.cell? ⟨Z, 1, none⟩ = some (.string sy)) (by kernel_rfl) ⟨c0, b1⟩ (fun hHeld => ?_)
              refine wpAnyH_take (i := 0) (v := ?_) rfl (by kernel_rfl) (by kernel_rfl) (by kernel_rfl) (fun _ _ _ h => h) (Or.inl ⟨by kernel_rfl, ?_⟩) hHeld ?_
              rotate_left
              · intro w hSw
                (try dsimp only at hSw)
                obtain ⟨hS0, hS1⟩ := hSw
                go_simp
                (try with_reducible rfl)
              change wpAnyH _ _ _ _ _ _ _ (Act.put _ (some 40) _) _
              simp only [Act.put, List.setIfInBounds_toArray, List.set_cons_zero, List.set_cons_succ]
              refine wpAnyH_take (i := 1) (v := ?_) rfl (by kernel_rfl) (by kernel_rfl) (by kernel_rfl) (fun _ _ _ h => h) (Or.inl ⟨by kernel_rfl, ?_⟩) hHeld ?_
              rotate_left
              · intro w hSw
                (try dsimp only at hSw)
                obtain ⟨hS0, hS1⟩ := hSw
                go_simp
                (try with_reducible rfl)
              change wpAnyH _ _ _ _ _ _ _ (Act.put _ (some 41) _) _
              simp only [Act.put, List.setIfInBounds_toArray, List.set_cons_zero, List.set_cons_succ]
              refine wpAnyH_take (i := 2) (v := ?_) rfl (by kernel_rfl) (by kernel_rfl) (by kernel_rfl) (fun _ _ _ h => h) (Or.inl ⟨by kernel_rfl, ?_⟩) hHeld ?_
              rotate_left
              · intro w hSw
                (try dsimp only at hSw)
                obtain ⟨hS0, hS1⟩ := hSw
                go_simp
                (try with_reducible rfl)
              change wpAnyH _ _ _ _ _ _ _ (Act.put _ (some 42) _) _
              simp only [Act.put, List.setIfInBounds_toArray, List.set_cons_zero, List.set_cons_succ]
              refine wpAnyH_take (i := 3) (v := ?_) rfl (by kernel_rfl) (by kernel_rfl) (by kernel_rfl) (fun _ _ _ h => h) (Or.inl ⟨by kernel_rfl, ?_⟩) hHeld ?_
              rotate_left
              · intro w hSw
                (try dsimp only at hSw)
                obtain ⟨hS0, hS1⟩ := hSw
                go_simp
                (try with_reducible rfl)
              change wpAnyH _ _ _ _ _ _ _ (Act.put _ (some 43) _) _
              simp only [Act.put, List.setIfInBounds_toArray, List.set_cons_zero, List.set_cons_succ]
              refine wpAnyH_take (i := 4) (v := ?_) rfl (by kernel_rfl) (by kernel_rfl) (by kernel_rfl) (fun _ _ _ h => h) (Or.inl ⟨by kernel_rfl, ?_⟩) hHeld ?_
              rotate_left
              · intro w hSw
                (try dsimp only at hSw)
                obtain ⟨hS0, hS1⟩ := hSw
                go_simp
                (try with_reducible rfl)
              change wpAnyH _ _ _ _ _ _ _ (Act.put _ (some 44) _) _
              simp only [Act.put, List.setIfInBounds_toArray, List.set_cons_zero, List.set_cons_succ]
              refine wpAnyH_take (i := 5) (v := ?_) rfl (by kernel_rfl) (by kernel_rfl) (by kernel_rfl) (fun _ _ _ h => h) (Or.inl ⟨by kernel_rfl, ?_⟩) hHeld ?_
              rotate_left
              · intro w hSw
                (try dsimp only at hSw)
                obtain ⟨hS0, hS1⟩ := hSw
                go_simp
                (try with_reducible rfl)
              change wpAnyH _ _ _ _ _ _ _ (Act.put _ (some 45) _) _
              simp only [Act.put, List.setIfInBounds_toArray, List.set_cons_zero, List.set_cons_succ]
              refine wpAnyH_take (i := 6) (v := ?_) rfl (by kernel_rfl) (by kernel_rfl) (by kernel_rfl) (fun _ _ _ h => h) (Or.inl ⟨by kernel_rfl, ?_⟩) hHeld ?_
              rotate_left
              · intro w hSw
                (try dsimp only at hSw)
                obtain ⟨hS0, hS1⟩ := hSw
                go_simp
                (try with_reducible rfl)
              change wpAnyH _ _ _ _ _ _ _ (Act.put _ (some 46) _) _
              simp only [Act.put, List.setIfInBounds_toArray, List.set_cons_zero, List.set_cons_succ]
              refine wpAnyH_take (i := 7) (v := ?_) rfl (by kernel_rfl) (by kernel_rfl) (by kernel_rfl) (fun _ _ _ h => h) (Or.inl ⟨by kernel_rfl, ?_⟩) hHeld ?_
              rotate_left
              · intro w hSw
                (try dsimp only at hSw)
                obtain ⟨hS0, hS1⟩ := hSw
                go_simp
                (try with_reducible rfl)
              change wpAnyH _ _ _ _ _ _ _ (Act.put _ (some 47) _) _
              simp only [Act.put, List.setIfInBounds_toArray, List.set_cons_zero, List.set_cons_succ]
              refine wpAnyH_ready (rs := [8]) (by kernel_rfl) (by simp) ?_
              refine AllReadyH.cons (o := _) rfl (fun K hK => ?_) AllReadyH.nil
              go_simp
              (go_at_call 113; refine (HHP.out _).mono ?_; rintro _ _ ⟨rfl, rfl⟩)
              refine hK.out _ _ ⟨c0, b1⟩ (fun hHeld8 => ?_)
              clear hK K
              (try simp only [Act.put, List.setIfInBounds_toArray, List.set_cons_zero, List.set_cons_succ])
              refine wpAnyH_take (i := 9) (v := ?_) rfl (by kernel_rfl) (by kernel_rfl) (by kernel_rfl) (fun _ _ _ h => h) (Or.inl ⟨by kernel_rfl, ?_⟩) hHeld8 ?_
              rotate_left
              · intro w hSw
                (try dsimp only at hSw)
                obtain ⟨hS0, hS1⟩ := hSw
                go_simp
                (try with_reducible rfl)
              change wpAnyH _ _ _ _ _ _ _ (Act.put _ (some 49) _) _
              simp only [Act.put, List.setIfInBounds_toArray, List.set_cons_zero, List.set_cons_succ]
              refine wpAnyH_take (i := 10) (v := undef) rfl (by kernel_rfl) (by kernel_rfl) (by kernel_rfl) (fun _ _ _ h => h) (Or.inr ⟨by kernel_rfl, rfl⟩) hHeld8 ?_
              change wpAnyH _ _ _ _ _ _ _ (Act.put _ (some 50) _) _
              simp only [Act.put, List.setIfInBounds_toArray, List.set_cons_zero, List.set_cons_succ]
              refine wpAnyH_take (i := 11) (v := undef) rfl (by kernel_rfl) (by kernel_rfl) (by kernel_rfl) (fun _ _ _ h => h) (Or.inr ⟨by kernel_rfl, rfl⟩) hHeld8 ?_
              change wpAnyH _ _ _ _ _ _ _ (Act.put _ (some 51) _) _
              simp only [Act.put, List.setIfInBounds_toArray, List.set_cons_zero, List.set_cons_succ]
              refine wpAnyH_take (i := 12) (v := undef) rfl (by kernel_rfl) (by kernel_rfl) (by kernel_rfl) (fun _ _ _ h => h) (Or.inr ⟨by kernel_rfl, rfl⟩) hHeld8 ?_
              change wpAnyH _ _ _ _ _ _ _ (Act.put _ (some 52) _) _
              simp only [Act.put, List.setIfInBounds_toArray, List.set_cons_zero, List.set_cons_succ]
              refine wpAnyH_take (i := 13) (v := undef) rfl (by kernel_rfl) (by kernel_rfl) (by kernel_rfl) (fun _ _ _ h => h) (Or.inr ⟨by kernel_rfl, rfl⟩) hHeld8 ?_
              change wpAnyH _ _ _ _ _ _ _ (Act.put _ (some 53) _) _
              simp only [Act.put, List.setIfInBounds_toArray, List.set_cons_zero, List.set_cons_succ]
              refine wpAnyH_take (i := 14) (v := undef) rfl (by kernel_rfl) (by kernel_rfl) (by kernel_rfl) (fun _ _ _ h => h) (Or.inr ⟨by kernel_rfl, rfl⟩) hHeld8 ?_
              change wpAnyH _ _ _ _ _ _ _ (Act.put _ (some 54) _) _
              simp only [Act.put, List.setIfInBounds_toArray, List.set_cons_zero, List.set_cons_succ]
              refine wpAnyH_take (i := 15) (v := undef) rfl (by kernel_rfl) (by kernel_rfl) (by kernel_rfl) (fun _ _ _ h => h) (Or.inr ⟨by kernel_rfl, rfl⟩) hHeld8 ?_
              change wpAnyH _ _ _ _ _ _ _ (Act.put _ (some 55) _) _
              simp only [Act.put, List.setIfInBounds_toArray, List.set_cons_zero, List.set_cons_succ]
              refine wpAnyH_take (i := 16) (v := undef) rfl (by kernel_rfl) (by kernel_rfl) (by kernel_rfl) (fun _ _ _ h => h) (Or.inr ⟨by kernel_rfl, rfl⟩) hHeld8 ?_
              change wpAnyH _ _ _ _ _ _ _ (Act.put _ (some 56) _) _
              simp only [Act.put, List.setIfInBounds_toArray, List.set_cons_zero, List.set_cons_succ]
              refine wpAnyH_take (i := 17) (v := undef) rfl (by kernel_rfl) (by kernel_rfl) (by kernel_rfl) (fun _ _ _ h => h) (Or.inr ⟨by kernel_rfl, rfl⟩) hHeld8 ?_
              change wpAnyH _ _ _ _ _ _ _ (Act.put _ (some 57) _) _
              simp only [Act.put, List.setIfInBounds_toArray, List.set_cons_zero, List.set_cons_succ]
              refine wpAnyH_take (i := 18) (v := undef) rfl (by kernel_rfl) (by kernel_rfl) (by kernel_rfl) (fun _ _ _ h => h) (Or.inr ⟨by kernel_rfl, rfl⟩) hHeld8 ?_
              change wpAnyH _ _ _ _ _ _ _ (Act.put _ (some 58) _) _
              simp only [Act.put, List.setIfInBounds_toArray, List.set_cons_zero, List.set_cons_succ]
              refine wpAnyH_take (i := 19) (v := undef) rfl (by kernel_rfl) (by kernel_rfl) (by kernel_rfl) (fun _ _ _ h => h) (Or.inr ⟨by kernel_rfl, rfl⟩) hHeld8 ?_
              change wpAnyH _ _ _ _ _ _ _ (Act.put _ (some 59) _) _
              simp only [Act.put, List.setIfInBounds_toArray, List.set_cons_zero, List.set_cons_succ]
              refine wpAnyH_take (i := 20) (v := undef) rfl (by kernel_rfl) (by kernel_rfl) (by kernel_rfl) (fun _ _ _ h => h) (Or.inr ⟨by kernel_rfl, rfl⟩) hHeld8 ?_
              change wpAnyH _ _ _ _ _ _ _ (Act.put _ (some 60) _) _
              simp only [Act.put, List.setIfInBounds_toArray, List.set_cons_zero, List.set_cons_succ]
              refine wpAnyH_take (i := 21) (v := undef) rfl (by kernel_rfl) (by kernel_rfl) (by kernel_rfl) (fun _ _ _ h => h) (Or.inr ⟨by kernel_rfl, rfl⟩) hHeld8 ?_
              change wpAnyH _ _ _ _ _ _ _ (Act.put _ (some 61) _) _
              simp only [Act.put, List.setIfInBounds_toArray, List.set_cons_zero, List.set_cons_succ]
              refine wpAnyH_take (i := 22) (v := ?_) rfl (by kernel_rfl) (by kernel_rfl) (by kernel_rfl) (fun _ _ _ h => h) (Or.inl ⟨by kernel_rfl, ?_⟩) hHeld8 ?_
              rotate_left
              · intro w hSw
                (try dsimp only at hSw)
                obtain ⟨hS0, hS1⟩ := hSw
                go_simp
                (try with_reducible rfl)
              change wpAnyH _ _ _ _ _ _ _ (Act.put _ (some 62) _) _
              simp only [Act.put, List.setIfInBounds_toArray, List.set_cons_zero, List.set_cons_succ]
              refine wpAnyH_done (by kernel_rfl) ?_ _
              have HS4 := Lib.hid (HS3.out.grown (gr_drew (gr_refl w6 none)))
              have HO4 : Hid (os = (outs ++ rdB (readIn f (C.drop i) T (q + 1))).take 100) := by
                show _ = _
                rw [HRS.out, Bool.false_and, if_neg (by simp), List.append_nil]; exact HOS.out
              go_wp2_with fail
              go_roundw
              case rel => exact ⟨q + 1, vq, os, by omega, by go_num, HO4, HS4, gr_drew hg3⟩
              case measure => simp [intOf]; omega
            · have hlen : i + y.length ≤ N := by
                have h := (List.isPrefixOf_iff_prefix.1 HBB.out).length_le
                rw [List.length_drop, HCL.out] at h
                omega
              have hy1 := HYL.out.1
              obtain ⟨M, hM⟩ : ∃ M, i + y.length = M := ⟨_, rfl⟩
              have hhd : (waysR ((C.drop i).drop y.length)).headD 0 = (waysR C).getD M 0 := by
                rw [List.drop_drop, hM, headD_getD2, ← waysR_at C M 0 (by rw [HCL.out]; omega), Nat.add_zero]
              have hdd : (C.drop i).drop y.length = C.drop M := by rw [List.drop_drop, hM]
              have hrs := HRS.out
              rw [Bool.true_and, hhd, hdd] at hrs
              have k2 := HS3.out.way.at_ M (by omega)
              have hv := HWI.out.1 M (by omega) (by rw [HCL.out]; omega)
              have hVB : 0 < (waysR C).getD M 0 ↔ 0 < L.getD M 0 := by rw [hv]; omega
              have hMw : IntKind.i64.wrap ((i : Int) + (sy.size : Int)) = (M : Int) := by
                rw [show (i : Int) + (sy.size : Int) = (M : Int) by have := HYZ.out; omega]
                exact IntWalk.i64_in _ ⟨by omega, by omega⟩
              have hMw2 : IntKind.i64.wrap (M : Int) = (M : Int) := IntWalk.i64_in _ ⟨by omega, by omega⟩
              have hM0 : (0 : Int) ≤ (M : Int) := by omega
              have hMN : M < N + 1 := by omega
              have hMNi : (M : Int) < (N : Int) + 1 := by omega
              obtain ⟨V, hV⟩ : ∃ V : Int, L.getD M 0 = V := ⟨_, rfl⟩
              rw [hV] at k2 hVB
              have HIM := Lib.hid (fun (W : World) hgW hSW => HIH.out M (said ++ sx) W vq os hgW hSW (by omega) (by omega) (by rw [ByteArray.size_append, HXZ.out]; omega) hosl)
              have hcat : (said ++ sx).data.toList = T ++ [x] := by simp [HT.out, HXD.out]
              rw [hcat] at HIM
              by_cases hVp : 0 < V
              · rw [if_pos (decide_eq_true (hVB.2 hVp))] at hrs
                have HRS2 := Lib.hid hrs
                have hsx1 : said.size + sx.size ≤ 9223372036854775807 := by rw [HXZ.out]; omega
                clear hrs hv hhd hdd hV hVB hM hlen hy1 HRS HIH hcat
                refine wp_region_held_drew (S := fun W => W.cell? ⟨X, 0, none⟩ = some (.string code) ∧ W.cell? ⟨Z, 1, none⟩ = some (.string sy) ∧ W.cell? ⟨X, 2, none⟩ = some (.slice (some ⟨Y, 0, none⟩) (N + 1) (N + 1)) ∧ W.cell? ⟨Y, M, none⟩ = some (.int .i64 V)) (by kernel_rfl) ⟨c0, b1, c2, k2⟩ (fun hHeld => ?_)
                refine wpAnyH_take (i := 0) (v := ?_) rfl (by kernel_rfl) (by kernel_rfl) (by kernel_rfl) (fun _ _ _ h => h) (Or.inl ⟨by kernel_rfl, ?_⟩) hHeld ?_
                rotate_left
                · intro w hSw
                  (try dsimp only at hSw)
                  obtain ⟨hS0, hS1, hS2, hS3⟩ := hSw
                  go_simp
                  (try with_reducible rfl)
                change wpAnyH _ _ _ _ _ _ _ (Act.put _ (some 40) _) _
                simp only [Act.put, List.setIfInBounds_toArray, List.set_cons_zero, List.set_cons_succ]
                refine wpAnyH_take (i := 1) (v := ?_) rfl (by kernel_rfl) (by kernel_rfl) (by kernel_rfl) (fun _ _ _ h => h) (Or.inl ⟨by kernel_rfl, ?_⟩) hHeld ?_
                rotate_left
                · intro w hSw
                  (try dsimp only at hSw)
                  obtain ⟨hS0, hS1, hS2, hS3⟩ := hSw
                  go_simp
                  (try with_reducible rfl)
                change wpAnyH _ _ _ _ _ _ _ (Act.put _ (some 41) _) _
                simp only [Act.put, List.setIfInBounds_toArray, List.set_cons_zero, List.set_cons_succ]
                refine wpAnyH_take (i := 2) (v := ?_) rfl (by kernel_rfl) (by kernel_rfl) (by kernel_rfl) (fun _ _ _ h => h) (Or.inl ⟨by kernel_rfl, ?_⟩) hHeld ?_
                rotate_left
                · intro w hSw
                  (try dsimp only at hSw)
                  obtain ⟨hS0, hS1, hS2, hS3⟩ := hSw
                  go_simp
                  (try with_reducible rfl)
                change wpAnyH _ _ _ _ _ _ _ (Act.put _ (some 42) _) _
                simp only [Act.put, List.setIfInBounds_toArray, List.set_cons_zero, List.set_cons_succ]
                refine wpAnyH_take (i := 3) (v := ?_) rfl (by kernel_rfl) (by kernel_rfl) (by kernel_rfl) (fun _ _ _ h => h) (Or.inl ⟨by kernel_rfl, ?_⟩) hHeld ?_
                rotate_left
                · intro w hSw
                  (try dsimp only at hSw)
                  obtain ⟨hS0, hS1, hS2, hS3⟩ := hSw
                  go_simp
                  (try with_reducible rfl)
                change wpAnyH _ _ _ _ _ _ _ (Act.put _ (some 43) _) _
                simp only [Act.put, List.setIfInBounds_toArray, List.set_cons_zero, List.set_cons_succ]
                refine wpAnyH_take (i := 4) (v := ?_) rfl (by kernel_rfl) (by kernel_rfl) (by kernel_rfl) (fun _ _ _ h => h) (Or.inl ⟨by kernel_rfl, ?_⟩) hHeld ?_
                rotate_left
                · intro w hSw
                  (try dsimp only at hSw)
                  obtain ⟨hS0, hS1, hS2, hS3⟩ := hSw
                  go_simp
                  (try with_reducible rfl)
                change wpAnyH _ _ _ _ _ _ _ (Act.put _ (some 44) _) _
                simp only [Act.put, List.setIfInBounds_toArray, List.set_cons_zero, List.set_cons_succ]
                refine wpAnyH_take (i := 5) (v := ?_) rfl (by kernel_rfl) (by kernel_rfl) (by kernel_rfl) (fun _ _ _ h => h) (Or.inl ⟨by kernel_rfl, ?_⟩) hHeld ?_
                rotate_left
                · intro w hSw
                  (try dsimp only at hSw)
                  obtain ⟨hS0, hS1, hS2, hS3⟩ := hSw
                  go_simp
                  (try with_reducible rfl)
                change wpAnyH _ _ _ _ _ _ _ (Act.put _ (some 45) _) _
                simp only [Act.put, List.setIfInBounds_toArray, List.set_cons_zero, List.set_cons_succ]
                refine wpAnyH_take (i := 6) (v := ?_) rfl (by kernel_rfl) (by kernel_rfl) (by kernel_rfl) (fun _ _ _ h => h) (Or.inl ⟨by kernel_rfl, ?_⟩) hHeld ?_
                rotate_left
                · intro w hSw
                  (try dsimp only at hSw)
                  obtain ⟨hS0, hS1, hS2, hS3⟩ := hSw
                  go_simp
                  (try with_reducible rfl)
                change wpAnyH _ _ _ _ _ _ _ (Act.put _ (some 46) _) _
                simp only [Act.put, List.setIfInBounds_toArray, List.set_cons_zero, List.set_cons_succ]
                refine wpAnyH_take (i := 7) (v := ?_) rfl (by kernel_rfl) (by kernel_rfl) (by kernel_rfl) (fun _ _ _ h => h) (Or.inl ⟨by kernel_rfl, ?_⟩) hHeld ?_
                rotate_left
                · intro w hSw
                  (try dsimp only at hSw)
                  obtain ⟨hS0, hS1, hS2, hS3⟩ := hSw
                  go_simp
                  (try with_reducible rfl)
                change wpAnyH _ _ _ _ _ _ _ (Act.put _ (some 47) _) _
                simp only [Act.put, List.setIfInBounds_toArray, List.set_cons_zero, List.set_cons_succ]
                refine wpAnyH_ready (rs := [8]) (by kernel_rfl) (by simp) ?_
                refine AllReadyH.cons (o := _) rfl (fun K hK => ?_) AllReadyH.nil
                go_simp
                (go_at_call 113; refine (HHP.out _).mono ?_; rintro _ _ ⟨rfl, rfl⟩)
                refine hK.out _ _ ⟨c0, b1, c2, k2⟩ (fun hHeld8 => ?_)
                clear hK K
                (try simp only [Act.put, List.setIfInBounds_toArray, List.set_cons_zero, List.set_cons_succ])
                refine wpAnyH_take (i := 9) (v := ?_) rfl (by kernel_rfl) (by kernel_rfl) (by kernel_rfl) (fun _ _ _ h => h) (Or.inl ⟨by kernel_rfl, ?_⟩) hHeld8 ?_
                rotate_left
                · intro w hSw
                  (try dsimp only at hSw)
                  obtain ⟨hS0, hS1, hS2, hS3⟩ := hSw
                  go_simp
                  (try with_reducible rfl)
                change wpAnyH _ _ _ _ _ _ _ (Act.put _ (some 49) _) _
                simp only [Act.put, List.setIfInBounds_toArray, List.set_cons_zero, List.set_cons_succ]
                refine wpAnyH_take (i := 10) (v := ?_) rfl (by kernel_rfl) (by kernel_rfl) (by kernel_rfl) (fun _ _ _ h => h) (Or.inl ⟨by kernel_rfl, ?_⟩) hHeld8 ?_
                rotate_left
                · intro w hSw
                  (try dsimp only at hSw)
                  obtain ⟨hS0, hS1, hS2, hS3⟩ := hSw
                  go_simp
                  (try with_reducible rfl)
                change wpAnyH _ _ _ _ _ _ _ (Act.put _ (some 50) _) _
                simp only [Act.put, List.setIfInBounds_toArray, List.set_cons_zero, List.set_cons_succ]
                refine wpAnyH_take (i := 11) (v := ?_) rfl (by kernel_rfl) (by kernel_rfl) (by kernel_rfl) (fun _ _ _ h => h) (Or.inl ⟨by kernel_rfl, ?_⟩) hHeld8 ?_
                rotate_left
                · intro w hSw
                  (try dsimp only at hSw)
                  obtain ⟨hS0, hS1, hS2, hS3⟩ := hSw
                  go_simp
                  (try with_reducible rfl)
                change wpAnyH _ _ _ _ _ _ _ (Act.put _ (some 51) _) _
                simp only [Act.put, List.setIfInBounds_toArray, List.set_cons_zero, List.set_cons_succ]
                refine wpAnyH_take (i := 12) (v := ?_) rfl (by kernel_rfl) (by kernel_rfl) (by kernel_rfl) (fun _ _ _ h => h) (Or.inl ⟨by kernel_rfl, ?_⟩) hHeld8 ?_
                rotate_left
                · intro w hSw
                  (try dsimp only at hSw)
                  obtain ⟨hS0, hS1, hS2, hS3⟩ := hSw
                  go_simp
                  (try with_reducible rfl)
                change wpAnyH _ _ _ _ _ _ _ (Act.put _ (some 52) _) _
                simp only [Act.put, List.setIfInBounds_toArray, List.set_cons_zero, List.set_cons_succ]
                refine wpAnyH_take (i := 13) (v := ?_) rfl (by kernel_rfl) (by kernel_rfl) (by kernel_rfl) (fun _ _ _ h => h) (Or.inl ⟨by kernel_rfl, ?_⟩) hHeld8 ?_
                rotate_left
                · intro w hSw
                  (try dsimp only at hSw)
                  obtain ⟨hS0, hS1, hS2, hS3⟩ := hSw
                  go_simp
                  (try with_reducible rfl)
                change wpAnyH _ _ _ _ _ _ _ (Act.put _ (some 53) _) _
                simp only [Act.put, List.setIfInBounds_toArray, List.set_cons_zero, List.set_cons_succ]
                refine wpAnyH_take (i := 14) (v := ?_) rfl (by kernel_rfl) (by kernel_rfl) (by kernel_rfl) (fun _ _ _ h => h) (Or.inl ⟨by kernel_rfl, ?_⟩) hHeld8 ?_
                rotate_left
                · intro w hSw
                  (try dsimp only at hSw)
                  obtain ⟨hS0, hS1, hS2, hS3⟩ := hSw
                  go_simp
                  (try with_reducible rfl)
                change wpAnyH _ _ _ _ _ _ _ (Act.put _ (some 54) _) _
                simp only [Act.put, List.setIfInBounds_toArray, List.set_cons_zero, List.set_cons_succ]
                refine wpAnyH_take (i := 15) (v := ?_) rfl (by kernel_rfl) (by kernel_rfl) (by kernel_rfl) (fun _ _ _ h => h) (Or.inl ⟨by kernel_rfl, ?_⟩) hHeld8 ?_
                rotate_left
                · intro w hSw
                  (try dsimp only at hSw)
                  obtain ⟨hS0, hS1, hS2, hS3⟩ := hSw
                  go_simp
                  (try with_reducible rfl)
                change wpAnyH _ _ _ _ _ _ _ (Act.put _ (some 55) _) _
                simp only [Act.put, List.setIfInBounds_toArray, List.set_cons_zero, List.set_cons_succ]
                refine wpAnyH_take (i := 16) (v := ?_) rfl (by kernel_rfl) (by kernel_rfl) (by kernel_rfl) (fun _ _ _ h => h) (Or.inl ⟨by kernel_rfl, ?_⟩) hHeld8 ?_
                rotate_left
                · intro w hSw
                  (try dsimp only at hSw)
                  obtain ⟨hS0, hS1, hS2, hS3⟩ := hSw
                  go_simp
                  (try with_reducible rfl)
                change wpAnyH _ _ _ _ _ _ _ (Act.put _ (some 56) _) _
                simp only [Act.put, List.setIfInBounds_toArray, List.set_cons_zero, List.set_cons_succ]
                refine wpAnyH_take (i := 17) (v := ?_) rfl (by kernel_rfl) (by kernel_rfl) (by kernel_rfl) (fun _ _ _ h => h) (Or.inl ⟨by kernel_rfl, ?_⟩) hHeld8 ?_
                rotate_left
                · intro w hSw
                  (try dsimp only at hSw)
                  obtain ⟨hS0, hS1, hS2, hS3⟩ := hSw
                  go_simp
                  (try with_reducible rfl)
                change wpAnyH _ _ _ _ _ _ _ (Act.put _ (some 57) _) _
                simp only [Act.put, List.setIfInBounds_toArray, List.set_cons_zero, List.set_cons_succ]
                refine wpAnyH_take (i := 18) (v := ?_) rfl (by kernel_rfl) (by kernel_rfl) (by kernel_rfl) (fun _ _ _ h => h) (Or.inl ⟨by kernel_rfl, ?_⟩) hHeld8 ?_
                rotate_left
                · intro w hSw
                  (try dsimp only at hSw)
                  obtain ⟨hS0, hS1, hS2, hS3⟩ := hSw
                  go_simp
                  (try with_reducible rfl)
                change wpAnyH _ _ _ _ _ _ _ (Act.put _ (some 58) _) _
                simp only [Act.put, List.setIfInBounds_toArray, List.set_cons_zero, List.set_cons_succ]
                refine wpAnyH_take (i := 19) (v := ?_) rfl (by kernel_rfl) (by kernel_rfl) (by kernel_rfl) (fun _ _ _ h => h) (Or.inl ⟨by kernel_rfl, ?_⟩) hHeld8 ?_
                rotate_left
                · intro w hSw
                  (try dsimp only at hSw)
                  obtain ⟨hS0, hS1, hS2, hS3⟩ := hSw
                  go_simp
                  (try with_reducible rfl)
                change wpAnyH _ _ _ _ _ _ _ (Act.put _ (some 59) _) _
                simp only [Act.put, List.setIfInBounds_toArray, List.set_cons_zero, List.set_cons_succ]
                refine wpAnyH_take (i := 20) (v := ?_) rfl (by kernel_rfl) (by kernel_rfl) (by kernel_rfl) (fun _ _ _ h => h) (Or.inl ⟨by kernel_rfl, ?_⟩) hHeld8 ?_
                rotate_left
                · intro w hSw
                  (try dsimp only at hSw)
                  obtain ⟨hS0, hS1, hS2, hS3⟩ := hSw
                  go_simp
                  (try with_reducible rfl)
                change wpAnyH _ _ _ _ _ _ _ (Act.put _ (some 60) _) _
                simp only [Act.put, List.setIfInBounds_toArray, List.set_cons_zero, List.set_cons_succ]
                refine wpAnyH_take (i := 21) (v := ?_) rfl (by kernel_rfl) (by kernel_rfl) (by kernel_rfl) (fun _ _ _ h => h) (Or.inl ⟨by kernel_rfl, ?_⟩) hHeld8 ?_
                rotate_left
                · intro w hSw
                  (try dsimp only at hSw)
                  obtain ⟨hS0, hS1, hS2, hS3⟩ := hSw
                  go_simp
                  (try with_reducible rfl)
                change wpAnyH _ _ _ _ _ _ _ (Act.put _ (some 61) _) _
                simp only [Act.put, List.setIfInBounds_toArray, List.set_cons_zero, List.set_cons_succ]
                refine wpAnyH_take (i := 22) (v := ?_) rfl (by kernel_rfl) (by kernel_rfl) (by kernel_rfl) (fun _ _ _ h => h) (Or.inl ⟨by kernel_rfl, ?_⟩) hHeld8 ?_
                rotate_left
                · intro w hSw
                  (try dsimp only at hSw)
                  obtain ⟨hS0, hS1, hS2, hS3⟩ := hSw
                  go_simp
                  (try with_reducible rfl)
                change wpAnyH _ _ _ _ _ _ _ (Act.put _ (some 62) _) _
                simp only [Act.put, List.setIfInBounds_toArray, List.set_cons_zero, List.set_cons_succ]
                refine wpAnyH_done (by kernel_rfl) ?_ _
                have HS4 := Lib.hid (HS3.out.grown (gr_drew (gr_refl w6 none)))
                have hg4 := gr_drew hg3
                have e0 : w6.drew.cell? ⟨Z, 0, none⟩ = some (.string sx) := b0
                have e1 : w6.drew.cell? ⟨Z, 1, none⟩ = some (.string sy) := b1
                clear c0 c1 c2 c3 b0 b1 k2 hbz HS3 hg3
                generalize w6.drew = w7 at *
                go_wp2_with fail
                refine (HIM.out _ hg4 HS4.out).mono ?_
                rintro _ w8 ⟨rfl, v8, hs8, hg8⟩
                have HS8 := Lib.hid hs8
                have HO8 : Hid ((os ++ rdB (readR f (C.drop M) (T ++ [x]))).take 100 = (outs ++ rdB (readIn f (C.drop i) T (q + 1))).take 100) := by
                  show _ = _
                  rw [HRS2.out, rdB_app, ← List.append_assoc, HOS.out, take_take_app]
                clear hs8
                go_wp2_with fail
                go_roundw
                case rel => exact ⟨q + 1, v8, _, by omega, by go_num, HO8, HS8, hg8⟩
                case measure => simp [intOf]; omega
              · rw [if_neg (by rw [decide_eq_true_eq, hVB]; exact hVp), List.append_nil] at hrs
                have HRS2 := Lib.hid hrs
                clear hrs hv hhd hdd hV hVB hM hlen hy1 HRS HIH hcat HIM
                refine wp_region_held_drew (S := fun W => W.cell? ⟨X, 0, none⟩ = some (.string code) ∧ W.cell? ⟨Z, 1, none⟩ = some (.string sy) ∧ W.cell? ⟨X, 2, none⟩ = some (.slice (some ⟨Y, 0, none⟩) (N + 1) (N + 1)) ∧ W.cell? ⟨Y, M, none⟩ = some (.int .i64 V)) (by kernel_rfl) ⟨c0, b1, c2, k2⟩ (fun hHeld => ?_)
                refine wpAnyH_take (i := 0) (v := ?_) rfl (by kernel_rfl) (by kernel_rfl) (by kernel_rfl) (fun _ _ _ h => h) (Or.inl ⟨by kernel_rfl, ?_⟩) hHeld ?_
                rotate_left
                · intro w hSw
                  (try dsimp only at hSw)
                  obtain ⟨hS0, hS1, hS2, hS3⟩ := hSw
                  go_simp
                  (try with_reducible rfl)
                change wpAnyH _ _ _ _ _ _ _ (Act.put _ (some 40) _) _
                simp only [Act.put, List.setIfInBounds_toArray, List.set_cons_zero, List.set_cons_succ]
                refine wpAnyH_take (i := 1) (v := ?_) rfl (by kernel_rfl) (by kernel_rfl) (by kernel_rfl) (fun _ _ _ h => h) (Or.inl ⟨by kernel_rfl, ?_⟩) hHeld ?_
                rotate_left
                · intro w hSw
                  (try dsimp only at hSw)
                  obtain ⟨hS0, hS1, hS2, hS3⟩ := hSw
                  go_simp
                  (try with_reducible rfl)
                change wpAnyH _ _ _ _ _ _ _ (Act.put _ (some 41) _) _
                simp only [Act.put, List.setIfInBounds_toArray, List.set_cons_zero, List.set_cons_succ]
                refine wpAnyH_take (i := 2) (v := ?_) rfl (by kernel_rfl) (by kernel_rfl) (by kernel_rfl) (fun _ _ _ h => h) (Or.inl ⟨by kernel_rfl, ?_⟩) hHeld ?_
                rotate_left
                · intro w hSw
                  (try dsimp only at hSw)
                  obtain ⟨hS0, hS1, hS2, hS3⟩ := hSw
                  go_simp
                  (try with_reducible rfl)
                change wpAnyH _ _ _ _ _ _ _ (Act.put _ (some 42) _) _
                simp only [Act.put, List.setIfInBounds_toArray, List.set_cons_zero, List.set_cons_succ]
                refine wpAnyH_take (i := 3) (v := ?_) rfl (by kernel_rfl) (by kernel_rfl) (by kernel_rfl) (fun _ _ _ h => h) (Or.inl ⟨by kernel_rfl, ?_⟩) hHeld ?_
                rotate_left
                · intro w hSw
                  (try dsimp only at hSw)
                  obtain ⟨hS0, hS1, hS2, hS3⟩ := hSw
                  go_simp
                  (try with_reducible rfl)
                change wpAnyH _ _ _ _ _ _ _ (Act.put _ (some 43) _) _
                simp only [Act.put, List.setIfInBounds_toArray, List.set_cons_zero, List.set_cons_succ]
                refine wpAnyH_take (i := 4) (v := ?_) rfl (by kernel_rfl) (by kernel_rfl) (by kernel_rfl) (fun _ _ _ h => h) (Or.inl ⟨by kernel_rfl, ?_⟩) hHeld ?_
                rotate_left
                · intro w hSw
                  (try dsimp only at hSw)
                  obtain ⟨hS0, hS1, hS2, hS3⟩ := hSw
                  go_simp
                  (try with_reducible rfl)
                change wpAnyH _ _ _ _ _ _ _ (Act.put _ (some 44) _) _
                simp only [Act.put, List.setIfInBounds_toArray, List.set_cons_zero, List.set_cons_succ]
                refine wpAnyH_take (i := 5) (v := ?_) rfl (by kernel_rfl) (by kernel_rfl) (by kernel_rfl) (fun _ _ _ h => h) (Or.inl ⟨by kernel_rfl, ?_⟩) hHeld ?_
                rotate_left
                · intro w hSw
                  (try dsimp only at hSw)
                  obtain ⟨hS0, hS1, hS2, hS3⟩ := hSw
                  go_simp
                  (try with_reducible rfl)
                change wpAnyH _ _ _ _ _ _ _ (Act.put _ (some 45) _) _
                simp only [Act.put, List.setIfInBounds_toArray, List.set_cons_zero, List.set_cons_succ]
                refine wpAnyH_take (i := 6) (v := ?_) rfl (by kernel_rfl) (by kernel_rfl) (by kernel_rfl) (fun _ _ _ h => h) (Or.inl ⟨by kernel_rfl, ?_⟩) hHeld ?_
                rotate_left
                · intro w hSw
                  (try dsimp only at hSw)
                  obtain ⟨hS0, hS1, hS2, hS3⟩ := hSw
                  go_simp
                  (try with_reducible rfl)
                change wpAnyH _ _ _ _ _ _ _ (Act.put _ (some 46) _) _
                simp only [Act.put, List.setIfInBounds_toArray, List.set_cons_zero, List.set_cons_succ]
                refine wpAnyH_take (i := 7) (v := ?_) rfl (by kernel_rfl) (by kernel_rfl) (by kernel_rfl) (fun _ _ _ h => h) (Or.inl ⟨by kernel_rfl, ?_⟩) hHeld ?_
                rotate_left
                · intro w hSw
                  (try dsimp only at hSw)
                  obtain ⟨hS0, hS1, hS2, hS3⟩ := hSw
                  go_simp
                  (try with_reducible rfl)
                change wpAnyH _ _ _ _ _ _ _ (Act.put _ (some 47) _) _
                simp only [Act.put, List.setIfInBounds_toArray, List.set_cons_zero, List.set_cons_succ]
                refine wpAnyH_ready (rs := [8]) (by kernel_rfl) (by simp) ?_
                refine AllReadyH.cons (o := _) rfl (fun K hK => ?_) AllReadyH.nil
                go_simp
                (go_at_call 113; refine (HHP.out _).mono ?_; rintro _ _ ⟨rfl, rfl⟩)
                refine hK.out _ _ ⟨c0, b1, c2, k2⟩ (fun hHeld8 => ?_)
                clear hK K
                (try simp only [Act.put, List.setIfInBounds_toArray, List.set_cons_zero, List.set_cons_succ])
                refine wpAnyH_take (i := 9) (v := ?_) rfl (by kernel_rfl) (by kernel_rfl) (by kernel_rfl) (fun _ _ _ h => h) (Or.inl ⟨by kernel_rfl, ?_⟩) hHeld8 ?_
                rotate_left
                · intro w hSw
                  (try dsimp only at hSw)
                  obtain ⟨hS0, hS1, hS2, hS3⟩ := hSw
                  go_simp
                  (try with_reducible rfl)
                change wpAnyH _ _ _ _ _ _ _ (Act.put _ (some 49) _) _
                simp only [Act.put, List.setIfInBounds_toArray, List.set_cons_zero, List.set_cons_succ]
                refine wpAnyH_take (i := 10) (v := ?_) rfl (by kernel_rfl) (by kernel_rfl) (by kernel_rfl) (fun _ _ _ h => h) (Or.inl ⟨by kernel_rfl, ?_⟩) hHeld8 ?_
                rotate_left
                · intro w hSw
                  (try dsimp only at hSw)
                  obtain ⟨hS0, hS1, hS2, hS3⟩ := hSw
                  go_simp
                  (try with_reducible rfl)
                change wpAnyH _ _ _ _ _ _ _ (Act.put _ (some 50) _) _
                simp only [Act.put, List.setIfInBounds_toArray, List.set_cons_zero, List.set_cons_succ]
                refine wpAnyH_take (i := 11) (v := ?_) rfl (by kernel_rfl) (by kernel_rfl) (by kernel_rfl) (fun _ _ _ h => h) (Or.inl ⟨by kernel_rfl, ?_⟩) hHeld8 ?_
                rotate_left
                · intro w hSw
                  (try dsimp only at hSw)
                  obtain ⟨hS0, hS1, hS2, hS3⟩ := hSw
                  go_simp
                  (try with_reducible rfl)
                change wpAnyH _ _ _ _ _ _ _ (Act.put _ (some 51) _) _
                simp only [Act.put, List.setIfInBounds_toArray, List.set_cons_zero, List.set_cons_succ]
                refine wpAnyH_take (i := 12) (v := ?_) rfl (by kernel_rfl) (by kernel_rfl) (by kernel_rfl) (fun _ _ _ h => h) (Or.inl ⟨by kernel_rfl, ?_⟩) hHeld8 ?_
                rotate_left
                · intro w hSw
                  (try dsimp only at hSw)
                  obtain ⟨hS0, hS1, hS2, hS3⟩ := hSw
                  go_simp
                  (try with_reducible rfl)
                change wpAnyH _ _ _ _ _ _ _ (Act.put _ (some 52) _) _
                simp only [Act.put, List.setIfInBounds_toArray, List.set_cons_zero, List.set_cons_succ]
                refine wpAnyH_take (i := 13) (v := ?_) rfl (by kernel_rfl) (by kernel_rfl) (by kernel_rfl) (fun _ _ _ h => h) (Or.inl ⟨by kernel_rfl, ?_⟩) hHeld8 ?_
                rotate_left
                · intro w hSw
                  (try dsimp only at hSw)
                  obtain ⟨hS0, hS1, hS2, hS3⟩ := hSw
                  go_simp
                  (try with_reducible rfl)
                change wpAnyH _ _ _ _ _ _ _ (Act.put _ (some 53) _) _
                simp only [Act.put, List.setIfInBounds_toArray, List.set_cons_zero, List.set_cons_succ]
                refine wpAnyH_take (i := 14) (v := ?_) rfl (by kernel_rfl) (by kernel_rfl) (by kernel_rfl) (fun _ _ _ h => h) (Or.inl ⟨by kernel_rfl, ?_⟩) hHeld8 ?_
                rotate_left
                · intro w hSw
                  (try dsimp only at hSw)
                  obtain ⟨hS0, hS1, hS2, hS3⟩ := hSw
                  go_simp
                  (try with_reducible rfl)
                change wpAnyH _ _ _ _ _ _ _ (Act.put _ (some 54) _) _
                simp only [Act.put, List.setIfInBounds_toArray, List.set_cons_zero, List.set_cons_succ]
                refine wpAnyH_take (i := 15) (v := ?_) rfl (by kernel_rfl) (by kernel_rfl) (by kernel_rfl) (fun _ _ _ h => h) (Or.inl ⟨by kernel_rfl, ?_⟩) hHeld8 ?_
                rotate_left
                · intro w hSw
                  (try dsimp only at hSw)
                  obtain ⟨hS0, hS1, hS2, hS3⟩ := hSw
                  go_simp
                  (try with_reducible rfl)
                change wpAnyH _ _ _ _ _ _ _ (Act.put _ (some 55) _) _
                simp only [Act.put, List.setIfInBounds_toArray, List.set_cons_zero, List.set_cons_succ]
                refine wpAnyH_take (i := 16) (v := ?_) rfl (by kernel_rfl) (by kernel_rfl) (by kernel_rfl) (fun _ _ _ h => h) (Or.inl ⟨by kernel_rfl, ?_⟩) hHeld8 ?_
                rotate_left
                · intro w hSw
                  (try dsimp only at hSw)
                  obtain ⟨hS0, hS1, hS2, hS3⟩ := hSw
                  go_simp
                  (try with_reducible rfl)
                change wpAnyH _ _ _ _ _ _ _ (Act.put _ (some 56) _) _
                simp only [Act.put, List.setIfInBounds_toArray, List.set_cons_zero, List.set_cons_succ]
                refine wpAnyH_take (i := 17) (v := ?_) rfl (by kernel_rfl) (by kernel_rfl) (by kernel_rfl) (fun _ _ _ h => h) (Or.inl ⟨by kernel_rfl, ?_⟩) hHeld8 ?_
                rotate_left
                · intro w hSw
                  (try dsimp only at hSw)
                  obtain ⟨hS0, hS1, hS2, hS3⟩ := hSw
                  go_simp
                  (try with_reducible rfl)
                change wpAnyH _ _ _ _ _ _ _ (Act.put _ (some 57) _) _
                simp only [Act.put, List.setIfInBounds_toArray, List.set_cons_zero, List.set_cons_succ]
                refine wpAnyH_take (i := 18) (v := ?_) rfl (by kernel_rfl) (by kernel_rfl) (by kernel_rfl) (fun _ _ _ h => h) (Or.inl ⟨by kernel_rfl, ?_⟩) hHeld8 ?_
                rotate_left
                · intro w hSw
                  (try dsimp only at hSw)
                  obtain ⟨hS0, hS1, hS2, hS3⟩ := hSw
                  go_simp
                  (try with_reducible rfl)
                change wpAnyH _ _ _ _ _ _ _ (Act.put _ (some 58) _) _
                simp only [Act.put, List.setIfInBounds_toArray, List.set_cons_zero, List.set_cons_succ]
                refine wpAnyH_take (i := 19) (v := ?_) rfl (by kernel_rfl) (by kernel_rfl) (by kernel_rfl) (fun _ _ _ h => h) (Or.inl ⟨by kernel_rfl, ?_⟩) hHeld8 ?_
                rotate_left
                · intro w hSw
                  (try dsimp only at hSw)
                  obtain ⟨hS0, hS1, hS2, hS3⟩ := hSw
                  go_simp
                  (try with_reducible rfl)
                change wpAnyH _ _ _ _ _ _ _ (Act.put _ (some 59) _) _
                simp only [Act.put, List.setIfInBounds_toArray, List.set_cons_zero, List.set_cons_succ]
                refine wpAnyH_take (i := 20) (v := ?_) rfl (by kernel_rfl) (by kernel_rfl) (by kernel_rfl) (fun _ _ _ h => h) (Or.inl ⟨by kernel_rfl, ?_⟩) hHeld8 ?_
                rotate_left
                · intro w hSw
                  (try dsimp only at hSw)
                  obtain ⟨hS0, hS1, hS2, hS3⟩ := hSw
                  go_simp
                  (try with_reducible rfl)
                change wpAnyH _ _ _ _ _ _ _ (Act.put _ (some 60) _) _
                simp only [Act.put, List.setIfInBounds_toArray, List.set_cons_zero, List.set_cons_succ]
                refine wpAnyH_take (i := 21) (v := ?_) rfl (by kernel_rfl) (by kernel_rfl) (by kernel_rfl) (fun _ _ _ h => h) (Or.inl ⟨by kernel_rfl, ?_⟩) hHeld8 ?_
                rotate_left
                · intro w hSw
                  (try dsimp only at hSw)
                  obtain ⟨hS0, hS1, hS2, hS3⟩ := hSw
                  go_simp
                  (try with_reducible rfl)
                change wpAnyH _ _ _ _ _ _ _ (Act.put _ (some 61) _) _
                simp only [Act.put, List.setIfInBounds_toArray, List.set_cons_zero, List.set_cons_succ]
                refine wpAnyH_take (i := 22) (v := ?_) rfl (by kernel_rfl) (by kernel_rfl) (by kernel_rfl) (fun _ _ _ h => h) (Or.inl ⟨by kernel_rfl, ?_⟩) hHeld8 ?_
                rotate_left
                · intro w hSw
                  (try dsimp only at hSw)
                  obtain ⟨hS0, hS1, hS2, hS3⟩ := hSw
                  go_simp
                  (try with_reducible rfl)
                change wpAnyH _ _ _ _ _ _ _ (Act.put _ (some 62) _) _
                simp only [Act.put, List.setIfInBounds_toArray, List.set_cons_zero, List.set_cons_succ]
                refine wpAnyH_done (by kernel_rfl) ?_ _
                have HS4 := Lib.hid (HS3.out.grown (gr_drew (gr_refl w6 none)))
                have HO4 : Hid (os = (outs ++ rdB (readIn f (C.drop i) T (q + 1))).take 100) := by
                  show _ = _
                  rw [HRS2.out]; exact HOS.out
                go_wp2_with fail
                go_roundw
                case rel => exact ⟨q + 1, vq, os, by omega, by go_num, HO4, HS4, gr_drew hg3⟩
                case measure => simp [intOf]; omega
          · have hkq : ¬ (q : Int) < 40 := by omega
            obtain rfl : q = 40 := by omega
            have hos := HOS.out
            rw [HALL.out] at hos
            have HOS2 := Lib.hid hos
            clear hos
            go_wp2_with fail
            (first | go_end0 | ((try simp only [Exit.inBlock, Exit.then]); refine bodyPost_ret (results_none rfl _ _ _) rfl ?_))
            have hA : SplR w0.heap.size X gs cs Y N code L wx vq ((outs ++ rdB R1).take 100) := by rw [← HOS2.out]; exact HSQ.out
            first | exact ⟨rfl, ⟨vq, hA⟩, hgq⟩ | exact ⟨rfl, vq, hA, hgq⟩
      · obtain rfl : i = N := by omega
        exact HEND.out (f + 1) said W vo outs hg h hl
    · rw [rd_full (by omega)]
      exact read_full w0 X gs cs Y N i code said L W vo outs hg h (by omega)
set_option maxRecDepth 100000 in
set_option maxHeartbeats 8000000 in
theorem split_ok (b : Nat) (code : ByteArray) (w : World) (hgl : Gl b w) (h1 : isElB code.data.toList = true) (hc : code.size ≤ 40) (hw : ∀ j, (waysR code.data.toList).getD j 0 ≤ 1000000000000) :
    Calls Tryz.prog 37 #[.string code] w fun e w' => ∃ v, e = .returned (.tuple #[v, .int .i64 ((waysR code.data.toList).getD 0 0 : Nat), .int .i64 0]) ∧ StrsFrom w.heap.size w' v (rdB ((readR code.size code.data.toList []).take 100)) ∧ w.grownBy w' none := by
  have HGL := Lib.hid hgl
  have HEL := Lib.hid (isElements_any code w (by omega))
  rw [h1] at HEL
  have hc1 : 1 ≤ code.size := by
    have hl : code.data.toList.length = code.size := by simp
    unfold isElB at h1
    rw [Bool.and_eq_true] at h1
    cases hd : code.data.toList with
    | nil => rw [hd] at h1; simp at h1
    | cons x r => rw [hd] at hl; simp at hl; omega
  have h40 : ¬ (40 : Int) < (code.size : Int) := by omega
  have HW := Lib.hid hw
  have HC1 := Lib.hid hc1
  have HC40 := Lib.hid hc
  clear hgl h1 hc1 hc hw
  go_enter Tryz.func37, Tryz.ntmps37
  go_wp2_with fail
  refine HEL.out.mono ?_
  rintro _ w1 ⟨rfl, hg1⟩
  go_wp2_with fail
  refine (codes_any b _ (HGL.out.quiet hg1)).mono ?_
  rintro _ w2 ⟨v2, rfl, hv2, hg2⟩
  have hG2 := gr_trans hg1 hg2
  obtain ⟨A2, cs, rfl, hl2, hA2⟩ := hv2.shape
  obtain ⟨gs, rfl, hgs1, hgs2⟩ := hA2 (by rw [codeT_len]; omega)
  have hbX := Blk.new w2 109 #[.string code, .slice (some ⟨gs, 0, none⟩) codeT.length cs, .slice none 0 0, .slice none 0 0]
  have hGX := World.grownBy_alloc w2 (.cells #[.string code, .slice (some ⟨gs, 0, none⟩) codeT.length cs, .slice none 0 0, .slice none 0 0] 109) none
  have hv3 := hv2.grown hGX
  have hG3 := gr_trans hG2 hGX
  have hszX := hG2.size
  have hs12 := hg1.size
  have hgX : gs ≠ w2.heap.size := by omega
  clear hA2 hv2 hg1 hg2 hGX
  go_upto_region 4 with fail
  generalize w2.alloc (.cells #[.string code, .slice (some ⟨gs, 0, none⟩) codeT.length cs, .slice none 0 0, .slice none 0 0] 109) = w3 at *
  obtain ⟨X, hX⟩ : ∃ X, w2.heap.size = X := ⟨_, rfl⟩
  rw [hX] at hbX hszX hgX ⊢
  clear hX
  obtain ⟨c0, c1, c2, c3⟩ := hbX.cells4s
  have HSO := Lib.hid (sortSg_own w1.heap.size gs cs w3 hv3)
  clear hv3
  go_wp2_with fail
  refine HSO.out.mono ?_
  rintro _ w4 ⟨rfl, hv4, hg4⟩
  have hb4 := hbX.grown hg4 (by intro e; injection e with e; exact hgX e.symm)
  have hG4 : w.grownBy w4 none := gr_grown hG3 hg4 (fun g e => by injection e with e; exact .inr (by omega))
  rw [show codeT.length = signT.length by rw [codeT_len, signT_len]] at hb4 hv4
  have HCT := Lib.hid (count_any w1.heap.size X gs cs code w4 HC1.out HC40.out HW.out hb4 hv4 hgX)
  clear c0 c1 c2 c3 hbX hb4 hv4 hg4 hG3
  go_wp2_with fail
  refine HCT.out.mono ?_
  rintro _ w5 ⟨rfl, L, hb5, hL5, hwi5, hv5, hg5⟩
  have hG5 : w.grownBy w5 none := gr_grown hG4 hg5 (fun g e => by injection e with e; exact .inr (by omega))
  have hsz4 := hG4.size
  obtain ⟨Y, hY⟩ : ∃ Y, w4.heap.size = Y := ⟨_, rfl⟩
  rw [hY] at hb5 hL5 hsz4
  have HSP : Hid (SplR w.heap.size X gs cs Y code.size code L w5 (.slice none 0 0) []) := ⟨hb5, hv5.low hs12, ownsRow_low hL5 hsz4, StrsFrom.nil _ _⟩
  have HWI := Lib.hid hwi5
  have HRD := Lib.hid (read_all w X gs cs Y code.size code code.data.toList L rfl rfl HC40.out hwi5 hszX code.size 0 ⟨#[]⟩ w5 _ [] hG5 HSP.out (Nat.zero_le _) (Nat.le_refl _) (Nat.le_refl _) (Nat.zero_le _))
  clear hb5 hL5 hwi5 hv5 hg5 hG4 HCT hY
  go_wp2_with fail
  refine HRD.out.mono ?_
  rintro _ w6 ⟨rfl, v6, hs6, hg6⟩
  simp only [List.drop_zero, List.nil_append] at hs6
  obtain ⟨A6, c6, rfl, hl6, _⟩ := hs6.out.shape
  obtain ⟨c0, c1, c2, c3⟩ := hs6.blk.cells4s
  have k0 := hs6.way.at_ 0 (by omega)
  rw [HWI.out.1 0 (Nat.le_refl _) (Nat.zero_le _)] at k0
  have HS6 := Lib.hid hs6
  have hN0 : 0 < code.size + 1 := by omega
  have hN0i : (0 : Int) < (code.size : Int) + 1 := by omega
  have hw0 : IntKind.i64.wrap (0 : Int) = 0 := rfl
  obtain ⟨K, hK⟩ : ∃ K : Nat, (waysR code.data.toList).getD 0 0 = K := ⟨_, rfl⟩
  rw [hK] at k0
  have HK := Lib.hid hK
  obtain ⟨O, hO⟩ : ∃ O, ((rdB (readR code.size code.data.toList [])).take 100) = O := ⟨_, rfl⟩
  rw [hO] at HS6 c3 hl6
  have HO : Hid (rdB ((readR code.size code.data.toList []).take 100) = O) := by
    show _ = _
    rw [← hO]
    unfold rdB
    rw [List.map_take]
  clear hs6 hK hO HRD HSO HSP
  go_wp2_with fail
  refine wp_region_held_drew (S := fun W => W.cell? ⟨X, 3, none⟩ = some (.slice A6 O.length c6) ∧ W.cell? ⟨X, 2, none⟩ = some (.slice (some ⟨Y, 0, none⟩) (code.size + 1) (code.size + 1)) ∧ W.cell? ⟨Y, 0, none⟩ = some (.int .i64 (K : Nat))) (by kernel_rfl) ⟨c3, c2, k0⟩ (fun hHeld => ?_)
  refine wpAnyH_take (i := 0) (v := ?_) rfl (by kernel_rfl) (by kernel_rfl) (by kernel_rfl) (fun _ _ _ h => h) (Or.inl ⟨by kernel_rfl, ?_⟩) hHeld ?_
  rotate_left
  · intro w hSw
    (try dsimp only at hSw)
    obtain ⟨hS0, hS1, hS2⟩ := hSw
    go_simp
    (try with_reducible rfl)
  change wpAnyH _ _ _ _ _ _ _ (Act.put _ (some 27) _) _
  simp only [Act.put, List.setIfInBounds_toArray, List.set_cons_zero, List.set_cons_succ]
  refine wpAnyH_take (i := 1) (v := ?_) rfl (by kernel_rfl) (by kernel_rfl) (by kernel_rfl) (fun _ _ _ h => h) (Or.inl ⟨by kernel_rfl, ?_⟩) hHeld ?_
  rotate_left
  · intro w hSw
    (try dsimp only at hSw)
    obtain ⟨hS0, hS1, hS2⟩ := hSw
    go_simp
    (try with_reducible rfl)
  change wpAnyH _ _ _ _ _ _ _ (Act.put _ (some 28) _) _
  simp only [Act.put, List.setIfInBounds_toArray, List.set_cons_zero, List.set_cons_succ]
  refine wpAnyH_take (i := 2) (v := ?_) rfl (by kernel_rfl) (by kernel_rfl) (by kernel_rfl) (fun _ _ _ h => h) (Or.inl ⟨by kernel_rfl, ?_⟩) hHeld ?_
  rotate_left
  · intro w hSw
    (try dsimp only at hSw)
    obtain ⟨hS0, hS1, hS2⟩ := hSw
    go_simp
    (try with_reducible rfl)
  change wpAnyH _ _ _ _ _ _ _ (Act.put _ (some 29) _) _
  simp only [Act.put, List.setIfInBounds_toArray, List.set_cons_zero, List.set_cons_succ]
  refine wpAnyH_take (i := 3) (v := ?_) rfl (by kernel_rfl) (by kernel_rfl) (by kernel_rfl) (fun _ _ _ h => h) (Or.inl ⟨by kernel_rfl, ?_⟩) hHeld ?_
  rotate_left
  · intro w hSw
    (try dsimp only at hSw)
    obtain ⟨hS0, hS1, hS2⟩ := hSw
    go_simp
    (try with_reducible rfl)
  change wpAnyH _ _ _ _ _ _ _ (Act.put _ (some 30) _) _
  simp only [Act.put, List.setIfInBounds_toArray, List.set_cons_zero, List.set_cons_succ]
  refine wpAnyH_take (i := 4) (v := ?_) rfl (by kernel_rfl) (by kernel_rfl) (by kernel_rfl) (fun _ _ _ h => h) (Or.inl ⟨by kernel_rfl, ?_⟩) hHeld ?_
  rotate_left
  · intro w hSw
    (try dsimp only at hSw)
    obtain ⟨hS0, hS1, hS2⟩ := hSw
    go_simp
    (try with_reducible rfl)
  change wpAnyH _ _ _ _ _ _ _ (Act.put _ (some 31) _) _
  simp only [Act.put, List.setIfInBounds_toArray, List.set_cons_zero, List.set_cons_succ]
  refine wpAnyH_take (i := 5) (v := ?_) rfl (by kernel_rfl) (by kernel_rfl) (by kernel_rfl) (fun _ _ _ h => h) (Or.inl ⟨by kernel_rfl, ?_⟩) hHeld ?_
  rotate_left
  · intro w hSw
    (try dsimp only at hSw)
    obtain ⟨hS0, hS1, hS2⟩ := hSw
    go_simp
    (try with_reducible rfl)
  change wpAnyH _ _ _ _ _ _ _ (Act.put _ (some 32) _) _
  simp only [Act.put, List.setIfInBounds_toArray, List.set_cons_zero, List.set_cons_succ]
  refine wpAnyH_take (i := 6) (v := ?_) rfl (by kernel_rfl) (by kernel_rfl) (by kernel_rfl) (fun _ _ _ h => h) (Or.inl ⟨by kernel_rfl, ?_⟩) hHeld ?_
  rotate_left
  · intro w hSw
    (try dsimp only at hSw)
    obtain ⟨hS0, hS1, hS2⟩ := hSw
    go_simp
    (try with_reducible rfl)
  change wpAnyH _ _ _ _ _ _ _ (Act.put _ (some 33) _) _
  simp only [Act.put, List.setIfInBounds_toArray, List.set_cons_zero, List.set_cons_succ]
  refine wpAnyH_take (i := 7) (v := ?_) rfl (by kernel_rfl) (by kernel_rfl) (by kernel_rfl) (fun _ _ _ h => h) (Or.inl ⟨by kernel_rfl, ?_⟩) hHeld ?_
  rotate_left
  · intro w hSw
    (try dsimp only at hSw)
    obtain ⟨hS0, hS1, hS2⟩ := hSw
    go_simp
    (try with_reducible rfl)
  change wpAnyH _ _ _ _ _ _ _ (Act.put _ (some 34) _) _
  simp only [Act.put, List.setIfInBounds_toArray, List.set_cons_zero, List.set_cons_succ]
  refine wpAnyH_take (i := 8) (v := ?_) rfl (by kernel_rfl) (by kernel_rfl) (by kernel_rfl) (fun _ _ _ h => h) (Or.inl ⟨by kernel_rfl, ?_⟩) hHeld ?_
  rotate_left
  · intro w hSw
    (try dsimp only at hSw)
    obtain ⟨hS0, hS1, hS2⟩ := hSw
    go_simp
    (try with_reducible rfl)
  change wpAnyH _ _ _ _ _ _ _ (Act.put _ (some 35) _) _
  simp only [Act.put, List.setIfInBounds_toArray, List.set_cons_zero, List.set_cons_succ]
  refine wpAnyH_take (i := 9) (v := ?_) rfl (by kernel_rfl) (by kernel_rfl) (by kernel_rfl) (fun _ _ _ h => h) (Or.inl ⟨by kernel_rfl, ?_⟩) hHeld ?_
  rotate_left
  · intro w hSw
    (try dsimp only at hSw)
    obtain ⟨hS0, hS1, hS2⟩ := hSw
    go_simp
    (try with_reducible rfl)
  change wpAnyH _ _ _ _ _ _ _ (Act.put _ (some 36) _) _
  simp only [Act.put, List.setIfInBounds_toArray, List.set_cons_zero, List.set_cons_succ]
  refine wpAnyH_take (i := 10) (v := ?_) rfl (by kernel_rfl) (by kernel_rfl) (by kernel_rfl) (fun _ _ _ h => h) (Or.inl ⟨by kernel_rfl, ?_⟩) hHeld ?_
  rotate_left
  · intro w hSw
    (try dsimp only at hSw)
    obtain ⟨hS0, hS1, hS2⟩ := hSw
    go_simp
    (try with_reducible rfl)
  change wpAnyH _ _ _ _ _ _ _ (Act.put _ (some 2) _) _
  simp only [Act.put, List.setIfInBounds_toArray, List.set_cons_zero, List.set_cons_succ]
  refine wpAnyH_take (i := 11) (v := ?_) rfl (by kernel_rfl) (by kernel_rfl) (by kernel_rfl) (fun _ _ _ h => h) (Or.inl ⟨by kernel_rfl, ?_⟩) hHeld ?_
  rotate_left
  · intro w hSw
    (try dsimp only at hSw)
    obtain ⟨hS0, hS1, hS2⟩ := hSw
    go_simp
    (try with_reducible rfl)
  change wpAnyH _ _ _ _ _ _ _ (Act.put _ (some 3) _) _
  simp only [Act.put, List.setIfInBounds_toArray, List.set_cons_zero, List.set_cons_succ]
  refine wpAnyH_take (i := 12) (v := ?_) rfl (by kernel_rfl) (by kernel_rfl) (by kernel_rfl) (fun _ _ _ h => h) (Or.inl ⟨by kernel_rfl, ?_⟩) hHeld ?_
  rotate_left
  · intro w hSw
    (try dsimp only at hSw)
    obtain ⟨hS0, hS1, hS2⟩ := hSw
    go_simp
    (try with_reducible rfl)
  change wpAnyH _ _ _ _ _ _ _ (Act.put _ (some 4) _) _
  simp only [Act.put, List.setIfInBounds_toArray, List.set_cons_zero, List.set_cons_succ]
  refine wpAnyH_done (by kernel_rfl) ?_ _
  go_wp2_with fail
  go_ret3
  refine ⟨_, by rw [HK.out] <;> rfl, ?_, gr_drew hg6⟩
  rw [HO.out]
  exact (HS6.out.grown (gr_drew (gr_refl w6 none))).out
end Go.Proofs.YtlodmkdhlmineaaGreatDoor
