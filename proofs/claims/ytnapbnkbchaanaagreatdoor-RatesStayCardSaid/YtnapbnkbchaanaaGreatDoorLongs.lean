/- The walk over rate.longs. Condition: few shifts without error; a window within a contest. -/
import Derived.Test.YtnapbnkbchaanaaGreatDoorShiftWho
namespace Go.Proofs.YtnapbnkbchaanaaGreatDoor
open Go.RowKit
set_option linter.unusedVariables false
set_option linter.unusedSimpArgs false

/-- When a shift ends; how long one operates in it, in a contest. -/
def nextS (l : List (Int × ByteArray)) (k : Nat) : Int := match l[k + 1]? with
  | some p => p.1
  | none => 345686400000
def overS (l : List (Int × ByteArray)) (a z : Int) (k : Nat) (x : Int) : Int := min (nextS l k) z - max x a
def longsTo (l : List (Int × ByteArray)) (a z : Int) : Nat → List (List UInt8 × Int)
  | 0 => []
  | k + 1 => match l[k]? with
    | none => longsTo l a z k
    | some p => if 0 < overS l a z k p.1 ∧ p.2.toList.isEmpty = false then addS (longsTo l a z k) p.2.data.toList (overS l a z k p.1) else longsTo l a z k
theorem longsTo_bd (l : List (Int × ByteArray)) (a z : Int) (ha : 0 ≤ a) (hz : z ≤ 345686400000) (hp : ∀ p ∈ l, 0 ≤ p.1 ∧ p.1 ≤ 345686399999) (k : Nat) :
    (∀ p ∈ longsTo l a z k, 0 ≤ p.2 ∧ p.2 ≤ 345686400000 * (k : Int)) ∧ (longsTo l a z k).length ≤ k := by
  induction k with
  | zero => exact ⟨by simp [longsTo], by simp [longsTo]⟩
  | succ k ih =>
    unfold longsTo
    split
    · exact ⟨fun p h => by have := ih.1 p h; omega, by omega⟩
    · rename_i p hpk
      have hm : p ∈ l := List.mem_of_getElem? hpk
      have h1 := hp p hm
      split
      · rename_i hc
        have ho : overS l a z k p.1 ≤ 345686400000 := by unfold overS; omega
        have h2 := addS_bd (d := overS l a z k p.1) (by omega) ih.1 (by omega) p.2.data.toList
        have h3 := addS_len (longsTo l a z k) p.2.data.toList (overS l a z k p.1)
        exact ⟨fun q hq => by have := h2 q hq; omega, by omega⟩
      · exact ⟨fun p h => by have := ih.1 p h; omega, by omega⟩

set_option maxRecDepth 100000 in
set_option maxHeartbeats 4000000 in
theorem longs_ok (base : Nat) (v : Value) (l : List (Int × ByteArray)) (a z : Int) (w : World) (hl : ShFrom base w v l) (F : ShFew l) (O : ShOk l) (ha : 0 ≤ a) (hz0 : 0 ≤ z) (ha1 : a ≤ 345686400000) (hz : z ≤ 345686400000) :
    Calls Tryz.prog 111 #[v, .agg #[.int .i64 a, .int .i64 z]] w fun r w' => ∃ bm, r = .returned (.map (some bm)) ∧ MapS w' bm l.length (longsTo l a z l.length) ∧ w.grownBy w' none ∧ w.heap.size < bm := by
  obtain ⟨A, c, rfl, hlen, hA⟩ := hl.shape
  have h6 := F.len
  have HF := Lib.hid F
  have HO := Lib.hid O
  have hx := (Blk.new w 71 #[.int .i64 a, .int .i64 z]).alloc (.map #[] 0)
  have hM := MapS.made (w.alloc (.cells #[.int .i64 a, .int .i64 z] 71))
  have hG := gr_alloc (World.grownBy_alloc w (.cells #[.int .i64 a, .int .i64 z] 71) none) (.map #[] 0)
  have HL0 := Lib.hid hl
  have hmm := @run_makeMap Tryz.prog
  have HBD := Lib.hid (longsTo_bd l a z ha hz O.mom)
  clear hl F O
  rw [World.size_alloc] at hM
  go_enter Tryz.func111, Tryz.ntmps111
  go_wp2_with fail
  generalize (w.alloc (.cells #[.int .i64 a, .int .i64 z] 71)).alloc (.map #[] 0) = W at *
  go_loopw [13] (fun i wr => ∃ k : Nat, k ≤ l.length ∧ i = .int .i64 k ∧ MapS wr (w.heap.size + 1) k (longsTo l a z k) ∧ W.grownBy wr (some (w.heap.size + 1))) (fun i _ => l.length - (intOf i).toNat)
  case atStart => exact ⟨0, by omega, rfl, hM, gr_refl _ _⟩
  case round =>
    obtain ⟨k, hk, rfl, hMr, hgr⟩ := hrel
    have hwr : w.grownBy wr none := gr_grown hG hgr (fun g e => by injection e with e; exact .inr (by omega))
    have HLr := Lib.hid (HL0.out.grown hwr)
    have hxr := hx.grown hgr (by simp)
    by_cases hlt : k < l.length
    · obtain ⟨g, rfl, hg0, hg1⟩ := hA (by omega)
      have hkl : (k : Int) < (l.length : Int) := by omega
      obtain ⟨c0, c1⟩ := HLr.out.at1 k hlt
      have hmom := HO.out.mom _ (List.getElem_mem hlt)
      have hstr := HF.out.str _ (List.getElem_mem hlt)
      have hnx : (k + 1 < l.length ∧ wr.cell? ⟨g, (k + 1) * 2, none⟩ = some (.int .i64 (nextS l k))) ∨ (¬ k + 1 < l.length ∧ nextS l k = 345686400000) := by
        by_cases h1 : k + 1 < l.length
        · refine .inl ⟨h1, ?_⟩
          rw [(HLr.out.at1 (k + 1) h1).1]
          simp [nextS, h1]
        · exact .inr ⟨h1, by simp [nextS, h1]⟩
      have hnb : 0 ≤ nextS l k ∧ nextS l k ≤ 345686400000 := by
        unfold nextS
        split
        · rename_i q hq
          have := HO.out.mom q (List.mem_of_getElem? hq)
          omega
        · omega
      have HS : Hid (longsTo l a z (k + 1) = if 0 < overS l a z k l[k].1 ∧ l[k].2.toList.isEmpty = false then addS (longsTo l a z k) l[k].2.data.toList (overS l a z k l[k].1) else longsTo l a z k) := by
        show _ = _
        conv => lhs; unfold longsTo
        rw [List.getElem?_eq_getElem hlt]
      have HOV : Hid (overS l a z k l[k].1 = min (nextS l k) z - max l[k].1 a) := rfl
      have hbd := HBD.out k
      obtain ⟨x, hxx⟩ : ∃ x, l[k].1 = x := ⟨_, rfl⟩
      obtain ⟨who, hww⟩ : ∃ y, l[k].2 = y := ⟨_, rfl⟩
      rw [hxx] at c0 HS hmom HOV
      rw [hww] at c1 HS hstr
      generalize nextS l k = nx at *
      obtain ⟨N, hN⟩ : ∃ N, overS l a z k x = N := ⟨_, rfl⟩
      rw [hN] at HS HOV
      have hov : min nx z - max x a = N := HOV.out.symm
      have hNb : N ≤ 345686400000 := by omega
      have hNb0 : -345686400000 ≤ N := by omega
      have hvb := valS_bd (l := longsTo l a z k) (B := 345686400000 * (k : Int)) (by omega) hbd.1 who.data.toList
      have hB := Blk.new wr 89 #[.int .i64 x, .string who]
      have hM2 := hMr.quiet (World.grownBy_alloc wr (.cells #[.int .i64 x, .string who] 89) none)
      have hx2 := hxr.alloc (.cells #[.int .i64 x, .string who] 89)
      have hG2 := gr_alloc hgr (.cells #[.int .i64 x, .string who] 89)
      have hlook := hM2.look who (by omega)
      have HM2 := Lib.hid hM2
      have hmL := hM2.lt
      obtain ⟨x0, x1⟩ := hx2.cells2
      obtain ⟨b0, b1⟩ := hB.cells2
      generalize hV : valS (longsTo l a z k) who.data.toList = V at *
      have HV := Lib.hid hV
      generalize longsTo l a z k = LK at *
      have HS1 : Hid (¬ 0 < N → longsTo l a z (k + 1) = LK) := fun h => by rw [HS.out, if_neg (by omega)]
      have HS2 : Hid (who.toList.isEmpty = true → longsTo l a z (k + 1) = LK) := fun h => by rw [HS.out, if_neg (by simp [h])]
      have HS3 : Hid (0 < N → who.toList.isEmpty = false → longsTo l a z (k + 1) = addS LK who.data.toList N) := fun h h2 => by rw [HS.out, if_pos ⟨h, h2⟩]
      clear hxx hww hN hbd hM2 hMr hxr hV
      rcases hnx with ⟨h1, cn⟩ | ⟨h1, h2⟩
      · have h1' : (k : Int) + 1 < (l.length : Int) := by omega
        have cn2 : (wr.alloc (.cells #[.int .i64 x, .string who] 89)).cell? ⟨g, (k + 1) * 2, none⟩ = some (.int .i64 nx) := (World.cell?_alloc_lt wr _ _ (World.block_lt_of_cell? wr _ cn)).trans cn
        by_cases hNp : 0 < N
        · rcases he : who.toList.isEmpty
          · have h3 := HS3.out hNp he
            have HS4 := Lib.hid h3
            clear h3
            go_wp2_with (refine wpList_mapS _ rfl _ _ _ rfl (w.heap.size + 1) k LK who N rfl rfl (by show _ = Value.int .i64 _; rw [HV.out]; rfl) HM2.out (by omega) (by omega) (by rw [HV.out]; exact i64_wf (by omega) (by omega)) ?_; intro w5 hM5 hg5)
            have hG5 : W.grownBy w5 (some (w.heap.size + 1)) := gr_trans hG2 hg5
            go_wp2_with fail
            go_roundw
            case rel => exact ⟨k + 1, by omega, by go_num, by rw [HS4.out]; exact hM5, hG5⟩
            case measure => simp [intOf]; omega
          · have h3 := HS2.out he
            have HS4 := Lib.hid h3
            have hn : who.toList = [] := by simpa using he
            clear h3 he
            go_wp2_with fail
            go_roundw
            case rel => exact ⟨k + 1, by omega, by go_num, by rw [HS4.out]; exact MapS.mono HM2.out, hG2⟩
            case measure => simp [intOf]; omega
        · have h3 := HS1.out hNp
          have HS4 := Lib.hid h3
          clear h3
          go_wp2_with fail
          go_roundw
          case rel => exact ⟨k + 1, by omega, by go_num, by rw [HS4.out]; exact MapS.mono HM2.out, hG2⟩
          case measure => simp [intOf]; omega
      · have h1' : ¬ (k : Int) + 1 < (l.length : Int) := by omega
        subst h2
        by_cases hNp : 0 < N
        · rcases he : who.toList.isEmpty
          · have h3 := HS3.out hNp he
            have HS4 := Lib.hid h3
            clear h3
            go_wp2_with (refine wpList_mapS _ rfl _ _ _ rfl (w.heap.size + 1) k LK who N rfl rfl (by show _ = Value.int .i64 _; rw [HV.out]; rfl) HM2.out (by omega) (by omega) (by rw [HV.out]; exact i64_wf (by omega) (by omega)) ?_; intro w5 hM5 hg5)
            have hG5 : W.grownBy w5 (some (w.heap.size + 1)) := gr_trans hG2 hg5
            go_wp2_with fail
            go_roundw
            case rel => exact ⟨k + 1, by omega, by go_num, by rw [HS4.out]; exact hM5, hG5⟩
            case measure => simp [intOf]; omega
          · have h3 := HS2.out he
            have HS4 := Lib.hid h3
            have hn : who.toList = [] := by simpa using he
            clear h3 he
            go_wp2_with fail
            go_roundw
            case rel => exact ⟨k + 1, by omega, by go_num, by rw [HS4.out]; exact MapS.mono HM2.out, hG2⟩
            case measure => simp [intOf]; omega
        · have h3 := HS1.out hNp
          have HS4 := Lib.hid h3
          clear h3
          go_wp2_with fail
          go_roundw
          case rel => exact ⟨k + 1, by omega, by go_num, by rw [HS4.out]; exact MapS.mono HM2.out, hG2⟩
          case measure => simp [intOf]; omega
    · have hkl : ¬ (k : Int) < (l.length : Int) := by omega
      obtain rfl : k = l.length := by omega
      go_wp2_with fail
      go_ret
      exact ⟨_, rfl, hMr, hwr, by omega⟩
end Go.Proofs.YtnapbnkbchaanaaGreatDoor
