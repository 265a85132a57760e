/- The walk over key.Codes: the forty signs with their codes, in new memory. Condition: asciiSpace is Go's own table. -/
import Derived.Test.YtjhklpffmfdkbaaGreatDoorKeyPlain
import Derived.Test.YtjhklpffmfdkbaaGreatDoorGlob
import Derived.Deep.AppendLies
import Derived.Deep.RegionHeld3
namespace Go.Proofs.YtjhklpffmfdkbaaGreatDoor
open Go.RowKit
set_option linter.unusedVariables false

theorem fields_tab (s : ByteArray) (w : World) (h : tabOK s = true) (hs : Lib.TabIs Tryz.prog w "strings.asciiSpace" .u8 Lib.asciiSpaceTab) :
    Calls Tryz.prog 137 #[.string s] w fun e w' => e = .returned (.slice (some ⟨w.heap.size, 0, none⟩) 80 80) ∧ w' = w.alloc (.cells (wdCells codeT).toArray 9) := by
  obtain ⟨h1, h2, h3⟩ := tabOK_is h
  refine (Tryz.strings_Fields s w h1 h2 hs).mono ?_
  rintro e w' ⟨he, hw⟩
  rw [h3] at he hw
  rw [wdCells_of] at hw
  exact ⟨he, hw⟩

def SgnPost (l : List (UInt8 × List UInt8)) (w : World) (e : Ending) (w' : World) : Prop := ∃ v, e = .returned v ∧ SgnFrom w.heap.size w' v l ∧ w.grownBy w' none

set_option maxRecDepth 100000 in
set_option maxHeartbeats 2000000 in
theorem codes_any (b : Nat) (w : World) (hgl : Gl b w) :
    Calls Tryz.prog 117 #[] w (SgnPost codeT w) := by
  have HGL := Lib.hid hgl
  clear hgl
  obtain ⟨i0, hi, hz0, hz1, hz2⟩ := info_parts sgnInfo
  go_enter Tryz.func117, Tryz.ntmps117
  go_wp2_with fail
  refine (fields_tab _ _ (by kernel_rfl) HGL.out.sp).mono ?_
  rintro _ w1 ⟨rfl, hw1⟩
  have hG1 : w.grownBy w1 none := by rw [hw1]; exact World.grownBy_alloc w _ none
  have hW1 : Blk w1 w.heap.size 9 (wdCells codeT).toArray := by rw [hw1]; exact Blk.new _ _ _
  have HW1 := Lib.hid hw1
  clear hw1
  go_wp2_with fail
  go_loopw [2, 3] (fun o i wr => ∃ k j : Nat, k ≤ 40 ∧ Hid (j = k * 2) ∧ j ≤ 80 ∧ i = .int .i64 j ∧ SgnFrom w1.heap.size wr o (codeT.take k) ∧ w1.grownBy wr none) (fun _ i _ => 82 - (intOf i).toNat)
  case atStart => exact ⟨0, 0, by omega, rfl, by omega, rfl, SgnFrom.nil _ _, gr_refl _ _⟩
  case round =>
    obtain ⟨k, j, hk, HJ, hj, rfl, hown, hgr⟩ := hrel
    have hlen : (codeT.take k).length = k := by rw [List.length_take, codeT_len]; omega
    have hown1 : wr.ownsRow w1.heap.size 155 2 u2 k (wdCells (codeT.take k)) := by
      have h := hown
      unfold SgnFrom at h
      rwa [hlen] at h
    clear hown
    obtain ⟨A2, c2, rfl, hk9, hA2⟩ := ownsRow_shape hown1
    by_cases hlt : k < 40
    · have hkl : k < codeT.length := by rw [codeT_len]; exact hlt
      have hat1 := wdCells_at codeT k hkl
      have htk : codeT.take (k + 1) = codeT.take k ++ [(codeT[k].1, codeT[k].2)] := by
        rw [List.take_succ_eq_append_getElem hkl]
      obtain ⟨x, hx⟩ : ∃ x, codeT[k].1 = x := ⟨_, rfl⟩
      obtain ⟨y, hy⟩ : ∃ y, codeT[k].2 = y := ⟨_, rfl⟩
      rw [hx, hy] at hat1 htk
      have HJ2 := HJ.out
      rw [← HJ2] at hat1
      have KX : Hid (∀ W' : World, w1.grownBy W' none → W'.cell? ⟨w.heap.size, j, none⟩ = some (.string ⟨#[x]⟩) ∧ W'.cell? ⟨w.heap.size, j + 1, none⟩ = some (.string ⟨y.toArray⟩) ∧ w1.grownBy W' none) :=
        fun W' hW => ⟨((hW1.grown hW (by simp)).cell j).trans (by simpa using hat1.1), ((hW1.grown hW (by simp)).cell (j + 1)).trans (by simpa using hat1.2), hW⟩
      have HT := Lib.hid htk
      have HO := Lib.hid hown1
      obtain ⟨q1, q2, -⟩ := KX.out wr hgr
      have hj1 : (j : Int) < 80 := by omega
      have hj2 : (j : Int) + 1 < 80 := by omega
      have hj3 : (0 : Int) ≤ (j : Int) + 1 := by omega
      have hj4 : j < 80 := by omega
      have hj5 : j + 1 < 80 := by omega
      have e1 : IntKind.i64.wrap ((j : Int) + 1) = (j : Int) + 1 := IntWalk.i64_in _ ⟨by omega, by omega⟩
      have e2 : ((j : Int) + 1).toNat = j + 1 := by omega
      have hzw := hgr.size
      clear hat1 htk hx hy HJ2 hown1 hlen hA2
      go_wp2_with fail
      go_region_held3 (fun W' => W'.cell? ⟨w.heap.size, j, none⟩ = some (.string ⟨#[x]⟩) ∧ W'.cell? ⟨w.heap.size, j + 1, none⟩ = some (.string ⟨y.toArray⟩) ∧ w1.grownBy W' none)
        ((exact KX.out _ (by first | exact gr_grown (show w1.grownBy _ none from (by repeat (first | exact gr_refl _ _ | assumption | refine gr_alloc ?_ _ | refine gr_drewN ?_ _ | refine gr_drew ?_))) hgq (fun kk h => .inr (HO.out.lt kk h).1) | exact (by repeat (first | exact gr_refl _ _ | assumption | refine gr_alloc ?_ _ | refine gr_drewN ?_ _ | refine gr_drew ?_)))))
        ((refine step_append_lies _ (by rfl) (.tmp 11) (.tmp 22) 152 (by rfl) w1.heap.size 155 i0 _ 2 32 Tryz.underlying152 hi hz0 hz1 hz2 rfl (by decide) _ k (wdCells (codeT.take k)) (by simp [Act.eval]) (World.ownsRow.alloc (show World.ownsRow _ w1.heap.size 155 2 _ k (wdCells (codeT.take k)) from HO.out) _) ⟨_, 0, none⟩ 1 1 [.string ⟨#[x]⟩, .string ⟨y.toArray⟩] (by simp [Act.eval]) rfl (cells_new _ _ _) (two_one _ _) (by decide) (by unfold maxLen; omega) (by omega) (by simp; omega) _ rfl ?_; intro gq cap w9 hqq hgq hat hglt))
      have hgF : w1.grownBy w9 none := gr_grown (show w1.grownBy _ none from (by repeat (first | exact gr_refl _ _ | assumption | refine gr_alloc ?_ _ | refine gr_drewN ?_ _ | refine gr_drew ?_))) hgq (fun kk h => .inr (HO.out.lt kk h).1)
      have hw9 : SgnFrom w1.heap.size w9 (.slice (some ⟨gq, 0, none⟩) (k + 1) cap) (codeT.take (k + 1)) := by
        unfold SgnFrom
        rw [HT.out, wdCells_snoc, show (codeT.take k ++ [(x, y)]).length = k + 1 by simp [codeT_len]; omega]
        exact hqq
      go_wp2_with fail
      go_roundw
      case rel => exact ⟨k + 1, j + 2, by omega, by show _ = _; have := HJ.out; omega, by have := HJ.out; omega, by go_num, hw9, hgF⟩
      case measure => simp [intOf]; omega
    · have hf : codeT.take k = codeT := List.take_of_length_le (by rw [codeT_len]; omega)
      have HF := Lib.hid hf
      have hj0 : ¬ (j : Int) < 80 := by have := HJ.out; omega
      have HO := Lib.hid hown1
      clear hf hown1 hlen hA2
      go_wp2_with fail
      go_ret
      refine ⟨_, rfl, ?_, gr_trans hG1 hgr⟩
      have h := HO.out
      rw [HF.out] at h
      obtain rfl : k = 40 := by omega
      unfold SgnFrom
      rw [codeT_len]
      exact ownsRow_low h hG1.size
end Go.Proofs.YtjhklpffmfdkbaaGreatDoor
