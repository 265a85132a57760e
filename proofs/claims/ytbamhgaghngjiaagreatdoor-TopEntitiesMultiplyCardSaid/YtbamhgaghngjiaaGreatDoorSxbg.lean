/- slices.Contains and slices.Index at ints. No condition. -/
import Derived.Test.YtbamhgaghngjiaaGreatDoorSxaa
namespace Go.Proofs.YtbamhgaghngjiaaGreatDoor
open Go.RowKit
set_option linter.unusedVariables false
set_option linter.unusedSimpArgs false

set_option maxRecDepth 100000 in
set_option maxHeartbeats 2000000 in
theorem jp7 (base : Nat) (v : Value) (l : List Int) (t : Int) (w : World) (hl : IntsFrom base w v l) :
 Calls Tryz.prog 51 #[v, .int .i64 t] w fun e w' => ∃ i : Int, e = .returned (.int .i64 i) ∧ decide (0 ≤ i) = l.contains t ∧ w.grownBy w' none := by
 obtain ⟨A, c, rfl, hlen, hA⟩ := IntsFrom.shape hl
 have HL := Lib.hid hl
 have HA := Lib.hid hA
 clear hl hA
 go_enter Tryz.func51, Tryz.ntmps51
 go_wp2_with fail
 go_loopw [8] (fun i wr => ∃ k : Nat, k ≤ l.length ∧ i = .int .i64 k ∧ Hid (∀ x ∈ l.take k, x ≠ t) ∧ w.grownBy wr none) (fun i _ => l.length - (intOf i).toNat)
 case atStart => exact ⟨0, by omega, rfl, (fun x hx => by simp at hx), je _ _⟩
 case round =>
  obtain ⟨k, hk, rfl, HN, hgr⟩ := hrel
  by_cases hlt : k < l.length
  ·have hki : (k : Int) < (l.length : Int) := by omega
   obtain ⟨g, rfl, hg0, hg1⟩ := HA.out (by omega)
   have hat := IntsFrom.at_ (IntsFrom.grown HL.out hgr) k hlt
   have hmem : l[k] ∈ l := List.getElem_mem hlt
   have htk := List.take_succ_eq_append_getElem hlt
   generalize l[k] = x at *
   by_cases hx : t = x
   ·have hb : (t == x) = true := by simpa using hx
    have HC : Hid (decide ((0 : Int) ≤ (k : Int)) = l.contains t) := by
     show _ = _
     rw [hx, List.contains_iff_mem.2 hmem]
     simp
    clear hmem htk
    subst hx
    go_wp2_with fail
    go_ret
    exact ⟨k, rfl, HC.out, hgr⟩
   have hb : (t == x) = false := by rw [beq_eq_false_iff_ne]; exact hx
   have HN2 : Hid (∀ y ∈ l.take (k + 1), y ≠ t) := fun y hy => by
    rw [htk] at hy
    rcases List.mem_append.1 hy with h | h
    ·exact HN.out y h
    rw [List.mem_singleton.1 h]; exact fun e => hx e.symm
   clear hmem htk
   go_wp2_with fail
   go_roundw
   case rel => exact ⟨k + 1, by omega, by go_num, HN2, hgr⟩
   case measure => simp [intOf]; omega
  have hki : ¬ (k : Int) < (l.length : Int) := by omega
  have HC : Hid (decide ((0 : Int) ≤ -1) = l.contains t) := by
   show _ = _
   have h := HN.out
   rw [List.take_of_length_le (by omega)] at h
   rw [Bool.eq_iff_iff]
   simp
   exact fun hm => h t hm rfl
  go_wp2_with fail
  go_ret
  refine ⟨-1, rfl, ?_, hgr⟩
  first | exact HC.out | (have h := HC.out; rw [Bool.eq_iff_iff] at h; simpa using h)
set_option maxRecDepth 100000 in
set_option maxHeartbeats 2000000 in
theorem jdm (base : Nat) (v : Value) (l : List Int) (t : Int) (w : World) (hl : IntsFrom base w v l) :
 Calls Tryz.prog 14 #[v, .int .i64 t] w fun e w' => e = .returned (.bool (l.contains t)) ∧ w.grownBy w' none := by
 have HI := Lib.hid (jp7 base v l t w hl)
 obtain ⟨A, c, rfl, hlen, hA⟩ := IntsFrom.shape hl
 clear hl hA
 go_enter Tryz.func14, Tryz.ntmps14
 go_wp2_with fail
 refine HI.out.mono ?_
 rintro _ w2 ⟨i, rfl, hi, hg⟩
 have HC := Lib.hid hi
 clear hi
 go_wp2_with fail
 go_ret
 exact ⟨by rw [← HC.out]; rfl, hg⟩
end Go.Proofs.YtbamhgaghngjiaaGreatDoor
