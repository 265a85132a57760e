/- The walk over key.byBytes: a map from the forty signs to their codes, in new memory. Condition: asciiSpace is Go's own table. -/
import Derived.Test.YtjhklpffmfdkbaaGreatDoorKeyCodes
import Derived.Test.YtjhklpffmfdkbaaGreatDoorMapB
namespace Go.Proofs.YtjhklpffmfdkbaaGreatDoor
open Go.RowKit
set_option linter.unusedVariables false

theorem codeT_short : ∀ p ∈ codeT, p.2.length ≤ 6 := by decide +kernel
/-- What byBytes hands back: a map of the codes, in new memory. -/
def MapPost (w : World) (e : Ending) (w' : World) : Prop := ∃ bm, e = .returned (.map (some bm)) ∧ w.heap.size ≤ bm ∧ MapB w' bm 40 codeT ∧ w.grownBy w' none

set_option maxRecDepth 100000 in
set_option maxHeartbeats 2000000 in
theorem byBytes_any (b : Nat) (w : World) (hgl : Gl b w) :
    Calls Tryz.prog 93 #[] w (MapPost w) := by
  have HGL := Lib.hid hgl
  clear hgl
  have hmm := @run_makeMap Tryz.prog
  go_enter Tryz.func93, Tryz.ntmps93
  go_wp2_with fail
  clear hmm
  have hM0 := MapB.made w
  have hlt0 := hM0.lt
  refine (codes_any b _ (HGL.out.quiet (World.grownBy_alloc w _ none))).mono ?_
  rintro _ w1 ⟨v, rfl, hv, hg1⟩
  have hM1 := hM0.quiet hg1
  have hG1 := gr_trans (World.grownBy_alloc w (.map #[] 0) none) hg1
  obtain ⟨A, c, hve, hvl, hvA⟩ := hv.shape
  subst hve
  obtain ⟨g, hAg, hg0, _⟩ := hvA (by rw [codeT_len]; decide)
  subst hAg
  rw [codeT_len] at hv ⊢
  have hgm : w.heap.size < g := by simp at hg0; omega
  have HV := Lib.hid (show SgnFrom (w.alloc (.map #[] 0)).heap.size w1 (.slice (some ⟨g, 0, none⟩) codeT.length c) codeT by rw [codeT_len]; exact hv)
  have hsz1 := hg1.size
  clear hv hvl hvA hM0 hg1
  go_wp2_with fail
  go_loopw [7] (fun i wr => ∃ k : Nat, k ≤ 40 ∧ i = .int .i64 k ∧ MapB wr w.heap.size k (codeT.take k) ∧ w1.grownBy wr (some w.heap.size)) (fun i _ => 40 - (intOf i).toNat)
  case atStart => exact ⟨0, by omega, rfl, hM1, gr_refl _ _⟩
  case round =>
    obtain ⟨k, hk, rfl, hM, hgr⟩ := hrel
    by_cases hlt : k < 40
    · have hkl : k < codeT.length := by rw [codeT_len]; exact hlt
      have hat1 := (SgnFrom.other HV.out hgr (by simp)).at1 k hkl
      have hsh := codeT_short codeT[k] (List.getElem_mem hkl)
      have htk : codeT.take (k + 1) = codeT.take k ++ [(codeT[k].1, codeT[k].2)] := by
        rw [List.take_succ_eq_append_getElem hkl]
      obtain ⟨x, hx⟩ : ∃ x, codeT[k].1 = x := ⟨_, rfl⟩
      obtain ⟨y, hy⟩ : ∃ y, codeT[k].2 = y := ⟨_, rfl⟩
      rw [hx, hy] at hat1 htk
      rw [hy] at hsh
      obtain ⟨q1, q2⟩ := hat1
      have HT := Lib.hid htk
      have hlt2 : (k : Int) < 40 := by omega
      have hzr := hgr.size
      have hMlt := hM.lt
      clear htk hx hy hM1
      go_wp2_with fail
      have hB := Blk.new wr 155 #[.string ⟨#[x]⟩, .string ⟨y.toArray⟩]
      have hMA := hM.quiet (World.grownBy_alloc wr (.cells #[.string ⟨#[x]⟩, .string ⟨y.toArray⟩] 155) none)
      have hGA := gr_alloc hgr (.cells #[.string ⟨#[x]⟩, .string ⟨y.toArray⟩] 155)
      have hBl : wr.heap.size < (wr.alloc (.cells #[.string ⟨#[x]⟩, .string ⟨y.toArray⟩] 155)).heap.size := hB.lt
      generalize wr.alloc (.cells #[.string ⟨#[x]⟩, .string ⟨y.toArray⟩] 155) = W at *
      have b0 : W.cell? ⟨wr.heap.size, 0, none⟩ = some (.string ⟨#[x]⟩) := hB.cell 0
      have b1 : W.cell? ⟨wr.heap.size, 1, none⟩ = some (.string ⟨y.toArray⟩) := hB.cell 1
      obtain ⟨w9, hrun, hM9, hg9⟩ := MapB.put (w := W.drew) hMA (by omega) x y (by omega)
      have hrun' : (Instr.mapUpdate 130 (.map (some w.heap.size)) (.int .u8 (((⟨#[x]⟩ : ByteArray)[0]'(by show 0 < 1; decide)).toNat : Int)) (.string ⟨y.toArray⟩)).run Tryz.prog W.drew = .ok () w9 := hrun
      clear hrun
      go_region
      go_wp2_with fail
      go_roundw
      case rel => exact ⟨k + 1, by omega, by go_num, by rw [HT.out]; exact hM9, gr_grown (gr_drew hGA) hg9 (fun g e => .inl e)⟩
      case measure => simp [intOf]; omega
    · have hf : codeT.take k = codeT := List.take_of_length_le (by rw [codeT_len]; omega)
      rw [hf] at hM
      obtain rfl : k = 40 := by omega
      clear hf hM1
      go_wp2_with fail
      go_ret
      exact ⟨_, rfl, Nat.le_refl _, hM, gr_grown hG1 hgr (fun g e => by injection e with e; exact .inr (by omega))⟩
end Go.Proofs.YtjhklpffmfdkbaaGreatDoor
