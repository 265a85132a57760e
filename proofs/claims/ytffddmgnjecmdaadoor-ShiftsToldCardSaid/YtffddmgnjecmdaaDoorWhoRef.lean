/- The walk over the reference's WhoAt; who operates in order of their shifts. Condition: few shifts. -/
import Derived.Test.YtffddmgnjecmdaaDoorShiftsUpPlain
import Derived.Test.YtffddmgnjecmdaaDoorOncePlain
import Derived.Test.YtffddmgnjecmdaaDoorShiftsFault
namespace Go.Proofs.YtffddmgnjecmdaaDoor
open Go.RowKit
set_option linter.unusedVariables false
set_option linter.unusedSimpArgs false

set_option maxHeartbeats 1000000 in
theorem whoAt_any (base : Nat) (v : Value) (l : List (Int × ByteArray)) (t : Int) (w : World) (hl : ShFrom base w v l) (h6 : l.length ≤ 1000) :
    Calls Tryd.prog 41 #[v, .int .i64 t] w fun r w' => r = .returned (.string (whoS l t)) ∧ w.grownBy w' none := by
  obtain ⟨A, c, rfl, hlen, hA⟩ := hl.shape
  have HL := Lib.hid hl
  clear hl
  go_enter Tryd.func41, Tryd.ntmps41
  go_wp2_with fail
  go_loopw [5, 10] (fun o i wr => ∃ k : Nat, k ≤ l.length ∧ i = .int .i64 k ∧ o = .string (whoS (l.take k) t) ∧ w.grownBy wr none) (fun _ i _ => l.length - (intOf i).toNat)
  case atStart => exact ⟨0, by omega, rfl, rfl, gr_refl _ _⟩
  case round =>
    obtain ⟨k, hk, rfl, rfl, hgr⟩ := hrel
    by_cases hlt : k < l.length
    · obtain ⟨g, rfl, hg0, hg1⟩ := hA (by omega)
      have hkl : (k : Int) < (l.length : Int) := by omega
      obtain ⟨c0, c1⟩ := (HL.out.grown hgr).at1 k hlt
      have HN : Hid (whoS (l.take (k + 1)) t = if l[k].1 ≤ t then l[k].2 else whoS (l.take k) t) := by
        show _ = _
        rw [List.take_succ_eq_append_getElem hlt, whoS_snoc]
      obtain ⟨x, hx⟩ : ∃ x, l[k].1 = x := ⟨_, rfl⟩
      obtain ⟨y, hy⟩ : ∃ y, l[k].2 = y := ⟨_, rfl⟩
      rw [hx] at c0 HN
      rw [hy] at c1 HN
      clear hx hy
      by_cases hxt : x ≤ t
      · have HN2 : Hid (whoS (l.take (k + 1)) t = y) := by show _ = _; rw [HN.out, if_pos hxt]
        go_wp2_with fail
        go_roundw
        case rel => exact ⟨k + 1, by omega, by go_num, by rw [HN2.out], gr_alloc hgr _⟩
        case measure => simp [intOf]; omega
      · have HN2 : Hid (whoS (l.take (k + 1)) t = whoS (l.take k) t) := by show _ = _; rw [HN.out, if_neg hxt]
        go_wp2_with fail
        go_roundw
        case rel => exact ⟨k + 1, by omega, by go_num, by rw [HN2.out], gr_alloc hgr _⟩
        case measure => simp [intOf]; omega
    · have hkl : ¬ (k : Int) < (l.length : Int) := by omega
      have HE : Hid (l.take k = l) := List.take_of_length_le (by omega)
      go_wp2_with fail
      go_ret
      exact ⟨ret_str (by rw [HE.out]), hgr⟩

/-- Who operates in a contest, shift by shift. -/
def whosTo (l : List (Int × ByteArray)) (a z : Int) : Nat → List (List UInt8)
  | 0 => []
  | k + 1 => match l[k]? with
    | none => whosTo l a z k
    | some p => if 0 < overS l a z k p.1 ∧ p.2.toList.isEmpty = false then whosTo l a z k ++ [p.2.data.toList] else whosTo l a z k
theorem whosTo_len (l : List (Int × ByteArray)) (a z : Int) (k : Nat) : (whosTo l a z k).length ≤ k := by
  induction k with
  | zero => simp [whosTo]
  | succ k ih =>
    unfold whosTo
    split
    · omega
    · split
      · rw [List.length_append, List.length_singleton]; omega
      · omega
theorem whosTo_mem (l : List (Int × ByteArray)) (a z : Int) (k : Nat) (x : List UInt8) : x ∈ whosTo l a z k ↔ hasS (longsTo l a z k) x = true := by
  induction k with
  | zero => simp [whosTo, longsTo, hasS]
  | succ k ih =>
    cases hk : l[k]? with
    | none => simp only [whosTo, longsTo, hk]; exact ih
    | some p =>
      by_cases h : 0 < overS l a z k p.1 ∧ p.2.toList.isEmpty = false
      · simp only [whosTo, longsTo, hk]
        rw [if_pos h, if_pos h, hasS_add, List.mem_append, ih, List.mem_singleton, Bool.or_eq_true, decide_eq_true_eq]
        constructor
        · rintro (h | h)
          · exact .inl h
          · exact .inr h.symm
        · rintro (h | h)
          · exact .inl h
          · exact .inr h.symm
      · simp only [whosTo, longsTo, hk]
        rw [if_neg h, if_neg h]
        exact ih
/-- Each of them once, in order: the keys of how long each operates. -/
theorem whos_once (l : List (Int × ByteArray)) (a z : Int) (k : Nat) {ks : List (List UInt8)} (hp : ks.Perm ((longsTo l a z k).map (·.1))) (hs : ks.Pairwise (· ≤ ·)) : ks = onceB (whosTo l a z k) := by
  rw [onceB_keys (longsTo_nodup l a z k) (fun x => by rw [whosTo_mem, hasS_mem])]
  exact sorted_one hs (sortB_sorted _) (hp.trans (sortB_perm _).symm)
end Go.Proofs.YtffddmgnjecmdaaDoor
