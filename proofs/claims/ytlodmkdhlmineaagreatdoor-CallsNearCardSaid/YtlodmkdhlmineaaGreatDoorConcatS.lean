/- slices.Grow at nil and slices.Concat at slices of strings: the lists behind one another, in new memory. Condition: at most 10^6 strings in all. -/
import Derived.Test.YtlodmkdhlmineaaGreatDoorKeyB
import Derived.Lib.AppendZeros
import Derived.Laws.AppendOwnNone
namespace Go.Proofs.YtlodmkdhlmineaaGreatDoor
open Go.RowKit
set_option linter.unusedVariables false
set_option linter.unusedSimpArgs false

def GrowSPost (w : World) (e : Ending) (w' : World) : Prop := ∃ v, e = .returned v ∧ StrsFrom w.heap.size w' v [] ∧ w.grownBy w' none
set_option maxRecDepth 100000 in
set_option maxHeartbeats 1000000 in
theorem growNilS_any (n : Nat) (w : World) (hn : n ≤ 10000000) :
    Calls Tryz.prog 120 #[.slice none 0 0, .int .i64 n] w (GrowSPost w) := by
  rcases Nat.eq_zero_or_pos n with h0 | h0
  · subst h0
    go_enter Tryz.func120, Tryz.ntmps120
    go_wp2_with fail
    go_ret
    exact ⟨_, rfl, StrsFrom.nil _ _, gr_refl _ _⟩
  · obtain ⟨i0, hi, hz0, hz1, hz2⟩ := info_parts strInfo
    have hr := Lib.run_append_nil_zeros (P := Tryz.prog) w 27 3 27 9 i0 (.string ⟨#[]⟩) .i64 .i64 Tryz.underlying27 Tryz.underlying3 hi hz0 n h0 (by omega) (by omega) (by rw [hz2]; omega)
    have hge := grownCap_ge w n 0 9
    have hle := grownCap_le_maxLen w n 0 9 (by unfold maxLen; omega)
    have hpos : (0 : Int) < (n : Int) := by omega
    have hpos' : 0 < n := h0
    have HR := Lib.hid hr
    have HI := Lib.hid hi
    clear hr hi hz0 hz1 hz2
    go_enter Tryz.func120, Tryz.ntmps120
    go_wp2_with (at_builtin; refine Lib.wpList_append_run _ rfl _ _ _ _ rfl _ _ rfl rfl _ _ HR.out ?_)
    generalize grownCap w n 0 9 = cp at *
    go_wp2_with fail
    go_ret
    refine ⟨_, rfl, ⟨rfl, .inr ⟨w.heap.size, cp, _, rfl, Nat.le_refl _, heap_alloc_new _ _, by simp, hle, ?_, rfl⟩⟩, gr_alloc (gr_drew (gr_refl _ _)) _⟩
    simp [size_zeroCells]
    omega

theorem strs_none {base : Nat} {w : World} {v : Value} {l : List ByteArray} (h : StrsFrom base w v l) : v = .slice none 0 0 ∧ l = [] ∨ ∃ g c, v = .slice (some ⟨g, 0, none⟩) l.length c ∧ base ≤ g ∧ g < w.heap.size := by
  rcases h.2 with ⟨h1, h2⟩ | ⟨g, cap, cur, h1, h2, h3, _⟩
  · exact .inl ⟨h1, List.eq_nil_of_length_eq_zero h2⟩
  · exact .inr ⟨g, cap, h1, h2, (Array.getElem?_eq_some_iff.1 h3).1⟩
theorem strs_cells {base : Nat} {w : World} {g c : Nat} {l : List ByteArray} (h : StrsFrom base w (.slice (some ⟨g, 0, none⟩) l.length c) l) : ∀ j u, (l.map Value.string)[j]? = some u → w.cell? ((⟨g, 0, none⟩ : Addr).add j) = some u := by
  intro j u hu
  obtain ⟨x, hx, rfl⟩ : ∃ x, l[j]? = some x ∧ Value.string x = u := by
    rw [List.getElem?_map] at hu
    cases hx : l[j]? with
    | none => rw [hx] at hu; cases hu
    | some x => rw [hx] at hu; injection hu with hu; exact ⟨x, rfl, hu⟩
  obtain ⟨hj, e⟩ := List.getElem?_eq_some_iff.1 hx
  have := h.at_ j hj
  have hadd : (⟨g, 0, none⟩ : Addr).add j = ⟨g, j, none⟩ := by unfold Addr.add; split <;> simp_all
  rw [hadd, this, e]
theorem strs_one (l : List ByteArray) : ∀ u ∈ l.map Value.string, u.oneCell' = true := by
  intro u hu
  obtain ⟨x, _, rfl⟩ := List.mem_map.1 hu
  rfl

/-- The first k lists behind one another. -/
def flatTo (ls : Nat → List ByteArray) : Nat → List ByteArray
  | 0 => []
  | k + 1 => flatTo ls k ++ ls k
theorem flatTo_mono (ls : Nat → List ByteArray) {k K : Nat} (h : k ≤ K) : (flatTo ls k).length ≤ (flatTo ls K).length := by
  obtain ⟨d, rfl⟩ : ∃ d, K = k + d := ⟨K - k, by omega⟩
  clear h
  induction d with
  | zero => exact Nat.le_refl _
  | succ d ih =>
    refine Nat.le_trans ih ?_
    show _ ≤ (flatTo ls (k + d) ++ ls (k + d)).length
    rw [List.length_append]; omega
theorem flatTo_mem {ls : Nat → List ByteArray} {x : ByteArray} : ∀ {k : Nat}, x ∈ flatTo ls k ↔ ∃ d, d < k ∧ x ∈ ls d
  | 0 => ⟨(fun h => nomatch h), (fun ⟨d, h, _⟩ => absurd h (by omega))⟩
  | k + 1 => by
    show x ∈ flatTo ls k ++ ls k ↔ _
    rw [List.mem_append, flatTo_mem]
    constructor
    · rintro (⟨d, h1, h2⟩ | h)
      · exact ⟨d, by omega, h2⟩
      · exact ⟨k, by omega, h⟩
    · rintro ⟨d, h1, h2⟩
      rcases Nat.lt_or_ge d k with h | h
      · exact .inl ⟨d, h, h2⟩
      · obtain rfl : d = k := by omega
        exact .inr h2
theorem rowsCell {vs : Nat → Value} {K k : Nat} (h : k < K) : ((List.range K).map vs).toArray[k]? = some (vs k) := by simp [h]
def ConcatSPost (l : List ByteArray) (w : World) (e : Ending) (w' : World) : Prop := ∃ v, e = .returned v ∧ StrsFrom w.heap.size w' v l ∧ w.grownBy w' none

set_option maxRecDepth 100000 in
set_option maxHeartbeats 4000000 in
theorem concatS_any (base g c K : Nat) (vs : Nat → Value) (ls : Nat → List ByteArray) (w : World) (hv : ∀ d, d < K → StrsFrom base w (vs d) (ls d)) (hg : Blk w g 27 ((List.range K).map vs).toArray) (hK : K ≤ 1000000) (hn : (flatTo ls K).length ≤ 1000000) :
    Calls Tryz.prog 59 #[.slice (some ⟨g, 0, none⟩) K c] w (ConcatSPost (flatTo ls K) w) := by
  obtain ⟨i0, hi, hz0, hz1, hz2⟩ := info_parts strInfo
  have HV := Lib.hid hv
  have HNB := Lib.hid hn
  clear hv hn
  go_enter Tryz.func59, Tryz.ntmps59
  go_wp2_with fail
  go_loopw [3, 11] (fun s i wr => ∃ k : Nat, k ≤ K ∧ i = .int .i64 k ∧ s = .int .i64 ((flatTo ls k).length : Nat) ∧ w.grownBy wr none) (fun _ i _ => K - (intOf i).toNat)
  case atStart => exact ⟨0, by omega, rfl, rfl, gr_refl _ _⟩
  case round =>
    obtain ⟨k, hk, rfl, rfl, hgr⟩ := hrel
    by_cases hlt : k < K
    · have d0 := (hg.grown hgr (by simp)).cell k
      rw [rowsCell hlt] at d0
      obtain ⟨A, ca, hve, hla, _⟩ := (HV.out k hlt).shape
      rw [hve] at d0
      have hki : (k : Int) < (K : Int) := by omega
      have hsum : (flatTo ls (k + 1)).length = (flatTo ls k).length + (ls k).length := by
        show (flatTo ls k ++ ls k).length = _
        rw [List.length_append]
      have hle := Nat.le_trans (flatTo_mono ls (show k + 1 ≤ K by omega)) HNB.out
      rw [hsum] at hle
      have HS := Lib.hid hsum
      clear hsum hve
      generalize (flatTo ls k).length = F at *
      generalize (ls k).length = n at *
      have hnn : ¬ ((F : Int) + (n : Int) < 0) := by omega
      go_wp2_with fail
      go_roundw
      case rel => exact ⟨k + 1, by omega, by go_num, by rw [HS.out]; go_num, hgr⟩
      case measure => simp [intOf]; omega
    · have hki : ¬ (k : Int) < (K : Int) := by omega
      obtain rfl : k = K := by omega
      go_wp2_with fail
      refine (growNilS_any _ _ (Nat.le_trans HNB.out (by decide))).mono ?_
      rintro _ w1 ⟨o, rfl, ho, hgo⟩
      have hG1 := gr_trans hgr hgo
      have ho' := ownsRow_low (base' := w.heap.size) ho hgr.size
      clear ho hgo hgr
      go_wp2_with fail
      go_loopw [6, 27] (fun o i wr => ∃ j : Nat, j ≤ k ∧ i = .int .i64 j ∧ StrsFrom w.heap.size wr o (flatTo ls j) ∧ w.grownBy wr none) (fun _ i _ => k - (intOf i).toNat)
      case atStart => exact ⟨0, by omega, rfl, ho', hG1⟩
      case round =>
        obtain ⟨j, hj, rfl, hown, hgr⟩ := hrel
        obtain ⟨A2, c2, rfl, hlen2, _⟩ := hown.shape
        by_cases hlj : j < k
        · have d0 := (hg.grown hgr (by simp)).cell j
          rw [rowsCell hlj] at d0
          have hji : (j : Int) < (k : Int) := by omega
          have hsum : (flatTo ls (j + 1)).length = (flatTo ls j).length + (ls j).length := by
            show (flatTo ls j ++ ls j).length = _
            rw [List.length_append]
          have hle := Nat.le_trans (flatTo_mono ls (show j + 1 ≤ k by omega)) HNB.out
          rw [hsum] at hle
          have HVj := Lib.hid ((HV.out j hlj).grown hgr)
          have HF1 : Hid (flatTo ls (j + 1) = flatTo ls j ++ ls j) := rfl
          generalize flatTo ls j = F at *
          generalize ls j = lj at *
          have hown0 : wr.ownsRow w.heap.size 9 1 (.slice A2 F.length c2) F.length (F.map Value.string) := hown
          have hsz := hgr.size
          have hrow : ∀ kk, (Value.slice A2 F.length c2).ownBlock = some kk → w.heap.size ≤ kk := fun kk h => (hown0.lt kk h).1
          clear hsum
          rcases strs_none HVj.out with ⟨he, hn0⟩ | ⟨ga, cx, he, hga, _⟩
          · rw [he] at d0
            have HN := Lib.hid hn0
            clear hn0 he
            go_wp2_with (at_builtin; refine wpList_append_own_none rfl _ _ 27 rfl w.heap.size 9 i0 1 Tryz.underlying27 hi _ _ _ rfl hown0 rfl ?_)
            go_roundw
            case rel => exact ⟨j + 1, by omega, by go_num, by rw [HF1.out, HN.out, List.append_nil]; exact hown, hgr⟩
            case measure => simp [intOf]; omega
          · rw [he] at d0
            have hvj := HVj.out
            rw [he] at hvj
            have hsrc := Lib.hid hvj
            clear he hvj
            go_wp2_with (at_builtin; refine wpList_append_own _ rfl _ _ 27 rfl w.heap.size 9 i0 _ 1 16 Tryz.underlying27 hi hz0 hz1 hz2 rfl (by decide) _ _ _ rfl hown0 ⟨ga, 0, none⟩ lj.length cx (lj.map Value.string) rfl (by simp) (strs_cells hsrc.out) (strs_one lj) (by unfold maxLen; omega) (by omega) hsz ?_; intro v' w4 hownB hgrB hiff; clear hiff)
            have hgF : w.grownBy w4 none := gr_grown hgr hgrB (fun kk h => .inr (hrow kk h))
            have hownC : StrsFrom w.heap.size w4 v' (flatTo ls (j + 1)) := by
              rw [HF1.out]
              unfold StrsFrom
              rw [List.map_append, List.length_append]; exact hownB
            go_wp2_with fail
            go_roundw
            case rel => exact ⟨j + 1, by omega, by go_num, hownC, hgF⟩
            case measure => simp [intOf]; omega
        · have hji : ¬ (j : Int) < (k : Int) := by omega
          obtain rfl : j = k := by omega
          go_wp2_with fail
          go_ret
          exact ⟨_, rfl, hown, hgr⟩
end Go.Proofs.YtlodmkdhlmineaaGreatDoor
