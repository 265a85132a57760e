/- slices.Grow at nil and slices.Concat at two slices of ints: the two lists behind one another, in new memory. Condition: at most 10^6 numbers each. -/
import Derived.Test.YtnapbnkbchaanaaGreatDoorSortInts
import Derived.Lib.AppendZeros
import Derived.Laws.AppendOwnNone
namespace Go.Proofs.YtnapbnkbchaanaaGreatDoor
open Go.RowKit
set_option linter.unusedVariables false

def GrowPost (n : Nat) (w : World) (e : Ending) (w' : World) : Prop := ∃ v, e = .returned v ∧ IntsFrom w.heap.size w' v [] ∧ w.grownBy w' none ∧ (n = 0 → v = .slice none 0 0)
set_option maxRecDepth 100000 in
set_option maxHeartbeats 1000000 in
theorem growNil_any (n : Nat) (w : World) (hn : n ≤ 10000000) :
    Calls Tryz.prog 166 #[.slice none 0 0, .int .i64 n] w (GrowPost n w) := by
  rcases Nat.eq_zero_or_pos n with h0 | h0
  · subst h0
    go_enter Tryz.func166, Tryz.ntmps166
    go_wp2_with fail
    go_ret
    exact ⟨_, rfl, IntsFrom.nil _ _, gr_refl _ _, fun _ => rfl⟩
  · obtain ⟨i0, hi, hz0, hz1, hz2⟩ := info_parts intInfo
    have hr := Lib.run_append_nil_zeros (P := Tryz.prog) w 22 3 22 3 i0 (.int .i64 0) .i64 .i64 Tryz.underlying22 Tryz.underlying3 hi hz0 n h0 (by omega) (by omega) (by rw [hz2]; omega)
    have hge := grownCap_ge w n 0 3
    have hle := grownCap_le_maxLen w n 0 3 (by unfold maxLen; omega)
    have hpos : (0 : Int) < (n : Int) := by omega
    have hpos' : 0 < n := h0
    have HR := Lib.hid hr
    have HI := Lib.hid hi
    clear hr hi hz0 hz1 hz2
    go_enter Tryz.func166, Tryz.ntmps166
    go_wp2_with (at_builtin; refine Lib.wpList_append_run _ rfl _ _ _ _ rfl _ _ rfl rfl _ _ HR.out ?_)
    generalize grownCap w n 0 3 = cp at *
    go_wp2_with fail
    go_ret
    refine ⟨_, rfl, ⟨rfl, .inr ⟨w.heap.size, cp, _, rfl, Nat.le_refl _, heap_alloc_new _ _, by simp, hle, ?_, rfl⟩⟩, gr_alloc (gr_drew (gr_refl _ _)) _, fun h => absurd h (by omega)⟩
    simp [size_zeroCells]
    omega

/-- A slice of ints behind one that the call owns. -/
theorem ints_none {base : Nat} {w : World} {v : Value} {l : List Int} (h : IntsFrom base w v l) : v = .slice none 0 0 ∧ l = [] ∨ ∃ g c, v = .slice (some ⟨g, 0, none⟩) l.length c ∧ base ≤ g ∧ g < w.heap.size := by
  rcases h.2 with ⟨h1, h2⟩ | ⟨g, cap, cur, h1, h2, h3, _⟩
  · exact .inl ⟨h1, List.eq_nil_of_length_eq_zero h2⟩
  · exact .inr ⟨g, cap, h1, h2, (Array.getElem?_eq_some_iff.1 h3).1⟩
theorem ints_cells {base : Nat} {w : World} {g c : Nat} {l : List Int} (h : IntsFrom base w (.slice (some ⟨g, 0, none⟩) l.length c) l) : ∀ j u, (l.map (Value.int .i64))[j]? = some u → w.cell? ((⟨g, 0, none⟩ : Addr).add j) = some u := by
  intro j u hu
  obtain ⟨x, hx, rfl⟩ : ∃ x, l[j]? = some x ∧ Value.int .i64 x = u := by
    rw [List.getElem?_map] at hu
    cases hx : l[j]? with
    | none => rw [hx] at hu; cases hu
    | some x => rw [hx] at hu; injection hu with hu; exact ⟨x, rfl, hu⟩
  obtain ⟨hj, e⟩ := List.getElem?_eq_some_iff.1 hx
  have := h.at_ j hj
  have hadd : (⟨g, 0, none⟩ : Addr).add j = ⟨g, j, none⟩ := by unfold Addr.add; split <;> simp_all
  rw [hadd, this, e]
theorem ints_one (l : List Int) : ∀ u ∈ l.map (Value.int .i64), u.oneCell' = true := by
  intro u hu
  obtain ⟨x, _, rfl⟩ := List.mem_map.1 hu
  rfl

def szAt (n m k : Nat) : Nat := if k = 0 then 0 else if k = 1 then n else n + m
def catAt (a b : List Int) (k : Nat) : List Int := if k = 0 then [] else if k = 1 then a else a ++ b
def ConcatPost (a b : List Int) (w : World) (e : Ending) (w' : World) : Prop := ∃ v, e = .returned v ∧ IntsFrom w.heap.size w' v (a ++ b) ∧ w.grownBy w' none ∧ (a ++ b = [] → v = .slice none 0 0)

set_option maxRecDepth 100000 in
set_option maxHeartbeats 4000000 in
theorem concat_any (base g c : Nat) (u v : Value) (a b : List Int) (w : World) (hu : IntsFrom base w u a) (hv : IntsFrom base w v b) (hg : Blk w g 22 #[u, v]) (ha : a.length ≤ 1000000) (hb : b.length ≤ 1000000) :
    Calls Tryz.prog 106 #[.slice (some ⟨g, 0, none⟩) 2 c] w (ConcatPost a b w) := by
  obtain ⟨i0, hi, hz0, hz1, hz2⟩ := info_parts intInfo
  obtain ⟨A, ca, rfl, hla, _⟩ := hu.shape
  obtain ⟨B, cb, rfl, hlb, _⟩ := hv.shape
  have c0 := hg.cell 0
  have c1 := hg.cell 1
  simp only [List.getElem?_toArray, List.getElem?_cons_zero, List.getElem?_cons_succ] at c0 c1
  have HU := Lib.hid hu
  have HV := Lib.hid hv
  clear hu hv
  go_enter Tryz.func106, Tryz.ntmps106
  go_wp2_with fail
  go_loopw [3, 11] (fun s i wr => ∃ k : Nat, k ≤ 2 ∧ i = .int .i64 k ∧ s = .int .i64 (szAt a.length b.length k : Nat) ∧ w.grownBy wr none) (fun _ i _ => 2 - (intOf i).toNat)
  case atStart => exact ⟨0, by omega, rfl, rfl, gr_refl _ _⟩
  case round =>
    obtain ⟨k, hk, rfl, rfl, hgr⟩ := hrel
    have hg1 := hg.grown hgr (by simp)
    have d0 := hg1.cell 0
    have d1 := hg1.cell 1
    simp only [List.getElem?_toArray, List.getElem?_cons_zero, List.getElem?_cons_succ] at d0 d1
    rcases (show k = 0 ∨ k = 1 ∨ k = 2 by omega) with rfl | rfl | rfl
    · have z0 : szAt a.length b.length 0 = 0 := rfl
      rw [z0]
      go_wp2_with fail
      go_roundw
      case rel => exact ⟨1, by omega, rfl, by unfold szAt; go_num, hgr⟩
      case measure => simp [intOf]
    · have z0 : szAt a.length b.length 1 = a.length := rfl
      rw [z0]
      have hn : ¬ ((a.length : Int) + (b.length : Int) < 0) := by omega
      go_wp2_with fail
      go_roundw
      case rel => exact ⟨2, by omega, rfl, by unfold szAt; go_num, hgr⟩
      case measure => simp [intOf]
    · have z0 : szAt a.length b.length 2 = a.length + b.length := rfl
      rw [z0]
      clear d0 d1
      go_wp2_with fail
      rw [show (a.length : Int) + (b.length : Int) = ((a.length + b.length : Nat) : Int) by omega]
      refine (growNil_any _ _ (by omega)).mono ?_
      rintro _ w1 ⟨o, rfl, ho, hgo, hgn⟩
      have HN0 : Hid (a ++ b = [] → o = .slice none 0 0) := fun h => hgn (by have := congrArg List.length h; simpa using this)
      have hG1 := gr_trans hgr hgo
      have hgs := hgr.size
      have ho' := ownsRow_low (base' := w.heap.size) ho hgs
      clear ho hgo hgr hg1 hgn
      go_wp2_with fail
      go_loopw [6, 27] (fun o i wr => ∃ k : Nat, k ≤ 2 ∧ i = .int .i64 k ∧ IntsFrom w.heap.size wr o (catAt a b k) ∧ w.grownBy wr none ∧ Hid (a ++ b = [] → o = .slice none 0 0)) (fun _ i _ => 2 - (intOf i).toNat)
      case atStart => exact ⟨0, by omega, rfl, ho', hG1, HN0⟩
      case round =>
        obtain ⟨k, hk, rfl, hown, hgr, HNN⟩ := hrel
        have hg1 := hg.grown hgr (by simp)
        have d0 := hg1.cell 0
        have d1 := hg1.cell 1
        simp only [List.getElem?_toArray, List.getElem?_cons_zero, List.getElem?_cons_succ] at d0 d1
        obtain ⟨A2, c2, rfl, hlen2, _⟩ := hown.shape
        rcases (show k = 0 ∨ k = 1 ∨ k = 2 by omega) with rfl | rfl | rfl
        · have zc : (catAt a b 0).length = 0 := rfl
          rw [zc]
          clear zc
          have hown0 : wr.ownsRow w.heap.size 3 1 (.slice A2 0 c2) 0 [] := hown
          have hsz := hgr.size
          have hrow : ∀ kk, (Value.slice A2 0 c2).ownBlock = some kk → w.heap.size ≤ kk := fun kk h => (hown0.lt kk h).1
          rcases ints_none (HU.out.grown hgr) with ⟨he, hn0⟩ | ⟨ga, cx, he, hga, _⟩
          · injection he with e1 e2 e3
            subst e1; subst e3
            have hl0 : a.length = 0 := by rw [hn0]; rfl
            have HN := Lib.hid hn0
            rw [hl0] at d0
            clear hn0 e2 hl0
            go_wp2_with (at_builtin; refine wpList_append_own_none rfl _ _ 22 rfl w.heap.size 3 i0 1 Tryz.underlying22 hi _ _ _ rfl hown0 rfl ?_)
            go_roundw
            case rel => exact ⟨1, by omega, rfl, by rw [show catAt a b 1 = [] by show a = []; exact HN.out]; exact hown, hgr, HNN⟩
            case measure => simp [intOf]
          · injection he with e1 e2 e3
            subst e1; subst e3
            have hsrc := Lib.hid (HU.out.grown hgr)
            clear e2
            go_wp2_with (at_builtin; refine wpList_append_own _ rfl _ _ 22 rfl w.heap.size 3 i0 _ 1 8 Tryz.underlying22 hi hz0 hz1 hz2 rfl (by decide) _ _ _ rfl hown0 ⟨ga, 0, none⟩ a.length ca (a.map (Value.int .i64)) rfl (by simp) (ints_cells hsrc.out) (ints_one a) (by unfold maxLen; omega) (by omega) hsz ?_; intro v' w4 hownB hgrB hiff; have HIF := Lib.hid hiff; clear hiff)
            have hgF : w.grownBy w4 none := gr_grown hgr hgrB (fun kk h => .inr (hrow kk h))
            have hownC : IntsFrom w.heap.size w4 v' (catAt a b 1) := by
              unfold IntsFrom
              show w4.ownsRow w.heap.size 3 1 v' a.length (a.map _)
              simpa using hownB
            go_wp2_with fail
            go_roundw
            case rel => exact ⟨1, by omega, rfl, hownC, hgF, fun h => HIF.out.2 ⟨HNN.out h, by obtain ⟨h1, h2⟩ := List.append_eq_nil_iff.1 h; first | (rw [h1]; rfl) | (rw [h2]; rfl)⟩⟩
            case measure => simp [intOf]
        · have zc : (catAt a b 1).length = a.length := rfl
          rw [zc]
          clear zc
          have hown0 : wr.ownsRow w.heap.size 3 1 (.slice A2 a.length c2) a.length (a.map (Value.int .i64)) := hown
          have hsz := hgr.size
          have hrow : ∀ kk, (Value.slice A2 a.length c2).ownBlock = some kk → w.heap.size ≤ kk := fun kk h => (hown0.lt kk h).1
          rcases ints_none (HV.out.grown hgr) with ⟨he, hn0⟩ | ⟨ga, cx, he, hga, _⟩
          · injection he with e1 e2 e3
            subst e1; subst e3
            have hl0 : b.length = 0 := by rw [hn0]; rfl
            have HN := Lib.hid hn0
            rw [hl0] at d1
            clear hn0 e2 hl0
            go_wp2_with (at_builtin; refine wpList_append_own_none rfl _ _ 22 rfl w.heap.size 3 i0 1 Tryz.underlying22 hi _ _ _ rfl hown0 rfl ?_)
            go_roundw
            case rel => exact ⟨2, by omega, rfl, by rw [show catAt a b 2 = a by show a ++ b = a; rw [HN.out, List.append_nil]]; exact hown, hgr, HNN⟩
            case measure => simp [intOf]
          · injection he with e1 e2 e3
            subst e1; subst e3
            have hsrc := Lib.hid (HV.out.grown hgr)
            clear e2
            go_wp2_with (at_builtin; refine wpList_append_own _ rfl _ _ 22 rfl w.heap.size 3 i0 _ 1 8 Tryz.underlying22 hi hz0 hz1 hz2 rfl (by decide) _ _ _ rfl hown0 ⟨ga, 0, none⟩ b.length cb (b.map (Value.int .i64)) rfl (by simp) (ints_cells hsrc.out) (ints_one b) (by unfold maxLen; omega) (by omega) hsz ?_; intro v' w4 hownB hgrB hiff; have HIF := Lib.hid hiff; clear hiff)
            have hgF : w.grownBy w4 none := gr_grown hgr hgrB (fun kk h => .inr (hrow kk h))
            have hownC : IntsFrom w.heap.size w4 v' (catAt a b 2) := by
              unfold IntsFrom
              show w4.ownsRow w.heap.size 3 1 v' (a ++ b).length ((a ++ b).map _)
              rw [List.map_append, List.length_append]; exact hownB
            go_wp2_with fail
            go_roundw
            case rel => exact ⟨2, by omega, rfl, hownC, hgF, fun h => HIF.out.2 ⟨HNN.out h, by obtain ⟨h1, h2⟩ := List.append_eq_nil_iff.1 h; first | (rw [h1]; rfl) | (rw [h2]; rfl)⟩⟩
            case measure => simp [intOf]
        · go_wp2_with fail
          go_ret
          exact ⟨_, rfl, hown, hgr, HNN.out⟩
end Go.Proofs.YtnapbnkbchaanaaGreatDoor
