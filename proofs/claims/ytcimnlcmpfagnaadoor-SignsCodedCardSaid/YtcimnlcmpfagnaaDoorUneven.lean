/- The walk over key.Uneven at right arguments: the marks and gaps that are more than half a unit away. Condition: no error. -/
import Derived.Test.YtcimnlcmpfagnaaDoorNear
import Derived.Test.YtcimnlcmpfagnaaDoorUnit
namespace Go.Proofs.YtcimnlcmpfagnaaDoor
open Go.RowKit
set_option linter.unusedVariables false
set_option linter.unusedSimpArgs false

def unevTo (l : List Int) (u : Int) : Nat → List Int
  | 0 => []
  | k + 1 => if u < 2 * nearO (markB k) (l.getD k 0) u then unevTo l u k ++ [(k : Int)] else unevTo l u k
theorem unevTo_len (l : List Int) (u : Int) (k : Nat) : (unevTo l u k).length ≤ k := by
  induction k with
  | zero => exact Nat.le_refl _
  | succ k ih => unfold unevTo; split <;> (try simp) <;> omega

set_option maxRecDepth 100000 in
set_option maxHeartbeats 4000000 in
theorem uneven_ok (base : Nat) (v : Value) (l : List Int) (u : Int) (w : World) (hl : IntsFrom base w v l) (hE : marksE l = 0) (u0 : 1 ≤ u) (u1 : u ≤ 2000) :
    Calls Tryd.prog 12 #[v, .int .i64 u] w fun r w' => ∃ o, r = .returned (.tuple #[o, .int .i64 0]) ∧ IntsFrom w.heap.size w' o (unevTo l u l.length) ∧ w.grownBy w' none := by
  obtain ⟨i0, hi, hz0, hz1, hz2⟩ := info_parts intInfo
  obtain ⟨A, c, rfl, hlen, hA⟩ := hl.shape
  obtain ⟨h1, h2, h3⟩ := marksE_ok hE
  have HUE : Hid (unitE l u = 0) := by show _ = _; unfold unitE; rw [if_pos hE]; exact spanE_no u0 u1
  have HL := Lib.hid hl
  have HA := Lib.hid hA
  have HBD := Lib.hid h3
  clear hl hA h3 hE h1
  go_enter Tryd.func12, Tryd.ntmps12
  go_wp2_with fail
  refine (unitFault_any base _ l u _ HL.out).mono ?_
  rintro _ _ ⟨rfl, rfl⟩
  rw [HUE.out]
  go_wp2_with fail
  go_loopw [7, 20] (fun o i wr => ∃ k : Nat, k ≤ l.length ∧ i = .int .i64 k ∧ IntsFrom w.heap.size wr o (unevTo l u k) ∧ w.grownBy wr none) (fun _ i _ => l.length - (intOf i).toNat)
  case atStart => exact ⟨0, by omega, rfl, IntsFrom.nil _ _, gr_refl _ _⟩
  case round =>
    obtain ⟨k, hk, rfl, hown, hgr⟩ := hrel
    by_cases hlt : k < l.length
    · obtain ⟨g, rfl, hg0, hg1⟩ := HA.out (by omega)
      have hkl : (k : Int) < (l.length : Int) := by omega
      have cx := (HL.out.grown hgr).at_ k hlt
      have hx := HBD.out l[k] (List.getElem_mem hlt)
      have hon := nearO_bd (x := l[k]) (u := u) (markB k) (by omega) (by omega) (by omega) (by omega)
      have HN : Hid (unevTo l u (k + 1) = if u < 2 * nearO (markB k) l[k] u then unevTo l u k ++ [(k : Int)] else unevTo l u k) := by
        show (if u < 2 * nearO (markB k) (l.getD k 0) u then _ else _) = _
        rw [List.getD_eq_getElem?_getD, List.getElem?_eq_getElem hlt]; rfl
      have HNE := Lib.hid (fun W => nearest_any l[k] u (markB k) W (by omega) (by omega) (by omega) (by omega))
      have HI := Lib.hid (fun W => isMark_any k W (by omega))
      have hol := unevTo_len l u k
      generalize nearO (markB k) l[k] u = D at *
      generalize nearU (markB k) l[k] u = U at *
      generalize l[k] = x at *
      generalize unevTo l u k = O at *
      generalize markB k = mk at *
      obtain ⟨A2, c2, rfl, hlen2, hsh⟩ := hown.shape
      clear hsh
      by_cases hD : u < 2 * D
      · go_wp2_with fail
        refine (HI.out _).mono ?_
        rintro _ _ ⟨rfl, rfl⟩
        go_wp2_with fail
        refine (HNE.out _).mono ?_
        rintro _ w3 ⟨rfl, hg3⟩
        have hG3 := gr_trans hgr hg3
        have hown1 : w3.ownsRow w.heap.size 3 1 (.slice A2 O.length c2) O.length (O.map (Value.int .i64)) := hown.grown hg3
        have hrow : ∀ g, (Value.slice A2 O.length c2).ownBlock = some g → w.heap.size ≤ g := fun g e => (hown1.lt g e).1
        have HROW := Lib.hid hrow
        have hz3 := hG3.size
        clear hown hg3 hrow
        go_wp2_with (at_builtin; refine wpList_append_own _ rfl _ _ 22 rfl w.heap.size 3 i0 _ 1 8 Tryd.underlying22 hi hz0 hz1 hz2 rfl (by decide) _ _ _ rfl (hown1.alloc _) ⟨w3.heap.size, 0, none⟩ 1 1 [.int .i64 (k : Int)] rfl rfl (one_cell w3 (k : Int) _) (one_oneCell (k : Int)) (by unfold maxLen; omega) (by omega) (by simp; omega) ?_; intro v' w4 hown2 hgrow2 _)
        have hG4 : w.grownBy w4 none := gr_grown (gr_alloc hG3 _) hgrow2 (fun g e => .inr (HROW.out g e))
        have hown3 : IntsFrom w.heap.size w4 v' (O ++ [(k : Int)]) := by
          unfold IntsFrom; rw [List.map_append, List.length_append]; exact hown2
        go_wp2_with fail
        go_roundw
        case rel => exact ⟨k + 1, by omega, by go_num, by rw [HN.out, if_pos hD]; exact hown3, hG4⟩
        case measure => simp [intOf]; omega
      · go_wp2_with fail
        refine (HI.out _).mono ?_
        rintro _ _ ⟨rfl, rfl⟩
        go_wp2_with fail
        refine (HNE.out _).mono ?_
        rintro _ w3 ⟨rfl, hg3⟩
        go_wp2_with fail
        go_roundw
        case rel => exact ⟨k + 1, by omega, by go_num, by rw [HN.out, if_neg (by omega)]; exact hown.grown hg3, gr_trans hgr hg3⟩
        case measure => simp [intOf]; omega
    · have hkl : ¬ (k : Int) < (l.length : Int) := by omega
      obtain rfl : k = l.length := by omega
      go_wp2_with fail
      go_ret2
      exact ⟨_, rfl, hown, hgr⟩

/-- What Uneven hands back. -/
def UnevPost (l : List Int) (u : Int) (w : World) (r : Ending) (w' : World) : Prop :=
  ∃ o, r = .returned (.tuple #[o, .int .i64 (unitE l u)]) ∧ IntsFrom w.heap.size w' o (if unitE l u = 0 then unevTo l u l.length else []) ∧ w.grownBy w' none
theorem spanE_zero {x lo hi : Int} (h : spanE x lo hi = 0) : lo ≤ x ∧ x ≤ hi := by
  rcases spanE_cases x lo hi with ⟨_, h1, h2⟩ | ⟨h1, _⟩
  · exact ⟨h1, h2⟩
  · omega
theorem unitE_zero {l : List Int} {u : Int} (h : unitE l u = 0) : marksE l = 0 ∧ 1 ≤ u ∧ u ≤ 2000 := by
  unfold unitE at h
  by_cases h0 : marksE l = 0
  · rw [if_pos h0] at h
    exact ⟨h0, spanE_zero h⟩
  · rw [if_neg h0] at h
    exact absurd h h0
set_option maxHeartbeats 1000000 in
theorem uneven_any (base : Nat) (v : Value) (l : List Int) (u : Int) (w : World) (hl : IntsFrom base w v l) :
    Calls Tryd.prog 12 #[v, .int .i64 u] w (UnevPost l u w) := by
  by_cases h0 : unitE l u = 0
  · obtain ⟨hE, u0, u1⟩ := unitE_zero h0
    refine (uneven_ok base v l u w hl hE u0 u1).mono ?_
    rintro _ w' ⟨o, rfl, ho, hg⟩
    exact ⟨o, by rw [h0], by rw [if_pos h0]; exact ho, hg⟩
  · have hb : (unitE l u != 0) = true := by rw [bne_iff_ne]; exact h0
    have HU := Lib.hid (unitFault_any base v l u w hl)
    unfold UnevPost
    simp only [if_neg h0]
    generalize unitE l u = E at *
    go_enter Tryd.func12, Tryd.ntmps12
    go_wp2_with fail
    refine HU.out.mono ?_
    rintro _ _ ⟨rfl, rfl⟩
    go_wp2_with fail
    go_ret2
    exact ⟨_, rfl, IntsFrom.nil _ _, gr_refl _ _⟩
end Go.Proofs.YtcimnlcmpfagnaaDoor
