/- The walks over the document's UnevenOf and MarksFault. Condition: right marks and a right unit. -/
import Derived.Test.YtcimnlcmpfagnaaDoorNearRef
import Derived.Test.YtcimnlcmpfagnaaDoorUneven
namespace Go.Proofs.YtcimnlcmpfagnaaDoor
open Go.RowKit
set_option linter.unusedVariables false
set_option linter.unusedSimpArgs false

set_option maxRecDepth 100000 in
set_option maxHeartbeats 4000000 in
theorem unevenOf_any (base : Nat) (v : Value) (l : List Int) (u : Int) (w : World) (hl : IntsFrom base w v l) (hE : marksE l = 0) (u0 : 1 ≤ u) (u1 : u ≤ 2000) :
    Calls Tryd.prog 18 #[v, .int .i64 u] w fun r w' => ∃ o, r = .returned o ∧ IntsFrom w.heap.size w' o (unevTo l u l.length) ∧ w.grownBy w' none := by
  obtain ⟨i0, hi, hz0, hz1, hz2⟩ := info_parts intInfo
  obtain ⟨A, c, rfl, hlen, hA⟩ := hl.shape
  obtain ⟨h1, h2, h3⟩ := marksE_ok hE
  have HL := Lib.hid hl
  have HA := Lib.hid hA
  have HBD := Lib.hid h3
  clear hl hA h3 hE h1
  go_enter Tryd.func18, Tryd.ntmps18
  go_wp2_with fail
  go_loopw [5, 11] (fun o i wr => ∃ k : Nat, k ≤ l.length ∧ i = .int .i64 k ∧ IntsFrom w.heap.size wr o (unevTo l u k) ∧ w.grownBy wr none) (fun _ i _ => l.length - (intOf i).toNat)
  case atStart => exact ⟨0, by omega, rfl, IntsFrom.nil _ _, gr_refl _ _⟩
  case round =>
    obtain ⟨k, hk, rfl, hown, hgr⟩ := hrel
    by_cases hlt : k < l.length
    · obtain ⟨g, rfl, hg0, hg1⟩ := HA.out (by omega)
      have hkl : (k : Int) < (l.length : Int) := by omega
      have cx := (HL.out.grown hgr).at_ k hlt
      have hx := HBD.out l[k] (List.getElem_mem hlt)
      have hon := nearO_bd (x := l[k]) (u := u) (markB k) (by omega) (by omega) (by omega) (by omega)
      have HN : Hid (unevTo l u (k + 1) = if u < 2 * nearO (markB k) l[k] u then unevTo l u k ++ [(k : Int)] else unevTo l u k) := by
        show (if u < 2 * nearO (markB k) (l.getD k 0) u then _ else _) = _
        rw [List.getD_eq_getElem?_getD, List.getElem?_eq_getElem hlt]; rfl
      have HNE := Lib.hid (refNear_any base _ l k u wr (HL.out.grown hgr) hlt (by omega) (by omega) (by omega) (by omega) (by omega))
      have hol := unevTo_len l u k
      generalize nearO (markB k) l[k] u = D at *
      generalize nearU (markB k) l[k] u = U at *
      generalize l[k] = x at *
      generalize unevTo l u k = O at *
      generalize markB k = mk at *
      obtain ⟨A2, c2, rfl, hlen2, hsh⟩ := hown.shape
      clear hsh
      by_cases hD : u < 2 * D
      · go_wp2_with fail
        refine HNE.out.mono ?_
        rintro _ w3 ⟨rfl, hg3⟩
        have hG3 := gr_trans hgr hg3
        have hown1 : w3.ownsRow w.heap.size 3 1 (.slice A2 O.length c2) O.length (O.map (Value.int .i64)) := hown.grown hg3
        have hrow : ∀ g, (Value.slice A2 O.length c2).ownBlock = some g → w.heap.size ≤ g := fun g e => (hown1.lt g e).1
        have HROW := Lib.hid hrow
        have hz3 := hG3.size
        clear hown hg3 hrow
        go_wp2_with (at_builtin; refine wpList_append_own _ rfl _ _ 22 rfl w.heap.size 3 i0 _ 1 8 Tryd.underlying22 hi hz0 hz1 hz2 rfl (by decide) _ _ _ rfl (hown1.alloc _) ⟨w3.heap.size, 0, none⟩ 1 1 [.int .i64 (k : Int)] rfl rfl (one_cell w3 (k : Int) _) (one_oneCell (k : Int)) (by unfold maxLen; omega) (by omega) (by simp; omega) ?_; intro v' w4 hown2 hgrow2 _)
        have hG4 : w.grownBy w4 none := gr_grown (gr_alloc hG3 _) hgrow2 (fun g e => .inr (HROW.out g e))
        have hown3 : IntsFrom w.heap.size w4 v' (O ++ [(k : Int)]) := by
          unfold IntsFrom; rw [List.map_append, List.length_append]; exact hown2
        go_wp2_with fail
        go_roundw
        case rel => exact ⟨k + 1, by omega, by go_num, by rw [HN.out, if_pos hD]; exact hown3, hG4⟩
        case measure => simp [intOf]; omega
      · go_wp2_with fail
        refine HNE.out.mono ?_
        rintro _ w3 ⟨rfl, hg3⟩
        go_wp2_with fail
        go_roundw
        case rel => exact ⟨k + 1, by omega, by go_num, by rw [HN.out, if_neg (by omega)]; exact hown.grown hg3, gr_trans hgr hg3⟩
        case measure => simp [intOf]; omega
    · have hkl : ¬ (k : Int) < (l.length : Int) := by omega
      obtain rfl : k = l.length := by omega
      go_wp2_with fail
      go_ret
      exact ⟨_, rfl, hown, hgr⟩


theorem badM_span (x : Int) : spanE x 1 100000 = if badM x then 1 else 0 := rfl
theorem any_take_no {p : Int → Bool} {l : List Int} (h : ∀ j (hj : j < l.length), p l[j] = false) : l.any p = false := by
  rw [List.any_eq_false]
  intro x hx
  obtain ⟨j, hj, rfl⟩ := List.getElem_of_mem hx
  rw [h j hj]; simp
set_option maxRecDepth 100000 in
set_option maxHeartbeats 4000000 in
theorem marksFault_any (base : Nat) (v : Value) (l : List Int) (w : World) (hl : IntsFrom base w v l) :
    Calls Tryd.prog 9 #[v] w fun r w' => r = .returned (.int .i64 (marksE l)) ∧ w = w' := by
  obtain ⟨A, c, rfl, hlen, hA⟩ := hl.shape
  have HL := Lib.hid hl
  have HA := Lib.hid hA
  clear hl hA
  by_cases h0 : l.length = 0
  · have HE : Hid (marksE l = 8) := by show _ = _; unfold marksE; rw [if_pos h0]
    have h1 : ((l.length : Int) == 0) = true := by rw [beq_iff_eq]; omega
    generalize l.length = N at *
    go_enter Tryd.func9, Tryd.ntmps9
    go_wp2_with fail
    go_ret
    exact ⟨by rw [HE.out]; rfl, rfl⟩
  · have h1 : ((l.length : Int) == 0) = false := by rw [beq_eq_false_iff_ne]; omega
    by_cases h2 : 20000 < l.length
    · have HE : Hid (marksE l = 2) := by show _ = _; unfold marksE; rw [if_neg h0, if_pos h2]
      have h3 : (20000 : Int) < (l.length : Int) := by omega
      generalize l.length = N at *
      go_enter Tryd.func9, Tryd.ntmps9
      go_wp2_with fail
      go_ret
      exact ⟨by rw [HE.out]; rfl, rfl⟩
    · have h3 : ¬ (20000 : Int) < (l.length : Int) := by omega
      by_cases h4 : l.length % 2 = 0
      · have HE : Hid (marksE l = 3) := by show _ = _; unfold marksE; rw [if_neg h0, if_neg h2, if_pos h4]
        have h5 : (l.length : Int) % 2 = 0 := by omega
        generalize l.length = N at *
        go_enter Tryd.func9, Tryd.ntmps9
        go_wp2_with fail
        go_ret
        exact ⟨by rw [HE.out]; rfl, rfl⟩
      · have HE : Hid (marksE l = if l.any badM = true then 1 else 0) := by show _ = _; unfold marksE; rw [if_neg h0, if_neg h2, if_neg h4]
        have h5 : (l.length : Int) % 2 = 1 := by omega
        have HSP := Lib.hid (fun x W => spanFault_any x 1 100000 W)
        go_enter Tryd.func9, Tryd.ntmps9
        go_wp2_with fail
        clear h5 h1
        go_loop [21] (fun i => ∃ k : Nat, k ≤ l.length ∧ i = .int .i64 k ∧ ∀ j (hj : j < l.length), j < k → badM l[j] = false) (fun i => l.length - (intOf i).toNat)
        case atStart => exact ⟨0, by omega, rfl, fun j hj h => by omega⟩
        case round =>
          obtain ⟨k, hk, rfl, hno⟩ := hrel
          have HNO := Lib.hid hno
          clear hno
          by_cases hlt : k < l.length
          · have hkl : (k : Int) < (l.length : Int) := by omega
            obtain ⟨g, rfl, _, _⟩ := HA.out (by omega)
            have cx := HL.out.at_ k hlt
            have HS := Lib.hid (HSP.out l[k] w)
            have HB : Hid (badM l[k] = true → l.any badM = true) := fun h => List.any_eq_true.2 ⟨_, List.getElem_mem hlt, h⟩
            have HNX : Hid (badM l[k] = false → ∀ j (hj : j < l.length), j < k + 1 → badM l[j] = false) := fun h j hj hlt2 => by
              by_cases e : j = k
              · subst e; exact h
              · exact HNO.out j hj (by omega)
            have hsp := badM_span l[k]
            rw [hsp] at HS
            clear hsp
            generalize l[k] = x at *
            cases hb : badM x
            · rw [hb] at HS HNX
              have HNX2 := Lib.hid (HNX.out rfl)
              clear hb HNX HB
              go_wp2_with fail
              refine HS.out.mono ?_
              rintro _ _ ⟨rfl, rfl⟩
              go_wp2_with fail
              go_round
              case rel => exact ⟨k + 1, by omega, by go_num, HNX2.out⟩
              case measure => simp [intOf]; omega
            · rw [hb] at HS HB
              have HE2 : Hid (marksE l = 1) := by show _ = _; rw [HE.out, if_pos (HB.out rfl)]
              clear hb HNX HB
              go_wp2_with fail
              refine HS.out.mono ?_
              rintro _ _ ⟨rfl, rfl⟩
              go_wp2_with fail
              go_ret
              exact ⟨by rw [HE2.out]; rfl, rfl⟩
          · have hkl : ¬ (k : Int) < (l.length : Int) := by omega
            have HE2 : Hid (marksE l = 0) := by
              show _ = _
              rw [HE.out, any_take_no (fun j hj => HNO.out j hj (by omega))]; rfl
            obtain rfl : k = l.length := by omega
            go_wp2_with fail
            go_ret
            exact ⟨by rw [HE2.out]; rfl, rfl⟩
end Go.Proofs.YtcimnlcmpfagnaaDoor
