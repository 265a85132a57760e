/- rate.Ahead where the second slice has less capacity than its row (as 't[:n:n]'), and what it calls. Condition: no error; at most 1000 times each. -/
import Derived.Test.YtnapbnkbchaanaaGreatDoorAhead
namespace Go.Proofs.YtnapbnkbchaanaaGreatDoor
open Go.RowKit
set_option linter.unusedVariables false

theorem IntsFrom.cutShape {base : Nat} {w : World} {A : Option Addr} {c0 : Nat} {l : List Int} (h : IntsFrom base w (.slice A l.length c0) l) : l.length ≤ 9223372036854775807 ∧ (0 < l.length → ∃ g, A = some ⟨g, 0, none⟩ ∧ base ≤ g ∧ g < w.heap.size) := by
  obtain ⟨A', c', he, hlen, hA⟩ := h.shape
  injection he with e1 e2 e3
  subst e1
  exact ⟨hlen, hA⟩

set_option maxHeartbeats 2000000 in
theorem checkTimes_cut (base : Nat) (A : Option Addr) (c c0 : Nat) (l : List Int) (a zt : Int) (w : World) (hl : IntsFrom base w (.slice A l.length c0) l) (hto : -1152921504606846976 ≤ zt) (hto2 : zt ≤ 1152921504606846976) :
    Calls Tryz.prog 102 #[.slice A l.length c, .agg #[.int .i64 a, .int .i64 zt]] w fun r w' => r = .returned (.int .i64 (timesE l a zt)) ∧ w.grownBy w' none := by
  obtain ⟨hlen, hA⟩ := hl.cutShape
  rcases hb : timeB a zt
  · have HE : Hid (timesE l a zt = 1) := by show _ = _; unfold timesE; rw [if_pos hb]
    go_enter Tryz.func102, Tryz.ntmps102
    go_wp2_with fail
    refine (isTime_any _ _ _ hto hto2).mono ?_
    rintro r w1 ⟨rfl, hg1⟩
    go_wp2_with fail
    go_ret
    exact ⟨ret_of HE.out.symm, gr_trans (World.grownBy_alloc w _ none) hg1⟩
  · by_cases hbig : 2000 < l.length
    · have HE : Hid (timesE l a zt = 2) := by show _ = _; unfold timesE; rw [if_neg (by simp [hb]), if_pos hbig]
      have hbig' : (2000 : Int) < (l.length : Int) := by omega
      go_enter Tryz.func102, Tryz.ntmps102
      go_wp2_with fail
      refine (isTime_any _ _ _ hto hto2).mono ?_
      rintro r w1 ⟨rfl, hg1⟩
      go_wp2_with fail
      go_ret
      exact ⟨ret_of HE.out.symm, gr_trans (World.grownBy_alloc w _ none) hg1⟩
    · have HE : Hid (timesE l a zt = scanT a zt none l) := by show _ = _; unfold timesE; rw [if_neg (by simp [hb]), if_neg hbig]
      have hbig' : ¬ (2000 : Int) < (l.length : Int) := by omega
      have HL := Lib.hid hl
      clear hl
      go_enter Tryz.func102, Tryz.ntmps102
      go_wp2_with fail
      refine (isTime_any _ _ _ hto hto2).mono ?_
      rintro r w1 ⟨rfl, hg1⟩
      have hw1 := (Blk.new w 71 #[.int .i64 a, .int .i64 zt]).grown hg1 (by simp)
      have hG1 := gr_trans (World.grownBy_alloc w (.cells #[.int .i64 a, .int .i64 zt] 71) none) hg1
      clear hg1
      go_wp2_with fail
      go_loopw [15] (fun i wr => ∃ k : Nat, k ≤ l.length ∧ i = .int .i64 k ∧ Hid (scanT a zt none l = scanT a zt (prevI l k) (l.drop k)) ∧ w.grownBy wr none ∧ Blk wr w.heap.size 71 #[.int .i64 a, .int .i64 zt]) (fun i _ => l.length - (intOf i).toNat)
      case atStart => exact ⟨0, by omega, rfl, rfl, hG1, hw1⟩
      case round =>
        obtain ⟨k, hk, rfl, HR, hG, hW⟩ := hrel
        by_cases hlt : k < l.length
        · obtain ⟨g, rfl, hg0, hg1⟩ := hA (by omega)
          have hkl : (k : Int) < (l.length : Int) := by omega
          have cx := (HL.out.grown hG).at_ k hlt
          have b0 : wr.cell? ⟨w.heap.size, 0, none⟩ = some (.int .i64 a) := hW.cell 0
          have b1 : wr.cell? ⟨w.heap.size, 1, none⟩ = some (.int .i64 zt) := hW.cell 1
          have hd := List.drop_eq_getElem_cons hlt
          have hpn := prevI_succ l k hlt
          have hpk := fun h0 => prevI_pos l k h0 hlt
          have HN : Hid (scanT a zt none l = scanT a zt (prevI l k) (l[k] :: l.drop (k + 1))) := by show _ = _; rw [HR.out, hd]
          have HP := Lib.hid hpn
          have HQ := Lib.hid hpk
          clear hd hpn hpk
          have cp : 0 < k → wr.cell? ⟨g, k - 1, none⟩ = some (.int .i64 (l[k - 1]'(by omega))) := fun h0 => (HL.out.grown hG).at_ (k - 1) (by omega)
          obtain ⟨x, hx⟩ : ∃ x, x = l[k] := ⟨_, rfl⟩
          rw [← hx] at cx HN HP
          clear hx HR
          rcases hh : hasB a zt x
          · have HF := Lib.hid (HN.out.trans (scanT_bad hh))
            go_wp2_with fail
            refine (has_any _ _ _ _).mono ?_
            rintro _ w2 ⟨rfl, hg2⟩
            go_wp2_with fail
            go_ret
            exact ⟨ret_of (HE.out.trans HF.out).symm, gr_trans hG hg2⟩
          · by_cases h0 : 0 < k
            · have c1 := cp h0
              have hq := HQ.out h0
              obtain ⟨y, hy⟩ : ∃ y, y = l[k - 1]'(by omega) := ⟨_, rfl⟩
              rw [← hy] at c1 hq
              have HY := Lib.hid hq
              clear hy cp hq HQ
              obtain ⟨m, rfl⟩ : ∃ m, k = m + 1 := ⟨k - 1, by omega⟩
              have c2 : wr.cell? ⟨g, m, none⟩ = some (.int .i64 y) := c1
              clear c1
              have hkp : (0 : Int) < ((m + 1 : Nat) : Int) := by omega
              by_cases hxy : x < y
              · have HF : Hid (scanT a zt none l = 7) := by show _ = _; rw [HN.out, HY.out]; exact scanT_order hh hxy
                go_wp2_with fail
                refine (has_any _ _ _ _).mono ?_
                rintro _ w2 ⟨rfl, hg2⟩
                have c3 : w2.cell? ⟨g, m, none⟩ = some (.int .i64 y) := hg2.cell c2 (by simp)
                clear c2
                go_wp2_with fail
                go_ret
                exact ⟨ret_of (HE.out.trans HF.out).symm, gr_trans hG hg2⟩
              · have HF : Hid (scanT a zt none l = scanT a zt (prevI l (m + 1 + 1)) (l.drop (m + 1 + 1))) := by
                  show _ = _
                  rw [HN.out, HP.out, HY.out]
                  exact scanT_next hh (fun z hz => by injection hz with hz; omega)
                go_wp2_with fail
                refine (has_any _ _ _ _).mono ?_
                rintro _ w2 ⟨rfl, hg2⟩
                have c3 : w2.cell? ⟨g, m, none⟩ = some (.int .i64 y) := hg2.cell c2 (by simp)
                clear c2
                have hG2 := gr_trans hG hg2
                have hW2 := hW.grown hg2 (by simp)
                go_wp2_with fail
                go_roundw
                case rel => exact ⟨m + 1 + 1, by omega, by go_num, HF, hG2, hW2⟩
                case measure => simp [intOf]; omega
            · obtain rfl : k = 0 := by omega
              have HF : Hid (scanT a zt none l = scanT a zt (prevI l (0 + 1)) (l.drop (0 + 1))) := by
                show _ = _
                rw [HN.out, HP.out]
                exact scanT_next hh (fun z hz => by simp [prevI] at hz)
              clear cp HQ
              go_wp2_with fail
              refine (has_any _ _ _ _).mono ?_
              rintro _ w2 ⟨rfl, hg2⟩
              have hG2 := gr_trans hG hg2
              have hW2 := hW.grown hg2 (by simp)
              go_wp2_with fail
              go_roundw
              case rel => exact ⟨0 + 1, by omega, by go_num, HF, hG2, hW2⟩
              case measure => simp [intOf]; omega
        · have HF : Hid (scanT a zt none l = 0) := by
            show _ = _
            rw [HR.out, List.drop_of_length_le (by omega)]
            cases prevI l k <;> rfl
          have hkl : ¬ (k : Int) < (l.length : Int) := by omega
          go_wp2_with fail
          go_ret
          exact ⟨ret_of (HE.out.trans HF.out).symm, hG⟩

set_option maxHeartbeats 400000 in
theorem before_cut (base : Nat) (A : Option Addr) (c c0 : Nat) (l : List Int) (x : Int) (w : World) (hl : IntsFrom base w (.slice A l.length c0) l) (hs : l.Pairwise (· ≤ ·)) (hn : l.length ≤ 1000000) :
    Calls Tryz.prog 109 #[.slice A l.length c, .int .i64 x] w fun r w' => r = .returned (.int .i64 (cntLt l x)) ∧ ∃ m, w' = w.drewN m := by
  obtain ⟨hlen, hA⟩ := hl.cutShape
  have hb := cntLt_bd l x
  rcases Nat.eq_zero_or_pos l.length with h0 | h0
  · have hl0 : l = [] := List.eq_nil_of_length_eq_zero h0
    subst hl0
    have HA := Lib.hid hA
    have HL := Lib.hid hl
    clear hA hl
    go_enter Tryz.func109, Tryz.ntmps109
    go_wp2_with fail
    refine (Tryz.slices_BinarySearch_int_empty A c x _).mono ?_
    rintro _ w1 ⟨rfl, rfl⟩
    go_wp2_with fail
    go_ret
    exact ⟨rfl, 0, rfl⟩
  · obtain ⟨g, rfl, _, _⟩ := hA h0
    have hc : ∀ j, j < l.length → w.cell? ⟨g, 0 + j, none⟩ = some (.int .i64 (l.getD j 0)) := fun j hj => by
      rw [Nat.zero_add, hl.at_ j hj]
      simp [List.getD, hj]
    have htk : l.take l.length = l := List.take_length
    have HB := Tryz.slices_BinarySearch_int g 0 l.length c l x w (Nat.le_refl _) (by omega) hc (by rw [htk]; exact hs)
    rw [htk] at HB
    have HB2 := Lib.hid HB
    have HL := Lib.hid hl
    have HS := Lib.hid hs
    clear HB hc hA hl hs htk
    go_enter Tryz.func109, Tryz.ntmps109
    go_wp2_with fail
    refine HB2.out.mono ?_
    rintro _ w1 ⟨rfl, q, rfl⟩
    go_wp2_with fail
    go_ret
    exact ⟨rfl, q, rfl⟩

theorem before_cutgr (base : Nat) (A : Option Addr) (c c0 : Nat) (l : List Int) (x : Int) (w : World) (hl : IntsFrom base w (.slice A l.length c0) l) (hs : l.Pairwise (· ≤ ·)) (hn : l.length ≤ 1000000) :
    Calls Tryz.prog 109 #[.slice A l.length c, .int .i64 x] w fun r w' => r = .returned (.int .i64 (cntLt l x)) ∧ w.grownBy w' none := by
  refine (before_cut base A c c0 l x w hl hs hn).mono ?_
  rintro r w' ⟨rfl, m, rfl⟩
  exact ⟨rfl, gr_drewN (gr_refl _ _) m⟩

set_option maxRecDepth 100000 in
set_option maxHeartbeats 4000000 in
theorem concat_cut (base g c : Nat) (u : Value) (B : Option Addr) (cb cb0 : Nat) (a b : List Int) (w : World) (hu : IntsFrom base w u a) (hv : IntsFrom base w (.slice B b.length cb0) b) (hcb : B = none → cb = 0) (hbc : b.length ≤ cb) (hcm : cb ≤ cb0) (hg : Blk w g 22 #[u, .slice B b.length cb]) (ha : a.length ≤ 1000000) (hb : b.length ≤ 1000000) :
    Calls Tryz.prog 106 #[.slice (some ⟨g, 0, none⟩) 2 c] w (ConcatPost a b w) := by
  obtain ⟨i0, hi, hz0, hz1, hz2⟩ := info_parts intInfo
  obtain ⟨A, ca, rfl, hla, _⟩ := hu.shape
  have hlb := hv.cutShape.1
  have HCB := Lib.hid hcb
  clear hcb
  have c0 := hg.cell 0
  have c1 := hg.cell 1
  simp only [List.getElem?_toArray, List.getElem?_cons_zero, List.getElem?_cons_succ] at c0 c1
  have HU := Lib.hid hu
  have HV := Lib.hid hv
  clear hu hv
  go_enter Tryz.func106, Tryz.ntmps106
  go_wp2_with fail
  go_loopw [3, 11] (fun s i wr => ∃ k : Nat, k ≤ 2 ∧ i = .int .i64 k ∧ s = .int .i64 (szAt a.length b.length k : Nat) ∧ w.grownBy wr none) (fun _ i _ => 2 - (intOf i).toNat)
  case atStart => exact ⟨0, by omega, rfl, rfl, gr_refl _ _⟩
  case round =>
    obtain ⟨k, hk, rfl, rfl, hgr⟩ := hrel
    have hg1 := hg.grown hgr (by simp)
    have d0 := hg1.cell 0
    have d1 := hg1.cell 1
    simp only [List.getElem?_toArray, List.getElem?_cons_zero, List.getElem?_cons_succ] at d0 d1
    rcases (show k = 0 ∨ k = 1 ∨ k = 2 by omega) with rfl | rfl | rfl
    · have z0 : szAt a.length b.length 0 = 0 := rfl
      rw [z0]
      go_wp2_with fail
      go_roundw
      case rel => exact ⟨1, by omega, rfl, by unfold szAt; go_num, hgr⟩
      case measure => simp [intOf]
    · have z0 : szAt a.length b.length 1 = a.length := rfl
      rw [z0]
      have hn : ¬ ((a.length : Int) + (b.length : Int) < 0) := by omega
      go_wp2_with fail
      go_roundw
      case rel => exact ⟨2, by omega, rfl, by unfold szAt; go_num, hgr⟩
      case measure => simp [intOf]
    · have z0 : szAt a.length b.length 2 = a.length + b.length := rfl
      rw [z0]
      clear d0 d1
      go_wp2_with fail
      rw [show (a.length : Int) + (b.length : Int) = ((a.length + b.length : Nat) : Int) by omega]
      refine (growNil_any _ _ (by omega)).mono ?_
      rintro _ w1 ⟨o, rfl, ho, hgo, hgn⟩
      have HN0 : Hid (a ++ b = [] → o = .slice none 0 0) := fun h => hgn (by have := congrArg List.length h; simpa using this)
      have hG1 := gr_trans hgr hgo
      have hgs := hgr.size
      have ho' := ownsRow_low (base' := w.heap.size) ho hgs
      clear ho hgo hgr hg1 hgn
      go_wp2_with fail
      go_loopw [6, 27] (fun o i wr => ∃ k : Nat, k ≤ 2 ∧ i = .int .i64 k ∧ IntsFrom w.heap.size wr o (catAt a b k) ∧ w.grownBy wr none ∧ Hid (a ++ b = [] → o = .slice none 0 0)) (fun _ i _ => 2 - (intOf i).toNat)
      case atStart => exact ⟨0, by omega, rfl, ho', hG1, HN0⟩
      case round =>
        obtain ⟨k, hk, rfl, hown, hgr, HNN⟩ := hrel
        have hg1 := hg.grown hgr (by simp)
        have d0 := hg1.cell 0
        have d1 := hg1.cell 1
        simp only [List.getElem?_toArray, List.getElem?_cons_zero, List.getElem?_cons_succ] at d0 d1
        obtain ⟨A2, c2, rfl, hlen2, _⟩ := hown.shape
        rcases (show k = 0 ∨ k = 1 ∨ k = 2 by omega) with rfl | rfl | rfl
        · have zc : (catAt a b 0).length = 0 := rfl
          rw [zc]
          clear zc
          have hown0 : wr.ownsRow w.heap.size 3 1 (.slice A2 0 c2) 0 [] := hown
          have hsz := hgr.size
          have hrow : ∀ kk, (Value.slice A2 0 c2).ownBlock = some kk → w.heap.size ≤ kk := fun kk h => (hown0.lt kk h).1
          rcases ints_none (HU.out.grown hgr) with ⟨he, hn0⟩ | ⟨ga, cx, he, hga, _⟩
          · injection he with e1 e2 e3
            subst e1; subst e3
            have hl0 : a.length = 0 := by rw [hn0]; rfl
            have HN := Lib.hid hn0
            rw [hl0] at d0
            clear hn0 e2 hl0
            go_wp2_with (at_builtin; refine wpList_append_own_none rfl _ _ 22 rfl w.heap.size 3 i0 1 Tryz.underlying22 hi _ _ _ rfl hown0 rfl ?_)
            go_roundw
            case rel => exact ⟨1, by omega, rfl, by rw [show catAt a b 1 = [] by show a = []; exact HN.out]; exact hown, hgr, HNN⟩
            case measure => simp [intOf]
          · injection he with e1 e2 e3
            subst e1; subst e3
            have hsrc := Lib.hid (HU.out.grown hgr)
            clear e2
            go_wp2_with (at_builtin; refine wpList_append_own _ rfl _ _ 22 rfl w.heap.size 3 i0 _ 1 8 Tryz.underlying22 hi hz0 hz1 hz2 rfl (by decide) _ _ _ rfl hown0 ⟨ga, 0, none⟩ a.length ca (a.map (Value.int .i64)) rfl (by simp) (ints_cells hsrc.out) (ints_one a) (by unfold maxLen; omega) (by omega) hsz ?_; intro v' w4 hownB hgrB hiff; have HIF := Lib.hid hiff; clear hiff)
            have hgF : w.grownBy w4 none := gr_grown hgr hgrB (fun kk h => .inr (hrow kk h))
            have hownC : IntsFrom w.heap.size w4 v' (catAt a b 1) := by
              unfold IntsFrom
              show w4.ownsRow w.heap.size 3 1 v' a.length (a.map _)
              simpa using hownB
            go_wp2_with fail
            go_roundw
            case rel => exact ⟨1, by omega, rfl, hownC, hgF, fun h => HIF.out.2 ⟨HNN.out h, by obtain ⟨h1, h2⟩ := List.append_eq_nil_iff.1 h; first | (rw [h1]; rfl) | (rw [h2]; rfl)⟩⟩
            case measure => simp [intOf]
        · have zc : (catAt a b 1).length = a.length := rfl
          rw [zc]
          clear zc
          have hown0 : wr.ownsRow w.heap.size 3 1 (.slice A2 a.length c2) a.length (a.map (Value.int .i64)) := hown
          have hsz := hgr.size
          have hrow : ∀ kk, (Value.slice A2 a.length c2).ownBlock = some kk → w.heap.size ≤ kk := fun kk h => (hown0.lt kk h).1
          rcases ints_none (HV.out.grown hgr) with ⟨he, hn0⟩ | ⟨ga, cx, he, hga, _⟩
          · injection he with e1 e2 e3
            subst e1
            have e4 := HCB.out rfl
            subst e4
            subst e3
            have hl0 : b.length = 0 := by rw [hn0]; rfl
            have HN := Lib.hid hn0
            rw [hl0] at d1
            clear hn0 e2 hl0
            go_wp2_with (at_builtin; refine wpList_append_own_none rfl _ _ 22 rfl w.heap.size 3 i0 1 Tryz.underlying22 hi _ _ _ rfl hown0 rfl ?_)
            go_roundw
            case rel => exact ⟨2, by omega, rfl, by rw [show catAt a b 2 = a by show a ++ b = a; rw [HN.out, List.append_nil]]; exact hown, hgr, HNN⟩
            case measure => simp [intOf]
          · injection he with e1 e2 e3
            subst e1; subst e3
            have hsrc := Lib.hid (HV.out.grown hgr)
            clear e2
            go_wp2_with (at_builtin; refine wpList_append_own _ rfl _ _ 22 rfl w.heap.size 3 i0 _ 1 8 Tryz.underlying22 hi hz0 hz1 hz2 rfl (by decide) _ _ _ rfl hown0 ⟨ga, 0, none⟩ b.length cb (b.map (Value.int .i64)) rfl (by simp) (ints_cells hsrc.out) (ints_one b) (by unfold maxLen; omega) (by omega) hsz ?_; intro v' w4 hownB hgrB hiff; have HIF := Lib.hid hiff; clear hiff)
            have hgF : w.grownBy w4 none := gr_grown hgr hgrB (fun kk h => .inr (hrow kk h))
            have hownC : IntsFrom w.heap.size w4 v' (catAt a b 2) := by
              unfold IntsFrom
              show w4.ownsRow w.heap.size 3 1 v' (a ++ b).length ((a ++ b).map _)
              rw [List.map_append, List.length_append]; exact hownB
            go_wp2_with fail
            go_roundw
            case rel => exact ⟨2, by omega, rfl, hownC, hgF, fun h => HIF.out.2 ⟨HNN.out h, by obtain ⟨h1, h2⟩ := List.append_eq_nil_iff.1 h; first | (rw [h1]; rfl) | (rw [h2]; rfl)⟩⟩
            case measure => simp [intOf]
        · go_wp2_with fail
          go_ret
          exact ⟨_, rfl, hown, hgr, HNN.out⟩

set_option maxRecDepth 100000 in
set_option maxHeartbeats 4000000 in
theorem ahead_cut (base : Nat) (u : Value) (B : Option Addr) (cb cb0 : Nat) (a b : List Int) (f t : Int) (w : World) (hu : IntsFrom base w u a) (hv : IntsFrom base w (.slice B b.length cb0) b) (hcb : B = none → cb = 0) (hbc : b.length ≤ cb) (hcm : cb ≤ cb0) (hA : timesE a f t = 0) (hB : timesE b f t = 0) :
    Calls Tryz.prog 47 #[u, .slice B b.length cb, .agg #[.int .i64 f, .int .i64 t]] w fun r w' => ∃ o, r = .returned (.tuple #[o, .int .i64 0]) ∧ WinsFrom (w.heap.size + 1) w' o (aheadL a b t) ∧ w.grownBy w' none := by
  have OA := timesE_ok hA
  have OB := timesE_ok hB
  have hf0 := OA.a0
  have hft := OA.ato
  have ht1 := OA.to_
  have hla := OA.len
  have hlb := OB.len
  obtain ⟨A, ca, rfl, hlA, _⟩ := hu.shape
  have hlB := hv.cutShape.1
  have HCB := Lib.hid hcb
  clear hcb
  obtain ⟨i0, hi, hz0, hz1, hz2⟩ := info_parts winInfo
  have hx0 := Blk.new w 71 #[.int .i64 f, .int .i64 t]
  have hG := World.grownBy_alloc w (.cells #[.int .i64 f, .int .i64 t] 71) none
  have HU := Lib.hid (hu.grown hG)
  have HV := Lib.hid (hv.grown hG)
  have HOA := Lib.hid OA
  have HOB := Lib.hid OB
  have HA := Lib.hid hA
  have HB := Lib.hid hB
  clear hu hv OA OB hA hB
  go_enter Tryz.func47, Tryz.ntmps47
  go_wp2_with fail
  have hs0 := Blk.new (w.alloc (.cells #[.int .i64 f, .int .i64 t] 71)) 22 #[.slice A a.length ca, .slice B b.length cb]
  rw [World.size_alloc] at hs0
  replace hx0 := hx0.alloc (.cells #[.slice A a.length ca, .slice B b.length cb] 22)
  replace hG := gr_alloc hG (.cells #[.slice A a.length ca, .slice B b.length cb] 22)
  replace HU := Lib.hid (IntsFrom.alloc HU.out (.cells #[.slice A a.length ca, .slice B b.length cb] 22))
  replace HV := Lib.hid (IntsFrom.alloc HV.out (.cells #[.slice A a.length ca, .slice B b.length cb] 22))
  generalize (w.alloc (.cells #[.int .i64 f, .int .i64 t] 71)).alloc (.cells #[.slice A a.length ca, .slice B b.length cb] 22) = W at *
  go_loopw [21] (fun i wr => ∃ k : Nat, k ≤ 2 ∧ i = .int .i64 k ∧ W.grownBy wr none) (fun i _ => 2 - (intOf i).toNat)
  case atStart => exact ⟨0, by omega, rfl, gr_refl _ _⟩
  case round =>
    obtain ⟨k, hk, rfl, hgr⟩ := hrel
    have hs1 := hs0.grown hgr (by simp)
    have hx1 := hx0.grown hgr (by simp)
    have d0 := hs1.cell 0
    have d1 := hs1.cell 1
    have c0 := hx1.cell 0
    have c1 := hx1.cell 1
    simp only [List.getElem?_toArray, List.getElem?_cons_zero, List.getElem?_cons_succ] at d0 d1 c0 c1
    rcases (show k = 0 ∨ k = 1 ∨ k = 2 by omega) with rfl | rfl | rfl
    · go_wp2_with fail
      refine (checkTimes_any base _ _ _ _ _ (HU.out.grown hgr) (by omega) (by omega)).mono ?_
      rintro _ w1 ⟨rfl, hg⟩
      rw [HA.out]
      go_wp2_with fail
      go_roundw
      case rel => exact ⟨1, by omega, rfl, gr_trans hgr hg⟩
      case measure => simp [intOf]
    · go_wp2_with fail
      refine (checkTimes_cut base _ _ _ _ _ _ _ (HV.out.grown hgr) (by omega) (by omega)).mono ?_
      rintro _ w1 ⟨rfl, hg⟩
      rw [HB.out]
      go_wp2_with fail
      go_roundw
      case rel => exact ⟨2, by omega, rfl, gr_trans hgr hg⟩
      case measure => simp [intOf]
    · clear d0 d1 hs1
      go_wp2_with fail
      have hsz1 := hgr.size
      have hcat := Blk.new wr 22 #[.slice A a.length ca, .slice B b.length cb]
      refine (concat_cut base _ _ _ _ _ _ a b _ ((HU.out.grown hgr).alloc _) ((HV.out.grown hgr).alloc _) HCB.out hbc hcm hcat (by omega) (by omega)).mono ?_
      rintro _ w1 ⟨z, rfl, hz, hg, _⟩
      have hG1 := gr_trans (gr_alloc hgr _) hg
      have hx2 := hx0.grown hG1 (by simp)
      have hz1' := ownsRow_low (base' := W.heap.size) hz (by simp; omega)
      clear hg hcat hx1 hz c0 c1
      go_wp2_with fail
      refine (sort_own _ _ _ _ hz1' (by simp; omega)).mono ?_
      rintro _ w2 ⟨rfl, hz2', hg2⟩
      have hzrow : ∀ g, z.ownBlock = some g → W.heap.size ≤ g := fun g e => (hz1'.lt g e).1
      have hG2 : W.grownBy w2 none := gr_grown hG1 hg2 (fun g e => .inr (hzrow g e))
      go_wp2_with fail
      refine (compact_own _ _ _ _ hz2' (by rw [sortI_len]; simp; omega)).mono ?_
      rintro _ w3 ⟨y, rfl, hy, hg3⟩
      have hG3 : W.grownBy w3 none := gr_grown hG2 hg3 (fun g e => .inr (hzrow g e))
      have hbl := bothL_len a b
      have hbm := (bothL_props a b).2
      have hy' : IntsFrom W.heap.size w3 y (bothL a b) := hy
      obtain ⟨Y, cy, rfl, hly, hYs⟩ := hy'.shape
      have hAL : Hid (aheadL a b t = ahOut t (ahFold (nowB a b) ((bothL a b).take (bothL a b).length))) := by show _ = _; rw [List.take_length]; rfl
      have HSN := Lib.hid (ahFold_snoc (nowB a b) (bothL a b))
      have HLN := Lib.hid (fun k => ahFold_len (nowB a b) ((bothL a b).take k) ([], none))
      have HMB : Hid (∀ x ∈ bothL a b, 0 ≤ x ∧ x < 345686400000) := fun x hx => by
        rcases List.mem_append.1 ((hbm x).1 hx) with h | h
        · have := HOA.out.mem x h; omega
        · have := HOB.out.mem x h; omega
      have HY := Lib.hid hy'
      clear hg2 hg3 hy hz1' hz2' hbm hzrow hx2 hgr hG1 hG2
      generalize bothL a b = ps at *
      go_wp2_with fail
      go_loopw [12, 13, 41] (fun o h i wr => ∃ (k : Nat) (st : AhSt), k ≤ ps.length ∧ i = .int .i64 k ∧ h = .bool st.2.isSome ∧ Hid (ahFold (nowB a b) (ps.take k) = st) ∧ WinsFrom w3.heap.size wr o (ahOut t st) ∧ w3.grownBy wr none) (fun _ _ i _ => ps.length - (intOf i).toNat)
      case atStart => exact ⟨0, ([], none), by omega, rfl, rfl, rfl, WinsFrom.nil _ _, gr_refl _ _⟩
      case round =>
        obtain ⟨k, st, hk, rfl, rfl, HST, hown, hgr⟩ := hrel
        have hgW := gr_trans hG3 hgr
        have hx4 := hx0.grown hgW (by simp)
        have c1 : wr.cell? ⟨w.heap.size, 1, none⟩ = some (.int .i64 t) := hx4.cell 1
        have hrow3 := hgr.size
        by_cases hlt : k < ps.length
        · have hkl : (k : Int) < (ps.length : Int) := by omega
          obtain ⟨gy, rfl, _, _⟩ := hYs (by omega)
          have cx := (HY.out.grown hgr).at_ k hlt
          have hxb := HMB.out ps[k] (List.getElem_mem hlt)
          have hsn := HSN.out k hlt
          have hln := HLN.out k
          obtain ⟨x, hx⟩ : ∃ x, x = ps[k] := ⟨_, rfl⟩
          rw [← hx] at cx hxb hsn
          rw [HST.out] at hsn
          have hln2 : st.1.length + opn st.2 ≤ 4000 := by
            have h1 : (ahFold (nowB a b) (ps.take k)).1.length + opn (ahFold (nowB a b) (ps.take k)).2 ≤ 0 + 0 + (ps.take k).length := hln
            rw [HST.out, List.length_take] at h1
            omega
          have HN := Lib.hid hsn
          clear hx hsn hln HST
          obtain ⟨qa, hqa⟩ : ∃ q, cntLt a (x + 1) = q := ⟨_, rfl⟩
          obtain ⟨qb, hqb⟩ : ∃ q, cntLt b (x + 1) = q := ⟨_, rfl⟩
          have HQA := Lib.hid hqa
          have HQB := Lib.hid hqb
          have hnow : nowB a b x = decide (qb < qa) := by unfold nowB; rw [hqa, hqb]
          have HW := Lib.hid hnow
          clear hqa hqb hnow
          obtain ⟨c, o⟩ := st
          obtain ⟨A2, c2, hO, hlen2, hAs⟩ := hown.shape
          subst hO
          cases o with
          | none =>
            have e0 : ahOut t (c, none) = c := List.append_nil c
            have hown0 : WinsFrom w3.heap.size wr (.slice A2 c.length c2) c := by rw [e0] at hown; exact hown
            rw [e0]
            have hcl : c.length ≤ 4000 := by simp [opn] at hln2; omega
            clear hown e0 hln2 hAs hlen2
            by_cases hn : qb < qa
            · have HF : Hid (ahFold (nowB a b) (ps.take (k + 1)) = (c, some x)) := by show _ = _; rw [HN.out]; unfold ahStep; rw [HW.out]; simp [hn]
              go_wp2_with fail
              refine (before_gr base _ _ _ _ (HU.out.grown hgW) HOA.out.sorted (by omega)).mono ?_
              rintro _ w4 ⟨rfl, hg4⟩
              rw [HQA.out]
              go_wp2_with fail
              refine (before_cutgr base _ _ _ _ _ _ ((HV.out.grown hgW).grown hg4) HOB.out.sorted (by omega)).mono ?_
              rintro _ w5 ⟨rfl, hg5⟩
              rw [HQB.out]
              have hg6 := gr_trans hg4 hg5
              have c1 : w5.cell? ⟨w.heap.size, 1, none⟩ = some (.int .i64 t) := (hx4.grown hg6 (by simp)).cell 1
              have hownA : w5.ownsRow w3.heap.size 71 2 (.slice A2 c.length c2) c.length (wcells c) := hown0.grown hg6
              have hsz6 := (gr_trans hgr hg6).size
              clear hg4 hg5 cx
              go_wp2_with (at_builtin; refine wpList_append_own _ rfl _ _ 77 rfl w3.heap.size 71 i0 _ 2 16 Tryz.underlying77 hi hz0 hz1 hz2 rfl (by decide) _ _ _ rfl (hownA.alloc _) ⟨w5.heap.size, 0, none⟩ 1 1 [.int .i64 x, .int .i64 t] rfl rfl (two_cells w5 x t _) (two_oneCell x t) (by unfold maxLen; omega) (by omega) (by simp; omega) ?_; intro v' w7 hownB hgrB _)
              have hgF : w3.grownBy w7 none := gr_grown (gr_alloc (gr_trans hgr hg6) _) hgrB (fun kk h => .inr (hownA.lt kk h).1)
              have hownC : WinsFrom w3.heap.size w7 v' (ahOut t (c, some x)) := by
                show w7.ownsRow _ _ 2 v' (c ++ [(x, t)]).length (wcells (c ++ [(x, t)]))
                rw [wcells_snoc, List.length_append]; exact hownB
              go_wp2_with fail
              go_roundw
              case rel => exact ⟨k + 1, (c, some x), by omega, by go_num, rfl, HF, hownC, hgF⟩
              case measure => simp [intOf]; omega
            · have HF : Hid (ahFold (nowB a b) (ps.take (k + 1)) = (c, none)) := by show _ = _; rw [HN.out]; unfold ahStep; rw [HW.out]; simp [hn]
              go_wp2_with fail
              refine (before_gr base _ _ _ _ (HU.out.grown hgW) HOA.out.sorted (by omega)).mono ?_
              rintro _ w4 ⟨rfl, hg4⟩
              rw [HQA.out]
              go_wp2_with fail
              refine (before_cutgr base _ _ _ _ _ _ ((HV.out.grown hgW).grown hg4) HOB.out.sorted (by omega)).mono ?_
              rintro _ w5 ⟨rfl, hg5⟩
              rw [HQB.out]
              have hg6 := gr_trans hg4 hg5
              clear hg4 hg5 cx
              go_wp2_with fail
              go_roundw
              case rel => exact ⟨k + 1, (c, none), by omega, by go_num, rfl, HF, by rw [show ahOut t (c, none) = c from List.append_nil c]; exact hown0.grown hg6, gr_trans hgr hg6⟩
              case measure => simp [intOf]; omega
          | some s =>
            have hcl : c.length ≤ 4000 := by simp [opn] at hln2; omega
            have e0 : (ahOut t (c, some s)).length = c.length + 1 := by simp [ahOut]
            rw [e0] at hlen2 hAs hown ⊢
            by_cases hn : qb < qa
            · have HF : Hid (ahFold (nowB a b) (ps.take (k + 1)) = (c, some s)) := by show _ = _; rw [HN.out]; unfold ahStep; rw [HW.out]; simp [hn]
              go_wp2_with fail
              refine (before_gr base _ _ _ _ (HU.out.grown hgW) HOA.out.sorted (by omega)).mono ?_
              rintro _ w4 ⟨rfl, hg4⟩
              rw [HQA.out]
              go_wp2_with fail
              refine (before_cutgr base _ _ _ _ _ _ ((HV.out.grown hgW).grown hg4) HOB.out.sorted (by omega)).mono ?_
              rintro _ w5 ⟨rfl, hg5⟩
              rw [HQB.out]
              have hg6 := gr_trans hg4 hg5
              clear hg4 hg5 cx
              go_wp2_with fail
              go_roundw
              case rel => exact ⟨k + 1, (c, some s), by omega, by go_num, rfl, HF, hown.grown hg6, gr_trans hgr hg6⟩
              case measure => simp [intOf]; omega
            · have HF : Hid (ahFold (nowB a b) (ps.take (k + 1)) = (c ++ [(s, x)], none)) := by show _ = _; rw [HN.out]; unfold ahStep; rw [HW.out]; simp [hn]
              obtain ⟨go, rfl, hgo, _⟩ := hAs (by omega)
              go_wp2_with fail
              refine (before_gr base _ _ _ _ (HU.out.grown hgW) HOA.out.sorted (by omega)).mono ?_
              rintro _ w4 ⟨rfl, hg4⟩
              rw [HQA.out]
              go_wp2_with fail
              refine (before_cutgr base _ _ _ _ _ _ ((HV.out.grown hgW).grown hg4) HOB.out.sorted (by omega)).mono ?_
              rintro _ w5 ⟨rfl, hg5⟩
              rw [HQB.out]
              have hg6 := gr_trans hg4 hg5
              have hownA : w5.ownsRow w3.heap.size 71 2 (.slice (some ⟨go, 0, none⟩) (c.length + 1) c2) (c.length + 1) (wcells (c ++ [(s, t)])) := by
                have h := hown.grown hg6
                unfold WinsFrom at h
                rw [e0] at h
                exact h
              have hst := hownA.stored (c.length * 2 + 1) (.int .i64 x)
              rw [opn_set] at hst
              have HST := Lib.hid hst
              have hcell : w5.cell? ⟨go, c.length * 2 + 1, none⟩ = some (.int .i64 t) := by
                rw [hownA.cellAt (c.length * 2 + 1) (by omega), wcells_snoc, List.getElem?_append_right (by rw [wcells_len]; omega), wcells_len]
                simp [show c.length * 2 + 1 - c.length * 2 = 1 by omega]
              have hfr : w5.frozen? ⟨go, c.length * 2 + 1, none⟩ = false := hownA.frozenAt _
              clear hg4 hg5 cx hst
              go_wp2_with fail
              have hw9 : WinsFrom w3.heap.size (w5.setCell ⟨go, c.length * 2 + 1, none⟩ (.int .i64 x)) (.slice (some ⟨go, 0, none⟩) (c.length + 1) c2) (ahOut t (c ++ [(s, x)], none)) := by
                rw [show ahOut t (c ++ [(s, x)], none) = c ++ [(s, x)] from List.append_nil _]
                unfold WinsFrom
                rw [show (c ++ [(s, x)]).length = c.length + 1 by simp]
                exact HST.out.1
              go_roundw
              case rel => exact ⟨k + 1, (c ++ [(s, x)], none), by omega, by go_num, rfl, HF, hw9, gr_grown (gr_trans hgr hg6) HST.out.2 (fun gg e => by injection e with e; exact .inr (by omega))⟩
              case measure => simp [intOf]; omega
        · obtain rfl : k = ps.length := by omega
          have hkl : ¬ (ps.length : Int) < (ps.length : Int) := by omega
          have HF : Hid (aheadL a b t = ahOut t st) := by show _ = _; rw [hAL.out, HST.out]
          obtain ⟨A2, c2, hO, hlen2, hAs⟩ := hown.shape
          subst hO
          go_wp2_with fail
          go_ret2
          rw [HF.out]
          exact ⟨_, rfl, WinsFrom.lowTo hown (by have := hG3.size; have := hx0.lt; omega), gr_trans (gr_trans hG hG3) hgr⟩
end Go.Proofs.YtnapbnkbchaanaaGreatDoor
