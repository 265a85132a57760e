/- The walk over the stream's TimesOf, told exactly: the times and the window as a function of the numbers. Condition: the stream has handed out at most 10^10 numbers. The walk over the stream's RightTimes, told exactly. Condition: the stream has handed out at most 10^9 numbers. How a law that compares two streams begins: the numbers that came in, told exactly. No condition. -/
import Derived.Test.YtnapbnkbchaanaaGreatDoorStrX
import Derived.Test.YtnapbnkbchaanaaGreatDoorTimes
import Derived.Test.YtnapbnkbchaanaaGreatDoorRightTimes
import Derived.Test.YtnapbnkbchaanaaGreatDoorStart
namespace Go.Proofs.YtnapbnkbchaanaaGreatDoor
open Go.RowKit
set_option linter.unusedVariables false

/-- The times after so many draws, and the last one. -/
def timesLoop (L : List Int) (k : Nat) (a : Int) : Nat → List Int × Int
  | 0 => ([], a)
  | j + 1 => ((timesLoop L k a j).1 ++ [(timesLoop L k a j).2 + pickV L (k + j) [0, 1, 1000, 60000, 300000, 1800000]], (timesLoop L k a j).2 + pickV L (k + j) [0, 1, 1000, 60000, 300000, 1800000])
/-- How many stay if those from z on are struck at the end. -/
def trimN (z : Int) (l : List Int) : Nat → Nat
  | 0 => 0
  | m + 1 => if z ≤ l.getD m 0 then trimN z l m else m + 1
def timesF (L : List Int) (k : Nat) : List Int × Int × Int × Nat :=
  let a := pickV L k [0, 1000]
  let z := pickV L (k + 1) [3600000, 5000000, 9000000, 30000000]
  let n := (rangeV L (k + 2) 0 12).toNat
  let p := timesLoop L (k + 3) a n
  let m := trimN z p.1 p.1.length
  if decide (nextV L (k + 3 + n) 15 = 0) then
    (p.1.take m ++ [pickV L (k + 3 + n + 1 + 1) [0, pickV L (k + 3 + n + 1) [z, a, 345686400001], p.2]], a, pickV L (k + 3 + n + 1) [z, a, 345686400001], k + 3 + n + 1 + 1 + 1)
  else (p.1.take m, a, z, k + 3 + n + 1)
theorem timesF_no {L : List Int} {k : Nat} {a z t : Int} {out : List Int} {m : Nat} (hA : pickV L k [0, 1000] = a) (hZ : pickV L (k + 1) [3600000, 5000000, 9000000, 30000000] = z) (hN : rangeV L (k + 2) 0 12 = (out.length : Int))
    (hT : timesLoop L (k + 3) a out.length = (out, t)) (hM : trimN z out out.length = m) (hF : decide (nextV L (k + 3 + out.length) 15 = 0) = false) : timesF L k = (out.take m, a, z, k + 3 + out.length + 1) := by
  unfold timesF
  simp only [hA, hZ, hN, Int.toNat_natCast, hT, hM, hF]
  rfl
theorem timesF_yes {L : List Int} {k : Nat} {a z t z2 x : Int} {out : List Int} {m : Nat} (hA : pickV L k [0, 1000] = a) (hZ : pickV L (k + 1) [3600000, 5000000, 9000000, 30000000] = z) (hN : rangeV L (k + 2) 0 12 = (out.length : Int))
    (hT : timesLoop L (k + 3) a out.length = (out, t)) (hM : trimN z out out.length = m) (hF : decide (nextV L (k + 3 + out.length) 15 = 0) = true) (h2 : pickV L (k + 3 + out.length + 1) [z, a, 345686400001] = z2) (hX : pickV L (k + 3 + out.length + 1 + 1) [0, z2, t] = x) :
    timesF L k = (out.take m ++ [x], a, z2, k + 3 + out.length + 1 + 1 + 1) := by
  unfold timesF
  simp only [hA, hZ, hN, Int.toNat_natCast, hT, hM, hF, h2, hX]
  rfl
def TimesXPost (base b : Nat) (L : List Int) (k : Nat) (w : World) (e : Ending) (w' : World) : Prop :=
  ∃ (v : Value) (l : List Int) (a zt : Int) (k' : Nat), Hid (timesF L k = (l, a, zt, k')) ∧ e = .returned (.tuple #[v, .agg #[.int .i64 a, .int .i64 zt]]) ∧ IntsFrom w.heap.size w' v l ∧ l.length ≤ 20 ∧ 0 ≤ a ∧ a ≤ 1000 ∧ 0 ≤ zt ∧ (zt ≤ 30000000 ∨ zt = 345686400001) ∧ k ≤ k' ∧ k' ≤ k + 40 ∧ SX base w' b L k' ∧ w.grownBy w' (some b)

set_option maxRecDepth 100000 in
set_option maxHeartbeats 4000000 in
theorem timesOf_x (base b : Nat) (L : List Int) (k : Nat) (w : World) (hs : SX base w b L k) (hk : k ≤ 10000000000) :
    Calls Tryz.prog 100 #[.pointer (some ⟨b, 0, none⟩)] w (TimesXPost base b L k w) := by
  have hbase := hs.base
  obtain ⟨i0, hi, hz0, hz1, hz2⟩ := info_parts intInfo
  have hbs := hs.lt
  have hs0 := hs.alloc (.cells #[.int .i64 0, .int .i64 0] 71)
  have hr0 := Blk.new w 71 #[.int .i64 0, .int .i64 0]
  have hG0 := World.grownBy_alloc w (.cells #[.int .i64 0, .int .i64 0] 71) (some b)
  go_enter Tryz.func100, Tryz.ntmps100
  go_wp2_with fail
  refine (pick_eat base b L k _ 2 2 [0, 1000] _ hs0 (by simp) (by omega) rfl (by decide) (by decide)).mono ?_
  rintro e w1 ⟨a, ha, HA, rfl, hs1, hg1⟩
  have hab : 0 ≤ a ∧ a ≤ 1000 := by simp at ha; omega
  have hr1 := hr0.grown hg1 (by simp; omega)
  have hG1 := gr_trans hG0 hg1
  clear ha hs0 hr0 hG0 hg1
  go_wp2_with fail
  refine (pick_eat base b L _ _ 4 4 [3600000, 5000000, 9000000, 30000000] _ hs1 rfl (by omega) rfl (by decide) (by decide)).mono ?_
  rintro e w2 ⟨zt, hto, HZT, rfl, hs2, hg2⟩
  have htob : 0 ≤ zt ∧ zt ≤ 30000000 := by simp at hto; omega
  have hr2 := hr1.grown hg2 (by simp; omega)
  have hG2 := gr_trans hG1 hg2
  clear hto hs1 hr1 hG1 hg2
  have hx3 := Blk.new w2 71 #[.int .i64 a, .int .i64 zt]
  have hr3 := hr2.alloc (.cells #[.int .i64 a, .int .i64 zt] 71)
  have hs3 := hs2.alloc (.cells #[.int .i64 a, .int .i64 zt] 71)
  have hG3 := gr_alloc hG2 (.cells #[.int .i64 a, .int .i64 zt] 71)
  have hrB := hr2.lt
  have hBlt := hx3.lt
  go_wp2_with fail
  generalize w2.alloc (.cells #[.int .i64 a, .int .i64 zt] 71) = W at *
  generalize w2.heap.size = B at *
  clear hr2 hs2 hG2
  refine (range_e base b L _ _ _ _ hs3 (by omega) (by omega) (by omega) (by omega)).mono ?_
  rintro e w4 ⟨n, hn0, hn1, HN, rfl, hs4, hg4⟩
  have hx4 := hx3.grown hg4 (by simp; omega)
  have hr4 := hr3.grown hg4 (by simp; omega)
  have hG4 := gr_trans hG3 hg4
  have hB4 := hx4.lt
  clear hx3 hr3 hs3 hG3 hg4
  go_wp2_with fail
  go_loopw [5, 6, 18] (fun o t i wr => ∃ (out : List Int) (t' : Int) (j : Nat), j ≤ 12 ∧ (j : Int) ≤ n ∧ i = .int .i64 j ∧ t = .int .i64 t' ∧ 0 ≤ t' ∧ t' ≤ 1000 + 1800000 * (j : Int) ∧ out.length = j ∧ IntsFrom w4.heap.size wr o out ∧ SX base wr b L (k + 3 + j) ∧ Hid (timesLoop L (k + 3) a j = (out, t')) ∧ Blk wr B 71 #[.int .i64 a, .int .i64 zt] ∧ w4.grownBy wr (some b)) (fun _ _ i _ => 12 - (intOf i).toNat)
  case atStart => exact ⟨[], a, 0, by omega, by omega, rfl, rfl, by omega, by omega, rfl, IntsFrom.nil _ _, hs4, rfl, hx4, gr_refl _ _⟩
  case round =>
    obtain ⟨out, t, j, hj, hjn, rfl, rfl, ht0, ht1, hol, hown, hsr, HT, hxr, hgr⟩ := hrel
    obtain ⟨A2, c2, rfl, hlen2, hA2⟩ := hown.shape
    subst hol
    by_cases hlt : (out.length : Int) < n
    · go_wp2_with fail
      refine (pick_eat base b L _ _ 6 6 [0, 1, 1000, 60000, 300000, 1800000] _ hsr rfl (by omega) rfl (by decide) (by decide)).mono ?_
      rintro e w5 ⟨d, hd, HD, rfl, hs5, hg5⟩
      have hdb : 0 ≤ d ∧ d ≤ 1800000 := by simp at hd; omega
      have hx5 := hxr.grown hg5 (by simp; omega)
      have hG5 := gr_trans hgr hg5
      have hown1 : w5.ownsRow w4.heap.size 3 1 (.slice A2 out.length c2) out.length (out.map (Value.int .i64)) := hown.other hg5 (by have := hG4.size; omega)
      have hsz5 := hG5.size
      have hG4s := hG4.size
      clear hd hg5 hown hsr hA2
      go_wp2_with (at_builtin; refine wpList_append_own _ rfl _ _ 22 rfl w4.heap.size 3 i0 _ 1 8 Tryz.underlying22 hi hz0 hz1 hz2 rfl (by decide) _ _ _ rfl (hown1.alloc _) ⟨w5.heap.size, 0, none⟩ 1 1 [.int .i64 (t + d)] rfl rfl (one_cell w5 (t + d) _) (one_oneCell (t + d)) (by unfold maxLen; omega) (by omega) (by simp; omega) ?_; intro v' w6 hown2 hgrow2 _)
      have hrow : ∀ g, (Value.slice A2 out.length c2).ownBlock = some g → w4.heap.size ≤ g := fun g e => (hown1.lt g e).1
      have hG6 : w4.grownBy w6 (some b) := gr_grown (gr_alloc hG5 _) hgrow2 (fun g e => .inr (hrow g e))
      have hown3 : IntsFrom w4.heap.size w6 v' (out ++ [t + d]) := by
        unfold IntsFrom; rw [List.map_append, List.length_append]; exact hown2
      have hs6 : SX base w6 b L (k + 3 + (out.length + 1)) := (hs5.alloc _).grown hgrow2 (fun g e => by have := hrow g e; omega)
      have HT2 : Hid (timesLoop L (k + 3) a (out.length + 1) = (out ++ [t + d], t + d)) := by
        show ((timesLoop L (k + 3) a out.length).1 ++ [(timesLoop L (k + 3) a out.length).2 + pickV L (k + 3 + out.length) [0, 1, 1000, 60000, 300000, 1800000]], (timesLoop L (k + 3) a out.length).2 + pickV L (k + 3 + out.length) [0, 1, 1000, 60000, 300000, 1800000]) = _
        rw [HT.out, HD.out]
      have hx6 : Blk w6 B 71 #[.int .i64 a, .int .i64 zt] := (hx5.alloc _).grown hgrow2 (fun e => by have := hrow B e.symm; omega)
      go_wp2_with fail
      go_roundw
      case rel => exact ⟨out ++ [t + d], t + d, out.length + 1, by omega, by omega, by go_num, rfl, by omega, by omega, by simp, hown3, hs6, HT2, hx6, hG6⟩
      case measure => simp [intOf]; omega
    · have HOWN : Hid (∀ W' : World, wr.grownBy W' none → ∀ m, m ≤ out.length → IntsFrom w4.heap.size W' (.slice A2 m c2) (out.take m)) := fun W' hW m hm => (hown.grown hW).take m hm
      have hcap := hown.cap
      have hz4 := hgr.size
      have hG5 := gr_trans hG4 hgr
      have hrr : Blk wr w.heap.size 71 #[.int .i64 0, .int .i64 0] := hr4.grown hgr (by simp; omega)
      have x1 : wr.cell? ⟨B, 1, none⟩ = some (.int .i64 zt) := hxr.cell 1
      have hnl : ¬ (out.length : Int) < n := hlt
      have HN2 : Hid (rangeV L (k + 2) 0 12 = (out.length : Int)) := by show _ = _; rw [show (out.length : Int) = n by omega]; exact HN.out
      clear hown hgr hG4 hx4 hr4 hs4
      go_wp2_with fail
      --MARK1
      go_loopw [5] (fun o w6 => ∃ m q : Nat, m ≤ out.length ∧ o = .slice A2 m c2 ∧ w6 = wr.drewN q ∧ Hid (trimN zt out out.length = trimN zt out m)) (fun o _ => sliceLen o)
      case atStart => exact ⟨out.length, 0, by omega, rfl, rfl, rfl⟩
      case round =>
        obtain ⟨m, q, hm, rfl, rfl, HTR⟩ := hrel
        have hs6 : SX base (wr.drewN q) b L (k + 3 + out.length) := hsr.drewN q
        have hx6 : Blk (wr.drewN q) B 71 #[.int .i64 a, .int .i64 zt] := hxr.drewN q
        have hG6 : w.grownBy (wr.drewN q) (some b) := gr_drewN hG5 q
        have hy1 : (wr.drewN q).cell? ⟨B, 1, none⟩ = some (.int .i64 zt) := hx6.cell 1
        by_cases hc : ∃ j x, m = j + 1 ∧ out[j]? = some x ∧ zt ≤ x
        · obtain ⟨j, x, rfl, hjx, hxt⟩ := hc
          have hfull := HOWN.out wr (gr_refl _ _) out.length (Nat.le_refl _)
          rw [List.take_length] at hfull
          obtain ⟨g, rfl, hg0, hg1⟩ := hA2 (by omega)
          have hjl : j < out.length := by omega
          have cj : wr.cell? ⟨g, j, none⟩ = some (.int .i64 x) := by
            have h1 := hfull.at_ j hjl
            rw [h1]
            rw [List.getElem?_eq_getElem hjl] at hjx
            injection hjx with e; rw [e]
          have hj2 : (j : Int) < (j : Int) + 1 := by omega
          have hj3 : j < j + 1 := by omega
          have e1 : IntKind.i64.wrap (j : Int) = (j : Int) := IntWalk.i64_in _ ⟨by omega, by omega⟩
          have hj0 : (0 : Int) ≤ (j : Int) := by omega
          have hj1 : j < c2 := by omega
          have HTR2 : Hid (trimN zt out out.length = trimN zt out j) := by
            show _ = _
            rw [HTR.out, trimN, if_pos (by rw [List.getD_eq_getElem?_getD, hjx]; exact hxt)]
          have HJ := Lib.hid hjx
          clear hjx hfull hA2
          go_wp2_with fail
          go_quiet (fail)
          go_wp2_with fail
          go_roundw
          case rel => exact ⟨j, _, by omega, rfl, rfl, HTR2⟩
          case measure => simp [sliceLen]
        · have hx : m = 0 ∨ ∃ j x, m = j + 1 ∧ out[j]? = some x ∧ x < zt := by
            rcases Nat.eq_zero_or_pos m with h | h
            · exact .inl h
            · refine .inr ⟨m - 1, out[m - 1]'(by omega), by omega, List.getElem?_eq_getElem (by omega), ?_⟩
              refine Int.not_le.1 fun h' => hc ⟨m - 1, out[m - 1]'(by omega), by omega, List.getElem?_eq_getElem (by omega), h'⟩
          have hG6' : ∀ n, w.grownBy (wr.drewN n) (some b) := fun n => gr_drewN hG5 n
          have HI : Hid (∀ n, IntsFrom w4.heap.size (wr.drewN n) (.slice A2 m c2) (out.take m)) := fun n => HOWN.out _ (gr_drewN (gr_refl _ _) _) m hm
          have HG := Lib.hid hG6'
          have hlo : w.heap.size ≤ w4.heap.size := by omega
          have HTM : Hid (trimN zt out out.length = m) := by
            show _ = _
            rw [HTR.out]
            rcases hx with rfl | ⟨j, x, rfl, hjx, hxt⟩
            · rfl
            · rw [trimN, if_neg (by rw [List.getD_eq_getElem?_getD, hjx]; show ¬ zt ≤ x; omega)]
          clear hG6' hs6 hx6 hG6 hG5 hc
          rcases hx with h0 | ⟨j, x, h0, hjx, hxt⟩
          case' inl =>
            have g0 : decide (0 < m) = false := by simp; omega
            have HZ := Lib.hid h0
            clear hA2 h0
            go_wp2_with fail
            go_quiet (fail)
          case' inr =>
            have hfull := HOWN.out wr (gr_refl _ _) out.length (Nat.le_refl _)
            rw [List.take_length] at hfull
            obtain ⟨g, rfl, hg0, hg1⟩ := hA2 (by omega)
            have hjl : j < out.length := by omega
            have cj : wr.cell? ⟨g, j, none⟩ = some (.int .i64 x) := by
              have h1 := hfull.at_ j hjl
              rw [h1]
              rw [List.getElem?_eq_getElem hjl] at hjx
              injection hjx with e; rw [e]
            have hnx : ¬ zt ≤ x := by omega
            have g0 : decide (0 < m) = true := by simp; omega
            have e1 : IntKind.i64.wrap ((m : Int) - 1) = (j : Int) := by rw [show (m : Int) - 1 = (j : Int) by omega]; exact IntWalk.i64_in _ ⟨by omega, by omega⟩
            have hj0 : (0 : Int) ≤ (j : Int) := by omega
            have hj1 : j < m := by omega
            have HJ := Lib.hid hjx
            have HZ := Lib.hid h0
            clear hjx hfull hA2 h0
            go_wp2_with fail
            go_quiet (fail)
            generalize (some (⟨g, 0, none⟩ : Addr)) = A2 at *
          all_goals
            go_wp2_with fail
            refine (flip_e base _ L _ _ _ (hsr.drewN _) (by omega) (by omega) (by omega)).mono ?_
            rintro e w7 ⟨fl, HFL, rfl, hs7, hg7⟩
            have hI7 : IntsFrom w4.heap.size w7 (.slice A2 m c2) (out.take m) := (HI.out _).other hg7 (by omega)
            have hx7 : Blk w7 B 71 #[.int .i64 a, .int .i64 zt] := (hxr.drewN _).grown hg7 (by simp; omega)
            have hr7 : Blk w7 w.heap.size 71 #[.int .i64 0, .int .i64 0] := (hrr.drewN _).grown hg7 (by simp; omega)
            have hz47 : w4.heap.size ≤ w7.heap.size := Nat.le_trans hz4 hg7.size
            have hG7 : w.grownBy w7 (some b) := gr_trans (HG.out _) hg7
            clear hg7
            have b0 := hx7.cell 0
            have b1 := hx7.cell 1
            have bf0 := hx7.free 0
            have bf1 := hx7.free 1
            simp only [List.getElem?_toArray, List.getElem?_cons_zero, List.getElem?_cons_succ] at b0 b1
            cases fl
            · have q0 := hr7.cell 0
              have q1 := hr7.cell 1
              have qf0 := hr7.free 0
              have qf1 := hr7.free 1
              simp only [List.getElem?_toArray, List.getElem?_cons_zero, List.getElem?_cons_succ] at q0 q1
              go_wp2_with fail
              go_region
              go_wp2_with fail
              have hf := ((hr7.put 0 (.int .i64 a)).put 1 (.int .i64 zt))
              have d0 := hf.cell 0
              have d1 := hf.cell 1
              simp at d0 d1
              refine bodyPost_ret (v := .tuple #[.slice A2 m c2, .agg #[.int .i64 a, .int .i64 zt]]) (by simp [results, Tryz.results100, go_sem, d0, d1]) rfl ?_
              have hP : ∀ W' : World, w7.grownBy W' (some w.heap.size) → TimesXPost base b L k w (.returned (.tuple #[.slice A2 m c2, .agg #[.int .i64 a, .int .i64 zt]])) W' := fun W' hW =>
                ⟨_, out.take m, a, zt, _, timesF_no HA.out HZT.out HN2.out HT.out HTM.out HFL.out, rfl, ownsRow_low (hI7.other hW (by omega)) (by omega), by simp; omega, by omega, by omega, by omega, by omega, by omega, by omega, hs7.grown hW (fun g e => by injection e with e; omega), gr_grown hG7 hW (fun g e => by injection e with e; exact .inr (by omega))⟩
              exact hP _ (by repeat (first | exact gr_refl _ _ | refine gr_drew ?_ | refine gr_put ?_ (.inl rfl) _))
            · have hnb : B ≠ b := by omega
              have hlt7 := hx7.lt
              go_wp2_with fail
              refine (pick_eat base b L _ _ 3 3 [zt, a, 345686400001] _ hs7 rfl (by omega) rfl (by decide) (by decide)).mono ?_
              rintro e w8 ⟨to2, hto2, HT2, rfl, hs8, hg8⟩
              have htb2 : 0 ≤ to2 ∧ (to2 ≤ 30000000 ∨ to2 = 345686400001) := by simp at hto2; omega
              have hI8 := hI7.other hg8 (by omega)
              have hx8 := hx7.grown hg8 (by simp; omega)
              have hr8 := hr7.grown hg8 (by simp; omega)
              have hG8 := gr_trans hG7 hg8
              have c0 := hx8.cell 0
              have c1 := hx8.cell 1
              have cf0 := hx8.free 0
              have cf1 := hx8.free 1
              simp only [List.getElem?_toArray, List.getElem?_cons_zero, List.getElem?_cons_succ] at c0 c1
              have hs9 := hs8.grown (gr_put (gr_refl w8 (some B)) (p := (⟨B, 1, none⟩ : Addr)) (.inl rfl) (.int .i64 to2)) (fun g e => by injection e with e; omega)
              have hz7 := hg8.size
              have hG9 : w.grownBy (w8.setCell ⟨B, 1, none⟩ (.int .i64 to2)) (some b) := gr_put hG8 (.inr (by show _ ≤ B; omega)) _
              have hI9 : IntsFrom w4.heap.size (w8.setCell ⟨B, 1, none⟩ (.int .i64 to2)) (.slice A2 m c2) (out.take m) := hI8.other (gr_put (gr_refl _ _) (.inl rfl) _) hB4
              have hx9 := hx8.put 1 (.int .i64 to2)
              have hr9 := hr8.far (p := ⟨B, 1, none⟩) (by show w.heap.size ≠ B; omega) (.int .i64 to2)
              clear hg8 hI7 hx7 hr7 hG7 b0 b1 bf0 bf1 hto2 hI8 hx8 hr8 hG8 hs7 hs8
              go_wp2_with fail
              refine (pick_eat base b L _ _ 3 3 [0, to2, t] _ hs9 (by simp) (by omega) rfl (by decide) (by decide)).mono ?_
              rintro e w10 ⟨x2, hx2, HX2, rfl, hsA, hgA⟩
              have hIA := hI9.other hgA (by omega)
              have hxA := hx9.grown hgA (by simp; omega)
              have hrA := hr9.grown hgA (by simp; omega)
              have hGA := gr_trans hG9 hgA
              have hzA := hgA.size
              have hzw : w8.heap.size ≤ w10.heap.size := by simpa using hzA
              clear hgA hI9 hx9 hr9 hG9 hs9 c0 c1 cf0 cf1 hx2 hzA
              have hown1 : w10.ownsRow w4.heap.size 3 1 (.slice A2 m c2) m ((out.take m).map (Value.int .i64)) := by
                have h := hIA
                unfold IntsFrom at h
                rwa [show (out.take m).length = m by simp; omega] at h
              go_wp2_with (at_builtin; refine wpList_append_own _ rfl _ _ 22 rfl w4.heap.size 3 i0 _ 1 8 Tryz.underlying22 hi hz0 hz1 hz2 rfl (by decide) _ _ _ rfl (hown1.alloc _) ⟨w10.heap.size, 0, none⟩ 1 1 [.int .i64 x2] rfl rfl (one_cell w10 x2 _) (one_oneCell x2) (by unfold maxLen; omega) (by omega) (by simp; omega) ?_; intro v' w11 hown2 hgrow2 _)
              have hrow : ∀ g, (Value.slice A2 m c2).ownBlock = some g → w4.heap.size ≤ g := fun g e => (hown1.lt g e).1
              have hownB : IntsFrom w4.heap.size w11 v' (out.take m ++ [x2]) := by
                unfold IntsFrom; rw [List.map_append, List.length_append, show (out.take m).length = m by simp; omega]; exact hown2
              have hsB := (hsA.alloc (.cells #[.int .i64 x2] 3)).grown hgrow2 (fun g e => by have := hrow g e; omega)
              have hxB := (hxA.alloc (.cells #[.int .i64 x2] 3)).grown hgrow2 (fun e => by have := hrow B e.symm; omega)
              have hrB := (hrA.alloc (.cells #[.int .i64 x2] 3)).grown hgrow2 (fun e => by have := hrow _ e.symm; omega)
              have hGB : w.grownBy w11 (some b) := gr_grown (gr_alloc hGA _) hgrow2 (fun g e => .inr (by have := hrow g e; omega))
              have c0 := hxB.cell 0
              have c1 := hxB.cell 1
              have q0 := hrB.cell 0
              have q1 := hrB.cell 1
              have qf0 := hrB.free 0
              have qf1 := hrB.free 1
              simp at c0 c1 q0 q1
              clear hown1 hown2 hgrow2 hIA hxA hrA hGA hsA
              go_wp2_with fail
              go_region
              go_wp2_with fail
              have hf := ((hrB.put 0 (.int .i64 a)).put 1 (.int .i64 to2))
              have d0 := hf.cell 0
              have d1 := hf.cell 1
              simp at d0 d1
              refine bodyPost_ret (v := .tuple #[v', .agg #[.int .i64 a, .int .i64 to2]]) (by simp [results, Tryz.results100, go_sem, d0, d1]) rfl ?_
              have hP : ∀ W' : World, w11.grownBy W' (some w.heap.size) → TimesXPost base b L k w (.returned (.tuple #[v', .agg #[.int .i64 a, .int .i64 to2]])) W' := fun W' hW =>
                ⟨_, out.take m ++ [x2], a, to2, _, timesF_yes HA.out HZT.out HN2.out HT.out HTM.out HFL.out HT2.out HX2.out, rfl, ownsRow_low (hownB.other hW (by omega)) (by omega), by simp; omega, by omega, by omega, by omega, by omega, by omega, by omega, hsB.grown hW (fun g e => by injection e with e; omega), gr_grown hGB hW (fun g e => by injection e with e; exact .inr (by omega))⟩
              exact hP _ (by repeat (first | exact gr_refl _ _ | refine gr_drew ?_ | refine gr_put ?_ (.inl rfl) _))
end Go.Proofs.YtnapbnkbchaanaaGreatDoor

namespace Go.Proofs.YtnapbnkbchaanaaGreatDoor
open Go.RowKit
set_option linter.unusedVariables false

/-- The first right times of so many tries. -/
def rightGo (L : List Int) : Nat → Nat → List Int × Int × Int × Nat
  | 0, p => ([], 0, 3600000, p)
  | f + 1, p => if timesE (timesF L p).1 (timesF L p).2.1 (timesF L p).2.2.1 = 0 then timesF L p else rightGo L f (timesF L p).2.2.2
def RightTimesXPost (base b : Nat) (L : List Int) (k : Nat) (w : World) (e : Ending) (w' : World) : Prop :=
  ∃ (v : Value) (l : List Int) (a z : Int) (k' : Nat), Hid (rightGo L 6 k = (l, a, z, k')) ∧ e = .returned (.tuple #[v, .agg #[.int .i64 a, .int .i64 z]]) ∧ IntsFrom w.heap.size w' v l ∧ l.length ≤ 20 ∧ timesE l a z = 0 ∧ z ≤ 30000000 ∧ k ≤ k' ∧ k' ≤ k + 240 ∧ SX base w' b L k' ∧ w.grownBy w' (some b)

set_option maxRecDepth 100000 in
set_option maxHeartbeats 2000000 in
theorem rightTimes_x (base b : Nat) (L : List Int) (k : Nat) (w : World) (hs : SX base w b L k) (hk : k ≤ 1000000000) :
    Calls Tryz.prog 43 #[.pointer (some ⟨b, 0, none⟩)] w (RightTimesXPost base b L k w) := by
  have hbase := hs.base
  have hbs := hs.lt
  go_enter Tryz.func43, Tryz.ntmps43
  go_wp2_with fail
  go_loopw [6] (fun i wr => ∃ j : Nat, j ≤ 6 ∧ i = .int .i64 j ∧ (∃ q, SX base wr b L q ∧ k ≤ q ∧ q ≤ k + 40 * j ∧ Hid (rightGo L 6 k = rightGo L (6 - j) q)) ∧ Blk wr w.heap.size 71 #[.int .i64 0, .int .i64 0] ∧ w.grownBy wr (some b)) (fun i _ => 6 - (intOf i).toNat)
  case atStart => exact ⟨0, by omega, rfl, ⟨k, hs.alloc _, by omega, by omega, rfl⟩, Blk.new _ _ _, World.grownBy_alloc w _ _⟩
  case round =>
    obtain ⟨j, hj, rfl, ⟨q, hsr, hq0, hq1, HQ⟩, hB, hG⟩ := hrel
    by_cases hlt : j < 6
    · have hlt2 : (j : Int) < 6 := by omega
      go_wp2_with fail
      refine (timesOf_x base b L _ _ hsr (by omega)).mono ?_
      rintro _ w1 ⟨v, l, a, z, q', HTF, rfl, hv, hlen, ha0, ha1, hz0, hz1, hq2, hq3, hs1, hg⟩
      have HSTEP : Hid (rightGo L (6 - j) q = if timesE l a z = 0 then (l, a, z, q') else rightGo L (6 - (j + 1)) q') := by
        show _ = _
        rw [show 6 - j = (6 - (j + 1)) + 1 by omega]
        show (if timesE (timesF L q).1 (timesF L q).2.1 (timesF L q).2.2.1 = 0 then timesF L q else rightGo L (6 - (j + 1)) (timesF L q).2.2.2) = _
        rw [HTF.out]
      have hgw : w.heap.size ≤ wr.heap.size := hG.size
      replace hB := hB.grown hg (by simp; omega)
      replace hG := gr_trans hG hg
      have hX := Blk.new w1 71 #[.int .i64 a, .int .i64 z]
      have hzr := hG.size
      clear hg
      go_wp2_with fail
      have hv1 : IntsFrom w.heap.size (w1.alloc (.cells #[.int .i64 a, .int .i64 z] 71)) v l := ownsRow_low (ownsRow_grown hv (World.grownBy_alloc w1 _ none)) hgw
      have hB1 := hB.alloc (.cells #[.int .i64 a, .int .i64 z] 71)
      have hs2 := hs1.alloc (.cells #[.int .i64 a, .int .i64 z] 71)
      have hG1 := gr_alloc hG (.cells #[.int .i64 a, .int .i64 z] 71)
      have hBX := hB.lt
      have HV := Lib.hid hv1
      clear hv hv1 hB hs1 hG hsr
      generalize w1.alloc (.cells #[.int .i64 a, .int .i64 z] 71) = W at *
      refine (timesFault_any w.heap.size v l a z _ HV.out).mono ?_
      rintro _ w2 ⟨rfl, hg⟩
      replace hB1 := hB1.grown hg (by simp)
      replace hs2 := hs2.grown hg (by simp)
      replace hG1 := gr_trans hG1 (gr_weak hg (some b))
      have hX2 := hX.grown hg (by simp)
      have HV2 := Lib.hid (HV.out.grown hg)
      obtain ⟨x0, x1⟩ := hX2.cells2
      obtain ⟨d0, d1⟩ := hB1.cells2
      have hf := hB1.free
      by_cases hE : timesE l a z = 0
      · have HE := Lib.hid hE
        have ht : (timesE l a z == 0) = true := by simpa using hE
        clear hE hg
        go_wp2_with fail
        go_region
        go_wp2_with fail
        obtain ⟨e0, e1⟩ := (hB1.put01 (.int .i64 a) (.int .i64 z)).cells2
        refine bodyPost_ret (v := .tuple #[v, .agg #[.int .i64 a, .int .i64 z]]) (by simp [results, Tryz.results43, go_sem, e0, e1]) rfl ?_
        have hz30 : z ≤ 30000000 := by have := (timesE_ok HE.out).to_; omega
        have hP : ∀ W' : World, w2.grownBy W' (some w.heap.size) → RightTimesXPost base b L k w (.returned (.tuple #[v, .agg #[.int .i64 a, .int .i64 z]])) W' := fun W' hW =>
          ⟨v, l, a, z, q', by show _ = _; rw [HQ.out, HSTEP.out, if_pos HE.out], rfl, HV2.out.other' hW (hB1.ne_ints HV2.out), hlen, HE.out, hz30, by omega, by omega, hs2.grown hW (fun g e => by injection e with e; omega), gr_grown hG1 hW (fun g e => by injection e with e; exact .inr (by omega))⟩
        exact hP _ (by repeat (first | exact gr_refl _ _ | refine gr_drew ?_ | refine gr_put ?_ (.inl rfl) _))
      · have ht : (timesE l a z == 0) = false := by simpa using hE
        have HQ2 : Hid (rightGo L 6 k = rightGo L (6 - (j + 1)) q') := by show _ = _; rw [HQ.out, HSTEP.out, if_neg hE]
        clear hE hg
        go_wp2_with fail
        go_roundw
        case rel => exact ⟨j + 1, by omega, by go_num, ⟨q', hs2, by omega, by omega, HQ2⟩, hB1, hG1⟩
        case measure => simp [intOf]; omega
    · obtain rfl : j = 6 := by omega
      obtain ⟨d0, d1⟩ := hB.cells2
      have hf := hB.free
      have hBl := hB.lt
      go_wp2_with fail
      obtain ⟨e0, e1⟩ := (hB.put01 (.int .i64 0) (.int .i64 3600000)).cells2
      refine bodyPost_ret (v := .tuple #[.slice none 0 0, .agg #[.int .i64 0, .int .i64 3600000]]) (by simp [results, Tryz.results43, go_sem, e0, e1]) rfl ?_
      have hW : wr.grownBy ((wr.setCell ⟨w.heap.size, 0, none⟩ (.int .i64 0)).setCell ⟨w.heap.size, 1, none⟩ (.int .i64 3600000)) (some w.heap.size) := by repeat (first | exact gr_refl _ _ | refine gr_put ?_ (.inl rfl) _)
      exact ⟨_, [], 0, 3600000, q, HQ, rfl, IntsFrom.nil _ _, by decide, by decide, by decide, by omega, by omega, hsr.grown hW (fun g e => by injection e with e; omega), gr_grown hG hW (fun g e => by injection e with e; exact .inr (by omega))⟩
end Go.Proofs.YtnapbnkbchaanaaGreatDoor

namespace Go.Proofs.YtnapbnkbchaanaaGreatDoor
open Go.RowKit
set_option linter.unusedVariables false

theorem InX.of_row {w : World} {a : Option Addr} {len cap : Nat} {zs : List Int} (h : IsRow .i64 w a len cap zs) : InX w a len := by
  rcases h with ⟨_, rfl, _, _⟩ | ⟨x, rfl, h1, h2, h3, h4, _⟩
  · exact ⟨by omega, [], rfl, fun h => absurd h (by omega)⟩
  · unfold maxLen at h2
    refine ⟨by omega, zs.take len, by simp; omega, fun hn => ⟨x, rfl, ?_, fun j hj => ?_⟩⟩
    · have := World.block_lt_of_cell? w _ (h4 0 (by omega))
      rwa [add_block] at this
    · rw [h4 j (by omega), List.getD_eq_getElem?_getD, List.getD_eq_getElem?_getD, List.getElem?_take_of_lt hj]
end Go.Proofs.YtnapbnkbchaanaaGreatDoor
