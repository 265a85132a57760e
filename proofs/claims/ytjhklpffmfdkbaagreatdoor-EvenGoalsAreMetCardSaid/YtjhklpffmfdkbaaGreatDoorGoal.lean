/- The walks over rate.Goal, rate.Forecast and their twins in the reference. Condition: times without error where the name says ok; the window's end is at most 2^60. -/
import Derived.Test.YtjhklpffmfdkbaaGreatDoorRateAll
namespace Go.Proofs.YtjhklpffmfdkbaaGreatDoor
open Go.RowKit
set_option linter.unusedVariables false

theorem floor_eq (x b : Int) (hb : 0 < b) : x / b = if x.tmod b < 0 then x.tdiv b - 1 else x.tdiv b := by
  have h1 : b * x.tdiv b + x.tmod b = x := Int.mul_tdiv_add_tmod x b
  have h2 := tmod_lo x b (by omega)
  have key : ∀ q r : Int, b * q + r = x → 0 ≤ r → r < b → x / b = q := fun q r h h3 h4 => by
    rw [← h, Int.mul_add_ediv_left _ _ (by omega), Int.ediv_eq_zero_of_lt h3 h4, Int.add_zero]
  split
  · refine key _ (x.tmod b + b) ?_ (by omega) (by omega)
    rw [Int.mul_sub]; omega
  · exact key _ _ h1 (by omega) (by omega)
theorem tdiv_bdG (x b B : Int) (hb : 0 < b) (h0 : -B ≤ x) (h1 : x ≤ B) : -B ≤ x.tdiv b ∧ x.tdiv b ≤ B := by
  rcases Int.le_total 0 x with h | h
  · have := Int.tdiv_nonneg h (show 0 ≤ b by omega)
    have h2 : x.tdiv b ≤ x := by rw [Int.tdiv_eq_ediv_of_nonneg h]; exact Int.ediv_le_self _ h
    omega
  · have e : x.tdiv b = -((-x).tdiv b) := by rw [Int.neg_tdiv, Int.neg_neg]
    have h3 := Int.tdiv_nonneg (show 0 ≤ -x by omega) (show 0 ≤ b by omega)
    have h2 : (-x).tdiv b ≤ -x := by rw [Int.tdiv_eq_ediv_of_nonneg (by omega)]; exact Int.ediv_le_self _ (by omega)
    omega

section
variable (x b : Int) (w : World) (h0 : -1000000000000000000 ≤ x) (h1 : x ≤ 1000000000000000000) (hb : 0 < b) (hb2 : b ≤ 1000000000000)
include h0 h1 hb hb2
set_option maxHeartbeats 400000 in
theorem floor_any : Calls Tryz.prog 27 #[.int .i64 x, .int .i64 b] w fun r w' => r = .returned (.int .i64 (x / b)) ∧ w = w' := by
  have hq := tdiv_bdG x b _ hb h0 h1
  have hr := tmod_lo x b (by omega)
  have e1 : IntKind.i64.wrap (x.tdiv b) = x.tdiv b := IntWalk.i64_in _ ⟨by omega, by omega⟩
  have e2 : IntKind.i64.wrap (x.tmod b) = x.tmod b := IntWalk.i64_in _ ⟨by omega, by omega⟩
  have hbn : (b == 0) = false := by rw [beq_eq_false_iff_ne]; omega
  have HF := Lib.hid (floor_eq x b hb)
  clear h0 h1
  go_enter Tryz.func27, Tryz.ntmps27
  go_wp2_with fail
  all_goals
    go_ret
    refine ⟨ret_of ?_, rfl⟩
    rw [HF.out]
    first | rw [if_pos (by assumption)] | rw [if_neg (by omega)]
end

theorem before_gr (base : Nat) (v : Value) (l : List Int) (x : Int) (w : World) (hl : IntsFrom base w v l) (hs : l.Pairwise (· ≤ ·)) (hn : l.length ≤ 1000000) :
    Calls Tryz.prog 28 #[v, .int .i64 x] w fun r w' => r = .returned (.int .i64 (cntLt l x)) ∧ w.grownBy w' none := by
  refine (before_any base v l x w hl hs hn).mono ?_
  rintro r w' ⟨rfl, m, rfl⟩
  exact ⟨rfl, gr_drewN (gr_refl _ _) m⟩
theorem mul_bdG {c d C D : Int} (h0 : 0 ≤ c) (h1 : c ≤ C) (h2 : 0 ≤ d) (h3 : d ≤ D) : 0 ≤ c * d ∧ c * d ≤ C * D :=
  ⟨Int.mul_nonneg h0 h2, Int.mul_le_mul h1 h3 h2 (by omega)⟩

/-- By how many one is ahead of a goal at the end of hour k; all hours. -/
def goalEnd (a zt : Int) (k : Nat) : Int := min (a + (k + 1) * 3600000) zt
def goalAt (l : List Int) (a zt goal : Int) (k : Nat) : Int := (cntLt l (goalEnd a zt k) * (zt - a) - goal * (goalEnd a zt k - a)) / (zt - a)
def goalL (l : List Int) (a zt goal : Int) : List Int := (List.range (hoursI a zt).toNat).map (goalAt l a zt goal)

theorem range_snoc (f : Nat → Int) (k : Nat) : (List.range (k + 1)).map f = (List.range k).map f ++ [f k] := by rw [List.range_succ, List.map_append]; rfl

set_option maxRecDepth 100000 in
set_option maxHeartbeats 4000000 in
theorem goal_ok (base : Nat) (v : Value) (l : List Int) (a zt goal : Int) (w : World) (hl : IntsFrom base w v l) (hE : timesE l a zt = 0) (hg0 : 0 ≤ goal) (hg1 : goal ≤ 99999) (hh : hoursI a zt ≤ 1000) :
    Calls Tryz.prog 8 #[v, .agg #[.int .i64 a, .int .i64 zt], .int .i64 goal] w fun r w' => ∃ u, r = .returned (.tuple #[u, .int .i64 0]) ∧ IntsFrom (w.heap.size + 1) w' u (goalL l a zt goal) ∧ w.grownBy w' none := by
  have O := timesE_ok hE
  have hto := O.to_
  have ha0 := O.a0
  have hato := O.ato
  have hll := O.len
  obtain ⟨N, hN1, hN2, hN3, hN4⟩ := hours_eq a zt hato
  obtain ⟨i0, hi, hz0, hz1, hz2⟩ := info_parts intInfo
  have hx0 := Blk.new w 27 #[.int .i64 a, .int .i64 zt]
  have hG := World.grownBy_alloc w (.cells #[.int .i64 a, .int .i64 zt] 27) none
  have HL := Lib.hid (hl.grown hG)
  have hsz : (w.alloc (.cells #[.int .i64 a, .int .i64 zt] 27)).heap.size = w.heap.size + 1 := by simp
  have hob : outB goal 0 99999 = false := outB_no hg0 hg1
  have HD : Hid (goalL l a zt goal = (List.range N).map (goalAt l a zt goal)) := by show _ = _; unfold goalL; rw [hN1]
  have HH := Lib.hid hN2
  have hN5 : N ≤ 1000 := by omega
  have HO := Lib.hid O
  have HE := Lib.hid hE
  have HOB := Lib.hid hob
  clear hl O hN1 hN2 hh hE hob
  go_enter Tryz.func8, Tryz.ntmps8
  go_wp2_with fail
  generalize w.alloc (.cells #[.int .i64 a, .int .i64 zt] 27) = W at *
  refine (checkTimes_any base _ _ _ _ _ HL.out (by omega) (by omega)).mono ?_
  rintro _ w1 ⟨rfl, hgA⟩
  rw [HE.out]
  replace HL := Lib.hid (HL.out.grown hgA)
  replace hx0 := hx0.grown hgA (by simp)
  have c0 := hx0.cell 0
  have c1 := hx0.cell 1
  simp only [List.getElem?_toArray, List.getElem?_cons_zero, List.getElem?_cons_succ] at c0 c1
  go_wp2_with fail
  refine (outside_any _ _ _ _).mono ?_
  rintro _ w' ⟨rfl, rfl⟩
  rw [HOB.out]
  go_wp2_with fail
  refine (hoursOf_any _ _ _ (by omega) (by omega) (by omega)).mono ?_
  rintro _ w2 ⟨rfl, hgB⟩
  rw [HH.out]
  replace HL := Lib.hid (HL.out.grown hgB)
  replace hx0 := hx0.grown hgB (by simp)
  have c0 := hx0.cell 0
  have c1 := hx0.cell 1
  simp only [List.getElem?_toArray, List.getElem?_cons_zero, List.getElem?_cons_succ] at c0 c1
  have hNn : ¬ (1000 : Int) < (N : Int) := by omega
  go_wp2_with fail
  refine (hoursOf_any _ _ _ (by omega) (by omega) (by omega)).mono ?_
  rintro _ w3 ⟨rfl, hgC⟩
  rw [HH.out]
  replace HL := Lib.hid (HL.out.grown hgC)
  replace hx0 := hx0.grown hgC (by simp)
  have hGW : w.grownBy w3 none := gr_trans hG (gr_trans hgA (gr_trans hgB hgC))
  have hsz3 := hx0.lt
  clear hgA hgB hgC c0 c1
  go_wp2_with fail
  go_loopw [10, 31] (fun o i wr => ∃ (k : Nat), k ≤ N ∧ i = .int .i64 k ∧ IntsFrom w3.heap.size wr o ((List.range k).map (goalAt l a zt goal)) ∧ w3.grownBy wr none) (fun _ i _ => N - (intOf i).toNat)
  case atStart => exact ⟨0, by omega, rfl, IntsFrom.nil _ _, gr_refl _ _⟩
  case round =>
    obtain ⟨k, hk, rfl, hown, hgr⟩ := hrel
    obtain ⟨A2, c2, rfl, hlen2, _⟩ := hown.shape
    have hx1 := hx0.grown hgr (by simp)
    have c0 := hx1.cell 0
    have c1 := hx1.cell 1
    simp only [List.getElem?_toArray, List.getElem?_cons_zero, List.getElem?_cons_succ] at c0 c1
    have hkl : ((List.range k).map (goalAt l a zt goal)).length = k := by simp
    rw [hkl] at hown
    by_cases hlt : k < N
    · have hkN : (k : Int) < (N : Int) := by omega
      have HS := Lib.hid (range_snoc (goalAt l a zt goal) k)
      go_wp2_with fail
      have hgd : goalEnd a zt k = min (a + ((k : Int) + 1) * 3600000) zt := rfl
      rw [← hgd]
      obtain ⟨e, he⟩ : ∃ e, goalEnd a zt k = e := ⟨_, rfl⟩
      have heb : a ≤ e ∧ e ≤ zt := by unfold goalEnd at he; omega
      have HV : Hid (goalAt l a zt goal k = (cntLt l e * (zt - a) - goal * (e - a)) / (zt - a)) := by show _ = _; unfold goalAt; rw [he]
      have hcb := cntLt_bd l e
      obtain ⟨q, hq⟩ : ∃ q, cntLt l e = q := ⟨_, rfl⟩
      rw [hq] at HV hcb
      rw [he]
      have HQ := Lib.hid hq
      have HEd := Lib.hid he
      have p1 := mul_bdG (C := 2000) (D := 345686400000) hcb.1 (by omega) (show 0 ≤ zt - a by omega) (by omega)
      have p2 := mul_bdG (C := 99999) (D := 345686400000) hg0 hg1 (show 0 ≤ e - a by omega) (by omega)
      have e1 : IntKind.i64.wrap (q * (zt - a)) = q * (zt - a) := IntWalk.i64_in _ ⟨by omega, by omega⟩
      have e2 : IntKind.i64.wrap (goal * (e - a)) = goal * (e - a) := IntWalk.i64_in _ ⟨by omega, by omega⟩
      have e3 : IntKind.i64.wrap (e - a) = e - a := IntWalk.i64_in _ ⟨by omega, by omega⟩
      have e4 : IntKind.i64.wrap (q * (zt - a) - goal * (e - a)) = q * (zt - a) - goal * (e - a) := IntWalk.i64_in _ ⟨by omega, by omega⟩
      have KX : Hid (∀ W' : World, w3.grownBy W' none → W'.cell? ⟨w.heap.size, 0, none⟩ = some (.int .i64 a) ∧ w3.grownBy W' none) := fun W' hW => ⟨(hx0.grown hW (by simp)).cell 0, hW⟩
      have HOW := Lib.hid hown
      have hszr := hgr.size
      clear he hq hgd hown hkl
      go_region_held3 (fun W' => W'.cell? ⟨w.heap.size, 0, none⟩ = some (.int .i64 a) ∧ w3.grownBy W' none)
        ((exact KX.out _ (by first | exact gr_grown (gr_alloc hgA3 _) hgrB (fun kk hk => .inr (by have := (hownA.lt kk hk).1; omega)) | (repeat (first | exact gr_refl _ _ | assumption | refine gr_drew ?_ | refine gr_alloc ?_ _ | refine gr_trans ?_ (by assumption))))))
        (first | (go_at_call 28; refine (before_gr base _ _ _ _ (HL.out.grown (gr_trans hgr (by repeat (first | exact gr_refl _ _ | assumption | refine gr_alloc ?_ _ | refine gr_drewN ?_ _ | refine gr_drew ?_)))) HO.out.sorted (by omega)).mono ?_; rintro _ wA ⟨rfl, hgA⟩; rw [HQ.out]; replace hgA := gr_trans (show wr.grownBy _ none from (by repeat (first | exact gr_refl _ _ | assumption | refine gr_alloc ?_ _ | refine gr_drewN ?_ _ | refine gr_drew ?_))) hgA; have hgA3 := gr_trans hgr hgA; have hownA : wA.ownsRow w3.heap.size 3 1 (.slice A2 k c2) k (((List.range k).map (goalAt l a zt goal)).map (Value.int .i64)) := (by have h := IntsFrom.grown HOW.out hgA; unfold IntsFrom at h; rwa [show ((List.range k).map (goalAt l a zt goal)).length = k by simp] at h)) | (go_at_call 27; refine (floor_any _ _ _ (by omega) (by omega) (by omega) (by omega)).mono ?_; rintro _ wB ⟨rfl, rfl⟩; rw [← HV.out]; generalize goalAt l a zt goal k = x at *) | (refine step_append_lies _ (by rfl) (.tmp 43) (.tmp 58) 22 (by rfl) w3.heap.size 3 i0 _ 1 8 Tryz.underlying22 hi hz0 hz1 hz2 rfl (by decide) _ k _ (by simp [Act.eval]) (hownA.alloc _) ⟨_, 0, none⟩ 1 1 [.int .i64 x] (by simp [Act.eval]) rfl (one_cell _ x _) (one_oneCell x) (by decide) (by unfold maxLen; omega) (by omega) (by have := hgA3.size; simp; omega) _ rfl ?_; intro g cap w4 hownB hgrB hat hglt) | fail)
      have hgF : w3.grownBy w4 none := gr_grown (gr_alloc hgA3 _) hgrB (fun kk hk => .inr (by have := (hownA.lt kk hk).1; omega))
      have hown5 : IntsFrom w3.heap.size w4 (.slice (some ⟨g, 0, none⟩) (k + 1) cap) ((List.range (k + 1)).map (goalAt l a zt goal)) := by
        unfold IntsFrom
        rw [HS.out, List.map_append, List.length_append]
        simpa using hownB
      go_wp2_with fail
      go_roundw
      case rel => exact ⟨k + 1, by omega, by go_num, hown5, hgF⟩
      case measure => simp [intOf]; omega
    · obtain rfl : k = N := by omega
      have hkN : ¬ (k : Int) < (k : Int) := by omega
      go_wp2_with fail
      go_ret2
      rw [HD.out]
      exact ⟨_, rfl, ownsRow_low hown (by omega), gr_trans hGW hgr⟩

end Go.Proofs.YtjhklpffmfdkbaaGreatDoor
