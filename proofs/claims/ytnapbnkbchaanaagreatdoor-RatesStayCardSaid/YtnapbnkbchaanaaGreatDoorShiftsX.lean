/- The walk over the stream's Shifts, told exactly. Condition: the stream has handed out at most 10^9 numbers. -/
import Derived.Test.YtnapbnkbchaanaaGreatDoorStrX
import Derived.Test.YtnapbnkbchaanaaGreatDoorStreamShifts
namespace Go.Proofs.YtnapbnkbchaanaaGreatDoor
open Go.RowKit
set_option linter.unusedVariables false
set_option linter.unusedSimpArgs false

theorem SX.cast {base : Nat} {w : World} {b k k' : Nat} {L : List Int} (h : SX base w b L k) (e : k = k') : SX base w b L k' := e ▸ h
def shLoop (L : List Int) (k : Nat) (t0 : Int) : Nat → List (Int × ByteArray) × Int
  | 0 => ([], t0)
  | j + 1 => ((shLoop L k t0 j).1 ++ [((shLoop L k t0 j).2, someV L (k + 2 * j) [⟨#[97, 110, 110]⟩, ⟨#[98, 111, 98]⟩, ⟨#[99, 105, 100]⟩, ⟨#[]⟩])], (shLoop L k t0 j).2 + pickV L (k + 2 * j + 1) [1, 100000, 2000000, 3600000])
def shiftsF (L : List Int) (k : Nat) : List (Int × ByteArray) × Nat :=
  let n := (rangeV L (k + 1) 0 6).toNat
  let l := (shLoop L (k + 2) (pickV L k [0, 500, 1000000]) n).1
  let p := k + 2 + 2 * n
  if l.length = 0 then (l, p)
  else if decide (nextV L p 15 = 0) then
    let q := (nextV L (p + 1) (l.length : Int)).toNat
    (l.set q (pickV L (p + 1 + 1) [(l.getD q default).1, -1, 0], someV L (p + 1 + 1 + 1) [(l.getD q default).2, ⟨#[65]⟩]), p + 1 + 1 + 1 + 1)
  else (l, p + 1)
section
variable {L : List Int} {k j : Nat} {t0 t : Int} {l : List (Int × ByteArray)} (hA : pickV L k [0, 500, 1000000] = t0) (hN : rangeV L (k + 1) 0 6 = (j : Int)) (hT : shLoop L (k + 2) t0 j = (l, t))
include hA hN hT
theorem shiftsF_none (h0 : l.length = 0) : shiftsF L k = (l, k + 2 + 2 * j) := by
  unfold shiftsF
  simp only [hA, hN, Int.toNat_natCast, hT]
  rw [if_pos h0]
theorem shiftsF_no (h0 : 0 < l.length) (hF : decide (nextV L (k + 2 + 2 * j) 15 = 0) = false) : shiftsF L k = (l, k + 2 + 2 * j + 1) := by
  unfold shiftsF
  simp only [hA, hN, Int.toNat_natCast, hT]
  rw [if_neg (by omega), hF]
  rfl
theorem shiftsF_yes {q : Nat} {x px : Int} {y py : ByteArray} (hql : q < l.length) (hF : decide (nextV L (k + 2 + 2 * j) 15 = 0) = true) (hQ : nextV L (k + 2 + 2 * j + 1) (l.length : Int) = (q : Int)) (hx : l[q].1 = x) (hy : l[q].2 = y)
    (hpx : pickV L (k + 2 + 2 * j + 1 + 1) [x, -1, 0] = px) (hpy : someV L (k + 2 + 2 * j + 1 + 1 + 1) [y, ⟨#[65]⟩] = py) : shiftsF L k = (l.set q (px, py), k + 2 + 2 * j + 1 + 1 + 1 + 1) := by
  unfold shiftsF
  simp only [hA, hN, Int.toNat_natCast, hT]
  rw [if_neg (by omega), hF, if_pos rfl]
  simp only [hQ, Int.toNat_natCast]
  rw [show l.getD q default = l[q] by rw [List.getD_eq_getElem?_getD, List.getElem?_eq_getElem hql]; rfl, hx, hy, hpx, hpy]
end
def ShiftsXPost (base b : Nat) (L : List Int) (k : Nat) (w : World) (e : Ending) (w' : World) : Prop :=
  ∃ (v : Value) (l : List (Int × ByteArray)) (k' : Nat), Hid (shiftsF L k = (l, k')) ∧ e = .returned v ∧ ShFrom w.heap.size w' v l ∧ ShFew l ∧ (∀ p ∈ l, p.2 ∈ nameL) ∧ k ≤ k' ∧ k' ≤ k + 20 ∧ SX base w' b L k' ∧ w.grownBy w' (some b)

set_option maxRecDepth 100000 in
set_option maxHeartbeats 16000000 in
theorem shifts_x (base b : Nat) (L : List Int) (k : Nat) (w : World) (hs : SX base w b L k) (hk : k ≤ 1000000000) :
    Calls Tryz.prog 44 #[.pointer (some ⟨b, 0, none⟩)] w (ShiftsXPost base b L k w) := by
  have hbase := hs.base
  obtain ⟨i0, hi, hz0, hz1, hz2⟩ := info_parts shInfo
  have hbs := hs.lt
  go_enter Tryz.func44, Tryz.ntmps44
  go_wp2_with fail
  refine (pick_eat base b L k _ 3 3 [0, 500, 1000000] _ hs (by first | rfl | simp) (by omega) rfl (by decide) (by decide)).mono ?_
  rintro _ w1 ⟨t0, ht0, HA, rfl, hs1, hg1⟩
  have htb : 0 ≤ t0 ∧ t0 ≤ 1000000 := by simp at ht0; omega
  clear ht0
  go_wp2_with fail
  refine (range_e base b L _ 0 6 _ hs1 (by omega) (by decide) (by decide) (by decide)).mono ?_
  rintro _ w2 ⟨n', hn0, hn6, HN, rfl, hs2, hg2⟩
  obtain ⟨n, rfl⟩ : ∃ n : Nat, n' = (n : Int) := ⟨n'.toNat, by omega⟩
  have hG2 := gr_trans hg1 hg2
  clear hg1 hg2 hs1
  go_wp2_with fail
  go_loopw [3, 4, 11] (fun o t i wr => ∃ (j : Nat) (l : List (Int × ByteArray)) (t' : Int), j ≤ n ∧ i = .int .i64 j ∧ t = .int .i64 t' ∧ 0 ≤ t' ∧ t' ≤ 1000000 + 3600000 * (j : Int) ∧ l.length = j ∧ (∀ p ∈ l, 0 ≤ p.1 ∧ p.1 ≤ 100000000 ∧ p.2 ∈ nameL) ∧ ShFrom w2.heap.size wr o l ∧ SX base wr b L (k + 2 + 2 * j) ∧ Hid (shLoop L (k + 2) t0 j = (l, t')) ∧ w2.grownBy wr (some b)) (fun _ _ i _ => n - (intOf i).toNat)
  case atStart => exact ⟨0, [], t0, by omega, rfl, rfl, by omega, by omega, rfl, by simp, ShFrom.nil _ _, hs2.cast (by omega), rfl, gr_refl _ _⟩
  case round =>
    obtain ⟨j, l, t, hj, rfl, rfl, t1, t2, hll, hall, hown, hsr, HT, hgr⟩ := hrel
    obtain ⟨A2, c2, rfl, hlen2, hA2⟩ := hown.shape
    have HLL := Lib.hid hll
    have hl6 : l.length ≤ 6 := by omega
    by_cases hlt : j < n
    · have hjn : (j : Int) < (n : Int) := by omega
      clear hll
      go_wp2_with fail
      refine (some_eat base b L _ _ 4 4 [⟨#[97, 110, 110]⟩, ⟨#[98, 111, 98]⟩, ⟨#[99, 105, 100]⟩, ⟨#[]⟩] _ hsr (by first | rfl | simp) (by omega) rfl (by decide) (by decide)).mono ?_
      rintro _ w3 ⟨who, hwho, HW, rfl, hs3, hg3⟩
      have hwm : who ∈ nameL := by
        simp only [List.mem_cons, List.not_mem_nil, or_false] at hwho
        rcases hwho with rfl | rfl | rfl | rfl <;> simp [nameL]
      have hownA : w3.ownsRow w2.heap.size 89 2 (.slice A2 l.length c2) l.length (scells l) := ShFrom.other hown hg3 (by have := hG2.size; omega)
      have hG3 := gr_trans hgr hg3
      have hsz3 := hG3.size
      have hG2s := hG2.size
      clear hwho hown hg3 hsr
      go_wp2_with (at_builtin; refine wpList_append_own _ rfl _ _ 74 rfl w2.heap.size 89 i0 _ 2 24 Tryz.underlying74 hi hz0 hz1 hz2 rfl (by decide) _ _ _ rfl (hownA.alloc _) ⟨w3.heap.size, 0, none⟩ 1 1 [.int .i64 t, .string who] rfl rfl (sh_cells w3 t who _) (sh_oneCell t who) (by unfold maxLen; omega) (by omega) (by simp; omega) ?_; intro v' w4 hownB hgrB _)
      have hrow : ∀ g, (Value.slice A2 l.length c2).ownBlock = some g → w2.heap.size ≤ g := fun g e => (hownA.lt g e).1
      have hG4 : w2.grownBy w4 (some b) := gr_grown (gr_alloc hG3 _) hgrB (fun g e => .inr (hrow g e))
      have hown4 : ShFrom w2.heap.size w4 v' (l ++ [(t, who)]) := by
        unfold ShFrom; rw [scells_snoc, List.length_append]; exact hownB
      have hs4 : SX base w4 b L (k + 2 + 2 * j + 1) := (hs3.alloc _).grown hgrB (fun g e => by have := hrow g e; omega)
      clear hownB hownA hs3 hgrB
      go_wp2_with fail
      refine (pick_eat base b L _ _ 4 4 [1, 100000, 2000000, 3600000] _ hs4 (by first | rfl | simp) (by omega) rfl (by decide) (by decide)).mono ?_
      rintro _ w5 ⟨d, hd, HD, rfl, hs5, hg5⟩
      have HT2 : Hid (shLoop L (k + 2) t0 (j + 1) = (l ++ [(t, who)], t + d)) := by
        show ((shLoop L (k + 2) t0 j).1 ++ [((shLoop L (k + 2) t0 j).2, someV L (k + 2 + 2 * j) [⟨#[97, 110, 110]⟩, ⟨#[98, 111, 98]⟩, ⟨#[99, 105, 100]⟩, ⟨#[]⟩])], (shLoop L (k + 2) t0 j).2 + pickV L (k + 2 + 2 * j + 1) [1, 100000, 2000000, 3600000]) = _
        rw [HT.out, HW.out, HD.out]
      have hdb : 1 ≤ d ∧ d ≤ 3600000 := by simp at hd; omega
      have hown5 := ShFrom.other hown4 hg5 (by omega)
      have hG5 := gr_trans hG4 hg5
      have hall5 : ∀ p ∈ l ++ [(t, who)], 0 ≤ p.1 ∧ p.1 ≤ 100000000 ∧ p.2 ∈ nameL := fun p hp => by
        rcases List.mem_append.1 hp with h | h
        · exact hall p h
        · simp only [List.mem_singleton] at h
          subst h
          exact ⟨t1, by show t ≤ _; omega, hwm⟩
      have hll5 : Hid ((l ++ [(t, who)]).length = j + 1) := by show _ = _; have := HLL.out; simp; omega
      clear hd hown4 hs4 hg5
      go_wp2_with fail
      go_roundw
      case rel => exact ⟨j + 1, l ++ [(t, who)], t + d, by omega, by go_num, rfl, by omega, by omega, hll5.out, hall5, hown5, hs5.cast (by omega), HT2, hG5⟩
      case measure => simp [intOf]; omega
    · have hjn : ¬ (j : Int) < (n : Int) := by omega
      have hG := gr_trans hG2 hgr
      have hwr := hgr.size
      have hG2s := hG2.size
      have HALL := Lib.hid hall
      have HN2 : Hid (rangeV L (k + 1) 0 6 = (j : Int)) := by show _ = _; rw [show j = n by omega]; exact HN.out
      clear hll
      by_cases hl0 : 0 < l.length
      · obtain ⟨g, rfl, hg0, hg1⟩ := hA2 hl0
        have hl0i : (0 : Int) < (l.length : Int) := by omega
        go_wp2_with fail
        refine (flip_e base b L _ _ _ hsr (by omega) (by omega) (by omega)).mono ?_
        rintro _ w3 ⟨fl, HF, rfl, hs3, hg3⟩
        have hown3 := ShFrom.other hown hg3 (by omega)
        have hG3 := gr_trans hG hg3
        cases fl
        · go_wp2_with fail
          go_ret
          exact ⟨_, l, _, shiftsF_no HA.out HN2.out HT.out hl0 HF.out, rfl, ShFrom.lowTo hown3 (by omega), ⟨hl6, fun p hp => by have := HALL.out p hp; omega, fun p hp => nameL_small (HALL.out p hp).2.2⟩, fun p hp => (HALL.out p hp).2.2, by omega, by omega, hs3, hG3⟩
        · go_wp2_with fail
          refine (next_e base b L _ _ _ hs3 (by omega) (by omega) (by omega)).mono ?_
          rintro _ w4 ⟨q', hq0, hq1, HQ, rfl, hs4, hg4⟩
          obtain ⟨q, rfl⟩ : ∃ q : Nat, q' = (q : Int) := ⟨q'.toNat, by omega⟩
          have hown4 := ShFrom.other hown3 hg4 (by omega)
          have hG4 := gr_trans hG3 hg4
          have hql : q < l.length := by omega
          obtain ⟨c0, c1⟩ := hown4.at1 q hql
          obtain ⟨x, hxx⟩ : ∃ x, l[q].1 = x := ⟨_, rfl⟩
          obtain ⟨y, hyy⟩ : ∃ y, l[q].2 = y := ⟨_, rfl⟩
          rw [hxx] at c0
          rw [hyy] at c1
          have HX := Lib.hid hxx
          have HY := Lib.hid hyy
          clear hxx hyy
          obtain ⟨P, hP⟩ : ∃ P, k + 2 + 2 * j + 1 + 1 = P := ⟨_, rfl⟩
          replace hs4 : SX base w4 b L P := hs4.cast hP
          have hP2 : P ≤ k + 16 := by omega
          have HP := Lib.hid hP
          clear hP
          have hfz := fun i => World.ownsRow.frozenAt (show w4.ownsRow w2.heap.size 89 2 (.slice (some ⟨g, 0, none⟩) l.length c2) l.length (scells l) from hown4) i
          have HOWN := Lib.hid hown4
          have hb4 : b < w4.heap.size := by have := hG4.size; omega
          have hsz4 := hG4.size
          go_wp2_with fail
          have hgl4 : g < w4.heap.size := World.block_lt_of_cell? w4 _ c1
          have d0 : w4.drew.cell? ⟨g, q * 2, none⟩ = some (.int .i64 x) := c0
          have d1 : w4.drew.cell? ⟨g, q * 2 + 1, none⟩ = some (.string y) := c1
          go_region_with (first | (go_at_call 10; refine (pick_e base b L P _ 3 3 [x, -1, 0] _ (by repeat (first | with_reducible exact hs4 | with_reducible refine SX.drew ?_ | with_reducible refine SX.alloc ?_ _)) (by omega) (by repeat (first | (with_reducible refine blk_new2 ?_ ?_; (first | rfl | simp); (first | rfl | simp)) | with_reducible refine Blk.drew ?_ | with_reducible refine Blk.alloc ?_ _)) (by first | omega | (simp; omega)) rfl (by decide) (by decide)).mono ?_; rintro _ wP ⟨px, hpx, HPX, rfl, hsP, hgP⟩; have HBK := blk_over b hgP; have hownP := ShFrom.other (HOWN.out.grown (by repeat (first | exact gr_refl _ _ | assumption | refine gr_alloc ?_ _ | refine gr_drewN ?_ _ | refine gr_drew ?_))) hgP (by omega); obtain ⟨e0, e1⟩ := hownP.at1 q hql; rw [HX.out] at e0; rw [HY.out] at e1; have hGP := gr_trans (show w4.grownBy _ (some b) from gr_weak (by repeat (first | exact gr_refl _ _ | assumption | refine gr_alloc ?_ _ | refine gr_drewN ?_ _ | refine gr_drew ?_)) _) hgP; have hszP := hGP.size; have hglP : g < wP.heap.size := by omega) | (go_at_call 50; refine (some_e base b L (P + 1) _ 2 2 [y, ⟨#[65]⟩] _ (by repeat (first | with_reducible exact hsP | with_reducible refine SX.drew ?_ | with_reducible refine SX.alloc ?_ _)) (by omega) (by first | ((repeat (first | (with_reducible refine blk_new2 ?_ ?_; (first | rfl | simp); (first | rfl | simp)) | with_reducible refine Blk.drew ?_ | with_reducible refine Blk.alloc ?_ _)); done) | (with_reducible refine HBK.out _ _ ?_ (by first | omega | (simp; omega)); (repeat (first | (with_reducible refine blk_new2 ?_ ?_; (first | rfl | simp); (first | rfl | simp)) | with_reducible refine Blk.drew ?_ | with_reducible refine Blk.alloc ?_ _)))) (by first | omega | (simp; omega)) rfl (by decide) (by decide)).mono ?_; rintro _ wS ⟨py, hpy, HPY, rfl, hsS, hgS⟩; have hownS := ShFrom.other (hownP.grown (by repeat (first | exact gr_refl _ _ | assumption | refine gr_alloc ?_ _ | refine gr_drewN ?_ _ | refine gr_drew ?_))) hgS (by omega); obtain ⟨f0, f1⟩ := hownS.at1 q hql; rw [HX.out] at f0; rw [HY.out] at f1; have hfzS := fun i => World.ownsRow.frozenAt (show wS.ownsRow w2.heap.size 89 2 (.slice (some ⟨g, 0, none⟩) l.length c2) l.length (scells l) from hownS) i; have hgS0 := gr_trans (show wP.grownBy _ (some b) from gr_weak (by repeat (first | exact gr_refl _ _ | assumption | refine gr_alloc ?_ _ | refine gr_drewN ?_ _ | refine gr_drew ?_)) _) hgS) | fail)
          all_goals
            have hpxb : -1 ≤ px ∧ px ≤ 100000000 := by
              have hxb := HALL.out _ (List.getElem_mem hql)
              rw [HX.out] at hxb
              simp only [List.mem_cons, List.not_mem_nil, or_false] at hpx
              omega
            have hpym : py ∈ nameL := by
              have hyb := (HALL.out _ (List.getElem_mem hql)).2.2
              rw [HY.out] at hyb
              simp only [List.mem_cons, List.not_mem_nil, or_false] at hpy
              rcases hpy with h | h
              · rw [h]; exact hyb
              · rw [h]; simp [nameL]
            have hput := ShFrom.put hownS hql px py
            have hfin : ∀ W' : World, ShFrom w2.heap.size W' (.slice (some ⟨g, 0, none⟩) l.length c2) (l.set q (px, py)) → wS.grownBy W' (some g) → ShiftsXPost base b L k w (.returned (.slice (some ⟨g, 0, none⟩) l.length c2)) W' := fun W' h1 h2 =>
              ⟨_, l.set q (px, py), P + 1 + 1, by have e1 := HP.out; subst e1; exact shiftsF_yes HA.out HN2.out HT.out hql HF.out HQ.out HX.out HY.out HPX.out HPY.out, rfl, ShFrom.lowTo h1 (by omega), ⟨by rw [List.length_set]; exact hl6, set_few (fun p hp => by have := HALL.out p hp; omega) (by simp only; omega), set_few (fun p hp => nameL_small (HALL.out p hp).2.2) (nameL_small hpym)⟩, set_few (P := fun p => p.2 ∈ nameL) (fun p hp => (HALL.out p hp).2.2) hpym, by have e1 := HP.out; omega, by omega, hsS.grown h2 (fun gg e => by injection e with e; omega), gr_grown (gr_trans hG4 (gr_trans hGP hgS0)) h2 (fun gg e => by injection e with e; exact .inr (by omega))⟩
            go_wp2_with fail
            first
              | (go_ret; exact hfin _ hput.1 (by repeat (first | exact gr_refl _ _ | refine gr_drew ?_ | refine gr_put ?_ (.inl rfl) _)))
              | (go_ret; exact hfin _ hput.2 (by repeat (first | exact gr_refl _ _ | refine gr_drew ?_ | refine gr_put ?_ (.inl rfl) _)))
      · have hl0i : ¬ (0 : Int) < (l.length : Int) := by omega
        go_wp2_with fail
        go_ret
        exact ⟨_, l, _, shiftsF_none HA.out HN2.out HT.out (by omega), rfl, ShFrom.lowTo hown (by omega), ⟨hl6, fun p hp => by have := HALL.out p hp; omega, fun p hp => nameL_small (HALL.out p hp).2.2⟩, fun p hp => (HALL.out p hp).2.2, by omega, by omega, hsr, hG⟩
end Go.Proofs.YtnapbnkbchaanaaGreatDoor
