/- The walk over rate.Ahead. Condition: the window's end is at most 2^60; at most 1000 times each where there is no error. -/
import Derived.Test.YtnapbnkbchaanaaGreatDoorAheadPlain
import Derived.Test.YtnapbnkbchaanaaGreatDoorConcat
import Derived.Test.YtnapbnkbchaanaaGreatDoorGoal
import Derived.Laws.OwnMore
namespace Go.Proofs.YtnapbnkbchaanaaGreatDoor
open Go.RowKit
set_option linter.unusedVariables false

def twoE (a b : List Int) (f t : Int) : Int := orE (timesE a f t) (timesE b f t)
def errAt (a b : List Int) (f t : Int) (k : Nat) : Int := if k = 0 then 0 else if k = 1 then timesE a f t else orE (timesE a f t) (timesE b f t)

theorem opn_set (c : List (Int × Int)) (s t x : Int) : (wcells (c ++ [(s, t)])).set (c.length * 2 + 1) (.int .i64 x) = wcells (c ++ [(s, x)]) := by
  rw [wcells_snoc, wcells_snoc, List.set_append_right _ _ (by rw [wcells_len]; omega), wcells_len]
  have : c.length * 2 + 1 - c.length * 2 = 1 := by omega
  rw [this]; rfl

set_option maxRecDepth 100000 in
set_option maxHeartbeats 4000000 in
theorem ahead_ok (base : Nat) (u v : Value) (a b : List Int) (f t : Int) (w : World) (hu : IntsFrom base w u a) (hv : IntsFrom base w v b) (hA : timesE a f t = 0) (hB : timesE b f t = 0) :
    Calls Tryz.prog 47 #[u, v, .agg #[.int .i64 f, .int .i64 t]] w fun r w' => ∃ o, r = .returned (.tuple #[o, .int .i64 0]) ∧ WinsFrom (w.heap.size + 1) w' o (aheadL a b t) ∧ w.grownBy w' none := by
  have OA := timesE_ok hA
  have OB := timesE_ok hB
  have hf0 := OA.a0
  have hft := OA.ato
  have ht1 := OA.to_
  have hla := OA.len
  have hlb := OB.len
  obtain ⟨A, ca, rfl, hlA, _⟩ := hu.shape
  obtain ⟨B, cb, rfl, hlB, _⟩ := hv.shape
  obtain ⟨i0, hi, hz0, hz1, hz2⟩ := info_parts winInfo
  have hx0 := Blk.new w 71 #[.int .i64 f, .int .i64 t]
  have hG := World.grownBy_alloc w (.cells #[.int .i64 f, .int .i64 t] 71) none
  have HU := Lib.hid (hu.grown hG)
  have HV := Lib.hid (hv.grown hG)
  have HOA := Lib.hid OA
  have HOB := Lib.hid OB
  have HA := Lib.hid hA
  have HB := Lib.hid hB
  clear hu hv OA OB hA hB
  go_enter Tryz.func47, Tryz.ntmps47
  go_wp2_with fail
  have hs0 := Blk.new (w.alloc (.cells #[.int .i64 f, .int .i64 t] 71)) 22 #[.slice A a.length ca, .slice B b.length cb]
  rw [World.size_alloc] at hs0
  replace hx0 := hx0.alloc (.cells #[.slice A a.length ca, .slice B b.length cb] 22)
  replace hG := gr_alloc hG (.cells #[.slice A a.length ca, .slice B b.length cb] 22)
  replace HU := Lib.hid (IntsFrom.alloc HU.out (.cells #[.slice A a.length ca, .slice B b.length cb] 22))
  replace HV := Lib.hid (IntsFrom.alloc HV.out (.cells #[.slice A a.length ca, .slice B b.length cb] 22))
  generalize (w.alloc (.cells #[.int .i64 f, .int .i64 t] 71)).alloc (.cells #[.slice A a.length ca, .slice B b.length cb] 22) = W at *
  go_loopw [21] (fun i wr => ∃ k : Nat, k ≤ 2 ∧ i = .int .i64 k ∧ W.grownBy wr none) (fun i _ => 2 - (intOf i).toNat)
  case atStart => exact ⟨0, by omega, rfl, gr_refl _ _⟩
  case round =>
    obtain ⟨k, hk, rfl, hgr⟩ := hrel
    have hs1 := hs0.grown hgr (by simp)
    have hx1 := hx0.grown hgr (by simp)
    have d0 := hs1.cell 0
    have d1 := hs1.cell 1
    have c0 := hx1.cell 0
    have c1 := hx1.cell 1
    simp only [List.getElem?_toArray, List.getElem?_cons_zero, List.getElem?_cons_succ] at d0 d1 c0 c1
    rcases (show k = 0 ∨ k = 1 ∨ k = 2 by omega) with rfl | rfl | rfl
    · go_wp2_with fail
      refine (checkTimes_any base _ _ _ _ _ (HU.out.grown hgr) (by omega) (by omega)).mono ?_
      rintro _ w1 ⟨rfl, hg⟩
      rw [HA.out]
      go_wp2_with fail
      go_roundw
      case rel => exact ⟨1, by omega, rfl, gr_trans hgr hg⟩
      case measure => simp [intOf]
    · go_wp2_with fail
      refine (checkTimes_any base _ _ _ _ _ (HV.out.grown hgr) (by omega) (by omega)).mono ?_
      rintro _ w1 ⟨rfl, hg⟩
      rw [HB.out]
      go_wp2_with fail
      go_roundw
      case rel => exact ⟨2, by omega, rfl, gr_trans hgr hg⟩
      case measure => simp [intOf]
    · clear d0 d1 hs1
      go_wp2_with fail
      have hsz1 := hgr.size
      have hcat := Blk.new wr 22 #[.slice A a.length ca, .slice B b.length cb]
      refine (concat_any base _ _ _ _ a b _ ((HU.out.grown hgr).alloc _) ((HV.out.grown hgr).alloc _) hcat (by omega) (by omega)).mono ?_
      rintro _ w1 ⟨z, rfl, hz, hg, _⟩
      have hG1 := gr_trans (gr_alloc hgr _) hg
      have hx2 := hx0.grown hG1 (by simp)
      have hz1' := ownsRow_low (base' := W.heap.size) hz (by simp; omega)
      clear hg hcat hx1 hz c0 c1
      go_wp2_with fail
      refine (sort_own _ _ _ _ hz1' (by simp; omega)).mono ?_
      rintro _ w2 ⟨rfl, hz2', hg2⟩
      have hzrow : ∀ g, z.ownBlock = some g → W.heap.size ≤ g := fun g e => (hz1'.lt g e).1
      have hG2 : W.grownBy w2 none := gr_grown hG1 hg2 (fun g e => .inr (hzrow g e))
      go_wp2_with fail
      refine (compact_own _ _ _ _ hz2' (by rw [sortI_len]; simp; omega)).mono ?_
      rintro _ w3 ⟨y, rfl, hy, hg3⟩
      have hG3 : W.grownBy w3 none := gr_grown hG2 hg3 (fun g e => .inr (hzrow g e))
      have hbl := bothL_len a b
      have hbm := (bothL_props a b).2
      have hy' : IntsFrom W.heap.size w3 y (bothL a b) := hy
      obtain ⟨Y, cy, rfl, hly, hYs⟩ := hy'.shape
      have hAL : Hid (aheadL a b t = ahOut t (ahFold (nowB a b) ((bothL a b).take (bothL a b).length))) := by show _ = _; rw [List.take_length]; rfl
      have HSN := Lib.hid (ahFold_snoc (nowB a b) (bothL a b))
      have HLN := Lib.hid (fun k => ahFold_len (nowB a b) ((bothL a b).take k) ([], none))
      have HMB : Hid (∀ x ∈ bothL a b, 0 ≤ x ∧ x < 345686400000) := fun x hx => by
        rcases List.mem_append.1 ((hbm x).1 hx) with h | h
        · have := HOA.out.mem x h; omega
        · have := HOB.out.mem x h; omega
      have HY := Lib.hid hy'
      clear hg2 hg3 hy hz1' hz2' hbm hzrow hx2 hgr hG1 hG2
      generalize bothL a b = ps at *
      go_wp2_with fail
      go_loopw [12, 13, 41] (fun o h i wr => ∃ (k : Nat) (st : AhSt), k ≤ ps.length ∧ i = .int .i64 k ∧ h = .bool st.2.isSome ∧ Hid (ahFold (nowB a b) (ps.take k) = st) ∧ WinsFrom w3.heap.size wr o (ahOut t st) ∧ w3.grownBy wr none) (fun _ _ i _ => ps.length - (intOf i).toNat)
      case atStart => exact ⟨0, ([], none), by omega, rfl, rfl, rfl, WinsFrom.nil _ _, gr_refl _ _⟩
      case round =>
        obtain ⟨k, st, hk, rfl, rfl, HST, hown, hgr⟩ := hrel
        have hgW := gr_trans hG3 hgr
        have hx4 := hx0.grown hgW (by simp)
        have c1 : wr.cell? ⟨w.heap.size, 1, none⟩ = some (.int .i64 t) := hx4.cell 1
        have hrow3 := hgr.size
        by_cases hlt : k < ps.length
        · have hkl : (k : Int) < (ps.length : Int) := by omega
          obtain ⟨gy, rfl, _, _⟩ := hYs (by omega)
          have cx := (HY.out.grown hgr).at_ k hlt
          have hxb := HMB.out ps[k] (List.getElem_mem hlt)
          have hsn := HSN.out k hlt
          have hln := HLN.out k
          obtain ⟨x, hx⟩ : ∃ x, x = ps[k] := ⟨_, rfl⟩
          rw [← hx] at cx hxb hsn
          rw [HST.out] at hsn
          have hln2 : st.1.length + opn st.2 ≤ 4000 := by
            have h1 : (ahFold (nowB a b) (ps.take k)).1.length + opn (ahFold (nowB a b) (ps.take k)).2 ≤ 0 + 0 + (ps.take k).length := hln
            rw [HST.out, List.length_take] at h1
            omega
          have HN := Lib.hid hsn
          clear hx hsn hln HST
          obtain ⟨qa, hqa⟩ : ∃ q, cntLt a (x + 1) = q := ⟨_, rfl⟩
          obtain ⟨qb, hqb⟩ : ∃ q, cntLt b (x + 1) = q := ⟨_, rfl⟩
          have HQA := Lib.hid hqa
          have HQB := Lib.hid hqb
          have hnow : nowB a b x = decide (qb < qa) := by unfold nowB; rw [hqa, hqb]
          have HW := Lib.hid hnow
          clear hqa hqb hnow
          obtain ⟨c, o⟩ := st
          obtain ⟨A2, c2, hO, hlen2, hAs⟩ := hown.shape
          subst hO
          cases o with
          | none =>
            have e0 : ahOut t (c, none) = c := List.append_nil c
            have hown0 : WinsFrom w3.heap.size wr (.slice A2 c.length c2) c := by rw [e0] at hown; exact hown
            rw [e0]
            have hcl : c.length ≤ 4000 := by simp [opn] at hln2; omega
            clear hown e0 hln2 hAs hlen2
            by_cases hn : qb < qa
            · have HF : Hid (ahFold (nowB a b) (ps.take (k + 1)) = (c, some x)) := by show _ = _; rw [HN.out]; unfold ahStep; rw [HW.out]; simp [hn]
              go_wp2_with fail
              refine (before_gr base _ _ _ _ (HU.out.grown hgW) HOA.out.sorted (by omega)).mono ?_
              rintro _ w4 ⟨rfl, hg4⟩
              rw [HQA.out]
              go_wp2_with fail
              refine (before_gr base _ _ _ _ ((HV.out.grown hgW).grown hg4) HOB.out.sorted (by omega)).mono ?_
              rintro _ w5 ⟨rfl, hg5⟩
              rw [HQB.out]
              have hg6 := gr_trans hg4 hg5
              have c1 : w5.cell? ⟨w.heap.size, 1, none⟩ = some (.int .i64 t) := (hx4.grown hg6 (by simp)).cell 1
              have hownA : w5.ownsRow w3.heap.size 71 2 (.slice A2 c.length c2) c.length (wcells c) := hown0.grown hg6
              have hsz6 := (gr_trans hgr hg6).size
              clear hg4 hg5 cx
              go_wp2_with (at_builtin; refine wpList_append_own _ rfl _ _ 77 rfl w3.heap.size 71 i0 _ 2 16 Tryz.underlying77 hi hz0 hz1 hz2 rfl (by decide) _ _ _ rfl (hownA.alloc _) ⟨w5.heap.size, 0, none⟩ 1 1 [.int .i64 x, .int .i64 t] rfl rfl (two_cells w5 x t _) (two_oneCell x t) (by unfold maxLen; omega) (by omega) (by simp; omega) ?_; intro v' w7 hownB hgrB _)
              have hgF : w3.grownBy w7 none := gr_grown (gr_alloc (gr_trans hgr hg6) _) hgrB (fun kk h => .inr (hownA.lt kk h).1)
              have hownC : WinsFrom w3.heap.size w7 v' (ahOut t (c, some x)) := by
                show w7.ownsRow _ _ 2 v' (c ++ [(x, t)]).length (wcells (c ++ [(x, t)]))
                rw [wcells_snoc, List.length_append]; exact hownB
              go_wp2_with fail
              go_roundw
              case rel => exact ⟨k + 1, (c, some x), by omega, by go_num, rfl, HF, hownC, hgF⟩
              case measure => simp [intOf]; omega
            · have HF : Hid (ahFold (nowB a b) (ps.take (k + 1)) = (c, none)) := by show _ = _; rw [HN.out]; unfold ahStep; rw [HW.out]; simp [hn]
              go_wp2_with fail
              refine (before_gr base _ _ _ _ (HU.out.grown hgW) HOA.out.sorted (by omega)).mono ?_
              rintro _ w4 ⟨rfl, hg4⟩
              rw [HQA.out]
              go_wp2_with fail
              refine (before_gr base _ _ _ _ ((HV.out.grown hgW).grown hg4) HOB.out.sorted (by omega)).mono ?_
              rintro _ w5 ⟨rfl, hg5⟩
              rw [HQB.out]
              have hg6 := gr_trans hg4 hg5
              clear hg4 hg5 cx
              go_wp2_with fail
              go_roundw
              case rel => exact ⟨k + 1, (c, none), by omega, by go_num, rfl, HF, by rw [show ahOut t (c, none) = c from List.append_nil c]; exact hown0.grown hg6, gr_trans hgr hg6⟩
              case measure => simp [intOf]; omega
          | some s =>
            have hcl : c.length ≤ 4000 := by simp [opn] at hln2; omega
            have e0 : (ahOut t (c, some s)).length = c.length + 1 := by simp [ahOut]
            rw [e0] at hlen2 hAs hown ⊢
            by_cases hn : qb < qa
            · have HF : Hid (ahFold (nowB a b) (ps.take (k + 1)) = (c, some s)) := by show _ = _; rw [HN.out]; unfold ahStep; rw [HW.out]; simp [hn]
              go_wp2_with fail
              refine (before_gr base _ _ _ _ (HU.out.grown hgW) HOA.out.sorted (by omega)).mono ?_
              rintro _ w4 ⟨rfl, hg4⟩
              rw [HQA.out]
              go_wp2_with fail
              refine (before_gr base _ _ _ _ ((HV.out.grown hgW).grown hg4) HOB.out.sorted (by omega)).mono ?_
              rintro _ w5 ⟨rfl, hg5⟩
              rw [HQB.out]
              have hg6 := gr_trans hg4 hg5
              clear hg4 hg5 cx
              go_wp2_with fail
              go_roundw
              case rel => exact ⟨k + 1, (c, some s), by omega, by go_num, rfl, HF, hown.grown hg6, gr_trans hgr hg6⟩
              case measure => simp [intOf]; omega
            · have HF : Hid (ahFold (nowB a b) (ps.take (k + 1)) = (c ++ [(s, x)], none)) := by show _ = _; rw [HN.out]; unfold ahStep; rw [HW.out]; simp [hn]
              obtain ⟨go, rfl, hgo, _⟩ := hAs (by omega)
              go_wp2_with fail
              refine (before_gr base _ _ _ _ (HU.out.grown hgW) HOA.out.sorted (by omega)).mono ?_
              rintro _ w4 ⟨rfl, hg4⟩
              rw [HQA.out]
              go_wp2_with fail
              refine (before_gr base _ _ _ _ ((HV.out.grown hgW).grown hg4) HOB.out.sorted (by omega)).mono ?_
              rintro _ w5 ⟨rfl, hg5⟩
              rw [HQB.out]
              have hg6 := gr_trans hg4 hg5
              have hownA : w5.ownsRow w3.heap.size 71 2 (.slice (some ⟨go, 0, none⟩) (c.length + 1) c2) (c.length + 1) (wcells (c ++ [(s, t)])) := by
                have h := hown.grown hg6
                unfold WinsFrom at h
                rw [e0] at h
                exact h
              have hst := hownA.stored (c.length * 2 + 1) (.int .i64 x)
              rw [opn_set] at hst
              have HST := Lib.hid hst
              have hcell : w5.cell? ⟨go, c.length * 2 + 1, none⟩ = some (.int .i64 t) := by
                rw [hownA.cellAt (c.length * 2 + 1) (by omega), wcells_snoc, List.getElem?_append_right (by rw [wcells_len]; omega), wcells_len]
                simp [show c.length * 2 + 1 - c.length * 2 = 1 by omega]
              have hfr : w5.frozen? ⟨go, c.length * 2 + 1, none⟩ = false := hownA.frozenAt _
              clear hg4 hg5 cx hst
              go_wp2_with fail
              have hw9 : WinsFrom w3.heap.size (w5.setCell ⟨go, c.length * 2 + 1, none⟩ (.int .i64 x)) (.slice (some ⟨go, 0, none⟩) (c.length + 1) c2) (ahOut t (c ++ [(s, x)], none)) := by
                rw [show ahOut t (c ++ [(s, x)], none) = c ++ [(s, x)] from List.append_nil _]
                unfold WinsFrom
                rw [show (c ++ [(s, x)]).length = c.length + 1 by simp]
                exact HST.out.1
              go_roundw
              case rel => exact ⟨k + 1, (c ++ [(s, x)], none), by omega, by go_num, rfl, HF, hw9, gr_grown (gr_trans hgr hg6) HST.out.2 (fun gg e => by injection e with e; exact .inr (by omega))⟩
              case measure => simp [intOf]; omega
        · obtain rfl : k = ps.length := by omega
          have hkl : ¬ (ps.length : Int) < (ps.length : Int) := by omega
          have HF : Hid (aheadL a b t = ahOut t st) := by show _ = _; rw [hAL.out, HST.out]
          obtain ⟨A2, c2, hO, hlen2, hAs⟩ := hown.shape
          subst hO
          go_wp2_with fail
          go_ret2
          rw [HF.out]
          exact ⟨_, rfl, WinsFrom.lowTo hown (by have := hG3.size; have := hx0.lt; omega), gr_trans (gr_trans hG hG3) hgr⟩
end Go.Proofs.YtnapbnkbchaanaaGreatDoor
