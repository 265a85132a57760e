/- The walk over the reference's AheadOf. Condition: times without error. -/
import Derived.Test.YtjhklpffmfdkbaaAhead
import Derived.Deep.AppendLies
import Derived.Deep.DeepCutAuto
namespace Go.Proofs.Ytjhklpffmfdkbaa
open Go.RowKit
set_option linter.unusedVariables false

theorem step_append_none {P : Program} {w : World} {ops : Array Oper} {o : Oper} {a : Act} {K : Act → World → Prop} {Q : Exit → Act → World → Prop} {E : Prop} (hgd : o.guard = none) (s x : Operand) (t : TypeId)
    (ho : o.op = .call { callee := .builtin .append, args := #[s, x], argTypes := #[t, t] })
    (base : Nat) (e : TypeId) (i : TypeInfo) (size : Nat) (ht : P.underlying t = some (.slice e)) (hi : P.info? e = some i)
    (v : Value) (n : Nat) (xs : List Value) (hs : a.eval s = v) (hown : w.ownsRow base e size v n xs) (hx : a.eval x = .slice none 0 0)
    (h : K (a.put o.dst v) w) : if Region.wanted o (yielded ops a.tmps) = true then Oper.wp P o a w K Q else E := by
  have hw : Region.wanted o (yielded ops a.tmps) = true := by simp [Region.wanted, hgd]
  rw [if_pos hw]
  have hrun := run_append_owned_none (P := P) (w := w) base t o.type e i size ht hi v n xs hown
  unfold Oper.wp
  simp [execOp, ho, resolve, invoke, builtin, hs, hx, hrun, Result.andThen]
  exact h
theorem blk_at {w : World} {g : Nat} {t : TypeId} {cs : Array Value} (h : g = w.heap.size) : Blk (w.alloc (.cells cs t)) g t cs := by subst h; exact Blk.new w t cs

theorem ownB {g n c kk : Nat} (h : (Value.slice (some ⟨g, 0, none⟩) n c).ownBlock = some kk) : g = kk := by simpa [Value.ownBlock] using h
theorem ints_pos {base : Nat} {w : World} {v : Value} {l : List Int} (h : IntsFrom base w v l) (hp : 0 < l.length) : ∃ g c, v = .slice (some ⟨g, 0, none⟩) l.length c := by
  rcases ints_none h with ⟨_, h2⟩ | ⟨g, c, h1, _⟩
  · rw [h2] at hp; simp at hp
  · exact ⟨g, c, h1⟩
theorem lit_own {W w : World} {g : Nat} {f t : Int} (h : Blk w g 3 #[.int .i64 f, .int .i64 t] ∧ W.heap.size ≤ g) : w.ownsRow W.heap.size 3 1 (.slice (some ⟨g, 0, none⟩) 2 2) 2 [.int .i64 f, .int .i64 t] :=
  blk_ints (l := [f, t]) h.1 h.2 (by simp)

set_option maxRecDepth 100000 in
set_option maxHeartbeats 4000000 in
theorem aheadOf_ok (base : Nat) (u v : Value) (a b : List Int) (f t : Int) (w : World) (hu : IntsFrom base w u a) (hv : IntsFrom base w v b) (hA : timesE a f t = 0) (hB : timesE b f t = 0) :
    Calls Try.prog 49 #[u, v, .agg #[.int .i64 f, .int .i64 t]] w fun r w' => ∃ o, r = .returned o ∧ WinsFrom (w.heap.size + 1) w' o (aheadL a b t) ∧ w.grownBy w' none := by
  have OA := timesE_ok hA
  have OB := timesE_ok hB
  have hf0 := OA.a0
  have hft := OA.ato
  have ht1 := OA.to_
  have hla := OA.len
  have hlb := OB.len
  obtain ⟨A, ca, rfl, hlA, _⟩ := hu.shape
  obtain ⟨B, cb, rfl, hlB, _⟩ := hv.shape
  obtain ⟨i0, hi, hz0, hz1, hz2⟩ := info_parts winInfo
  obtain ⟨j0, hj, hy0, hy1, hy2⟩ := info_parts intInfo
  have hx0 := Blk.new w 27 #[.int .i64 f, .int .i64 t]
  have hG := World.grownBy_alloc w (.cells #[.int .i64 f, .int .i64 t] 27) none
  have HU := Lib.hid (hu.grown hG)
  have HV := Lib.hid (hv.grown hG)
  have HOA := Lib.hid OA
  have HOB := Lib.hid OB
  have HA := Lib.hid hA
  have HB := Lib.hid hB
  clear hu hv OA OB hA hB
  go_enter Try.func49, Try.ntmps49
  go_wp2_with fail
  generalize w.alloc (.cells #[.int .i64 f, .int .i64 t] 27) = W at *
  have KX : Hid (∀ W' : World, W.grownBy W' none → W'.cell? ⟨w.heap.size, 0, none⟩ = some (.int .i64 f) ∧ W'.cell? ⟨w.heap.size, 1, none⟩ = some (.int .i64 t) ∧ W.grownBy W' none) :=
    fun W' hW => ⟨(hx0.grown hW (by simp)).cell 0, (hx0.grown hW (by simp)).cell 1, hW⟩
  go_cut [7] (fun s7 wr => IntsFrom W.heap.size wr s7 ([f, t] ++ (a ++ b)) ∧ W.grownBy wr none)
  case first =>
    as_aux_lemma =>
      by_cases hab : a ++ b = []
      · have HAB := Lib.hid hab
        clear hab
        go_region_held3 (fun W' => W'.cell? ⟨w.heap.size, 0, none⟩ = some (.int .i64 f) ∧ W'.cell? ⟨w.heap.size, 1, none⟩ = some (.int .i64 t) ∧ W.grownBy W' none)
          ((exact KX.out _ (by repeat (first | exact gr_refl _ _ | assumption | refine gr_drew ?_ | refine gr_alloc ?_ _ | refine gr_trans ?_ (by assumption)))))
          (first | (go_at_call 86; refine (concat_any base _ _ _ _ a b _ (HU.out.grown (by repeat (first | exact gr_refl _ _ | assumption | refine gr_alloc ?_ _ | refine gr_drewN ?_ _ | refine gr_drew ?_))) (HV.out.grown (by repeat (first | exact gr_refl _ _ | assumption | refine gr_alloc ?_ _ | refine gr_drewN ?_ _ | refine gr_drew ?_))) (by first | exact blk_at (by simp) | exact (Blk.new _ _ _).alloc _) (by omega) (by omega)).mono ?_; rintro _ w1 ⟨z, rfl, hz, hgz, hzn⟩; have hz0 := hzn HAB.out; subst hz0; have hgz2 := gr_trans (show W.grownBy _ none from (by repeat (first | exact gr_refl _ _ | assumption | refine gr_alloc ?_ _ | refine gr_drewN ?_ _ | refine gr_drew ?_))) hgz) | fail)
        all_goals
          go_wp2_with fail
          go_meet
          rw [HAB.out, List.append_nil]
          first
            | exact ⟨blk_ints (l := [f, t]) ((((Blk.new _ 3 _).alloc _).drew).grown hgz (by simp)) (Nat.le_refl _) (by simp), hgz2⟩
            | exact ⟨blk_ints (l := [f, t]) (((blk_at (t := 3) (by simp)).drew).grown hgz (by simp)) (by omega) (by simp), hgz2⟩
            | exact ⟨blk_ints (l := [f, t]) (Blk.new _ 3 _) (by have := hgz2.size; omega) (by simp), gr_alloc hgz2 _⟩
      · have hpos : 0 < (a ++ b).length := List.length_pos_iff.2 hab
        have hlen : (a ++ b).length ≤ 4000 := by rw [List.length_append]; omega
        have HAB := Lib.hid hab
        clear hab
        go_region_held3 (fun W' => W'.cell? ⟨w.heap.size, 0, none⟩ = some (.int .i64 f) ∧ W'.cell? ⟨w.heap.size, 1, none⟩ = some (.int .i64 t) ∧ W.grownBy W' none)
          ((exact KX.out _ (by first | exact gr_grown (gr_alloc hgz2 _) hgq (fun kk h => .inr (by have := hgz2.size; have := ownB h; omega)) | exact gr_grown hgz2 hgq (fun kk h => .inr (by have := hgz2.size; have := ownB h; omega)) | (repeat (first | exact gr_refl _ _ | assumption | refine gr_drew ?_ | refine gr_alloc ?_ _ | refine gr_trans ?_ (by assumption))))))
          (first | (go_at_call 86; refine (concat_any base _ _ _ _ a b _ (HU.out.grown (by repeat (first | exact gr_refl _ _ | assumption | refine gr_alloc ?_ _ | refine gr_drewN ?_ _ | refine gr_drew ?_))) (HV.out.grown (by repeat (first | exact gr_refl _ _ | assumption | refine gr_alloc ?_ _ | refine gr_drewN ?_ _ | refine gr_drew ?_))) (by first | exact blk_at (by simp) | exact (Blk.new _ _ _).alloc _) (by omega) (by omega)).mono ?_; rintro _ w1 ⟨z, rfl, hz, hgz, _⟩; obtain ⟨gz, cz, hzz⟩ := ints_pos hz hpos; subst hzz; have hgz2 := gr_trans (show W.grownBy _ none from (by repeat (first | exact gr_refl _ _ | assumption | refine gr_alloc ?_ _ | refine gr_drewN ?_ _ | refine gr_drew ?_))) hgz; have HZ := Lib.hid hz; clear hz) | (refine step_append_lies _ (by rfl) (.tmp 16) (.tmp 20) 22 (by rfl) W.heap.size 3 j0 _ 1 8 Try.underlying22 hj hy0 hy1 hy2 rfl (by decide) _ 2 _ rfl (lit_own (by first | exact ⟨(((Blk.new _ 3 _).alloc _).drew).grown hgz (by simp), Nat.le_refl _⟩ | exact ⟨((blk_at (t := 3) (by simp)).drew).grown hgz (by simp), by omega⟩ | exact ⟨Blk.new _ 3 _, by have := hgz2.size; omega⟩)) ⟨gz, 0, none⟩ (a ++ b).length cz ((a ++ b).map (Value.int .i64)) (by simp [Act.eval]) (by simp) (by first | exact ints_cells HZ.out | exact ints_cells (IntsFrom.alloc HZ.out _)) (ints_one _) hpos (by unfold maxLen; omega) (by omega) (by have := hgz2.size; first | omega | (simp; omega)) _ rfl ?_; intro gq cap w4 hqq hgq hat hglt) | fail)
        all_goals
          have hgF : W.grownBy w4 none := by
            first
              | exact gr_grown (gr_alloc hgz2 _) hgq (fun kk h => .inr (by have := hgz2.size; have := ownB h; omega))
              | exact gr_grown hgz2 hgq (fun kk h => .inr (by have := hgz2.size; have := ownB h; omega))
          have hF : IntsFrom W.heap.size w4 (.slice (some ⟨gq, 0, none⟩) (2 + (a.length + b.length)) cap) ([f, t] ++ (a ++ b)) := by
            unfold IntsFrom
            rw [List.map_append, List.length_append, List.length_append]
            rw [List.length_append] at hqq
            exact hqq
          go_wp2_with fail
          go_meet
          exact ⟨hF, hgF⟩
  case rest =>
    as_aux_lemma =>
      obtain ⟨hin, hgr⟩ := hcut
      go_wp2_with fail
      refine (sort_own _ _ _ _ hin (by simp; omega)).mono ?_
      rintro _ w2 ⟨rfl, hz2, hg2⟩
      have hzrow : ∀ g, u7.ownBlock = some g → W.heap.size ≤ g := fun g e => (hin.lt g e).1
      have hG2 : W.grownBy w2 none := gr_grown hgr hg2 (fun g e => .inr (hzrow g e))
      go_wp2_with fail
      refine (compact_own _ _ _ _ hz2 (by rw [sortI_len]; simp; omega)).mono ?_
      rintro _ w3 ⟨y, rfl, hy, hg3⟩
      have hG3 : W.grownBy w3 none := gr_grown hG2 hg3 (fun g e => .inr (hzrow g e))
      have hy' : IntsFrom W.heap.size w3 y (edgesL f t a b) := hy
      have hep := edgesL_props f t a b
      have hfm : f ∈ edgesL f t a b := (hep.2 f).2 (by simp)
      have hel : (edgesL f t a b).length ≤ 4002 := by
        have h1 := compI_len (sortI ([f, t] ++ (a ++ b)))
        rw [sortI_len] at h1
        simp at h1
        show (compI (sortI ([f, t] ++ (a ++ b)))).length ≤ 4002
        simp
        omega
      obtain ⟨n, hn⟩ : ∃ n, (edgesL f t a b).length = n + 1 := ⟨(edgesL f t a b).length - 1, by have := List.length_pos_of_mem hfm; omega⟩
      have hn2 : n ≤ 4001 := by omega
      have hfin := edges_fold f t a b hft HOA.out.mem HOB.out.mem n hn
      have HMB : Hid (∀ x ∈ edgesL f t a b, f ≤ x ∧ x ≤ t) := fun x hx => by
        have := (hep.2 x).1 hx
        simp at this
        rcases this with rfl | rfl | h | h
        · omega
        · omega
        · have := HOA.out.mem x h; omega
        · have := HOB.out.mem x h; omega
      have HINC : Hid (∀ k, (h : k + 1 < (edgesL f t a b).length) → (edgesL f t a b)[k]'(Nat.lt_of_succ_lt h) < (edgesL f t a b)[k + 1]'h) := fun k h => List.pairwise_iff_getElem.1 hep.1 k (k + 1) (by omega) h (by omega)
      have HSN := Lib.hid (ahFold_snoc (nowB a b) (edgesL f t a b))
      have HLN := Lib.hid (fun k => ahFold_len (nowB a b) ((edgesL f t a b).take k) ([], none))
      have HFIN := Lib.hid hfin
      have HY := Lib.hid hy'
      have HNL := Lib.hid hn
      obtain ⟨gE, cE, hYE⟩ := ints_pos hy' (by omega)
      subst hYE
      have hx3 := hx0.grown hG3 (by simp)
      have hx3l := hx3.lt
      clear hep hfm hfin hy hy' hn hg2 hg3 hz2 hin hzrow hG2 hgr KX HA HB
      generalize edgesL f t a b = E at *
      rw [HNL.out]
      go_wp2_with fail
      go_loopw [8, 9] (fun o i wr => ∃ (k : Nat) (st : AhSt) (x : Int), k ≤ n ∧ i = .int .i64 k ∧ Hid (E[k]? = some x) ∧ Hid (ahFold (nowB a b) (E.take k) = st) ∧ WinsFrom w3.heap.size wr o (ahOut x st) ∧ (∀ q ∈ st.1, q.2 < x) ∧ w3.grownBy wr none) (fun _ i _ => n - (intOf i).toNat)
      case atStart => exact ⟨0, ([], none), E[0]'(by have := HNL.out; omega), by omega, rfl, List.getElem?_eq_getElem _, rfl, WinsFrom.nil _ _, by simp, gr_refl _ _⟩
      case round =>
        obtain ⟨k, st, x, hk, rfl, HX, HST, hown, hlast, hgr⟩ := hrel
        have hx4 := hx3.grown hgr (by simp)
        have c0 : wr.cell? ⟨w.heap.size, 0, none⟩ = some (.int .i64 f) := hx4.cell 0
        obtain ⟨A2, c2, hO, hlen2, hAs⟩ := hown.shape
        subst hO
        by_cases hlt : k < n
        · have hkl : (k : Int) + 1 < (n : Int) + 1 := by omega
          have hEk : k < E.length := by have := HNL.out; omega
          have hEk1 : k + 1 < E.length := by have := HNL.out; omega
          have hxe : E[k] = x := by have h := HX.out; rw [List.getElem?_eq_getElem hEk] at h; injection h
          have cx := (HY.out.grown hgr).at_ k hEk
          have cy := (HY.out.grown hgr).at_ (k + 1) hEk1
          have hinc := HINC.out k hEk1
          have hb1 := HMB.out _ (List.getElem_mem hEk)
          have hb2 := HMB.out _ (List.getElem_mem hEk1)
          have hsn := HSN.out k hEk
          rw [HST.out] at hsn
          obtain ⟨y, hy⟩ : ∃ y, E[k + 1] = y := ⟨_, rfl⟩
          have HY1 : Hid (E[k + 1]? = some y) := by show _ = _; rw [List.getElem?_eq_getElem hEk1, hy]
          have hE0 := hxe
          have hE1 := hy
          rw [hxe] at cx hinc hb1 hsn
          rw [hy] at cy hinc hb2
          have HE0 := Lib.hid hE0
          have HE1 := Lib.hid hE1
          clear hE0 hE1
          have HN := Lib.hid hsn
          have hln2 : st.1.length + opn st.2 ≤ 4002 := by
            have h1 : (ahFold (nowB a b) (E.take k)).1.length + opn (ahFold (nowB a b) (E.take k)).2 ≤ 0 + 0 + (E.take k).length := HLN.out k
            rw [HST.out, List.length_take] at h1
            omega
          have hma : manyI a f (x + 1) = cntLt a (x + 1) := by
            rw [← cnt_diff a f (x + 1) (by omega), cntLt_zero (fun y hy => (HOA.out.mem y hy).1), Int.sub_zero]
          have hmb : manyI b f (x + 1) = cntLt b (x + 1) := by
            rw [← cnt_diff b f (x + 1) (by omega), cntLt_zero (fun y hy => (HOB.out.mem y hy).1), Int.sub_zero]
          obtain ⟨qa, hqa⟩ : ∃ q, cntLt a (x + 1) = q := ⟨_, rfl⟩
          obtain ⟨qb, hqb⟩ : ∃ q, cntLt b (x + 1) = q := ⟨_, rfl⟩
          have hnow : nowB a b x = decide (qb < qa) := by unfold nowB; rw [hqa, hqb]
          have HQA := Lib.hid (hma.trans hqa)
          have HQB := Lib.hid (hmb.trans hqb)
          have HW := Lib.hid hnow
          have e1 : IntKind.i64.wrap (x + 1) = x + 1 := IntWalk.i64_in _ ⟨by omega, by omega⟩
          have hkl2 : (k : Int) < (n : Int) + 1 := by omega
          have hk0 : (0 : Int) ≤ (k : Int) := by omega
          clear hxe hsn hy hma hmb hqa hqb hnow HST
          have hwl := hx4.lt
          have hgl : gE < wr.heap.size := ((HY.out.grown hgr).lt gE rfl).2
          go_wp2_with fail
          go_region
          go_wp2_with fail
          have hw4 : wr.grownBy (wr.alloc (.cells #[.int .i64 f, .int .i64 (x + 1)] 27)).drew none := gr_drew (gr_alloc (gr_refl _ _) _)
          have hx10 : Blk (wr.alloc (.cells #[.int .i64 f, .int .i64 (x + 1)] 27)).drew wr.heap.size 27 #[.int .i64 f, .int .i64 (x + 1)] := (Blk.new _ _ _).drew
          generalize (wr.alloc (.cells #[.int .i64 f, .int .i64 (x + 1)] 27)).drew = W4 at *
          have hgW4 := gr_trans (gr_trans hG3 hgr) hw4
          have KX : Hid (∀ W' : World, W4.grownBy W' none → W'.cell? ⟨wr.heap.size, 0, none⟩ = some (.int .i64 f) ∧ W'.cell? ⟨wr.heap.size, 1, none⟩ = some (.int .i64 (x + 1)) ∧ W4.grownBy W' none) :=
            fun W' hW => ⟨(hx10.grown hW (by simp)).cell 0, (hx10.grown hW (by simp)).cell 1, hW⟩
          go_region_held3 (fun W' => W'.cell? ⟨wr.heap.size, 0, none⟩ = some (.int .i64 f) ∧ W'.cell? ⟨wr.heap.size, 1, none⟩ = some (.int .i64 (x + 1)) ∧ W4.grownBy W' none)
            ((exact KX.out _ (by repeat (first | exact gr_refl _ _ | assumption | refine gr_drew ?_ | refine gr_alloc ?_ _ | refine gr_trans ?_ (by assumption)))))
            (first | (go_at_call_of 64 (Value.slice A a.length ca); refine (manyIn_any base _ a _ _ _ (HU.out.grown (gr_trans hgW4 (by repeat (first | exact gr_refl _ _ | assumption | refine gr_drew ?_ | refine gr_alloc ?_ _ | refine gr_trans ?_ (by assumption))))) (by omega)).mono ?_; rintro _ wA ⟨rfl, hgA⟩; rw [HQA.out]) | (go_at_call_of 64 (Value.slice B b.length cb); refine (manyIn_any base _ b _ _ _ (HV.out.grown (gr_trans hgW4 (by repeat (first | exact gr_refl _ _ | assumption | refine gr_drew ?_ | refine gr_alloc ?_ _ | refine gr_trans ?_ (by assumption))))) (by omega)).mono ?_; rintro _ wA ⟨rfl, hgA⟩; rw [HQB.out]) | fail)
          have hgX : W4.grownBy wA none := (by repeat (first | exact gr_refl _ _ | assumption | refine gr_drew ?_ | refine gr_alloc ?_ _ | refine gr_trans ?_ (by assumption)))
          have hgw : wr.grownBy wA none := gr_trans hw4 hgX
          have hg3A : w3.grownBy wA none := gr_trans hgr hgw
          have hszA := hg3A.size
          have dx := (HY.out.grown hg3A).at_ k hEk
          have dy := (HY.out.grown hg3A).at_ (k + 1) hEk1
          rw [HE0.out] at dx
          rw [HE1.out] at dy
          clear cx cy c0 KX hx10
          by_cases hn : qb < qa
          · have hnle : ¬ (qa ≤ qb) := by omega
            obtain ⟨c, o⟩ := st
            cases o with
            | none =>
              have e0 : ahOut x (c, none) = c := List.append_nil c
              have hown0 : WinsFrom w3.heap.size wr (.slice A2 c.length c2) c := by rw [e0] at hown; exact hown
              rw [e0]
              have hcl : c.length ≤ 4002 := by simp [opn] at hln2; omega
              have HF : Hid (ahFold (nowB a b) (E.take (k + 1)) = (c, some x)) := by show _ = _; rw [HN.out]; unfold ahStep; rw [HW.out]; simp [hn]
              have hownA : wA.ownsRow w3.heap.size 27 2 (.slice A2 c.length c2) c.length (wcells c) := hown0.grown hgw
              have hlast2 : ∀ q ∈ (c, some x).1, q.2 < y := fun q hq => Int.lt_trans (hlast q hq) hinc
              have KY : Hid (∀ W' : World, w3.grownBy W' none → W'.cell? ⟨gE, k, none⟩ = some (.int .i64 x) ∧ W'.cell? ⟨gE, k + 1, none⟩ = some (.int .i64 y) ∧ w3.grownBy W' none) :=
                fun W' hW => ⟨by have h := (HY.out.grown hW).at_ k hEk; rw [HE0.out] at h; exact h, by have h := (HY.out.grown hW).at_ (k + 1) hEk1; rw [HE1.out] at h; exact h, hW⟩
              have hk1 : ((k : Int) + 1) < (n : Int) + 1 := by omega
              have hk2 : (0 : Int) ≤ (k : Int) + 1 := by omega
              have e2 : IntKind.i64.wrap ((k : Int) + 1) = (k : Int) + 1 := IntWalk.i64_in _ ⟨by omega, by omega⟩
              have hgAl : gE < wA.heap.size := ((HY.out.grown hg3A).lt gE rfl).2
              rcases List.eq_nil_or_concat c with hc | ⟨c', ⟨qs, qq⟩, hc⟩
              case' inl =>
                have hc0 : c.length = 0 := by rw [hc]; rfl
                have g0 : decide (0 < c.length) = false := by rw [hc0]; rfl
                have HC := Lib.hid hc
                clear hc hc0 hAs hown0 hown e0
                go_wp2_with fail
                go_quiet (fail)
              case' inr =>
                rw [List.concat_eq_append] at hc
                have hcl' : c.length = c'.length + 1 := by rw [hc]; simp
                have hqx : qq < x := hlast (qs, qq) (by rw [hc]; simp)
                obtain ⟨go, hA2, _, _⟩ := hAs (by rw [e0]; omega)
                have hcellq : wA.cell? ⟨go, c'.length * 2 + 1, none⟩ = some (.int .i64 qq) := by
                  have h := hownA
                  rw [hA2] at h
                  rw [h.cellAt (c'.length * 2 + 1) (by omega), hc, wcells_snoc, List.getElem?_append_right (by rw [wcells_len]; omega), wcells_len]
                  simp [show c'.length * 2 + 1 - c'.length * 2 = 1 by omega]
                have g0 : decide (0 < c.length) = true := by simp; omega
                have g1 : (qq == x) = false := by rw [beq_eq_false_iff_ne]; omega
                have e3 : IntKind.i64.wrap ((c.length : Int) - 1) = (c'.length : Int) := by rw [show (c.length : Int) - 1 = (c'.length : Int) by omega]; exact IntWalk.i64_in _ ⟨by omega, by omega⟩
                have j0 : (0 : Int) ≤ (c'.length : Int) := by omega
                have j1 : c'.length < c.length := by omega
                subst hA2
                have HC := Lib.hid hc
                have HC' := Lib.hid hcl'
                clear hc hcl' hAs hown0 hown e0
                go_wp2_with fail
                go_quiet (fail)
              all_goals
                go_wp2_with fail
                go_region_held3 (fun W' => W'.cell? ⟨gE, k, none⟩ = some (.int .i64 x) ∧ W'.cell? ⟨gE, k + 1, none⟩ = some (.int .i64 y) ∧ w3.grownBy W' none)
                  ((exact KY.out _ (by first | exact gr_grown (show w3.grownBy _ none from (by repeat (first | exact gr_refl _ _ | assumption | refine gr_drew ?_ | refine gr_drewN ?_ _ | refine gr_alloc ?_ _ | refine gr_trans ?_ (by assumption)))) hgq (fun kk h => .inr (hownA.lt kk h).1) | exact (by repeat (first | exact gr_refl _ _ | assumption | refine gr_drew ?_ | refine gr_drewN ?_ _ | refine gr_alloc ?_ _ | refine gr_trans ?_ (by assumption))))))
                  ((refine step_append_lies _ (by rfl) (.tmp 75) (.tmp 86) 63 (by rfl) w3.heap.size 27 i0 _ 2 16 Try.underlying63 hi hz0 hz1 hz2 rfl (by decide) _ c.length (wcells c) (by simp [Act.eval]) (World.ownsRow.alloc (show World.ownsRow _ w3.heap.size 27 2 _ c.length (wcells c) from hownA) _) ⟨_, 0, none⟩ 1 1 [.int .i64 x, .int .i64 y] (by simp [Act.eval]) rfl (two_cells _ x y _) (two_oneCell x y) (by decide) (by unfold maxLen; omega) (by omega) (by simp; omega) _ rfl ?_; intro gq cap w9 hqq hgq hat hglt))
                have hgF : w3.grownBy w9 none := gr_grown (show w3.grownBy _ none from (by repeat (first | exact gr_refl _ _ | assumption | refine gr_drew ?_ | refine gr_drewN ?_ _ | refine gr_alloc ?_ _ | refine gr_trans ?_ (by assumption)))) hgq (fun kk h => .inr (hownA.lt kk h).1)
                have hw9 : WinsFrom w3.heap.size w9 (.slice (some ⟨gq, 0, none⟩) (c.length + 1) cap) (ahOut y (c, some x)) := by
                  show w9.ownsRow _ _ 2 _ (c ++ [(x, y)]).length (wcells (c ++ [(x, y)]))
                  rw [wcells_snoc, List.length_append]; exact hqq
                go_wp2_with fail
                go_roundw
                case rel => exact ⟨k + 1, (c, some x), y, by omega, by go_num, HY1, HF, hw9, hlast2, hgF⟩
                case measure => simp [intOf]; omega
            | some s =>
              have hcl : c.length ≤ 4002 := by simp [opn] at hln2; omega
              have e0 : (ahOut x (c, some s)).length = c.length + 1 := by simp [ahOut]
              rw [e0] at hAs hown ⊢
              have HF : Hid (ahFold (nowB a b) (E.take (k + 1)) = (c, some s)) := by show _ = _; rw [HN.out]; unfold ahStep; rw [HW.out]; simp [hn]
              have hl9 : ∀ q ∈ (c, some s).1, q.2 < y := fun q hq => Int.lt_trans (hlast q hq) hinc
              obtain ⟨go, rfl, hgo, _⟩ := hAs (by omega)
              have hownA : wA.ownsRow w3.heap.size 27 2 (.slice (some ⟨go, 0, none⟩) (c.length + 1) c2) (c.length + 1) (wcells (c ++ [(s, x)])) := by
                have h := hown.grown hgw
                unfold WinsFrom at h
                rw [e0] at h
                exact h
              have hcell : wA.cell? ⟨go, c.length * 2 + 1, none⟩ = some (.int .i64 x) := by
                rw [hownA.cellAt (c.length * 2 + 1) (by omega), wcells_snoc, List.getElem?_append_right (by rw [wcells_len]; omega), wcells_len]
                simp [show c.length * 2 + 1 - c.length * 2 = 1 by omega]
              have hfr : wA.frozen? ⟨go, c.length * 2 + 1, none⟩ = false := hownA.frozenAt _
              have HST : Hid (∀ q, ((wA.drewN q).setCell ⟨go, c.length * 2 + 1, none⟩ (.int .i64 y)).ownsRow w3.heap.size 27 2 (.slice (some ⟨go, 0, none⟩) (c.length + 1) c2) (c.length + 1) (wcells (c ++ [(s, y)])) ∧ (wA.drewN q).grownBy ((wA.drewN q).setCell ⟨go, c.length * 2 + 1, none⟩ (.int .i64 y)) (some go)) := fun q => by
                have h := World.ownsRow.stored (w := wA.drewN q) (show (wA.drewN q).ownsRow w3.heap.size 27 2 (.slice (some ⟨go, 0, none⟩) (c.length + 1) c2) (c.length + 1) (wcells (c ++ [(s, x)])) from hownA) (c.length * 2 + 1) (.int .i64 y)
                rw [opn_set] at h
                exact h
              have hk1 : ((k : Int) + 1) < (n : Int) + 1 := by omega
              have hk2 : (0 : Int) ≤ (k : Int) + 1 := by omega
              have e2 : IntKind.i64.wrap ((k : Int) + 1) = (k : Int) + 1 := IntWalk.i64_in _ ⟨by omega, by omega⟩
              have e3 : IntKind.i64.wrap (c.length : Int) = (c.length : Int) := IntWalk.i64_in _ ⟨by omega, by omega⟩
              have j0 : (0 : Int) ≤ (c.length : Int) := by omega
              have j1 : (c.length : Int) < (c.length : Int) + 1 := by omega
              have j2 : c.length < c.length + 1 := by omega
              clear hown hAs e0 hownA
              go_wp2_with fail
              go_quiet (fail)
              go_wp2_with fail
              have hw9 : ∀ q, WinsFrom w3.heap.size ((wA.drewN q).setCell ⟨go, c.length * 2 + 1, none⟩ (.int .i64 y)) (.slice (some ⟨go, 0, none⟩) (c.length + 1) c2) (ahOut y (c, some s)) := fun q => by
                show World.ownsRow _ _ _ 2 _ (c ++ [(s, y)]).length (wcells (c ++ [(s, y)]))
                rw [show (c ++ [(s, y)]).length = c.length + 1 by simp]
                exact (HST.out q).1
              go_roundw
              case rel => exact ⟨k + 1, (c, some s), y, by omega, by go_num, HY1, HF, hw9 _, hl9, gr_grown (gr_drewN hg3A _) (HST.out _).2 (fun gg e => by injection e with e; exact .inr (by omega))⟩
              case measure => simp [intOf]; omega
          · have hle : qa ≤ qb := by omega
            obtain ⟨c, o⟩ := st
            cases o with
            | none =>
              have HF : Hid (ahFold (nowB a b) (E.take (k + 1)) = (c, none)) := by show _ = _; rw [HN.out]; unfold ahStep; rw [HW.out]; simp [hn]
              have hw9 : WinsFrom w3.heap.size wA (.slice A2 (ahOut x (c, none)).length c2) (ahOut y (c, none)) := hown.grown hgw
              have hl9 : ∀ q ∈ (c, (none : Option Int)).1, q.2 < y := fun q hq => Int.lt_trans (hlast q hq) hinc
              go_wp2_with fail
              go_roundw
              case rel => exact ⟨k + 1, (c, none), y, by omega, by go_num, HY1, HF, hw9, hl9, hg3A⟩
              case measure => simp [intOf]; omega
            | some s =>
              have HF : Hid (ahFold (nowB a b) (E.take (k + 1)) = (c ++ [(s, x)], none)) := by show _ = _; rw [HN.out]; unfold ahStep; rw [HW.out]; simp [hn]
              have hw9 : WinsFrom w3.heap.size wA (.slice A2 (ahOut x (c, some s)).length c2) (ahOut y (c ++ [(s, x)], none)) := by
                rw [show ahOut y (c ++ [(s, x)], none) = ahOut x (c, some s) from List.append_nil _]
                exact hown.grown hgw
              have hl9 : ∀ q ∈ (c ++ [(s, x)], (none : Option Int)).1, q.2 < y := fun q hq => by
                rcases List.mem_append.1 hq with h | h
                · exact Int.lt_trans (hlast q h) hinc
                · simp at h; rw [h]; exact hinc
              go_wp2_with fail
              go_roundw
              case rel => exact ⟨k + 1, (c ++ [(s, x)], none), y, by omega, by go_num, HY1, HF, hw9, hl9, hg3A⟩
              case measure => simp [intOf]; omega
        · obtain rfl : k = n := by omega
          have hkl : ¬ ((k : Int) + 1 < (k : Int) + 1) := by omega
          have HF : Hid (ahOut x st = aheadL a b t) := by
            show _ = _
            have h1 := HFIN.out.1
            rw [HST.out] at h1
            have h2 := HX.out
            rw [HFIN.out.2] at h2
            injection h2 with h2
            rw [← h2]; exact h1
          go_wp2_with fail
          go_ret
          rw [← HF.out]
          exact ⟨_, rfl, WinsFrom.lowTo hown (by omega), gr_trans (gr_trans hG hG3) hgr⟩
end Go.Proofs.Ytjhklpffmfdkbaa
