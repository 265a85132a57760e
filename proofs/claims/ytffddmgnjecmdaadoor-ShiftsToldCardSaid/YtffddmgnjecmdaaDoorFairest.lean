/- The walk over rate.Fairest. Condition: few shifts without error; a contest's time. -/
import Derived.Test.YtffddmgnjecmdaaDoorLongs
import Derived.Test.YtffddmgnjecmdaaDoorRangeS
import Derived.Test.YtffddmgnjecmdaaDoorRateA
namespace Go.Proofs.YtffddmgnjecmdaaDoor
open Go.RowKit
set_option linter.unusedVariables false
set_option linter.unusedSimpArgs false

theorem wpList_lenS (w : World) {ops : Array Oper} {rest : List Oper} {o : Oper} {a : Act} {Q : Exit → Act → World → Prop} (hg : o.guard = none) (m : Operand)
    (hop : o.op = Op.call { callee := Callee.builtin Builtin.len, args := #[m], argTypes := #[128] }) (bm n : Nat) (l : List (List UInt8 × Int)) (hm : a.eval m = .map (some bm)) (h : MapS w bm n l)
    (hK : wpList Tryd.prog ops Q rest (a.put o.dst (.int .i64 l.length)) w) : wpList Tryd.prog ops Q (o :: rest) a w := by
  obtain ⟨D, h1, h2, h3, h4, h5, h6⟩ := h
  rw [← h5] at hK
  exact wpList_len_own w hg m 128 hop 9 3 Tryd.underlying128 _ bm n D hm h1 hK
/-- How much time would have to change hands. -/
def fairS (l : List (List UInt8 × Int)) : Int := if l = [] then 0 else ((l.map (·.1)).map fun k => max 0 (valS l k - sumS l / (l.length : Int))).sum
theorem sum_nonneg {f : List UInt8 → Int} {l : List (List UInt8)} (h : ∀ k, 0 ≤ f k) : 0 ≤ (l.map f).sum := by
  induction l with
  | nil => simp
  | cons a r ih => have := h a; simp only [List.map_cons, List.sum_cons]; omega

set_option maxRecDepth 100000 in
set_option maxHeartbeats 4000000 in
theorem fairest_ok (base : Nat) (v : Value) (sh : List (Int × ByteArray)) (a z : Int) (w : World) (hsh : ShFrom base w v sh) (F : ShFew sh) (hS : scanS none sh = 0) (ht : timeB a z = true) (a0 : 0 ≤ a) (az : a < z) (z1 : z ≤ 345686400000) :
    Calls Tryd.prog 38 #[v, .agg #[.int .i64 a, .int .i64 z]] w fun r w' => r = .returned (.tuple #[.int .i64 (fairS (longsTo sh a z sh.length)), .int .i64 0]) ∧ w.grownBy w' none := by
  obtain ⟨SO, -⟩ := scanS_ok none sh hS
  have h6 := F.len
  have hx := Blk.new w 60 #[.int .i64 a, .int .i64 z]
  have hG := World.grownBy_alloc w (.cells #[.int .i64 a, .int .i64 z] 60) none
  have HSH := Lib.hid (hsh.grown hG)
  have HCS := Lib.hid (fun W h => by have := checkShifts_few base v sh W h F; rw [hS] at this; exact this)
  have HLG := Lib.hid (fun W h => longs_ok base v sh a z W h F SO a0 (by omega) (by omega) z1)
  have HLB := Lib.hid (longsTo_bd sh a z a0 z1 SO.mom)
  have HT := Lib.hid ht
  clear hsh hS F SO ht
  go_enter Tryd.func38, Tryd.ntmps38
  go_wp2_with fail
  generalize w.alloc (.cells #[.int .i64 a, .int .i64 z] 60) = W at *
  refine (HCS.out _ HSH.out).mono ?_
  rintro _ w1 ⟨rfl, hg⟩
  replace hx := hx.grown hg (by simp)
  replace hG := gr_trans hG hg
  replace HSH := Lib.hid (HSH.out.grown hg)
  clear hg
  obtain ⟨x0, x1⟩ := hx.cells2
  go_wp2_with fail
  refine (isTime_any a z _ (by omega) (by omega)).mono ?_
  rintro _ w2 ⟨rfl, hg⟩
  rw [HT.out]
  replace hx := hx.grown hg (by simp)
  replace hG := gr_trans hG hg
  replace HSH := Lib.hid (HSH.out.grown hg)
  clear hg x0 x1
  obtain ⟨x0, x1⟩ := hx.cells2
  go_wp2_with fail
  refine (HLG.out _ HSH.out).mono ?_
  rintro _ w3 ⟨bm, rfl, hM, hg, hbm⟩
  replace hG := gr_trans hG hg
  clear hg x0 x1 hx
  have hlb := HLB.out sh.length
  generalize hLL : longsTo sh a z sh.length = LL at *
  have HLL := Lib.hid hLL
  clear hLL
  have hll : LL.length ≤ 6 := by omega
  have HV := Lib.hid (fun q => valS_bd (by omega) hlb.1 q)
  by_cases h0 : LL = []
  · have hl0 : LL.length = 0 := by rw [h0]; rfl
    have HF : Hid (fairS LL = 0) := by show _ = _; unfold fairS; rw [if_pos h0]
    have HL0 := Lib.hid hl0
    clear h0 hl0
    go_wp2_with (at_len; refine wpList_lenS _ rfl _ rfl bm _ LL rfl hM ?_; rw [HL0.out])
    go_ret2
    exact ⟨by rw [HLL.out, HF.out]; rfl, hG⟩
  · have hl0 : 0 < LL.length := List.length_pos_iff.2 h0
    have hl1 : ((LL.length : Int) == 0) = false := by rw [beq_eq_false_iff_ne]; omega
    have HH0 := Lib.hid h0
    clear h0
    go_wp2_with (first | (at_len; refine wpList_lenS _ rfl _ rfl bm _ LL rfl hM ?_) | (at_range; refine wpList_rangeS _ rfl _ rfl bm _ LL rfl hM ?_; intro w4 hr hg4 hs4))
    go_frame
    have hnd : (LL.map (·.1)).Nodup := by obtain ⟨D, _, _, _, _, _, h⟩ := hM; exact h
    have hsum := sumS_keys LL hnd
    have HVN := Lib.hid (fun q => (HV.out q).1)
    have hsb : sumS LL ≤ 20000000000000 := by
      rw [← hsum]
      have hb : ∀ m : List (List UInt8), (m.map (valS LL)).sum ≤ 3000000000000 * (m.length : Int) := by
        intro m
        induction m with
        | nil => simp
        | cons q r ih => have := (HV.out q).2; simp only [List.map_cons, List.sum_cons, List.length_cons]; omega
      have := hb (LL.map (·.1))
      rw [List.length_map] at this
      omega
    have HSUM : Hid ((0 : Int) + ((LL.map (·.1)).map (valS LL)).sum = sumS LL) := by show _ = _; rw [hsum]; omega
    generalize hSS : sumS LL = SS at *
    have HSS := Lib.hid hSS
    clear hSS hsum
    go_loopw [8] (fun s wr => ∃ (todo : List (List UInt8)) (cnt : Nat) (acc : Int), RangeS wr bm w3.heap.size sh.length LL todo cnt ∧ s = .int .i64 acc ∧ 0 ≤ acc ∧ Hid (acc + (todo.map (valS LL)).sum = SS) ∧ w3.grownBy wr none) (fun _ wr => wr.rangeLeft bm w3.heap.size)
    case atStart => exact ⟨_, _, 0, hr, rfl, by omega, HSUM, hg4⟩
    case round =>
      obtain ⟨todo, cnt, acc, hrr, rfl, ha, HS, hgr⟩ := hrel
      go_wp2_with (at_next; refine wpList_nextS _ rfl _ rfl bm _ _ LL todo cnt rfl hrr ?_ ?_)
      · intro hd
        have hacc : acc = SS := by
          have := HS.out
          rw [hd] at this
          simpa using this
        subst hacc
        have hM5 := hrr.map
        obtain ⟨P, hP⟩ : ∃ P, acc / (LL.length : Int) = P := ⟨_, rfl⟩
        have hP0 : 0 ≤ P := by rw [← hP]; exact Int.ediv_nonneg ha (by omega)
        have hP1 : P ≤ acc := by rw [← hP]; exact Int.ediv_le_self _ ha
        have HFS : Hid ((0 : Int) + ((LL.map (·.1)).map fun k => max 0 (valS LL k - P)).sum = fairS LL) := by
          show _ = _
          unfold fairS
          rw [if_neg HH0.out, HSS.out, hP]
          omega
        have hfb : fairS LL ≤ 20000000000000 := by
          rw [← HFS.out]
          have hb : ∀ m : List (List UInt8), (m.map fun k => max 0 (valS LL k - P)).sum ≤ 3000000000000 * (m.length : Int) := by
            intro m
            induction m with
            | nil => simp
            | cons q r ih => have := (HV.out q).2; have := (HV.out q).1; simp only [List.map_cons, List.sum_cons, List.length_cons]; omega
          have := hb (LL.map (·.1))
          rw [List.length_map] at this
          omega
        have hl2 : ¬ (LL.length : Int) = 0 := by omega
        clear hr hg4 hs4 hM hd
        go_wp2_with (first | (at_len; refine wpList_lenS _ rfl _ rfl bm _ LL rfl hM5 ?_) | (at_range; refine wpList_rangeS _ rfl _ rfl bm _ LL rfl hM5 ?_; intro w6 hr6 hg6 hs6))
        go_frame
        generalize wr = wo at *
        go_loopw [12] (fun s wr => ∃ (todo2 : List (List UInt8)) (cnt2 : Nat) (ac : Int), RangeS wr bm wo.heap.size sh.length LL todo2 cnt2 ∧ s = .int .i64 ac ∧ 0 ≤ ac ∧ Hid (ac + (todo2.map fun k => max 0 (valS LL k - P)).sum = fairS LL) ∧ wo.grownBy wr none) (fun _ wr => wr.rangeLeft bm wo.heap.size)
        case atStart => exact ⟨_, _, 0, hr6, rfl, by omega, HFS, hg6⟩
        case round =>
          obtain ⟨todo2, cnt2, ac, hr7, rfl, hac, HS7, hg7⟩ := hrel
          go_wp2_with (at_next; refine wpList_nextS _ rfl _ rfl bm _ _ LL todo2 cnt2 rfl hr7 ?_ ?_)
          · intro hd
            have hac2 : ac = fairS LL := by
              have := HS7.out
              rw [hd] at this
              simpa using this
            have HF := Lib.hid hac2
            clear hac2 hd
            go_wp2_with fail
            go_ret2
            exact ⟨by rw [HLL.out, ← HF.out]; rfl, gr_trans hG (gr_trans hgr hg7)⟩
          · intro s w5 cnt' hmem hr5 hlt hg5 hen
            have hq := HVN.out s.data.toList
            have hq2 := (HV.out s.data.toList).2
            have hrest := sum_nonneg (f := fun k => max 0 (valS LL k - P)) (l := todo2.erase s.data.toList) (fun k => by omega)
            have HS2 : Hid (ac + max 0 (valS LL s.data.toList - P) + ((todo2.erase s.data.toList).map fun k => max 0 (valS LL k - P)).sum = fairS LL) := by
              show _ = _
              rw [← HS7.out, sum_erase (fun k => max 0 (valS LL k - P)) hmem]
              omega
            have hb := HS2.out
            generalize valS LL s.data.toList = V at *
            have hG5 : wo.grownBy w5 none := gr_grown hg7 hg5 (fun g e => by injection e with e; exact .inr (by omega))
            have hab : ac + max 0 (V - P) ≤ 20000000000000 := by omega
            clear hb
            go_wp2_with fail
            go_roundw
            case rel => exact ⟨_, _, ac + max 0 (V - P), hr5, rfl, by omega, HS2, hG5⟩
            case measure => rw [hr5.left_eq, hr7.left_eq]; omega
      · intro s w5 cnt' hmem hr5 hlt hg5 hen
        have hq := HVN.out s.data.toList
        have hq2 := (HV.out s.data.toList).2
        have hrest := sum_nonneg (l := todo.erase s.data.toList) HVN.out
        have HS2 : Hid (acc + valS LL s.data.toList + ((todo.erase s.data.toList).map (valS LL)).sum = SS) := by
          show _ = _
          rw [← HS.out, sum_erase _ hmem]
          omega
        have hb := HS2.out
        generalize valS LL s.data.toList = V at *
        have hG5 : w3.grownBy w5 none := gr_grown hgr hg5 (fun g e => by injection e with e; exact .inr (by omega))
        have hab : acc + V ≤ 20000000000000 := by omega
        clear hb
        go_wp2_with fail
        go_roundw
        case rel => exact ⟨_, _, acc + V, hr5, rfl, by omega, HS2, hG5⟩
        case measure => rw [hr5.left_eq, hrr.left_eq]; omega
end Go.Proofs.YtffddmgnjecmdaaDoor
