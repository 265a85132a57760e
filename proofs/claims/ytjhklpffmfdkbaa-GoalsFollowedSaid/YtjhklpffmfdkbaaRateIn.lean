/- The walks over how many moments are before one and in a window, in package rate (by search) and in the reference (by counting). Condition: times that are searched are sorted. -/
import Derived.Test.YtjhklpffmfdkbaaRateCheck
namespace Go.Proofs.Ytjhklpffmfdkbaa
open Go.RowKit
set_option linter.unusedVariables false

theorem quiet_w {P : Program} {f : FuncId} {args : Array Value} {w : World} {v : Value} (h : Calls P f args w fun e w' => e = .returned v ∧ ∃ m, w' = w.drewN m) : Calls P f args w fun e w'' => e = .returned v ∧ ∃ m, w'' = w.drewN m := h
theorem quiet_wn {P : Program} {f : FuncId} {args : Array Value} {w : World} {n : Nat} {v : Value}
    (h : Calls P f args (w.drewN n) fun e w' => e = .returned v ∧ ∃ m, w' = (w.drewN n).drewN m) : Calls P f args (w.drewN n) fun e w'' => e = .returned v ∧ ∃ m, w'' = w.drewN m :=
  h.mono fun _ _ ⟨he, m, hm⟩ => ⟨he, n + m, by rw [hm, World.drewN_drewN]⟩
theorem quiet_wadd {P : Program} {f : FuncId} {args : Array Value} {w : World} {a n : Nat} {v : Value}
    (h : Calls P f args (w.drewN (a + n)) fun e w' => e = .returned v ∧ ∃ m, w' = (w.drewN (a + n)).drewN m) :
    Calls P f args (w.drewN (a + n)) fun e w'' => e = .returned v ∧ ∃ m, w'' = w.drewN (a + m) :=
  h.mono fun _ _ ⟨he, m, hm⟩ => ⟨he, n + m, by rw [hm, World.drewN_drewN, Nat.add_assoc]⟩

set_option maxHeartbeats 400000 in
theorem before_any (base : Nat) (v : Value) (l : List Int) (x : Int) (w : World) (hl : IntsFrom base w v l) (hs : l.Pairwise (· ≤ ·)) (hn : l.length ≤ 1000000) :
    Calls Try.prog 74 #[v, .int .i64 x] w fun r w' => r = .returned (.int .i64 (cntLt l x)) ∧ ∃ m, w' = w.drewN m := by
  obtain ⟨A, c, rfl, hlen, hA⟩ := hl.shape
  have hb := cntLt_bd l x
  rcases Nat.eq_zero_or_pos l.length with h0 | h0
  · have hl0 : l = [] := List.eq_nil_of_length_eq_zero h0
    subst hl0
    have HA := Lib.hid hA
    have HL := Lib.hid hl
    clear hA hl
    go_enter Try.func74, Try.ntmps74
    go_wp2_with fail
    refine (Try.slices_BinarySearch_int_empty A c x _).mono ?_
    rintro _ w1 ⟨rfl, rfl⟩
    go_wp2_with fail
    go_ret
    exact ⟨rfl, 0, rfl⟩
  · obtain ⟨g, rfl, _, _⟩ := hA h0
    have hc : ∀ j, j < l.length → w.cell? ⟨g, 0 + j, none⟩ = some (.int .i64 (l.getD j 0)) := fun j hj => by
      rw [Nat.zero_add, hl.at_ j hj]
      simp [List.getD, hj]
    have htk : l.take l.length = l := List.take_length
    have HB := Try.slices_BinarySearch_int g 0 l.length c l x w (Nat.le_refl _) (by omega) hc (by rw [htk]; exact hs)
    rw [htk] at HB
    have HB2 := Lib.hid HB
    have HL := Lib.hid hl
    have HS := Lib.hid hs
    clear HB hc hA hl hs htk
    go_enter Try.func74, Try.ntmps74
    go_wp2_with fail
    refine HB2.out.mono ?_
    rintro _ w1 ⟨rfl, q, rfl⟩
    go_wp2_with fail
    go_ret
    exact ⟨rfl, q, rfl⟩

theorem IntsFrom.drewN {base : Nat} {w : World} {v : Value} {l : List Int} (h : IntsFrom base w v l) (n : Nat) : IntsFrom base (w.drewN n) v l := h
theorem IntsFrom.alloc {base : Nat} {w : World} {v : Value} {l : List Int} (h : IntsFrom base w v l) (o : Obj) : IntsFrom base (w.alloc o) v l := World.ownsRow.alloc h o

set_option maxHeartbeats 1000000 in
theorem in_many (base : Nat) (v : Value) (l : List Int) (a to : Int) (w : World) (hl : IntsFrom base w v l) (hs : l.Pairwise (· ≤ ·)) (hn : l.length ≤ 1000000) :
    Calls Try.prog 58 #[v, .agg #[.int .i64 a, .int .i64 to]] w fun r w' => r = .returned (.int .i64 (manyI l a to)) ∧ w.grownBy w' none := by
  have HE := Lib.hid (inI_many l a to)
  unfold inI at HE
  obtain ⟨p, hp⟩ : ∃ p, cntLt l to = p := ⟨_, rfl⟩
  obtain ⟨q, hq⟩ : ∃ q, cntLt l a = q := ⟨_, rfl⟩
  have hp1 := cntLt_bd l to
  have hq1 := cntLt_bd l a
  rw [hp] at HE hp1
  rw [hq] at HE hq1
  obtain ⟨p0, p1⟩ := hp1
  obtain ⟨q0, q1⟩ := hq1
  have m1 : IntKind.i64.wrap (p - q) = p - q := IntWalk.i64_in _ ⟨by omega, by omega⟩
  have HL := Lib.hid hl
  have HS := Lib.hid hs
  clear hl hs
  go_enter Try.func58, Try.ntmps58
  go_wp2_with fail
  go_quiet ((go_at_call 74; first | exact quiet_w (before_any base v l _ _ (HL.out.alloc _) HS.out hn) | exact quiet_wn (before_any base v l _ _ ((HL.out.alloc _).drewN _) HS.out hn) | exact quiet_wadd (before_any base v l _ _ ((HL.out.alloc _).drewN _) HS.out hn)))
  all_goals go_wp2_with fail
  go_ret
  exact ⟨ret_of HE.out, gr_drewN (World.grownBy_alloc w _ none) _⟩

/-- How many of the first k. -/
theorem manyI_snoc (l : List Int) (a to : Int) (k : Nat) (h : k < l.length) : manyI (l.take (k + 1)) a to = manyI (l.take k) a to + truthI (hasB a to l[k]) := by
  rw [List.take_succ_eq_append_getElem h]
  unfold manyI
  rw [List.countP_append]
  cases hb : hasB a to l[k] <;> simp [truthI, hb]

set_option maxHeartbeats 1000000 in
theorem manyIn_any (base : Nat) (v : Value) (l : List Int) (a to : Int) (w : World) (hl : IntsFrom base w v l) (hn : l.length ≤ 1000000) :
    Calls Try.prog 64 #[v, .agg #[.int .i64 a, .int .i64 to]] w fun r w' => r = .returned (.int .i64 (manyI l a to)) ∧ w.grownBy w' none := by
  obtain ⟨A, c, rfl, hlen, hA⟩ := hl.shape
  have HL := Lib.hid hl
  have HA := Lib.hid hA
  clear hl hA
  go_enter Try.func64, Try.ntmps64
  go_wp2_with fail
  go_loopw [5, 10] (fun s i wr => ∃ (k : Nat) (m : Int), k ≤ l.length ∧ i = .int .i64 k ∧ s = .int .i64 m ∧ Hid (m = manyI (l.take k) a to) ∧ w.grownBy wr none ∧ Blk wr w.heap.size 27 #[.int .i64 a, .int .i64 to]) (fun _ i _ => l.length - (intOf i).toNat)
  case atStart => exact ⟨0, 0, by omega, rfl, rfl, rfl, World.grownBy_alloc w _ none, Blk.new _ _ _⟩
  case round =>
    obtain ⟨k, m, hk, rfl, rfl, HM, hG, hW⟩ := hrel
    have hmb := manyI_bd (l.take k) a to
    rw [← HM.out] at hmb
    have hml : (l.take k).length ≤ l.length := List.length_take_le' _ _
    obtain ⟨m0, m1⟩ := hmb
    by_cases hlt : k < l.length
    · obtain ⟨g, rfl, _, _⟩ := HA.out (by omega)
      have hkl : (k : Int) < (l.length : Int) := by omega
      have cx := (HL.out.grown hG).at_ k hlt
      have hs := manyI_snoc l a to k hlt
      have b0 : wr.cell? ⟨w.heap.size, 0, none⟩ = some (.int .i64 a) := hW.cell 0
      have b1 : wr.cell? ⟨w.heap.size, 1, none⟩ = some (.int .i64 to) := hW.cell 1
      obtain ⟨x, hx⟩ : ∃ x, x = l[k] := ⟨_, rfl⟩
      rw [← hx] at cx hs
      rw [← HM.out] at hs
      have HS := Lib.hid hs
      clear hx hs
      go_wp2_with fail
      refine (inside_any _ _ _ _).mono ?_
      rintro _ w2 ⟨rfl, hg2⟩
      have hG2 := gr_trans hG hg2
      have hW2 := hW.grown hg2 (by simp)
      go_wp2_with fail
      refine (truth_any _ _).mono ?_
      rintro _ _ ⟨rfl, rfl⟩
      obtain ⟨t, ht, t0, t1⟩ : ∃ t, truthI (hasB a to x) = t ∧ 0 ≤ t ∧ t ≤ 1 := ⟨_, rfl, by unfold truthI; split <;> omega, by unfold truthI; split <;> omega⟩
      rw [ht]
      have HT := Lib.hid ht
      clear ht
      go_wp2_with fail
      go_roundw
      case rel => exact ⟨k + 1, m + t, by omega, by go_num, rfl, by show _ = _; rw [HS.out, HT.out], hG2, hW2⟩
      case measure => simp [intOf]; omega
    · have hkl : ¬ (k : Int) < (l.length : Int) := by omega
      have hf : l.take k = l := List.take_of_length_le (by omega)
      have HF : Hid (m = manyI l a to) := by show _ = _; rw [HM.out, hf]
      clear hf
      go_wp2_with fail
      go_ret
      exact ⟨ret_of HF.out, hG⟩

set_option maxHeartbeats 400000 in
theorem inOf_any (base : Nat) (v : Value) (l : List Int) (a to : Int) (w : World) (hl : IntsFrom base w v l) (hn : l.length ≤ 1000000) :
    Calls Try.prog 21 #[v, .agg #[.int .i64 a, .int .i64 to]] w fun r w' => r = .returned (.int .i64 (manyI l a to)) ∧ w.grownBy w' none := by
  go_enter Try.func21, Try.ntmps21
  go_wp2_with fail
  refine (manyIn_any base _ _ _ _ _ (hl.alloc _) hn).mono ?_
  rintro _ w2 ⟨rfl, hg2⟩
  go_wp2_with fail
  go_ret
  exact ⟨rfl, gr_trans (World.grownBy_alloc w _ none) hg2⟩

def winE (a to : Int) : Int := if a < 0 ∨ to < a ∨ 345686400000 < to then 1 else 0
theorem winE_1 {a to : Int} (h : a < 0 ∨ to < a ∨ 345686400000 < to) : winE a to = 1 := by unfold winE; rw [if_pos h]
theorem winE_0 {a to : Int} (h : ¬ (a < 0 ∨ to < a ∨ 345686400000 < to)) : winE a to = 0 := by unfold winE; rw [if_neg h]

set_option maxHeartbeats 400000 in
theorem isWindow_e (a to : Int) (w : World) :
    Calls Try.prog 57 #[.agg #[.int .i64 a, .int .i64 to]] w fun r w' => r = .returned (.bool (decide (winE a to = 0))) ∧ w.grownBy w' none := by
  by_cases h1 : 0 ≤ a ∧ a ≤ to
  · have hb : outB a 0 to = false := outB_no h1.1 h1.2
    have HE : Hid (decide (winE a to = 0) = decide (to ≤ 345686400000)) := by
      show _ = _
      by_cases h : to ≤ 345686400000
      · rw [winE_0 (by omega)]; simp [h]
      · rw [winE_1 (by omega)]; simp [h]
    go_enter Try.func57, Try.ntmps57
    go_wp2_with fail
    refine (outside_any _ _ _ _).mono ?_
    rintro r w' ⟨rfl, rfl⟩
    go_wp2_with fail
    go_ret
    exact ⟨ret_b HE.out.symm, gr_alloc (gr_refl _ _) _⟩
  · have hb : outB a 0 to = true := outB_yes (by omega)
    have HE : Hid (decide (winE a to = 0) = false) := by
      show _ = _
      rw [winE_1 (by omega)]; rfl
    go_enter Try.func57, Try.ntmps57
    go_wp2_with fail
    refine (outside_any _ _ _ _).mono ?_
    rintro r w' ⟨rfl, rfl⟩
    go_wp2_with fail
    go_ret
    exact ⟨ret_b HE.out.symm, gr_alloc (gr_refl _ _) _⟩

set_option maxHeartbeats 400000 in
theorem windowFault_any (a to : Int) (w : World) :
    Calls Try.prog 16 #[.agg #[.int .i64 a, .int .i64 to]] w fun r w' => r = .returned (.int .i64 (winE a to)) ∧ w.grownBy w' none := by
  by_cases k1 : a < 0
  · have HE := Lib.hid (winE_1 (a := a) (to := to) (by omega))
    go_enter Try.func16, Try.ntmps16
    go_wp2_with fail
    go_ret
    exact ⟨ret_of HE.out.symm, gr_alloc (gr_refl _ _) _⟩
  by_cases k2 : to < a
  · have HE := Lib.hid (winE_1 (a := a) (to := to) (by omega))
    go_enter Try.func16, Try.ntmps16
    go_wp2_with fail
    go_ret
    exact ⟨ret_of HE.out.symm, gr_alloc (gr_refl _ _) _⟩
  by_cases k3 : 345686400000 < to
  · have HE := Lib.hid (winE_1 (a := a) (to := to) (by omega))
    go_enter Try.func16, Try.ntmps16
    go_wp2_with fail
    go_ret
    exact ⟨ret_of HE.out.symm, gr_alloc (gr_refl _ _) _⟩
  · have HE := Lib.hid (winE_0 (a := a) (to := to) (by omega))
    go_enter Try.func16, Try.ntmps16
    go_wp2_with fail
    go_ret
    exact ⟨ret_of HE.out.symm, gr_alloc (gr_refl _ _) _⟩

set_option maxHeartbeats 400000 in
theorem hoursOf_any (a to : Int) (w : World) (h0 : 0 ≤ a) (h1 : a < to) (h2 : to ≤ 345686400000) :
    Calls Try.prog 56 #[.agg #[.int .i64 a, .int .i64 to]] w fun r w' => r = .returned (.int .i64 (hoursI a to)) ∧ w.grownBy w' none := by
  go_enter Try.func56, Try.ntmps56
  go_wp2_with fail
  go_ret
  exact ⟨rfl, gr_alloc (gr_refl _ _) _⟩

def hoursE (a to : Int) : Int := if 1000 < hoursI a to then 2 else 0
set_option maxHeartbeats 400000 in
theorem hoursFault_any (a to : Int) (w : World) (h0 : 0 ≤ a) (h1 : a < to) (h2 : to ≤ 345686400000) :
    Calls Try.prog 15 #[.agg #[.int .i64 a, .int .i64 to]] w fun r w' => r = .returned (.int .i64 (hoursE a to)) ∧ w.grownBy w' none := by
  have hd : hoursI a to = (to - a + 3600000 - 1) / 3600000 := rfl
  by_cases h : 1000 < hoursI a to
  · have HE : Hid (hoursE a to = 2) := by show _ = _; unfold hoursE; rw [if_pos h]
    rw [hd] at h
    have HD := Lib.hid hd
    clear hd
    go_enter Try.func15, Try.ntmps15
    go_wp2_with fail
    go_ret
    exact ⟨ret_of HE.out.symm, gr_alloc (gr_refl _ _) _⟩
  · have HE : Hid (hoursE a to = 0) := by show _ = _; unfold hoursE; rw [if_neg h]
    rw [hd] at h
    have HD := Lib.hid hd
    clear hd
    go_enter Try.func15, Try.ntmps15
    go_wp2_with fail
    go_ret
    exact ⟨ret_of HE.out.symm, gr_alloc (gr_refl _ _) _⟩

def longE (n : Int) : Int := spanE n 60000 86400000
theorem longE_cases (n : Int) : (longE n = 0 ∧ outB n 60000 86400000 = false ∧ 60000 ≤ n ∧ n ≤ 86400000) ∨ (longE n = 1 ∧ outB n 60000 86400000 = true) := by
  unfold longE
  rcases spanE_cases n 60000 86400000 with ⟨h, h1, h2⟩ | ⟨h, h1⟩
  · exact .inl ⟨h, outB_no h1 h2, h1, h2⟩
  · exact .inr ⟨h, outB_yes h1⟩
set_option maxHeartbeats 400000 in
theorem isLong_any (n : Int) (w : World) :
    Calls Try.prog 62 #[.int .i64 n] w fun e w' => e = .returned (.bool (!outB n 60000 86400000)) ∧ w = w' := by
  go_enter Try.func62, Try.ntmps62
  go_wp2_with fail
  refine (outside_any _ _ _ _).mono ?_
  rintro e w' ⟨rfl, rfl⟩
  go_wp2_with fail
  go_ret
  exact ⟨rfl, rfl⟩
set_option maxHeartbeats 400000 in
theorem longFault_any (n : Int) (w : World) :
    Calls Try.prog 19 #[.int .i64 n] w fun e w' => e = .returned (.int .i64 (longE n)) ∧ w = w' := by
  go_enter Try.func19, Try.ntmps19
  go_wp2_with fail
  refine (spanFault_any _ _ _ _).mono ?_
  rintro e w' ⟨rfl, rfl⟩
  go_wp2_with fail
  go_ret
  exact ⟨rfl, rfl⟩
end Go.Proofs.Ytjhklpffmfdkbaa
