/- The walks over how many moments are before one and in a window, in package rate (by search) and in the reference (by counting). Condition: times that are searched are sorted. -/
import Derived.Test.YtjhklpffmfdkbaaGreatDoorRateCheck
namespace Go.Proofs.YtjhklpffmfdkbaaGreatDoor
open Go.RowKit
set_option linter.unusedVariables false

theorem quiet_w {P : Program} {f : FuncId} {args : Array Value} {w : World} {v : Value} (h : Calls P f args w fun e w' => e = .returned v ∧ ∃ m, w' = w.drewN m) : Calls P f args w fun e w'' => e = .returned v ∧ ∃ m, w'' = w.drewN m := h
theorem quiet_wn {P : Program} {f : FuncId} {args : Array Value} {w : World} {n : Nat} {v : Value}
    (h : Calls P f args (w.drewN n) fun e w' => e = .returned v ∧ ∃ m, w' = (w.drewN n).drewN m) : Calls P f args (w.drewN n) fun e w'' => e = .returned v ∧ ∃ m, w'' = w.drewN m :=
  h.mono fun _ _ ⟨he, m, hm⟩ => ⟨he, n + m, by rw [hm, World.drewN_drewN]⟩
theorem quiet_wadd {P : Program} {f : FuncId} {args : Array Value} {w : World} {a n : Nat} {v : Value}
    (h : Calls P f args (w.drewN (a + n)) fun e w' => e = .returned v ∧ ∃ m, w' = (w.drewN (a + n)).drewN m) :
    Calls P f args (w.drewN (a + n)) fun e w'' => e = .returned v ∧ ∃ m, w'' = w.drewN (a + m) :=
  h.mono fun _ _ ⟨he, m, hm⟩ => ⟨he, n + m, by rw [hm, World.drewN_drewN, Nat.add_assoc]⟩

set_option maxHeartbeats 400000 in
theorem before_any (base : Nat) (v : Value) (l : List Int) (x : Int) (w : World) (hl : IntsFrom base w v l) (hs : l.Pairwise (· ≤ ·)) (hn : l.length ≤ 1000000) :
    Calls Tryz.prog 28 #[v, .int .i64 x] w fun r w' => r = .returned (.int .i64 (cntLt l x)) ∧ ∃ m, w' = w.drewN m := by
  obtain ⟨A, c, rfl, hlen, hA⟩ := hl.shape
  have hb := cntLt_bd l x
  rcases Nat.eq_zero_or_pos l.length with h0 | h0
  · have hl0 : l = [] := List.eq_nil_of_length_eq_zero h0
    subst hl0
    have HA := Lib.hid hA
    have HL := Lib.hid hl
    clear hA hl
    go_enter Tryz.func28, Tryz.ntmps28
    go_wp2_with fail
    refine (Tryz.slices_BinarySearch_int_empty A c x _).mono ?_
    rintro _ w1 ⟨rfl, rfl⟩
    go_wp2_with fail
    go_ret
    exact ⟨rfl, 0, rfl⟩
  · obtain ⟨g, rfl, _, _⟩ := hA h0
    have hc : ∀ j, j < l.length → w.cell? ⟨g, 0 + j, none⟩ = some (.int .i64 (l.getD j 0)) := fun j hj => by
      rw [Nat.zero_add, hl.at_ j hj]
      simp [List.getD, hj]
    have htk : l.take l.length = l := List.take_length
    have HB := Tryz.slices_BinarySearch_int g 0 l.length c l x w (Nat.le_refl _) (by omega) hc (by rw [htk]; exact hs)
    rw [htk] at HB
    have HB2 := Lib.hid HB
    have HL := Lib.hid hl
    have HS := Lib.hid hs
    clear HB hc hA hl hs htk
    go_enter Tryz.func28, Tryz.ntmps28
    go_wp2_with fail
    refine HB2.out.mono ?_
    rintro _ w1 ⟨rfl, q, rfl⟩
    go_wp2_with fail
    go_ret
    exact ⟨rfl, q, rfl⟩

theorem IntsFrom.drewN {base : Nat} {w : World} {v : Value} {l : List Int} (h : IntsFrom base w v l) (n : Nat) : IntsFrom base (w.drewN n) v l := h
theorem IntsFrom.alloc {base : Nat} {w : World} {v : Value} {l : List Int} (h : IntsFrom base w v l) (o : Obj) : IntsFrom base (w.alloc o) v l := World.ownsRow.alloc h o

set_option maxHeartbeats 1000000 in
theorem in_many (base : Nat) (v : Value) (l : List Int) (a zt : Int) (w : World) (hl : IntsFrom base w v l) (hs : l.Pairwise (· ≤ ·)) (hn : l.length ≤ 1000000) :
    Calls Tryz.prog 64 #[v, .agg #[.int .i64 a, .int .i64 zt]] w fun r w' => r = .returned (.int .i64 (manyI l a zt)) ∧ w.grownBy w' none := by
  have HE := Lib.hid (inI_many l a zt)
  unfold inI at HE
  obtain ⟨p, hp⟩ : ∃ p, cntLt l zt = p := ⟨_, rfl⟩
  obtain ⟨q, hq⟩ : ∃ q, cntLt l a = q := ⟨_, rfl⟩
  have hp1 := cntLt_bd l zt
  have hq1 := cntLt_bd l a
  rw [hp] at HE hp1
  rw [hq] at HE hq1
  obtain ⟨p0, p1⟩ := hp1
  obtain ⟨q0, q1⟩ := hq1
  have m1 : IntKind.i64.wrap (p - q) = p - q := IntWalk.i64_in _ ⟨by omega, by omega⟩
  have HL := Lib.hid hl
  have HS := Lib.hid hs
  clear hl hs
  go_enter Tryz.func64, Tryz.ntmps64
  go_wp2_with fail
  go_quiet ((go_at_call 28; first | exact quiet_w (before_any base v l _ _ (HL.out.alloc _) HS.out hn) | exact quiet_wn (before_any base v l _ _ ((HL.out.alloc _).drewN _) HS.out hn) | exact quiet_wadd (before_any base v l _ _ ((HL.out.alloc _).drewN _) HS.out hn)))
  all_goals go_wp2_with fail
  go_ret
  exact ⟨ret_of HE.out, gr_drewN (World.grownBy_alloc w _ none) _⟩

/-- How many of the first k. -/
theorem manyI_snoc (l : List Int) (a zt : Int) (k : Nat) (h : k < l.length) : manyI (l.take (k + 1)) a zt = manyI (l.take k) a zt + truthI (hasB a zt l[k]) := by
  rw [List.take_succ_eq_append_getElem h]
  unfold manyI
  rw [List.countP_append]
  cases hb : hasB a zt l[k] <;> simp [truthI, hb]

def winE (a zt : Int) : Int := if a < 0 ∨ zt < a ∨ 345686400000 < zt then 1 else 0
theorem winE_1 {a zt : Int} (h : a < 0 ∨ zt < a ∨ 345686400000 < zt) : winE a zt = 1 := by unfold winE; rw [if_pos h]
theorem winE_0 {a zt : Int} (h : ¬ (a < 0 ∨ zt < a ∨ 345686400000 < zt)) : winE a zt = 0 := by unfold winE; rw [if_neg h]

set_option maxHeartbeats 400000 in
theorem hoursOf_any (a zt : Int) (w : World) (h0 : 0 ≤ a) (h1 : a < zt) (h2 : zt ≤ 345686400000) :
    Calls Tryz.prog 26 #[.agg #[.int .i64 a, .int .i64 zt]] w fun r w' => r = .returned (.int .i64 (hoursI a zt)) ∧ w.grownBy w' none := by
  go_enter Tryz.func26, Tryz.ntmps26
  go_wp2_with fail
  go_ret
  exact ⟨rfl, gr_alloc (gr_refl _ _) _⟩

def hoursE (a zt : Int) : Int := if 1000 < hoursI a zt then 2 else 0
def longE (n : Int) : Int := spanE n 60000 86400000
theorem longE_cases (n : Int) : (longE n = 0 ∧ outB n 60000 86400000 = false ∧ 60000 ≤ n ∧ n ≤ 86400000) ∨ (longE n = 1 ∧ outB n 60000 86400000 = true) := by
  unfold longE
  rcases spanE_cases n 60000 86400000 with ⟨h, h1, h2⟩ | ⟨h, h1⟩
  · exact .inl ⟨h, outB_no h1 h2, h1, h2⟩
  · exact .inr ⟨h, outB_yes h1⟩
set_option maxHeartbeats 400000 in
theorem isLong_any (n : Int) (w : World) :
    Calls Tryz.prog 63 #[.int .i64 n] w fun e w' => e = .returned (.bool (!outB n 60000 86400000)) ∧ w = w' := by
  go_enter Tryz.func63, Tryz.ntmps63
  go_wp2_with fail
  refine (outside_any _ _ _ _).mono ?_
  rintro e w' ⟨rfl, rfl⟩
  go_wp2_with fail
  go_ret
  exact ⟨rfl, rfl⟩
end Go.Proofs.YtjhklpffmfdkbaaGreatDoor
