/- The walks over the reference's order of choices: compareChoices, with slices.CompareFunc over windows. Condition: rests of at most 10^6 windows. -/
import Derived.Test.YtlbhphfmckhimaaCmpInt
import Derived.Test.YtlbhphfmckhimaaPlanRef
import Derived.Test.YtlbhphfmckhimaaCheapW
namespace Go.Proofs.Ytlbhphfmckhimaa
open Go.RowKit
set_option linter.unusedVariables false
set_option linter.unusedSimpArgs false

set_option maxRecDepth 100000 in
set_option maxHeartbeats 4000000 in
theorem winCmp (X0 X1 Y0 Y1 : Int) (w : World) : Calls Try.prog 65 #[.agg #[.int .i64 X0, .int .i64 X1], .agg #[.int .i64 Y0, .int .i64 Y1]] w fun r w' => r = .returned (.int .i64 (if cmpN X0 Y0 = 0 then cmpN X1 Y1 else cmpN X0 Y0)) ∧ w.grownBy w' none := by
  have H1 := Lib.hid (fun W => compare_int X0 Y0 W)
  have H2 := Lib.hid (fun W => compare_int X1 Y1 W)
  generalize cmpN X0 Y0 = c1 at *
  generalize cmpN X1 Y1 = c2 at *
  obtain ⟨V, hV⟩ : ∃ V, (if c1 = 0 then c2 else c1) = V := ⟨_, rfl⟩
  rw [hV]
  have HV := Lib.hid hV
  clear hV
  have hx := (Blk.new w 27 #[.int .i64 X0, .int .i64 X1]).alloc (.cells #[.int .i64 Y0, .int .i64 Y1] 27)
  have hy := Blk.new (w.alloc (.cells #[.int .i64 X0, .int .i64 X1] 27)) 27 #[.int .i64 Y0, .int .i64 Y1]
  rw [World.size_alloc] at hy
  have hG := gr_alloc (World.grownBy_alloc w (.cells #[.int .i64 X0, .int .i64 X1] 27) none) (.cells #[.int .i64 Y0, .int .i64 Y1] 27)
  go_enter Try.func65, Try.ntmps65
  go_upto_region 1 with fail
  generalize (w.alloc (.cells #[.int .i64 X0, .int .i64 X1] 27)).alloc (.cells #[.int .i64 Y0, .int .i64 Y1] 27) = W5 at *
  obtain ⟨x0, x1⟩ := hx.cells2
  obtain ⟨y0, y1⟩ := hy.cells2
  generalize w.heap.size + 1 = gy at *
  generalize w.heap.size = gx at *
  go_region_held3 (fun W' => W'.cell? ⟨gx, 0, none⟩ = some (.int .i64 X0) ∧ W'.cell? ⟨gx, 1, none⟩ = some (.int .i64 X1) ∧ W'.cell? ⟨gy, 0, none⟩ = some (.int .i64 Y0) ∧ W'.cell? ⟨gy, 1, none⟩ = some (.int .i64 Y1)) (go_keep)
    (first | (go_at_call_of 63 (Value.int .i64 X0); refine (H1.out _).mono ?_; rintro _ _ ⟨rfl, rfl⟩) | (go_at_call_of 63 (Value.int .i64 X1); refine (H2.out _).mono ?_; rintro _ _ ⟨rfl, rfl⟩)  | (go_at_call 62; refine (orI2_at _ _ _ _ (by repeat (first | exact Blk.new _ _ _ | refine Blk.drew ?_ | refine Blk.alloc ?_ _))).mono ?_; rintro _ _ ⟨rfl, rfl⟩; rw [HV.out]) | fail)
  all_goals
    go_wp2_with fail
    go_ret
    exact ⟨rfl, gr_trans hG (by repeat (first | exact gr_refl _ _ | assumption | refine gr_alloc ?_ _ | refine gr_drewN ?_ _ | refine gr_drew ?_))⟩

/-- slices.CompareFunc at windows. -/
def cmpWI : List (Int × Int) → List (Int × Int) → Int
  | [], [] => 0
  | [], _ :: _ => -1
  | _ :: _, [] => 1
  | p :: r, q :: s => if (if cmpN p.1 q.1 = 0 then cmpN p.2 q.2 else cmpN p.1 q.1) = 0 then cmpWI r s else (if cmpN p.1 q.1 = 0 then cmpN p.2 q.2 else cmpN p.1 q.1)
theorem cmpWI_step (a b : List (Int × Int)) (k : Nat) (ha : k < a.length) (hb : k < b.length) :
    cmpWI (a.drop k) (b.drop k) = if (if cmpN a[k].1 b[k].1 = 0 then cmpN a[k].2 b[k].2 else cmpN a[k].1 b[k].1) = 0 then cmpWI (a.drop (k + 1)) (b.drop (k + 1)) else (if cmpN a[k].1 b[k].1 = 0 then cmpN a[k].2 b[k].2 else cmpN a[k].1 b[k].1) := by
  rw [List.drop_eq_getElem_cons ha, List.drop_eq_getElem_cons hb]
  rfl
theorem cmpWI_long (a b : List (Int × Int)) (k : Nat) (ha : k < a.length) (hb : b.length ≤ k) : cmpWI (a.drop k) (b.drop k) = 1 := by
  rw [List.drop_eq_getElem_cons ha, List.drop_eq_nil_of_le hb]
  rfl
theorem cmpWI_end (a b : List (Int × Int)) (k : Nat) (ha : a.length ≤ k) : cmpWI (a.drop k) (b.drop k) = if k < b.length then -1 else 0 := by
  rw [List.drop_eq_nil_of_le ha]
  split
  · rename_i h; rw [List.drop_eq_getElem_cons h]; rfl
  · rename_i h; rw [List.drop_eq_nil_of_le (by omega)]; rfl
set_option maxRecDepth 100000 in
set_option maxHeartbeats 4000000 in
theorem cmpRests (base : Nat) (u v : Value) (la lb : List (Int × Int)) (w : World) (hu : WinsFrom base w u la) (hv : WinsFrom base w v lb) :
    Calls Try.prog 64 #[u, v, .func (.func 65) #[] #[]] w fun r w' => r = .returned (.int .i64 (cmpWI la lb)) ∧ w.grownBy w' none := by
  obtain ⟨A, ca, rfl, hla, hA⟩ := hu.shape
  obtain ⟨B, cb, rfl, hlb, hB⟩ := hv.shape
  have HU := Lib.hid hu
  have HV := Lib.hid hv
  have HA := Lib.hid hA
  have HB := Lib.hid hB
  clear hu hv hA hB
  go_enter Try.func64, Try.ntmps64
  go_wp2_with fail
  go_loopw [13] (fun iv wr => ∃ k : Nat, k ≤ la.length ∧ k ≤ lb.length ∧ iv = .int .i64 k ∧ Hid (cmpWI la lb = cmpWI (la.drop k) (lb.drop k)) ∧ w.grownBy wr none) (fun iv _ => la.length - (intOf iv).toNat)
  case atStart => exact ⟨0, by omega, by omega, rfl, rfl, gr_refl _ _⟩
  case round =>
    obtain ⟨k, hk, hkb, rfl, HN, hg⟩ := hrel
    by_cases hlt : k < la.length
    · have hkl : (k : Int) < (la.length : Int) := by omega
      obtain ⟨ga, rfl, _, hga⟩ := HA.out (by omega)
      obtain ⟨x0, x1⟩ := (HU.out.grown hg).at1 k hlt
      by_cases hltb : k < lb.length
      · have hkl2 : (k : Int) < (lb.length : Int) := by omega
        have hkl3 : ¬ (lb.length : Int) ≤ (k : Int) := by omega
        obtain ⟨gb, rfl, _, hgb⟩ := HB.out (by omega)
        obtain ⟨y0, y1⟩ := (HV.out.grown hg).at1 k hltb
        have hst := cmpWI_step la lb k hlt hltb
        rw [← HN.out] at hst
        generalize la[k].1 = X0 at *
        generalize la[k].2 = X1 at *
        generalize lb[k].1 = Y0 at *
        generalize lb[k].2 = Y1 at *
        have HC := Lib.hid (fun W => winCmp X0 X1 Y0 Y1 W)
        obtain ⟨V, hV⟩ : ∃ V, (if cmpN X0 Y0 = 0 then cmpN X1 Y1 else cmpN X0 Y0) = V := ⟨_, rfl⟩
        rw [hV] at HC hst
        have hszg := hg.size
        have hgar : ga < wr.heap.size := by omega
        have hgbr : gb < wr.heap.size := by omega
        by_cases hv0 : V = 0
        · have HS2 : Hid (cmpWI la lb = cmpWI (la.drop (k + 1)) (lb.drop (k + 1))) := by show _ = _; rw [hst, if_pos hv0]
          have hvb : (V != 0) = false := by simpa using hv0
          clear hst hV hv0
          have hP := (Blk.new wr 27 #[.int .i64 X0, .int .i64 X1])
          have gP := World.grownBy_alloc wr (.cells #[.int .i64 X0, .int .i64 X1] 27) none
          go_upto_region 4 with fail
          have hB1 := hP.alloc (.cells #[.int .i64 Y0, .int .i64 Y1] 27)
          have hB2 := Blk.new (wr.alloc (.cells #[.int .i64 X0, .int .i64 X1] 27)) 27 #[.int .i64 Y0, .int .i64 Y1]
          have gQ := gr_alloc gP (.cells #[.int .i64 Y0, .int .i64 Y1] 27)
          rw [World.size_alloc] at hB2
          go_upto_region 7 with fail
          generalize (wr.alloc (.cells #[.int .i64 X0, .int .i64 X1] 27)).alloc (.cells #[.int .i64 Y0, .int .i64 Y1] 27) = W2 at *
          obtain ⟨p0, p1⟩ := hB1.cells2
          obtain ⟨q0, q1⟩ := hB2.cells2
          go_wp2_with fail
          refine (HC.out _).mono ?_
          rintro _ w3 ⟨rfl, hg3⟩
          go_wp2_with fail
          go_roundw
          case rel => exact ⟨k + 1, by omega, by omega, by go_num, HS2, gr_trans hg (gr_trans gQ hg3)⟩
          case measure => simp [intOf]; omega
        · have HS2 : Hid (cmpWI la lb = V) := by show _ = _; rw [hst, if_neg hv0]
          have hvb : (V != 0) = true := by simpa using hv0
          clear hst hV hv0
          have hP := (Blk.new wr 27 #[.int .i64 X0, .int .i64 X1])
          have gP := World.grownBy_alloc wr (.cells #[.int .i64 X0, .int .i64 X1] 27) none
          go_upto_region 4 with fail
          have hB1 := hP.alloc (.cells #[.int .i64 Y0, .int .i64 Y1] 27)
          have hB2 := Blk.new (wr.alloc (.cells #[.int .i64 X0, .int .i64 X1] 27)) 27 #[.int .i64 Y0, .int .i64 Y1]
          have gQ := gr_alloc gP (.cells #[.int .i64 Y0, .int .i64 Y1] 27)
          rw [World.size_alloc] at hB2
          go_upto_region 7 with fail
          generalize (wr.alloc (.cells #[.int .i64 X0, .int .i64 X1] 27)).alloc (.cells #[.int .i64 Y0, .int .i64 Y1] 27) = W2 at *
          obtain ⟨p0, p1⟩ := hB1.cells2
          obtain ⟨q0, q1⟩ := hB2.cells2
          go_wp2_with fail
          refine (HC.out _).mono ?_
          rintro _ w3 ⟨rfl, hg3⟩
          go_wp2_with fail
          go_ret
          exact ⟨ret_of HS2.out.symm, gr_trans hg (gr_trans gQ hg3)⟩
      · have hkl3 : (lb.length : Int) ≤ (k : Int) := by omega
        have HS2 : Hid (cmpWI la lb = 1) := by show _ = _; rw [HN.out, cmpWI_long la lb k hlt (by omega)]
        go_wp2_with fail
        go_ret
        exact ⟨ret_of HS2.out.symm, gr_alloc hg _⟩
    · have hkl : ¬ (k : Int) < (la.length : Int) := by omega
      have he := cmpWI_end la lb k (by omega)
      rw [← HN.out] at he
      by_cases hltb : k < lb.length
      · have hkl2 : (la.length : Int) < (lb.length : Int) := by omega
        have HS2 : Hid (cmpWI la lb = -1) := by show _ = _; rw [he, if_pos hltb]
        clear he
        go_wp2_with fail
        go_ret
        exact ⟨ret_of HS2.out.symm, hg⟩
      · have hkl2 : ¬ (la.length : Int) < (lb.length : Int) := by omega
        have HS2 : Hid (cmpWI la lb = 0) := by show _ = _; rw [he, if_neg hltb]
        clear he
        go_wp2_with fail
        go_ret
        exact ⟨ret_of HS2.out.symm, hg⟩
/-- The order of two choices. -/
def cmpCI (c1 g1 c2 g2 : Int) (la lb : List (Int × Int)) : Int :=
  orL [cmpN c1 c2, cmpN g1 g2, cmpN (la.length : Int) (lb.length : Int), cmpWI la lb]
set_option maxRecDepth 100000 in
set_option maxHeartbeats 4000000 in
theorem cmpChoices (base : Nat) (c1 g1 c2 g2 : Int) (u v : Value) (la lb : List (Int × Int)) (w : World) (hu : WinsFrom base w u la) (hv : WinsFrom base w v lb) :
    Calls Try.prog 45 #[.agg #[.int .i64 c1, .int .i64 g1, u], .agg #[.int .i64 c2, .int .i64 g2, v]] w fun r w' => r = .returned (.int .i64 (cmpCI c1 g1 c2 g2 la lb)) ∧ w.grownBy w' none := by
  obtain ⟨A, ca, rfl, hla, hA⟩ := hu.shape
  obtain ⟨B, cb, rfl, hlb, hB⟩ := hv.shape
  clear hA hB
  have hx := (Blk.new w 86 #[.int .i64 c1, .int .i64 g1, .slice A la.length ca]).alloc (.cells #[.int .i64 c2, .int .i64 g2, .slice B lb.length cb] 86)
  have hy := Blk.new (w.alloc (.cells #[.int .i64 c1, .int .i64 g1, .slice A la.length ca] 86)) 86 #[.int .i64 c2, .int .i64 g2, .slice B lb.length cb]
  rw [World.size_alloc] at hy
  have hG := gr_alloc (World.grownBy_alloc w (.cells #[.int .i64 c1, .int .i64 g1, .slice A la.length ca] 86) none) (.cells #[.int .i64 c2, .int .i64 g2, .slice B lb.length cb] 86)
  have HU := Lib.hid (hu.grown hG)
  have HV := Lib.hid (hv.grown hG)
  have HCI : Hid (cmpCI c1 g1 c2 g2 la lb = orL [cmpN c1 c2, cmpN g1 g2, cmpN (la.length : Int) (lb.length : Int), cmpWI la lb]) := rfl
  clear hu hv
  obtain ⟨n1, hn1⟩ : ∃ n, la.length = n := ⟨_, rfl⟩
  obtain ⟨n2, hn2⟩ : ∃ n, lb.length = n := ⟨_, rfl⟩
  have HLA := Lib.hid hn1
  have HLB := Lib.hid hn2
  rw [hn1] at hx hy hG HU HCI hla
  rw [hn2] at hx hy hG HU HV HCI hlb
  rw [hn1] at HV
  have H1 := Lib.hid (fun W => compare_int c1 c2 W)
  have H2 := Lib.hid (fun W => compare_int g1 g2 W)
  have H3 := Lib.hid (fun W => compare_int (n1 : Int) (n2 : Int) W)
  have H4 : Hid (∀ W : World, ((w.alloc (.cells #[.int .i64 c1, .int .i64 g1, .slice A n1 ca] 86)).alloc (.cells #[.int .i64 c2, .int .i64 g2, .slice B n2 cb] 86)).grownBy W none → Calls Try.prog 64 #[.slice A n1 ca, .slice B n2 cb, .func (.func 65) #[] #[]] W fun r w' => r = .returned (.int .i64 (cmpWI la lb)) ∧ W.grownBy w' none) := fun W hW => cmpRests base _ _ la lb W (HU.out.grown hW) (HV.out.grown hW)
  rw [hn1, hn2]
  generalize cmpN c1 c2 = r1 at *
  generalize cmpN g1 g2 = r2 at *
  generalize cmpN (n1 : Int) (n2 : Int) = r3 at *
  generalize cmpWI la lb = r4 at *
  clear hn1 hn2 HU HV
  go_enter Try.func45, Try.ntmps45
  go_upto_region 1 with fail
  generalize (w.alloc (.cells #[.int .i64 c1, .int .i64 g1, .slice A n1 ca] 86)).alloc (.cells #[.int .i64 c2, .int .i64 g2, .slice B n2 cb] 86) = W5 at *
  have x0 := hx.cell 0
  have x1 := hx.cell 1
  have x2 := hx.cell 2
  have y0 := hy.cell 0
  have y1 := hy.cell 1
  have y2 := hy.cell 2
  simp only [List.getElem?_toArray, List.getElem?_cons_zero, List.getElem?_cons_succ] at x0 x1 x2 y0 y1 y2
  generalize w.heap.size + 1 = gy at *
  generalize w.heap.size = gx at *
  have KX : Hid (∀ W' : World, W5.grownBy W' none → W'.cell? ⟨gx, 0, none⟩ = some (.int .i64 c1) ∧ W'.cell? ⟨gx, 1, none⟩ = some (.int .i64 g1) ∧ W'.cell? ⟨gx, 2, none⟩ = some (.slice A n1 ca) ∧ W'.cell? ⟨gy, 0, none⟩ = some (.int .i64 c2) ∧ W'.cell? ⟨gy, 1, none⟩ = some (.int .i64 g2) ∧ W'.cell? ⟨gy, 2, none⟩ = some (.slice B n2 cb) ∧ W5.grownBy W' none) := fun W' hW =>
    ⟨(hx.grown hW (by simp)).cell 0, (hx.grown hW (by simp)).cell 1, (hx.grown hW (by simp)).cell 2, (hy.grown hW (by simp)).cell 0, (hy.grown hW (by simp)).cell 1, (hy.grown hW (by simp)).cell 2, hW⟩
  go_region_held3 (fun W' => W'.cell? ⟨gx, 0, none⟩ = some (.int .i64 c1) ∧ W'.cell? ⟨gx, 1, none⟩ = some (.int .i64 g1) ∧ W'.cell? ⟨gx, 2, none⟩ = some (.slice A n1 ca) ∧ W'.cell? ⟨gy, 0, none⟩ = some (.int .i64 c2) ∧ W'.cell? ⟨gy, 1, none⟩ = some (.int .i64 g2) ∧ W'.cell? ⟨gy, 2, none⟩ = some (.slice B n2 cb) ∧ W5.grownBy W' none)
    ((exact KX.out _ (by repeat (first | exact gr_refl _ _ | assumption | refine gr_drew ?_ | refine gr_alloc ?_ _ | refine gr_trans ?_ (by assumption)))))
    (first | (go_at_call_of 63 (Value.int .i64 c1); refine (H1.out _).mono ?_; rintro _ _ ⟨rfl, rfl⟩) | (go_at_call_of 63 (Value.int .i64 g1); refine (H2.out _).mono ?_; rintro _ _ ⟨rfl, rfl⟩) | (go_at_call_of 63 (Value.int .i64 (n1 : Int)); refine (H3.out _).mono ?_; rintro _ _ ⟨rfl, rfl⟩) | (go_at_call 64; refine (H4.out _ (by repeat (first | exact gr_refl _ _ | assumption | refine gr_drew ?_ | refine gr_alloc ?_ _ | refine gr_trans ?_ (by assumption)))).mono ?_; rintro _ wC ⟨rfl, hgC⟩) | (go_at_call 62; refine (orI_any [r1, r2, r3, r4] _ 4 4 _ (by repeat (first | exact Blk.new _ _ _ | refine Blk.drew ?_ | refine Blk.alloc ?_ _)) rfl (by decide)).mono ?_; rintro _ _ ⟨rfl, rfl⟩) | fail)
  all_goals
    go_wp2_with fail
    go_ret
    exact ⟨ret_of HCI.out.symm, gr_trans hG (by repeat (first | exact gr_refl _ _ | assumption | refine gr_drew ?_ | refine gr_alloc ?_ _ | refine gr_trans ?_ (by assumption)))⟩
end Go.Proofs.Ytlbhphfmckhimaa
