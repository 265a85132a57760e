/- The walks over rate.Forecast and its twin in the reference. Condition: the window's end is at most 2^60. -/
import Derived.Test.YtjhklpffmfdkbaaGoal
namespace Go.Proofs.Ytjhklpffmfdkbaa
open Go.RowKit
set_option linter.unusedVariables false

def foreB (l : List Int) (a to at_ long : Int) : Bool := decide (lastE l a to at_ long = 0 ∧ lastA a at_ long < lastT to at_)
def foreI (l : List Int) (a to at_ long : Int) : Int := cntLt l at_ + (max 0 (to - at_)) * manyI l (lastA a at_ long) (lastT to at_) / (lastT to at_ - lastA a at_ long)
theorem ret_ibi {a b c d : Int} {p : Bool} (h : a = b) (h' : c = d) : Ending.returned (.tuple #[.int .i64 a, .bool p, .int .i64 c]) = .returned (.tuple #[.int .i64 b, .bool p, .int .i64 d]) := by rw [h, h']
theorem ret_ib {a b : Int} {p : Bool} (h : a = b) : Ending.returned (.tuple #[.int .i64 a, .bool p]) = .returned (.tuple #[.int .i64 b, .bool p]) := by rw [h]

set_option maxHeartbeats 1000000 in
theorem forecast_bad (base : Nat) (v : Value) (l : List Int) (a to at_ long : Int) (w : World) (hl : IntsFrom base w v l) (hto : -1152921504606846976 ≤ to) (hto2 : to ≤ 1152921504606846976) (hE : lastE l a to at_ long ≠ 0) :
    Calls Try.prog 44 #[v, .agg #[.int .i64 a, .int .i64 to], .int .i64 at_, .int .i64 long] w fun r w' => r = .returned (.tuple #[.int .i64 0, .bool false, .int .i64 (lastE l a to at_ long)]) ∧ w.grownBy w' none := by
  have hE1 : (lastE l a to at_ long != 0) = true := by rw [bne_iff_ne]; exact hE
  have hG := World.grownBy_alloc w (.cells #[.int .i64 a, .int .i64 to] 27) none
  have HL := Lib.hid (hl.grown hG)
  have HE := Lib.hid hE
  clear hl hE
  go_enter Try.func44, Try.ntmps44
  go_wp2_with fail
  refine (lastFault_any base _ _ _ _ _ _ _ HL.out hto hto2).mono ?_
  rintro _ w1 ⟨rfl, hg1⟩
  go_wp2_with fail
  go_ret3
  exact ⟨rfl, gr_trans hG hg1⟩

theorem fore_facts {l : List Int} {a to at_ long : Int} (hE : timesE l a to = 0) (hM : mlE at_ long = 0) :
    lastE l a to at_ long = 0 ∧ momE at_ = 0 ∧ longE long = 0 ∧ 0 ≤ at_ ∧ at_ ≤ 345686399999 ∧ 60000 ≤ long ∧ long ≤ 86400000 := by
  have hLE : lastE l a to at_ long = 0 := by unfold lastE; rw [if_pos hE, hM]
  obtain ⟨m0, m1, m2⟩ : mlE at_ long = 0 ∧ momE at_ = 0 ∧ longE long = 0 := by
    rcases mlE_01 at_ long with h | h
    · exact h
    · omega
  obtain ⟨r0, r1⟩ : 0 ≤ at_ ∧ at_ ≤ 345686399999 := by
    rcases momE_cases at_ with ⟨_, _, h1, h2⟩ | ⟨h, _⟩
    · exact ⟨h1, h2⟩
    · omega
  obtain ⟨r2, r3⟩ : 60000 ≤ long ∧ long ≤ 86400000 := by
    rcases longE_cases long with ⟨_, _, h1, h2⟩ | ⟨h, _⟩
    · exact ⟨h1, h2⟩
    · omega
  exact ⟨hLE, m1, m2, r0, r1, r2, r3⟩

set_option maxRecDepth 100000 in
set_option maxHeartbeats 2000000 in
theorem forecast_ok (base : Nat) (v : Value) (l : List Int) (a to at_ long : Int) (w : World) (hl : IntsFrom base w v l) (hE : timesE l a to = 0) (hM : mlE at_ long = 0) (hlt : lastA a at_ long < lastT to at_) :
    Calls Try.prog 44 #[v, .agg #[.int .i64 a, .int .i64 to], .int .i64 at_, .int .i64 long] w fun r w' => r = .returned (.tuple #[.int .i64 (foreI l a to at_ long), .bool true, .int .i64 0]) ∧ w.grownBy w' none := by
  have O := timesE_ok hE
  obtain ⟨hLE, m1, m2, r0, r1, r2, r3⟩ := fore_facts hE hM
  have hto := O.to_
  have ha0 := O.a0
  have hato := O.ato
  have hll := O.len
  have hG := World.grownBy_alloc w (.cells #[.int .i64 a, .int .i64 to] 27) none
  have HL := Lib.hid (hl.grown hG)
  have hx0 := Blk.new w 27 #[.int .i64 a, .int .i64 to]
  have hA0 : a ≤ lastA a at_ long := by unfold lastA; omega
  have hA1 : lastT to at_ ≤ to := by unfold lastT; omega
  have hTat : to - lastT to at_ = max 0 (to - at_) := by unfold lastT; omega
  have hA2 : lastA a at_ long ≤ 345686400000 := by unfold lastA; omega
  have hA3 : 0 ≤ lastT to at_ := by unfold lastT; omega
  have hF0 : foreI l a to at_ long = cntLt l at_ + (max 0 (to - at_)) * manyI l (lastA a at_ long) (lastT to at_) / (lastT to at_ - lastA a at_ long) := rfl
  obtain ⟨A, hAd⟩ : ∃ A, lastA a at_ long = A := ⟨_, rfl⟩
  obtain ⟨T, hTd⟩ : ∃ T, lastT to at_ = T := ⟨_, rfl⟩
  simp only [hAd, hTd] at hlt hA0 hA1 hTat hA2 hA3 hF0
  obtain ⟨L, hLd⟩ : ∃ L, max 0 (to - at_) = L := ⟨_, rfl⟩
  have hLb : 0 ≤ L ∧ L ≤ 345686400000 := by omega
  rw [hLd] at hF0 hTat
  have hmb := manyI_bd l A T
  obtain ⟨M, hMd⟩ : ∃ M, manyI l A T = M := ⟨_, rfl⟩
  rw [hMd] at hmb hF0
  have hcb := cntLt_bd l at_
  have hman : manyI l a at_ = cntLt l at_ := by
    have h0 : cntLt l a = 0 := by
      unfold cntLt
      have : l.countP (fun y => decide (y < a)) = 0 := List.countP_eq_zero.2 (fun x hx => by have := O.mem x hx; simp; omega)
      omega
    have hle : a ≤ at_ := by omega
    rw [← cnt_diff l a at_ hle, h0, Int.sub_zero]
  obtain ⟨C, hCd⟩ : ∃ C, cntLt l at_ = C := ⟨_, rfl⟩
  rw [hCd] at hcb hF0 hman
  have p1 := mul_bd (C := 345686400000) (D := 2000) hLb.1 hLb.2 hmb.1 (by omega)
  obtain ⟨D, hDd⟩ : ∃ D, T - A = D := ⟨_, rfl⟩
  obtain ⟨Z, hZd⟩ : ∃ Z, L * M = Z := ⟨_, rfl⟩
  rw [hZd] at p1 hF0
  rw [hDd] at hF0
  have hD0 : 0 < D := by omega
  have hD1 : D ≤ 345686400000 := by omega
  have p2 := Int.ediv_nonneg p1.1 (show 0 ≤ D by omega)
  have p3 : Z / D ≤ Z := Int.ediv_le_self _ p1.1
  have p4 := p1.1
  have p5 := p1.2
  have e1 : IntKind.i64.wrap (L * M) = Z := by rw [hZd]; exact IntWalk.i64_in _ ⟨by omega, by omega⟩
  have e2 : IntKind.i64.wrap (T - A) = D := by rw [hDd]; exact IntWalk.i64_in _ ⟨by omega, by omega⟩
  have e3 : Z.tdiv D = Z / D := Int.tdiv_eq_ediv_of_nonneg p1.1
  have e4 : IntKind.i64.wrap (Z / D) = Z / D := IntWalk.i64_in _ ⟨by omega, by omega⟩
  have e5 : IntKind.i64.wrap (C + Z / D) = C + Z / D := IntWalk.i64_in _ ⟨by omega, by omega⟩
  have e6 : (D == 0) = false := by rw [beq_eq_false_iff_ne]; omega
  have e7 : ¬ D = 0 := by omega
  have e8 : IntKind.i64.wrap (Z.tdiv D) = Z / D := by rw [e3]; exact e4
  have HDd := Lib.hid hDd
  have HZd := Lib.hid hZd
  clear hDd hZd p1
  have HF := Lib.hid hF0
  have HCd := Lib.hid hCd
  have HMd := Lib.hid hMd
  have HMan := Lib.hid hman
  have HLd := Lib.hid hLd
  have HTat := Lib.hid hTat
  have HO := Lib.hid O
  have HE := Lib.hid hE
  have HLE := Lib.hid hLE
  have HA := Lib.hid hAd
  have HT := Lib.hid hTd
  have H1 := Lib.hid m1
  have H2 := Lib.hid m2
  have HM := Lib.hid hM
  clear hl hE hM m1 m2 O hAd hTd hLE hTat hF0 hCd hMd hman hLd
  go_enter Try.func44, Try.ntmps44
  go_wp2_with fail
  refine (lastFault_any base _ _ _ _ _ _ _ HL.out (by omega) (by omega)).mono ?_
  rintro _ w1 ⟨rfl, hg1⟩
  rw [HLE.out]
  have c0 : w1.cell? ⟨w.heap.size, 0, none⟩ = some (.int .i64 a) := (hx0.grown hg1 (by simp)).cell 0
  have c1 : w1.cell? ⟨w.heap.size, 1, none⟩ = some (.int .i64 to) := (hx0.grown hg1 (by simp)).cell 1
  replace hx0 := hx0.grown hg1 (by simp)
  replace HL := Lib.hid (HL.out.grown hg1)
  replace hG := gr_trans hG hg1
  clear hg1
  go_wp2_with fail
  refine (last_any _ _ _ _ _ (by omega) (by omega) (by omega) (by omega) (by omega) (by omega) (by omega) (by omega)).mono ?_
  rintro _ w2 ⟨rfl, hg2⟩
  rw [HA.out, HT.out]
  have hne : ¬ (T ≤ A) := by omega
  have hx1 := (hx0.grown hg2 (by simp)).alloc (.cells #[.int .i64 A, .int .i64 T] 27)
  have hlx := (hx0.grown hg2 (by simp)).lt
  have b0 : w2.cell? ⟨w.heap.size, 0, none⟩ = some (.int .i64 a) := (hx0.grown hg2 (by simp)).cell 0
  have b1 : w2.cell? ⟨w.heap.size, 1, none⟩ = some (.int .i64 to) := (hx0.grown hg2 (by simp)).cell 1
  have HL2 := Lib.hid ((HL.out.grown hg2).alloc (.cells #[.int .i64 A, .int .i64 T] 27))
  have hx2 := Blk.new w2 27 #[.int .i64 A, .int .i64 T]
  have hG2 := gr_alloc (gr_trans hG hg2) (.cells #[.int .i64 A, .int .i64 T] 27)
  clear hg2
  go_wp2_with fail
  rw [HLd.out]
  generalize w2.alloc (.cells #[.int .i64 A, .int .i64 T] 27) = W at *
  have KX : Hid (∀ W' : World, W.grownBy W' none → W'.cell? ⟨w2.heap.size, 0, none⟩ = some (.int .i64 A) ∧ W'.cell? ⟨w2.heap.size, 1, none⟩ = some (.int .i64 T) ∧ W'.cell? ⟨w.heap.size, 0, none⟩ = some (.int .i64 a) ∧ W.grownBy W' none) :=
    fun W' hW => ⟨(hx2.grown hW (by simp)).cell 0, (hx2.grown hW (by simp)).cell 1, (hx1.grown hW (by simp)).cell 0, hW⟩
  go_region_held3 (fun W' => W'.cell? ⟨w2.heap.size, 0, none⟩ = some (.int .i64 A) ∧ W'.cell? ⟨w2.heap.size, 1, none⟩ = some (.int .i64 T) ∧ W'.cell? ⟨w.heap.size, 0, none⟩ = some (.int .i64 a) ∧ W.grownBy W' none)
    ((exact KX.out _ (by repeat (first | exact gr_refl _ _ | assumption | refine gr_drew ?_ | refine gr_alloc ?_ _ | refine gr_trans ?_ (by assumption)))))
    (first | (go_at_call 74; refine (before_gr base _ _ _ _ (HL2.out.grown (by repeat (first | exact gr_refl _ _ | assumption | refine gr_alloc ?_ _ | refine gr_drewN ?_ _ | refine gr_drew ?_))) HO.out.sorted (by omega)).mono ?_; rintro _ wA ⟨rfl, hgA⟩; rw [HCd.out]) | (go_at_call 58; refine (in_many base _ _ _ _ _ (HL2.out.grown (by repeat (first | exact gr_refl _ _ | assumption | refine gr_drew ?_ | refine gr_alloc ?_ _ | refine gr_trans ?_ (by assumption)))) HO.out.sorted (by omega)).mono ?_; rintro _ wB ⟨rfl, hgB⟩; rw [HMd.out]) | fail)
  go_wp2_with fail
  go_ret3
  exact ⟨ret_ibi HF.out.symm rfl, gr_trans hG2 (by repeat (first | exact gr_refl _ _ | assumption | refine gr_drew ?_ | refine gr_alloc ?_ _ | refine gr_trans ?_ (by assumption)))⟩

set_option maxRecDepth 100000 in
set_option maxHeartbeats 2000000 in
theorem forecast_none (base : Nat) (v : Value) (l : List Int) (a to at_ long : Int) (w : World) (hl : IntsFrom base w v l) (hE : timesE l a to = 0) (hM : mlE at_ long = 0) (hlt : lastT to at_ ≤ lastA a at_ long) :
    Calls Try.prog 44 #[v, .agg #[.int .i64 a, .int .i64 to], .int .i64 at_, .int .i64 long] w fun r w' => r = .returned (.tuple #[.int .i64 0, .bool false, .int .i64 0]) ∧ w.grownBy w' none := by
  have O := timesE_ok hE
  obtain ⟨hLE, m1, m2, r0, r1, r2, r3⟩ := fore_facts hE hM
  have hto := O.to_
  have ha0 := O.a0
  have hato := O.ato
  have hll := O.len
  have hG := World.grownBy_alloc w (.cells #[.int .i64 a, .int .i64 to] 27) none
  have HL := Lib.hid (hl.grown hG)
  have hx0 := Blk.new w 27 #[.int .i64 a, .int .i64 to]
  have hA0 : a ≤ lastA a at_ long := by unfold lastA; omega
  have hA1 : lastT to at_ ≤ to := by unfold lastT; omega
  have hTat : to - lastT to at_ = max 0 (to - at_) := by unfold lastT; omega
  have hA2 : lastA a at_ long ≤ 345686400000 := by unfold lastA; omega
  have hA3 : 0 ≤ lastT to at_ := by unfold lastT; omega
  obtain ⟨A, hAd⟩ : ∃ A, lastA a at_ long = A := ⟨_, rfl⟩
  obtain ⟨T, hTd⟩ : ∃ T, lastT to at_ = T := ⟨_, rfl⟩
  simp only [hAd, hTd] at hlt hA0 hA1 hTat hA2 hA3
  have HTat := Lib.hid hTat
  have HO := Lib.hid O
  have HE := Lib.hid hE
  have HLE := Lib.hid hLE
  have HA := Lib.hid hAd
  have HT := Lib.hid hTd
  have H1 := Lib.hid m1
  have H2 := Lib.hid m2
  have HM := Lib.hid hM
  clear hl hE hM m1 m2 O hAd hTd hLE hTat
  go_enter Try.func44, Try.ntmps44
  go_wp2_with fail
  refine (lastFault_any base _ _ _ _ _ _ _ HL.out (by omega) (by omega)).mono ?_
  rintro _ w1 ⟨rfl, hg1⟩
  rw [HLE.out]
  have c0 : w1.cell? ⟨w.heap.size, 0, none⟩ = some (.int .i64 a) := (hx0.grown hg1 (by simp)).cell 0
  have c1 : w1.cell? ⟨w.heap.size, 1, none⟩ = some (.int .i64 to) := (hx0.grown hg1 (by simp)).cell 1
  replace hx0 := hx0.grown hg1 (by simp)
  replace HL := Lib.hid (HL.out.grown hg1)
  replace hG := gr_trans hG hg1
  clear hg1
  go_wp2_with fail
  refine (last_any _ _ _ _ _ (by omega) (by omega) (by omega) (by omega) (by omega) (by omega) (by omega) (by omega)).mono ?_
  rintro _ w2 ⟨rfl, hg2⟩
  rw [HA.out, HT.out]
  have hge : T ≤ A := hlt
  go_wp2_with fail
  go_ret3
  exact ⟨rfl, gr_alloc (gr_trans hG hg2) _⟩

set_option maxRecDepth 100000 in
set_option maxHeartbeats 2000000 in
theorem forecastOf_ok (base : Nat) (v : Value) (l : List Int) (a to at_ long : Int) (w : World) (hl : IntsFrom base w v l) (hE : timesE l a to = 0) (hM : mlE at_ long = 0) (hlt : lastA a at_ long < lastT to at_) :
    Calls Try.prog 48 #[v, .agg #[.int .i64 a, .int .i64 to], .int .i64 at_, .int .i64 long] w fun r w' => r = .returned (.tuple #[.int .i64 (foreI l a to at_ long), .bool true]) ∧ w.grownBy w' none := by
  have O := timesE_ok hE
  obtain ⟨hLE, m1, m2, r0, r1, r2, r3⟩ := fore_facts hE hM
  have hto := O.to_
  have ha0 := O.a0
  have hato := O.ato
  have hll := O.len
  have hG := World.grownBy_alloc w (.cells #[.int .i64 a, .int .i64 to] 27) none
  have HL := Lib.hid (hl.grown hG)
  have hx0 := Blk.new w 27 #[.int .i64 a, .int .i64 to]
  have hA0 : a ≤ lastA a at_ long := by unfold lastA; omega
  have hA1 : lastT to at_ ≤ to := by unfold lastT; omega
  have hTat : to - lastT to at_ = max 0 (to - at_) := by unfold lastT; omega
  have hA2 : lastA a at_ long ≤ 345686400000 := by unfold lastA; omega
  have hA3 : 0 ≤ lastT to at_ := by unfold lastT; omega
  have hF0 : foreI l a to at_ long = cntLt l at_ + (max 0 (to - at_)) * manyI l (lastA a at_ long) (lastT to at_) / (lastT to at_ - lastA a at_ long) := rfl
  obtain ⟨A, hAd⟩ : ∃ A, lastA a at_ long = A := ⟨_, rfl⟩
  obtain ⟨T, hTd⟩ : ∃ T, lastT to at_ = T := ⟨_, rfl⟩
  simp only [hAd, hTd] at hlt hA0 hA1 hTat hA2 hA3 hF0
  obtain ⟨L, hLd⟩ : ∃ L, max 0 (to - at_) = L := ⟨_, rfl⟩
  have hLb : 0 ≤ L ∧ L ≤ 345686400000 := by omega
  rw [hLd] at hF0 hTat
  have hmb := manyI_bd l A T
  obtain ⟨M, hMd⟩ : ∃ M, manyI l A T = M := ⟨_, rfl⟩
  rw [hMd] at hmb hF0
  have hcb := cntLt_bd l at_
  have hman : manyI l a at_ = cntLt l at_ := by
    have h0 : cntLt l a = 0 := by
      unfold cntLt
      have : l.countP (fun y => decide (y < a)) = 0 := List.countP_eq_zero.2 (fun x hx => by have := O.mem x hx; simp; omega)
      omega
    have hle : a ≤ at_ := by omega
    rw [← cnt_diff l a at_ hle, h0, Int.sub_zero]
  obtain ⟨C, hCd⟩ : ∃ C, cntLt l at_ = C := ⟨_, rfl⟩
  rw [hCd] at hcb hF0 hman
  have p1 := mul_bd (C := 345686400000) (D := 2000) hLb.1 hLb.2 hmb.1 (by omega)
  obtain ⟨D, hDd⟩ : ∃ D, T - A = D := ⟨_, rfl⟩
  obtain ⟨Z, hZd⟩ : ∃ Z, L * M = Z := ⟨_, rfl⟩
  rw [hZd] at p1 hF0
  rw [hDd] at hF0
  have hD0 : 0 < D := by omega
  have hD1 : D ≤ 345686400000 := by omega
  have p2 := Int.ediv_nonneg p1.1 (show 0 ≤ D by omega)
  have p3 : Z / D ≤ Z := Int.ediv_le_self _ p1.1
  have p4 := p1.1
  have p5 := p1.2
  have e1 : IntKind.i64.wrap (L * M) = Z := by rw [hZd]; exact IntWalk.i64_in _ ⟨by omega, by omega⟩
  have e2 : IntKind.i64.wrap (T - A) = D := by rw [hDd]; exact IntWalk.i64_in _ ⟨by omega, by omega⟩
  have e3 : Z.tdiv D = Z / D := Int.tdiv_eq_ediv_of_nonneg p1.1
  have e4 : IntKind.i64.wrap (Z / D) = Z / D := IntWalk.i64_in _ ⟨by omega, by omega⟩
  have e5 : IntKind.i64.wrap (C + Z / D) = C + Z / D := IntWalk.i64_in _ ⟨by omega, by omega⟩
  have e6 : (D == 0) = false := by rw [beq_eq_false_iff_ne]; omega
  have e7 : ¬ D = 0 := by omega
  have e8 : IntKind.i64.wrap (Z.tdiv D) = Z / D := by rw [e3]; exact e4
  have HDd := Lib.hid hDd
  have HZd := Lib.hid hZd
  clear hDd hZd p1
  have HF := Lib.hid hF0
  have HCd := Lib.hid hCd
  have HMd := Lib.hid hMd
  have HMan := Lib.hid hman
  have HLd := Lib.hid hLd
  have HTat := Lib.hid hTat
  have HO := Lib.hid O
  have HE := Lib.hid hE
  have HLE := Lib.hid hLE
  have HA := Lib.hid hAd
  have HT := Lib.hid hTd
  have H1 := Lib.hid m1
  have H2 := Lib.hid m2
  have HM := Lib.hid hM
  clear hl hE hM m1 m2 O hAd hTd hLE hTat hF0 hCd hMd hman hLd
  go_enter Try.func48, Try.ntmps48
  go_wp2_with fail
  refine (lastR_any _ _ _ _ _ (by omega) (by omega) (by omega) (by omega) (by omega) (by omega) (by omega) (by omega)).mono ?_
  rintro _ w2 ⟨rfl, hg2⟩
  rw [HA.out, HT.out]
  have hne : ¬ (T ≤ A) := by omega
  have hx1 := (hx0.grown hg2 (by simp)).alloc (.cells #[.int .i64 A, .int .i64 T] 27)
  have hlx := (hx0.grown hg2 (by simp)).lt
  have b0 : w2.cell? ⟨w.heap.size, 0, none⟩ = some (.int .i64 a) := (hx0.grown hg2 (by simp)).cell 0
  have b1 : w2.cell? ⟨w.heap.size, 1, none⟩ = some (.int .i64 to) := (hx0.grown hg2 (by simp)).cell 1
  have HL2 := Lib.hid ((HL.out.grown hg2).alloc (.cells #[.int .i64 A, .int .i64 T] 27))
  have hx2 := Blk.new w2 27 #[.int .i64 A, .int .i64 T]
  have hG2 := gr_alloc (gr_trans hG hg2) (.cells #[.int .i64 A, .int .i64 T] 27)
  clear hg2
  go_wp2_with fail
  rw [HTat.out]
  generalize w2.alloc (.cells #[.int .i64 A, .int .i64 T] 27) = W at *
  have KX : Hid (∀ W' : World, W.grownBy W' none → W'.cell? ⟨w2.heap.size, 0, none⟩ = some (.int .i64 A) ∧ W'.cell? ⟨w2.heap.size, 1, none⟩ = some (.int .i64 T) ∧ W'.cell? ⟨w.heap.size, 0, none⟩ = some (.int .i64 a) ∧ W.grownBy W' none) :=
    fun W' hW => ⟨(hx2.grown hW (by simp)).cell 0, (hx2.grown hW (by simp)).cell 1, (hx1.grown hW (by simp)).cell 0, hW⟩
  go_region_held3 (fun W' => W'.cell? ⟨w2.heap.size, 0, none⟩ = some (.int .i64 A) ∧ W'.cell? ⟨w2.heap.size, 1, none⟩ = some (.int .i64 T) ∧ W'.cell? ⟨w.heap.size, 0, none⟩ = some (.int .i64 a) ∧ W.grownBy W' none)
    ((exact KX.out _ (by repeat (first | exact gr_refl _ _ | assumption | refine gr_drew ?_ | refine gr_alloc ?_ _ | refine gr_trans ?_ (by assumption)))))
    ((go_at_call 64; refine (manyIn_any base _ _ _ _ _ (HL2.out.grown (by repeat (first | exact gr_refl _ _ | assumption | refine gr_drew ?_ | refine gr_alloc ?_ _ | refine gr_trans ?_ (by assumption)))) (by omega)).mono ?_; rintro _ wA ⟨rfl, hgA⟩; (first | rw [HMan.out] | rw [HMd.out])))
  go_wp2_with fail
  go_ret2
  exact ⟨ret_ib HF.out.symm, gr_trans hG2 (by repeat (first | exact gr_refl _ _ | assumption | refine gr_drew ?_ | refine gr_alloc ?_ _ | refine gr_trans ?_ (by assumption)))⟩

set_option maxRecDepth 100000 in
set_option maxHeartbeats 2000000 in
theorem forecastOf_none (base : Nat) (v : Value) (l : List Int) (a to at_ long : Int) (w : World) (hl : IntsFrom base w v l) (hE : timesE l a to = 0) (hM : mlE at_ long = 0) (hlt : lastT to at_ ≤ lastA a at_ long) :
    Calls Try.prog 48 #[v, .agg #[.int .i64 a, .int .i64 to], .int .i64 at_, .int .i64 long] w fun r w' => r = .returned (.tuple #[.int .i64 0, .bool false]) ∧ w.grownBy w' none := by
  have O := timesE_ok hE
  obtain ⟨hLE, m1, m2, r0, r1, r2, r3⟩ := fore_facts hE hM
  have hto := O.to_
  have ha0 := O.a0
  have hato := O.ato
  have hll := O.len
  have hG := World.grownBy_alloc w (.cells #[.int .i64 a, .int .i64 to] 27) none
  have HL := Lib.hid (hl.grown hG)
  have hx0 := Blk.new w 27 #[.int .i64 a, .int .i64 to]
  have hA0 : a ≤ lastA a at_ long := by unfold lastA; omega
  have hA1 : lastT to at_ ≤ to := by unfold lastT; omega
  have hTat : to - lastT to at_ = max 0 (to - at_) := by unfold lastT; omega
  have hA2 : lastA a at_ long ≤ 345686400000 := by unfold lastA; omega
  have hA3 : 0 ≤ lastT to at_ := by unfold lastT; omega
  obtain ⟨A, hAd⟩ : ∃ A, lastA a at_ long = A := ⟨_, rfl⟩
  obtain ⟨T, hTd⟩ : ∃ T, lastT to at_ = T := ⟨_, rfl⟩
  simp only [hAd, hTd] at hlt hA0 hA1 hTat hA2 hA3
  have HTat := Lib.hid hTat
  have HO := Lib.hid O
  have HE := Lib.hid hE
  have HLE := Lib.hid hLE
  have HA := Lib.hid hAd
  have HT := Lib.hid hTd
  have H1 := Lib.hid m1
  have H2 := Lib.hid m2
  have HM := Lib.hid hM
  clear hl hE hM m1 m2 O hAd hTd hLE hTat
  go_enter Try.func48, Try.ntmps48
  go_wp2_with fail
  refine (lastR_any _ _ _ _ _ (by omega) (by omega) (by omega) (by omega) (by omega) (by omega) (by omega) (by omega)).mono ?_
  rintro _ w2 ⟨rfl, hg2⟩
  rw [HA.out, HT.out]
  have hge : T ≤ A := hlt
  go_wp2_with fail
  go_ret2
  exact ⟨rfl, gr_alloc (gr_trans hG hg2) _⟩
end Go.Proofs.Ytjhklpffmfdkbaa
