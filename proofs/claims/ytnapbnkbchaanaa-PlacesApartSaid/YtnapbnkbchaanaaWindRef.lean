/- The walks over slices.Index at the eight winds and the reference's WindOf. Condition: sites without error. -/
import Derived.Test.YtnapbnkbchaanaaWind
import Derived.Test.YtnapbnkbchaanaaDistRef
namespace Go.Proofs.Ytnapbnkbchaanaa
open Go.RowKit
set_option linter.unusedVariables false

def dirN : Nat → Int
  | 0 => 1 | 1 => 1 | 2 => 0 | 3 => -1 | 4 => -1 | 5 => -1 | 6 => 0 | _ => 1
def dirE : Nat → Int
  | 0 => 0 | 1 => 1 | 2 => 1 | 3 => 1 | 4 => 0 | 5 => -1 | 6 => -1 | _ => -1
def dirCells : Array Value := #[.int .i64 1, .int .i64 0, .int .i64 1, .int .i64 1, .int .i64 0, .int .i64 1, .int .i64 (-1), .int .i64 1, .int .i64 (-1), .int .i64 0, .int .i64 (-1), .int .i64 (-1), .int .i64 0, .int .i64 (-1), .int .i64 1, .int .i64 (-1)]
theorem dir_cell {w : World} {g : Nat} {t : TypeId} (h : Blk w g t dirCells) (k : Nat) (hk : k < 8) :
    w.cell? ⟨g, k * 2, none⟩ = some (.int .i64 (dirN k)) ∧ w.cell? ⟨g, k * 2 + 1, none⟩ = some (.int .i64 (dirE k)) := by
  have a := h.cell (k * 2)
  have b := h.cell (k * 2 + 1)
  rcases (by omega : k = 0 ∨ k = 1 ∨ k = 2 ∨ k = 3 ∨ k = 4 ∨ k = 5 ∨ k = 6 ∨ k = 7) with rfl | rfl | rfl | rfl | rfl | rfl | rfl | rfl <;> exact ⟨a, b⟩

/-- Two arrays of two numbers are equal where their numbers are (lines of the worked proof Cov2Walks, turned). -/
@[go_sem] theorem eqTwo (a b c d : Int) (w : World) : (Op.equalIn 10000 93 (.agg #[.int .i64 a, .int .i64 b]) (.agg #[.int .i64 c, .int .i64 d])).run Try.prog w = .ok (a == c && b == d) w := by
  have u3 := Try.underlying3
  have a3 := Try.isAgg3
  have z3 := Try.sizeOf3
  rw [show (10000 : Nat) = 9999 + 1 from rfl, Op.equalIn]
  simp only [Sem.run_bind, run_underlying Try.underlying93, Result.andThen_ok]
  simp only [Std.Legacy.Range.forIn_eq_forIn_range', Std.Legacy.Range.size, Nat.sub_zero, Nat.add_sub_cancel, Nat.div_one, List.range'_succ, List.range'_zero, List.forIn_cons, List.forIn_nil]
  go_simp
  by_cases h1 : a = c <;> by_cases h2 : b = d <;> simp [h1, h2]

set_option maxHeartbeats 2000000 in
theorem indexDirs (g : Nat) (t : TypeId) (K : Nat) (w : World) (h : Blk w g t dirCells) (hK : K < 8) (hN : ∀ k, k < K → ¬ (dirN K = dirN k ∧ dirE K = dirE k)) :
    Calls Try.prog 60 #[.slice (some ⟨g, 0, none⟩) 8 8, .agg #[.int .i64 (dirN K), .int .i64 (dirE K)]] w fun r w' => r = .returned (.int .i64 K) ∧ w.grownBy w' none := by
  have HNH := Lib.hid hN
  have hHg := h.lt
  have HH := Lib.hid h
  clear h hN
  generalize hx' : dirN K = x at *
  generalize hy' : dirE K = y at *
  have HX := Lib.hid hx'
  have HY := Lib.hid hy'
  clear hx' hy'
  go_enter Try.func60, Try.ntmps60
  go_wp2_with fail
  have hB := Blk.new w 93 #[.int .i64 x, .int .i64 y]
  have hD := HH.out.alloc (.cells #[.int .i64 x, .int .i64 y] 93)
  have hG := World.grownBy_alloc w (.cells #[.int .i64 x, .int .i64 y] 93) none
  have HBB := Lib.hid hB
  have HDD := Lib.hid hD
  clear hB hD
  generalize hW1 : w.alloc (.cells #[.int .i64 x, .int .i64 y] 93) = W1 at *
  clear hW1
  go_loopw [5, 8] (fun _ i wr => ∃ k : Nat, k ≤ K ∧ i = .int .i64 k ∧ W1.grownBy wr none) (fun _ i _ => 8 - (intOf i).toNat)
  case atStart => exact ⟨0, by omega, rfl, gr_refl _ _⟩
  case round =>
    obtain ⟨k, hk, rfl, hgr⟩ := hrel
    obtain ⟨c0, c1⟩ := dir_cell (HDD.out.grown hgr (by simp)) k (by omega)
    obtain ⟨b0, b1⟩ := (HBB.out.grown hgr (by simp)).cells2
    have hk8 : k < 8 := by omega
    have hk9 : (k : Int) < 8 := by omega
    by_cases hlt : k < K
    · have hne := HNH.out k hlt
      generalize dirN k = p at *
      generalize dirE k = q at *
      have hc : (¬ x = p) ∨ (x = p ∧ ¬ y = q) := by omega
      rcases hc with hx | ⟨rfl, hy⟩
      · have hx2 : (x == p) = false := by rw [beq_eq_false_iff_ne]; exact hx
        clear hne
        go_wp2_with fail
        go_quiet (fail)
        go_wp2_with fail
        go_roundw
        case rel => exact ⟨k + 1, by omega, by go_num, by repeat (first | exact hgr | refine gr_drewN ?_ _ | refine gr_drew ?_)⟩
        case measure => simp [intOf]; omega
      · have hy2 : (y == q) = false := by rw [beq_eq_false_iff_ne]; exact hy
        clear hne
        go_wp2_with fail
        go_quiet (fail)
        go_wp2_with fail
        go_roundw
        case rel => exact ⟨k + 1, by omega, by go_num, by repeat (first | exact hgr | refine gr_drewN ?_ _ | refine gr_drew ?_)⟩
        case measure => simp [intOf]; omega
    · obtain rfl : k = K := by omega
      rw [HX.out] at c0
      rw [HY.out] at c1
      go_wp2_with fail
      go_quiet (fail)
      go_wp2_with fail
      go_ret
      exact ⟨rfl, gr_trans hG (by repeat (first | exact hgr | refine gr_drewN ?_ _ | refine gr_drew ?_))⟩

def dirK (x y : Int) : Nat := if x = 1 then (if y = 0 then 0 else if y = 1 then 1 else 7) else if x = 0 then (if y = 1 then 2 else 6) else if y = 1 then 3 else if y = 0 then 4 else 5
theorem indexXY (g : Nat) (t : TypeId) (x y : Int) (w : World) (h : Blk w g t dirCells) (hx : x = 1 ∨ x = 0 ∨ x = -1) (hy : y = 1 ∨ y = 0 ∨ y = -1) (hne : ¬ (x = 0 ∧ y = 0)) :
    Calls Try.prog 60 #[.slice (some ⟨g, 0, none⟩) 8 8, .agg #[.int .i64 x, .int .i64 y]] w fun r w' => r = .returned (.int .i64 (dirK x y : Nat)) ∧ w.grownBy w' none := by
  rcases hx with rfl | rfl | rfl <;> rcases hy with rfl | rfl | rfl
  · exact indexDirs g t 1 w h (by decide) (by decide)
  · exact indexDirs g t 0 w h (by decide) (by decide)
  · exact indexDirs g t 7 w h (by decide) (by decide)
  · exact indexDirs g t 2 w h (by decide) (by decide)
  · exact absurd ⟨rfl, rfl⟩ hne
  · exact indexDirs g t 6 w h (by decide) (by decide)
  · exact indexDirs g t 3 w h (by decide) (by decide)
  · exact indexDirs g t 4 w h (by decide) (by decide)
  · exact indexDirs g t 5 w h (by decide) (by decide)

def windR (dn de : Int) : Int := if dn = 0 ∧ de = 0 then -1 else windI dn de

set_option maxRecDepth 100000 in
set_option maxHeartbeats 40000000 in
theorem windOf_ok (n e n2 e2 : Int) (w : World) (h1 : siteE n e = 0) (h2 : siteE n2 e2 = 0) :
    Calls Try.prog 20 #[.agg #[.int .i64 n, .int .i64 e], .agg #[.int .i64 n2, .int .i64 e2]] w fun r w' =>
      r = .returned (.int .i64 (windR (northI n n2) (eastI n e n2 e2))) ∧ w.grownBy w' none := by
  obtain ⟨a0, a1, b0, b1⟩ := siteE_rng h1
  obtain ⟨c0, c1, d0, d1⟩ := siteE_rng h2
  have HM := Lib.hid (fun W => apartR_any n e n2 e2 W a0 a1 b0 (by omega) c0 c1 d0 (by omega))
  have q1 := northI_bd a0 a1 c0 c1
  have q2 := eastI_bd n e n2 e2
  generalize northI n n2 = dn at *
  generalize eastI n e n2 e2 = de at *
  obtain ⟨W, hW, -, -, hG⟩ := two_sites w n e n2 e2
  have HW := Lib.hid hW
  clear hW h1 h2
  obtain ⟨q10, q11⟩ := q1
  obtain ⟨q20, q21⟩ := q2
  by_cases z1 : dn = 0 ∧ de = 0
  · have HV1 : Hid (windR dn de = -1) := by show _ = _; unfold windR; rw [if_pos z1]
    obtain ⟨rfl, rfl⟩ := z1
    clear q10 q11 q20 q21
    go_enter Try.func20, Try.ntmps20
    go_wp2_with fail
    rw [← HW.out]
    refine (HM.out _).mono ?_
    rintro _ w1 ⟨rfl, hg⟩
    go_wp2_with fail
    go_ret
    exact ⟨ret_of HV1.out.symm, gr_trans hG hg⟩
  · obtain ⟨X, hX⟩ : ∃ X, max dn (-dn) = X := ⟨_, rfl⟩
    obtain ⟨Y, hY⟩ : ∃ Y, max de (-de) = Y := ⟨_, rfl⟩
    have X0 : 0 ≤ X := by omega
    have X1 : X ≤ 20000000 := by omega
    have Y0 : 0 ≤ Y := by omega
    have Y1 : Y ≤ 20000000 := by omega
    have HV1 : Hid (windR dn de = if 12 * Y ≤ 5 * X then (if 0 < dn then 0 else 4) else if 12 * X ≤ 5 * Y then (if 0 < de then 2 else 6) else if 0 < de then (if 0 < dn then 1 else 3) else if 0 < dn then 7 else 5) := by
      show _ = _
      unfold windR
      rw [if_neg z1]
      unfold windI absI
      rw [hX, hY]
    have h0 : (dn = 0 ∧ ¬ de = 0) ∨ (dn < 0 ∧ ¬ dn = 0) ∨ (¬ dn < 0 ∧ ¬ dn = 0 ∧ 0 < dn) := by omega
    have h3 : (12 * Y ≤ 5 * X ∧ ¬ 12 * X ≤ 5 * Y) ∨ (¬ 12 * Y ≤ 5 * X ∧ 12 * X ≤ 5 * Y) ∨ (¬ 12 * Y ≤ 5 * X ∧ ¬ 12 * X ≤ 5 * Y) := by omega
    rcases h0 with ⟨s0, s1⟩ | ⟨s0, s1⟩ | ⟨s0, s1, s3⟩
    all_goals rcases Int.lt_or_le de 0 with s2 | s2
    all_goals rcases h3 with ⟨t1, t2⟩ | ⟨t1, t2⟩ | ⟨t1, t2⟩
    all_goals try (exfalso; omega)
    all_goals rcases (show (dn < 0 ∧ X = -dn) ∨ (¬ dn < 0 ∧ X = dn) by omega) with ⟨r0, r1⟩ | ⟨r0, r1⟩
    all_goals rcases (show (de < 0 ∧ Y = -de) ∨ (¬ de < 0 ∧ Y = de) by omega) with ⟨r2, r3⟩ | ⟨r2, r3⟩
    all_goals try (exfalso; omega)
    all_goals
      clear hX hY X0 X1 Y0 Y1 z1
      subst r1
      subst r3
      go_enter Try.func20, Try.ntmps20
      go_wp2_with fail
      rw [← HW.out]
      refine (HM.out _).mono ?_
      rintro _ w1 ⟨rfl, hg⟩
      go_wp2_with fail
      have hB := Blk.new w1 93 dirCells
      have hgA := World.grownBy_alloc w1 (.cells dirCells 93) none
      refine (indexXY w1.heap.size 93 _ _ _ hB (by decide) (by decide) (by decide)).mono ?_
      rintro _ w5 ⟨rfl, hg5⟩
      go_wp2_with fail
      go_ret
      exact ⟨ret_of (by rw [HV1.out]; (repeat' split) <;> first | rfl | omega), gr_trans hG (gr_trans hg (gr_trans hgA hg5))⟩
end Go.Proofs.Ytnapbnkbchaanaa
