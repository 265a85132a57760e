/- The walks over fractions in lowest terms, in package kit and in the reference. Condition: numbers within their ranges. -/
import Derived.Test.YtcimnlcmpfagnaaDoorFaults
import Derived.Test.YtcimnlcmpfagnaaDoorInts
import Derived.Deep.RegionHeld3
namespace Go.Proofs.YtcimnlcmpfagnaaDoor
open Go.RowKit
set_option linter.unusedVariables false

def gcdN (a b : Int) : Int := (Nat.gcd a.toNat b.toNat : Nat)
theorem ret_agg2 {a b c d : Int} (h : a = b) (h' : c = d) : Ending.returned (.agg #[.int .i64 a, .int .i64 c]) = .returned (.agg #[.int .i64 b, .int .i64 d]) := by rw [h, h']

/-- A fraction in lowest terms. -/
def lowN (num den : Int) : Int := num / gcdN num den
def lowD (num den : Int) : Int := den / gcdN num den
theorem gcdN_pos {num den : Int} (h : 0 < den) : 1 ≤ gcdN num den ∧ gcdN num den ≤ den := by
  unfold gcdN
  have h1 := Nat.gcd_pos_of_pos_right num.toNat (show 0 < den.toNat by omega)
  have h2 := Nat.gcd_le_right num.toNat (show 0 < den.toNat by omega)
  omega
theorem gcd_step (m n : Nat) : Nat.gcd n (m % n) = Nat.gcd m n := by
  rw [Nat.gcd_comm m n, Nat.gcd_rec n m, Nat.gcd_comm]

set_option maxHeartbeats 1000000 in
theorem lowest_any (num den : Int) (w : World) (h0 : 0 ≤ num) (h1 : num ≤ 1000000000000000000) (h2 : 0 < den) (h3 : den ≤ 1000000000000000000) :
    Calls Tryd.prog 89 #[.int .i64 num, .int .i64 den] w fun r w' => r = .returned (.agg #[.int .i64 (lowN num den), .int .i64 (lowD num den)]) ∧ w.grownBy w' none := by
  have hgp := gcdN_pos (num := num) h2
  go_enter Tryd.func89, Tryd.ntmps89
  go_wp2_with fail
  go_loopw [5, 6] (fun a b wr => ∃ m n : Nat, a = .int .i64 m ∧ b = .int .i64 n ∧ Hid (((Nat.gcd m n : Nat) : Int) = gcdN num den) ∧ m ≤ 1000000000000000000 ∧ n ≤ 1000000000000000000 ∧ w.grownBy wr none ∧ Blk wr w.heap.size 66 #[.int .i64 0, .int .i64 0]) (fun _ b _ => (intOf b).toNat)
  case atStart => exact ⟨num.toNat, den.toNat, by rw [Int.toNat_of_nonneg h0], by rw [Int.toNat_of_nonneg (by omega)], rfl, by omega, by omega, World.grownBy_alloc w _ none, Blk.new _ _ _⟩
  case round =>
    obtain ⟨m, n, rfl, rfl, HG, hm, hn, hG, hB⟩ := hrel
    by_cases hz : n = 0
    · subst hz
      have HM : Hid ((m : Int) = gcdN num den) := by
        show _ = _
        have := HG.out
        rwa [Nat.gcd_zero_right] at this
      have hm1 : 1 ≤ (m : Int) := by rw [HM.out]; exact hgp.1
      have hq1 : 0 ≤ num / (m : Int) := Int.ediv_nonneg h0 (by omega)
      have hq2 : num / (m : Int) ≤ num := Int.ediv_le_self _ h0
      have hq3 : 0 ≤ den / (m : Int) := Int.ediv_nonneg (by omega) (by omega)
      have hq4 : den / (m : Int) ≤ den := Int.ediv_le_self _ (by omega)
      have e1 : IntKind.i64.wrap (num / (m : Int)) = num / (m : Int) := IntWalk.i64_in _ ⟨by omega, by omega⟩
      have e2 : IntKind.i64.wrap (den / (m : Int)) = den / (m : Int) := IntWalk.i64_in _ ⟨by omega, by omega⟩
      have d0 := hB.cell 0
      have d1 := hB.cell 1
      have f0 := hB.free 0
      have f1 := hB.free 1
      simp only [List.getElem?_toArray, List.getElem?_cons_zero, List.getElem?_cons_succ] at d0 d1
      have hmne : ((m : Int) == 0) = false := by rw [beq_eq_false_iff_ne]; omega
      go_wp2_with fail
      go_region
      go_wp2_with fail
      refine bodyPost_ret (v := .agg #[.int .i64 (num / (m : Int)), .int .i64 (den / (m : Int))]) (by simp [results, Tryd.results89, go_sem, d0, d1]) rfl ?_
      exact ⟨ret_agg2 (by unfold lowN; rw [← HM.out]) (by unfold lowD; rw [← HM.out]), gr_drew (gr_put (gr_put hG (.inr (Nat.le_refl _)) _) (.inr (Nat.le_refl _)) _)⟩
    · have hzn : ((n : Int) != 0) = true := by rw [bne_iff_ne]; omega
      have hlt := Nat.mod_lt m (show 0 < n by omega)
      have HG2 : Hid (((Nat.gcd n (m % n) : Nat) : Int) = gcdN num den) := by show _ = _; rw [gcd_step]; exact HG.out
      have hmod : (m : Int) % (n : Int) = ((m % n : Nat) : Int) := by omega
      have hmod2 : (m : Int).tmod (n : Int) = ((m % n : Nat) : Int) := by rw [Int.tmod_eq_emod_of_nonneg (by omega)]; exact hmod
      obtain ⟨q, hq⟩ : ∃ q, m % n = q := ⟨_, rfl⟩
      rw [hq] at hlt HG2 hmod hmod2
      have HQ := Lib.hid hq
      clear hq
      have e1 : IntKind.i64.wrap (q : Int) = (q : Int) := IntWalk.i64_in _ ⟨by omega, by omega⟩
      go_wp2_with fail
      go_quiet (fail)
      go_wp2_with fail
      go_roundw
      case rel => exact ⟨n, q, rfl, rfl, HG2, hn, by omega, gr_drewN hG _, hB.drewN _⟩
      case measure => simp [intOf]; omega

set_option maxHeartbeats 1000000 in
theorem divisor_any (num den : Int) (w : World) (h0 : 0 ≤ num) (h1 : num ≤ 1000000000000000000) (h2 : 0 < den) (h3 : den ≤ 1000000000000000000) :
    Calls Tryd.prog 127 #[.int .i64 num, .int .i64 den] w fun r w' => r = .returned (.int .i64 (gcdN num den)) ∧ w.grownBy w' none := by
  go_enter Tryd.func127, Tryd.ntmps127
  go_wp2_with fail
  go_loopw [0, 1] (fun a b wr => ∃ m n : Nat, a = .int .i64 m ∧ b = .int .i64 n ∧ Hid (((Nat.gcd m n : Nat) : Int) = gcdN num den) ∧ m ≤ 1000000000000000000 ∧ n ≤ 1000000000000000000 ∧ w.grownBy wr none) (fun _ b _ => (intOf b).toNat)
  case atStart => exact ⟨num.toNat, den.toNat, by rw [Int.toNat_of_nonneg h0], by rw [Int.toNat_of_nonneg (by omega)], rfl, by omega, by omega, gr_refl _ _⟩
  case round =>
    obtain ⟨m, n, rfl, rfl, HG, hm, hn, hG⟩ := hrel
    by_cases hz : n = 0
    · subst hz
      have HM : Hid ((m : Int) = gcdN num den) := by
        show _ = _
        have := HG.out
        rwa [Nat.gcd_zero_right] at this
      go_wp2_with fail
      go_ret
      exact ⟨ret_of HM.out, hG⟩
    · have hzn : ((n : Int) != 0) = true := by rw [bne_iff_ne]; omega
      have hlt := Nat.mod_lt m (show 0 < n by omega)
      have HG2 : Hid (((Nat.gcd n (m % n) : Nat) : Int) = gcdN num den) := by show _ = _; rw [gcd_step]; exact HG.out
      have hmod : (m : Int) % (n : Int) = ((m % n : Nat) : Int) := by omega
      have hmod2 : (m : Int).tmod (n : Int) = ((m % n : Nat) : Int) := by rw [Int.tmod_eq_emod_of_nonneg (by omega)]; exact hmod
      obtain ⟨q, hq⟩ : ∃ q, m % n = q := ⟨_, rfl⟩
      rw [hq] at hlt HG2 hmod hmod2
      have HQ := Lib.hid hq
      clear hq
      have e1 : IntKind.i64.wrap (q : Int) = (q : Int) := IntWalk.i64_in _ ⟨by omega, by omega⟩
      go_wp2_with fail
      go_quiet (fail)
      go_wp2_with fail
      go_roundw
      case rel => exact ⟨n, q, rfl, rfl, HG2, hn, by omega, gr_drewN hG _⟩
      case measure => simp [intOf]; omega

set_option maxHeartbeats 1000000 in
theorem lowestR_any (num den : Int) (w : World) (h0 : 0 ≤ num) (h1 : num ≤ 1000000000000000000) (h2 : 0 < den) (h3 : den ≤ 1000000000000000000) :
    Calls Tryd.prog 90 #[.int .i64 num, .int .i64 den] w fun r w' => r = .returned (.agg #[.int .i64 (lowN num den), .int .i64 (lowD num den)]) ∧ w.grownBy w' none := by
  have hgp := gcdN_pos (num := num) h2
  obtain ⟨m, hm⟩ : ∃ m, gcdN num den = m := ⟨_, rfl⟩
  rw [hm] at hgp
  obtain ⟨hm1, hm2⟩ := hgp
  have hq1 : 0 ≤ num / m := Int.ediv_nonneg h0 (by omega)
  have hq2 : num / m ≤ num := Int.ediv_le_self _ h0
  have hq3 : 0 ≤ den / m := Int.ediv_nonneg (by omega) (by omega)
  have hq4 : den / m ≤ den := Int.ediv_le_self _ (by omega)
  have e1 : IntKind.i64.wrap (num / m) = num / m := IntWalk.i64_in _ ⟨by omega, by omega⟩
  have e2 : IntKind.i64.wrap (den / m) = den / m := IntWalk.i64_in _ ⟨by omega, by omega⟩
  have hmne : (m == 0) = false := by rw [beq_eq_false_iff_ne]; omega
  have HM := Lib.hid hm
  clear hm
  have hmax : max num (-num) = num := by omega
  go_enter Tryd.func90, Tryd.ntmps90
  go_wp2_with fail
  refine (divisor_any _ _ _ h0 h1 h2 h3).mono ?_
  rintro _ w1 ⟨rfl, hg1⟩
  rw [HM.out]
  have hB := (Blk.new w 66 #[.int .i64 0, .int .i64 0]).grown hg1 (by simp)
  have hG := gr_trans (World.grownBy_alloc w _ none) hg1
  have d0 : w1.cell? ⟨w.heap.size, 0, none⟩ = some (.int .i64 0) := hB.cell 0
  have d1 : w1.cell? ⟨w.heap.size, 1, none⟩ = some (.int .i64 0) := hB.cell 1
  have f0 := hB.free 0
  have f1 := hB.free 1
  go_wp2_with fail
  go_region
  go_wp2_with fail
  refine bodyPost_ret (v := .agg #[.int .i64 (num / m), .int .i64 (den / m)]) (by simp [results, Tryd.results90, go_sem, d0, d1]) rfl ?_
  exact ⟨ret_agg2 (by unfold lowN; rw [HM.out]) (by unfold lowD; rw [HM.out]), gr_drew (gr_put (gr_put hG (.inr (Nat.le_refl _)) _) (.inr (Nat.le_refl _)) _)⟩

end Go.Proofs.YtcimnlcmpfagnaaDoor
