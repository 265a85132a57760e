/- The walks over place.Light and pileref1.LightOf: both count the moments with the sun above the ground. Condition (of the reference): sites and moments in their ranges. -/
import Derived.Test.YtngdjeggigkmlaaDoorGreyWalk
namespace Go.Proofs.YtngdjeggigkmlaaDoor
open Go.RowKit
set_option linter.unusedVariables false

def upB (n e : Int) : Int → Bool := fun x => decide (0 < sunI n e x)
theorem light_min {f : Int → Bool} {a zt every m : Int} (h : m = (cntAll f a every zt : Int) * every) : (if zt - a < m then zt - a else m) = lightI f a zt every := by
  unfold lightI; rw [h]

theorem askE_rng {a zt every : Int} (h : askE a zt every = 0) : 0 ≤ a ∧ a ≤ zt ∧ zt ≤ 345686400000 ∧ 1000 ≤ every ∧ every ≤ 86400000 := by
  unfold askE at h
  split at h
  · omega
  · omega
theorem askE_bd (a zt every : Int) : 0 ≤ askE a zt every ∧ askE a zt every ≤ 2 := by
  unfold askE
  split
  · omega
  · split <;> omega

/-- The error of a site and a window that is asked. -/
def saE (n e a zt every : Int) : Int := if siteE n e = 0 then askE a zt every else siteE n e
theorem saE_ok {n e a zt every : Int} (h : siteE n e = 0) : saE n e a zt every = askE a zt every := by unfold saE; rw [if_pos h]
theorem saE_bad {n e a zt every : Int} (h : siteE n e = 1) : saE n e a zt every = 1 := by unfold saE; rw [if_neg (by omega), h]

set_option maxHeartbeats 4000000 in
theorem light_any (n e a zt every : Int) (w : World) :
    Calls Tryd.prog 21 #[.agg #[.int .i64 n, .int .i64 e], .agg #[.int .i64 a, .int .i64 zt], .int .i64 every] w fun r w' =>
      r = .returned (.tuple #[.int .i64 (okI (saE n e a zt every) (lightI (upB n e) a zt every)), .int .i64 (saE n e a zt every)]) ∧ w.grownBy w' none := by
  rcases siteE_cases n e with ⟨hs, s1, s2, s3, s4⟩ | hs
  · have HE := Lib.hid (saE_ok (a := a) (zt := zt) (every := every) hs)
    have hbd := askE_bd a zt every
    by_cases hq : askE a zt every = 0
    · obtain ⟨ha, hat, hto, h0, h1⟩ := askE_rng hq
      go_enter Tryd.func21, Tryd.ntmps21
      go_wp2_with fail
      refine (checkSite_any _ _ _).mono ?_
      rintro r w1 ⟨rfl, hg1⟩
      have hb1 := ((Blk.new w 27 #[.int .i64 n, .int .i64 e]).alloc (.cells #[.int .i64 a, .int .i64 zt] 52)).grown hg1 (by simp)
      have hw1 := (Blk.new (w.alloc (.cells #[.int .i64 n, .int .i64 e] 27)) 52 #[.int .i64 a, .int .i64 zt]).grown hg1 (by simp)
      have hG1 := gr_trans (gr_alloc (World.grownBy_alloc w (.cells #[.int .i64 n, .int .i64 e] 27) none) (.cells #[.int .i64 a, .int .i64 zt] 52)) hg1
      rw [World.size_alloc] at hw1
      have c0 := hw1.cell 0
      have c1 := hw1.cell 1
      simp only [List.getElem?_toArray, List.getElem?_cons_zero, List.getElem?_cons_succ] at c0 c1
      go_wp2_with fail
      refine (askedFault_any _ _ _ _).mono ?_
      rintro r w2 ⟨rfl, hg2⟩
      have hb2 := hb1.grown hg2 (by simp)
      have hw2 := hw1.grown hg2 (by simp)
      have hG2 := gr_trans hG1 hg2
      clear hg1 hg2 hb1 hw1 hG1 c0 c1
      have c0 : w2.cell? ⟨w.heap.size + 1, 0, none⟩ = some (.int .i64 a) := hw2.cell 0
      go_wp2_with fail
      go_loopw [10, 11] (fun c x wr => ∃ (x' : Int) (k : Nat) (m : Int), x = .int .i64 x' ∧ c = .int .i64 m ∧ CntRel (upB n e) a every zt x' k ∧ Hid (m = (k : Int) * every) ∧ w.grownBy wr none ∧ Blk wr w.heap.size 27 #[.int .i64 n, .int .i64 e] ∧ Blk wr (w.heap.size + 1) 52 #[.int .i64 a, .int .i64 zt] ∧ a ≤ x' ∧ x' ≤ 345686400000 + 86400000) (fun _ x _ => (zt - intOf x).toNat)
      case atStart => exact ⟨a, 0, 0, rfl, rfl, CntRel.start _ _ _ _, by show _ = _; simp, hG2, hb2, hw2, by omega, by omega⟩
      case round =>
        obtain ⟨x, k, m, rfl, rfl, R, HM, hg, hb, hbw, xlo, xhi⟩ := hrel
        have c0 := hb.cell 0
        have c1 := hb.cell 1
        have d0 := hbw.cell 0
        have d1 := hbw.cell 1
        simp only [List.getElem?_toArray, List.getElem?_cons_zero, List.getElem?_cons_succ] at c0 c1 d0 d1
        have hk := R.len
        have hk0 : 0 ≤ (k : Int) * every := Int.mul_nonneg (by omega) (by omega)
        rw [← HM.out] at hk hk0
        have HR := Lib.hid R
        clear R
        by_cases hlt : x < zt
        · go_wp2_with fail
          refine (sun_any _ _ _ _ (by omega) (by omega) (by omega) (by omega) (by omega) (by omega)).mono ?_
          rintro _ w1 ⟨rfl, hg1⟩
          have hG := gr_trans hg hg1
          have hb1 := hb.grown hg1 (by simp)
          have hbw1 := hbw.grown hg1 (by simp)
          clear c0 c1 d0 d1
          by_cases hs : 0 < sunI n e x
          · have R' := HR.out.yes hlt (by omega) (show upB n e x = true by simp [upB, hs])
            go_wp2_with fail
            go_roundw
            case rel => exact ⟨x + every, k + 1, m + every, rfl, rfl, R', by show _ = _; rw [HM.out, Int.natCast_add, Int.add_mul]; omega, hG, hb1, hbw1, by omega, by omega⟩
            case measure => simp [intOf]; omega
          · have R' := HR.out.no hlt (by omega) (show upB n e x = false by simp [upB, hs])
            go_wp2_with fail
            go_roundw
            case rel => exact ⟨x + every, k, m, rfl, rfl, R', HM, hG, hb1, hbw1, by omega, by omega⟩
            case measure => simp [intOf]; omega
        · have hf := HR.out.fin (by omega)
          have HF := Lib.hid (light_min (f := upB n e) (a := a) (zt := zt) (every := every) (m := m) (by rw [hf]; exact HM.out))
          clear hf
          by_cases hmm : zt - a < m
          · have HF2 := Lib.hid ((if_pos hmm).symm.trans HF.out)
            go_wp2_with fail
            go_ret2
            exact ⟨ret_2i (by unfold okI; rw [HE.out, if_pos hq]; exact HF2.out) (by rw [HE.out, hq]), hg⟩
          · have HF2 := Lib.hid ((if_neg hmm).symm.trans HF.out)
            go_wp2_with fail
            go_ret2
            exact ⟨ret_2i (by unfold okI; rw [HE.out, if_pos hq]; exact HF2.out) (by rw [HE.out, hq]), hg⟩
    · have hq1 : (askE a zt every != 0) = true := by simpa using hq
      go_enter Tryd.func21, Tryd.ntmps21
      go_wp2_with fail
      refine (checkSite_any _ _ _).mono ?_
      rintro r w1 ⟨rfl, hg1⟩
      have hw1 := (Blk.new (w.alloc (.cells #[.int .i64 n, .int .i64 e] 27)) 52 #[.int .i64 a, .int .i64 zt]).grown hg1 (by simp)
      have hG1 := gr_trans (gr_alloc (World.grownBy_alloc w (.cells #[.int .i64 n, .int .i64 e] 27) none) (.cells #[.int .i64 a, .int .i64 zt] 52)) hg1
      rw [World.size_alloc] at hw1
      have c0 := hw1.cell 0
      have c1 := hw1.cell 1
      simp only [List.getElem?_toArray, List.getElem?_cons_zero, List.getElem?_cons_succ] at c0 c1
      go_wp2_with fail
      refine (askedFault_any _ _ _ _).mono ?_
      rintro r w2 ⟨rfl, hg2⟩
      go_wp2_with fail
      go_ret2
      exact ⟨ret_2i (by unfold okI; rw [HE.out, if_neg hq]) HE.out.symm, gr_trans hG1 hg2⟩
  · have HE := Lib.hid (saE_bad (a := a) (zt := zt) (every := every) hs)
    go_enter Tryd.func21, Tryd.ntmps21
    go_wp2_with fail
    refine (checkSite_any _ _ _).mono ?_
    rintro r w1 ⟨rfl, hg1⟩
    have hG1 := gr_trans (gr_alloc (World.grownBy_alloc w (.cells #[.int .i64 n, .int .i64 e] 27) none) (.cells #[.int .i64 a, .int .i64 zt] 52)) hg1
    go_wp2_with fail
    go_ret2
    exact ⟨ret_2i (by unfold okI; rw [HE.out]; rfl) HE.out.symm, hG1⟩
end Go.Proofs.YtngdjeggigkmlaaDoor
