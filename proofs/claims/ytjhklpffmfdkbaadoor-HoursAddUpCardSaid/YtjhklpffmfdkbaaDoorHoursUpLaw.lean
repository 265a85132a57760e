/- The walk over the law HoursAddUp. Condition: asciiSpace is Go's own table, MaxLen holds a number. -/
import Derived.Test.YtjhklpffmfdkbaaDoorHoursUpPlain
import Derived.Test.YtjhklpffmfdkbaaDoorReady
import Derived.Test.YtjhklpffmfdkbaaDoorRightTimes
import Derived.Test.YtjhklpffmfdkbaaDoorRateE
import Derived.Test.YtjhklpffmfdkbaaDoorStart
namespace Go.Proofs.YtjhklpffmfdkbaaDoor
open Go.RowKit
set_option linter.unusedVariables false

set_option maxRecDepth 100000 in
set_option maxHeartbeats 4000000 in
theorem hoursUpLaw (A : Option Addr) (n c : Nat) (w : World) (hin : In w A n) (hgl : Gl w.heap.size w) :
    Calls Tryd.prog 4 #[.slice A n c] w fun r w' => r = .returned (.bool true) ∧ Below w.heap.size w w' := by
  have hs0 := Str.start (c := c) hin
  have HGL := Lib.hid hgl
  clear hin hgl
  go_enter Tryd.func4, Tryd.ntmps4
  go_wp2_with fail
  have hG0 := World.grownBy_alloc w (.cells #[.slice A n c, .int .i64 0] 25) none
  have hlt0 := hs0.lt
  generalize w.alloc (.cells #[.slice A n c, .int .i64 0] 25) = W0 at *
  generalize hb : w.heap.size = b at *
  have HB := Lib.hid hb
  clear hb
  refine (rightTimes_in b 0 _ hs0 (by decide)).mono ?_
  rintro _ w1 ⟨v, l, a, z, rfl, hv, hlen, hE, hz30, hs1, hg1⟩
  have hG1 : w.grownBy w1 none := gr_grown hG0 hg1 (fun g e => by injection e with e; exact .inr (by have := HB.out; omega))
  have O := timesE_ok hE
  have hbv : b < W0.heap.size := hlt0
  have hv1 : IntsFrom (b + 1) w1 v l := ownsRow_low hv (by omega)
  obtain ⟨A1, c1, rfl, hl9, hA1⟩ := hv1.shape
  have oa := O.a0
  have oz := O.ato
  have hx := Blk.new w1 27 #[.int .i64 a, .int .i64 z]
  have hbw1 : b < w1.heap.size := by have := hg1.size; omega
  have HV := Lib.hid (IntsFrom.grown hv1 (World.grownBy_alloc w1 (.cells #[.int .i64 a, .int .i64 z] 27) none))
  have hs2 := hs1.alloc (.cells #[.int .i64 a, .int .i64 z] 27)
  have hG2 := gr_alloc hG1 (.cells #[.int .i64 a, .int .i64 z] 27)
  have HE := Lib.hid hE
  have HO := Lib.hid O
  clear hs0 hG0 hv hv1 hs1 hG1 hg1 O hE hA1 hlt0
  go_wp2_with fail
  generalize w1.alloc (.cells #[.int .i64 a, .int .i64 z] 27) = W1 at *
  generalize w1.heap.size = X at *
  have hh : hoursI a z ≤ 10 := by unfold hoursI; omega
  refine (hours_ok (b + 1) _ l a z _ HV.out HE.out (by omega)).mono ?_
  rintro _ w2 ⟨u, rfl, hu, hg⟩
  obtain ⟨Hh, hHh⟩ : ∃ Hh, hourAll l a z = Hh := ⟨_, rfl⟩
  have hsum : Hh.sum = (l.length : Int) := by
    rw [← hHh, ← hist_hours a z l (hoursI a z).toNat HO.out.mem rfl]
    apply hist_sum
    intro x hx
    have := HO.out.mem x hx
    unfold hoursI
    omega
  have hHlen : Hh.length ≤ 10 := by
    rw [← hHh, ← hist_hours a z l (hoursI a z).toNat HO.out.mem rfl, hist_len]
    omega
  have hHb : ∀ x ∈ Hh, 0 ≤ x ∧ x ≤ 20 := by
    rw [← hHh, ← hist_hours a z l (hoursI a z).toNat HO.out.mem rfl]
    intro x hx
    obtain ⟨i, hi, rfl⟩ := List.mem_map.1 hx
    have := List.countP_le_length (p := hourIs a i) (l := l)
    omega
  rw [hHh] at hu
  have HU := Lib.hid hu
  have HSUM := Lib.hid hsum
  have HHB := Lib.hid hHb
  replace hx := hx.grown hg (by simp)
  replace hs2 := hs2.grown hg (by simp)
  replace hG2 := gr_trans hG2 hg
  replace HV := Lib.hid (HV.out.grown hg)
  clear hg hu hHh hsum hHb
  obtain ⟨x0, x1⟩ := hx.cells2
  go_wp2_with fail
  refine (best_ok (b + 1) _ l a z 600000 _ HV.out HE.out (by decide)).mono ?_
  rintro _ w3 ⟨rfl, hg⟩
  have hbo := best_own l a 600000
  have hbm := fun f => best_most l a 600000 f HO.out.sorted
  obtain ⟨at_, hat_⟩ : ∃ at_, (bestI l a 600000).1 = at_ := ⟨_, rfl⟩
  obtain ⟨N1, hN1⟩ : ∃ N1, (bestI l a 600000).2 = N1 := ⟨_, rfl⟩
  rw [hat_, hN1] at hbo
  rw [hat_, hN1]
  have hat1 : a ≤ at_ ∧ at_ < z := by
    rcases hbo.2 with h | h
    · omega
    · exact HO.out.mem _ h
  have HBO := Lib.hid hbo.1
  have HBM : Hid (∀ f, manyI l f (f + 600000) ≤ N1) := by
    show ∀ f, _
    rw [← hN1]
    exact hbm
  replace HU := Lib.hid (IntsFrom.grown HU.out hg)
  replace hx := hx.grown hg (by simp)
  replace hs2 := hs2.grown hg (by simp)
  replace hG2 := gr_trans hG2 hg
  replace HV := Lib.hid (HV.out.grown hg)
  obtain ⟨hat2, hat3⟩ := hat1
  clear hg x0 x1 hbo hbm hat_ hN1
  obtain ⟨x0, x1⟩ := hx.cells2
  obtain ⟨A2, c2, rfl, hl8, hA2⟩ := IntsFrom.shape HU.out
  have HA2 := Lib.hid hA2
  clear hA2
  go_wp2_with fail
  go_loop [11, 48] (fun t i => ∃ (k : Nat) (m : Int), k ≤ Hh.length ∧ i = .int .i64 k ∧ t = .int .i64 m ∧ 0 ≤ m ∧ m ≤ 20 * k ∧ Hid (m = (Hh.take k).sum)) (fun _ i => Hh.length - (intOf i).toNat)
  case atStart => exact ⟨0, 0, by omega, rfl, rfl, by omega, by omega, rfl⟩
  case round =>
    obtain ⟨k, m, hk, rfl, rfl, hm0, hm1, HR⟩ := hrel
    by_cases hlt : k < Hh.length
    · obtain ⟨g, rfl, hg0, _⟩ := HA2.out (by omega)
      have hat := IntsFrom.at_ HU.out k hlt
      have hbb := HHB.out _ (List.getElem_mem hlt)
      have hsn := sum_snoc Hh k hlt
      obtain ⟨x, hxx⟩ : ∃ x, Hh[k] = x := ⟨_, rfl⟩
      rw [hxx] at hat hbb hsn
      obtain ⟨hb0, hb1⟩ := hbb
      have HS : Hid (m + x = (Hh.take (k + 1)).sum) := by show _ = _; rw [hsn, HR.out]
      have hlt2 : (k : Int) < (Hh.length : Int) := by omega
      clear hsn hxx
      go_wp2_with fail
      go_round
      case rel => exact ⟨k + 1, m + x, by omega, by go_num, rfl, by omega, by omega, HS⟩
      case measure => simp [intOf]; omega
    · have hlt2 : ¬ (k : Int) < (Hh.length : Int) := by omega
      have hm : m = (l.length : Int) := by
        have := HR.out
        rw [List.take_of_length_le (by omega)] at this
        rw [this, HSUM.out]
      subst hm
      go_wp2_with fail
      refine (range_in b _ a (z - 1) _ hs2 (by decide) (by omega) (by omega) (by omega)).mono ?_
      rintro _ w4 ⟨f, hf0, hf1, rfl, hs4, hg⟩
      replace hx := hx.grown hg (by simp; omega)
      have hG4 : w.grownBy w4 none := gr_grown hG2 hg (fun g e => by injection e with e; exact .inr (by have := HB.out; omega))
      replace HV := Lib.hid (HV.out.other hg (by omega))
      clear hg x0 x1 hs2 hG2
      obtain ⟨x0, x1⟩ := hx.cells2
      have hw1 : winE f (f + 600000) = 0 := winE_0 (by omega)
      have hw2 : winE at_ (at_ + 600000) = 0 := winE_0 (by omega)
      have hm1 := HBM.out f
      obtain ⟨M1, hM1⟩ : ∃ M1, manyI l f (f + 600000) = M1 := ⟨_, rfl⟩
      rw [hM1] at hm1
      have HI1 : Hid (∀ W : World, IntsFrom (b + 1) W (.slice A1 l.length c1) l → Calls Tryd.prog 27 #[.slice A1 l.length c1, .agg #[.int .i64 a, .int .i64 z], .agg #[.int .i64 f, .int .i64 (f + 600000)]] W fun r w' => r = .returned (.tuple #[.int .i64 M1, .int .i64 0]) ∧ W.grownBy w' none) := fun W h => by
        have := in_ok (b + 1) _ l a z f (f + 600000) W h HE.out
        rw [hw1, hM1] at this
        exact this
      have HI2 : Hid (∀ W : World, IntsFrom (b + 1) W (.slice A1 l.length c1) l → Calls Tryd.prog 27 #[.slice A1 l.length c1, .agg #[.int .i64 a, .int .i64 z], .agg #[.int .i64 at_, .int .i64 (at_ + 600000)]] W fun r w' => r = .returned (.tuple #[.int .i64 N1, .int .i64 0]) ∧ W.grownBy w' none) := fun W h => by
        have := in_ok (b + 1) _ l a z at_ (at_ + 600000) W h HE.out
        rw [hw2, HBO.out] at this
        exact this
      clear hw1 hw2 hM1
      go_wp2_with fail
      refine (HI1.out _ HV.out).mono ?_
      rintro _ w5 ⟨rfl, hg⟩
      replace hx := hx.grown hg (by simp)
      replace hG4 := gr_trans hG4 hg
      replace HV := Lib.hid (HV.out.grown hg)
      clear hg x0 x1
      obtain ⟨x0, x1⟩ := hx.cells2
      go_wp2_with fail
      refine (HI2.out _ HV.out).mono ?_
      rintro _ w6 ⟨rfl, hg⟩
      replace hG4 := gr_trans hG4 hg
      clear hg x0 x1
      go_wp2_with fail
      refine (ready_any b _ (HGL.out.quiet hG4)).mono ?_
      rintro _ w7 ⟨rfl, hg⟩
      go_wp2_with fail
      go_ret
      exact ⟨rfl, gr_below (gr_trans hG4 hg)⟩
end Go.Proofs.YtjhklpffmfdkbaaDoor
