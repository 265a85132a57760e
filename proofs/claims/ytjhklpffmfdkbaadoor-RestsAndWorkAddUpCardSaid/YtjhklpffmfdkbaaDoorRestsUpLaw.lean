/- The law RestsAndWorkAddUp: its plain part and the walk over it. Condition: asciiSpace is Go's own table, MaxLen holds a number. -/
import Derived.Test.YtjhklpffmfdkbaaDoorWorked
import Derived.Test.YtjhklpffmfdkbaaDoorReady
import Derived.Test.YtjhklpffmfdkbaaDoorRightTimes
import Derived.Test.YtjhklpffmfdkbaaDoorRateE
import Derived.Test.YtjhklpffmfdkbaaDoorStart
namespace Go.Proofs.YtjhklpffmfdkbaaDoor
open Go.RowKit
set_option linter.unusedVariables false

theorem manyI_none {l : List Int} {x y : Int} (h : ∀ t ∈ l, t < x ∨ y ≤ t) : manyI l x y = 0 := by
  unfold manyI
  have : l.countP (fun t => hasB x y t) = 0 := by
    rw [List.countP_eq_zero]
    intro t ht
    have := h t ht
    simp [hasB]
    omega
  rw [this]
  rfl
/-- Nobody is in a gap. -/
theorem gaps_none (z : Int) (l : List Int) : ∀ (r pre : List Int) (f : Int), l = pre ++ r → l.Pairwise (· ≤ ·) → (∀ y ∈ pre, y < f) → (∀ y ∈ l, y < z) → ∀ p ∈ gapsL 1 f (r ++ [z]), manyI l p.1 p.2 = 0
  | [], pre, f, hl, hs, hp, hz, p, hm => by
    simp only [List.nil_append, gapsL, List.mem_singleton] at hm
    subst hm
    refine manyI_none fun t ht => ?_
    rw [hl, List.append_nil] at ht
    exact .inl (hp t ht)
  | x :: r, pre, f, hl, hs, hp, hz, p, hm => by
    have hs2 := hs
    rw [hl] at hs2
    have hpx := (List.pairwise_append.1 hs2).2.2
    have hxr := (List.pairwise_cons.1 (List.pairwise_append.1 hs2).2.1).1
    simp only [List.cons_append, gapsL, List.mem_cons] at hm
    rcases hm with hm | hm
    · subst hm
      refine manyI_none fun t ht => ?_
      rw [hl] at ht
      rcases List.mem_append.1 ht with h | h
      · exact .inl (hp t h)
      · rcases List.mem_cons.1 h with rfl | h
        · exact .inr (Int.le_refl _)
        · exact .inr (hxr t h)
    · refine gaps_none z l r (pre ++ [x]) (x + 1) (by rw [hl]; simp) hs (fun y hy => ?_) hz p hm
      rcases List.mem_append.1 hy with h | h
      · have := hpx y h x (by simp)
        omega
      · simp at h
        omega
theorem offL_up (l : List Int) (a z least : Int) (h : timesE l a z = 0) (hm : 1000 ≤ least) : ∀ p ∈ offL l a z least, 0 ≤ p.1 ∧ p.2 ≤ z ∧ least ≤ p.2 - p.1 ∧ manyI l p.1 p.2 = 0 := by
  have O := timesE_ok h
  intro p hp
  have h1 := List.mem_filter.1 hp
  have h2 := gaps_none z l l [] a rfl O.sorted (by simp) (fun y hy => (O.mem y hy).2) p h1.1
  have h3 : least ≤ p.2 - p.1 := by simpa [longB] using h1.2
  have h4 := (offL_mem l a z least h (by omega) p hp).1
  have h5 : ∀ (r : List Int) (f : Int), (∀ x ∈ r, x ≤ z) → ∀ q ∈ gapsL 1 f r, q.2 ≤ z := by
    intro r
    induction r with
    | nil => intro f _ q hq; simp [gapsL] at hq
    | cons x r ih =>
      intro f hx q hq
      simp only [gapsL, List.mem_cons] at hq
      rcases hq with rfl | hq
      · exact hx x (by simp)
      · exact ih _ (fun y hy => hx y (by simp [hy])) q hq
  have h6 := h5 (l ++ [z]) a (fun x hx => by
    rcases List.mem_append.1 hx with h | h
    · have := (O.mem x h).2; omega
    · simp at h; omega) p h1.1
  exact ⟨h4, h6, h3, h2⟩

set_option maxRecDepth 100000 in
set_option maxHeartbeats 4000000 in
theorem restsUpLaw (A : Option Addr) (n c : Nat) (w : World) (hin : In w A n) (hgl : Gl w.heap.size w) :
    Calls Tryd.prog 5 #[.slice A n c] w fun r w' => r = .returned (.bool true) ∧ Below w.heap.size w w' := by
  have hs0 := Str.start (c := c) hin
  have HGL := Lib.hid hgl
  clear hin hgl
  go_enter Tryd.func5, Tryd.ntmps5
  go_wp2_with fail
  have hG0 := World.grownBy_alloc w (.cells #[.slice A n c, .int .i64 0] 25) none
  have hlt0 := hs0.lt
  generalize w.alloc (.cells #[.slice A n c, .int .i64 0] 25) = W0 at *
  generalize hb : w.heap.size = b at *
  have HB := Lib.hid hb
  clear hb
  refine (rightTimes_in b 0 _ hs0 (by decide)).mono ?_
  rintro _ w1 ⟨v, l, a, z, rfl, hv, hlen, hE, hz30, hs1, hg1⟩
  have hG1 : w.grownBy w1 none := gr_grown hG0 hg1 (fun g e => by injection e with e; exact .inr (by have := HB.out; omega))
  have O := timesE_ok hE
  have hbv : b < W0.heap.size := hlt0
  have hv1 : IntsFrom (b + 1) w1 v l := ownsRow_low hv (by omega)
  obtain ⟨A1, c1, rfl, hl9, hA1⟩ := hv1.shape
  have oa := O.a0
  have oz := O.ato
  have hx := Blk.new w1 27 #[.int .i64 a, .int .i64 z]
  have hbw1 : b < w1.heap.size := by have := hg1.size; omega
  have HV := Lib.hid (IntsFrom.grown hv1 (World.grownBy_alloc w1 (.cells #[.int .i64 a, .int .i64 z] 27) none))
  have hs2 := hs1.alloc (.cells #[.int .i64 a, .int .i64 z] 27)
  have hG2 := gr_alloc hG1 (.cells #[.int .i64 a, .int .i64 z] 27)
  have HE := Lib.hid hE
  have HO := Lib.hid O
  clear hs0 hG0 hv hv1 hs1 hG1 hg1 O hE hA1 hlt0
  have hXW : w1.heap.size + 1 = (w1.alloc (.cells #[.int .i64 a, .int .i64 z] 27)).heap.size := by simp
  have HXW := Lib.hid hXW
  clear hXW
  go_wp2_with fail
  generalize w1.alloc (.cells #[.int .i64 a, .int .i64 z] 27) = W1 at *
  generalize w1.heap.size = X at *
  refine (pick_at b _ _ 3 3 [1000, 60000, 600000] _ hs2 HXW.out (by omega) rfl (by decide) (by decide)).mono ?_
  rintro _ w2 ⟨least, hleast, rfl, hs3, hg⟩
  have hlb : 1000 ≤ least ∧ least ≤ 600000 := by simp at hleast; omega
  obtain ⟨hl0, hl1⟩ := hlb
  replace hx := hx.grown hg (by simp; omega)
  have hG3 : w.grownBy w2 none := gr_grown hG2 hg (fun g e => by injection e with e; exact .inr (by have := HB.out; omega))
  replace HV := Lib.hid (HV.out.other hg (by omega))
  clear hg hs2 hG2 hs3 hleast
  have hrE : restE l a z least = 0 := by unfold restE; rw [orE_z HE.out]; exact spanE_no (by omega) (by omega)
  obtain ⟨R, hR⟩ : ∃ R, offL l a z least = R := ⟨_, rfl⟩
  have hoff : offAll l a z least = R := by unfold offAll; rw [if_pos hrE, hR]
  have hwork : workAll l a z least = z - a - sumW R := by unfold workAll; rw [if_pos hrE, hR]
  have hup := offL_up l a z least HE.out hl0
  have hRlen := offL_len l a z least
  rw [hR] at hup hRlen
  have HUP := Lib.hid hup
  have HOFF : Hid (∀ W : World, IntsFrom (b + 1) W (.slice A1 l.length c1) l → Calls Tryd.prog 29 #[.slice A1 l.length c1, .agg #[.int .i64 a, .int .i64 z], .int .i64 least] W fun r w' => ∃ u, r = .returned (.tuple #[u, .int .i64 0]) ∧ Wins w' u R ∧ W.grownBy w' none) := fun W h => by
    have := off_all (b + 1) _ l a z least W h (by omega) (by omega)
    rw [hrE, hoff] at this
    exact this
  have HWORK : Hid (∀ W : World, IntsFrom (b + 1) W (.slice A1 l.length c1) l → Calls Tryd.prog 30 #[.slice A1 l.length c1, .agg #[.int .i64 a, .int .i64 z], .int .i64 least] W fun r w' => r = .returned (.tuple #[.int .i64 (z - a - sumW R), .int .i64 0]) ∧ W.grownBy w' none) := fun W h => by
    have := worked_all (b + 1) _ l a z least W h (by omega) (by omega)
    rw [hrE, hwork] at this
    exact this
  have hsb := fun k hk => sumW_bd R (fun p hp => by have := hup p hp; omega) k hk
  have HSB := Lib.hid hsb
  clear hrE hoff hwork hup hR hsb
  obtain ⟨x0, x1⟩ := hx.cells2
  go_wp2_with fail
  refine (HOFF.out _ HV.out).mono ?_
  rintro _ w3 ⟨u, rfl, hu, hg⟩
  have HU := Lib.hid hu
  replace hx := hx.grown hg (by simp)
  replace hG3 := gr_trans hG3 hg
  replace HV := Lib.hid (HV.out.grown hg)
  clear hu hg x0 x1
  obtain ⟨x0, x1⟩ := hx.cells2
  go_wp2_with fail
  refine (HWORK.out _ HV.out).mono ?_
  rintro _ w4 ⟨rfl, hg⟩
  replace HU := Lib.hid (HU.out.grown hg)
  replace hx := hx.grown hg (by simp)
  replace hG3 := gr_trans hG3 hg
  replace HV := Lib.hid (HV.out.grown hg)
  clear hg x0 x1
  obtain ⟨A2, c2, rfl, hl8, hA2⟩ := HU.out.shape
  have HA2 := Lib.hid hA2
  clear hA2
  have hX4 := hx.lt
  have hz0 : (0 : Int) ≤ z - a := by omega
  go_wp2_with fail
  go_loopw [9, 48] (fun m i wr => ∃ k : Nat, k ≤ R.length ∧ i = .int .i64 k ∧ m = .int .i64 (z - a - sumW R + sumW (R.take k)) ∧ w4.grownBy wr none) (fun _ i _ => R.length - (intOf i).toNat)
  case atStart => exact ⟨0, by omega, rfl, by show _ = Value.int .i64 (z - a - sumW R + 0); rw [Int.add_zero], gr_refl _ _⟩
  case round =>
    obtain ⟨k, hk, rfl, rfl, hgr⟩ := hrel
    obtain ⟨T, hT⟩ : ∃ T, sumW (R.take k) = T := ⟨_, rfl⟩
    obtain ⟨Q, hQ⟩ : ∃ Q, sumW R = Q := ⟨_, rfl⟩
    have hTb := HSB.out k hk
    have hQb := HSB.out R.length (Nat.le_refl _)
    rw [List.take_length] at hQb
    rw [hT] at hTb
    rw [hQ] at hQb
    obtain ⟨t0, t1⟩ := hTb
    obtain ⟨s0, s1⟩ := hQb
    rw [hT, hQ]
    have HTT := Lib.hid hT
    have HQQ := Lib.hid hQ
    clear hT hQ
    have hxr := hx.grown hgr (by simp)
    have HVr := Lib.hid (HV.out.grown hgr)
    have hgw : w.grownBy wr none := gr_trans hG3 hgr
    obtain ⟨y0, y1⟩ := hxr.cells2
    have hXl := hxr.lt
    by_cases hlt : k < R.length
    · obtain ⟨g, rfl, hg0, _⟩ := HA2.out (by omega)
      obtain ⟨q1, q2⟩ := (HU.out.grown hgr).at1 k hlt
      have hpu := HUP.out _ (List.getElem_mem hlt)
      have hsn := sumW_snoc R k hlt
      obtain ⟨x, hxx⟩ : ∃ x, R[k].1 = x := ⟨_, rfl⟩
      obtain ⟨y, hyy⟩ : ∃ y, R[k].2 = y := ⟨_, rfl⟩
      rw [hxx, hyy] at hpu hsn
      rw [hxx] at q1
      rw [hyy] at q2
      obtain ⟨p0, p1, p2, p3⟩ := hpu
      have hw0 : winE x y = 0 := winE_0 (by omega)
      have HI : Hid (∀ W : World, IntsFrom (b + 1) W (.slice A1 l.length c1) l → Calls Tryd.prog 27 #[.slice A1 l.length c1, .agg #[.int .i64 a, .int .i64 z], .agg #[.int .i64 x, .int .i64 y]] W fun r w' => r = .returned (.tuple #[.int .i64 0, .int .i64 0]) ∧ W.grownBy w' none) := fun W h => by
        have := in_ok (b + 1) _ l a z x y W h HE.out
        rw [hw0, p3] at this
        exact this
      have HS : Hid (z - a - Q + T + (y - x) = z - a - Q + sumW (R.take (k + 1))) := by
        show _ = _
        rw [hsn, HTT.out]
        omega
      have hlt2 : (k : Int) < (R.length : Int) := by omega
      have hnl : ¬ y - x < least := by omega
      have hk20 : k ≤ 21 := by omega
      clear hsn hxx hyy p3 hw0
      go_wp2_with fail
      have hB := Blk.new wr 27 #[.int .i64 x, .int .i64 y]
      have hY := hxr.alloc (.cells #[.int .i64 x, .int .i64 y] 27)
      refine (HI.out _ (HVr.out.grown (World.grownBy_alloc wr _ none))).mono ?_
      rintro _ w5 ⟨rfl, hg⟩
      replace hB := hB.grown hg (by simp)
      have hgr2 := gr_trans hgr (gr_trans (World.grownBy_alloc wr (.cells #[.int .i64 x, .int .i64 y] 27) none) hg)
      obtain ⟨u0, u1⟩ := hB.cells2
      clear hg y0 y1
      go_wp2_with fail
      go_roundw
      case rel => exact ⟨k + 1, by omega, by go_num, by rw [HS.out], hgr2⟩
      case measure => simp [intOf]; omega
    · have hlt2 : ¬ (k : Int) < (R.length : Int) := by omega
      have hm : z - a - Q + T = z - a := by
        have h1 := HTT.out
        rw [List.take_of_length_le (by omega), HQQ.out] at h1
        omega
      rw [hm]
      clear hm
      go_wp2_with fail
      refine (ready_any b _ (HGL.out.quiet hgw)).mono ?_
      rintro _ w7 ⟨rfl, hg⟩
      go_wp2_with fail
      go_ret
      exact ⟨rfl, gr_below (gr_trans hgw hg)⟩
end Go.Proofs.YtjhklpffmfdkbaaDoor
