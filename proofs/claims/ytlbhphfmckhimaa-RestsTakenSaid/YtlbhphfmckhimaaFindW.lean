/- The walk over the reference's search for the cheapest rests: the closure of CheapestOf, with a map of what is known. Condition: contests of at most 24 seconds. -/
import Derived.Test.YtlbhphfmckhimaaFindMem
import Derived.Deep.RegionHeld3
import Derived.Deep.RegionWith
import Derived.Deep.DeepCutAuto
import Derived.Deep.AppendLies
namespace Go.Proofs.Ytlbhphfmckhimaa
open Go.RowKit
set_option linter.unusedVariables false
set_option linter.unusedSimpArgs false

theorem step_append_nil {P : Program} {w : World} {ops : Array Oper} {o : Oper} {a : Act} {K : Act → World → Prop} {Q : Exit → Act → World → Prop} {E : Prop} (hgd : o.guard = none) (s x : Operand) (t : TypeId)
    (ho : o.op = .call { callee := .builtin .append, args := #[s, x], argTypes := #[t, t] })
    (base : Nat) (e : TypeId) (i : TypeInfo) (size : Nat) (ht : P.underlying t = some (.slice e)) (hi : P.info? e = some i)
    (v : Value) (n : Nat) (xs : List Value) (hs : a.eval s = v) (hown : w.ownsRow base e size v n xs) (hx : a.eval x = .slice none 0 0)
    (h : K (a.put o.dst v) w) : if Region.wanted o (yielded ops a.tmps) = true then Oper.wp P o a w K Q else E := by
  have hw : Region.wanted o (yielded ops a.tmps) = true := by simp [Region.wanted, hgd]
  rw [if_pos hw]
  have hrun := run_append_owned_none (P := P) (w := w) base t o.type e i size ht hi v n xs hown
  unfold Oper.wp
  simp [execOp, ho, resolve, invoke, builtin, hs, hx, hrun, Result.andThen]
  exact h
theorem win_own {w : World} {g base : Nat} {f t : Int} (h : Blk w g 27 #[.int .i64 f, .int .i64 t]) (hb : base ≤ g) : w.ownsRow base 27 2 (.slice (some ⟨g, 0, none⟩) 1 1) 1 [.int .i64 f, .int .i64 t] :=
  ⟨by simp, .inr ⟨g, 1, _, rfl, hb, h, Nat.le_refl _, by unfold maxLen; omega, by simp, rfl⟩⟩
theorem fblk_new {W : World} {n : Nat} {t : TypeId} {cs cs' : Array Value} (h1 : n = W.heap.size) (h2 : cs' = cs) : Blk (W.alloc (.cells cs t)) n t cs' := by
  subst h1; subst h2; exact Blk.new W t _
theorem wins_cells {base : Nat} {w : World} {g c : Nat} {l : List (Int × Int)} (h : WinsFrom base w (.slice (some ⟨g, 0, none⟩) l.length c) l) : ∀ j u, (wcells l)[j]? = some u → w.cell? ((⟨g, 0, none⟩ : Addr).add j) = some u := by
  intro j u hu
  have hj : j < l.length * 2 := by
    have := (List.getElem?_eq_some_iff.1 hu).1
    rwa [wcells_len] at this
  have h1 := World.ownsRow.cellAt h j hj
  rw [hu] at h1
  have hadd : (⟨g, 0, none⟩ : Addr).add j = ⟨g, j, none⟩ := by unfold Addr.add; split <;> simp_all
  rw [hadd]
  exact h1
theorem wins_one (l : List (Int × Int)) : ∀ u ∈ wcells l, u.oneCell' = true := by
  intro u hu
  unfold wcells at hu
  obtain ⟨p, _, hp⟩ := List.mem_flatMap.1 hu
  simp only [List.mem_cons, List.not_mem_nil, or_false] at hp
  rcases hp with rfl | rfl <;> rfl
theorem blkN_over {W wP : World} (h : W.grownBy wP none) : Hid (∀ (g : Nat) (t : TypeId) (cs : Array Value), Blk W g t cs → Blk wP g t cs) := fun g t cs hb => hb.grown h (by simp)
theorem ownBF {g n c kk : Nat} (h : (Value.slice (some ⟨g, 0, none⟩) n c).ownBlock = some kk) : g = kk := by simpa [Value.ownBlock] using h
theorem append_ne {g gx B H n c : Nat} (h : (Value.slice (some ⟨B, 0, none⟩) n c).ownBlock = some g ∨ g = H) (hx : gx < H) (hne : gx ≠ B ∨ B ≠ gx) : g ≠ gx := by
  rcases h with h | h
  · have := ownBF h
    omega
  · omega
theorem append_row {gx B n c : Nat} (hne : gx ≠ B ∨ B ≠ gx) : some gx ≠ (Value.slice (some ⟨B, 0, none⟩) n c).ownBlock := fun e => by
  have := ownBF e.symm
  omega
theorem fin_row {base H GX gq m c : Nat} {W : World} {l : List (Int × Int)} {v0 v1 : Int} {xs : List Value} (hq : W.ownsRow H 27 2 (.slice (some ⟨gq, 0, none⟩) m c) m xs) (hm : m = l.length) (hH : base ≤ H) (hne : gq ≠ GX) (hB : Blk W GX 86 #[.int .i64 0, .int .i64 0, .slice none 0 0]) (hx : xs = wcells l := by rfl) :
    Blk (((W.setCell ⟨GX, 0, none⟩ (.int .i64 v0)).setCell ⟨GX, 1, none⟩ (.int .i64 v1)).setCell ⟨GX, 2, none⟩ (.slice (some ⟨gq, 0, none⟩) m c)) GX 86 #[.int .i64 v0, .int .i64 v1, .slice (some ⟨gq, 0, none⟩) m c] ∧
    WinsFrom base (((W.setCell ⟨GX, 0, none⟩ (.int .i64 v0)).setCell ⟨GX, 1, none⟩ (.int .i64 v1)).setCell ⟨GX, 2, none⟩ (.slice (some ⟨gq, 0, none⟩) m c)) (.slice (some ⟨gq, 0, none⟩) m c) l ∧
    W.grownBy (((W.setCell ⟨GX, 0, none⟩ (.int .i64 v0)).setCell ⟨GX, 1, none⟩ (.int .i64 v1)).setCell ⟨GX, 2, none⟩ (.slice (some ⟨gq, 0, none⟩) m c)) (some GX) := by
  have hg : W.grownBy (((W.setCell ⟨GX, 0, none⟩ (.int .i64 v0)).setCell ⟨GX, 1, none⟩ (.int .i64 v1)).setCell ⟨GX, 2, none⟩ (.slice (some ⟨gq, 0, none⟩) m c)) (some GX) :=
    gr_put (p := ⟨GX, 2, none⟩) (gr_put (p := ⟨GX, 1, none⟩) (gr_put (p := ⟨GX, 0, none⟩) (gr_refl _ _) (.inl rfl) (.int .i64 v0)) (.inl rfl) (.int .i64 v1)) (.inl rfl) (.slice (some ⟨gq, 0, none⟩) m c)
  refine ⟨?_, ?_, hg⟩
  · have h := ((hB.put 0 (.int .i64 v0)).put 1 (.int .i64 v1)).put 2 (.slice (some ⟨gq, 0, none⟩) m c)
    simp only [List.setIfInBounds_toArray, List.set_cons_zero, List.set_cons_succ] at h
    exact h
  · subst hx
    unfold WinsFrom
    rw [← hm]
    exact ownsRow_low (World.ownsRow.kept hq hg (.inr (by simp [Value.ownBlock]; exact hne))) hH
theorem refD_0 (n L : Nat) (M : Nat → Int) (d : Nat) : refD n L M d 0 = some [] := by rw [refD]; simp
theorem refD_none {n L : Nat} {M : Nat → Int} {d need : Nat} (h0 : need ≠ 0) (h : d ≤ L) : refD n L M d need = none := by rw [refD, if_neg h0, if_pos h]
theorem refD_loop {n L : Nat} {M : Nat → Int} {d need : Nat} (h0 : need ≠ 0) (h : ¬ d ≤ L) : refD n L M d need = loopD n L M d need (d - L) := by rw [refD, if_neg h0, if_neg h]
theorem loopD_0 {n L : Nat} {M : Nat → Int} {d need : Nat} (h0 : 0 < d) : loopD n L M d need 0 = refD n L M (d - 1) need := by rw [loopD, if_pos h0]
theorem loopD_1 {n L : Nat} {M : Nat → Int} {d need i : Nat} (h0 : 0 < d) : loopD n L M d need (i + 1) = pickR M (loopD n L M d need i) ((refD n L M (d - (L + i) - 1) (need - (L + i))).map fun r => (n + 1 - d, n + 1 - d + (L + i)) :: r) := by rw [loopD, if_pos h0]
theorem pow_step (e : Nat) : 2 ^ (e + 1) = 2 * 2 ^ e := by rw [Nat.pow_succ]; omega
theorem manyM_diff' (t : List Int) (a : Int) {x y : Nat} (h : x ≤ y) : manyM t a y - manyM t a x = manyI t (a + 1000 * (x : Int)) (a + 1000 * (y : Int)) := cnt_diff t _ _ (by omega)
/-- How the closure lies as a value. -/
abbrev fndF (xr xw xk xf xl : Nat) : Value := .func (.func 43) #[] #[.pointer (some ⟨xr, 0, none⟩), .pointer (some ⟨xw, 0, none⟩), .pointer (some ⟨xk, 0, none⟩), .pointer (some ⟨xf, 0, none⟩), .pointer (some ⟨xl, 0, none⟩)]
section
variable (base0 base xr xw xk xf xl bm n L : Nat) (a z ls : Int) (v : Value) (l : List Int)
def FindPost (cnt d k : Nat) (F : Value) (w : World) (e : Ending) (w' : World) : Prop :=
  ∃ u, e = .returned u ∧ ChoiceAt base a (manyM l a) w' u (refD n L (manyM l a) d k) ∧ FM base0 base xr xw xk xf xl bm (cnt + 2 ^ d) n L a z ls (manyM l a) v F l w' ∧ w.grownBy w' (some bm)
set_option maxRecDepth 100000 in
set_option maxHeartbeats 16000000 in
theorem find_ok (hbase : base = bm + 1) (h1 : xr ≠ bm) (h2 : xw ≠ bm) (h3 : xk ≠ bm) (h4 : xf ≠ bm) (h5 : xl ≠ bm) (hv : v.ownBlock ≠ some bm) (ha : 0 ≤ a ∧ a ≤ 1000000) (hz : z = a + 1000 * (n : Int)) (hls : ls = 1000 * (L : Int)) (hL : 0 < L) (hL2 : L ≤ 100000) (hn : n ≤ 24) (hll : l.length ≤ 2000) :
    ∀ (d : Nat) (k : Int) (cnt : Nat) (w : World), d ≤ n + 1 → -200000 ≤ k → k ≤ 100 → cnt + 2 ^ d ≤ 1000000000000 → FM base0 base xr xw xk xf xl bm cnt n L a z ls (manyM l a) v (fndF xr xw xk xf xl) l w →
    Calls Try.prog 43 #[.int .i64 (a + 1000 * ((n + 1 - d : Nat) : Int)), .int .i64 (1000 * k), .pointer (some ⟨xr, 0, none⟩), .pointer (some ⟨xw, 0, none⟩), .pointer (some ⟨xk, 0, none⟩), .pointer (some ⟨xf, 0, none⟩), .pointer (some ⟨xl, 0, none⟩)] w
      (FindPost base0 base xr xw xk xf xl bm n L a z ls v l cnt d k.toNat (fndF xr xw xk xf xl) w) := fun d => by
  induction d using Nat.strongRecOn with
  | ind d ih =>
    intro k cnt w hd hk0 hk1 hcnt hm
    obtain ⟨F, hF⟩ : ∃ F : Value, fndF xr xw xk xf xl = F := ⟨_, rfl⟩
    have hF2 : (Value.func (.func 43) #[] #[.pointer (some ⟨xr, 0, none⟩), .pointer (some ⟨xw, 0, none⟩), .pointer (some ⟨xk, 0, none⟩), .pointer (some ⟨xf, 0, none⟩), .pointer (some ⟨xl, 0, none⟩)]) = F := hF
    have HF := Lib.hid hF2
    have HBASE := Lib.hid hbase
    have HZ := Lib.hid hz
    have HLS := Lib.hid hls
    rw [hF] at ih hm ⊢
    obtain ⟨T, hT⟩ : ∃ T, n + 1 - d = T := ⟨_, rfl⟩
    have HT := Lib.hid hT
    obtain ⟨AT, hAT⟩ : ∃ x, a + 1000 * (T : Int) = x := ⟨_, rfl⟩
    have HAT := Lib.hid hAT
    obtain ⟨ND, hND⟩ : ∃ x, 1000 * k = x := ⟨_, rfl⟩
    have HND := Lib.hid hND
    have HM := Lib.hid hm
    have HPOST : Hid (∀ e w', (∃ u, e = .returned u ∧ ChoiceAt base a (manyM l a) w' u (refD n L (manyM l a) d k.toNat) ∧ FM base0 base xr xw xk xf xl bm (cnt + 2 ^ d) n L a z ls (manyM l a) v F l w' ∧ w.grownBy w' (some bm)) → FindPost base0 base xr xw xk xf xl bm n L a z ls v l cnt d k.toNat F w e w') := fun e w' h => h
    have hbsz : bm < w.heap.size := by obtain ⟨D, q, _⟩ := hm.mp; exact q.lt
    have hp0 : 1 ≤ 2 ^ d := Nat.one_le_two_pow
    rw [hT, hAT, hND]
    by_cases hk : k ≤ 0
    · have hkn : ND ≤ 0 := by omega
      have HK : Hid (k.toNat = 0) := by show _ = _; omega
      clear hbase hz hls ih hm hF hF2 hT hAT hND hk
      go_enter Try.func43, Try.ntmps43
      go_wp2_with fail
      go_ret
      refine HPOST.out _ _ ⟨_, rfl, ?_, (HM.out.quiet (World.grownBy_alloc w _ none)).more (by omega), World.grownBy_alloc w _ _⟩
      rw [HK.out, refD_0]
      exact ⟨w.heap.size, _, rfl, by have := HBASE.out; omega, Blk.new _ _ _, WinsFrom.nil _ _, fun _ => rfl⟩
    · obtain ⟨kN, rfl⟩ : ∃ kN : Nat, k = kN := ⟨k.toNat, by omega⟩
      have hkN : 0 < kN := by omega
      have hkn : ¬ ND ≤ 0 := by omega
      rw [Int.toNat_natCast] at HPOST ⊢
      have c1 := hm.cr
      have c2 := hm.cw
      have e1 : IntKind.i64.wrap (AT + ls) = AT + ls := by rw [IntKind.wrap_i64]; omega
      by_cases hdL : d ≤ L
      · have hgt : z < AT + ls := by omega
        have HN := Lib.hid (refD_none (n := n) (L := L) (M := manyM l a) (d := d) (need := kN) (by omega) hdL)
        clear hbase hz hls ih hm hF hF2 hT hAT hND hk hdL
        go_enter Try.func43, Try.ntmps43
        go_wp2_with fail
        go_ret
        refine HPOST.out _ _ ⟨_, rfl, ?_, HM.out.more (by omega), gr_refl _ _⟩
        rw [HN.out]
        rfl
      · have hgt : ¬ z < AT + ls := by omega
        have c3 := hm.ck
        have c4 := hm.cf
        rw [← HF.out] at c4
        rcases hm.mp.look ha T kN (by omega) (by omega) with ⟨vl, hlk⟩ | ⟨u, hu, hlk⟩
        · rw [hAT, hND] at hlk
          have hd1 : 1 ≤ d - 1 := by omega
          have hpd : 2 ^ d = 2 * 2 ^ (d - 1) := by
            have := pow_step (d - 1)
            rwa [show d - 1 + 1 = d by omega] at this
          have hpq : 2 ^ (d - L) ≤ 2 ^ (d - 1) := Nat.pow_le_pow_right (by decide) (by omega)
          have hkz : ¬ kN = 0 := by omega
          have HLP := Lib.hid (refD_loop (n := n) (L := L) (M := manyM l a) hkz hdL)
          have HL0 := Lib.hid (loopD_0 (n := n) (L := L) (M := manyM l a) (d := d) (need := kN) (by omega))
          have HL1 : Hid (∀ i, loopD n L (manyM l a) d kN (i + 1) = pickR (manyM l a) (loopD n L (manyM l a) d kN i) ((refD n L (manyM l a) (d - (L + i) - 1) (kN - (L + i))).map fun r => (T, T + (L + i)) :: r)) := fun i => by
            have := loopD_1 (n := n) (L := L) (M := manyM l a) (d := d) (need := kN) (i := i) (by omega)
            rwa [hT] at this
          have hMb : ∀ j, j ≤ n → 0 ≤ manyM l a j ∧ manyM l a j ≤ 2000 := fun j _ => by
            have := cntLt_bd l (a + 1000 * (j : Int))
            unfold manyM
            omega
          have HBD : Hid (∀ d' need' r, d' ≤ n + 1 → refD n L (manyM l a) d' need' = some r → 0 ≤ costW (manyM l a) r ∧ costW (manyM l a) r ≤ 2000 ∧ longW r ≤ n ∧ r.length ≤ n + 1) := fun d' need' r h h' => ref_bd hL (manyM_rise l a n) hMb h h'
          have H1 : Hid (∀ cnt' W, FM base0 base xr xw xk xf xl bm cnt' n L a z ls (manyM l a) v F l W → cnt' + 2 ^ (d - 1) ≤ 1000000000000 → Calls Try.prog 43 #[.int .i64 (AT + 1000), .int .i64 ND, .pointer (some ⟨xr, 0, none⟩), .pointer (some ⟨xw, 0, none⟩), .pointer (some ⟨xk, 0, none⟩), .pointer (some ⟨xf, 0, none⟩), .pointer (some ⟨xl, 0, none⟩)] W
              (FindPost base0 base xr xw xk xf xl bm n L a z ls v l cnt' (d - 1) kN F W)) := fun cnt' W hW hc => by
            have h := ih (d - 1) (by omega) (kN : Int) cnt' W (by omega) (by omega) (by omega) hc hW
            rw [show a + 1000 * ((n + 1 - (d - 1) : Nat) : Int) = AT + 1000 by omega, hND, Int.toNat_natCast] at h
            exact h
          have HI : Hid (∀ (i : Nat) (TO K2 : Int), i < d - L → TO = AT + ls + 1000 * (i : Int) + 1000 → K2 = ND - (ls + 1000 * (i : Int)) → ∀ cnt' W, FM base0 base xr xw xk xf xl bm cnt' n L a z ls (manyM l a) v F l W → cnt' + 2 ^ (d - L - i - 1) ≤ 1000000000000 → Calls Try.prog 43 #[.int .i64 TO, .int .i64 K2, .pointer (some ⟨xr, 0, none⟩), .pointer (some ⟨xw, 0, none⟩), .pointer (some ⟨xk, 0, none⟩), .pointer (some ⟨xf, 0, none⟩), .pointer (some ⟨xl, 0, none⟩)] W
              (FindPost base0 base xr xw xk xf xl bm n L a z ls v l cnt' (d - (L + i) - 1) (kN - (L + i)) F W)) := fun i TO K2 hi h6 h7 cnt' W hW hc => by
            have h := ih (d - (L + i) - 1) (by omega) ((kN : Int) - ((L + i : Nat) : Int)) cnt' W (by omega) (by omega) (by omega) (by rw [show d - (L + i) - 1 = d - L - i - 1 by omega]; exact hc) hW
            rw [show a + 1000 * ((n + 1 - (d - (L + i) - 1) : Nat) : Int) = TO by omega, show 1000 * ((kN : Int) - ((L + i : Nat) : Int)) = K2 by omega, show ((kN : Int) - ((L + i : Nat) : Int)).toNat = kN - (L + i) by omega] at h
            exact h
          have HPUT : Hid (∀ W cnt' u, MapC base a (manyM l a) n L W bm cnt' → cnt' < 1000000000001 → ChoiceAt base a (manyM l a) W u (refD n L (manyM l a) d kN) → ∃ w', (Instr.mapUpdate 82 (.map (some bm)) (.agg #[.int .i64 AT, .int .i64 ND]) u).run Try.prog W = .ok () w' ∧ MapC base a (manyM l a) n L w' bm (cnt' + 1) ∧ W.grownBy w' (some bm)) := fun W cnt' u hW hc hu => by
            have h := hW.put (by omega) (by unfold maxLen; omega) ha T kN (by omega) (by omega) u (by rw [show n + 1 - T = d by omega]; exact hu)
            rw [hAT, hND] at h
            exact h
          have HMY : Hid (∀ i, i < d - L → manyM l a (T + (L + i)) - manyM l a T = manyI l AT (AT + ls + 1000 * (i : Int))) := fun i hi => by
            rw [manyM_diff' l a (by omega), hAT, show a + 1000 * ((T + (L + i) : Nat) : Int) = AT + ls + 1000 * (i : Int) by omega]
          have HAZ : Hid (∀ i : Nat, (AT + ls + 1000 * (i : Int) ≤ z ↔ i < d - L)) := fun i => by omega
          have HATN : Hid (AT = a + (T : Int) * 1000) := by show _ = _; omega
          have HATB : Hid (0 ≤ AT ∧ AT ≤ 1025000 ∧ 1000 ≤ ls ∧ ls ≤ 25000 ∧ -1000 ≤ ND ∧ ND ≤ 100000 ∧ AT + ls ≤ z ∧ z ≤ 1024000) := ⟨by omega, by omega, by omega, by omega, by omega, by omega, by omega, by omega⟩
          obtain ⟨a0, a1, l0, l1, n0, n1, az, z1⟩ := HATB.out
          have e2 : IntKind.i64.wrap (AT + 1000) = AT + 1000 := by rw [IntKind.wrap_i64]; omega
          have hdL0 : Hid (d - L ≤ 25 ∧ 1 ≤ d - L) := ⟨by omega, by omega⟩
          generalize hP1 : 2 ^ (d - 1) = P1 at *
          generalize hQ : 2 ^ (d - L) = Q at *
          generalize hPd : 2 ^ d = Pd at *
          have HQ := Lib.hid hQ
          have HP1 := Lib.hid hP1
          clear hbase hz hls ih hm hF hF2 hT hAT hND hk hdL hMb hd1 hP1 hPd hQ hkz
          go_enter Try.func43, Try.ntmps43
          go_wp2_with fail
          refine (H1.out _ _ HM.out (by omega)).mono ?_
          rintro _ w1 ⟨u0, rfl, hu0, hm1, hg1⟩
          rw [HP1.out] at hm1
          have HU0 : Hid (ChoiceAt base a (manyM l a) w1 u0 (loopD n L (manyM l a) d kN 0)) := by show ChoiceAt _ _ _ _ _ _; rw [HL0.out]; exact hu0
          have c1' := hm1.cr
          clear c1 c2 c3 c4 hlk hu0
          go_wp2_with fail
          go_loopw [12, 13] (fun bv tv wr => ∃ (i : Nat) (TO : Int) (ub : Value), i ≤ d - L ∧ ub = bv ∧ tv = .int .i64 TO ∧ Hid (TO = AT + ls + 1000 * (i : Int)) ∧ Hid (ChoiceAt base a (manyM l a) wr ub (loopD n L (manyM l a) d kN i)) ∧ Hid (FM base0 base xr xw xk xf xl bm (cnt + P1 + (Q - 2 ^ (d - L - i))) n L a z ls (manyM l a) v F l wr) ∧ w.grownBy wr (some bm)) (fun _ tv _ => (z + 1000 - intOf tv).toNat)
          case atStart =>
            exact ⟨0, AT + ls, _, by omega, rfl, rfl, (show AT + ls = AT + ls + 1000 * ((0 : Nat) : Int) by omega), HU0, by
              show FM _ _ _ _ _ _ _ _ _ _ _ _ _ _ _ _ _ _ _
              rw [Nat.sub_zero, HQ.out, Nat.sub_self, Nat.add_zero]
              exact hm1, hg1⟩
          case round =>
            obtain ⟨i, TO, ub, hi, rfl, rfl, HTO, HB, HMR, hgr⟩ := hrel
            have c2' := HMR.out.cw
            obtain ⟨dl1, dl2⟩ := hdL0.out
            have hszr := hgr.size
            by_cases hlt : i < d - L
            · have htz : TO ≤ z := by have := (HAZ.out i).2 hlt; have := HTO.out; omega
              have hto0 : 0 ≤ TO := by have := HTO.out; omega
              have hpi : 2 ^ (d - L - i) = 2 * 2 ^ (d - L - i - 1) := by
                have := pow_step (d - L - i - 1)
                rwa [show d - L - i - 1 + 1 = d - L - i by omega] at this
              have hpq2 : 2 ^ (d - L - i) ≤ Q := by rw [← HQ.out]; exact Nat.pow_le_pow_right (by decide) (by omega)
              have hp1 : 1 ≤ 2 ^ (d - L - i - 1) := Nat.one_le_two_pow
              have hHC := HI.out i (TO + 1000) (ND - (TO - AT)) hlt (by have := HTO.out; omega) (by have := HTO.out; omega)
              have hgap : TO - AT = ls + 1000 * (i : Int) := by have := HTO.out; omega
              have HGAP := Lib.hid hgap
              have HK := HMY.out i hlt
              rw [show AT + ls + 1000 * (i : Int) = TO by have := HTO.out; omega] at HK
              generalize hQi : 2 ^ (d - L - i) = Qi at *
              generalize hQj : 2 ^ (d - L - i - 1) = Qj at *
              have HPE1 : Hid (2 ^ (d - L - (i + 1)) = Qj) := by
                show _ = _
                rw [← hQj, show d - L - (i + 1) = d - L - i - 1 by omega]
              have HPE2 : Hid (2 ^ (d - (L + i) - 1) = Qj) := by
                show _ = _
                rw [← hQj, show d - (L + i) - 1 = d - L - i - 1 by omega]
              have HC := Lib.hid hHC
              have e3 : IntKind.i64.wrap (TO + 1000) = TO + 1000 := by rw [IntKind.wrap_i64]; omega
              have e4 : IntKind.i64.wrap (TO - AT) = TO - AT := by rw [IntKind.wrap_i64]; omega
              have e5 : IntKind.i64.wrap (ND - (TO - AT)) = ND - (TO - AT) := by rw [IntKind.wrap_i64]; omega
              have hga := World.grownBy_alloc wr (.cells #[.int .i64 AT, .int .i64 TO] 27) none
              have hmA := HMR.out.quiet hga
              have hB14 := Blk.new wr 27 #[.int .i64 AT, .int .i64 TO]
              have hBA := HB.out.quiet hga
              have hHK : Hid (manyM l a (T + (L + i)) - manyM l a T = manyI l AT TO) := HK
              have hgrA := gr_trans hgr (gr_weak hga (some bm))
              clear hHC HK hQi hQj hga hgap
              go_upto_region 13 with fail
              have hgW : bm ≠ wr.heap.size := by omega
              generalize wr.alloc (.cells #[.int .i64 AT, .int .i64 TO] 27) = wA at *
              generalize wr.heap.size = gW at *
              have c4 := hmA.cf
              rw [← HF.out] at c4
              go_wp2_with fail
              refine (HC.out _ _ hmA (by omega)).mono ?_
              rintro _ w2 ⟨nx, rfl, hcx, hm2, hg2⟩
              have hB2 := hB14.grown hg2 (by simpa using fun e => hgW e.symm)
              have HB2 : Hid (ChoiceAt base a (manyM l a) w2 ub (loopD n L (manyM l a) d kN i)) := hBA.over (by have := HBASE.out; omega) hg2
              have hgr2 := gr_trans hgrA hg2
              rw [HPE2.out] at hm2
              have hm2' := hm2.more (cnt' := cnt + P1 + (Q - Qj)) (by omega)
              clear hmA hBA hB14 hgrA hg2 hm2 c4 HMR HB c2' HC
              cases hro : refD n L (manyM l a) (d - (L + i) - 1) (kN - (L + i)) with
              | none =>
                rw [hro] at hcx
                obtain rfl : nx = .pointer none := hcx
                have HL : Hid (loopD n L (manyM l a) d kN (i + 1) = loopD n L (manyM l a) d kN i) := by
                  show _ = _
                  rw [HL1.out i, hro]
                  cases loopD n L (manyM l a) d kN i <;> rfl
                clear hro
                (try clear hcx)
                go_wp2_with fail
                go_roundw
                case rel => exact ⟨i + 1, TO + 1000, ub, by omega, rfl, rfl, (show TO + 1000 = _ by have := HTO.out; omega), (show ChoiceAt _ _ _ _ _ _ by rw [HL.out]; exact HB2.out), (show FM _ _ _ _ _ _ _ _ _ _ _ _ _ _ _ _ _ _ _ by rw [HPE1.out]; exact hm2'), hgr2⟩
                case measure => simp [intOf]; omega
              | some r =>
                rw [hro] at hcx
                obtain ⟨g, s, rfl, hgb, hBX, hW, hnil⟩ := hcx
                obtain ⟨rb0, rb1, rb2, rb3⟩ := HBD.out _ _ _ (by omega) hro
                have HL : Hid (loopD n L (manyM l a) d kN (i + 1) = pickR (manyM l a) (loopD n L (manyM l a) d kN i) (some ((T, T + (L + i)) :: r))) := by
                  show _ = _
                  rw [HL1.out i, hro]
                  rfl
                obtain ⟨KN, hKN⟩ : ∃ K, manyI l AT TO = K := ⟨_, rfl⟩
                have hKb := manyI_bd l AT TO
                have HMI : Hid (∀ W, IntsFrom base0 W v l → Calls Try.prog 44 #[v, .agg #[.int .i64 AT, .int .i64 TO]] W fun r w' => r = .returned (.int .i64 KN) ∧ W.grownBy w' none) := fun W h => by
                  have := manyIn_any base0 v l AT TO W h (by omega)
                  rw [hKN] at this
                  exact this
                have HLN := Lib.hid hm2'.il
                obtain ⟨CC, hCC⟩ : ∃ x, costW (manyM l a) r = x := ⟨_, rfl⟩
                obtain ⟨LG, hLG⟩ : ∃ x, (1000 : Int) * (longW r : Int) = x := ⟨_, rfl⟩
                have HCX : Hid (costW (manyM l a) ((T, T + (L + i)) :: r) = CC + KN) := by
                  show (manyM l a (T + (L + i)) - manyM l a T) + costW (manyM l a) r = _
                  rw [hHK.out, hKN, hCC]
                  omega
                have HLX : Hid (1000 * (longW ((T, T + (L + i)) :: r) : Int) = LG + (TO - AT)) := by
                  show 1000 * (((T + (L + i) - T) + longW r : Nat) : Int) = _
                  have := HGAP.out
                  have := HLS.out
                  omega
                have HWX : Hid (scaleW a ((T, T + (L + i)) :: r) = (AT, TO) :: scaleW a r) := by
                  show (a + ((T : Nat) : Int) * 1000, a + ((T + (L + i) : Nat) : Int) * 1000) :: scaleW a r = _
                  have h6 := HATN.out
                  have h7 := HGAP.out
                  have h8 := HLS.out
                  rw [show a + ((T : Nat) : Int) * 1000 = AT by omega, show a + ((T + (L + i) : Nat) : Int) * 1000 = TO by omega]
                rw [hCC, hLG] at hBX
                rw [hCC] at rb0 rb1
                have hLGb : 0 ≤ LG ∧ LG ≤ 24000 := by omega
                have e6 : IntKind.i64.wrap (CC + KN) = CC + KN := by rw [IntKind.wrap_i64]; omega
                have e7 : IntKind.i64.wrap (LG + TO) = LG + TO := by rw [IntKind.wrap_i64]; omega
                have e8 : IntKind.i64.wrap (LG + TO - AT) = LG + (TO - AT) := by rw [IntKind.wrap_i64]; omega
                have HX := Lib.hid hBX
                have HW14 := Lib.hid hB2
                have HWR := Lib.hid hW
                have cl0 := hm2'.cl
                obtain ⟨p0, p1⟩ := hB2.cells2
                have q0 := hBX.cell 0
                have q1 := hBX.cell 1
                have q2 := hBX.cell 2
                simp only [List.getElem?_toArray, List.getElem?_cons_zero, List.getElem?_cons_succ] at q0 q1 q2
                have hg2b : bm < w2.heap.size := by have := hgr2.size; omega
                clear hro hKN hCC hLG hBX hB2 hW hKb
                have HSI : s = .slice none 0 0 ∧ r = [] ∨ ∃ gs cs, s = .slice (some ⟨gs, 0, none⟩) r.length cs ∧ 0 < r.length := by
                  rcases r with _ | ⟨p, r⟩
                  · exact .inl ⟨hnil rfl, rfl⟩
                  · obtain ⟨A, c, hs, _, hA⟩ := HWR.out.shape
                    have hl : (scaleW a (p :: r)).length = (p :: r).length := by simp [scaleW]
                    obtain ⟨gs, rfl, _⟩ := hA (by rw [hl]; simp)
                    exact .inr ⟨gs, c, by rw [hs, hl], by simp⟩
                have HSI2 := Lib.hid HSI
                clear HSI
                obtain ⟨j0, hj, hy0, hy1, hy2⟩ := info_parts winInfo
                go_wp2_with fail
                go_cut [16] (fun s16 wq => ∃ gx sx, s16 = .pointer (some ⟨gx, 0, none⟩) ∧ base ≤ gx ∧ Blk wq gx 86 #[.int .i64 (CC + KN), .int .i64 (LG + (TO - AT)), sx] ∧ Hid (WinsFrom base wq sx ((AT, TO) :: scaleW a r)) ∧ w2.grownBy wq none)
                case first =>
                  --A(
                  rcases HSI2.out with ⟨rfl, rfl⟩ | ⟨gs, cs, rfl, hRp⟩
                  · have KX : Hid (∀ W' : World, w2.grownBy W' none → W'.cell? ⟨g, 0, none⟩ = some (.int .i64 CC) ∧ W'.cell? ⟨g, 1, none⟩ = some (.int .i64 LG) ∧ W'.cell? ⟨g, 2, none⟩ = some (.slice none 0 0) ∧ W'.cell? ⟨gW, 0, none⟩ = some (.int .i64 AT) ∧ W'.cell? ⟨gW, 1, none⟩ = some (.int .i64 TO) ∧ W'.cell? ⟨xl, 0, none⟩ = some v ∧ w2.grownBy W' none) := fun W' hW =>
                      ⟨(HX.out.grown hW (by simp)).cell 0, (HX.out.grown hW (by simp)).cell 1, (HX.out.grown hW (by simp)).cell 2, (HW14.out.grown hW (by simp)).cell 0, (HW14.out.grown hW (by simp)).cell 1, cell_stay cl0 hW (by simp), hW⟩
                    refine wp_region_held_drew (S := (fun W' => W'.cell? ⟨g, 0, none⟩ = some (.int .i64 CC) ∧ W'.cell? ⟨g, 1, none⟩ = some (.int .i64 LG) ∧ W'.cell? ⟨g, 2, none⟩ = some (.slice none 0 0) ∧ W'.cell? ⟨gW, 0, none⟩ = some (.int .i64 AT) ∧ W'.cell? ⟨gW, 1, none⟩ = some (.int .i64 TO) ∧ W'.cell? ⟨xl, 0, none⟩ = some v ∧ w2.grownBy W' none)) (by kernel_rfl) (KX.out _ (by repeat (first | exact gr_refl _ _ | assumption | refine gr_drew ?_ | refine gr_alloc ?_ _))) (fun hHeld => ?_)
                    refine wpAnyH_take (i := 0) (v := ?_) rfl (by kernel_rfl) (by kernel_rfl) (by kernel_rfl) (fun _ _ _ h => h) (Or.inl ⟨by kernel_rfl, ?_⟩) hHeld ?_
                    rotate_left
                    · intro w hSw
                      (try dsimp only at hSw)
                      obtain ⟨hS0, hS1, hS2, hS3, hS4, hS5, hS6⟩ := hSw
                      go_simp
                      (try with_reducible rfl)
                    change wpAnyH _ _ _ _ _ _ _ (Act.put _ (some 67) _) _
                    simp only [Act.put, List.setIfInBounds_toArray, List.set_cons_zero, List.set_cons_succ]
                    refine wpAnyH_take (i := 1) (v := ?_) rfl (by kernel_rfl) (by kernel_rfl) (by kernel_rfl) (fun _ _ _ h => h) (Or.inl ⟨by kernel_rfl, ?_⟩) hHeld ?_
                    rotate_left
                    · intro w hSw
                      (try dsimp only at hSw)
                      obtain ⟨hS0, hS1, hS2, hS3, hS4, hS5, hS6⟩ := hSw
                      go_simp
                      (try with_reducible rfl)
                    change wpAnyH _ _ _ _ _ _ _ (Act.put _ (some 68) _) _
                    simp only [Act.put, List.setIfInBounds_toArray, List.set_cons_zero, List.set_cons_succ]
                    refine wpAnyH_take (i := 2) (v := ?_) rfl (by kernel_rfl) (by kernel_rfl) (by kernel_rfl) (fun _ _ _ h => h) (Or.inl ⟨by kernel_rfl, ?_⟩) hHeld ?_
                    rotate_left
                    · intro w hSw
                      (try dsimp only at hSw)
                      obtain ⟨hS0, hS1, hS2, hS3, hS4, hS5, hS6⟩ := hSw
                      go_simp
                      (try with_reducible rfl)
                    change wpAnyH _ _ _ _ _ _ _ (Act.put _ (some 69) _) _
                    simp only [Act.put, List.setIfInBounds_toArray, List.set_cons_zero, List.set_cons_succ]
                    refine wpAnyH_take (i := 3) (v := ?_) rfl (by kernel_rfl) (by kernel_rfl) (by kernel_rfl) (fun _ _ _ h => h) (Or.inl ⟨by kernel_rfl, ?_⟩) hHeld ?_
                    rotate_left
                    · intro w hSw
                      (try dsimp only at hSw)
                      obtain ⟨hS0, hS1, hS2, hS3, hS4, hS5, hS6⟩ := hSw
                      go_simp
                      (try with_reducible rfl)
                    change wpAnyH _ _ _ _ _ _ _ (Act.put _ (some 70) _) _
                    simp only [Act.put, List.setIfInBounds_toArray, List.set_cons_zero, List.set_cons_succ]
                    refine wpAnyH_take (i := 4) (v := ?_) rfl (by kernel_rfl) (by kernel_rfl) (by kernel_rfl) (fun _ _ _ h => h) (Or.inl ⟨by kernel_rfl, ?_⟩) hHeld ?_
                    rotate_left
                    · intro w hSw
                      (try dsimp only at hSw)
                      obtain ⟨hS0, hS1, hS2, hS3, hS4, hS5, hS6⟩ := hSw
                      go_simp
                      (try with_reducible rfl)
                    change wpAnyH _ _ _ _ _ _ _ (Act.put _ (some 71) _) _
                    simp only [Act.put, List.setIfInBounds_toArray, List.set_cons_zero, List.set_cons_succ]
                    refine wpAnyH_take (i := 5) (v := ?_) rfl (by kernel_rfl) (by kernel_rfl) (by kernel_rfl) (fun _ _ _ h => h) (Or.inl ⟨by kernel_rfl, ?_⟩) hHeld ?_
                    rotate_left
                    · intro w hSw
                      (try dsimp only at hSw)
                      obtain ⟨hS0, hS1, hS2, hS3, hS4, hS5, hS6⟩ := hSw
                      go_simp
                      (try with_reducible rfl)
                    change wpAnyH _ _ _ _ _ _ _ (Act.put _ (some 72) _) _
                    simp only [Act.put, List.setIfInBounds_toArray, List.set_cons_zero, List.set_cons_succ]
                    refine wpAnyH_take (i := 8) (v := ?_) rfl (by kernel_rfl) (by kernel_rfl) (by kernel_rfl) (fun _ _ _ h => h) (Or.inl ⟨by kernel_rfl, ?_⟩) hHeld ?_
                    rotate_left
                    · intro w hSw
                      (try dsimp only at hSw)
                      obtain ⟨hS0, hS1, hS2, hS3, hS4, hS5, hS6⟩ := hSw
                      go_simp
                      (try with_reducible rfl)
                    change wpAnyH _ _ _ _ _ _ _ (Act.put _ (some 75) _) _
                    simp only [Act.put, List.setIfInBounds_toArray, List.set_cons_zero, List.set_cons_succ]
                    refine wpAnyH_take (i := 9) (v := ?_) rfl (by kernel_rfl) (by kernel_rfl) (by kernel_rfl) (fun _ _ _ h => h) (Or.inl ⟨by kernel_rfl, ?_⟩) hHeld ?_
                    rotate_left
                    · intro w hSw
                      (try dsimp only at hSw)
                      obtain ⟨hS0, hS1, hS2, hS3, hS4, hS5, hS6⟩ := hSw
                      go_simp
                      (try with_reducible rfl)
                    change wpAnyH _ _ _ _ _ _ _ (Act.put _ (some 76) _) _
                    simp only [Act.put, List.setIfInBounds_toArray, List.set_cons_zero, List.set_cons_succ]
                    refine wpAnyH_take (i := 10) (v := ?_) rfl (by kernel_rfl) (by kernel_rfl) (by kernel_rfl) (fun _ _ _ h => h) (Or.inl ⟨by kernel_rfl, ?_⟩) hHeld ?_
                    rotate_left
                    · intro w hSw
                      (try dsimp only at hSw)
                      obtain ⟨hS0, hS1, hS2, hS3, hS4, hS5, hS6⟩ := hSw
                      go_simp
                      (try with_reducible rfl)
                    change wpAnyH _ _ _ _ _ _ _ (Act.put _ (some 77) _) _
                    simp only [Act.put, List.setIfInBounds_toArray, List.set_cons_zero, List.set_cons_succ]
                    refine wpAnyH_take (i := 11) (v := ?_) rfl (by kernel_rfl) (by kernel_rfl) (by kernel_rfl) (fun _ _ _ h => h) (Or.inl ⟨by kernel_rfl, ?_⟩) hHeld ?_
                    rotate_left
                    · intro w hSw
                      (try dsimp only at hSw)
                      obtain ⟨hS0, hS1, hS2, hS3, hS4, hS5, hS6⟩ := hSw
                      go_simp
                      (try with_reducible rfl)
                    change wpAnyH _ _ _ _ _ _ _ (Act.put _ (some 78) _) _
                    simp only [Act.put, List.setIfInBounds_toArray, List.set_cons_zero, List.set_cons_succ]
                    refine wpAnyH_take (i := 12) (v := ?_) rfl (by kernel_rfl) (by kernel_rfl) (by kernel_rfl) (fun _ _ _ h => h) (Or.inl ⟨by kernel_rfl, ?_⟩) hHeld ?_
                    rotate_left
                    · intro w hSw
                      (try dsimp only at hSw)
                      obtain ⟨hS0, hS1, hS2, hS3, hS4, hS5, hS6⟩ := hSw
                      go_simp
                      (try with_reducible rfl)
                    change wpAnyH _ _ _ _ _ _ _ (Act.put _ (some 79) _) _
                    simp only [Act.put, List.setIfInBounds_toArray, List.set_cons_zero, List.set_cons_succ]
                    refine wpAnyH_take (i := 13) (v := ?_) rfl (by kernel_rfl) (by kernel_rfl) (by kernel_rfl) (fun _ _ _ h => h) (Or.inl ⟨by kernel_rfl, ?_⟩) hHeld ?_
                    rotate_left
                    · intro w hSw
                      (try dsimp only at hSw)
                      obtain ⟨hS0, hS1, hS2, hS3, hS4, hS5, hS6⟩ := hSw
                      go_simp
                      (try with_reducible rfl)
                    change wpAnyH _ _ _ _ _ _ _ (Act.put _ (some 80) _) _
                    simp only [Act.put, List.setIfInBounds_toArray, List.set_cons_zero, List.set_cons_succ]
                    refine wpAnyH_take (i := 14) (v := ?_) rfl (by kernel_rfl) (by kernel_rfl) (by kernel_rfl) (fun _ _ _ h => h) (Or.inl ⟨by kernel_rfl, ?_⟩) hHeld ?_
                    rotate_left
                    · intro w hSw
                      (try dsimp only at hSw)
                      obtain ⟨hS0, hS1, hS2, hS3, hS4, hS5, hS6⟩ := hSw
                      go_simp
                      (try with_reducible rfl)
                    change wpAnyH _ _ _ _ _ _ _ (Act.put _ (some 81) _) _
                    simp only [Act.put, List.setIfInBounds_toArray, List.set_cons_zero, List.set_cons_succ]
                    refine wpAnyH_take (i := 15) (v := ?_) rfl (by kernel_rfl) (by kernel_rfl) (by kernel_rfl) (fun _ _ _ h => h) (Or.inl ⟨by kernel_rfl, ?_⟩) hHeld ?_
                    rotate_left
                    · intro w hSw
                      (try dsimp only at hSw)
                      obtain ⟨hS0, hS1, hS2, hS3, hS4, hS5, hS6⟩ := hSw
                      go_simp
                      (try with_reducible rfl)
                    change wpAnyH _ _ _ _ _ _ _ (Act.put _ (some 82) _) _
                    simp only [Act.put, List.setIfInBounds_toArray, List.set_cons_zero, List.set_cons_succ]
                    refine wpAnyH_take (i := 16) (v := ?_) rfl (by kernel_rfl) (by kernel_rfl) (by kernel_rfl) (fun _ _ _ h => h) (Or.inl ⟨by kernel_rfl, ?_⟩) hHeld ?_
                    rotate_left
                    · intro w hSw
                      (try dsimp only at hSw)
                      obtain ⟨hS0, hS1, hS2, hS3, hS4, hS5, hS6⟩ := hSw
                      go_simp
                      (try with_reducible rfl)
                    change wpAnyH _ _ _ _ _ _ _ (Act.put _ (some 83) _) _
                    simp only [Act.put, List.setIfInBounds_toArray, List.set_cons_zero, List.set_cons_succ]
                    refine wpAnyH_take (i := 18) (v := ?_) rfl (by kernel_rfl) (by kernel_rfl) (by kernel_rfl) (fun _ _ _ h => h) (Or.inl ⟨by kernel_rfl, ?_⟩) hHeld ?_
                    rotate_left
                    · intro w hSw
                      (try dsimp only at hSw)
                      obtain ⟨hS0, hS1, hS2, hS3, hS4, hS5, hS6⟩ := hSw
                      go_simp
                      (try with_reducible rfl)
                    change wpAnyH _ _ _ _ _ _ _ (Act.put _ (some 85) _) _
                    simp only [Act.put, List.setIfInBounds_toArray, List.set_cons_zero, List.set_cons_succ]
                    refine wpAnyH_take (i := 19) (v := ?_) rfl (by kernel_rfl) (by kernel_rfl) (by kernel_rfl) (fun _ _ _ h => h) (Or.inl ⟨by kernel_rfl, ?_⟩) hHeld ?_
                    rotate_left
                    · intro w hSw
                      (try dsimp only at hSw)
                      obtain ⟨hS0, hS1, hS2, hS3, hS4, hS5, hS6⟩ := hSw
                      go_simp
                      (try with_reducible rfl)
                    change wpAnyH _ _ _ _ _ _ _ (Act.put _ (some 86) _) _
                    simp only [Act.put, List.setIfInBounds_toArray, List.set_cons_zero, List.set_cons_succ]
                    refine wpAnyH_take (i := 20) (v := ?_) rfl (by kernel_rfl) (by kernel_rfl) (by kernel_rfl) (fun _ _ _ h => h) (Or.inl ⟨by kernel_rfl, ?_⟩) hHeld ?_
                    rotate_left
                    · intro w hSw
                      (try dsimp only at hSw)
                      obtain ⟨hS0, hS1, hS2, hS3, hS4, hS5, hS6⟩ := hSw
                      go_simp
                      (try with_reducible rfl)
                    change wpAnyH _ _ _ _ _ _ _ (Act.put _ (some 87) _) _
                    simp only [Act.put, List.setIfInBounds_toArray, List.set_cons_zero, List.set_cons_succ]
                    refine wpAnyH_take (i := 21) (v := ?_) rfl (by kernel_rfl) (by kernel_rfl) (by kernel_rfl) (fun _ _ _ h => h) (Or.inl ⟨by kernel_rfl, ?_⟩) hHeld ?_
                    rotate_left
                    · intro w hSw
                      (try dsimp only at hSw)
                      obtain ⟨hS0, hS1, hS2, hS3, hS4, hS5, hS6⟩ := hSw
                      go_simp
                      (try with_reducible rfl)
                    change wpAnyH _ _ _ _ _ _ _ (Act.put _ (some 88) _) _
                    simp only [Act.put, List.setIfInBounds_toArray, List.set_cons_zero, List.set_cons_succ]
                    refine wpAnyH_ready (rs := [6, 17, 24]) (by kernel_rfl) (by simp) ?_
                    refine AllReadyH.cons (o := _) rfl (fun K hK => ?_) (AllReadyH.cons (o := _) rfl (fun K hK => ?_) (AllReadyH.cons (o := _) rfl (fun K hK => ?_) AllReadyH.nil))
                    · go_simp
                      (go_at_call 44; refine (HMI.out _ (HLN.out.grown (by repeat (first | exact gr_refl _ _ | assumption | refine gr_drew ?_ | refine gr_alloc ?_ _)))).mono ?_; rintro _ wM ⟨rfl, hgM⟩)
                      have hgM2 := gr_trans (show w2.grownBy _ none from (by repeat (first | exact gr_refl _ _ | assumption | refine gr_drew ?_ | refine gr_alloc ?_ _))) hgM
                      refine hK.out _ _ (KX.out _ (by repeat (first | exact gr_refl _ _ | assumption | refine gr_drew ?_ | refine gr_alloc ?_ _))) (fun hHeld6 => ?_)
                      clear hK K
                      (try simp only [Act.put, List.setIfInBounds_toArray, List.set_cons_zero, List.set_cons_succ])
                      refine wpAnyH_take (i := 7) (v := ?_) rfl (by kernel_rfl) (by kernel_rfl) (by kernel_rfl) (fun _ _ _ h => h) (Or.inl ⟨by kernel_rfl, ?_⟩) hHeld6 ?_
                      rotate_left
                      · intro w hSw
                        (try dsimp only at hSw)
                        obtain ⟨hS0, hS1, hS2, hS3, hS4, hS5, hS6⟩ := hSw
                        go_simp
                        (try with_reducible rfl)
                      change wpAnyH _ _ _ _ _ _ _ (Act.put _ (some 74) _) _
                      simp only [Act.put, List.setIfInBounds_toArray, List.set_cons_zero, List.set_cons_succ]
                      refine wpAnyH_ready (rs := [17, 24]) (by kernel_rfl) (by simp) ?_
                      refine AllReadyH.cons (o := _) rfl (fun K hK => ?_) (AllReadyH.cons (o := _) rfl (fun K hK => ?_) AllReadyH.nil)
                      · go_simp
                        have hB4 := Blk.new wM 27 #[.int .i64 AT, .int .i64 TO]
                        have hshB4 := World.grownBy.size (show w2.grownBy wM none from (by repeat (first | exact gr_refl _ _ | assumption | refine gr_drew ?_ | refine gr_alloc ?_ _)))
                        have hgW17 : w2.grownBy (wM.alloc (.cells #[.int .i64 AT, .int .i64 TO] 27)) none := (by repeat (first | exact gr_refl _ _ | assumption | refine gr_drew ?_ | refine gr_alloc ?_ _))
                        generalize wM.alloc (.cells #[.int .i64 AT, .int .i64 TO] 27) = W17 at *
                        refine hK.out _ _ (KX.out _ (by repeat (first | exact gr_refl _ _ | assumption | refine gr_drew ?_ | refine gr_alloc ?_ _))) (fun hHeld17 => ?_)
                        clear hK K
                        (try simp only [Act.put, List.setIfInBounds_toArray, List.set_cons_zero, List.set_cons_succ])
                        refine wpAnyH_ready (rs := [22, 24]) (by kernel_rfl) (by simp) ?_
                        refine AllReadyH.cons (o := _) rfl (fun K hK => ?_) (AllReadyH.cons (o := _) rfl (fun K hK => ?_) AllReadyH.nil)
                        · refine step_append_nil (by rfl) (.tmp 84) (.tmp 88) 40 (by rfl) w2.heap.size 27 j0 2 Try.underlying40 hj _ 1 _ (by simp [Act.eval]) (win_own hB4 hshB4) (by simp [Act.eval]) ?_
                          refine hK.out _ _ (KX.out _ (by repeat (first | exact gr_refl _ _ | assumption | refine gr_drew ?_ | refine gr_alloc ?_ _))) (fun hHeld22 => ?_)
                          clear hK K
                          (try simp only [Act.put, List.setIfInBounds_toArray, List.set_cons_zero, List.set_cons_succ])
                          refine wpAnyH_take (i := 23) (v := ?_) rfl (by kernel_rfl) (by kernel_rfl) (by kernel_rfl) (fun _ _ _ h => h) (Or.inl ⟨by kernel_rfl, ?_⟩) hHeld22 ?_
                          rotate_left
                          · intro w hSw
                            (try dsimp only at hSw)
                            obtain ⟨hS0, hS1, hS2, hS3, hS4, hS5, hS6⟩ := hSw
                            go_simp
                            (try with_reducible rfl)
                          change wpAnyH _ _ _ _ _ _ _ (Act.put _ (some 90) _) _
                          simp only [Act.put, List.setIfInBounds_toArray, List.set_cons_zero, List.set_cons_succ]
                          refine wpAnyH_ready (rs := [24]) (by kernel_rfl) (by simp) ?_
                          refine AllReadyH.cons (o := _) rfl (fun K hK => ?_) AllReadyH.nil
                          · go_simp
                            have hBx := Blk.new W17 86 #[.int .i64 0, .int .i64 0, .slice none 0 0]
                            have hshBx := World.grownBy.size (show w2.grownBy W17 none from (by repeat (first | exact gr_refl _ _ | assumption | refine gr_drew ?_ | refine gr_alloc ?_ _)))
                            have hne := Nat.ne_of_lt hB4.lt
                            replace hB4 := hB4.alloc (.cells #[.int .i64 0, .int .i64 0, .slice none 0 0] 86)
                            have hgW24 : w2.grownBy (W17.alloc (.cells #[.int .i64 0, .int .i64 0, .slice none 0 0] 86)) none := (by repeat (first | exact gr_refl _ _ | assumption | refine gr_drew ?_ | refine gr_alloc ?_ _))
                            generalize W17.alloc (.cells #[.int .i64 0, .int .i64 0, .slice none 0 0] 86) = W24 at *
                            refine hK.out _ _ (KX.out _ (by repeat (first | exact gr_refl _ _ | assumption | refine gr_drew ?_ | refine gr_alloc ?_ _))) (fun hHeld24 => ?_)
                            clear hK K
                            (try simp only [Act.put, List.setIfInBounds_toArray, List.set_cons_zero, List.set_cons_succ])
                            refine wpAnyH_ready (rs := [25]) (by kernel_rfl) (by simp) ?_
                            refine AllReadyH.cons (o := _) rfl (fun K hK => ?_) AllReadyH.nil
                            · have hfr := fin_row (v0 := CC + KN) (v1 := LG + (TO - AT)) (l := [(AT, TO)]) (base := base) (win_own hB4 hshB4) rfl (by have := HBASE.out; omega) (by first | exact hne | exact fun e => hne e.symm) hBx
                              have hgF : w2.grownBy _ none := gr_grown (show w2.grownBy W24 none from (by repeat (first | exact gr_refl _ _ | assumption | refine gr_drew ?_ | refine gr_alloc ?_ _))) hfr.2.2 (fun kk h => .inr (by injection h with h; omega))
                              have x0 := hBx.cell 0
                              have x1 := hBx.cell 1
                              have x2 := hBx.cell 2
                              have xf := hBx.free
                              have xl := hBx.lt
                              go_simp
                              refine hK.out _ _ (KX.out _ hgF) (fun hHeld25 => ?_)
                              clear hK K
                              (try simp only [Act.put, List.setIfInBounds_toArray, List.set_cons_zero, List.set_cons_succ])
                              refine wpAnyH_done (by kernel_rfl) ?_ _
                              go_wp2_with fail
                              go_meet
                              exact ⟨_, _, rfl, by have := HBASE.out; omega, hfr.1, hfr.2.1, hgF⟩
                        · go_simp
                          have hBx := Blk.new W17 86 #[.int .i64 0, .int .i64 0, .slice none 0 0]
                          have hshBx := World.grownBy.size (show w2.grownBy W17 none from (by repeat (first | exact gr_refl _ _ | assumption | refine gr_drew ?_ | refine gr_alloc ?_ _)))
                          have hne := Nat.ne_of_lt hB4.lt
                          replace hB4 := hB4.alloc (.cells #[.int .i64 0, .int .i64 0, .slice none 0 0] 86)
                          have hgW24 : w2.grownBy (W17.alloc (.cells #[.int .i64 0, .int .i64 0, .slice none 0 0] 86)) none := (by repeat (first | exact gr_refl _ _ | assumption | refine gr_drew ?_ | refine gr_alloc ?_ _))
                          generalize W17.alloc (.cells #[.int .i64 0, .int .i64 0, .slice none 0 0] 86) = W24 at *
                          refine hK.out _ _ (KX.out _ (by repeat (first | exact gr_refl _ _ | assumption | refine gr_drew ?_ | refine gr_alloc ?_ _))) (fun hHeld24 => ?_)
                          clear hK K
                          (try simp only [Act.put, List.setIfInBounds_toArray, List.set_cons_zero, List.set_cons_succ])
                          refine wpAnyH_ready (rs := [22]) (by kernel_rfl) (by simp) ?_
                          refine AllReadyH.cons (o := _) rfl (fun K hK => ?_) AllReadyH.nil
                          · refine step_append_nil (by rfl) (.tmp 84) (.tmp 88) 40 (by rfl) w2.heap.size 27 j0 2 Try.underlying40 hj _ 1 _ (by simp [Act.eval]) (win_own hB4 hshB4) (by simp [Act.eval]) ?_
                            refine hK.out _ _ (KX.out _ (by repeat (first | exact gr_refl _ _ | assumption | refine gr_drew ?_ | refine gr_alloc ?_ _))) (fun hHeld22 => ?_)
                            clear hK K
                            (try simp only [Act.put, List.setIfInBounds_toArray, List.set_cons_zero, List.set_cons_succ])
                            refine wpAnyH_take (i := 23) (v := ?_) rfl (by kernel_rfl) (by kernel_rfl) (by kernel_rfl) (fun _ _ _ h => h) (Or.inl ⟨by kernel_rfl, ?_⟩) hHeld22 ?_
                            rotate_left
                            · intro w hSw
                              (try dsimp only at hSw)
                              obtain ⟨hS0, hS1, hS2, hS3, hS4, hS5, hS6⟩ := hSw
                              go_simp
                              (try with_reducible rfl)
                            change wpAnyH _ _ _ _ _ _ _ (Act.put _ (some 90) _) _
                            simp only [Act.put, List.setIfInBounds_toArray, List.set_cons_zero, List.set_cons_succ]
                            refine wpAnyH_ready (rs := [25]) (by kernel_rfl) (by simp) ?_
                            refine AllReadyH.cons (o := _) rfl (fun K hK => ?_) AllReadyH.nil
                            · have hfr := fin_row (v0 := CC + KN) (v1 := LG + (TO - AT)) (l := [(AT, TO)]) (base := base) (win_own hB4 hshB4) rfl (by have := HBASE.out; omega) (by first | exact hne | exact fun e => hne e.symm) hBx
                              have hgF : w2.grownBy _ none := gr_grown (show w2.grownBy W24 none from (by repeat (first | exact gr_refl _ _ | assumption | refine gr_drew ?_ | refine gr_alloc ?_ _))) hfr.2.2 (fun kk h => .inr (by injection h with h; omega))
                              have x0 := hBx.cell 0
                              have x1 := hBx.cell 1
                              have x2 := hBx.cell 2
                              have xf := hBx.free
                              have xl := hBx.lt
                              go_simp
                              refine hK.out _ _ (KX.out _ hgF) (fun hHeld25 => ?_)
                              clear hK K
                              (try simp only [Act.put, List.setIfInBounds_toArray, List.set_cons_zero, List.set_cons_succ])
                              refine wpAnyH_done (by kernel_rfl) ?_ _
                              go_wp2_with fail
                              go_meet
                              exact ⟨_, _, rfl, by have := HBASE.out; omega, hfr.1, hfr.2.1, hgF⟩
                      · go_simp
                        have hBx := Blk.new wM 86 #[.int .i64 0, .int .i64 0, .slice none 0 0]
                        have hshBx := World.grownBy.size (show w2.grownBy wM none from (by repeat (first | exact gr_refl _ _ | assumption | refine gr_drew ?_ | refine gr_alloc ?_ _)))
                        have hgW24 : w2.grownBy (wM.alloc (.cells #[.int .i64 0, .int .i64 0, .slice none 0 0] 86)) none := (by repeat (first | exact gr_refl _ _ | assumption | refine gr_drew ?_ | refine gr_alloc ?_ _))
                        generalize wM.alloc (.cells #[.int .i64 0, .int .i64 0, .slice none 0 0] 86) = W24 at *
                        refine hK.out _ _ (KX.out _ (by repeat (first | exact gr_refl _ _ | assumption | refine gr_drew ?_ | refine gr_alloc ?_ _))) (fun hHeld24 => ?_)
                        clear hK K
                        (try simp only [Act.put, List.setIfInBounds_toArray, List.set_cons_zero, List.set_cons_succ])
                        refine wpAnyH_ready (rs := [17]) (by kernel_rfl) (by simp) ?_
                        refine AllReadyH.cons (o := _) rfl (fun K hK => ?_) AllReadyH.nil
                        · go_simp
                          have hB4 := Blk.new W24 27 #[.int .i64 AT, .int .i64 TO]
                          have hshB4 := World.grownBy.size (show w2.grownBy W24 none from (by repeat (first | exact gr_refl _ _ | assumption | refine gr_drew ?_ | refine gr_alloc ?_ _)))
                          have hne := Nat.ne_of_lt hBx.lt
                          replace hBx := hBx.alloc (.cells #[.int .i64 AT, .int .i64 TO] 27)
                          have hgW17 : w2.grownBy (W24.alloc (.cells #[.int .i64 AT, .int .i64 TO] 27)) none := (by repeat (first | exact gr_refl _ _ | assumption | refine gr_drew ?_ | refine gr_alloc ?_ _))
                          generalize W24.alloc (.cells #[.int .i64 AT, .int .i64 TO] 27) = W17 at *
                          refine hK.out _ _ (KX.out _ (by repeat (first | exact gr_refl _ _ | assumption | refine gr_drew ?_ | refine gr_alloc ?_ _))) (fun hHeld17 => ?_)
                          clear hK K
                          (try simp only [Act.put, List.setIfInBounds_toArray, List.set_cons_zero, List.set_cons_succ])
                          refine wpAnyH_ready (rs := [22]) (by kernel_rfl) (by simp) ?_
                          refine AllReadyH.cons (o := _) rfl (fun K hK => ?_) AllReadyH.nil
                          · refine step_append_nil (by rfl) (.tmp 84) (.tmp 88) 40 (by rfl) w2.heap.size 27 j0 2 Try.underlying40 hj _ 1 _ (by simp [Act.eval]) (win_own hB4 hshB4) (by simp [Act.eval]) ?_
                            refine hK.out _ _ (KX.out _ (by repeat (first | exact gr_refl _ _ | assumption | refine gr_drew ?_ | refine gr_alloc ?_ _))) (fun hHeld22 => ?_)
                            clear hK K
                            (try simp only [Act.put, List.setIfInBounds_toArray, List.set_cons_zero, List.set_cons_succ])
                            refine wpAnyH_take (i := 23) (v := ?_) rfl (by kernel_rfl) (by kernel_rfl) (by kernel_rfl) (fun _ _ _ h => h) (Or.inl ⟨by kernel_rfl, ?_⟩) hHeld22 ?_
                            rotate_left
                            · intro w hSw
                              (try dsimp only at hSw)
                              obtain ⟨hS0, hS1, hS2, hS3, hS4, hS5, hS6⟩ := hSw
                              go_simp
                              (try with_reducible rfl)
                            change wpAnyH _ _ _ _ _ _ _ (Act.put _ (some 90) _) _
                            simp only [Act.put, List.setIfInBounds_toArray, List.set_cons_zero, List.set_cons_succ]
                            refine wpAnyH_ready (rs := [25]) (by kernel_rfl) (by simp) ?_
                            refine AllReadyH.cons (o := _) rfl (fun K hK => ?_) AllReadyH.nil
                            · have hfr := fin_row (v0 := CC + KN) (v1 := LG + (TO - AT)) (l := [(AT, TO)]) (base := base) (win_own hB4 hshB4) rfl (by have := HBASE.out; omega) (by first | exact hne | exact fun e => hne e.symm) hBx
                              have hgF : w2.grownBy _ none := gr_grown (show w2.grownBy W17 none from (by repeat (first | exact gr_refl _ _ | assumption | refine gr_drew ?_ | refine gr_alloc ?_ _))) hfr.2.2 (fun kk h => .inr (by injection h with h; omega))
                              have x0 := hBx.cell 0
                              have x1 := hBx.cell 1
                              have x2 := hBx.cell 2
                              have xf := hBx.free
                              have xl := hBx.lt
                              go_simp
                              refine hK.out _ _ (KX.out _ hgF) (fun hHeld25 => ?_)
                              clear hK K
                              (try simp only [Act.put, List.setIfInBounds_toArray, List.set_cons_zero, List.set_cons_succ])
                              refine wpAnyH_done (by kernel_rfl) ?_ _
                              go_wp2_with fail
                              go_meet
                              exact ⟨_, _, rfl, by have := HBASE.out; omega, hfr.1, hfr.2.1, hgF⟩
                    · go_simp
                      have hB4 := Blk.new w2 27 #[.int .i64 AT, .int .i64 TO]
                      have hshB4 := World.grownBy.size (show w2.grownBy w2 none from (by repeat (first | exact gr_refl _ _ | assumption | refine gr_drew ?_ | refine gr_alloc ?_ _)))
                      have hgW17 : w2.grownBy (w2.alloc (.cells #[.int .i64 AT, .int .i64 TO] 27)) none := (by repeat (first | exact gr_refl _ _ | assumption | refine gr_drew ?_ | refine gr_alloc ?_ _))
                      generalize w2.alloc (.cells #[.int .i64 AT, .int .i64 TO] 27) = W17 at *
                      refine hK.out _ _ (KX.out _ (by repeat (first | exact gr_refl _ _ | assumption | refine gr_drew ?_ | refine gr_alloc ?_ _))) (fun hHeld17 => ?_)
                      clear hK K
                      (try simp only [Act.put, List.setIfInBounds_toArray, List.set_cons_zero, List.set_cons_succ])
                      refine wpAnyH_ready (rs := [6, 24]) (by kernel_rfl) (by simp) ?_
                      refine AllReadyH.cons (o := _) rfl (fun K hK => ?_) (AllReadyH.cons (o := _) rfl (fun K hK => ?_) AllReadyH.nil)
                      · go_simp
                        (go_at_call 44; refine (HMI.out _ (HLN.out.grown (by repeat (first | exact gr_refl _ _ | assumption | refine gr_drew ?_ | refine gr_alloc ?_ _)))).mono ?_; rintro _ wM ⟨rfl, hgM⟩)
                        have hgM2 := gr_trans (show w2.grownBy _ none from (by repeat (first | exact gr_refl _ _ | assumption | refine gr_drew ?_ | refine gr_alloc ?_ _))) hgM
                        replace hB4 := Blk.grown hB4.drew hgM (by simp)
                        refine hK.out _ _ (KX.out _ (by repeat (first | exact gr_refl _ _ | assumption | refine gr_drew ?_ | refine gr_alloc ?_ _))) (fun hHeld6 => ?_)
                        clear hK K
                        (try simp only [Act.put, List.setIfInBounds_toArray, List.set_cons_zero, List.set_cons_succ])
                        refine wpAnyH_take (i := 7) (v := ?_) rfl (by kernel_rfl) (by kernel_rfl) (by kernel_rfl) (fun _ _ _ h => h) (Or.inl ⟨by kernel_rfl, ?_⟩) hHeld6 ?_
                        rotate_left
                        · intro w hSw
                          (try dsimp only at hSw)
                          obtain ⟨hS0, hS1, hS2, hS3, hS4, hS5, hS6⟩ := hSw
                          go_simp
                          (try with_reducible rfl)
                        change wpAnyH _ _ _ _ _ _ _ (Act.put _ (some 74) _) _
                        simp only [Act.put, List.setIfInBounds_toArray, List.set_cons_zero, List.set_cons_succ]
                        refine wpAnyH_ready (rs := [22, 24]) (by kernel_rfl) (by simp) ?_
                        refine AllReadyH.cons (o := _) rfl (fun K hK => ?_) (AllReadyH.cons (o := _) rfl (fun K hK => ?_) AllReadyH.nil)
                        · refine step_append_nil (by rfl) (.tmp 84) (.tmp 88) 40 (by rfl) w2.heap.size 27 j0 2 Try.underlying40 hj _ 1 _ (by simp [Act.eval]) (win_own hB4 hshB4) (by simp [Act.eval]) ?_
                          refine hK.out _ _ (KX.out _ (by repeat (first | exact gr_refl _ _ | assumption | refine gr_drew ?_ | refine gr_alloc ?_ _))) (fun hHeld22 => ?_)
                          clear hK K
                          (try simp only [Act.put, List.setIfInBounds_toArray, List.set_cons_zero, List.set_cons_succ])
                          refine wpAnyH_take (i := 23) (v := ?_) rfl (by kernel_rfl) (by kernel_rfl) (by kernel_rfl) (fun _ _ _ h => h) (Or.inl ⟨by kernel_rfl, ?_⟩) hHeld22 ?_
                          rotate_left
                          · intro w hSw
                            (try dsimp only at hSw)
                            obtain ⟨hS0, hS1, hS2, hS3, hS4, hS5, hS6⟩ := hSw
                            go_simp
                            (try with_reducible rfl)
                          change wpAnyH _ _ _ _ _ _ _ (Act.put _ (some 90) _) _
                          simp only [Act.put, List.setIfInBounds_toArray, List.set_cons_zero, List.set_cons_succ]
                          refine wpAnyH_ready (rs := [24]) (by kernel_rfl) (by simp) ?_
                          refine AllReadyH.cons (o := _) rfl (fun K hK => ?_) AllReadyH.nil
                          · go_simp
                            have hBx := Blk.new wM 86 #[.int .i64 0, .int .i64 0, .slice none 0 0]
                            have hshBx := World.grownBy.size (show w2.grownBy wM none from (by repeat (first | exact gr_refl _ _ | assumption | refine gr_drew ?_ | refine gr_alloc ?_ _)))
                            have hne := Nat.ne_of_lt hB4.lt
                            replace hB4 := hB4.alloc (.cells #[.int .i64 0, .int .i64 0, .slice none 0 0] 86)
                            have hgW24 : w2.grownBy (wM.alloc (.cells #[.int .i64 0, .int .i64 0, .slice none 0 0] 86)) none := (by repeat (first | exact gr_refl _ _ | assumption | refine gr_drew ?_ | refine gr_alloc ?_ _))
                            generalize wM.alloc (.cells #[.int .i64 0, .int .i64 0, .slice none 0 0] 86) = W24 at *
                            refine hK.out _ _ (KX.out _ (by repeat (first | exact gr_refl _ _ | assumption | refine gr_drew ?_ | refine gr_alloc ?_ _))) (fun hHeld24 => ?_)
                            clear hK K
                            (try simp only [Act.put, List.setIfInBounds_toArray, List.set_cons_zero, List.set_cons_succ])
                            refine wpAnyH_ready (rs := [25]) (by kernel_rfl) (by simp) ?_
                            refine AllReadyH.cons (o := _) rfl (fun K hK => ?_) AllReadyH.nil
                            · have hfr := fin_row (v0 := CC + KN) (v1 := LG + (TO - AT)) (l := [(AT, TO)]) (base := base) (win_own hB4 hshB4) rfl (by have := HBASE.out; omega) (by first | exact hne | exact fun e => hne e.symm) hBx
                              have hgF : w2.grownBy _ none := gr_grown (show w2.grownBy W24 none from (by repeat (first | exact gr_refl _ _ | assumption | refine gr_drew ?_ | refine gr_alloc ?_ _))) hfr.2.2 (fun kk h => .inr (by injection h with h; omega))
                              have x0 := hBx.cell 0
                              have x1 := hBx.cell 1
                              have x2 := hBx.cell 2
                              have xf := hBx.free
                              have xl := hBx.lt
                              go_simp
                              refine hK.out _ _ (KX.out _ hgF) (fun hHeld25 => ?_)
                              clear hK K
                              (try simp only [Act.put, List.setIfInBounds_toArray, List.set_cons_zero, List.set_cons_succ])
                              refine wpAnyH_done (by kernel_rfl) ?_ _
                              go_wp2_with fail
                              go_meet
                              exact ⟨_, _, rfl, by have := HBASE.out; omega, hfr.1, hfr.2.1, hgF⟩
                        · go_simp
                          have hBx := Blk.new wM 86 #[.int .i64 0, .int .i64 0, .slice none 0 0]
                          have hshBx := World.grownBy.size (show w2.grownBy wM none from (by repeat (first | exact gr_refl _ _ | assumption | refine gr_drew ?_ | refine gr_alloc ?_ _)))
                          have hne := Nat.ne_of_lt hB4.lt
                          replace hB4 := hB4.alloc (.cells #[.int .i64 0, .int .i64 0, .slice none 0 0] 86)
                          have hgW24 : w2.grownBy (wM.alloc (.cells #[.int .i64 0, .int .i64 0, .slice none 0 0] 86)) none := (by repeat (first | exact gr_refl _ _ | assumption | refine gr_drew ?_ | refine gr_alloc ?_ _))
                          generalize wM.alloc (.cells #[.int .i64 0, .int .i64 0, .slice none 0 0] 86) = W24 at *
                          refine hK.out _ _ (KX.out _ (by repeat (first | exact gr_refl _ _ | assumption | refine gr_drew ?_ | refine gr_alloc ?_ _))) (fun hHeld24 => ?_)
                          clear hK K
                          (try simp only [Act.put, List.setIfInBounds_toArray, List.set_cons_zero, List.set_cons_succ])
                          refine wpAnyH_ready (rs := [22]) (by kernel_rfl) (by simp) ?_
                          refine AllReadyH.cons (o := _) rfl (fun K hK => ?_) AllReadyH.nil
                          · refine step_append_nil (by rfl) (.tmp 84) (.tmp 88) 40 (by rfl) w2.heap.size 27 j0 2 Try.underlying40 hj _ 1 _ (by simp [Act.eval]) (win_own hB4 hshB4) (by simp [Act.eval]) ?_
                            refine hK.out _ _ (KX.out _ (by repeat (first | exact gr_refl _ _ | assumption | refine gr_drew ?_ | refine gr_alloc ?_ _))) (fun hHeld22 => ?_)
                            clear hK K
                            (try simp only [Act.put, List.setIfInBounds_toArray, List.set_cons_zero, List.set_cons_succ])
                            refine wpAnyH_take (i := 23) (v := ?_) rfl (by kernel_rfl) (by kernel_rfl) (by kernel_rfl) (fun _ _ _ h => h) (Or.inl ⟨by kernel_rfl, ?_⟩) hHeld22 ?_
                            rotate_left
                            · intro w hSw
                              (try dsimp only at hSw)
                              obtain ⟨hS0, hS1, hS2, hS3, hS4, hS5, hS6⟩ := hSw
                              go_simp
                              (try with_reducible rfl)
                            change wpAnyH _ _ _ _ _ _ _ (Act.put _ (some 90) _) _
                            simp only [Act.put, List.setIfInBounds_toArray, List.set_cons_zero, List.set_cons_succ]
                            refine wpAnyH_ready (rs := [25]) (by kernel_rfl) (by simp) ?_
                            refine AllReadyH.cons (o := _) rfl (fun K hK => ?_) AllReadyH.nil
                            · have hfr := fin_row (v0 := CC + KN) (v1 := LG + (TO - AT)) (l := [(AT, TO)]) (base := base) (win_own hB4 hshB4) rfl (by have := HBASE.out; omega) (by first | exact hne | exact fun e => hne e.symm) hBx
                              have hgF : w2.grownBy _ none := gr_grown (show w2.grownBy W24 none from (by repeat (first | exact gr_refl _ _ | assumption | refine gr_drew ?_ | refine gr_alloc ?_ _))) hfr.2.2 (fun kk h => .inr (by injection h with h; omega))
                              have x0 := hBx.cell 0
                              have x1 := hBx.cell 1
                              have x2 := hBx.cell 2
                              have xf := hBx.free
                              have xl := hBx.lt
                              go_simp
                              refine hK.out _ _ (KX.out _ hgF) (fun hHeld25 => ?_)
                              clear hK K
                              (try simp only [Act.put, List.setIfInBounds_toArray, List.set_cons_zero, List.set_cons_succ])
                              refine wpAnyH_done (by kernel_rfl) ?_ _
                              go_wp2_with fail
                              go_meet
                              exact ⟨_, _, rfl, by have := HBASE.out; omega, hfr.1, hfr.2.1, hgF⟩
                      · go_simp
                        have hBx := Blk.new W17 86 #[.int .i64 0, .int .i64 0, .slice none 0 0]
                        have hshBx := World.grownBy.size (show w2.grownBy W17 none from (by repeat (first | exact gr_refl _ _ | assumption | refine gr_drew ?_ | refine gr_alloc ?_ _)))
                        have hne := Nat.ne_of_lt hB4.lt
                        replace hB4 := hB4.alloc (.cells #[.int .i64 0, .int .i64 0, .slice none 0 0] 86)
                        have hgW24 : w2.grownBy (W17.alloc (.cells #[.int .i64 0, .int .i64 0, .slice none 0 0] 86)) none := (by repeat (first | exact gr_refl _ _ | assumption | refine gr_drew ?_ | refine gr_alloc ?_ _))
                        generalize W17.alloc (.cells #[.int .i64 0, .int .i64 0, .slice none 0 0] 86) = W24 at *
                        refine hK.out _ _ (KX.out _ (by repeat (first | exact gr_refl _ _ | assumption | refine gr_drew ?_ | refine gr_alloc ?_ _))) (fun hHeld24 => ?_)
                        clear hK K
                        (try simp only [Act.put, List.setIfInBounds_toArray, List.set_cons_zero, List.set_cons_succ])
                        refine wpAnyH_ready (rs := [6]) (by kernel_rfl) (by simp) ?_
                        refine AllReadyH.cons (o := _) rfl (fun K hK => ?_) AllReadyH.nil
                        · go_simp
                          (go_at_call 44; refine (HMI.out _ (HLN.out.grown (by repeat (first | exact gr_refl _ _ | assumption | refine gr_drew ?_ | refine gr_alloc ?_ _)))).mono ?_; rintro _ wM ⟨rfl, hgM⟩)
                          have hgM2 := gr_trans (show w2.grownBy _ none from (by repeat (first | exact gr_refl _ _ | assumption | refine gr_drew ?_ | refine gr_alloc ?_ _))) hgM
                          replace hB4 := Blk.grown hB4.drew hgM (by simp)
                          replace hBx := Blk.grown hBx.drew hgM (by simp)
                          refine hK.out _ _ (KX.out _ (by repeat (first | exact gr_refl _ _ | assumption | refine gr_drew ?_ | refine gr_alloc ?_ _))) (fun hHeld6 => ?_)
                          clear hK K
                          (try simp only [Act.put, List.setIfInBounds_toArray, List.set_cons_zero, List.set_cons_succ])
                          refine wpAnyH_take (i := 7) (v := ?_) rfl (by kernel_rfl) (by kernel_rfl) (by kernel_rfl) (fun _ _ _ h => h) (Or.inl ⟨by kernel_rfl, ?_⟩) hHeld6 ?_
                          rotate_left
                          · intro w hSw
                            (try dsimp only at hSw)
                            obtain ⟨hS0, hS1, hS2, hS3, hS4, hS5, hS6⟩ := hSw
                            go_simp
                            (try with_reducible rfl)
                          change wpAnyH _ _ _ _ _ _ _ (Act.put _ (some 74) _) _
                          simp only [Act.put, List.setIfInBounds_toArray, List.set_cons_zero, List.set_cons_succ]
                          refine wpAnyH_ready (rs := [22]) (by kernel_rfl) (by simp) ?_
                          refine AllReadyH.cons (o := _) rfl (fun K hK => ?_) AllReadyH.nil
                          · refine step_append_nil (by rfl) (.tmp 84) (.tmp 88) 40 (by rfl) w2.heap.size 27 j0 2 Try.underlying40 hj _ 1 _ (by simp [Act.eval]) (win_own hB4 hshB4) (by simp [Act.eval]) ?_
                            refine hK.out _ _ (KX.out _ (by repeat (first | exact gr_refl _ _ | assumption | refine gr_drew ?_ | refine gr_alloc ?_ _))) (fun hHeld22 => ?_)
                            clear hK K
                            (try simp only [Act.put, List.setIfInBounds_toArray, List.set_cons_zero, List.set_cons_succ])
                            refine wpAnyH_take (i := 23) (v := ?_) rfl (by kernel_rfl) (by kernel_rfl) (by kernel_rfl) (fun _ _ _ h => h) (Or.inl ⟨by kernel_rfl, ?_⟩) hHeld22 ?_
                            rotate_left
                            · intro w hSw
                              (try dsimp only at hSw)
                              obtain ⟨hS0, hS1, hS2, hS3, hS4, hS5, hS6⟩ := hSw
                              go_simp
                              (try with_reducible rfl)
                            change wpAnyH _ _ _ _ _ _ _ (Act.put _ (some 90) _) _
                            simp only [Act.put, List.setIfInBounds_toArray, List.set_cons_zero, List.set_cons_succ]
                            refine wpAnyH_ready (rs := [25]) (by kernel_rfl) (by simp) ?_
                            refine AllReadyH.cons (o := _) rfl (fun K hK => ?_) AllReadyH.nil
                            · have hfr := fin_row (v0 := CC + KN) (v1 := LG + (TO - AT)) (l := [(AT, TO)]) (base := base) (win_own hB4 hshB4) rfl (by have := HBASE.out; omega) (by first | exact hne | exact fun e => hne e.symm) hBx
                              have hgF : w2.grownBy _ none := gr_grown (show w2.grownBy wM none from (by repeat (first | exact gr_refl _ _ | assumption | refine gr_drew ?_ | refine gr_alloc ?_ _))) hfr.2.2 (fun kk h => .inr (by injection h with h; omega))
                              have x0 := hBx.cell 0
                              have x1 := hBx.cell 1
                              have x2 := hBx.cell 2
                              have xf := hBx.free
                              have xl := hBx.lt
                              go_simp
                              refine hK.out _ _ (KX.out _ hgF) (fun hHeld25 => ?_)
                              clear hK K
                              (try simp only [Act.put, List.setIfInBounds_toArray, List.set_cons_zero, List.set_cons_succ])
                              refine wpAnyH_done (by kernel_rfl) ?_ _
                              go_wp2_with fail
                              go_meet
                              exact ⟨_, _, rfl, by have := HBASE.out; omega, hfr.1, hfr.2.1, hgF⟩
                    · go_simp
                      have hBx := Blk.new w2 86 #[.int .i64 0, .int .i64 0, .slice none 0 0]
                      have hshBx := World.grownBy.size (show w2.grownBy w2 none from (by repeat (first | exact gr_refl _ _ | assumption | refine gr_drew ?_ | refine gr_alloc ?_ _)))
                      have hgW24 : w2.grownBy (w2.alloc (.cells #[.int .i64 0, .int .i64 0, .slice none 0 0] 86)) none := (by repeat (first | exact gr_refl _ _ | assumption | refine gr_drew ?_ | refine gr_alloc ?_ _))
                      generalize w2.alloc (.cells #[.int .i64 0, .int .i64 0, .slice none 0 0] 86) = W24 at *
                      refine hK.out _ _ (KX.out _ (by repeat (first | exact gr_refl _ _ | assumption | refine gr_drew ?_ | refine gr_alloc ?_ _))) (fun hHeld24 => ?_)
                      clear hK K
                      (try simp only [Act.put, List.setIfInBounds_toArray, List.set_cons_zero, List.set_cons_succ])
                      refine wpAnyH_ready (rs := [6, 17]) (by kernel_rfl) (by simp) ?_
                      refine AllReadyH.cons (o := _) rfl (fun K hK => ?_) (AllReadyH.cons (o := _) rfl (fun K hK => ?_) AllReadyH.nil)
                      · go_simp
                        (go_at_call 44; refine (HMI.out _ (HLN.out.grown (by repeat (first | exact gr_refl _ _ | assumption | refine gr_drew ?_ | refine gr_alloc ?_ _)))).mono ?_; rintro _ wM ⟨rfl, hgM⟩)
                        have hgM2 := gr_trans (show w2.grownBy _ none from (by repeat (first | exact gr_refl _ _ | assumption | refine gr_drew ?_ | refine gr_alloc ?_ _))) hgM
                        replace hBx := Blk.grown hBx.drew hgM (by simp)
                        refine hK.out _ _ (KX.out _ (by repeat (first | exact gr_refl _ _ | assumption | refine gr_drew ?_ | refine gr_alloc ?_ _))) (fun hHeld6 => ?_)
                        clear hK K
                        (try simp only [Act.put, List.setIfInBounds_toArray, List.set_cons_zero, List.set_cons_succ])
                        refine wpAnyH_take (i := 7) (v := ?_) rfl (by kernel_rfl) (by kernel_rfl) (by kernel_rfl) (fun _ _ _ h => h) (Or.inl ⟨by kernel_rfl, ?_⟩) hHeld6 ?_
                        rotate_left
                        · intro w hSw
                          (try dsimp only at hSw)
                          obtain ⟨hS0, hS1, hS2, hS3, hS4, hS5, hS6⟩ := hSw
                          go_simp
                          (try with_reducible rfl)
                        change wpAnyH _ _ _ _ _ _ _ (Act.put _ (some 74) _) _
                        simp only [Act.put, List.setIfInBounds_toArray, List.set_cons_zero, List.set_cons_succ]
                        refine wpAnyH_ready (rs := [17]) (by kernel_rfl) (by simp) ?_
                        refine AllReadyH.cons (o := _) rfl (fun K hK => ?_) AllReadyH.nil
                        · go_simp
                          have hB4 := Blk.new wM 27 #[.int .i64 AT, .int .i64 TO]
                          have hshB4 := World.grownBy.size (show w2.grownBy wM none from (by repeat (first | exact gr_refl _ _ | assumption | refine gr_drew ?_ | refine gr_alloc ?_ _)))
                          have hne := Nat.ne_of_lt hBx.lt
                          replace hBx := hBx.alloc (.cells #[.int .i64 AT, .int .i64 TO] 27)
                          have hgW17 : w2.grownBy (wM.alloc (.cells #[.int .i64 AT, .int .i64 TO] 27)) none := (by repeat (first | exact gr_refl _ _ | assumption | refine gr_drew ?_ | refine gr_alloc ?_ _))
                          generalize wM.alloc (.cells #[.int .i64 AT, .int .i64 TO] 27) = W17 at *
                          refine hK.out _ _ (KX.out _ (by repeat (first | exact gr_refl _ _ | assumption | refine gr_drew ?_ | refine gr_alloc ?_ _))) (fun hHeld17 => ?_)
                          clear hK K
                          (try simp only [Act.put, List.setIfInBounds_toArray, List.set_cons_zero, List.set_cons_succ])
                          refine wpAnyH_ready (rs := [22]) (by kernel_rfl) (by simp) ?_
                          refine AllReadyH.cons (o := _) rfl (fun K hK => ?_) AllReadyH.nil
                          · refine step_append_nil (by rfl) (.tmp 84) (.tmp 88) 40 (by rfl) w2.heap.size 27 j0 2 Try.underlying40 hj _ 1 _ (by simp [Act.eval]) (win_own hB4 hshB4) (by simp [Act.eval]) ?_
                            refine hK.out _ _ (KX.out _ (by repeat (first | exact gr_refl _ _ | assumption | refine gr_drew ?_ | refine gr_alloc ?_ _))) (fun hHeld22 => ?_)
                            clear hK K
                            (try simp only [Act.put, List.setIfInBounds_toArray, List.set_cons_zero, List.set_cons_succ])
                            refine wpAnyH_take (i := 23) (v := ?_) rfl (by kernel_rfl) (by kernel_rfl) (by kernel_rfl) (fun _ _ _ h => h) (Or.inl ⟨by kernel_rfl, ?_⟩) hHeld22 ?_
                            rotate_left
                            · intro w hSw
                              (try dsimp only at hSw)
                              obtain ⟨hS0, hS1, hS2, hS3, hS4, hS5, hS6⟩ := hSw
                              go_simp
                              (try with_reducible rfl)
                            change wpAnyH _ _ _ _ _ _ _ (Act.put _ (some 90) _) _
                            simp only [Act.put, List.setIfInBounds_toArray, List.set_cons_zero, List.set_cons_succ]
                            refine wpAnyH_ready (rs := [25]) (by kernel_rfl) (by simp) ?_
                            refine AllReadyH.cons (o := _) rfl (fun K hK => ?_) AllReadyH.nil
                            · have hfr := fin_row (v0 := CC + KN) (v1 := LG + (TO - AT)) (l := [(AT, TO)]) (base := base) (win_own hB4 hshB4) rfl (by have := HBASE.out; omega) (by first | exact hne | exact fun e => hne e.symm) hBx
                              have hgF : w2.grownBy _ none := gr_grown (show w2.grownBy W17 none from (by repeat (first | exact gr_refl _ _ | assumption | refine gr_drew ?_ | refine gr_alloc ?_ _))) hfr.2.2 (fun kk h => .inr (by injection h with h; omega))
                              have x0 := hBx.cell 0
                              have x1 := hBx.cell 1
                              have x2 := hBx.cell 2
                              have xf := hBx.free
                              have xl := hBx.lt
                              go_simp
                              refine hK.out _ _ (KX.out _ hgF) (fun hHeld25 => ?_)
                              clear hK K
                              (try simp only [Act.put, List.setIfInBounds_toArray, List.set_cons_zero, List.set_cons_succ])
                              refine wpAnyH_done (by kernel_rfl) ?_ _
                              go_wp2_with fail
                              go_meet
                              exact ⟨_, _, rfl, by have := HBASE.out; omega, hfr.1, hfr.2.1, hgF⟩
                      · go_simp
                        have hB4 := Blk.new W24 27 #[.int .i64 AT, .int .i64 TO]
                        have hshB4 := World.grownBy.size (show w2.grownBy W24 none from (by repeat (first | exact gr_refl _ _ | assumption | refine gr_drew ?_ | refine gr_alloc ?_ _)))
                        have hne := Nat.ne_of_lt hBx.lt
                        replace hBx := hBx.alloc (.cells #[.int .i64 AT, .int .i64 TO] 27)
                        have hgW17 : w2.grownBy (W24.alloc (.cells #[.int .i64 AT, .int .i64 TO] 27)) none := (by repeat (first | exact gr_refl _ _ | assumption | refine gr_drew ?_ | refine gr_alloc ?_ _))
                        generalize W24.alloc (.cells #[.int .i64 AT, .int .i64 TO] 27) = W17 at *
                        refine hK.out _ _ (KX.out _ (by repeat (first | exact gr_refl _ _ | assumption | refine gr_drew ?_ | refine gr_alloc ?_ _))) (fun hHeld17 => ?_)
                        clear hK K
                        (try simp only [Act.put, List.setIfInBounds_toArray, List.set_cons_zero, List.set_cons_succ])
                        refine wpAnyH_ready (rs := [6]) (by kernel_rfl) (by simp) ?_
                        refine AllReadyH.cons (o := _) rfl (fun K hK => ?_) AllReadyH.nil
                        · go_simp
                          (go_at_call 44; refine (HMI.out _ (HLN.out.grown (by repeat (first | exact gr_refl _ _ | assumption | refine gr_drew ?_ | refine gr_alloc ?_ _)))).mono ?_; rintro _ wM ⟨rfl, hgM⟩)
                          have hgM2 := gr_trans (show w2.grownBy _ none from (by repeat (first | exact gr_refl _ _ | assumption | refine gr_drew ?_ | refine gr_alloc ?_ _))) hgM
                          replace hB4 := Blk.grown hB4.drew hgM (by simp)
                          replace hBx := Blk.grown hBx.drew hgM (by simp)
                          refine hK.out _ _ (KX.out _ (by repeat (first | exact gr_refl _ _ | assumption | refine gr_drew ?_ | refine gr_alloc ?_ _))) (fun hHeld6 => ?_)
                          clear hK K
                          (try simp only [Act.put, List.setIfInBounds_toArray, List.set_cons_zero, List.set_cons_succ])
                          refine wpAnyH_take (i := 7) (v := ?_) rfl (by kernel_rfl) (by kernel_rfl) (by kernel_rfl) (fun _ _ _ h => h) (Or.inl ⟨by kernel_rfl, ?_⟩) hHeld6 ?_
                          rotate_left
                          · intro w hSw
                            (try dsimp only at hSw)
                            obtain ⟨hS0, hS1, hS2, hS3, hS4, hS5, hS6⟩ := hSw
                            go_simp
                            (try with_reducible rfl)
                          change wpAnyH _ _ _ _ _ _ _ (Act.put _ (some 74) _) _
                          simp only [Act.put, List.setIfInBounds_toArray, List.set_cons_zero, List.set_cons_succ]
                          refine wpAnyH_ready (rs := [22]) (by kernel_rfl) (by simp) ?_
                          refine AllReadyH.cons (o := _) rfl (fun K hK => ?_) AllReadyH.nil
                          · refine step_append_nil (by rfl) (.tmp 84) (.tmp 88) 40 (by rfl) w2.heap.size 27 j0 2 Try.underlying40 hj _ 1 _ (by simp [Act.eval]) (win_own hB4 hshB4) (by simp [Act.eval]) ?_
                            refine hK.out _ _ (KX.out _ (by repeat (first | exact gr_refl _ _ | assumption | refine gr_drew ?_ | refine gr_alloc ?_ _))) (fun hHeld22 => ?_)
                            clear hK K
                            (try simp only [Act.put, List.setIfInBounds_toArray, List.set_cons_zero, List.set_cons_succ])
                            refine wpAnyH_take (i := 23) (v := ?_) rfl (by kernel_rfl) (by kernel_rfl) (by kernel_rfl) (fun _ _ _ h => h) (Or.inl ⟨by kernel_rfl, ?_⟩) hHeld22 ?_
                            rotate_left
                            · intro w hSw
                              (try dsimp only at hSw)
                              obtain ⟨hS0, hS1, hS2, hS3, hS4, hS5, hS6⟩ := hSw
                              go_simp
                              (try with_reducible rfl)
                            change wpAnyH _ _ _ _ _ _ _ (Act.put _ (some 90) _) _
                            simp only [Act.put, List.setIfInBounds_toArray, List.set_cons_zero, List.set_cons_succ]
                            refine wpAnyH_ready (rs := [25]) (by kernel_rfl) (by simp) ?_
                            refine AllReadyH.cons (o := _) rfl (fun K hK => ?_) AllReadyH.nil
                            · have hfr := fin_row (v0 := CC + KN) (v1 := LG + (TO - AT)) (l := [(AT, TO)]) (base := base) (win_own hB4 hshB4) rfl (by have := HBASE.out; omega) (by first | exact hne | exact fun e => hne e.symm) hBx
                              have hgF : w2.grownBy _ none := gr_grown (show w2.grownBy wM none from (by repeat (first | exact gr_refl _ _ | assumption | refine gr_drew ?_ | refine gr_alloc ?_ _))) hfr.2.2 (fun kk h => .inr (by injection h with h; omega))
                              have x0 := hBx.cell 0
                              have x1 := hBx.cell 1
                              have x2 := hBx.cell 2
                              have xf := hBx.free
                              have xl := hBx.lt
                              go_simp
                              refine hK.out _ _ (KX.out _ hgF) (fun hHeld25 => ?_)
                              clear hK K
                              (try simp only [Act.put, List.setIfInBounds_toArray, List.set_cons_zero, List.set_cons_succ])
                              refine wpAnyH_done (by kernel_rfl) ?_ _
                              go_wp2_with fail
                              go_meet
                              exact ⟨_, _, rfl, by have := HBASE.out; omega, hfr.1, hfr.2.1, hgF⟩

                  · obtain ⟨RL, hRL⟩ : ∃ x, r.length = x := ⟨_, rfl⟩
                    rw [hRL] at q2 hRp HWR HX
                    have HRL : Hid ((scaleW a r).length = RL) := by show _ = _; rw [← hRL]; simp [scaleW]
                    have hRl : RL ≤ 25 := by omega
                    have HSC : Hid (∀ W', w2.grownBy W' none → ∀ j u, (wcells (scaleW a r))[j]? = some u → W'.cell? ((⟨gs, 0, none⟩ : Addr).add j) = some u) := fun W' hW => by
                      have h := HWR.out.grown hW
                      rw [← HRL.out] at h
                      exact wins_cells h
                    have KX : Hid (∀ W' : World, w2.grownBy W' none → W'.cell? ⟨g, 0, none⟩ = some (.int .i64 CC) ∧ W'.cell? ⟨g, 1, none⟩ = some (.int .i64 LG) ∧ W'.cell? ⟨g, 2, none⟩ = some (.slice (some ⟨gs, 0, none⟩) RL cs) ∧ W'.cell? ⟨gW, 0, none⟩ = some (.int .i64 AT) ∧ W'.cell? ⟨gW, 1, none⟩ = some (.int .i64 TO) ∧ W'.cell? ⟨xl, 0, none⟩ = some v ∧ w2.grownBy W' none) := fun W' hW =>
                      ⟨(HX.out.grown hW (by simp)).cell 0, (HX.out.grown hW (by simp)).cell 1, (HX.out.grown hW (by simp)).cell 2, (HW14.out.grown hW (by simp)).cell 0, (HW14.out.grown hW (by simp)).cell 1, cell_stay cl0 hW (by simp), hW⟩
                    clear hRL
                    refine wp_region_held_drew (S := (fun W' => W'.cell? ⟨g, 0, none⟩ = some (.int .i64 CC) ∧ W'.cell? ⟨g, 1, none⟩ = some (.int .i64 LG) ∧ W'.cell? ⟨g, 2, none⟩ = some (.slice (some ⟨gs, 0, none⟩) RL cs) ∧ W'.cell? ⟨gW, 0, none⟩ = some (.int .i64 AT) ∧ W'.cell? ⟨gW, 1, none⟩ = some (.int .i64 TO) ∧ W'.cell? ⟨xl, 0, none⟩ = some v ∧ w2.grownBy W' none)) (by kernel_rfl) (KX.out _ (by repeat (first | exact gr_refl _ _ | assumption | refine gr_drew ?_ | refine gr_alloc ?_ _))) (fun hHeld => ?_)
                    refine wpAnyH_take (i := 0) (v := ?_) rfl (by kernel_rfl) (by kernel_rfl) (by kernel_rfl) (fun _ _ _ h => h) (Or.inl ⟨by kernel_rfl, ?_⟩) hHeld ?_
                    rotate_left
                    · intro w hSw
                      (try dsimp only at hSw)
                      obtain ⟨hS0, hS1, hS2, hS3, hS4, hS5, hS6⟩ := hSw
                      go_simp
                      (try with_reducible rfl)
                    change wpAnyH _ _ _ _ _ _ _ (Act.put _ (some 67) _) _
                    simp only [Act.put, List.setIfInBounds_toArray, List.set_cons_zero, List.set_cons_succ]
                    refine wpAnyH_take (i := 1) (v := ?_) rfl (by kernel_rfl) (by kernel_rfl) (by kernel_rfl) (fun _ _ _ h => h) (Or.inl ⟨by kernel_rfl, ?_⟩) hHeld ?_
                    rotate_left
                    · intro w hSw
                      (try dsimp only at hSw)
                      obtain ⟨hS0, hS1, hS2, hS3, hS4, hS5, hS6⟩ := hSw
                      go_simp
                      (try with_reducible rfl)
                    change wpAnyH _ _ _ _ _ _ _ (Act.put _ (some 68) _) _
                    simp only [Act.put, List.setIfInBounds_toArray, List.set_cons_zero, List.set_cons_succ]
                    refine wpAnyH_take (i := 2) (v := ?_) rfl (by kernel_rfl) (by kernel_rfl) (by kernel_rfl) (fun _ _ _ h => h) (Or.inl ⟨by kernel_rfl, ?_⟩) hHeld ?_
                    rotate_left
                    · intro w hSw
                      (try dsimp only at hSw)
                      obtain ⟨hS0, hS1, hS2, hS3, hS4, hS5, hS6⟩ := hSw
                      go_simp
                      (try with_reducible rfl)
                    change wpAnyH _ _ _ _ _ _ _ (Act.put _ (some 69) _) _
                    simp only [Act.put, List.setIfInBounds_toArray, List.set_cons_zero, List.set_cons_succ]
                    refine wpAnyH_take (i := 3) (v := ?_) rfl (by kernel_rfl) (by kernel_rfl) (by kernel_rfl) (fun _ _ _ h => h) (Or.inl ⟨by kernel_rfl, ?_⟩) hHeld ?_
                    rotate_left
                    · intro w hSw
                      (try dsimp only at hSw)
                      obtain ⟨hS0, hS1, hS2, hS3, hS4, hS5, hS6⟩ := hSw
                      go_simp
                      (try with_reducible rfl)
                    change wpAnyH _ _ _ _ _ _ _ (Act.put _ (some 70) _) _
                    simp only [Act.put, List.setIfInBounds_toArray, List.set_cons_zero, List.set_cons_succ]
                    refine wpAnyH_take (i := 4) (v := ?_) rfl (by kernel_rfl) (by kernel_rfl) (by kernel_rfl) (fun _ _ _ h => h) (Or.inl ⟨by kernel_rfl, ?_⟩) hHeld ?_
                    rotate_left
                    · intro w hSw
                      (try dsimp only at hSw)
                      obtain ⟨hS0, hS1, hS2, hS3, hS4, hS5, hS6⟩ := hSw
                      go_simp
                      (try with_reducible rfl)
                    change wpAnyH _ _ _ _ _ _ _ (Act.put _ (some 71) _) _
                    simp only [Act.put, List.setIfInBounds_toArray, List.set_cons_zero, List.set_cons_succ]
                    refine wpAnyH_take (i := 5) (v := ?_) rfl (by kernel_rfl) (by kernel_rfl) (by kernel_rfl) (fun _ _ _ h => h) (Or.inl ⟨by kernel_rfl, ?_⟩) hHeld ?_
                    rotate_left
                    · intro w hSw
                      (try dsimp only at hSw)
                      obtain ⟨hS0, hS1, hS2, hS3, hS4, hS5, hS6⟩ := hSw
                      go_simp
                      (try with_reducible rfl)
                    change wpAnyH _ _ _ _ _ _ _ (Act.put _ (some 72) _) _
                    simp only [Act.put, List.setIfInBounds_toArray, List.set_cons_zero, List.set_cons_succ]
                    refine wpAnyH_take (i := 8) (v := ?_) rfl (by kernel_rfl) (by kernel_rfl) (by kernel_rfl) (fun _ _ _ h => h) (Or.inl ⟨by kernel_rfl, ?_⟩) hHeld ?_
                    rotate_left
                    · intro w hSw
                      (try dsimp only at hSw)
                      obtain ⟨hS0, hS1, hS2, hS3, hS4, hS5, hS6⟩ := hSw
                      go_simp
                      (try with_reducible rfl)
                    change wpAnyH _ _ _ _ _ _ _ (Act.put _ (some 75) _) _
                    simp only [Act.put, List.setIfInBounds_toArray, List.set_cons_zero, List.set_cons_succ]
                    refine wpAnyH_take (i := 9) (v := ?_) rfl (by kernel_rfl) (by kernel_rfl) (by kernel_rfl) (fun _ _ _ h => h) (Or.inl ⟨by kernel_rfl, ?_⟩) hHeld ?_
                    rotate_left
                    · intro w hSw
                      (try dsimp only at hSw)
                      obtain ⟨hS0, hS1, hS2, hS3, hS4, hS5, hS6⟩ := hSw
                      go_simp
                      (try with_reducible rfl)
                    change wpAnyH _ _ _ _ _ _ _ (Act.put _ (some 76) _) _
                    simp only [Act.put, List.setIfInBounds_toArray, List.set_cons_zero, List.set_cons_succ]
                    refine wpAnyH_take (i := 10) (v := ?_) rfl (by kernel_rfl) (by kernel_rfl) (by kernel_rfl) (fun _ _ _ h => h) (Or.inl ⟨by kernel_rfl, ?_⟩) hHeld ?_
                    rotate_left
                    · intro w hSw
                      (try dsimp only at hSw)
                      obtain ⟨hS0, hS1, hS2, hS3, hS4, hS5, hS6⟩ := hSw
                      go_simp
                      (try with_reducible rfl)
                    change wpAnyH _ _ _ _ _ _ _ (Act.put _ (some 77) _) _
                    simp only [Act.put, List.setIfInBounds_toArray, List.set_cons_zero, List.set_cons_succ]
                    refine wpAnyH_take (i := 11) (v := ?_) rfl (by kernel_rfl) (by kernel_rfl) (by kernel_rfl) (fun _ _ _ h => h) (Or.inl ⟨by kernel_rfl, ?_⟩) hHeld ?_
                    rotate_left
                    · intro w hSw
                      (try dsimp only at hSw)
                      obtain ⟨hS0, hS1, hS2, hS3, hS4, hS5, hS6⟩ := hSw
                      go_simp
                      (try with_reducible rfl)
                    change wpAnyH _ _ _ _ _ _ _ (Act.put _ (some 78) _) _
                    simp only [Act.put, List.setIfInBounds_toArray, List.set_cons_zero, List.set_cons_succ]
                    refine wpAnyH_take (i := 12) (v := ?_) rfl (by kernel_rfl) (by kernel_rfl) (by kernel_rfl) (fun _ _ _ h => h) (Or.inl ⟨by kernel_rfl, ?_⟩) hHeld ?_
                    rotate_left
                    · intro w hSw
                      (try dsimp only at hSw)
                      obtain ⟨hS0, hS1, hS2, hS3, hS4, hS5, hS6⟩ := hSw
                      go_simp
                      (try with_reducible rfl)
                    change wpAnyH _ _ _ _ _ _ _ (Act.put _ (some 79) _) _
                    simp only [Act.put, List.setIfInBounds_toArray, List.set_cons_zero, List.set_cons_succ]
                    refine wpAnyH_take (i := 13) (v := ?_) rfl (by kernel_rfl) (by kernel_rfl) (by kernel_rfl) (fun _ _ _ h => h) (Or.inl ⟨by kernel_rfl, ?_⟩) hHeld ?_
                    rotate_left
                    · intro w hSw
                      (try dsimp only at hSw)
                      obtain ⟨hS0, hS1, hS2, hS3, hS4, hS5, hS6⟩ := hSw
                      go_simp
                      (try with_reducible rfl)
                    change wpAnyH _ _ _ _ _ _ _ (Act.put _ (some 80) _) _
                    simp only [Act.put, List.setIfInBounds_toArray, List.set_cons_zero, List.set_cons_succ]
                    refine wpAnyH_take (i := 14) (v := ?_) rfl (by kernel_rfl) (by kernel_rfl) (by kernel_rfl) (fun _ _ _ h => h) (Or.inl ⟨by kernel_rfl, ?_⟩) hHeld ?_
                    rotate_left
                    · intro w hSw
                      (try dsimp only at hSw)
                      obtain ⟨hS0, hS1, hS2, hS3, hS4, hS5, hS6⟩ := hSw
                      go_simp
                      (try with_reducible rfl)
                    change wpAnyH _ _ _ _ _ _ _ (Act.put _ (some 81) _) _
                    simp only [Act.put, List.setIfInBounds_toArray, List.set_cons_zero, List.set_cons_succ]
                    refine wpAnyH_take (i := 15) (v := ?_) rfl (by kernel_rfl) (by kernel_rfl) (by kernel_rfl) (fun _ _ _ h => h) (Or.inl ⟨by kernel_rfl, ?_⟩) hHeld ?_
                    rotate_left
                    · intro w hSw
                      (try dsimp only at hSw)
                      obtain ⟨hS0, hS1, hS2, hS3, hS4, hS5, hS6⟩ := hSw
                      go_simp
                      (try with_reducible rfl)
                    change wpAnyH _ _ _ _ _ _ _ (Act.put _ (some 82) _) _
                    simp only [Act.put, List.setIfInBounds_toArray, List.set_cons_zero, List.set_cons_succ]
                    refine wpAnyH_take (i := 16) (v := ?_) rfl (by kernel_rfl) (by kernel_rfl) (by kernel_rfl) (fun _ _ _ h => h) (Or.inl ⟨by kernel_rfl, ?_⟩) hHeld ?_
                    rotate_left
                    · intro w hSw
                      (try dsimp only at hSw)
                      obtain ⟨hS0, hS1, hS2, hS3, hS4, hS5, hS6⟩ := hSw
                      go_simp
                      (try with_reducible rfl)
                    change wpAnyH _ _ _ _ _ _ _ (Act.put _ (some 83) _) _
                    simp only [Act.put, List.setIfInBounds_toArray, List.set_cons_zero, List.set_cons_succ]
                    refine wpAnyH_take (i := 18) (v := ?_) rfl (by kernel_rfl) (by kernel_rfl) (by kernel_rfl) (fun _ _ _ h => h) (Or.inl ⟨by kernel_rfl, ?_⟩) hHeld ?_
                    rotate_left
                    · intro w hSw
                      (try dsimp only at hSw)
                      obtain ⟨hS0, hS1, hS2, hS3, hS4, hS5, hS6⟩ := hSw
                      go_simp
                      (try with_reducible rfl)
                    change wpAnyH _ _ _ _ _ _ _ (Act.put _ (some 85) _) _
                    simp only [Act.put, List.setIfInBounds_toArray, List.set_cons_zero, List.set_cons_succ]
                    refine wpAnyH_take (i := 19) (v := ?_) rfl (by kernel_rfl) (by kernel_rfl) (by kernel_rfl) (fun _ _ _ h => h) (Or.inl ⟨by kernel_rfl, ?_⟩) hHeld ?_
                    rotate_left
                    · intro w hSw
                      (try dsimp only at hSw)
                      obtain ⟨hS0, hS1, hS2, hS3, hS4, hS5, hS6⟩ := hSw
                      go_simp
                      (try with_reducible rfl)
                    change wpAnyH _ _ _ _ _ _ _ (Act.put _ (some 86) _) _
                    simp only [Act.put, List.setIfInBounds_toArray, List.set_cons_zero, List.set_cons_succ]
                    refine wpAnyH_take (i := 20) (v := ?_) rfl (by kernel_rfl) (by kernel_rfl) (by kernel_rfl) (fun _ _ _ h => h) (Or.inl ⟨by kernel_rfl, ?_⟩) hHeld ?_
                    rotate_left
                    · intro w hSw
                      (try dsimp only at hSw)
                      obtain ⟨hS0, hS1, hS2, hS3, hS4, hS5, hS6⟩ := hSw
                      go_simp
                      (try with_reducible rfl)
                    change wpAnyH _ _ _ _ _ _ _ (Act.put _ (some 87) _) _
                    simp only [Act.put, List.setIfInBounds_toArray, List.set_cons_zero, List.set_cons_succ]
                    refine wpAnyH_take (i := 21) (v := ?_) rfl (by kernel_rfl) (by kernel_rfl) (by kernel_rfl) (fun _ _ _ h => h) (Or.inl ⟨by kernel_rfl, ?_⟩) hHeld ?_
                    rotate_left
                    · intro w hSw
                      (try dsimp only at hSw)
                      obtain ⟨hS0, hS1, hS2, hS3, hS4, hS5, hS6⟩ := hSw
                      go_simp
                      (try with_reducible rfl)
                    change wpAnyH _ _ _ _ _ _ _ (Act.put _ (some 88) _) _
                    simp only [Act.put, List.setIfInBounds_toArray, List.set_cons_zero, List.set_cons_succ]
                    refine wpAnyH_ready (rs := [6, 17, 24]) (by kernel_rfl) (by simp) ?_
                    refine AllReadyH.cons (o := _) rfl (fun K hK => ?_) (AllReadyH.cons (o := _) rfl (fun K hK => ?_) (AllReadyH.cons (o := _) rfl (fun K hK => ?_) AllReadyH.nil))
                    · go_simp
                      (go_at_call 44; refine (HMI.out _ (HLN.out.grown (by repeat (first | exact gr_refl _ _ | assumption | refine gr_drew ?_ | refine gr_alloc ?_ _)))).mono ?_; rintro _ wM ⟨rfl, hgM⟩)
                      have hgM2 := gr_trans (show w2.grownBy _ none from (by repeat (first | exact gr_refl _ _ | assumption | refine gr_drew ?_ | refine gr_alloc ?_ _))) hgM
                      refine hK.out _ _ (KX.out _ (by repeat (first | exact gr_refl _ _ | assumption | refine gr_drew ?_ | refine gr_alloc ?_ _))) (fun hHeld6 => ?_)
                      clear hK K
                      (try simp only [Act.put, List.setIfInBounds_toArray, List.set_cons_zero, List.set_cons_succ])
                      refine wpAnyH_take (i := 7) (v := ?_) rfl (by kernel_rfl) (by kernel_rfl) (by kernel_rfl) (fun _ _ _ h => h) (Or.inl ⟨by kernel_rfl, ?_⟩) hHeld6 ?_
                      rotate_left
                      · intro w hSw
                        (try dsimp only at hSw)
                        obtain ⟨hS0, hS1, hS2, hS3, hS4, hS5, hS6⟩ := hSw
                        go_simp
                        (try with_reducible rfl)
                      change wpAnyH _ _ _ _ _ _ _ (Act.put _ (some 74) _) _
                      simp only [Act.put, List.setIfInBounds_toArray, List.set_cons_zero, List.set_cons_succ]
                      refine wpAnyH_ready (rs := [17, 24]) (by kernel_rfl) (by simp) ?_
                      refine AllReadyH.cons (o := _) rfl (fun K hK => ?_) (AllReadyH.cons (o := _) rfl (fun K hK => ?_) AllReadyH.nil)
                      · go_simp
                        have hB4 := Blk.new wM 27 #[.int .i64 AT, .int .i64 TO]
                        have hshB4 := World.grownBy.size (show w2.grownBy wM none from (by repeat (first | exact gr_refl _ _ | assumption | refine gr_drew ?_ | refine gr_alloc ?_ _)))
                        have hgW17 : w2.grownBy (wM.alloc (.cells #[.int .i64 AT, .int .i64 TO] 27)) none := (by repeat (first | exact gr_refl _ _ | assumption | refine gr_drew ?_ | refine gr_alloc ?_ _))
                        generalize wM.alloc (.cells #[.int .i64 AT, .int .i64 TO] 27) = W17 at *
                        refine hK.out _ _ (KX.out _ (by repeat (first | exact gr_refl _ _ | assumption | refine gr_drew ?_ | refine gr_alloc ?_ _))) (fun hHeld17 => ?_)
                        clear hK K
                        (try simp only [Act.put, List.setIfInBounds_toArray, List.set_cons_zero, List.set_cons_succ])
                        refine wpAnyH_ready (rs := [22, 24]) (by kernel_rfl) (by simp) ?_
                        refine AllReadyH.cons (o := _) rfl (fun K hK => ?_) (AllReadyH.cons (o := _) rfl (fun K hK => ?_) AllReadyH.nil)
                        · refine step_append_lies _ (by rfl) (.tmp 84) (.tmp 88) 40 (by rfl) w2.heap.size 27 j0 _ 2 16 Try.underlying40 hj hy0 hy1 hy2 rfl (by decide) _ 1 _ (by simp [Act.eval]) (win_own hB4 hshB4) ⟨gs, 0, none⟩ RL cs (wcells (scaleW a r)) (by simp [Act.eval]) (by rw [wcells_len, HRL.out]) (HSC.out _ (by repeat (first | exact gr_refl _ _ | assumption | refine gr_drew ?_ | refine gr_alloc ?_ _))) (wins_one _) hRp (by unfold maxLen; omega) (by omega) (World.grownBy.size (show w2.grownBy _ none from (by repeat (first | exact gr_refl _ _ | assumption | refine gr_drew ?_ | refine gr_alloc ?_ _)))) _ rfl ?_
                          intro gq cap wP hqq hgq hat hglt
                          have hgP2 : w2.grownBy wP none := gr_grown (show w2.grownBy _ none from (by repeat (first | exact gr_refl _ _ | assumption | refine gr_drew ?_ | refine gr_alloc ?_ _))) hgq (fun kk h => .inr (by have := ownBF h; omega))
                          refine hK.out _ _ (KX.out _ (by repeat (first | exact gr_refl _ _ | assumption | refine gr_drew ?_ | refine gr_alloc ?_ _))) (fun hHeld22 => ?_)
                          clear hK K
                          (try simp only [Act.put, List.setIfInBounds_toArray, List.set_cons_zero, List.set_cons_succ])
                          refine wpAnyH_take (i := 23) (v := ?_) rfl (by kernel_rfl) (by kernel_rfl) (by kernel_rfl) (fun _ _ _ h => h) (Or.inl ⟨by kernel_rfl, ?_⟩) hHeld22 ?_
                          rotate_left
                          · intro w hSw
                            (try dsimp only at hSw)
                            obtain ⟨hS0, hS1, hS2, hS3, hS4, hS5, hS6⟩ := hSw
                            go_simp
                            (try with_reducible rfl)
                          change wpAnyH _ _ _ _ _ _ _ (Act.put _ (some 90) _) _
                          simp only [Act.put, List.setIfInBounds_toArray, List.set_cons_zero, List.set_cons_succ]
                          refine wpAnyH_ready (rs := [24]) (by kernel_rfl) (by simp) ?_
                          refine AllReadyH.cons (o := _) rfl (fun K hK => ?_) AllReadyH.nil
                          · go_simp
                            have hBx := Blk.new wP 86 #[.int .i64 0, .int .i64 0, .slice none 0 0]
                            have hshBx := World.grownBy.size (show w2.grownBy wP none from (by repeat (first | exact gr_refl _ _ | assumption | refine gr_drew ?_ | refine gr_alloc ?_ _)))
                            have hne := Nat.ne_of_lt hB4.lt
                            replace hB4 := hB4.alloc (.cells #[.int .i64 0, .int .i64 0, .slice none 0 0] 86)
                            replace hqq := World.ownsRow.alloc hqq (.cells #[.int .i64 0, .int .i64 0, .slice none 0 0] 86)
                            have hneq := Nat.ne_of_lt hglt
                            have hgW24 : w2.grownBy (wP.alloc (.cells #[.int .i64 0, .int .i64 0, .slice none 0 0] 86)) none := (by repeat (first | exact gr_refl _ _ | assumption | refine gr_drew ?_ | refine gr_alloc ?_ _))
                            generalize wP.alloc (.cells #[.int .i64 0, .int .i64 0, .slice none 0 0] 86) = W24 at *
                            refine hK.out _ _ (KX.out _ (by repeat (first | exact gr_refl _ _ | assumption | refine gr_drew ?_ | refine gr_alloc ?_ _))) (fun hHeld24 => ?_)
                            clear hK K
                            (try simp only [Act.put, List.setIfInBounds_toArray, List.set_cons_zero, List.set_cons_succ])
                            refine wpAnyH_ready (rs := [25]) (by kernel_rfl) (by simp) ?_
                            refine AllReadyH.cons (o := _) rfl (fun K hK => ?_) AllReadyH.nil
                            · have hfr := fin_row (v0 := CC + KN) (v1 := LG + (TO - AT)) (l := (AT, TO) :: scaleW a r) (base := base) hqq (by rw [List.length_cons, HRL.out]; omega) (by have := HBASE.out; omega) hneq hBx
                              have hgF : w2.grownBy _ none := gr_grown (show w2.grownBy W24 none from (by repeat (first | exact gr_refl _ _ | assumption | refine gr_drew ?_ | refine gr_alloc ?_ _))) hfr.2.2 (fun kk h => .inr (by injection h with h; omega))
                              have x0 := hBx.cell 0
                              have x1 := hBx.cell 1
                              have x2 := hBx.cell 2
                              have xf := hBx.free
                              have xl := hBx.lt
                              go_simp
                              refine hK.out _ _ (KX.out _ hgF) (fun hHeld25 => ?_)
                              clear hK K
                              (try simp only [Act.put, List.setIfInBounds_toArray, List.set_cons_zero, List.set_cons_succ])
                              refine wpAnyH_done (by kernel_rfl) ?_ _
                              go_wp2_with fail
                              go_meet
                              exact ⟨_, _, rfl, by have := HBASE.out; omega, hfr.1, hfr.2.1, hgF⟩
                        · go_simp
                          have hBx := Blk.new W17 86 #[.int .i64 0, .int .i64 0, .slice none 0 0]
                          have hshBx := World.grownBy.size (show w2.grownBy W17 none from (by repeat (first | exact gr_refl _ _ | assumption | refine gr_drew ?_ | refine gr_alloc ?_ _)))
                          have hne := Nat.ne_of_lt hB4.lt
                          replace hB4 := hB4.alloc (.cells #[.int .i64 0, .int .i64 0, .slice none 0 0] 86)
                          have hgW24 : w2.grownBy (W17.alloc (.cells #[.int .i64 0, .int .i64 0, .slice none 0 0] 86)) none := (by repeat (first | exact gr_refl _ _ | assumption | refine gr_drew ?_ | refine gr_alloc ?_ _))
                          generalize W17.alloc (.cells #[.int .i64 0, .int .i64 0, .slice none 0 0] 86) = W24 at *
                          refine hK.out _ _ (KX.out _ (by repeat (first | exact gr_refl _ _ | assumption | refine gr_drew ?_ | refine gr_alloc ?_ _))) (fun hHeld24 => ?_)
                          clear hK K
                          (try simp only [Act.put, List.setIfInBounds_toArray, List.set_cons_zero, List.set_cons_succ])
                          refine wpAnyH_ready (rs := [22]) (by kernel_rfl) (by simp) ?_
                          refine AllReadyH.cons (o := _) rfl (fun K hK => ?_) AllReadyH.nil
                          · refine step_append_lies _ (by rfl) (.tmp 84) (.tmp 88) 40 (by rfl) w2.heap.size 27 j0 _ 2 16 Try.underlying40 hj hy0 hy1 hy2 rfl (by decide) _ 1 _ (by simp [Act.eval]) (win_own hB4 hshB4) ⟨gs, 0, none⟩ RL cs (wcells (scaleW a r)) (by simp [Act.eval]) (by rw [wcells_len, HRL.out]) (HSC.out _ (by repeat (first | exact gr_refl _ _ | assumption | refine gr_drew ?_ | refine gr_alloc ?_ _))) (wins_one _) hRp (by unfold maxLen; omega) (by omega) (World.grownBy.size (show w2.grownBy _ none from (by repeat (first | exact gr_refl _ _ | assumption | refine gr_drew ?_ | refine gr_alloc ?_ _)))) _ rfl ?_
                            intro gq cap wP hqq hgq hat hglt
                            have hgP2 : w2.grownBy wP none := gr_grown (show w2.grownBy _ none from (by repeat (first | exact gr_refl _ _ | assumption | refine gr_drew ?_ | refine gr_alloc ?_ _))) hgq (fun kk h => .inr (by have := ownBF h; omega))
                            have hneq : gq ≠ _ := append_ne hat hBx.lt (by first | exact .inl hne | exact .inr hne)
                            replace hBx := Blk.grown hBx hgq (append_row (by first | exact .inl hne | exact .inr hne))
                            refine hK.out _ _ (KX.out _ (by repeat (first | exact gr_refl _ _ | assumption | refine gr_drew ?_ | refine gr_alloc ?_ _))) (fun hHeld22 => ?_)
                            clear hK K
                            (try simp only [Act.put, List.setIfInBounds_toArray, List.set_cons_zero, List.set_cons_succ])
                            refine wpAnyH_take (i := 23) (v := ?_) rfl (by kernel_rfl) (by kernel_rfl) (by kernel_rfl) (fun _ _ _ h => h) (Or.inl ⟨by kernel_rfl, ?_⟩) hHeld22 ?_
                            rotate_left
                            · intro w hSw
                              (try dsimp only at hSw)
                              obtain ⟨hS0, hS1, hS2, hS3, hS4, hS5, hS6⟩ := hSw
                              go_simp
                              (try with_reducible rfl)
                            change wpAnyH _ _ _ _ _ _ _ (Act.put _ (some 90) _) _
                            simp only [Act.put, List.setIfInBounds_toArray, List.set_cons_zero, List.set_cons_succ]
                            refine wpAnyH_ready (rs := [25]) (by kernel_rfl) (by simp) ?_
                            refine AllReadyH.cons (o := _) rfl (fun K hK => ?_) AllReadyH.nil
                            · have hfr := fin_row (v0 := CC + KN) (v1 := LG + (TO - AT)) (l := (AT, TO) :: scaleW a r) (base := base) hqq (by rw [List.length_cons, HRL.out]; omega) (by have := HBASE.out; omega) hneq hBx
                              have hgF : w2.grownBy _ none := gr_grown (show w2.grownBy wP none from (by repeat (first | exact gr_refl _ _ | assumption | refine gr_drew ?_ | refine gr_alloc ?_ _))) hfr.2.2 (fun kk h => .inr (by injection h with h; omega))
                              have x0 := hBx.cell 0
                              have x1 := hBx.cell 1
                              have x2 := hBx.cell 2
                              have xf := hBx.free
                              have xl := hBx.lt
                              go_simp
                              refine hK.out _ _ (KX.out _ hgF) (fun hHeld25 => ?_)
                              clear hK K
                              (try simp only [Act.put, List.setIfInBounds_toArray, List.set_cons_zero, List.set_cons_succ])
                              refine wpAnyH_done (by kernel_rfl) ?_ _
                              go_wp2_with fail
                              go_meet
                              exact ⟨_, _, rfl, by have := HBASE.out; omega, hfr.1, hfr.2.1, hgF⟩
                      · go_simp
                        have hBx := Blk.new wM 86 #[.int .i64 0, .int .i64 0, .slice none 0 0]
                        have hshBx := World.grownBy.size (show w2.grownBy wM none from (by repeat (first | exact gr_refl _ _ | assumption | refine gr_drew ?_ | refine gr_alloc ?_ _)))
                        have hgW24 : w2.grownBy (wM.alloc (.cells #[.int .i64 0, .int .i64 0, .slice none 0 0] 86)) none := (by repeat (first | exact gr_refl _ _ | assumption | refine gr_drew ?_ | refine gr_alloc ?_ _))
                        generalize wM.alloc (.cells #[.int .i64 0, .int .i64 0, .slice none 0 0] 86) = W24 at *
                        refine hK.out _ _ (KX.out _ (by repeat (first | exact gr_refl _ _ | assumption | refine gr_drew ?_ | refine gr_alloc ?_ _))) (fun hHeld24 => ?_)
                        clear hK K
                        (try simp only [Act.put, List.setIfInBounds_toArray, List.set_cons_zero, List.set_cons_succ])
                        refine wpAnyH_ready (rs := [17]) (by kernel_rfl) (by simp) ?_
                        refine AllReadyH.cons (o := _) rfl (fun K hK => ?_) AllReadyH.nil
                        · go_simp
                          have hB4 := Blk.new W24 27 #[.int .i64 AT, .int .i64 TO]
                          have hshB4 := World.grownBy.size (show w2.grownBy W24 none from (by repeat (first | exact gr_refl _ _ | assumption | refine gr_drew ?_ | refine gr_alloc ?_ _)))
                          have hne := Nat.ne_of_lt hBx.lt
                          replace hBx := hBx.alloc (.cells #[.int .i64 AT, .int .i64 TO] 27)
                          have hgW17 : w2.grownBy (W24.alloc (.cells #[.int .i64 AT, .int .i64 TO] 27)) none := (by repeat (first | exact gr_refl _ _ | assumption | refine gr_drew ?_ | refine gr_alloc ?_ _))
                          generalize W24.alloc (.cells #[.int .i64 AT, .int .i64 TO] 27) = W17 at *
                          refine hK.out _ _ (KX.out _ (by repeat (first | exact gr_refl _ _ | assumption | refine gr_drew ?_ | refine gr_alloc ?_ _))) (fun hHeld17 => ?_)
                          clear hK K
                          (try simp only [Act.put, List.setIfInBounds_toArray, List.set_cons_zero, List.set_cons_succ])
                          refine wpAnyH_ready (rs := [22]) (by kernel_rfl) (by simp) ?_
                          refine AllReadyH.cons (o := _) rfl (fun K hK => ?_) AllReadyH.nil
                          · refine step_append_lies _ (by rfl) (.tmp 84) (.tmp 88) 40 (by rfl) w2.heap.size 27 j0 _ 2 16 Try.underlying40 hj hy0 hy1 hy2 rfl (by decide) _ 1 _ (by simp [Act.eval]) (win_own hB4 hshB4) ⟨gs, 0, none⟩ RL cs (wcells (scaleW a r)) (by simp [Act.eval]) (by rw [wcells_len, HRL.out]) (HSC.out _ (by repeat (first | exact gr_refl _ _ | assumption | refine gr_drew ?_ | refine gr_alloc ?_ _))) (wins_one _) hRp (by unfold maxLen; omega) (by omega) (World.grownBy.size (show w2.grownBy _ none from (by repeat (first | exact gr_refl _ _ | assumption | refine gr_drew ?_ | refine gr_alloc ?_ _)))) _ rfl ?_
                            intro gq cap wP hqq hgq hat hglt
                            have hgP2 : w2.grownBy wP none := gr_grown (show w2.grownBy _ none from (by repeat (first | exact gr_refl _ _ | assumption | refine gr_drew ?_ | refine gr_alloc ?_ _))) hgq (fun kk h => .inr (by have := ownBF h; omega))
                            have hneq : gq ≠ _ := append_ne hat hBx.lt (by first | exact .inl hne | exact .inr hne)
                            replace hBx := Blk.grown hBx hgq (append_row (by first | exact .inl hne | exact .inr hne))
                            refine hK.out _ _ (KX.out _ (by repeat (first | exact gr_refl _ _ | assumption | refine gr_drew ?_ | refine gr_alloc ?_ _))) (fun hHeld22 => ?_)
                            clear hK K
                            (try simp only [Act.put, List.setIfInBounds_toArray, List.set_cons_zero, List.set_cons_succ])
                            refine wpAnyH_take (i := 23) (v := ?_) rfl (by kernel_rfl) (by kernel_rfl) (by kernel_rfl) (fun _ _ _ h => h) (Or.inl ⟨by kernel_rfl, ?_⟩) hHeld22 ?_
                            rotate_left
                            · intro w hSw
                              (try dsimp only at hSw)
                              obtain ⟨hS0, hS1, hS2, hS3, hS4, hS5, hS6⟩ := hSw
                              go_simp
                              (try with_reducible rfl)
                            change wpAnyH _ _ _ _ _ _ _ (Act.put _ (some 90) _) _
                            simp only [Act.put, List.setIfInBounds_toArray, List.set_cons_zero, List.set_cons_succ]
                            refine wpAnyH_ready (rs := [25]) (by kernel_rfl) (by simp) ?_
                            refine AllReadyH.cons (o := _) rfl (fun K hK => ?_) AllReadyH.nil
                            · have hfr := fin_row (v0 := CC + KN) (v1 := LG + (TO - AT)) (l := (AT, TO) :: scaleW a r) (base := base) hqq (by rw [List.length_cons, HRL.out]; omega) (by have := HBASE.out; omega) hneq hBx
                              have hgF : w2.grownBy _ none := gr_grown (show w2.grownBy wP none from (by repeat (first | exact gr_refl _ _ | assumption | refine gr_drew ?_ | refine gr_alloc ?_ _))) hfr.2.2 (fun kk h => .inr (by injection h with h; omega))
                              have x0 := hBx.cell 0
                              have x1 := hBx.cell 1
                              have x2 := hBx.cell 2
                              have xf := hBx.free
                              have xl := hBx.lt
                              go_simp
                              refine hK.out _ _ (KX.out _ hgF) (fun hHeld25 => ?_)
                              clear hK K
                              (try simp only [Act.put, List.setIfInBounds_toArray, List.set_cons_zero, List.set_cons_succ])
                              refine wpAnyH_done (by kernel_rfl) ?_ _
                              go_wp2_with fail
                              go_meet
                              exact ⟨_, _, rfl, by have := HBASE.out; omega, hfr.1, hfr.2.1, hgF⟩
                    · go_simp
                      have hB4 := Blk.new w2 27 #[.int .i64 AT, .int .i64 TO]
                      have hshB4 := World.grownBy.size (show w2.grownBy w2 none from (by repeat (first | exact gr_refl _ _ | assumption | refine gr_drew ?_ | refine gr_alloc ?_ _)))
                      have hgW17 : w2.grownBy (w2.alloc (.cells #[.int .i64 AT, .int .i64 TO] 27)) none := (by repeat (first | exact gr_refl _ _ | assumption | refine gr_drew ?_ | refine gr_alloc ?_ _))
                      generalize w2.alloc (.cells #[.int .i64 AT, .int .i64 TO] 27) = W17 at *
                      refine hK.out _ _ (KX.out _ (by repeat (first | exact gr_refl _ _ | assumption | refine gr_drew ?_ | refine gr_alloc ?_ _))) (fun hHeld17 => ?_)
                      clear hK K
                      (try simp only [Act.put, List.setIfInBounds_toArray, List.set_cons_zero, List.set_cons_succ])
                      refine wpAnyH_ready (rs := [6, 24]) (by kernel_rfl) (by simp) ?_
                      refine AllReadyH.cons (o := _) rfl (fun K hK => ?_) (AllReadyH.cons (o := _) rfl (fun K hK => ?_) AllReadyH.nil)
                      · go_simp
                        (go_at_call 44; refine (HMI.out _ (HLN.out.grown (by repeat (first | exact gr_refl _ _ | assumption | refine gr_drew ?_ | refine gr_alloc ?_ _)))).mono ?_; rintro _ wM ⟨rfl, hgM⟩)
                        have hgM2 := gr_trans (show w2.grownBy _ none from (by repeat (first | exact gr_refl _ _ | assumption | refine gr_drew ?_ | refine gr_alloc ?_ _))) hgM
                        replace hB4 := Blk.grown hB4.drew hgM (by simp)
                        refine hK.out _ _ (KX.out _ (by repeat (first | exact gr_refl _ _ | assumption | refine gr_drew ?_ | refine gr_alloc ?_ _))) (fun hHeld6 => ?_)
                        clear hK K
                        (try simp only [Act.put, List.setIfInBounds_toArray, List.set_cons_zero, List.set_cons_succ])
                        refine wpAnyH_take (i := 7) (v := ?_) rfl (by kernel_rfl) (by kernel_rfl) (by kernel_rfl) (fun _ _ _ h => h) (Or.inl ⟨by kernel_rfl, ?_⟩) hHeld6 ?_
                        rotate_left
                        · intro w hSw
                          (try dsimp only at hSw)
                          obtain ⟨hS0, hS1, hS2, hS3, hS4, hS5, hS6⟩ := hSw
                          go_simp
                          (try with_reducible rfl)
                        change wpAnyH _ _ _ _ _ _ _ (Act.put _ (some 74) _) _
                        simp only [Act.put, List.setIfInBounds_toArray, List.set_cons_zero, List.set_cons_succ]
                        refine wpAnyH_ready (rs := [22, 24]) (by kernel_rfl) (by simp) ?_
                        refine AllReadyH.cons (o := _) rfl (fun K hK => ?_) (AllReadyH.cons (o := _) rfl (fun K hK => ?_) AllReadyH.nil)
                        · refine step_append_lies _ (by rfl) (.tmp 84) (.tmp 88) 40 (by rfl) w2.heap.size 27 j0 _ 2 16 Try.underlying40 hj hy0 hy1 hy2 rfl (by decide) _ 1 _ (by simp [Act.eval]) (win_own hB4 hshB4) ⟨gs, 0, none⟩ RL cs (wcells (scaleW a r)) (by simp [Act.eval]) (by rw [wcells_len, HRL.out]) (HSC.out _ (by repeat (first | exact gr_refl _ _ | assumption | refine gr_drew ?_ | refine gr_alloc ?_ _))) (wins_one _) hRp (by unfold maxLen; omega) (by omega) (World.grownBy.size (show w2.grownBy _ none from (by repeat (first | exact gr_refl _ _ | assumption | refine gr_drew ?_ | refine gr_alloc ?_ _)))) _ rfl ?_
                          intro gq cap wP hqq hgq hat hglt
                          have hgP2 : w2.grownBy wP none := gr_grown (show w2.grownBy _ none from (by repeat (first | exact gr_refl _ _ | assumption | refine gr_drew ?_ | refine gr_alloc ?_ _))) hgq (fun kk h => .inr (by have := ownBF h; omega))
                          refine hK.out _ _ (KX.out _ (by repeat (first | exact gr_refl _ _ | assumption | refine gr_drew ?_ | refine gr_alloc ?_ _))) (fun hHeld22 => ?_)
                          clear hK K
                          (try simp only [Act.put, List.setIfInBounds_toArray, List.set_cons_zero, List.set_cons_succ])
                          refine wpAnyH_take (i := 23) (v := ?_) rfl (by kernel_rfl) (by kernel_rfl) (by kernel_rfl) (fun _ _ _ h => h) (Or.inl ⟨by kernel_rfl, ?_⟩) hHeld22 ?_
                          rotate_left
                          · intro w hSw
                            (try dsimp only at hSw)
                            obtain ⟨hS0, hS1, hS2, hS3, hS4, hS5, hS6⟩ := hSw
                            go_simp
                            (try with_reducible rfl)
                          change wpAnyH _ _ _ _ _ _ _ (Act.put _ (some 90) _) _
                          simp only [Act.put, List.setIfInBounds_toArray, List.set_cons_zero, List.set_cons_succ]
                          refine wpAnyH_ready (rs := [24]) (by kernel_rfl) (by simp) ?_
                          refine AllReadyH.cons (o := _) rfl (fun K hK => ?_) AllReadyH.nil
                          · go_simp
                            have hBx := Blk.new wP 86 #[.int .i64 0, .int .i64 0, .slice none 0 0]
                            have hshBx := World.grownBy.size (show w2.grownBy wP none from (by repeat (first | exact gr_refl _ _ | assumption | refine gr_drew ?_ | refine gr_alloc ?_ _)))
                            have hne := Nat.ne_of_lt hB4.lt
                            replace hB4 := hB4.alloc (.cells #[.int .i64 0, .int .i64 0, .slice none 0 0] 86)
                            replace hqq := World.ownsRow.alloc hqq (.cells #[.int .i64 0, .int .i64 0, .slice none 0 0] 86)
                            have hneq := Nat.ne_of_lt hglt
                            have hgW24 : w2.grownBy (wP.alloc (.cells #[.int .i64 0, .int .i64 0, .slice none 0 0] 86)) none := (by repeat (first | exact gr_refl _ _ | assumption | refine gr_drew ?_ | refine gr_alloc ?_ _))
                            generalize wP.alloc (.cells #[.int .i64 0, .int .i64 0, .slice none 0 0] 86) = W24 at *
                            refine hK.out _ _ (KX.out _ (by repeat (first | exact gr_refl _ _ | assumption | refine gr_drew ?_ | refine gr_alloc ?_ _))) (fun hHeld24 => ?_)
                            clear hK K
                            (try simp only [Act.put, List.setIfInBounds_toArray, List.set_cons_zero, List.set_cons_succ])
                            refine wpAnyH_ready (rs := [25]) (by kernel_rfl) (by simp) ?_
                            refine AllReadyH.cons (o := _) rfl (fun K hK => ?_) AllReadyH.nil
                            · have hfr := fin_row (v0 := CC + KN) (v1 := LG + (TO - AT)) (l := (AT, TO) :: scaleW a r) (base := base) hqq (by rw [List.length_cons, HRL.out]; omega) (by have := HBASE.out; omega) hneq hBx
                              have hgF : w2.grownBy _ none := gr_grown (show w2.grownBy W24 none from (by repeat (first | exact gr_refl _ _ | assumption | refine gr_drew ?_ | refine gr_alloc ?_ _))) hfr.2.2 (fun kk h => .inr (by injection h with h; omega))
                              have x0 := hBx.cell 0
                              have x1 := hBx.cell 1
                              have x2 := hBx.cell 2
                              have xf := hBx.free
                              have xl := hBx.lt
                              go_simp
                              refine hK.out _ _ (KX.out _ hgF) (fun hHeld25 => ?_)
                              clear hK K
                              (try simp only [Act.put, List.setIfInBounds_toArray, List.set_cons_zero, List.set_cons_succ])
                              refine wpAnyH_done (by kernel_rfl) ?_ _
                              go_wp2_with fail
                              go_meet
                              exact ⟨_, _, rfl, by have := HBASE.out; omega, hfr.1, hfr.2.1, hgF⟩
                        · go_simp
                          have hBx := Blk.new wM 86 #[.int .i64 0, .int .i64 0, .slice none 0 0]
                          have hshBx := World.grownBy.size (show w2.grownBy wM none from (by repeat (first | exact gr_refl _ _ | assumption | refine gr_drew ?_ | refine gr_alloc ?_ _)))
                          have hne := Nat.ne_of_lt hB4.lt
                          replace hB4 := hB4.alloc (.cells #[.int .i64 0, .int .i64 0, .slice none 0 0] 86)
                          have hgW24 : w2.grownBy (wM.alloc (.cells #[.int .i64 0, .int .i64 0, .slice none 0 0] 86)) none := (by repeat (first | exact gr_refl _ _ | assumption | refine gr_drew ?_ | refine gr_alloc ?_ _))
                          generalize wM.alloc (.cells #[.int .i64 0, .int .i64 0, .slice none 0 0] 86) = W24 at *
                          refine hK.out _ _ (KX.out _ (by repeat (first | exact gr_refl _ _ | assumption | refine gr_drew ?_ | refine gr_alloc ?_ _))) (fun hHeld24 => ?_)
                          clear hK K
                          (try simp only [Act.put, List.setIfInBounds_toArray, List.set_cons_zero, List.set_cons_succ])
                          refine wpAnyH_ready (rs := [22]) (by kernel_rfl) (by simp) ?_
                          refine AllReadyH.cons (o := _) rfl (fun K hK => ?_) AllReadyH.nil
                          · refine step_append_lies _ (by rfl) (.tmp 84) (.tmp 88) 40 (by rfl) w2.heap.size 27 j0 _ 2 16 Try.underlying40 hj hy0 hy1 hy2 rfl (by decide) _ 1 _ (by simp [Act.eval]) (win_own hB4 hshB4) ⟨gs, 0, none⟩ RL cs (wcells (scaleW a r)) (by simp [Act.eval]) (by rw [wcells_len, HRL.out]) (HSC.out _ (by repeat (first | exact gr_refl _ _ | assumption | refine gr_drew ?_ | refine gr_alloc ?_ _))) (wins_one _) hRp (by unfold maxLen; omega) (by omega) (World.grownBy.size (show w2.grownBy _ none from (by repeat (first | exact gr_refl _ _ | assumption | refine gr_drew ?_ | refine gr_alloc ?_ _)))) _ rfl ?_
                            intro gq cap wP hqq hgq hat hglt
                            have hgP2 : w2.grownBy wP none := gr_grown (show w2.grownBy _ none from (by repeat (first | exact gr_refl _ _ | assumption | refine gr_drew ?_ | refine gr_alloc ?_ _))) hgq (fun kk h => .inr (by have := ownBF h; omega))
                            have hneq : gq ≠ _ := append_ne hat hBx.lt (by first | exact .inl hne | exact .inr hne)
                            replace hBx := Blk.grown hBx hgq (append_row (by first | exact .inl hne | exact .inr hne))
                            refine hK.out _ _ (KX.out _ (by repeat (first | exact gr_refl _ _ | assumption | refine gr_drew ?_ | refine gr_alloc ?_ _))) (fun hHeld22 => ?_)
                            clear hK K
                            (try simp only [Act.put, List.setIfInBounds_toArray, List.set_cons_zero, List.set_cons_succ])
                            refine wpAnyH_take (i := 23) (v := ?_) rfl (by kernel_rfl) (by kernel_rfl) (by kernel_rfl) (fun _ _ _ h => h) (Or.inl ⟨by kernel_rfl, ?_⟩) hHeld22 ?_
                            rotate_left
                            · intro w hSw
                              (try dsimp only at hSw)
                              obtain ⟨hS0, hS1, hS2, hS3, hS4, hS5, hS6⟩ := hSw
                              go_simp
                              (try with_reducible rfl)
                            change wpAnyH _ _ _ _ _ _ _ (Act.put _ (some 90) _) _
                            simp only [Act.put, List.setIfInBounds_toArray, List.set_cons_zero, List.set_cons_succ]
                            refine wpAnyH_ready (rs := [25]) (by kernel_rfl) (by simp) ?_
                            refine AllReadyH.cons (o := _) rfl (fun K hK => ?_) AllReadyH.nil
                            · have hfr := fin_row (v0 := CC + KN) (v1 := LG + (TO - AT)) (l := (AT, TO) :: scaleW a r) (base := base) hqq (by rw [List.length_cons, HRL.out]; omega) (by have := HBASE.out; omega) hneq hBx
                              have hgF : w2.grownBy _ none := gr_grown (show w2.grownBy wP none from (by repeat (first | exact gr_refl _ _ | assumption | refine gr_drew ?_ | refine gr_alloc ?_ _))) hfr.2.2 (fun kk h => .inr (by injection h with h; omega))
                              have x0 := hBx.cell 0
                              have x1 := hBx.cell 1
                              have x2 := hBx.cell 2
                              have xf := hBx.free
                              have xl := hBx.lt
                              go_simp
                              refine hK.out _ _ (KX.out _ hgF) (fun hHeld25 => ?_)
                              clear hK K
                              (try simp only [Act.put, List.setIfInBounds_toArray, List.set_cons_zero, List.set_cons_succ])
                              refine wpAnyH_done (by kernel_rfl) ?_ _
                              go_wp2_with fail
                              go_meet
                              exact ⟨_, _, rfl, by have := HBASE.out; omega, hfr.1, hfr.2.1, hgF⟩
                      · go_simp
                        have hBx := Blk.new W17 86 #[.int .i64 0, .int .i64 0, .slice none 0 0]
                        have hshBx := World.grownBy.size (show w2.grownBy W17 none from (by repeat (first | exact gr_refl _ _ | assumption | refine gr_drew ?_ | refine gr_alloc ?_ _)))
                        have hne := Nat.ne_of_lt hB4.lt
                        replace hB4 := hB4.alloc (.cells #[.int .i64 0, .int .i64 0, .slice none 0 0] 86)
                        have hgW24 : w2.grownBy (W17.alloc (.cells #[.int .i64 0, .int .i64 0, .slice none 0 0] 86)) none := (by repeat (first | exact gr_refl _ _ | assumption | refine gr_drew ?_ | refine gr_alloc ?_ _))
                        generalize W17.alloc (.cells #[.int .i64 0, .int .i64 0, .slice none 0 0] 86) = W24 at *
                        refine hK.out _ _ (KX.out _ (by repeat (first | exact gr_refl _ _ | assumption | refine gr_drew ?_ | refine gr_alloc ?_ _))) (fun hHeld24 => ?_)
                        clear hK K
                        (try simp only [Act.put, List.setIfInBounds_toArray, List.set_cons_zero, List.set_cons_succ])
                        refine wpAnyH_ready (rs := [6]) (by kernel_rfl) (by simp) ?_
                        refine AllReadyH.cons (o := _) rfl (fun K hK => ?_) AllReadyH.nil
                        · go_simp
                          (go_at_call 44; refine (HMI.out _ (HLN.out.grown (by repeat (first | exact gr_refl _ _ | assumption | refine gr_drew ?_ | refine gr_alloc ?_ _)))).mono ?_; rintro _ wM ⟨rfl, hgM⟩)
                          have hgM2 := gr_trans (show w2.grownBy _ none from (by repeat (first | exact gr_refl _ _ | assumption | refine gr_drew ?_ | refine gr_alloc ?_ _))) hgM
                          replace hB4 := Blk.grown hB4.drew hgM (by simp)
                          replace hBx := Blk.grown hBx.drew hgM (by simp)
                          refine hK.out _ _ (KX.out _ (by repeat (first | exact gr_refl _ _ | assumption | refine gr_drew ?_ | refine gr_alloc ?_ _))) (fun hHeld6 => ?_)
                          clear hK K
                          (try simp only [Act.put, List.setIfInBounds_toArray, List.set_cons_zero, List.set_cons_succ])
                          refine wpAnyH_take (i := 7) (v := ?_) rfl (by kernel_rfl) (by kernel_rfl) (by kernel_rfl) (fun _ _ _ h => h) (Or.inl ⟨by kernel_rfl, ?_⟩) hHeld6 ?_
                          rotate_left
                          · intro w hSw
                            (try dsimp only at hSw)
                            obtain ⟨hS0, hS1, hS2, hS3, hS4, hS5, hS6⟩ := hSw
                            go_simp
                            (try with_reducible rfl)
                          change wpAnyH _ _ _ _ _ _ _ (Act.put _ (some 74) _) _
                          simp only [Act.put, List.setIfInBounds_toArray, List.set_cons_zero, List.set_cons_succ]
                          refine wpAnyH_ready (rs := [22]) (by kernel_rfl) (by simp) ?_
                          refine AllReadyH.cons (o := _) rfl (fun K hK => ?_) AllReadyH.nil
                          · refine step_append_lies _ (by rfl) (.tmp 84) (.tmp 88) 40 (by rfl) w2.heap.size 27 j0 _ 2 16 Try.underlying40 hj hy0 hy1 hy2 rfl (by decide) _ 1 _ (by simp [Act.eval]) (win_own hB4 hshB4) ⟨gs, 0, none⟩ RL cs (wcells (scaleW a r)) (by simp [Act.eval]) (by rw [wcells_len, HRL.out]) (HSC.out _ (by repeat (first | exact gr_refl _ _ | assumption | refine gr_drew ?_ | refine gr_alloc ?_ _))) (wins_one _) hRp (by unfold maxLen; omega) (by omega) (World.grownBy.size (show w2.grownBy _ none from (by repeat (first | exact gr_refl _ _ | assumption | refine gr_drew ?_ | refine gr_alloc ?_ _)))) _ rfl ?_
                            intro gq cap wP hqq hgq hat hglt
                            have hgP2 : w2.grownBy wP none := gr_grown (show w2.grownBy _ none from (by repeat (first | exact gr_refl _ _ | assumption | refine gr_drew ?_ | refine gr_alloc ?_ _))) hgq (fun kk h => .inr (by have := ownBF h; omega))
                            have hneq : gq ≠ _ := append_ne hat hBx.lt (by first | exact .inl hne | exact .inr hne)
                            replace hBx := Blk.grown hBx hgq (append_row (by first | exact .inl hne | exact .inr hne))
                            refine hK.out _ _ (KX.out _ (by repeat (first | exact gr_refl _ _ | assumption | refine gr_drew ?_ | refine gr_alloc ?_ _))) (fun hHeld22 => ?_)
                            clear hK K
                            (try simp only [Act.put, List.setIfInBounds_toArray, List.set_cons_zero, List.set_cons_succ])
                            refine wpAnyH_take (i := 23) (v := ?_) rfl (by kernel_rfl) (by kernel_rfl) (by kernel_rfl) (fun _ _ _ h => h) (Or.inl ⟨by kernel_rfl, ?_⟩) hHeld22 ?_
                            rotate_left
                            · intro w hSw
                              (try dsimp only at hSw)
                              obtain ⟨hS0, hS1, hS2, hS3, hS4, hS5, hS6⟩ := hSw
                              go_simp
                              (try with_reducible rfl)
                            change wpAnyH _ _ _ _ _ _ _ (Act.put _ (some 90) _) _
                            simp only [Act.put, List.setIfInBounds_toArray, List.set_cons_zero, List.set_cons_succ]
                            refine wpAnyH_ready (rs := [25]) (by kernel_rfl) (by simp) ?_
                            refine AllReadyH.cons (o := _) rfl (fun K hK => ?_) AllReadyH.nil
                            · have hfr := fin_row (v0 := CC + KN) (v1 := LG + (TO - AT)) (l := (AT, TO) :: scaleW a r) (base := base) hqq (by rw [List.length_cons, HRL.out]; omega) (by have := HBASE.out; omega) hneq hBx
                              have hgF : w2.grownBy _ none := gr_grown (show w2.grownBy wP none from (by repeat (first | exact gr_refl _ _ | assumption | refine gr_drew ?_ | refine gr_alloc ?_ _))) hfr.2.2 (fun kk h => .inr (by injection h with h; omega))
                              have x0 := hBx.cell 0
                              have x1 := hBx.cell 1
                              have x2 := hBx.cell 2
                              have xf := hBx.free
                              have xl := hBx.lt
                              go_simp
                              refine hK.out _ _ (KX.out _ hgF) (fun hHeld25 => ?_)
                              clear hK K
                              (try simp only [Act.put, List.setIfInBounds_toArray, List.set_cons_zero, List.set_cons_succ])
                              refine wpAnyH_done (by kernel_rfl) ?_ _
                              go_wp2_with fail
                              go_meet
                              exact ⟨_, _, rfl, by have := HBASE.out; omega, hfr.1, hfr.2.1, hgF⟩
                    · go_simp
                      have hBx := Blk.new w2 86 #[.int .i64 0, .int .i64 0, .slice none 0 0]
                      have hshBx := World.grownBy.size (show w2.grownBy w2 none from (by repeat (first | exact gr_refl _ _ | assumption | refine gr_drew ?_ | refine gr_alloc ?_ _)))
                      have hgW24 : w2.grownBy (w2.alloc (.cells #[.int .i64 0, .int .i64 0, .slice none 0 0] 86)) none := (by repeat (first | exact gr_refl _ _ | assumption | refine gr_drew ?_ | refine gr_alloc ?_ _))
                      generalize w2.alloc (.cells #[.int .i64 0, .int .i64 0, .slice none 0 0] 86) = W24 at *
                      refine hK.out _ _ (KX.out _ (by repeat (first | exact gr_refl _ _ | assumption | refine gr_drew ?_ | refine gr_alloc ?_ _))) (fun hHeld24 => ?_)
                      clear hK K
                      (try simp only [Act.put, List.setIfInBounds_toArray, List.set_cons_zero, List.set_cons_succ])
                      refine wpAnyH_ready (rs := [6, 17]) (by kernel_rfl) (by simp) ?_
                      refine AllReadyH.cons (o := _) rfl (fun K hK => ?_) (AllReadyH.cons (o := _) rfl (fun K hK => ?_) AllReadyH.nil)
                      · go_simp
                        (go_at_call 44; refine (HMI.out _ (HLN.out.grown (by repeat (first | exact gr_refl _ _ | assumption | refine gr_drew ?_ | refine gr_alloc ?_ _)))).mono ?_; rintro _ wM ⟨rfl, hgM⟩)
                        have hgM2 := gr_trans (show w2.grownBy _ none from (by repeat (first | exact gr_refl _ _ | assumption | refine gr_drew ?_ | refine gr_alloc ?_ _))) hgM
                        replace hBx := Blk.grown hBx.drew hgM (by simp)
                        refine hK.out _ _ (KX.out _ (by repeat (first | exact gr_refl _ _ | assumption | refine gr_drew ?_ | refine gr_alloc ?_ _))) (fun hHeld6 => ?_)
                        clear hK K
                        (try simp only [Act.put, List.setIfInBounds_toArray, List.set_cons_zero, List.set_cons_succ])
                        refine wpAnyH_take (i := 7) (v := ?_) rfl (by kernel_rfl) (by kernel_rfl) (by kernel_rfl) (fun _ _ _ h => h) (Or.inl ⟨by kernel_rfl, ?_⟩) hHeld6 ?_
                        rotate_left
                        · intro w hSw
                          (try dsimp only at hSw)
                          obtain ⟨hS0, hS1, hS2, hS3, hS4, hS5, hS6⟩ := hSw
                          go_simp
                          (try with_reducible rfl)
                        change wpAnyH _ _ _ _ _ _ _ (Act.put _ (some 74) _) _
                        simp only [Act.put, List.setIfInBounds_toArray, List.set_cons_zero, List.set_cons_succ]
                        refine wpAnyH_ready (rs := [17]) (by kernel_rfl) (by simp) ?_
                        refine AllReadyH.cons (o := _) rfl (fun K hK => ?_) AllReadyH.nil
                        · go_simp
                          have hB4 := Blk.new wM 27 #[.int .i64 AT, .int .i64 TO]
                          have hshB4 := World.grownBy.size (show w2.grownBy wM none from (by repeat (first | exact gr_refl _ _ | assumption | refine gr_drew ?_ | refine gr_alloc ?_ _)))
                          have hne := Nat.ne_of_lt hBx.lt
                          replace hBx := hBx.alloc (.cells #[.int .i64 AT, .int .i64 TO] 27)
                          have hgW17 : w2.grownBy (wM.alloc (.cells #[.int .i64 AT, .int .i64 TO] 27)) none := (by repeat (first | exact gr_refl _ _ | assumption | refine gr_drew ?_ | refine gr_alloc ?_ _))
                          generalize wM.alloc (.cells #[.int .i64 AT, .int .i64 TO] 27) = W17 at *
                          refine hK.out _ _ (KX.out _ (by repeat (first | exact gr_refl _ _ | assumption | refine gr_drew ?_ | refine gr_alloc ?_ _))) (fun hHeld17 => ?_)
                          clear hK K
                          (try simp only [Act.put, List.setIfInBounds_toArray, List.set_cons_zero, List.set_cons_succ])
                          refine wpAnyH_ready (rs := [22]) (by kernel_rfl) (by simp) ?_
                          refine AllReadyH.cons (o := _) rfl (fun K hK => ?_) AllReadyH.nil
                          · refine step_append_lies _ (by rfl) (.tmp 84) (.tmp 88) 40 (by rfl) w2.heap.size 27 j0 _ 2 16 Try.underlying40 hj hy0 hy1 hy2 rfl (by decide) _ 1 _ (by simp [Act.eval]) (win_own hB4 hshB4) ⟨gs, 0, none⟩ RL cs (wcells (scaleW a r)) (by simp [Act.eval]) (by rw [wcells_len, HRL.out]) (HSC.out _ (by repeat (first | exact gr_refl _ _ | assumption | refine gr_drew ?_ | refine gr_alloc ?_ _))) (wins_one _) hRp (by unfold maxLen; omega) (by omega) (World.grownBy.size (show w2.grownBy _ none from (by repeat (first | exact gr_refl _ _ | assumption | refine gr_drew ?_ | refine gr_alloc ?_ _)))) _ rfl ?_
                            intro gq cap wP hqq hgq hat hglt
                            have hgP2 : w2.grownBy wP none := gr_grown (show w2.grownBy _ none from (by repeat (first | exact gr_refl _ _ | assumption | refine gr_drew ?_ | refine gr_alloc ?_ _))) hgq (fun kk h => .inr (by have := ownBF h; omega))
                            have hneq : gq ≠ _ := append_ne hat hBx.lt (by first | exact .inl hne | exact .inr hne)
                            replace hBx := Blk.grown hBx hgq (append_row (by first | exact .inl hne | exact .inr hne))
                            refine hK.out _ _ (KX.out _ (by repeat (first | exact gr_refl _ _ | assumption | refine gr_drew ?_ | refine gr_alloc ?_ _))) (fun hHeld22 => ?_)
                            clear hK K
                            (try simp only [Act.put, List.setIfInBounds_toArray, List.set_cons_zero, List.set_cons_succ])
                            refine wpAnyH_take (i := 23) (v := ?_) rfl (by kernel_rfl) (by kernel_rfl) (by kernel_rfl) (fun _ _ _ h => h) (Or.inl ⟨by kernel_rfl, ?_⟩) hHeld22 ?_
                            rotate_left
                            · intro w hSw
                              (try dsimp only at hSw)
                              obtain ⟨hS0, hS1, hS2, hS3, hS4, hS5, hS6⟩ := hSw
                              go_simp
                              (try with_reducible rfl)
                            change wpAnyH _ _ _ _ _ _ _ (Act.put _ (some 90) _) _
                            simp only [Act.put, List.setIfInBounds_toArray, List.set_cons_zero, List.set_cons_succ]
                            refine wpAnyH_ready (rs := [25]) (by kernel_rfl) (by simp) ?_
                            refine AllReadyH.cons (o := _) rfl (fun K hK => ?_) AllReadyH.nil
                            · have hfr := fin_row (v0 := CC + KN) (v1 := LG + (TO - AT)) (l := (AT, TO) :: scaleW a r) (base := base) hqq (by rw [List.length_cons, HRL.out]; omega) (by have := HBASE.out; omega) hneq hBx
                              have hgF : w2.grownBy _ none := gr_grown (show w2.grownBy wP none from (by repeat (first | exact gr_refl _ _ | assumption | refine gr_drew ?_ | refine gr_alloc ?_ _))) hfr.2.2 (fun kk h => .inr (by injection h with h; omega))
                              have x0 := hBx.cell 0
                              have x1 := hBx.cell 1
                              have x2 := hBx.cell 2
                              have xf := hBx.free
                              have xl := hBx.lt
                              go_simp
                              refine hK.out _ _ (KX.out _ hgF) (fun hHeld25 => ?_)
                              clear hK K
                              (try simp only [Act.put, List.setIfInBounds_toArray, List.set_cons_zero, List.set_cons_succ])
                              refine wpAnyH_done (by kernel_rfl) ?_ _
                              go_wp2_with fail
                              go_meet
                              exact ⟨_, _, rfl, by have := HBASE.out; omega, hfr.1, hfr.2.1, hgF⟩
                      · go_simp
                        have hB4 := Blk.new W24 27 #[.int .i64 AT, .int .i64 TO]
                        have hshB4 := World.grownBy.size (show w2.grownBy W24 none from (by repeat (first | exact gr_refl _ _ | assumption | refine gr_drew ?_ | refine gr_alloc ?_ _)))
                        have hne := Nat.ne_of_lt hBx.lt
                        replace hBx := hBx.alloc (.cells #[.int .i64 AT, .int .i64 TO] 27)
                        have hgW17 : w2.grownBy (W24.alloc (.cells #[.int .i64 AT, .int .i64 TO] 27)) none := (by repeat (first | exact gr_refl _ _ | assumption | refine gr_drew ?_ | refine gr_alloc ?_ _))
                        generalize W24.alloc (.cells #[.int .i64 AT, .int .i64 TO] 27) = W17 at *
                        refine hK.out _ _ (KX.out _ (by repeat (first | exact gr_refl _ _ | assumption | refine gr_drew ?_ | refine gr_alloc ?_ _))) (fun hHeld17 => ?_)
                        clear hK K
                        (try simp only [Act.put, List.setIfInBounds_toArray, List.set_cons_zero, List.set_cons_succ])
                        refine wpAnyH_ready (rs := [6]) (by kernel_rfl) (by simp) ?_
                        refine AllReadyH.cons (o := _) rfl (fun K hK => ?_) AllReadyH.nil
                        · go_simp
                          (go_at_call 44; refine (HMI.out _ (HLN.out.grown (by repeat (first | exact gr_refl _ _ | assumption | refine gr_drew ?_ | refine gr_alloc ?_ _)))).mono ?_; rintro _ wM ⟨rfl, hgM⟩)
                          have hgM2 := gr_trans (show w2.grownBy _ none from (by repeat (first | exact gr_refl _ _ | assumption | refine gr_drew ?_ | refine gr_alloc ?_ _))) hgM
                          replace hB4 := Blk.grown hB4.drew hgM (by simp)
                          replace hBx := Blk.grown hBx.drew hgM (by simp)
                          refine hK.out _ _ (KX.out _ (by repeat (first | exact gr_refl _ _ | assumption | refine gr_drew ?_ | refine gr_alloc ?_ _))) (fun hHeld6 => ?_)
                          clear hK K
                          (try simp only [Act.put, List.setIfInBounds_toArray, List.set_cons_zero, List.set_cons_succ])
                          refine wpAnyH_take (i := 7) (v := ?_) rfl (by kernel_rfl) (by kernel_rfl) (by kernel_rfl) (fun _ _ _ h => h) (Or.inl ⟨by kernel_rfl, ?_⟩) hHeld6 ?_
                          rotate_left
                          · intro w hSw
                            (try dsimp only at hSw)
                            obtain ⟨hS0, hS1, hS2, hS3, hS4, hS5, hS6⟩ := hSw
                            go_simp
                            (try with_reducible rfl)
                          change wpAnyH _ _ _ _ _ _ _ (Act.put _ (some 74) _) _
                          simp only [Act.put, List.setIfInBounds_toArray, List.set_cons_zero, List.set_cons_succ]
                          refine wpAnyH_ready (rs := [22]) (by kernel_rfl) (by simp) ?_
                          refine AllReadyH.cons (o := _) rfl (fun K hK => ?_) AllReadyH.nil
                          · refine step_append_lies _ (by rfl) (.tmp 84) (.tmp 88) 40 (by rfl) w2.heap.size 27 j0 _ 2 16 Try.underlying40 hj hy0 hy1 hy2 rfl (by decide) _ 1 _ (by simp [Act.eval]) (win_own hB4 hshB4) ⟨gs, 0, none⟩ RL cs (wcells (scaleW a r)) (by simp [Act.eval]) (by rw [wcells_len, HRL.out]) (HSC.out _ (by repeat (first | exact gr_refl _ _ | assumption | refine gr_drew ?_ | refine gr_alloc ?_ _))) (wins_one _) hRp (by unfold maxLen; omega) (by omega) (World.grownBy.size (show w2.grownBy _ none from (by repeat (first | exact gr_refl _ _ | assumption | refine gr_drew ?_ | refine gr_alloc ?_ _)))) _ rfl ?_
                            intro gq cap wP hqq hgq hat hglt
                            have hgP2 : w2.grownBy wP none := gr_grown (show w2.grownBy _ none from (by repeat (first | exact gr_refl _ _ | assumption | refine gr_drew ?_ | refine gr_alloc ?_ _))) hgq (fun kk h => .inr (by have := ownBF h; omega))
                            have hneq : gq ≠ _ := append_ne hat hBx.lt (by first | exact .inl hne | exact .inr hne)
                            replace hBx := Blk.grown hBx hgq (append_row (by first | exact .inl hne | exact .inr hne))
                            refine hK.out _ _ (KX.out _ (by repeat (first | exact gr_refl _ _ | assumption | refine gr_drew ?_ | refine gr_alloc ?_ _))) (fun hHeld22 => ?_)
                            clear hK K
                            (try simp only [Act.put, List.setIfInBounds_toArray, List.set_cons_zero, List.set_cons_succ])
                            refine wpAnyH_take (i := 23) (v := ?_) rfl (by kernel_rfl) (by kernel_rfl) (by kernel_rfl) (fun _ _ _ h => h) (Or.inl ⟨by kernel_rfl, ?_⟩) hHeld22 ?_
                            rotate_left
                            · intro w hSw
                              (try dsimp only at hSw)
                              obtain ⟨hS0, hS1, hS2, hS3, hS4, hS5, hS6⟩ := hSw
                              go_simp
                              (try with_reducible rfl)
                            change wpAnyH _ _ _ _ _ _ _ (Act.put _ (some 90) _) _
                            simp only [Act.put, List.setIfInBounds_toArray, List.set_cons_zero, List.set_cons_succ]
                            refine wpAnyH_ready (rs := [25]) (by kernel_rfl) (by simp) ?_
                            refine AllReadyH.cons (o := _) rfl (fun K hK => ?_) AllReadyH.nil
                            · have hfr := fin_row (v0 := CC + KN) (v1 := LG + (TO - AT)) (l := (AT, TO) :: scaleW a r) (base := base) hqq (by rw [List.length_cons, HRL.out]; omega) (by have := HBASE.out; omega) hneq hBx
                              have hgF : w2.grownBy _ none := gr_grown (show w2.grownBy wP none from (by repeat (first | exact gr_refl _ _ | assumption | refine gr_drew ?_ | refine gr_alloc ?_ _))) hfr.2.2 (fun kk h => .inr (by injection h with h; omega))
                              have x0 := hBx.cell 0
                              have x1 := hBx.cell 1
                              have x2 := hBx.cell 2
                              have xf := hBx.free
                              have xl := hBx.lt
                              go_simp
                              refine hK.out _ _ (KX.out _ hgF) (fun hHeld25 => ?_)
                              clear hK K
                              (try simp only [Act.put, List.setIfInBounds_toArray, List.set_cons_zero, List.set_cons_succ])
                              refine wpAnyH_done (by kernel_rfl) ?_ _
                              go_wp2_with fail
                              go_meet
                              exact ⟨_, _, rfl, by have := HBASE.out; omega, hfr.1, hfr.2.1, hgF⟩

                  --A)
                case rest =>
                  obtain ⟨gx, sx, rfl, hgx, hBx, HWQ, hgq⟩ := hcut
                  rename World => wq
                  have HBq : Hid (ChoiceAt base a (manyM l a) wq ub (loopD n L (manyM l a) d kN i)) := HB2.out.quiet hgq
                  have hmq := hm2'.quiet hgq
                  have hgrq := gr_trans hgr2 (gr_weak hgq (some bm))
                  have HXC : Hid (∀ W, wq.grownBy W none → ChoiceAt base a (manyM l a) W (.pointer (some ⟨gx, 0, none⟩)) (some ((T, T + (L + i)) :: r))) := fun W hW => by
                    refine ⟨gx, sx, rfl, hgx, ?_, ?_, fun h => by simp at h⟩
                    · rw [HCX.out, HLX.out]
                      exact hBx.grown hW (by simp)
                    · rw [HWX.out]
                      exact HWQ.out.grown hW
                  clear HB2 hm2' hgr2 hg2b HSI2 cl0 p0 p1 q0 q1 q2 HX HW14 HWR HMI HLN
                  rcases hlo : loopD n L (manyM l a) d kN i with _ | bw
                  · rw [hlo] at HBq HL
                    obtain rfl : ub = .pointer none := HBq.out
                    clear hlo HBq
                    go_wp2_with fail
                    refine wp_region_held_drew (S := fun _ => True) (by kernel_rfl) trivial (fun hHeld => ?_)
                    refine wpAnyH_take (i := 0) (v := ?_) rfl (by kernel_rfl) (by kernel_rfl) (by kernel_rfl) (fun _ _ _ h => h) (Or.inl ⟨by kernel_rfl, ?_⟩) hHeld ?_
                    rotate_left
                    · intro w hSw
                      (try dsimp only at hSw)
                      go_simp
                      (try with_reducible rfl)
                    change wpAnyH _ _ _ _ _ _ _ (Act.put _ (some 91) _) _
                    simp only [Act.put, List.setIfInBounds_toArray, List.set_cons_zero, List.set_cons_succ]
                    refine wpAnyH_take (i := 1) (v := ?_) rfl (by kernel_rfl) (by kernel_rfl) (by kernel_rfl) (fun _ _ _ h => h) (Or.inl ⟨by kernel_rfl, ?_⟩) hHeld ?_
                    rotate_left
                    · intro w hSw
                      (try dsimp only at hSw)
                      go_simp
                      (try with_reducible rfl)
                    change wpAnyH _ _ _ _ _ _ _ (Act.put _ (some 92) _) _
                    simp only [Act.put, List.setIfInBounds_toArray, List.set_cons_zero, List.set_cons_succ]
                    refine wpAnyH_take (i := 2) (v := ?_) rfl (by kernel_rfl) (by kernel_rfl) (by kernel_rfl) (fun _ _ _ h => h) (Or.inl ⟨by kernel_rfl, ?_⟩) hHeld ?_
                    rotate_left
                    · intro w hSw
                      (try dsimp only at hSw)
                      go_simp
                      (try with_reducible rfl)
                    change wpAnyH _ _ _ _ _ _ _ (Act.put _ (some 93) _) _
                    simp only [Act.put, List.setIfInBounds_toArray, List.set_cons_zero, List.set_cons_succ]
                    refine wpAnyH_take (i := 3) (v := undef) rfl (by kernel_rfl) (by kernel_rfl) (by kernel_rfl) (fun _ _ _ h => h) (Or.inr ⟨by kernel_rfl, rfl⟩) hHeld ?_
                    change wpAnyH _ _ _ _ _ _ _ (Act.put _ (some 94) _) _
                    simp only [Act.put, List.setIfInBounds_toArray, List.set_cons_zero, List.set_cons_succ]
                    refine wpAnyH_take (i := 4) (v := undef) rfl (by kernel_rfl) (by kernel_rfl) (by kernel_rfl) (fun _ _ _ h => h) (Or.inr ⟨by kernel_rfl, rfl⟩) hHeld ?_
                    change wpAnyH _ _ _ _ _ _ _ (Act.put _ (some 95) _) _
                    simp only [Act.put, List.setIfInBounds_toArray, List.set_cons_zero, List.set_cons_succ]
                    refine wpAnyH_take (i := 5) (v := undef) rfl (by kernel_rfl) (by kernel_rfl) (by kernel_rfl) (fun _ _ _ h => h) (Or.inr ⟨by kernel_rfl, rfl⟩) hHeld ?_
                    change wpAnyH _ _ _ _ _ _ _ (Act.put _ (some 96) _) _
                    simp only [Act.put, List.setIfInBounds_toArray, List.set_cons_zero, List.set_cons_succ]
                    refine wpAnyH_take (i := 6) (v := undef) rfl (by kernel_rfl) (by kernel_rfl) (by kernel_rfl) (fun _ _ _ h => h) (Or.inr ⟨by kernel_rfl, rfl⟩) hHeld ?_
                    change wpAnyH _ _ _ _ _ _ _ (Act.put _ (some 97) _) _
                    simp only [Act.put, List.setIfInBounds_toArray, List.set_cons_zero, List.set_cons_succ]
                    refine wpAnyH_take (i := 7) (v := undef) rfl (by kernel_rfl) (by kernel_rfl) (by kernel_rfl) (fun _ _ _ h => h) (Or.inr ⟨by kernel_rfl, rfl⟩) hHeld ?_
                    change wpAnyH _ _ _ _ _ _ _ (Act.put _ (some 98) _) _
                    simp only [Act.put, List.setIfInBounds_toArray, List.set_cons_zero, List.set_cons_succ]
                    refine wpAnyH_take (i := 8) (v := undef) rfl (by kernel_rfl) (by kernel_rfl) (by kernel_rfl) (fun _ _ _ h => h) (Or.inr ⟨by kernel_rfl, rfl⟩) hHeld ?_
                    change wpAnyH _ _ _ _ _ _ _ (Act.put _ (some 99) _) _
                    simp only [Act.put, List.setIfInBounds_toArray, List.set_cons_zero, List.set_cons_succ]
                    refine wpAnyH_take (i := 9) (v := ?_) rfl (by kernel_rfl) (by kernel_rfl) (by kernel_rfl) (fun _ _ _ h => h) (Or.inl ⟨by kernel_rfl, ?_⟩) hHeld ?_
                    rotate_left
                    · intro w hSw
                      (try dsimp only at hSw)
                      go_simp
                      (try with_reducible rfl)
                    change wpAnyH _ _ _ _ _ _ _ (Act.put _ (some 100) _) _
                    simp only [Act.put, List.setIfInBounds_toArray, List.set_cons_zero, List.set_cons_succ]
                    refine wpAnyH_done (by kernel_rfl) ?_ _
                    go_wp2_with fail
                    go_roundw
                    case rel => exact ⟨i + 1, TO + 1000, _, by omega, rfl, rfl, (show TO + 1000 = _ by have := HTO.out; omega), (show ChoiceAt _ _ _ _ _ _ by rw [HL.out]; exact HXC.out _ (gr_drew (gr_refl _ _))), (show FM _ _ _ _ _ _ _ _ _ _ _ _ _ _ _ _ _ _ _ by rw [HPE1.out]; exact hmq.quiet (gr_drew (gr_refl _ _))), gr_drew hgrq⟩
                    case measure => simp [intOf]; omega
                  · rw [hlo] at HBq HL
                    obtain ⟨gb, sb, rfl, hgb, hBb, hWb, _⟩ := HBq.out
                    have hXY := HXC.out wq (gr_refl _ _)
                    obtain ⟨V, hV⟩ : ∃ V, cmpK (manyM l a) ((T, T + (L + i)) :: r) bw = V := ⟨_, rfl⟩
                    have HCMP : Hid (∀ W, wq.grownBy W none → Calls Try.prog 45 #[.agg #[.int .i64 (CC + KN), .int .i64 (LG + (TO - AT)), sx], .agg #[.int .i64 (costW (manyM l a) bw), .int .i64 (1000 * (longW bw : Int)), sb]] W fun r w' => r = .returned (.int .i64 V) ∧ W.grownBy w' none) := fun W hW => by
                      have h := cmpChoices base (CC + KN) (LG + (TO - AT)) (costW (manyM l a) bw) (1000 * (longW bw : Int)) sx sb ((AT, TO) :: scaleW a r) (scaleW a bw) W (HWQ.out.grown hW) (hWb.grown hW)
                      have e := cmpCI_K a (manyM l a) ((T, T + (L + i)) :: r) bw
                      rw [HCX.out, HLX.out, HWX.out, hV] at e
                      rw [e] at h
                      exact h
                    have HBX2 := Lib.hid hBx
                    have HBB2 := Lib.hid hBb
                    obtain ⟨CB, hCB⟩ : ∃ x, costW (manyM l a) bw = x := ⟨_, rfl⟩
                    obtain ⟨LB, hLB⟩ : ∃ x, (1000 : Int) * (longW bw : Int) = x := ⟨_, rfl⟩
                    rw [hCB, hLB] at HCMP HBB2
                    have HBC : Hid (∀ W, wq.grownBy W none → ChoiceAt base a (manyM l a) W (.pointer (some ⟨gb, 0, none⟩)) (some bw)) := fun W hW => HBq.out.quiet hW
                    have KX : Hid (∀ W' : World, wq.grownBy W' none → W'.cell? ⟨gx, 0, none⟩ = some (.int .i64 (CC + KN)) ∧ W'.cell? ⟨gx, 1, none⟩ = some (.int .i64 (LG + (TO - AT))) ∧ W'.cell? ⟨gx, 2, none⟩ = some sx ∧ W'.cell? ⟨gb, 0, none⟩ = some (.int .i64 CB) ∧ W'.cell? ⟨gb, 1, none⟩ = some (.int .i64 LB) ∧ W'.cell? ⟨gb, 2, none⟩ = some sb) := fun W' hW =>
                      ⟨(HBX2.out.grown hW (by simp)).cell 0, (HBX2.out.grown hW (by simp)).cell 1, (HBX2.out.grown hW (by simp)).cell 2, (HBB2.out.grown hW (by simp)).cell 0, (HBB2.out.grown hW (by simp)).cell 1, (HBB2.out.grown hW (by simp)).cell 2⟩
                    have hgx1 : (gx : Nat) < wq.heap.size := hBx.lt
                    clear hlo HBq hXY hBx hBb hWb hCB hLB HWQ
                    have HPK : Hid (loopD n L (manyM l a) d kN (i + 1) = if V < 0 then some ((T, T + (L + i)) :: r) else some bw) := by
                      show _ = _
                      rw [HL.out, ← hV]
                      rfl
                    clear hV HL
                    by_cases hVn : V < 0
                    · have HP2 : Hid (loopD n L (manyM l a) d kN (i + 1) = some ((T, T + (L + i)) :: r)) := by show _ = _; rw [HPK.out, if_pos hVn]
                      clear HPK
                      go_wp2_with fail
                      refine wp_region_held_drew (S := fun W' => W'.cell? ⟨gx, 0, none⟩ = some (.int .i64 (CC + KN)) ∧ W'.cell? ⟨gx, 1, none⟩ = some (.int .i64 (LG + (TO - AT))) ∧ W'.cell? ⟨gx, 2, none⟩ = some sx ∧ W'.cell? ⟨gb, 0, none⟩ = some (.int .i64 CB) ∧ W'.cell? ⟨gb, 1, none⟩ = some (.int .i64 LB) ∧ W'.cell? ⟨gb, 2, none⟩ = some sb) (by kernel_rfl) (KX.out _ (gr_drew (gr_refl _ _))) (fun hHeld => ?_)
                      refine wpAnyH_take (i := 0) (v := ?_) rfl (by kernel_rfl) (by kernel_rfl) (by kernel_rfl) (fun _ _ _ h => h) (Or.inl ⟨by kernel_rfl, ?_⟩) hHeld ?_
                      rotate_left
                      · intro w hSw
                        (try dsimp only at hSw)
                        obtain ⟨hS0, hS1, hS2, hS3, hS4, hS5⟩ := hSw
                        go_simp
                        (try with_reducible rfl)
                      change wpAnyH _ _ _ _ _ _ _ (Act.put _ (some 91) _) _
                      simp only [Act.put, List.setIfInBounds_toArray, List.set_cons_zero, List.set_cons_succ]
                      refine wpAnyH_take (i := 1) (v := ?_) rfl (by kernel_rfl) (by kernel_rfl) (by kernel_rfl) (fun _ _ _ h => h) (Or.inl ⟨by kernel_rfl, ?_⟩) hHeld ?_
                      rotate_left
                      · intro w hSw
                        (try dsimp only at hSw)
                        obtain ⟨hS0, hS1, hS2, hS3, hS4, hS5⟩ := hSw
                        go_simp
                        (try with_reducible rfl)
                      change wpAnyH _ _ _ _ _ _ _ (Act.put _ (some 92) _) _
                      simp only [Act.put, List.setIfInBounds_toArray, List.set_cons_zero, List.set_cons_succ]
                      refine wpAnyH_take (i := 2) (v := ?_) rfl (by kernel_rfl) (by kernel_rfl) (by kernel_rfl) (fun _ _ _ h => h) (Or.inl ⟨by kernel_rfl, ?_⟩) hHeld ?_
                      rotate_left
                      · intro w hSw
                        (try dsimp only at hSw)
                        obtain ⟨hS0, hS1, hS2, hS3, hS4, hS5⟩ := hSw
                        go_simp
                        (try with_reducible rfl)
                      change wpAnyH _ _ _ _ _ _ _ (Act.put _ (some 93) _) _
                      simp only [Act.put, List.setIfInBounds_toArray, List.set_cons_zero, List.set_cons_succ]
                      refine wpAnyH_take (i := 3) (v := ?_) rfl (by kernel_rfl) (by kernel_rfl) (by kernel_rfl) (fun _ _ _ h => h) (Or.inl ⟨by kernel_rfl, ?_⟩) hHeld ?_
                      rotate_left
                      · intro w hSw
                        (try dsimp only at hSw)
                        obtain ⟨hS0, hS1, hS2, hS3, hS4, hS5⟩ := hSw
                        go_simp
                        (try with_reducible rfl)
                      change wpAnyH _ _ _ _ _ _ _ (Act.put _ (some 94) _) _
                      simp only [Act.put, List.setIfInBounds_toArray, List.set_cons_zero, List.set_cons_succ]
                      refine wpAnyH_take (i := 4) (v := ?_) rfl (by kernel_rfl) (by kernel_rfl) (by kernel_rfl) (fun _ _ _ h => h) (Or.inl ⟨by kernel_rfl, ?_⟩) hHeld ?_
                      rotate_left
                      · intro w hSw
                        (try dsimp only at hSw)
                        obtain ⟨hS0, hS1, hS2, hS3, hS4, hS5⟩ := hSw
                        go_simp
                        (try with_reducible rfl)
                      change wpAnyH _ _ _ _ _ _ _ (Act.put _ (some 95) _) _
                      simp only [Act.put, List.setIfInBounds_toArray, List.set_cons_zero, List.set_cons_succ]
                      refine wpAnyH_take (i := 5) (v := ?_) rfl (by kernel_rfl) (by kernel_rfl) (by kernel_rfl) (fun _ _ _ h => h) (Or.inl ⟨by kernel_rfl, ?_⟩) hHeld ?_
                      rotate_left
                      · intro w hSw
                        (try dsimp only at hSw)
                        obtain ⟨hS0, hS1, hS2, hS3, hS4, hS5⟩ := hSw
                        go_simp
                        (try with_reducible rfl)
                      change wpAnyH _ _ _ _ _ _ _ (Act.put _ (some 96) _) _
                      simp only [Act.put, List.setIfInBounds_toArray, List.set_cons_zero, List.set_cons_succ]
                      refine wpAnyH_take (i := 6) (v := ?_) rfl (by kernel_rfl) (by kernel_rfl) (by kernel_rfl) (fun _ _ _ h => h) (Or.inl ⟨by kernel_rfl, ?_⟩) hHeld ?_
                      rotate_left
                      · intro w hSw
                        (try dsimp only at hSw)
                        obtain ⟨hS0, hS1, hS2, hS3, hS4, hS5⟩ := hSw
                        go_simp
                        (try with_reducible rfl)
                      change wpAnyH _ _ _ _ _ _ _ (Act.put _ (some 97) _) _
                      simp only [Act.put, List.setIfInBounds_toArray, List.set_cons_zero, List.set_cons_succ]
                      refine wpAnyH_ready (rs := [7]) (by kernel_rfl) (by simp) ?_
                      refine AllReadyH.cons (o := _) rfl (fun K hK => ?_) AllReadyH.nil
                      go_simp
                      (go_at_call 45; refine (HCMP.out _ (gr_drew (gr_refl _ _))).mono ?_; rintro _ w7 ⟨rfl, hg7⟩; have hg8 := gr_trans (gr_drew (gr_refl wq none)) hg7)
                      refine hK.out _ _ (KX.out _ hg8) (fun hHeld7 => ?_)
                      clear hK K
                      (try simp only [Act.put, List.setIfInBounds_toArray, List.set_cons_zero, List.set_cons_succ])
                      refine wpAnyH_take (i := 8) (v := ?_) rfl (by kernel_rfl) (by kernel_rfl) (by kernel_rfl) (fun _ _ _ h => h) (Or.inl ⟨by kernel_rfl, ?_⟩) hHeld7 ?_
                      rotate_left
                      · intro w hSw
                        (try dsimp only at hSw)
                        obtain ⟨hS0, hS1, hS2, hS3, hS4, hS5⟩ := hSw
                        go_simp
                        (try with_reducible rfl)
                      change wpAnyH _ _ _ _ _ _ _ (Act.put _ (some 99) _) _
                      simp only [Act.put, List.setIfInBounds_toArray, List.set_cons_zero, List.set_cons_succ]
                      refine wpAnyH_take (i := 9) (v := ?_) rfl (by kernel_rfl) (by kernel_rfl) (by kernel_rfl) (fun _ _ _ h => h) (Or.inl ⟨by kernel_rfl, ?_⟩) hHeld7 ?_
                      rotate_left
                      · intro w hSw
                        (try dsimp only at hSw)
                        obtain ⟨hS0, hS1, hS2, hS3, hS4, hS5⟩ := hSw
                        go_simp
                        (try with_reducible rfl)
                      change wpAnyH _ _ _ _ _ _ _ (Act.put _ (some 100) _) _
                      simp only [Act.put, List.setIfInBounds_toArray, List.set_cons_zero, List.set_cons_succ]
                      refine wpAnyH_done (by kernel_rfl) ?_ _
                      go_wp2_with fail
                      go_roundw
                      case rel => exact ⟨i + 1, TO + 1000, _, by omega, rfl, rfl, (show TO + 1000 = _ by have := HTO.out; omega), (show ChoiceAt _ _ _ _ _ _ by rw [HP2.out]; exact HXC.out _ hg8), (show FM _ _ _ _ _ _ _ _ _ _ _ _ _ _ _ _ _ _ _ by rw [HPE1.out]; exact hmq.quiet hg8), gr_trans hgrq (gr_weak hg8 _)⟩
                      case measure => simp [intOf]; omega
                    · have HP2 : Hid (loopD n L (manyM l a) d kN (i + 1) = some bw) := by show _ = _; rw [HPK.out, if_neg hVn]
                      clear HPK
                      go_wp2_with fail
                      refine wp_region_held_drew (S := fun W' => W'.cell? ⟨gx, 0, none⟩ = some (.int .i64 (CC + KN)) ∧ W'.cell? ⟨gx, 1, none⟩ = some (.int .i64 (LG + (TO - AT))) ∧ W'.cell? ⟨gx, 2, none⟩ = some sx ∧ W'.cell? ⟨gb, 0, none⟩ = some (.int .i64 CB) ∧ W'.cell? ⟨gb, 1, none⟩ = some (.int .i64 LB) ∧ W'.cell? ⟨gb, 2, none⟩ = some sb) (by kernel_rfl) (KX.out _ (gr_drew (gr_refl _ _))) (fun hHeld => ?_)
                      refine wpAnyH_take (i := 0) (v := ?_) rfl (by kernel_rfl) (by kernel_rfl) (by kernel_rfl) (fun _ _ _ h => h) (Or.inl ⟨by kernel_rfl, ?_⟩) hHeld ?_
                      rotate_left
                      · intro w hSw
                        (try dsimp only at hSw)
                        obtain ⟨hS0, hS1, hS2, hS3, hS4, hS5⟩ := hSw
                        go_simp
                        (try with_reducible rfl)
                      change wpAnyH _ _ _ _ _ _ _ (Act.put _ (some 91) _) _
                      simp only [Act.put, List.setIfInBounds_toArray, List.set_cons_zero, List.set_cons_succ]
                      refine wpAnyH_take (i := 1) (v := ?_) rfl (by kernel_rfl) (by kernel_rfl) (by kernel_rfl) (fun _ _ _ h => h) (Or.inl ⟨by kernel_rfl, ?_⟩) hHeld ?_
                      rotate_left
                      · intro w hSw
                        (try dsimp only at hSw)
                        obtain ⟨hS0, hS1, hS2, hS3, hS4, hS5⟩ := hSw
                        go_simp
                        (try with_reducible rfl)
                      change wpAnyH _ _ _ _ _ _ _ (Act.put _ (some 92) _) _
                      simp only [Act.put, List.setIfInBounds_toArray, List.set_cons_zero, List.set_cons_succ]
                      refine wpAnyH_take (i := 2) (v := ?_) rfl (by kernel_rfl) (by kernel_rfl) (by kernel_rfl) (fun _ _ _ h => h) (Or.inl ⟨by kernel_rfl, ?_⟩) hHeld ?_
                      rotate_left
                      · intro w hSw
                        (try dsimp only at hSw)
                        obtain ⟨hS0, hS1, hS2, hS3, hS4, hS5⟩ := hSw
                        go_simp
                        (try with_reducible rfl)
                      change wpAnyH _ _ _ _ _ _ _ (Act.put _ (some 93) _) _
                      simp only [Act.put, List.setIfInBounds_toArray, List.set_cons_zero, List.set_cons_succ]
                      refine wpAnyH_take (i := 3) (v := ?_) rfl (by kernel_rfl) (by kernel_rfl) (by kernel_rfl) (fun _ _ _ h => h) (Or.inl ⟨by kernel_rfl, ?_⟩) hHeld ?_
                      rotate_left
                      · intro w hSw
                        (try dsimp only at hSw)
                        obtain ⟨hS0, hS1, hS2, hS3, hS4, hS5⟩ := hSw
                        go_simp
                        (try with_reducible rfl)
                      change wpAnyH _ _ _ _ _ _ _ (Act.put _ (some 94) _) _
                      simp only [Act.put, List.setIfInBounds_toArray, List.set_cons_zero, List.set_cons_succ]
                      refine wpAnyH_take (i := 4) (v := ?_) rfl (by kernel_rfl) (by kernel_rfl) (by kernel_rfl) (fun _ _ _ h => h) (Or.inl ⟨by kernel_rfl, ?_⟩) hHeld ?_
                      rotate_left
                      · intro w hSw
                        (try dsimp only at hSw)
                        obtain ⟨hS0, hS1, hS2, hS3, hS4, hS5⟩ := hSw
                        go_simp
                        (try with_reducible rfl)
                      change wpAnyH _ _ _ _ _ _ _ (Act.put _ (some 95) _) _
                      simp only [Act.put, List.setIfInBounds_toArray, List.set_cons_zero, List.set_cons_succ]
                      refine wpAnyH_take (i := 5) (v := ?_) rfl (by kernel_rfl) (by kernel_rfl) (by kernel_rfl) (fun _ _ _ h => h) (Or.inl ⟨by kernel_rfl, ?_⟩) hHeld ?_
                      rotate_left
                      · intro w hSw
                        (try dsimp only at hSw)
                        obtain ⟨hS0, hS1, hS2, hS3, hS4, hS5⟩ := hSw
                        go_simp
                        (try with_reducible rfl)
                      change wpAnyH _ _ _ _ _ _ _ (Act.put _ (some 96) _) _
                      simp only [Act.put, List.setIfInBounds_toArray, List.set_cons_zero, List.set_cons_succ]
                      refine wpAnyH_take (i := 6) (v := ?_) rfl (by kernel_rfl) (by kernel_rfl) (by kernel_rfl) (fun _ _ _ h => h) (Or.inl ⟨by kernel_rfl, ?_⟩) hHeld ?_
                      rotate_left
                      · intro w hSw
                        (try dsimp only at hSw)
                        obtain ⟨hS0, hS1, hS2, hS3, hS4, hS5⟩ := hSw
                        go_simp
                        (try with_reducible rfl)
                      change wpAnyH _ _ _ _ _ _ _ (Act.put _ (some 97) _) _
                      simp only [Act.put, List.setIfInBounds_toArray, List.set_cons_zero, List.set_cons_succ]
                      refine wpAnyH_ready (rs := [7]) (by kernel_rfl) (by simp) ?_
                      refine AllReadyH.cons (o := _) rfl (fun K hK => ?_) AllReadyH.nil
                      go_simp
                      (go_at_call 45; refine (HCMP.out _ (gr_drew (gr_refl _ _))).mono ?_; rintro _ w7 ⟨rfl, hg7⟩; have hg8 := gr_trans (gr_drew (gr_refl wq none)) hg7)
                      refine hK.out _ _ (KX.out _ hg8) (fun hHeld7 => ?_)
                      clear hK K
                      (try simp only [Act.put, List.setIfInBounds_toArray, List.set_cons_zero, List.set_cons_succ])
                      refine wpAnyH_take (i := 8) (v := ?_) rfl (by kernel_rfl) (by kernel_rfl) (by kernel_rfl) (fun _ _ _ h => h) (Or.inl ⟨by kernel_rfl, ?_⟩) hHeld7 ?_
                      rotate_left
                      · intro w hSw
                        (try dsimp only at hSw)
                        obtain ⟨hS0, hS1, hS2, hS3, hS4, hS5⟩ := hSw
                        go_simp
                        (try with_reducible rfl)
                      change wpAnyH _ _ _ _ _ _ _ (Act.put _ (some 99) _) _
                      simp only [Act.put, List.setIfInBounds_toArray, List.set_cons_zero, List.set_cons_succ]
                      refine wpAnyH_take (i := 9) (v := ?_) rfl (by kernel_rfl) (by kernel_rfl) (by kernel_rfl) (fun _ _ _ h => h) (Or.inl ⟨by kernel_rfl, ?_⟩) hHeld7 ?_
                      rotate_left
                      · intro w hSw
                        (try dsimp only at hSw)
                        obtain ⟨hS0, hS1, hS2, hS3, hS4, hS5⟩ := hSw
                        go_simp
                        (try with_reducible rfl)
                      change wpAnyH _ _ _ _ _ _ _ (Act.put _ (some 100) _) _
                      simp only [Act.put, List.setIfInBounds_toArray, List.set_cons_zero, List.set_cons_succ]
                      refine wpAnyH_done (by kernel_rfl) ?_ _
                      go_wp2_with fail
                      go_roundw
                      case rel => exact ⟨i + 1, TO + 1000, _, by omega, rfl, rfl, (show TO + 1000 = _ by have := HTO.out; omega), (show ChoiceAt _ _ _ _ _ _ by rw [HP2.out]; exact HBC.out _ hg8), (show FM _ _ _ _ _ _ _ _ _ _ _ _ _ _ _ _ _ _ _ by rw [HPE1.out]; exact hmq.quiet hg8), gr_trans hgrq (gr_weak hg8 _)⟩
                      case measure => simp [intOf]; omega
            · have hie : i = d - L := by omega
              have htz : ¬ TO ≤ z := fun h => hlt ((HAZ.out i).1 (by have := HTO.out; omega))
              have HUB : Hid (ChoiceAt base a (manyM l a) wr ub (refD n L (manyM l a) d kN)) := by
                show ChoiceAt _ _ _ _ _ _
                rw [HLP.out, ← hie]
                exact HB.out
              have hmr := HMR.out
              have hq1 : 1 ≤ 2 ^ (d - L - i) := Nat.one_le_two_pow
              obtain ⟨w11, hrun, hmm, hg11⟩ := HPUT.out wr _ ub (hmr.mp.more (cnt' := cnt + Pd - 1) (by omega)) (by omega) HUB.out
              have c3' := hmr.ck
              have hFin : FM base0 base xr xw xk xf xl bm (cnt + Pd) n L a z ls (manyM l a) v F l w11 := hmr.turned hg11 h1 h2 h3 h4 h5 hv (hmm.more (by omega))
              have hgF := gr_trans hgr hg11
              have hcF := HUB.out.over (by have := HBASE.out; omega) hg11
              clear hie hmr hmm hg11 HMR HB
              go_wp2_with fail
              go_ret
              exact HPOST.out _ _ ⟨_, rfl, hcF, hFin, hgF⟩
        · have HU : Hid (ChoiceAt base a (manyM l a) w u (refD n L (manyM l a) d kN)) := by
            have : n + 1 - T = d := by omega
            rw [this] at hu
            exact hu
          rw [hAT, hND] at hlk
          clear hbase hz hls ih hm hF hF2 hT hAT hND hk hdL hu c4
          go_enter Try.func43, Try.ntmps43
          go_wp2_with fail
          go_ret
          exact HPOST.out _ _ ⟨_, rfl, HU.out, HM.out.more (by omega), gr_refl _ _⟩
end
end Go.Proofs.Ytlbhphfmckhimaa
