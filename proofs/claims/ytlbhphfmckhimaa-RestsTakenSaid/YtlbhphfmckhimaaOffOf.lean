/- slices.DeleteFunc at windows: those that are long enough stay, in their order. Condition: at most 3000 windows, numbers up to 10^15. -/
import Derived.Test.YtlbhphfmckhimaaDeleteW
namespace Go.Proofs.Ytlbhphfmckhimaa
open Go.RowKit
set_option linter.unusedVariables false

theorem zeroWin (w : World) : (zeroValue 27).run Try.prog w = .ok (.agg #[.int .i64 0, .int .i64 0]) w := by kernel_rfl
theorem run_clear_win (w : World) (ty : TypeId) (b o n c : Nat) (hn : 0 < n) (hc : ∀ j, j < 2 * n → (w.cell? ⟨b, o + j, none⟩).isSome = true) (hf : ∀ j, j < 2 * n → w.frozen? ⟨b, o + j, none⟩ = false) :
    (Builtin.clear_ #[40] ty #[.slice (some ⟨b, o, none⟩) n c]).run Try.prog w = .ok (.tuple #[]) (w.setCells b o (List.replicate (2 * n) (.int .i64 0))) := by
  have hzc : (Builtin.zeroCells (Value.agg #[.int .i64 0, .int .i64 0]).cells n).toList = List.replicate (2 * n) (.int .i64 0) := by
    simp [Builtin.zeroCells, Value.cells]
    apply List.ext_getElem
    · simp; omega
    · intro i h1 h2
      simp
      rcases Nat.mod_two_eq_zero_or_one i with h | h <;> simp [h]
  have hst := run_storeCells_cells (P := Try.prog) b o (List.replicate (2 * n) (Value.int .i64 0)) 0 w (by simpa using hc) (by simpa using hf) (by intro v hv'; rw [List.eq_of_mem_replicate hv']; rfl)
  simp only [Nat.add_zero] at hst
  obtain ⟨m, rfl⟩ : ∃ m, n = m + 1 := ⟨n - 1, by omega⟩
  simp [Builtin.clear_, run_underlying Try.underlying40, hzc, hst]

theorem wcells_set (l : List (Int × Int)) (k : Nat) (x y : Int) : ((wcells l).set (k * 2) (.int .i64 x)).set (k * 2 + 1) (.int .i64 y) = wcells (l.set k (x, y)) := by
  induction l generalizing k with
  | nil => simp [wcells]
  | cons p r ih =>
    have e : wcells (p :: r) = .int .i64 p.1 :: .int .i64 p.2 :: wcells r := rfl
    cases k with
    | zero => rw [e]; rfl
    | succ k =>
      rw [e, show (k + 1) * 2 = k * 2 + 1 + 1 by omega]
      simp only [List.set_cons_succ]
      rw [ih k]; rfl
/-- Zeros from a cell on leave the windows before it. -/
theorem wins_zeros (base g n c : Nat) : ∀ (m o : Nat) (w : World) (xs : List Value), w.ownsRow base 27 2 (.slice (some ⟨g, 0, none⟩) n c) n xs →
    ∃ xs' : List Value, (∀ j, j < o → xs'[j]? = xs[j]?) ∧ xs'.length = xs.length ∧ (w.setCells g o (List.replicate m (.int .i64 0))).ownsRow base 27 2 (.slice (some ⟨g, 0, none⟩) n c) n xs' ∧ w.grownBy (w.setCells g o (List.replicate m (.int .i64 0))) (some g)
  | 0, o, w, xs, h => ⟨xs, fun _ _ => rfl, rfl, h, gr_refl _ _⟩
  | m + 1, o, w, xs, h => by
    have h1 := h.stored o (.int .i64 0)
    obtain ⟨xs', e, el, h2, h3⟩ := wins_zeros base g n c m (o + 1) _ _ h1.1
    refine ⟨xs', fun j hj => ?_, by rw [el]; simp, h2, gr_trans h1.2 h3⟩
    rw [e j (by omega), List.getElem?_set_ne (by omega)]

theorem wcells_take (l : List (Int × Int)) (k : Nat) (h : k ≤ l.length) : (wcells l).take (k * 2) = wcells (l.take k) := by
  induction l generalizing k with
  | nil => simp [wcells]
  | cons p r ih =>
    have e : wcells (p :: r) = .int .i64 p.1 :: .int .i64 p.2 :: wcells r := rfl
    cases k with
    | zero => simp [wcells]
    | succ k =>
      rw [e, show (k + 1) * 2 = k * 2 + 1 + 1 by omega]
      simp only [List.take_succ_cons]
      rw [ih k (by simpa using h)]; rfl
theorem win_take {w : World} {base : Nat} {e : TypeId} {A : Option Addr} {n c : Nat} {xs : List Value} (h : w.ownsRow base e 2 (.slice A n c) n xs) (m : Nat) (hm : m ≤ n) : w.ownsRow base e 2 (.slice A m c) m (xs.take (m * 2)) := by
  have hx := h.1
  refine ⟨by rw [List.length_take]; omega, ?_⟩
  rcases h.2 with ⟨h1, h2⟩ | ⟨g, cap, cur, h1, h2, h3, h4, h5, h6, h7⟩
  · injection h1 with e1 e2 e3
    subst e1; subst e3
    exact .inl ⟨by rw [show m = 0 by omega], by omega⟩
  · injection h1 with e1 e2 e3
    subst e1; subst e3
    refine .inr ⟨g, _, cur, rfl, h2, h3, by omega, h5, h6, ?_⟩
    rw [← h7, List.take_take]
    congr 1
    omega

def keepB (least : Int) (p : Int × Int) : Bool := !shortB least p
theorem filter_all {l : List (Int × Int)} {least : Int} (h : ∀ p ∈ l, shortB least p = false) : l.filter (keepB least) = l := List.filter_eq_self.2 (fun p hp => by unfold keepB; rw [h p hp]; rfl)
theorem keep_long (least : Int) (p : Int × Int) : keepB least p = longB least p := by
  unfold keepB shortB longB
  by_cases h : least ≤ p.2 - p.1
  · simp [h]
  · simp [h]; omega

def DelWPost (base : Nat) (u : Value) (l : List (Int × Int)) (least : Int) (w : World) (e : Ending) (w' : World) : Prop := ∃ v, e = .returned v ∧ WinsFrom base w' v (l.filter (keepB least)) ∧ w.grownBy w' u.ownBlock
theorem WinsFrom.cap {base n : Nat} {w : World} {A : Option Addr} {c : Nat} {l : List (Int × Int)} (h : WinsFrom base w (.slice A l.length c) l) : l.length ≤ c := by
  rcases h.2 with ⟨h1, h2⟩ | ⟨g, cap, cur, h1, h2, h3, h4, h5, h6, h7⟩
  · omega
  · injection h1 with e1 e2 e3
    omega

set_option maxRecDepth 100000 in
set_option maxHeartbeats 2000000 in
theorem deleteW_any (base B : Nat) (u : Value) (l : List (Int × Int)) (least : Int) (w : World) (hu : WinsFrom base w u l) (hB : Blk w B 3 #[.int .i64 least]) (hlt : B < base) (hn : l.length ≤ 3000)
    (hb : ∀ p ∈ l, -1000000000000000 ≤ p.1 ∧ p.1 ≤ 1000000000000000 ∧ -1000000000000000 ≤ p.2 ∧ p.2 ≤ 1000000000000000) :
    Calls Try.prog 38 #[u, .func (.func 40) #[] #[.pointer (some ⟨B, 0, none⟩)]] w (DelWPost base u l least w) := by
  obtain ⟨A, ca, rfl, hla, hA⟩ := hu.shape
  have hcap := hu.cap (n := 0)
  have HU := Lib.hid hu
  have HBD := Lib.hid hb
  clear hu hb
  go_enter Try.func38, Try.ntmps38
  go_wp2_with fail
  refine (indexW_any base B _ l least w HU.out hB HBD.out).mono ?_
  rintro _ w1 ⟨i, rfl, hi, hg1⟩
  rcases hi with ⟨rfl, hall⟩ | ⟨j, rfl, hj1, hjd, hjall⟩
  · have HF := Lib.hid (filter_all hall)
    clear hall
    go_wp2_with fail
    go_ret
    exact ⟨_, rfl, by rw [HF.out]; exact HU.out.grown hg1, gr_weak hg1 _⟩
  · have hne : ((j : Int) == -1) = false := by rw [beq_eq_false_iff_ne]; omega
    obtain ⟨g, rfl, hg0, hgl⟩ := hA (by omega)
    have hst0 : l.take j = (l.take (j + 1)).filter (keepB least) := by
      rw [List.take_succ_eq_append_getElem hj1, List.filter_append, filter_all hjall]
      simp [keepB, hjd]
    have H0 := Lib.hid hst0
    have HU1 := Lib.hid (HU.out.grown hg1)
    have hsz := hg1.size
    clear hA hjd hjall hst0
    go_wp2_with fail
    go_loopw [5, 6] (fun a b wr => ∃ (p q : Nat) (z : List (Int × Int)), a = .int .i64 p ∧ b = .int .i64 q ∧ p < q ∧ q ≤ l.length ∧ Hid (z.length = l.length ∧ z.take p = (l.take q).filter (keepB least) ∧ z.drop q = l.drop q) ∧ wr.ownsRow base 27 2 (.slice (some ⟨g, 0, none⟩) l.length ca) l.length (wcells z) ∧ w.grownBy wr (some g)) (fun _ b _ => l.length - (intOf b).toNat)
    case atStart => exact ⟨j, j + 1, l, rfl, by go_num, by omega, by omega, ⟨rfl, H0.out, rfl⟩, HU1.out, gr_weak hg1 _⟩
    case round =>
      obtain ⟨p, q, z, rfl, rfl, hpq, hq, HZ, hown, hgr⟩ := hrel
      have hBr := hB.grown hgr (by simp; omega)
      obtain ⟨z1, z2, z3⟩ := HZ.out
      by_cases hlt2 : q < l.length
      · have hqz : q < z.length := by omega
        have hql : (q : Int) < (l.length : Int) := by omega
        have hzq : z[q] = l[q] := by
          have e1 : (z.drop q)[0]? = (l.drop q)[0]? := by rw [z3]
          rw [List.getElem?_drop, List.getElem?_drop, Nat.add_zero, List.getElem?_eq_getElem hqz, List.getElem?_eq_getElem hlt2] at e1
          injection e1
        have hwc := wcells_at z q hqz
        have c0 : wr.cell? ⟨g, q * 2, none⟩ = some (.int .i64 z[q].1) := by rw [hown.cellAt (q * 2) (by omega)]; exact hwc.1
        have c1 : wr.cell? ⟨g, q * 2 + 1, none⟩ = some (.int .i64 z[q].2) := by rw [hown.cellAt (q * 2 + 1) (by omega)]; exact hwc.2
        obtain ⟨old0, old1, hwp⟩ : ∃ o0 o1, (wcells z)[p * 2]? = some (.int .i64 o0) ∧ (wcells z)[p * 2 + 1]? = some (.int .i64 o1) := ⟨_, _, wcells_at z p (by omega)⟩
        have hm := HBD.out l[q] (List.getElem_mem hlt2)
        have hts := List.take_succ_eq_append_getElem hlt2
        rw [hzq] at c0 c1
        obtain ⟨v, hv⟩ : ∃ v, l[q] = v := ⟨_, rfl⟩
        rw [hv] at c0 c1 hm hts
        obtain ⟨x, y⟩ := v
        obtain ⟨m0, m1, m2, m3⟩ := hm
        dsimp only at c0 c1 m0 m1 m2 m3
        have hgw : g < wr.heap.size := (hown.lt g rfl).2
        have HTS := Lib.hid hts
        have HWP := Lib.hid hwp
        have H1 := Lib.hid z1
        have H2 := Lib.hid z2
        have H3 := Lib.hid z3
        have HOW := Lib.hid hown
        clear hzq hwc hwp hts hv z1 z2 z3 hown
        rcases hd : shortB least (x, y)
        · have HD := Lib.hid hd
          have HF : Hid ((l.take (q + 1)).filter (keepB least) = (l.take q).filter (keepB least) ++ [(x, y)]) := by
            show _ = _; rw [HTS.out, List.filter_append]; simp [keepB, HD.out]
          clear hd
          go_wp2_with fail
          refine (short_any x y least B _ (hBr.alloc _) m0 m1 m2 m3).mono ?_
          rintro _ w2 ⟨rfl, hg⟩
          rw [HD.out]
          have hx7 := (Blk.new wr 27 #[.int .i64 x, .int .i64 y]).grown hg (by simp)
          have b0 : w2.cell? ⟨wr.heap.size, 0, none⟩ = some (.int .i64 x) := hx7.cell 0
          have b1 : w2.cell? ⟨wr.heap.size, 1, none⟩ = some (.int .i64 y) := hx7.cell 1
          have hg2 := gr_trans (World.grownBy_alloc wr (.cells #[.int .i64 x, .int .i64 y] 27) none) hg
          have hown2 := HOW.out.kept hg2 (by simp [Value.ownBlock])
          have p0 : w2.cell? ⟨g, p * 2, none⟩ = some (.int .i64 old0) := by rw [hown2.cellAt (p * 2) (by omega)]; exact HWP.out.1
          have p1 : w2.cell? ⟨g, p * 2 + 1, none⟩ = some (.int .i64 old1) := by rw [hown2.cellAt (p * 2 + 1) (by omega)]; exact HWP.out.2
          have pf0 := hown2.frozenAt (p * 2)
          have pf1 := hown2.frozenAt (p * 2 + 1)
          have hs1 := hown2.stored (p * 2) (.int .i64 x)
          have hs2 := hs1.1.stored (p * 2 + 1) (.int .i64 y)
          rw [wcells_set] at hs2
          have HS1 := Lib.hid hs1
          have HS2 := Lib.hid hs2
          have hpl : (p : Int) < (l.length : Int) := by omega
          have hgne : g ≠ wr.heap.size := by omega
          clear c0 c1 hg hs1 hs2 hown2
          go_wp2_with fail
          go_roundw
          case rel =>
            refine ⟨p + 1, q + 1, z.set p (x, y), by go_num, by go_num, by omega, by omega, ⟨by rw [List.length_set]; exact H1.out, ?_, ?_⟩, HS2.out.1, gr_trans (gr_trans (gr_trans hgr (gr_weak hg2 _)) HS1.out.2) HS2.out.2⟩
            · rw [HF.out, ← H2.out, List.take_succ_eq_append_getElem (by rw [List.length_set]; have := H1.out; omega)]
              simp [List.take_set_of_le]
            · rw [List.drop_set_of_lt (by omega)]
              have := congrArg List.tail H3.out
              simpa [List.tail_drop] using this
          case measure => simp [intOf]; omega
        · have HD := Lib.hid hd
          have HF : Hid ((l.take (q + 1)).filter (keepB least) = (l.take q).filter (keepB least)) := by
            show _ = _; rw [HTS.out, List.filter_append]; simp [keepB, HD.out]
          clear hd
          go_wp2_with fail
          refine (short_any x y least B _ (hBr.alloc _) m0 m1 m2 m3).mono ?_
          rintro _ w2 ⟨rfl, hg⟩
          rw [HD.out]
          have hg2 := gr_trans (World.grownBy_alloc wr (.cells #[.int .i64 x, .int .i64 y] 27) none) hg
          have HOW2 := Lib.hid (HOW.out.kept hg2 (by simp [Value.ownBlock]))
          clear c0 c1 hg
          go_wp2_with fail
          go_roundw
          case rel =>
            refine ⟨p, q + 1, z, rfl, by go_num, by omega, by omega, ⟨H1.out, by rw [HF.out, H2.out], ?_⟩, HOW2.out, gr_trans hgr (gr_weak hg2 _)⟩
            have := congrArg List.tail H3.out
            simpa [List.tail_drop] using this
          case measure => simp [intOf]; omega
      · have hql : ¬ (q : Int) < (l.length : Int) := by omega
        have hpl : (p : Int) ≤ (l.length : Int) := by omega
        have hpl2 : p < l.length := by omega
        obtain ⟨xs', hpre, hxl, hown2, hgr2⟩ := wins_zeros base g l.length ca (2 * (l.length - p)) (p * 2) wr (wcells z) hown
        have hcl : ∀ ty, (Builtin.clear_ #[40] ty #[.slice (some ⟨g, p * 2, none⟩) (l.length - p) (ca - p)]).run Try.prog wr = .ok (.tuple #[]) (wr.setCells g (p * 2) (List.replicate (2 * (l.length - p)) (.int .i64 0))) :=
          fun ty => run_clear_win wr ty g (p * 2) _ _ (by omega) (fun k hk => by
            rw [hown.cellAt (p * 2 + k) (by omega), List.getElem?_eq_getElem (by rw [wcells_len]; omega)]; rfl) (fun k hk => hown.frozenAt _)
        generalize wr.setCells g (p * 2) (List.replicate (2 * (l.length - p)) (.int .i64 0)) = W2 at *
        have hlq : l.take q = l := List.take_of_length_le (by omega)
        rw [hlq] at z2
        have hfl : (l.filter (keepB least)).length = p := by rw [← z2, List.length_take]; omega
        have hxs : xs'.take (p * 2) = wcells (l.filter (keepB least)) := by
          rw [← z2, ← wcells_take z p (by omega)]
          apply List.ext_getElem?
          intro k
          by_cases hk : k < p * 2
          · rw [List.getElem?_take_of_lt hk, List.getElem?_take_of_lt hk, hpre k hk]
          · rw [List.getElem?_take_eq_none (by omega), List.getElem?_take_eq_none (by omega)]
        have hfull : WinsFrom base W2 (.slice (some ⟨g, 0, none⟩) p ca) (l.filter (keepB least)) := by
          have h := win_take hown2 p (by omega)
          unfold WinsFrom
          rw [hfl, ← hxs]
          exact h
        have HFU := Lib.hid hfull
        clear hlq hfl hxs hfull z1 z2 z3 hpre hxl hown2 HZ hown
        go_wp2_with (simp only [hcl])
        go_ret
        exact ⟨_, rfl, HFU.out, gr_trans hgr hgr2⟩
end Go.Proofs.Ytlbhphfmckhimaa
