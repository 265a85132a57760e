/- slices.DeleteFunc at a slice of ints that the call owns, with the closure of GoalsFollowed: what is left are some ints in the same block. Condition: at most 1000 numbers. -/
import Derived.Test.YtjhklpffmfdkbaaAheadOf
import Derived.Lib.SliceRun
namespace Go.Proofs.Ytjhklpffmfdkbaa
open Go.RowKit
set_option linter.unusedVariables false

theorem zeroInt (w : World) : (zeroValue 3).run Try.prog w = .ok (.int .i64 0) w := by kernel_rfl
theorem ints_zeros (base g n c : Nat) : ∀ (m o : Nat) (w : World) (l : List Int), w.ownsRow base 3 1 (.slice (some ⟨g, 0, none⟩) n c) n (l.map (Value.int .i64)) →
    ∃ l' : List Int, l'.length = l.length ∧ (w.setCells g o (List.replicate m (.int .i64 0))).ownsRow base 3 1 (.slice (some ⟨g, 0, none⟩) n c) n (l'.map (Value.int .i64)) ∧ w.grownBy (w.setCells g o (List.replicate m (.int .i64 0))) (some g)
  | 0, o, w, l, h => ⟨l, rfl, h, gr_refl _ _⟩
  | m + 1, o, w, l, h => by
    have h1 := h.stored o (.int .i64 0)
    rw [← List.map_set] at h1
    obtain ⟨l', e, h2, h3⟩ := ints_zeros base g n c m (o + 1) _ _ h1.1
    exact ⟨l', by rw [e]; simp, h2, gr_trans h1.2 h3⟩

def delB (f t x : Int) : Bool := decide (t ≤ x) || decide (x < f)
set_option maxHeartbeats 400000 in
theorem del_any (f t x : Int) (B : Nat) (w : World) (hB : Blk w B 27 #[.int .i64 f, .int .i64 t]) :
    Calls Try.prog 42 #[.int .i64 x, .pointer (some ⟨B, 0, none⟩)] w fun r w' => r = .returned (.bool (delB f t x)) ∧ w = w' := by
  have c0 := hB.cell 0
  have c1 := hB.cell 1
  simp only [List.getElem?_toArray, List.getElem?_cons_zero, List.getElem?_cons_succ] at c0 c1
  by_cases h : t ≤ x
  · have HE : Hid (delB f t x = true) := by show _ = _; unfold delB; simp [h]
    go_enter Try.func42, Try.ntmps42
    go_wp2_with fail
    go_ret
    exact ⟨ret_b HE.out.symm, rfl⟩
  · have HE : Hid (delB f t x = decide (x < f)) := by show _ = _; unfold delB; simp [h]
    go_enter Try.func42, Try.ntmps42
    go_wp2_with fail
    go_ret
    exact ⟨ret_b HE.out.symm, rfl⟩

def IdxPost (n : Nat) (w : World) (e : Ending) (w' : World) : Prop := ∃ i : Int, e = .returned (.int .i64 i) ∧ (i = -1 ∨ 0 ≤ i ∧ i < n) ∧ w = w'
set_option maxHeartbeats 1000000 in
theorem index_any (base B : Nat) (u : Value) (l : List Int) (f t : Int) (w : World) (hu : IntsFrom base w u l) (hB : Blk w B 27 #[.int .i64 f, .int .i64 t]) :
    Calls Try.prog 83 #[u, .func (.func 42) #[] #[.pointer (some ⟨B, 0, none⟩)]] w (IdxPost l.length w) := by
  obtain ⟨A, ca, rfl, hla, hA⟩ := hu.shape
  have HU := Lib.hid hu
  clear hu
  go_enter Try.func83, Try.ntmps83
  go_wp2_with fail
  go_loop [8] (fun i => ∃ k : Nat, k ≤ l.length ∧ i = .int .i64 k) (fun i => l.length - (intOf i).toNat)
  case atStart => exact ⟨0, by omega, rfl⟩
  case round =>
    obtain ⟨k, hk, rfl⟩ := hrel
    by_cases hlt : k < l.length
    · obtain ⟨g, rfl, _, _⟩ := hA (by omega)
      have cx := HU.out.at_ k hlt
      have hkl : (k : Int) < (l.length : Int) := by omega
      generalize l[k] = x at *
      rcases hd : delB f t x
      · go_wp2_with fail
        refine (del_any f t x B w hB).mono ?_
        rintro _ w1 ⟨rfl, rfl⟩
        go_wp2_with fail
        go_round
        case rel => exact ⟨k + 1, by omega, by go_num⟩
        case measure => simp [intOf]; omega
      · go_wp2_with fail
        refine (del_any f t x B w hB).mono ?_
        rintro _ w1 ⟨rfl, rfl⟩
        go_wp2_with fail
        go_ret
        exact ⟨k, rfl, .inr ⟨by omega, by omega⟩, rfl⟩
    · have hkl : ¬ (k : Int) < (l.length : Int) := by omega
      go_wp2_with fail
      go_ret
      exact ⟨-1, rfl, .inl rfl, rfl⟩

def DelPost (base : Nat) (u : Value) (n : Nat) (w : World) (e : Ending) (w' : World) : Prop := ∃ v l', e = .returned v ∧ IntsFrom base w' v l' ∧ l'.length ≤ n ∧ w.grownBy w' u.ownBlock
set_option maxRecDepth 100000 in
set_option maxHeartbeats 2000000 in
theorem delete_any (base B : Nat) (u : Value) (l : List Int) (f t : Int) (w : World) (hu : IntsFrom base w u l) (hB : Blk w B 27 #[.int .i64 f, .int .i64 t]) (hlt : B < base) (hn : l.length ≤ 1000) :
    Calls Try.prog 41 #[u, .func (.func 42) #[] #[.pointer (some ⟨B, 0, none⟩)]] w (DelPost base u l.length w) := by
  obtain ⟨A, ca, rfl, hla, hA⟩ := hu.shape
  have hcap := hu.cap
  have HU := Lib.hid hu
  clear hu
  go_enter Try.func41, Try.ntmps41
  go_wp2_with fail
  refine (index_any base B _ l f t w HU.out hB).mono ?_
  rintro _ w1 ⟨i, rfl, hi, rfl⟩
  rcases hi with rfl | ⟨hi0, hi1⟩
  · go_wp2_with fail
    go_ret
    exact ⟨_, l, rfl, HU.out, Nat.le_refl _, gr_refl _ _⟩
  · obtain ⟨j, rfl⟩ := Int.eq_ofNat_of_zero_le hi0
    have hne : ((j : Int) == -1) = false := by rw [beq_eq_false_iff_ne]; omega
    obtain ⟨g, rfl, hg0, hg1⟩ := hA (by omega)
    have HU0 := Lib.hid HU.out
    have hj1 : j < l.length := by omega
    clear hA
    go_wp2_with fail
    go_loopw [5, 6] (fun a b wr => ∃ (p q : Nat) (z : List Int), a = .int .i64 p ∧ b = .int .i64 q ∧ p < q ∧ q ≤ l.length ∧ z.length = l.length ∧ wr.ownsRow base 3 1 (.slice (some ⟨g, 0, none⟩) l.length ca) l.length (z.map (Value.int .i64)) ∧ w.grownBy wr (some g)) (fun _ b _ => l.length - (intOf b).toNat)
    case atStart => exact ⟨j, j + 1, l, rfl, by go_num, by omega, by omega, rfl, HU0.out, gr_refl _ _⟩
    case round =>
      obtain ⟨p, q, z, rfl, rfl, hpq, hq, hz, hown, hgr⟩ := hrel
      have hBr := hB.grown hgr (by simp; omega)
      by_cases hlt2 : q < l.length
      · have hqz : q < z.length := by omega
        have cx : wr.cell? ⟨g, q, none⟩ = some (.int .i64 z[q]) := by
          rw [hown.cellAt q (by omega)]; simp [hqz]
        have cp : wr.cell? ⟨g, p, none⟩ = some (.int .i64 (z[p]'(by omega))) := by
          rw [hown.cellAt p (by omega)]; simp [show p < z.length by omega]
        have fp := hown.frozenAt p
        have hql : (q : Int) < (l.length : Int) := by omega
        have hst : ∀ x, _ := fun x => hown.stored p (.int .i64 x)
        generalize z[q] = x at *
        generalize z[p] = x0 at *
        have HS := Lib.hid (hst x)
        clear hst
        rcases hd : delB f t x
        · go_wp2_with fail
          refine (del_any f t x B wr hBr).mono ?_
          rintro _ w2 ⟨rfl, rfl⟩
          go_wp2_with fail
          go_roundw
          case rel => exact ⟨p + 1, q + 1, z.set p x, by go_num, by go_num, by omega, by omega, by simp; omega, by rw [List.map_set]; exact HS.out.1, gr_trans hgr HS.out.2⟩
          case measure => simp [intOf]; omega
        · go_wp2_with fail
          refine (del_any f t x B wr hBr).mono ?_
          rintro _ w2 ⟨rfl, rfl⟩
          go_wp2_with fail
          go_roundw
          case rel => exact ⟨p, q + 1, z, rfl, by go_num, by omega, by omega, hz, hown, hgr⟩
          case measure => simp [intOf]; omega
      · have hql : ¬ (q : Int) < (l.length : Int) := by omega
        have hpl : (p : Int) ≤ (l.length : Int) := by omega
        have hpl2 : p < l.length := by omega
        obtain ⟨z', hz', hown2, hgr2⟩ := ints_zeros base g l.length ca (l.length - p) p wr z hown
        have hcl : ∀ ty, (Builtin.clear_ #[22] ty #[.slice (some ⟨g, p, none⟩) (l.length - p) (ca - p)]).run Try.prog wr = .ok (.tuple #[]) (wr.setCells g p (List.replicate (l.length - p) (.int .i64 0))) :=
          fun ty => Lib.run_clear_slice wr 22 3 ty (.int .i64 0) Try.underlying22 zeroInt rfl rfl g p _ _ (by omega) (fun k hk => by rw [hown.cellAt (p + k) (by omega)]; simp [show p + k < z.length by omega]) (fun k hk => hown.frozenAt _)
        generalize wr.setCells g p (List.replicate (l.length - p) (.int .i64 0)) = W2 at *
        have HZ := Lib.hid hz'
        have HZZ := Lib.hid hz
        clear hz hz'
        go_wp2_with (simp only [hcl])
        go_ret
        have hfull : IntsFrom base W2 (.slice (some ⟨g, 0, none⟩) l.length ca) z' := by
          unfold IntsFrom; rw [HZ.out, HZZ.out]; exact hown2
        have hlen : z'.length = l.length := by rw [HZ.out, HZZ.out]
        refine ⟨_, z'.take p, rfl, IntsFrom.take (by rw [hlen]; exact hfull) p (by omega), by simp; omega, gr_trans hgr hgr2⟩
end Go.Proofs.Ytjhklpffmfdkbaa
