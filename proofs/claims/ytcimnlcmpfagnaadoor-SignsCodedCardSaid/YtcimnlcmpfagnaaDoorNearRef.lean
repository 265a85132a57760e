/- The walk over the document's nearest: as how many units a mark or a gap is read, and how far it is away. Condition: a length and a unit within bounds. -/
import Derived.Test.YtcimnlcmpfagnaaDoorHear
namespace Go.Proofs.YtcimnlcmpfagnaaDoor
open Go.RowKit
set_option linter.unusedVariables false
set_option linter.unusedSimpArgs false

theorem nrTo_ge (x u : Int) (k : Nat) : 0 < k → 0 ≤ (nrTo x u k).2 := by
  induction k with
  | zero => intro h; omega
  | succ k ih =>
    intro _
    have h := dN_0 x u (nthI k)
    rw [nrTo]
    split
    · exact h
    · rename_i hn
      have : ¬ (nrTo x u k).2 < 0 := fun e => hn (.inl e)
      show 0 ≤ (nrTo x u k).2
      omega
set_option maxRecDepth 100000 in
set_option maxHeartbeats 4000000 in
theorem refNear_any (base : Nat) (v : Value) (l : List Int) (i : Nat) (u : Int) (w : World) (hl : IntsFrom base w v l) (hi : i < l.length) (hn : l.length ≤ 1000000) (x0 : 0 ≤ l[i]) (x1 : l[i] ≤ 1000000) (u0 : 0 ≤ u) (u1 : u ≤ 100000) :
    Calls Tryd.prog 65 #[v, .int .i64 (i : Int), .int .i64 u] w fun e w' => e = .returned (.tuple #[.int .i64 (nearU (markB i) l[i] u), .int .i64 (nearO (markB i) l[i] u)]) ∧ w.grownBy w' none := by
  obtain ⟨A, c, rfl, hlen, hA⟩ := hl.shape
  obtain ⟨g, rfl, hg0, hg1⟩ := hA (by omega)
  have hil : (i : Int) < (l.length : Int) := by omega
  have HCX := Lib.hid (fun W' (h : w.grownBy W' none) => (hl.grown h).at_ i hi)
  clear hl hA
  have HM2 : Hid (nrTo l[i] u 2 = (nearU true l[i] u, nearO true l[i] u)) := nrTo_2 _ _
  have HM3 : Hid (nrTo l[i] u 3 = (nearU false l[i] u, nearO false l[i] u)) := nrTo_3 _ _
  have HGE := Lib.hid (fun k => nrTo_ge l[i] u k)
  generalize l[i] = x at *
  generalize l.length = N at *
  by_cases hpar : i % 2 = 0
  · have hmk : markB i = true := by unfold markB; simpa using hpar
    rw [hmk]
    have hr2 : (i : Int) % 2 = 0 := by omega
    have hB := Blk.new w 3 #[.int .i64 1, .int .i64 3]
    have HG := Lib.hid (World.grownBy_alloc w (.cells #[.int .i64 1, .int .i64 3] 3) none)
    go_enter Tryd.func65, Tryd.ntmps65
    go_wp2_with fail
    clear hr2
    generalize w.alloc (.cells #[.int .i64 1, .int .i64 3] 3) = W0 at *
    go_loopw [6, 7, 19] (fun a b j wr => ∃ k : Nat, k ≤ 2 ∧ W0.grownBy wr none ∧ j = .int .i64 k ∧ (k = 0 → a = .int .i64 0 ∧ b = .int .i64 0) ∧ (0 < k → a = .int .i64 (nrTo x u k).1 ∧ b = .int .i64 (nrTo x u k).2)) (fun _ _ j _ => 4 - (intOf j).toNat)
    case atStart => exact ⟨0, by omega, gr_refl _ _, rfl, fun _ => ⟨rfl, rfl⟩, fun h => by omega⟩
    case round =>
      obtain ⟨k, hk, hgr, rfl, hz, hp⟩ := hrel
      have cx := HCX.out wr (gr_trans HG.out hgr)
      have hBr := hB.grown hgr (by simp)
      have c0 := hBr.cell 0
      have c1 := hBr.cell 1
      simp only [List.getElem?_toArray, List.getElem?_cons_zero, List.getElem?_cons_succ] at c0 c1
      have hSU : nrTo x u (k + 1) = if (nrTo x u k).2 < 0 ∨ dN x u (nthI k) < (nrTo x u k).2 then (nthI k, dN x u (nthI k)) else nrTo x u k := rfl
      have HSU := Lib.hid hSU
      clear hSU
      rcases (show k = 0 ∨ k = 1 ∨ k = 2 by omega) with rfl | rfl | rfl
      · obtain ⟨rfl, rfl⟩ := hz rfl
        clear hz hp
        go_wp2_with fail
        go_quiet (fail)
        go_wp2_with fail
        go_roundw
        case rel => exact ⟨1, by omega, gr_drewN hgr _, rfl, fun h => by omega, fun _ => by rw [nrTo_1]; unfold dN; simp⟩
        case measure => simp [intOf]
      · obtain ⟨ha, hb⟩ := hp (by omega)
        obtain ⟨a, hae⟩ : ∃ a, (nrTo x u 1).2 = a := ⟨_, rfl⟩
        obtain ⟨n0, hn0⟩ : ∃ a, (nrTo x u 1).1 = a := ⟨_, rfl⟩
        have ha0 : ¬ a < 0 := by rw [← hae]; have := HGE.out 1 (by omega); omega
        have HN2 : Hid (nrTo x u (1 + 1) = if a < 0 ∨ max (x - 3 * u) (3 * u - x) < a then (3, max (x - 3 * u) (3 * u - x)) else (n0, a)) := by
          rw [← hae, ← hn0]; exact HSU.out
        rw [hn0] at ha
        rw [hae] at hb
        subst ha hb
        clear hae hn0 HSU hz hp
        by_cases hlt : max (x - 3 * u) (3 * u - x) < a
        · go_wp2_with fail
          go_quiet (fail)
          go_wp2_with fail
          go_roundw
          case rel => exact ⟨2, by omega, gr_drewN hgr _, rfl, fun h => by omega, fun _ => by rw [HN2.out, if_pos (.inr hlt)]; exact ⟨rfl, rfl⟩⟩
          case measure => simp [intOf]
        · go_wp2_with fail
          go_quiet (fail)
          go_wp2_with fail
          go_roundw
          case rel => exact ⟨2, by omega, gr_drewN hgr _, rfl, fun h => by omega, fun _ => by rw [HN2.out, if_neg (by omega)]; exact ⟨rfl, rfl⟩⟩
          case measure => simp [intOf]
      · obtain ⟨rfl, rfl⟩ := hp (by omega)
        clear hz hp
        go_wp2_with fail
        go_ret2
        exact ⟨by rw [HM2.out]; rfl, gr_trans HG.out hgr⟩
  · have hmk : markB i = false := by unfold markB; simpa using hpar
    rw [hmk]
    have hr2 : (i : Int) % 2 = 1 := by omega
    have hB := Blk.new (w.alloc (.cells #[.int .i64 1, .int .i64 3] 3)) 3 #[.int .i64 1, .int .i64 3, .int .i64 7]
    rw [show (w.alloc (.cells #[.int .i64 1, .int .i64 3] 3)).heap.size = w.heap.size + 1 from by simp] at hB
    have HG := Lib.hid (gr_trans (World.grownBy_alloc w (.cells #[.int .i64 1, .int .i64 3] 3) none) (World.grownBy_alloc _ (.cells #[.int .i64 1, .int .i64 3, .int .i64 7] 3) none))
    go_enter Tryd.func65, Tryd.ntmps65
    go_wp2_with fail
    clear hr2
    generalize (w.alloc (.cells #[.int .i64 1, .int .i64 3] 3)).alloc (.cells #[.int .i64 1, .int .i64 3, .int .i64 7] 3) = W0 at *
    go_loopw [6, 7, 19] (fun a b j wr => ∃ k : Nat, k ≤ 3 ∧ W0.grownBy wr none ∧ j = .int .i64 k ∧ (k = 0 → a = .int .i64 0 ∧ b = .int .i64 0) ∧ (0 < k → a = .int .i64 (nrTo x u k).1 ∧ b = .int .i64 (nrTo x u k).2)) (fun _ _ j _ => 4 - (intOf j).toNat)
    case atStart => exact ⟨0, by omega, gr_refl _ _, rfl, fun _ => ⟨rfl, rfl⟩, fun h => by omega⟩
    case round =>
      obtain ⟨k, hk, hgr, rfl, hz, hp⟩ := hrel
      have cx := HCX.out wr (gr_trans HG.out hgr)
      have hBr := hB.grown hgr (by simp)
      have c0 := hBr.cell 0
      have c1 := hBr.cell 1
      have c2 := hBr.cell 2
      simp only [List.getElem?_toArray, List.getElem?_cons_zero, List.getElem?_cons_succ] at c0 c1 c2
      have hSU : nrTo x u (k + 1) = if (nrTo x u k).2 < 0 ∨ dN x u (nthI k) < (nrTo x u k).2 then (nthI k, dN x u (nthI k)) else nrTo x u k := rfl
      have HSU := Lib.hid hSU
      clear hSU
      rcases (show k = 0 ∨ k = 1 ∨ k = 2 ∨ k = 3 by omega) with rfl | rfl | rfl | rfl
      · obtain ⟨rfl, rfl⟩ := hz rfl
        clear hz hp
        go_wp2_with fail
        go_quiet (fail)
        go_wp2_with fail
        go_roundw
        case rel => exact ⟨1, by omega, gr_drewN hgr _, rfl, fun h => by omega, fun _ => by rw [nrTo_1]; unfold dN; simp⟩
        case measure => simp [intOf]
      · obtain ⟨ha, hb⟩ := hp (by omega)
        obtain ⟨a, hae⟩ : ∃ a, (nrTo x u 1).2 = a := ⟨_, rfl⟩
        obtain ⟨n0, hn0⟩ : ∃ a, (nrTo x u 1).1 = a := ⟨_, rfl⟩
        have ha0 : ¬ a < 0 := by rw [← hae]; have := HGE.out 1 (by omega); omega
        have HN2 : Hid (nrTo x u (1 + 1) = if a < 0 ∨ max (x - 3 * u) (3 * u - x) < a then (3, max (x - 3 * u) (3 * u - x)) else (n0, a)) := by
          rw [← hae, ← hn0]; exact HSU.out
        rw [hn0] at ha
        rw [hae] at hb
        subst ha hb
        clear hae hn0 HSU hz hp
        by_cases hlt : max (x - 3 * u) (3 * u - x) < a
        · go_wp2_with fail
          go_quiet (fail)
          go_wp2_with fail
          go_roundw
          case rel => exact ⟨2, by omega, gr_drewN hgr _, rfl, fun h => by omega, fun _ => by rw [HN2.out, if_pos (.inr hlt)]; exact ⟨rfl, rfl⟩⟩
          case measure => simp [intOf]
        · go_wp2_with fail
          go_quiet (fail)
          go_wp2_with fail
          go_roundw
          case rel => exact ⟨2, by omega, gr_drewN hgr _, rfl, fun h => by omega, fun _ => by rw [HN2.out, if_neg (by omega)]; exact ⟨rfl, rfl⟩⟩
          case measure => simp [intOf]
      · obtain ⟨ha, hb⟩ := hp (by omega)
        obtain ⟨a, hae⟩ : ∃ a, (nrTo x u 2).2 = a := ⟨_, rfl⟩
        obtain ⟨n0, hn0⟩ : ∃ a, (nrTo x u 2).1 = a := ⟨_, rfl⟩
        have ha0 : ¬ a < 0 := by rw [← hae]; have := HGE.out 2 (by omega); omega
        have HN2 : Hid (nrTo x u (2 + 1) = if a < 0 ∨ max (x - 7 * u) (7 * u - x) < a then (7, max (x - 7 * u) (7 * u - x)) else (n0, a)) := by
          rw [← hae, ← hn0]; exact HSU.out
        rw [hn0] at ha
        rw [hae] at hb
        subst ha hb
        clear hae hn0 HSU hz hp
        by_cases hlt : max (x - 7 * u) (7 * u - x) < a
        · go_wp2_with fail
          go_quiet (fail)
          go_wp2_with fail
          go_roundw
          case rel => exact ⟨3, by omega, gr_drewN hgr _, rfl, fun h => by omega, fun _ => by rw [HN2.out, if_pos (.inr hlt)]; exact ⟨rfl, rfl⟩⟩
          case measure => simp [intOf]
        · go_wp2_with fail
          go_quiet (fail)
          go_wp2_with fail
          go_roundw
          case rel => exact ⟨3, by omega, gr_drewN hgr _, rfl, fun h => by omega, fun _ => by rw [HN2.out, if_neg (by omega)]; exact ⟨rfl, rfl⟩⟩
          case measure => simp [intOf]
      · obtain ⟨rfl, rfl⟩ := hp (by omega)
        clear hz hp
        go_wp2_with fail
        go_ret2
        exact ⟨by rw [HM3.out]; rfl, gr_trans HG.out hgr⟩
end Go.Proofs.YtcimnlcmpfagnaaDoor
