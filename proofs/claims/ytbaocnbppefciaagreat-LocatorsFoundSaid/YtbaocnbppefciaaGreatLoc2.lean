/- The walks over IsLocator, area, middle at strings of right signs. Condition: the signs are right. -/
import Derived.Test.YtbaocnbppefciaaGreatLoc
namespace Go.Proofs.YtbaocnbppefciaaGreat
open Go.RowKit
set_option linter.unusedVariables false
set_option linter.unusedSimpArgs false

/-- A string whose bytes are these numbers, two for each level. -/
structure LocS (s : ByteArray) (x : Nat → Int) (m : Nat) : Prop where
  m0 : 0 < m
  m3 : m ≤ 3
  size : s.size = 2 * m
  dig : ∀ i (h : i < s.size), ((s[i].toNat : Nat) : Int) = x i
  ok : LocOk x m
theorem LocS.each {s : ByteArray} {x : Nat → Int} {m : Nat} (h : LocS s x m) (k : Nat) (hk : k < s.size) : k / 2 < 3 ∧ lvFirst (k / 2) ≤ x k ∧ x k < lvFirst (k / 2) + lvMany (k / 2) := by
  have h1 := h.size
  have h2 := h.m3
  have h3 := h.ok (k / 2) (by omega)
  rcases (by omega : k = 2 * (k / 2) ∨ k = 2 * (k / 2) + 1) with e | e
  · rw [e] ; rw [← e]; refine ⟨by omega, ?_⟩
    have := h3.1; have := h3.2.1
    rw [← e] at *
    exact ⟨by assumption, by assumption⟩
  · refine ⟨by omega, ?_⟩
    have := h3.2.2.1; have := h3.2.2.2
    rw [← e] at *
    exact ⟨by assumption, by assumption⟩

set_option maxRecDepth 100000 in
set_option maxHeartbeats 4000000 in
theorem isLocator_ok (s : ByteArray) (x : Nat → Int) (m : Nat) (w : World) (h : LocS s x m) :
    Calls Tryz.prog 12 #[.string s] w fun r w' => r = .returned (.bool true) ∧ w.grownBy w' none := by
  have HS := Lib.hid h
  have hsz := h.size
  have h0 := h.m0
  have h3 := h.m3
  have hlen : (s.size = 2 ∨ s.size = 4 ∨ s.size = 6) := by omega
  have HSZ := Lib.hid hsz
  clear h hsz
  have hway : ((s.size : Int) != 2) = false ∨ (((s.size : Int) != 2) = true ∧ ((s.size : Int) != 4) = false) ∨ (((s.size : Int) != 2) = true ∧ ((s.size : Int) != 4) = true ∧ ((s.size : Int) != 6) = false) := by
    rcases hlen with hl | hl | hl <;> simp <;> omega
  have hb6 : s.size ≤ 6 := by omega
  clear hlen
  rcases hway with w1 | ⟨w1, w2⟩ | ⟨w1, w2, w3⟩
  all_goals
    go_enter Tryz.func12, Tryz.ntmps12
    go_wp2_with fail
    go_loopw [20] (fun i wr => ∃ k : Nat, k ≤ s.size ∧ i = .int .i64 k ∧ w.grownBy wr none) (fun i _ => s.size - (intOf i).toNat)
    case atStart => exact ⟨0, by omega, rfl, gr_refl _ _⟩
    case round =>
      obtain ⟨k, hk, rfl, hgr⟩ := hrel
      by_cases hlt : k < s.size
      · obtain ⟨j3, d0, d1⟩ := HS.out.each k hlt
        have hdg := HS.out.dig k hlt
        obtain ⟨c, hc⟩ : ∃ c, x k = c := ⟨_, rfl⟩
        rw [hc] at hdg d0 d1
        obtain ⟨j, hj⟩ : ∃ j, k / 2 = j := ⟨_, rfl⟩
        rw [hj] at j3 d0 d1
        have hj2 : (k : Int) / 2 = (j : Int) := by omega
        obtain ⟨l0, l1, l2, l3, -⟩ := lv_bd j j3
        have hB := Blk.new wr 68 lvCells
        obtain ⟨c0, c1, c2, c3⟩ := lv_cells hB j j3
        generalize lvMany j = mn at *
        generalize lvFirst j = f at *
        generalize lvWide j = wd at *
        generalize lvHigh j = hg at *
        have u1 : IntKind.u8.wrap (c - f) = c - f := IntWalk.u8_in _ ⟨by omega, by omega⟩
        have u2 : IntKind.i64.wrap (c - f) = c - f := i64_in _ ⟨by omega, by omega⟩
        have t1 : decide (c < f) = false := by simp; omega
        have t2 : decide (mn ≤ c - f) = false := by simp; omega
        have t3 : ¬ c < f := by omega
        have t4 : ¬ mn ≤ c - f := by omega
        have hkl : (k : Int) < (s.size : Int) := by omega
        have hj3 : (j : Int) < 3 := by omega
        clear hc hj
        go_wp2_with fail
        refine (levels_any _).mono ?_
        rintro _ _ ⟨rfl, rfl⟩
        go_wp2_with fail
        have hB4 := Blk.new (wr.alloc (.cells lvCells 68)) 68 #[.int .i64 mn, .int .u8 f, .int .i64 wd, .int .i64 hg]
        rw [World.size_alloc] at hB4
        have hG4 : w.grownBy ((wr.alloc (.cells lvCells 68)).alloc (.cells #[.int .i64 mn, .int .u8 f, .int .i64 wd, .int .i64 hg] 68)) none := gr_alloc (gr_alloc hgr _) _
        obtain ⟨b0, b1, -, -⟩ := hB4.cells4
        generalize (wr.alloc (.cells lvCells 68)).alloc (.cells #[.int .i64 mn, .int .u8 f, .int .i64 wd, .int .i64 hg] 68) = W2 at *
        go_region_held3 (fun W' => W'.cell? ⟨wr.heap.size + 1, 0, none⟩ = some (.int .i64 mn) ∧ W'.cell? ⟨wr.heap.size + 1, 1, none⟩ = some (.int .u8 f)) ((exact ⟨b0, b1⟩)) (first | fail)
        go_wp2_with fail
        go_roundw
        case rel => exact ⟨k + 1, by omega, by go_num, gr_drew hG4⟩
        case measure => simp [intOf]; omega
      · have hkl : ¬ (k : Int) < (s.size : Int) := by omega
        go_wp2_with fail
        go_ret
        exact ⟨rfl, hgr⟩
end Go.Proofs.YtbaocnbppefciaaGreat
