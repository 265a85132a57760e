/- The walks over locators in package place: levels, IsLocator, area, middle, locator. Condition: strings of bytes. -/
import Derived.Test.YtbaocnbppefciaaGreatLocPlain
import Derived.Test.YtbaocnbppefciaaGreatSkyR
import Derived.Test.YtbaocnbppefciaaGreatStreamA
import Derived.Test.YtbaocnbppefciaaGreatInts
import Derived.Laws.BytesArg
import Derived.Deep.AppendLies
import Derived.Deep.RegionHeld3
import Derived.Deep.RegionHeldLaw
namespace Go.Proofs.YtbaocnbppefciaaGreat
open Go.RowKit
set_option linter.unusedVariables false
set_option linter.unusedSimpArgs false

def lvCells : Array Value := #[.int .i64 18, .int .u8 97, .int .i64 72000, .int .i64 36000, .int .i64 10, .int .u8 48, .int .i64 7200, .int .i64 3600, .int .i64 24, .int .u8 97, .int .i64 300, .int .i64 150]
set_option maxHeartbeats 400000 in
theorem levels_any (w : World) : Calls Tryz.prog 38 #[] w fun e w' => e = .returned (.slice (some ⟨w.heap.size, 0, none⟩) 3 3) ∧ w' = w.alloc (.cells lvCells 68) := by
  go_enter Tryz.func38, Tryz.ntmps38
  go_wp2_with fail
  go_ret
  exact ⟨rfl, rfl⟩
theorem lv_cells {w : World} {g : Nat} (h : Blk w g 68 lvCells) (j : Nat) (hj : j < 3) :
    w.cell? ⟨g, j * 4, none⟩ = some (.int .i64 (lvMany j)) ∧ w.cell? ⟨g, j * 4 + 1, none⟩ = some (.int .u8 (lvFirst j)) ∧ w.cell? ⟨g, j * 4 + 2, none⟩ = some (.int .i64 (lvWide j)) ∧ w.cell? ⟨g, j * 4 + 3, none⟩ = some (.int .i64 (lvHigh j)) := by
  rw [h.cell, h.cell, h.cell, h.cell]
  rcases (by omega : j = 0 ∨ j = 1 ∨ j = 2) with rfl | rfl | rfl <;> exact ⟨rfl, rfl, rfl, rfl⟩
theorem Blk.cells4 {w : World} {g : Nat} {t : TypeId} {a0 a1 a2 a3 : Value} (h : Blk w g t #[a0, a1, a2, a3]) : w.cell? ⟨g, 0, none⟩ = some a0 ∧ w.cell? ⟨g, 1, none⟩ = some a1 ∧ w.cell? ⟨g, 2, none⟩ = some a2 ∧ w.cell? ⟨g, 3, none⟩ = some a3 := ⟨h.cell 0, h.cell 1, h.cell 2, h.cell 3⟩

/-- The bytes of a slice, that lies in a block from base on. -/
def BytesFrom (base : Nat) (w : World) (v : Value) (l : List Int) : Prop := w.ownsRow base 5 1 v l.length (l.map (Value.int .u8))
theorem byteInfo : (Tryz.prog.info? 5).map (fun i => (i.zero, i.size, i.bytes)) = some (some (.int .u8 0), 1, 1) := by kernel_rfl
theorem two_bytes (w : World) (x y : Int) (t : TypeId) : ∀ j u, ([Value.int .u8 x, .int .u8 y])[j]? = some u → (w.alloc (.cells #[.int .u8 x, .int .u8 y] t)).cell? ((⟨w.heap.size, 0, none⟩ : Addr).add j) = some u := by
  intro j u hu
  have hb := (Blk.new w t #[.int .u8 x, .int .u8 y]).cell j
  have hadd : (⟨w.heap.size, 0, none⟩ : Addr).add j = ⟨w.heap.size, j, none⟩ := by unfold Addr.add; split <;> simp_all
  rw [hadd, hb]
  simpa using hu
theorem two_byteCell (x y : Int) : ∀ u ∈ [Value.int .u8 x, .int .u8 y], u.oneCell' = true := by
  intro u hu; simp at hu; rcases hu with rfl | rfl <;> rfl

set_option maxRecDepth 100000 in
set_option maxHeartbeats 4000000 in
theorem locator_any (n e : Int) (m : Nat) (w : World) (hm0 : 0 < m) (hm : m ≤ 3) (n0 : -324000 ≤ n) (n1 : n ≤ 324000) (e0 : -648000 ≤ e) (e1 : e ≤ 647999) :
    Calls Tryz.prog 44 #[.agg #[.int .i64 n, .int .i64 e], .int .i64 (2 * m : Nat)] w fun r w' => r = .returned (.string (strOfNums (locL n e m))) ∧ w.grownBy w' none := by
  obtain ⟨j0, hj, hy0, hy1, hy2⟩ := info_parts byteInfo
  have hx := Blk.new w 27 #[.int .i64 n, .int .i64 e]
  have hG := World.grownBy_alloc w (.cells #[.int .i64 n, .int .i64 e] 27) none
  have HL : Hid (locL n e m = locFrom 0 m (e + 648000) (min (n + 324000) 647999)) := rfl
  have hN0 : 0 ≤ min (n + 324000) 647999 ∧ min (n + 324000) 647999 < 648000 := by omega
  have m1 : IntKind.i64.wrap (e + 648000) = e + 648000 := i64_in _ ⟨by omega, by omega⟩
  have m2 : IntKind.i64.wrap (n + 324000) = n + 324000 := i64_in _ ⟨by omega, by omega⟩
  have m3 : (2 * (m : Int)) / 2 = (m : Int) := by omega
  have hm3 : (m : Int) ≤ 3 := by omega
  have hNN : ∃ N0 : Int, min (n + 324000) 647999 = N0 ∧ ((n + 324000 ≤ 647999 ∧ N0 = n + 324000) ∨ (647999 < n + 324000 ∧ N0 = 647999)) := ⟨_, rfl, by omega⟩
  obtain ⟨N0, hN1, hN2⟩ := hNN
  rw [hN1] at HL hN0
  have HN1 := Lib.hid hN1
  clear hN1
  rcases hN2 with ⟨hq, rfl⟩ | ⟨hq, rfl⟩
  all_goals
    have hN1' := HN1.out
    go_enter Tryz.func44, Tryz.ntmps44
    go_wp2_with fail
    go_quiet (fail)
    go_wp2_with fail
    refine (levels_any _).mono ?_
    rintro _ _ ⟨rfl, rfl⟩
    have hlv := Blk.new ((w.alloc (.cells #[.int .i64 n, .int .i64 e] 27)).drewN nq) 68 lvCells
    have hG1 : w.grownBy (((w.alloc (.cells #[.int .i64 n, .int .i64 e] 27)).drewN nq).alloc (.cells lvCells 68)) none := gr_alloc (gr_drewN hG nq) _
    generalize ((w.alloc (.cells #[.int .i64 n, .int .i64 e] 27)).drewN nq).alloc (.cells lvCells 68) = W at *
    generalize ((w.alloc (.cells #[.int .i64 n, .int .i64 e] 27)).drewN nq).heap.size = gl at *
    go_wp2_with fail
    go_loopw [5, 6, 7, 22] (fun ee nn o i wr => ∃ (j : Nat) (E N : Int) (out : List Int), j ≤ m ∧ i = .int .i64 j ∧ ee = .int .i64 E ∧ nn = .int .i64 N ∧ Hid (locL n e m = out ++ locFrom j (m - j) E N) ∧ Hid (j < m → 0 ≤ E ∧ E < lvAll j ∧ 0 ≤ N ∧ N < lvTall j) ∧ out.length = 2 * j ∧ BytesFrom W.heap.size wr o out ∧ W.grownBy wr none) (fun _ _ _ i _ => m - (intOf i).toNat)
    case atStart => exact ⟨0, _, _, [], by omega, rfl, rfl, rfl, HL, fun _ => ⟨by omega, by show _ < (1296000 : Int); omega, by omega, by show _ < (648000 : Int); omega⟩, rfl, World.ownsRow_nil _ _ _ _, gr_refl _ _⟩
    case round =>
      obtain ⟨j, E, N, out, hjm, rfl, rfl, rfl, HR, HB, hol, hown, hgr⟩ := hrel
      obtain ⟨A2, c2, rfl, hlen2, _⟩ := ownsRow_shape hown
      have hol2 : out.length ≤ 6 := by omega
      have HOL := Lib.hid hol
      clear hol
      by_cases hlt : j < m
      · obtain ⟨q0, q1, q2, q3⟩ := HB.out hlt
        have hQ := quo_lv j (by omega) q0 q1
        have hT := quo_tall j (by omega) q2 q3
        obtain ⟨l0, l1, l2, l3, l4, l5, l6, l7, l8, l9⟩ := lv_bd j (by omega)
        obtain ⟨c0, c1, c2', c3⟩ := lv_cells (hlv.grown hgr (by simp)) j (by omega)
        have HN : Hid (locL n e m = (out ++ [lvFirst j + E / lvWide j, lvFirst j + N / lvHigh j]) ++ locFrom (j + 1) (m - (j + 1)) (E % lvWide j) (N % lvHigh j)) := by
          show _ = _
          rw [HR.out, show m - j = (m - (j + 1)) + 1 by omega, locFrom]
          simp
        have HB2 : Hid (j + 1 < m → 0 ≤ E % lvWide j ∧ E % lvWide j < lvAll (j + 1) ∧ 0 ≤ N % lvHigh j ∧ N % lvHigh j < lvTall (j + 1)) := fun h => ⟨hQ.2.2.1, hQ.2.2.2 (by omega), hT.2.2.1, hT.2.2.2 (by omega)⟩
        obtain ⟨r0, r1, -, -⟩ := hQ
        obtain ⟨s0, s1, -, -⟩ := hT
        generalize lvMany j = mn at *
        generalize lvFirst j = f at *
        generalize lvWide j = wd at *
        generalize lvHigh j = hg at *
        obtain ⟨x, hxq⟩ : ∃ x, E / wd = x := ⟨_, rfl⟩
        obtain ⟨y, hyq⟩ : ∃ y, N / hg = y := ⟨_, rfl⟩
        rw [hxq] at r0 r1 HN
        rw [hyq] at s0 s1 HN
        have t1 : E.tdiv wd = x := by rw [← hxq]; exact Int.tdiv_eq_ediv_of_nonneg q0
        have t2 : N.tdiv hg = y := by rw [← hyq]; exact Int.tdiv_eq_ediv_of_nonneg q2
        have u1 : IntKind.i64.wrap (E.tdiv wd) = x := by rw [t1]; exact i64_in _ ⟨by omega, by omega⟩
        have u2 : IntKind.i64.wrap (N.tdiv hg) = y := by rw [t2]; exact i64_in _ ⟨by omega, by omega⟩
        have u3 : IntKind.u8.wrap x = x := IntWalk.u8_in _ ⟨by omega, by omega⟩
        have u4 : IntKind.u8.wrap y = y := IntWalk.u8_in _ ⟨by omega, by omega⟩
        have u5 : IntKind.u8.wrap (f + x) = f + x := IntWalk.u8_in _ ⟨by omega, by omega⟩
        have u6 : IntKind.u8.wrap (f + y) = f + y := IntWalk.u8_in _ ⟨by omega, by omega⟩
        have v1 : ¬ wd = 0 := by omega
        have v2 : ¬ hg = 0 := by omega
        have hjl : (j : Int) < (m : Int) := by omega
        have hszr := hgr.size
        have hB := Blk.new wr 68 #[.int .i64 mn, .int .u8 f, .int .i64 wd, .int .i64 hg]
        have KX : Hid (∀ (W' : World) (row : Option Nat), (wr.alloc (.cells #[.int .i64 mn, .int .u8 f, .int .i64 wd, .int .i64 hg] 68)).grownBy W' row → some wr.heap.size ≠ row → W'.cell? ⟨wr.heap.size, 1, none⟩ = some (.int .u8 f) ∧ W'.cell? ⟨wr.heap.size, 2, none⟩ = some (.int .i64 wd) ∧ W'.cell? ⟨wr.heap.size, 3, none⟩ = some (.int .i64 hg)) := fun W' row hW hr => ⟨(hB.grown hW hr).cell 1, (hB.grown hW hr).cell 2, (hB.grown hW hr).cell 3⟩
        have hownA : wr.ownsRow W.heap.size 5 1 (.slice A2 out.length c2) out.length (out.map (Value.int .u8)) := hown
        clear hxq hyq hown t1 t2
        go_wp2_with fail
        have hW2 := gr_alloc hgr (.cells #[.int .i64 mn, .int .u8 f, .int .i64 wd, .int .i64 hg] 68)
        have hownB := World.ownsRow.alloc hownA (.cells #[.int .i64 mn, .int .u8 f, .int .i64 wd, .int .i64 hg] 68)
        have hBl := hB.lt
        generalize wr.alloc (.cells #[.int .i64 mn, .int .u8 f, .int .i64 wd, .int .i64 hg] 68) = W2 at *
        generalize hXX : wr.heap.size = X at *
        have HXX := Lib.hid hXX
        clear hXX
        have hsz2 := hW2.size
        go_region_held3 (fun W' => W'.cell? ⟨X, 1, none⟩ = some (.int .u8 f) ∧ W'.cell? ⟨X, 2, none⟩ = some (.int .i64 wd) ∧ W'.cell? ⟨X, 3, none⟩ = some (.int .i64 hg))
          ((first | exact KX.out _ _ (gr_trans (gr_weak (gr_alloc (gr_drew (gr_refl _ _)) _) _) hgrB) (fun e => by have := (hownA.lt X e.symm).2; have := HXX.out; omega) | exact KX.out _ none (by repeat (first | exact gr_refl _ _ | assumption | refine gr_alloc ?_ _ | refine gr_drewN ?_ _ | refine gr_drew ?_)) (by simp)))
          (first | (refine step_append_lies _ (by rfl) (.tmp 26) (.tmp 43) 89 (by rfl) W.heap.size 5 j0 _ 1 1 Tryz.underlying89 hj hy0 hy1 hy2 rfl (by decide) _ out.length (out.map (Value.int .u8)) (by simp [Act.eval]) (World.ownsRow.alloc (show World.ownsRow W2.drew W.heap.size 5 1 _ out.length (out.map (Value.int .u8)) from hownB) _) ⟨_, 0, none⟩ 2 2 [.int .u8 (f + x), .int .u8 (f + y)] (by simp [Act.eval]) rfl (two_bytes _ (f + x) (f + y) _) (two_byteCell (f + x) (f + y)) (by decide) (by unfold maxLen; omega) (by omega) (by simp; omega) _ rfl ?_; intro g cap w4 hownC hgrB hat hglt) | fail)
        have hgF : W.grownBy w4 none := gr_grown (gr_alloc (gr_drew hW2) _) hgrB (fun kk hk => .inr (by have := (hownA.lt kk hk).1; omega))
        have hown5 : BytesFrom W.heap.size w4 (.slice (some ⟨g, 0, none⟩) (out.length + 2) cap) (out ++ [f + x, f + y]) := by
          unfold BytesFrom
          rw [List.map_append, List.length_append]
          simpa using hownC
        obtain ⟨z1, z2, z3⟩ := KX.out w4 _ (gr_trans (gr_weak (gr_alloc (gr_drew (gr_refl _ _)) _) _) hgrB) (fun e => by have := (hownA.lt X e.symm).2; have := HXX.out; omega)
        have hol6 : (out ++ [f + x, f + y]).length = 2 * (j + 1) := by have := HOL.out; simp; omega
        have HOL6 := Lib.hid hol6
        clear hol6
        go_wp2_with fail
        go_roundw
        case rel => exact ⟨j + 1, _, _, out ++ [f + x, f + y], by omega, by go_num, rfl, rfl, HN, HB2, HOL6.out, by simpa using hown5, hgF⟩
        case measure => simp [intOf]; omega
      · obtain rfl : j = m := by omega
        have hjl : ¬ (j : Int) < (j : Int) := by omega
        have HF : Hid (locL n e j = out) := by
          show _ = _
          rw [HR.out, Nat.sub_self]
          simp [locFrom]
        have hpos : 0 < out.length := by have := HOL.out; omega
        obtain ⟨g, rfl, _, _⟩ := ‹0 < out.length → _› hpos
        have hcv := run_convert_bytes_arg (P := Tryz.prog) wr 89 5 Tryz.underlying89 Tryz.underlying5 g 0 out.length c2 out rfl (fun i hi => by
          have h1 := World.ownsRow.cellAt (show wr.ownsRow W.heap.size 5 1 (.slice (some ⟨g, 0, none⟩) out.length c2) out.length (out.map (Value.int .u8)) from hown) i (by simpa using hi)
          rw [Nat.zero_add, h1]
          simp [hi, List.getD]) 9 Tryz.underlying9
        clear hown
        go_wp2_with fail
        go_ret
        exact ⟨by rw [HF.out]; rfl, gr_trans hG1 hgr⟩
end Go.Proofs.YtbaocnbppefciaaGreat
