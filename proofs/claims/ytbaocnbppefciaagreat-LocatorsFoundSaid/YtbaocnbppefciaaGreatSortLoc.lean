/- slices.SortFunc at few strings, with the closure of the reference's BesideOf: they in order. The closure lays blocks of its own. Condition: at most 12 strings that are locators on the lines of one level. -/
import Derived.Test.YtbaocnbppefciaaGreatBesRefPlain
import Derived.Test.YtbaocnbppefciaaGreatAreaFor
import Derived.Test.YtbaocnbppefciaaGreatCmpInt
import Derived.Sort.WalkA
import Derived.Sort.LotA
import Derived.Deep.RegionHeld3
namespace Go.Proofs.YtbaocnbppefciaaGreat
open Go.RowKit Go.Sort
set_option linter.unusedVariables false
set_option linter.unusedSimpArgs false

/-- A place on the lines of a level: what a locator of so many levels says. -/
abbrev LowS (m : Nat) := {p : Int × Int // OnLines m p}
instance (m : Nat) : Inhabited (LowS m) := ⟨⟨(-324000, -648000), ⟨by decide, by decide⟩, ⟨by decide, by decide⟩, by simp [Lined]⟩⟩
def encL (m : Nat) (p : LowS m) : ByteArray := strOfNums (locL p.1.1 p.1.2 m)
def cmpL {m : Nat} (x y : LowS m) : Int := if cmpN x.1.1 y.1.1 = 0 then cmpN x.1.2 y.1.2 else cmpN x.1.1 y.1.1
theorem cmpL_lt {m : Nat} (x y : LowS m) : cmpL x y < 0 ↔ x.1.1 < y.1.1 ∨ (x.1.1 = y.1.1 ∧ x.1.2 < y.1.2) := by
  unfold cmpL cmpN
  split <;> (repeat' split) <;> omega
theorem locSWO (m : Nat) : SWO (ltOf (cmpL (m := m))) := by
  refine ⟨fun x => ?_, fun x y z h1 h2 => ?_, fun x y z h1 h2 => ?_⟩
  · unfold ltOf
    rw [decide_eq_false_iff_not, cmpL_lt]
    omega
  · unfold ltOf at *
    rw [decide_eq_true_eq, cmpL_lt] at *
    omega
  · unfold ltOf at *
    rw [decide_eq_false_iff_not, cmpL_lt] at *
    omega

/-- A row of strings with their values. -/
def SRow {α : Type} [Inhabited α] (enc : α → ByteArray) (base : Nat) (w : World) (blk c : Nat) (d : Array α) : Prop :=
  w.ownsRow base 9 1 (.slice (some ⟨blk, 0, none⟩) d.size c) d.size (d.toList.map fun x => Value.string (enc x))
theorem SRow.at_ {α : Type} [Inhabited α] {enc : α → ByteArray} {base : Nat} {w : World} {blk c : Nat} {d : Array α} (h : SRow enc base w blk c d) (j : Nat) (hj : j < d.size) : w.cell? ⟨blk, j, none⟩ = some (.string (enc d[j]!)) := by
  unfold SRow at h
  rw [World.ownsRow.cellAt h j (by omega), getElem!_pos d j hj]
  simp [hj]
theorem SRow.grown {α : Type} [Inhabited α] {enc : α → ByteArray} {base : Nat} {w w' : World} {blk c : Nat} {d : Array α} (h : SRow enc base w blk c d) (hg : w.grownBy w' none) : SRow enc base w' blk c d := ownsRow_grown h hg
theorem SRow.swap {α : Type} [Inhabited α] {enc : α → ByteArray} {base : Nat} {w : World} {blk c : Nat} {d : Array α} (h : SRow enc base w blk c d) (i j : Nat) :
    SRow enc base ((w.setCell ⟨blk, i, none⟩ (.string (enc d[j]!))).setCell ⟨blk, j, none⟩ (.string (enc d[i]!))) blk c (swp d i j) ∧
    w.grownBy ((w.setCell ⟨blk, i, none⟩ (.string (enc d[j]!))).setCell ⟨blk, j, none⟩ (.string (enc d[i]!))) (some blk) := by
  obtain ⟨h1, g1⟩ := World.ownsRow.stored h i (.string (enc d[j]!))
  obtain ⟨h2, g2⟩ := World.ownsRow.stored h1 j (.string (enc d[i]!))
  refine ⟨?_, gr_trans g1 g2⟩
  have e : (swp d i j).toList.map (fun x => Value.string (enc x)) = ((d.toList.map fun x => Value.string (enc x)).set i (.string (enc d[j]!))).set j (.string (enc d[i]!)) := by
    unfold swp
    rw [Array.toList_setIfInBounds, Array.toList_setIfInBounds, List.map_set, List.map_set]
  unfold SRow
  rw [size_swp, e]
  exact h2

/-- The level's low corner of a place on the lines is the place. -/
theorem areaFor_low (m : Nat) (hm0 : 0 < m) (hm : m ≤ 3) (p : LowS m) (W : World) :
    Calls Tryz.prog 16 #[.string (encL m p)] W fun r w' => r = .returned (.agg #[.int .i64 p.1.1, .int .i64 p.1.2, .int .i64 (p.1.1 + lvHigh (m - 1)), .int .i64 (p.1.2 + lvWide (m - 1))]) ∧ W.grownBy w' none := by
  obtain ⟨⟨n, e⟩, ⟨n0, n1⟩, ⟨e0, e1⟩, hl⟩ := p
  simp only at n0 n1 e0 e1 hl ⊢
  obtain ⟨h1, h2⟩ := low_own n e m hm0 hm n0 n1 e0 e1 hl
  have h := areaFor_ok _ _ m W (locS_of n e m (by unfold siteE; rw [outB_no n0 (by omega), outB_no e0 e1]; rfl) hm0 hm)
  rw [h1, h2] at h
  exact h
set_option maxRecDepth 100000 in
set_option maxHeartbeats 4000000 in
theorem locClosure (m : Nat) (hm0 : 0 < m) (hm : m ≤ 3) (x y : LowS m) (W : World) :
    Calls Tryz.prog 48 #[.string (encL m x), .string (encL m y)] W fun r w' => r = .returned (.int .i64 (cmpL x y)) ∧ W.grownBy w' none := by
  have HX := Lib.hid (fun W => areaFor_low m hm0 hm x W)
  have HY := Lib.hid (fun W => areaFor_low m hm0 hm y W)
  unfold cmpL
  obtain ⟨sx, hsx⟩ : ∃ s, encL m x = s := ⟨_, rfl⟩
  obtain ⟨sy, hsy⟩ : ∃ s, encL m y = s := ⟨_, rfl⟩
  rw [hsx] at HX ⊢
  rw [hsy] at HY ⊢
  clear hsx hsy
  generalize x.1.1 = X0 at *
  generalize x.1.2 = X1 at *
  generalize y.1.1 = Y0 at *
  generalize y.1.2 = Y1 at *
  generalize X0 + lvHigh (m - 1) = X2 at *
  generalize X1 + lvWide (m - 1) = X3 at *
  generalize Y0 + lvHigh (m - 1) = Y2 at *
  generalize Y1 + lvWide (m - 1) = Y3 at *
  clear x y
  have H1 := Lib.hid (fun W => compare_int X0 Y0 W)
  have H2 := Lib.hid (fun W => compare_int X1 Y1 W)
  generalize cmpN X0 Y0 = c1 at *
  generalize cmpN X1 Y1 = c2 at *
  obtain ⟨V, hV⟩ : ∃ V, (if c1 = 0 then c2 else c1) = V := ⟨_, rfl⟩
  rw [hV]
  have HV := Lib.hid hV
  clear hV
  have hfl : ∀ (a b c d : Int) (W : World), (Instr.field 39 (.agg #[.int .i64 a, .int .i64 b, .int .i64 c, .int .i64 d]) 0).run Tryz.prog W = .ok (.agg #[.int .i64 a, .int .i64 b]) W := fun _ _ _ _ _ => by kernel_rfl
  go_enter Tryz.func48, Tryz.ntmps48
  go_wp2_with fail
  refine (HX.out _).mono ?_
  rintro _ w1 ⟨rfl, hg1⟩
  go_wp2_with fail
  refine (HY.out _).mono ?_
  rintro _ w2 ⟨rfl, hg2⟩
  have hx := (Blk.new w2 27 #[.int .i64 X0, .int .i64 X1]).alloc (.cells #[.int .i64 Y0, .int .i64 Y1] 27)
  have hy := Blk.new (w2.alloc (.cells #[.int .i64 X0, .int .i64 X1] 27)) 27 #[.int .i64 Y0, .int .i64 Y1]
  have hz : (w2.alloc (.cells #[.int .i64 X0, .int .i64 X1] 27)).heap.size = w2.heap.size + 1 := by simp
  rw [hz] at hy
  have hG := gr_alloc (gr_alloc (gr_trans hg1 hg2) (.cells #[.int .i64 X0, .int .i64 X1] 27)) (.cells #[.int .i64 Y0, .int .i64 Y1] 27)
  go_wp2_with fail
  generalize (w2.alloc (.cells #[.int .i64 X0, .int .i64 X1] 27)).alloc (.cells #[.int .i64 Y0, .int .i64 Y1] 27) = W5 at *
  obtain ⟨x0, x1⟩ := hx.cells2
  obtain ⟨y0, y1⟩ := hy.cells2
  generalize w2.heap.size + 1 = gy at *
  generalize w2.heap.size = gx at *
  clear hg1 hg2 hz
  go_region_held3 (fun W' => W'.cell? ⟨gx, 0, none⟩ = some (.int .i64 X0) ∧ W'.cell? ⟨gx, 1, none⟩ = some (.int .i64 X1) ∧ W'.cell? ⟨gy, 0, none⟩ = some (.int .i64 Y0) ∧ W'.cell? ⟨gy, 1, none⟩ = some (.int .i64 Y1)) (go_keep)
    (first | (go_at_call_of 50 (Value.int .i64 X0); refine (H1.out _).mono ?_; rintro _ _ ⟨rfl, rfl⟩) | (go_at_call_of 50 (Value.int .i64 X1); refine (H2.out _).mono ?_; rintro _ _ ⟨rfl, rfl⟩)  | (go_at_call 49; refine (orI2_at _ _ _ _ (by repeat (first | exact Blk.new _ _ _ | refine Blk.drew ?_ | refine Blk.alloc ?_ _))).mono ?_; rintro _ _ ⟨rfl, rfl⟩; rw [HV.out]) | fail)
  all_goals
    go_wp2_with fail
    go_ret
    exact ⟨rfl, gr_trans hG (by repeat (first | exact gr_refl _ _ | assumption | refine gr_alloc ?_ _ | refine gr_drewN ?_ _ | refine gr_drew ?_))⟩

section
variable (m base blk c N : Nat) (hm0 : 0 < m) (hm : m ≤ 3) (d : Array (LowS m))
include hm0 hm
set_option maxRecDepth 100000 in
set_option maxHeartbeats 8000000 in
theorem insLoc (w : World) (hH : SRow (encL m) base w blk c d) (hN : d.size = N) (h12 : N ≤ 12) :
    Calls Tryz.prog 82 #[.slice (some ⟨blk, 0, none⟩) N c, .int .i64 0, .int .i64 N, .func (.func 48) #[] #[]] w fun r w' =>
      r = .returned (.tuple #[]) ∧ SRow (encL m) base w' blk c (Sort.insertionSort (ltOf cmpL) d 0 N) ∧ w.grownBy w' (some blk) := by
  have HC := Lib.hid (fun x y W => locClosure m hm0 hm x y W)
  have HH := Lib.hid hH
  have HN := Lib.hid hN
  clear hH hN
  go_enter Tryz.func82, Tryz.ntmps82
  go_wp2_with fail
  go_loopw [8] (fun vi wr => ∃ (i : Nat) (dk : Array (LowS m)), vi = .int .i64 i ∧ 0 < i ∧ i ≤ N + 1 ∧ Hid (dk.size = N) ∧ Hid (SRow (encL m) base wr blk c dk) ∧ w.grownBy wr (some blk) ∧ Hid (insOuter (ltOf cmpL) 0 N i dk = insOuter (ltOf cmpL) 0 N 1 d)) (fun vi _ => N + 1 - (intOf vi).toNat)
  case atStart => exact ⟨1, d, by go_num, by omega, by omega, HN, HH, gr_refl _ _, rfl⟩
  case round =>
    obtain ⟨i, dk, rfl, hi0, hiN, HK, HR, hgr, HO⟩ := hrel
    by_cases hlt : i < N
    · have hltz : (i : Int) < (N : Int) := by omega
      go_wp2_with fail
      rename World => wo
      go_loopw [9] (fun vj wr => ∃ (j : Nat) (dj : Array (LowS m)), vj = .int .i64 j ∧ j ≤ i ∧ Hid (dj.size = N) ∧ Hid (SRow (encL m) base wr blk c dj) ∧ w.grownBy wr (some blk) ∧ Hid (insInner (ltOf cmpL) 0 j dj = insInner (ltOf cmpL) 0 i dk)) (fun vj _ => (intOf vj).toNat)
      case atStart => exact ⟨i, dk, rfl, by omega, HK, HR, hgr, rfl⟩
      case round =>
        obtain ⟨j, dj, rfl, hji, HJ, HRJ, hgj, HI⟩ := hrel
        have OUT : Hid (j ≤ 0 ∨ ltOf cmpL dj[j]! dj[j - 1]! = false → insOuter (ltOf cmpL) 0 N (i + 1) dj = insOuter (ltOf cmpL) 0 N 1 d) := fun hs => by
          rw [← HO.out, insOuter_go _ _ _ _ _ hlt, ← HI.out, insInner_stop _ _ _ _ hs]
        by_cases hj0 : 0 < j
        · obtain ⟨J, hJ⟩ : ∃ J, J = j - 1 := ⟨_, rfl⟩
          have HJJ := Lib.hid hJ
          obtain ⟨xj, hxj⟩ : ∃ x, dj[j]! = x := ⟨_, rfl⟩
          obtain ⟨xp, hxp⟩ : ∃ x, dj[J]! = x := ⟨_, rfl⟩
          have cj := HRJ.out.at_ j (by rw [HJ.out]; omega)
          have cp := HRJ.out.at_ J (by rw [HJ.out]; omega)
          rw [hxj] at cj
          rw [hxp] at cp
          have HXJ := Lib.hid hxj
          have HXP := Lib.hid hxp
          have hJ1 : IntKind.i64.wrap ((j : Int) - 1) = (J : Int) := by rw [IntKind.wrap_i64]; omega
          have jz : (j : Int) < (N : Int) := by omega
          have jz1 : (J : Int) < (N : Int) := by omega
          have jz0 : (0 : Int) < (j : Int) := by omega
          have jn : j < N := by omega
          have jn1 : J < N := by omega
          have HCC := Lib.hid (fun W => HC.out xj xp W)
          obtain ⟨sj, hsj⟩ : ∃ s, encL m xj = s := ⟨_, rfl⟩
          obtain ⟨sp, hsp⟩ : ∃ s, encL m xp = s := ⟨_, rfl⟩
          obtain ⟨cv, hcv⟩ : ∃ z, cmpL xj xp = z := ⟨_, rfl⟩
          rw [hsj, hsp, hcv] at HCC
          rw [hsj] at cj
          rw [hsp] at cp
          have HSJ := Lib.hid hsj
          have HSP := Lib.hid hsp
          have HCV := Lib.hid hcv
          clear hxj hxp hsj hsp hcv hJ
          have KX : Hid (∀ W' : World, wr.grownBy W' none → (W'.cell? ⟨blk, j, none⟩ = some (.string sj) ∧ W'.cell? ⟨blk, J, none⟩ = some (.string sp)) ∧ wr.grownBy W' none) := fun W' hW => by
            have h1 := (HRJ.out.grown hW).at_ j (by rw [HJ.out]; omega)
            have h2 := (HRJ.out.grown hW).at_ J (by rw [HJ.out]; omega)
            rw [HXJ.out, HSJ.out] at h1
            rw [HXP.out, HSP.out] at h2
            exact ⟨⟨h1, h2⟩, hW⟩
          by_cases hlv : cv < 0
          · go_wp2_with fail
            go_region_held3 (fun W' => (W'.cell? ⟨blk, j, none⟩ = some (.string sj) ∧ W'.cell? ⟨blk, J, none⟩ = some (.string sp)) ∧ wr.grownBy W' none) ((exact KX.out _ (by repeat (first | exact gr_refl _ _ | assumption | refine gr_drew ?_ | refine gr_alloc ?_ _ | refine gr_trans ?_ (by assumption))))) (first | (go_at_call 48; refine (HCC.out _).mono ?_; rintro _ wA ⟨rfl, hgA⟩) | fail)
            go_wp2_with fail
            have hgB : wr.grownBy wA none := gr_trans (gr_drew (gr_refl _ _)) hgA
            obtain ⟨⟨cj2, cp2⟩, -⟩ := KX.out wA hgB
            have hRA := HRJ.out.grown hgB
            have fj2 : wA.frozen? ⟨blk, j, none⟩ = false := World.ownsRow.frozenAt hRA j
            have fp2 : wA.frozen? ⟨blk, J, none⟩ = false := World.ownsRow.frozenAt hRA J
            have hne1 : ¬ J = j := by have := HJJ.out; omega
            have hne2 : ¬ j = J := by have := HJJ.out; omega
            have hsw := SRow.swap (show SRow (encL m) base wA.drew blk c dj from hRA) j J
            rw [HXJ.out, HSJ.out, HXP.out, HSP.out] at hsw
            have HSW := Lib.hid hsw
            have HGO : Hid (insInner (ltOf cmpL) 0 J (swp dj j J) = insInner (ltOf cmpL) 0 i dk) := by
              show _ = _
              have hJ1 : J = j - 1 := HJJ.out
              rw [← HI.out, insInner_go (ltOf cmpL) 0 j dj hj0 (by rw [← hJ1, HXJ.out, HXP.out]; unfold ltOf; rw [HCV.out]; exact decide_eq_true hlv), hJ1]
            have HSZ : Hid ((swp dj j J).size = N) := by show _ = _; rw [size_swp]; exact HJ.out
            have hgD : w.grownBy wA.drew (some blk) := gr_trans hgj (gr_weak (gr_drew hgB) _)
            clear hRA hsw hgA
            go_region
            all_goals
              go_wp2_with fail
              go_roundw
              case rel => exact ⟨J, swp dj j J, by first | rfl | go_num, by have := HJJ.out; omega, HSZ, HSW.out.1, gr_trans hgD HSW.out.2, HGO⟩
              case measure => have := HJJ.out; simp [intOf]; omega
          · go_wp2_with fail
            go_region_held3 (fun W' => (W'.cell? ⟨blk, j, none⟩ = some (.string sj) ∧ W'.cell? ⟨blk, J, none⟩ = some (.string sp)) ∧ wr.grownBy W' none) ((exact KX.out _ (by repeat (first | exact gr_refl _ _ | assumption | refine gr_drew ?_ | refine gr_alloc ?_ _ | refine gr_trans ?_ (by assumption))))) (first | (go_at_call 48; refine (HCC.out _).mono ?_; rintro _ wA ⟨rfl, hgA⟩) | fail)
            go_wp2_with fail
            have hgB : wr.grownBy wA none := gr_trans (gr_drew (gr_refl _ _)) hgA
            have HR2 : Hid (SRow (encL m) base wA blk c dj) := HRJ.out.grown hgB
            have HST := Lib.hid (OUT.out (Or.inr (by rw [← HJJ.out, HXJ.out, HXP.out]; unfold ltOf; rw [HCV.out]; exact decide_eq_false (by omega))))
            go_roundw
            case rel => exact ⟨i + 1, dj, by go_num, by omega, by omega, HJ, HR2, gr_trans hgj (gr_weak hgB _), HST⟩
            case measure => simp [intOf]; omega
        · obtain rfl : j = 0 := by omega
          have HST := Lib.hid (OUT.out (Or.inl (Nat.le_refl _)))
          go_wp2_with fail
          go_region
          all_goals go_wp2_with fail
          go_roundw
          case rel => exact ⟨i + 1, dj, by go_num, by omega, by omega, HJ, HRJ, gr_trans hgj (gr_weak (gr_drew (gr_refl _ _)) _), HST⟩
          case measure => simp [intOf]; omega
    · have hln : ¬ (i : Int) < (N : Int) := by omega
      have HFIN : Hid (Sort.insertionSort (ltOf cmpL) d 0 N = dk) := by
        show insOuter (ltOf cmpL) 0 N (0 + 1) d = dk
        rw [show 0 + 1 = 1 by rfl, ← HO.out, insOuter_stop _ _ _ _ _ hlt]
      go_wp2_with fail
      go_end0
      exact ⟨rfl, by rw [HFIN.out]; exact HR.out, hgr⟩
set_option maxRecDepth 100000 in
set_option maxHeartbeats 2000000 in
theorem pdqLoc (w : World) (lim : Int) (hH : SRow (encL m) base w blk c d) (hN : d.size = N) (h12 : N ≤ 12) :
    Calls Tryz.prog 62 #[.slice (some ⟨blk, 0, none⟩) N c, .int .i64 0, .int .i64 N, .int .i64 lim, .func (.func 48) #[] #[]] w fun r w' =>
      r = .returned (.tuple #[]) ∧ SRow (encL m) base w' blk c (Sort.insertionSort (ltOf cmpL) d 0 N) ∧ w.grownBy w' (some blk) := by
  have HC := Lib.hid (insLoc m base blk c N hm0 hm d w hH hN h12)
  have h12i : (N : Int) ≤ 12 := by omega
  have hw0 : IntKind.i64.wrap ((N : Int) - 0) = N := by rw [IntKind.wrap_i64]; omega
  clear hH hN
  go_enter Tryz.func62, Tryz.ntmps62
  go_wp2_with fail
  refine wp_loop_rounds 1 ?_
  rw [rounds_succ]
  go_wp2_with fail
  refine HC.out.mono ?_
  rintro _ w1 ⟨rfl, h1, hg1⟩
  have H1 := Lib.hid h1
  clear h1
  go_wp2_with fail
  (try simp only [Exit.inBlock, Exit.then])
  refine bodyPost_ret (results_none rfl _ _ _) rfl ?_
  exact ⟨rfl, H1.out, hg1⟩
set_option maxRecDepth 100000 in
set_option maxHeartbeats 2000000 in
theorem sortFuncLoc (w : World) (hH : SRow (encL m) base w blk c d) (hN : d.size = N) (h12 : N ≤ 12) :
    Calls Tryz.prog 47 #[.slice (some ⟨blk, 0, none⟩) N c, .func (.func 48) #[] #[]] w fun r w' =>
      r = .returned (.tuple #[]) ∧ SRow (encL m) base w' blk c (Sort.insertionSort (ltOf cmpL) d 0 N) ∧ w.grownBy w' (some blk) := by
  have HC := Lib.hid (fun lim => pdqLoc m base blk c N hm0 hm d w lim hH hN h12)
  have HL := Lib.hid (fun W => Tryz.bits_Len N W (by omega) (by omega))
  clear hH hN
  go_enter Tryz.func47, Tryz.ntmps47
  go_wp2_with fail
  refine (HL.out _).mono ?_
  rintro _ _ ⟨rfl, rfl⟩
  go_wp2_with fail
  refine (HC.out _).mono ?_
  rintro _ w1 ⟨rfl, h1, hg1⟩
  have H1 := Lib.hid h1
  clear h1
  go_wp2_with fail
  go_end0
  exact ⟨rfl, H1.out, hg1⟩
end
/-- The strings in order. -/
theorem sortStrs_own (m base : Nat) (hm0 : 0 < m) (hm : m ≤ 3) (g c : Nat) (l : List (LowS m)) (w : World) (hl : StrsFrom base w (.slice (some ⟨g, 0, none⟩) l.length c) (l.map (encL m))) (hn : l.length ≤ 12) :
    Calls Tryz.prog 47 #[.slice (some ⟨g, 0, none⟩) l.length c, .func (.func 48) #[] #[]] w fun r w' =>
      r = .returned (.tuple #[]) ∧ ∃ l' : List (LowS m), l'.Perm l ∧ (l'.map (·.1)).Pairwise leS ∧ StrsFrom base w' (.slice (some ⟨g, 0, none⟩) l.length c) (l'.map (encL m)) ∧ w.grownBy w' (some g) := by
  have hr : SRow (encL m) base w g c l.toArray := by
    unfold StrsFrom at hl
    rw [List.length_map, List.map_map] at hl
    exact hl
  refine (sortFuncLoc m base g c l.length hm0 hm l.toArray w hr (by simp) hn).mono ?_
  rintro _ w' ⟨rfl, hr2, hg⟩
  obtain ⟨hp, hs⟩ := insertionSort_holds (lt := ltOf (cmpL (m := m))) (locSWO m) l.toArray 0 l.length (Nat.zero_le _) (by simp)
  obtain ⟨hp1, -, hp3⟩ := hp
  generalize Sort.insertionSort (ltOf cmpL) l.toArray 0 l.length = d' at *
  have hds : d'.size = l.length := by simpa using hp1
  refine ⟨rfl, d'.toList, ?_, ?_, ?_, hg⟩
  · have h1 : (d'.extract 0 l.length) = d' := by rw [← hds]; simp
    have h2 : (l.toArray.extract 0 l.length) = l.toArray := by simp
    rw [h1, h2] at hp3
    exact hp3
  · rw [List.pairwise_map, List.pairwise_iff_getElem]
    intro i j hi hj hij
    have hj' : j < d'.size := by simpa using hj
    have hi' : i < d'.size := by simpa using hi
    have := hs i j (Nat.zero_le _) hij (by rw [← hds]; exact hj')
    rw [getElem!_pos d' j hj', getElem!_pos d' i hi'] at this
    unfold ltOf at this
    rw [decide_eq_false_iff_not, cmpL_lt] at this
    simp only [Array.getElem_toList]
    unfold leS
    omega
  · unfold SRow at hr2
    rw [hds] at hr2
    unfold StrsFrom
    have e : d'.toList.length = l.length := by simpa using hds
    rw [List.length_map, List.map_map, e]
    exact hr2
end Go.Proofs.YtbaocnbppefciaaGreat
