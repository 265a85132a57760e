/- The walk over place.Way. No condition but bounds of the numbers. -/
import Derived.Test.YtnapbnkbchaanaaGreatDoorDist
import Derived.Test.YtnapbnkbchaanaaGreatDoorPairs
import Derived.Deep.AppendLies
import Derived.Deep.RegionHeld3
namespace Go.Proofs.YtnapbnkbchaanaaGreatDoor
open Go.RowKit
set_option linter.unusedVariables false

theorem siteInfo : (Tryz.prog.info? 62).map (fun i => (i.zero, i.size, i.bytes)) = some (some (.agg #[.int .i64 0, .int .i64 0]), 2, 16) := by kernel_rfl
/-- A slice that holds these sites. -/
def Sites (base : Nat) (w : World) (v : Value) (l : List (Int × Int)) : Prop := w.ownsRow base 62 2 v l.length (wcells l)
theorem Sites.nil (base : Nat) (w : World) : Sites base w (.slice none 0 0) [] := World.ownsRow_nil _ _ _ _
theorem Sites.grown {base : Nat} {w w' : World} {v : Value} {l : List (Int × Int)} (h : Sites base w v l) (hg : w.grownBy w' none) : Sites base w' v l := ownsRow_grown h hg

theorem range_snoc2 {α : Type} (f : Nat → α) (k : Nat) : (List.range (k + 1)).map f = (List.range k).map f ++ [f k] := by rw [List.range_succ, List.map_append]; rfl
theorem mulK_bd {d k p : Int} (h0 : -648000 ≤ d) (h1 : d ≤ 648000) (k0 : 0 ≤ k) (k1 : k ≤ p) (p1 : p ≤ 1000) : -648000000 ≤ d * k ∧ d * k ≤ 648000000 := by
  have := mul_bd d k 648000 1000 h0 h1 (by omega) (by omega)
  omega

set_option maxRecDepth 100000 in
set_option maxHeartbeats 4000000 in
theorem way_ok (n e n2 e2 p : Int) (w : World) (h1 : siteE n e = 0) (h2 : siteE n2 e2 = 0) (hp0 : 1 ≤ p) (hp1 : p ≤ 1000) :
    Calls Tryz.prog 42 #[.agg #[.int .i64 n, .int .i64 e], .agg #[.int .i64 n2, .int .i64 e2], .int .i64 p] w fun r w' =>
      ∃ u, r = .returned (.tuple #[u, .int .i64 0]) ∧ Sites (w.heap.size + 1) w' u (wayL n e n2 e2 p) ∧ w.grownBy w' none := by
  obtain ⟨a0, a1, b0, b1⟩ := siteE_rng h1
  obtain ⟨c0, c1, d0, d1⟩ := siteE_rng h2
  obtain ⟨j0, hj, hy0, hy1, hy2⟩ := info_parts siteInfo
  have hbE : bothE n e n2 e2 = 0 := by unfold bothE; rw [if_pos h1, h2]
  have hbo : outB p 1 1000 = false := outB_no hp0 hp1
  have hd := aroundI_bd' (e2 - e)
  have HBW := Lib.hid (fun W => between_any n e n2 e2 W a0 a1 b0 (by omega) c0 c1 d0 (by omega))
  have HWL : Hid (wayL n e n2 e2 p = (List.range (p + 1).toNat).map fun k => (wayN n n2 p k, wayE e e2 p k)) := rfl
  have HWN : Hid (∀ k : Nat, wayN n n2 p k = n + ((n2 - n) * (k : Int)).tdiv p) := fun k => rfl
  have HWE : Hid (∀ k : Nat, wayE e e2 p k = aroundI (e + (aroundI (e2 - e) * (k : Int)).tdiv p)) := fun k => rfl
  generalize wayL n e n2 e2 p = L at *
  generalize aroundI (e2 - e) = de at *
  have HBE := Lib.hid hbE
  obtain ⟨W, hW, hx, hy, hG⟩ := two_sites w n e n2 e2
  have HW := Lib.hid hW
  have HH1 := Lib.hid h1
  have HH2 := Lib.hid h2
  clear hW hbE h1 h2
  go_enter Tryz.func42, Tryz.ntmps42
  go_wp2_with fail
  rw [← HW.out]
  refine (checkBoth_any _ _ _ _ _).mono ?_
  rintro _ w1 ⟨rfl, hg⟩
  rw [HBE.out]
  replace hx := hx.grown hg (by simp)
  replace hy := hy.grown hg (by simp)
  replace hG := gr_trans hG hg
  clear hg
  go_wp2_with fail
  refine (outside_any _ _ _ _).mono ?_
  rintro _ _ ⟨rfl, rfl⟩
  obtain ⟨x0, x1⟩ := hx.cells2
  obtain ⟨y0, y1⟩ := hy.cells2
  go_wp2_with fail
  refine (HBW.out _).mono ?_
  rintro _ w2 ⟨rfl, hg⟩
  replace hx := hx.grown hg (by simp)
  replace hG := gr_trans hG hg
  clear hg x0 x1 y0 y1 hy
  go_wp2_with fail
  obtain ⟨P, hP⟩ : ∃ P : Nat, p = (P : Int) := ⟨p.toNat, by omega⟩
  subst hP
  have hXl := hx.lt
  go_loopw [11, 29] (fun o i wr => ∃ (k : Nat), k ≤ P + 1 ∧ i = .int .i64 k ∧ Sites w2.heap.size wr o ((List.range k).map fun j => (wayN n n2 P j, wayE e e2 P j)) ∧ w2.grownBy wr none) (fun _ i _ => P + 1 - (intOf i).toNat)
  case atStart => exact ⟨0, by omega, rfl, Sites.nil _ _, gr_refl _ _⟩
  case round =>
    obtain ⟨k, hk, rfl, hown, hgr⟩ := hrel
    obtain ⟨A2, c2, rfl, hlen2, _⟩ := ownsRow_shape hown
    have hkl : ((List.range k).map fun j => (wayN n n2 P j, wayE e e2 P j)).length = k := by simp
    have hxr := hx.grown hgr (by simp)
    obtain ⟨x0, x1⟩ := hxr.cells2
    by_cases hlt : k < P + 1
    · have hkN : (k : Int) < (P : Int) + 1 := by omega
      have HS := Lib.hid (range_snoc2 (fun j => (wayN n n2 (P : Int) j, wayE e e2 (P : Int) j)) k)
      have hz1 := mulK_bd (d := n2 - n) (k := (k : Int)) (p := (P : Int)) (by omega) (by omega) (by omega) (by omega) hp1
      have hz2 := mulK_bd (d := de) (k := (k : Int)) (p := (P : Int)) hd.1 hd.2 (by omega) (by omega) hp1
      have hq1 := part_bd (n2 - n) k P (by omega) (by omega) (by omega)
      have hq2 := part_bd de k P (by omega) (by omega) (by omega)
      have HN := Lib.hid (HWN.out k)
      have HE := Lib.hid (HWE.out k)
      obtain ⟨Z1, hZ1⟩ : ∃ Z, (n2 - n) * (k : Int) = Z := ⟨_, rfl⟩
      obtain ⟨Z2, hZ2⟩ : ∃ Z, de * (k : Int) = Z := ⟨_, rfl⟩
      rw [hZ1] at hz1 hq1 HN
      rw [hZ2] at hz2 hq2 HE
      obtain ⟨q1, hQ1⟩ : ∃ q, Z1.tdiv (P : Int) = q := ⟨_, rfl⟩
      obtain ⟨q2, hQ2⟩ : ∃ q, Z2.tdiv (P : Int) = q := ⟨_, rfl⟩
      rw [hQ1] at hq1 HN
      rw [hQ2] at hq2 HE
      have e1 : IntKind.i64.wrap ((n2 - n) * (k : Int)) = Z1 := by rw [hZ1]; exact i64_in _ ⟨by omega, by omega⟩
      have e2' : IntKind.i64.wrap (de * (k : Int)) = Z2 := by rw [hZ2]; exact i64_in _ ⟨by omega, by omega⟩
      have e3 : IntKind.i64.wrap (Z1.tdiv (P : Int)) = q1 := by rw [hQ1]; exact i64_in _ ⟨by omega, by omega⟩
      have e4 : IntKind.i64.wrap (Z2.tdiv (P : Int)) = q2 := by rw [hQ2]; exact i64_in _ ⟨by omega, by omega⟩
      have e5 : IntKind.i64.wrap (n + q1) = n + q1 := i64_in _ ⟨by omega, by omega⟩
      have e6 : IntKind.i64.wrap (e + q2) = e + q2 := i64_in _ ⟨by omega, by omega⟩
      have e7 : ¬ (P : Int) = 0 := by omega
      have e9 : ¬ P = 0 := by omega
      have e8 : ((P : Int) == 0) = false := by rw [beq_eq_false_iff_ne]; omega
      have HA : Hid (∀ W : World, Calls Tryz.prog 99 #[.int .i64 (e + q2)] W fun r w' => r = .returned (.int .i64 (wayE e e2 P k)) ∧ W = w') := fun W => by
        have := around_any (e + q2) W (by omega) (by omega)
        rw [← HE.out] at this
        exact this
      obtain ⟨V, hV⟩ : ∃ V, wayE e e2 P k = V := ⟨_, rfl⟩
      rw [hV] at HA
      have HVV := Lib.hid hV
      have KX : Hid (∀ W' : World, w2.grownBy W' none → W'.cell? ⟨w.heap.size, 0, none⟩ = some (.int .i64 n) ∧ W'.cell? ⟨w.heap.size, 1, none⟩ = some (.int .i64 e) ∧ w2.grownBy W' none) := fun W' hW => ⟨(hx.grown hW (by simp)).cell 0, (hx.grown hW (by simp)).cell 1, hW⟩
      have hownA : wr.ownsRow w2.heap.size 62 2 (.slice A2 ((List.range k).map fun j => (wayN n n2 (P : Int) j, wayE e e2 (P : Int) j)).length c2) k (wcells ((List.range k).map fun j => (wayN n n2 (P : Int) j, wayE e e2 (P : Int) j))) := by
        have h := hown
        unfold Sites at h
        rwa [hkl] at h ⊢
      rw [hkl] at hownA ⊢
      generalize hgen : wcells ((List.range k).map fun j => (wayN n n2 (P : Int) j, wayE e e2 (P : Int) j)) = cs at *
      have HGEN := Lib.hid hgen
      have hszr := hgr.size
      clear hZ1 hZ2 hQ1 hQ2 hV hkl hgen hown
      go_wp2_with fail
      go_region_held3 (fun W' => W'.cell? ⟨w.heap.size, 0, none⟩ = some (.int .i64 n) ∧ W'.cell? ⟨w.heap.size, 1, none⟩ = some (.int .i64 e) ∧ w2.grownBy W' none)
        ((exact KX.out _ (by first | exact gr_grown (gr_alloc (gr_drew hgr) _) hgrB (fun kk hk => .inr (by have := (hownA.lt kk hk).1; omega)) | (repeat (first | exact gr_refl _ _ | assumption | refine gr_drew ?_ | refine gr_alloc ?_ _)))))
        (first | (go_at_call 99; refine (HA.out _).mono ?_; rintro _ wA ⟨rfl, rfl⟩) | (refine step_append_lies _ (by rfl) (.tmp 32) (.tmp 51) 67 (by rfl) w2.heap.size 62 j0 _ 2 16 Tryz.underlying67 hj hy0 hy1 hy2 rfl (by decide) _ k cs (by simp [Act.eval]) (World.ownsRow.alloc (show World.ownsRow wr.drew w2.heap.size 62 2 _ k cs from hownA) _) ⟨_, 0, none⟩ 1 1 [.int .i64 (n + q1), .int .i64 V] (by simp [Act.eval]) rfl (two_cells _ (n + q1) V _) (two_oneCell (n + q1) V) (by decide) (by unfold maxLen; omega) (by omega) (by simp; omega) _ rfl ?_; intro g cap w4 hownB hgrB hat hglt) | fail)
      have hgF : w2.grownBy w4 none := gr_grown (gr_alloc (gr_drew hgr) _) hgrB (fun kk hk => .inr (by have := (hownA.lt kk hk).1; omega))
      have hown5 : Sites w2.heap.size w4 (.slice (some ⟨g, 0, none⟩) (k + 1) cap) ((List.range (k + 1)).map fun j => (wayN n n2 (P : Int) j, wayE e e2 (P : Int) j)) := by
        unfold Sites
        rw [HS.out, wcells_snoc, List.length_append, HGEN.out, HN.out, HVV.out]
        simpa using hownB
      go_wp2_with fail
      go_roundw
      case rel => exact ⟨k + 1, by omega, by go_num, hown5, hgF⟩
      case measure => simp [intOf]; omega
    · obtain rfl : k = P + 1 := by omega
      have hkN : ¬ ((P + 1 : Nat) : Int) < (P : Int) + 1 := by omega
      go_wp2_with fail
      go_ret2
      have hfin : (List.range (P + 1)).map (fun j => (wayN n n2 (P : Int) j, wayE e e2 (P : Int) j)) = L := by
        rw [HWL.out]
        rfl
      have hL : L.length = P + 1 := by rw [← hfin]; simp
      rw [hfin, hL] at hown
      exact ⟨_, rfl, ownsRow_low hown (by have := hG.size; omega), gr_trans hG hgr⟩
end Go.Proofs.YtnapbnkbchaanaaGreatDoor
