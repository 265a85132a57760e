/- The walk over place.Beside. Condition: the signs are right. -/
import Derived.Test.YtbaocnbppefciaaGreatLoc4
import Derived.Test.YtbaocnbppefciaaGreatBesidePlain
import Derived.Test.YtbaocnbppefciaaGreatWay
import Derived.Test.YtbaocnbppefciaaGreatSortSites
import Derived.Test.YtbaocnbppefciaaGreatKeyB
namespace Go.Proofs.YtbaocnbppefciaaGreat
open Go.RowKit
set_option linter.unusedVariables false
set_option linter.unusedSimpArgs false

theorem stepI_cases (h : Int) (j : Nat) : stepI h j = -h ∨ stepI h j = 0 ∨ stepI h j = h := by
  unfold stepI
  split
  · exact .inl rfl
  · split
    · exact .inr (.inl rfl)
    · exact .inr (.inr rfl)
theorem stepI_zero {h : Int} (hh : 0 < h) {j : Nat} (hj : j < 3) : stepI h j = 0 ↔ j = 1 := by
  unfold stepI
  rcases (by omega : j = 0 ∨ j = 1 ∨ j = 2) with rfl | rfl | rfl <;> simp <;> omega
theorem step_cell {w : World} {g : Nat} {h : Int} (hb : Blk w g 3 #[.int .i64 (-h), .int .i64 0, .int .i64 h]) (j : Nat) (hj : j < 3) : w.cell? ⟨g, j, none⟩ = some (.int .i64 (stepI h j)) := by
  rw [hb.cell]
  rcases (by omega : j = 0 ∨ j = 1 ∨ j = 2) with rfl | rfl | rfl <;> rfl
theorem besB_of {n h wd : Int} (h0 : 0 < h) (w0 : 0 < wd) {j q : Nat} (hj : j < 3) (hq : q < 3) (b : Bool) (hb : outB (n + stepI h j) (-324000) 323999 = b) :
    besB n h (3 * j + q) = ((!decide (stepI h j = 0) || !decide (stepI wd q = 0)) && !b) := by
  have e1 : (3 * j + q) / 3 = j := by omega
  have e2 := stepI_zero h0 hj
  have e3 := stepI_zero w0 hq
  have h4 : decide (3 * j + q ≠ 4) = (!decide (stepI h j = 0) || !decide (stepI wd q = 0)) := by
    rcases (by omega : j = 0 ∨ j = 1 ∨ j = 2) with rfl | rfl | rfl <;> rcases (by omega : q = 0 ∨ q = 1 ∨ q = 2) with rfl | rfl | rfl <;> simp [e2, e3]
  have h5 : (decide (-324000 ≤ n + stepI h j) && decide (n + stepI h j ≤ 323999)) = !b := by
    rw [← hb]
    unfold outB
    by_cases a : -324000 ≤ n + stepI h j <;> by_cases c : n + stepI h j ≤ 323999
    · rw [decide_eq_true a, decide_eq_true c, decide_eq_false (by omega), decide_eq_false (by omega)]; rfl
    · rw [decide_eq_true a, decide_eq_false c, decide_eq_false (by omega), decide_eq_true (by omega)]; rfl
    · rw [decide_eq_false a, decide_eq_true c, decide_eq_true (by omega), decide_eq_false (by omega)]; rfl
    · rw [decide_eq_false a, decide_eq_false c, decide_eq_true (by omega), decide_eq_true (by omega)]; rfl
  unfold besB
  rw [e1, h4, h5]
theorem besP_at {n e h wd : Int} {j q : Nat} (hq : q < 3) : besP n e h wd (3 * j + q) = (n + stepI h j, aroundI (e + stepI wd q)) := by
  unfold besP
  rw [show (3 * j + q) / 3 = j by omega, show (3 * j + q) % 3 = q by omega]

theorem blk_row {w : World} {g : Nat} {t : TypeId} {cs : Array Value} (hb : Blk w g t cs) {base : Nat} {e : TypeId} {s : Nat} {v : Value} {n : Nat} {xs : List Value} (h : w.ownsRow base e s v n xs) (hne : e ≠ t) : some g ≠ v.ownBlock := by
  intro hh
  rcases h.2 with ⟨rfl, _⟩ | ⟨g', cap, cur, rfl, _, hg, _⟩
  · cases hh
  · have e1 : g = g' := by injection hh
    subst e1
    have h2 : w.heap[g]? = some (.cells cs t) := hb
    rw [hg] at h2
    injection h2 with h2
    injection h2 with _ h3
    exact hne h3
/-- In order: by the north, then by the east. -/
def leS (p q : Int × Int) : Prop := p.1 < q.1 ∨ (p.1 = q.1 ∧ p.2 ≤ q.2)
theorem leS_of {l : List SiteN} (h : l.Pairwise (fun x y => ¬ cmpSite y x < 0)) : (siteL l).Pairwise leS := by
  unfold siteL
  rw [List.pairwise_map]
  refine h.imp ?_
  intro x y h1
  rw [cmp_lt] at h1
  unfold leS
  omega
set_option maxRecDepth 100000 in
set_option maxHeartbeats 8000000 in
theorem beside_srt (s : ByteArray) (x : Nat → Int) (m : Nat) (w : World) (h : LocS s x m) :
    Calls Tryz.prog 15 #[.string s] w fun r w' => ∃ (u : Value) (L : List (Int × Int)), r = .returned (.tuple #[u, .int .i64 0]) ∧ L.Perm (besTo (lowNo x m) (lowEa x m) (lvHigh (m - 1)) (lvWide (m - 1)) 9) ∧ L.Pairwise leS ∧ StrsFrom w.heap.size w' u (L.map fun p => strOfNums (locL p.1 p.2 m)) ∧ w.grownBy w' none := by
  have HS := Lib.hid h
  have h0 := h.m0
  have h3 := h.m3
  have hb := low_bd x m h3 h.ok m (Nat.le_refl _)
  have hb2 := hb.2.2 h0
  obtain ⟨-, -, -, -, w0, w1, g0, g1, -⟩ := lv_bd (m - 1) (by omega)
  have HAR := Lib.hid (fun W => area_ok s x m W h)
  obtain ⟨n, hn⟩ : ∃ n, lowNo x m = n := ⟨_, rfl⟩
  obtain ⟨e, he⟩ : ∃ e, lowEa x m = e := ⟨_, rfl⟩
  obtain ⟨hg, hhg⟩ : ∃ g, lvHigh (m - 1) = g := ⟨_, rfl⟩
  obtain ⟨wd, hwd⟩ : ∃ g, lvWide (m - 1) = g := ⟨_, rfl⟩
  rw [hn, he, hhg, hwd] at HAR
  rw [hn, he, hhg, hwd] at hb2
  rw [hn, he] at hb
  rw [hhg] at g0 g1
  rw [hwd] at w0 w1
  obtain ⟨n2, hn2⟩ : ∃ z, n + hg = z := ⟨_, rfl⟩
  obtain ⟨e2, he2⟩ : ∃ z, e + wd = z := ⟨_, rfl⟩
  rw [hn2, he2] at HAR hb2
  have m1 : IntKind.i64.wrap (e2 - e) = wd := by rw [← he2]; show IntKind.i64.wrap (e + wd - e) = wd; rw [show e + wd - e = wd by omega]; exact i64_in _ ⟨by omega, by omega⟩
  have m2 : IntKind.i64.wrap (n2 - n) = hg := by rw [← hn2]; show IntKind.i64.wrap (n + hg - n) = hg; rw [show n + hg - n = hg by omega]; exact i64_in _ ⟨by omega, by omega⟩
  have HN := Lib.hid hn
  have HE := Lib.hid he
  have HHG := Lib.hid hhg
  have HWD := Lib.hid hwd
  have hnb0 := hb.2.1
  have heb0 := hb.1
  obtain ⟨heb1, hnb1⟩ := hb2
  obtain ⟨i0, hi, hz0, hz1, hz2⟩ := info_parts siteInfo
  obtain ⟨j0, kj, ky0, ky1, ky2⟩ := info_parts strInfo
  have hlong : (s.size : Int) = (2 * m : Nat) := by rw [h.size]
  have HLO : Hid (∀ (pn pe : Int) (W : World), -324000 ≤ pn → pn ≤ 324000 → -648000 ≤ pe → pe ≤ 647999 → Calls Tryz.prog 44 #[.agg #[.int .i64 pn, .int .i64 pe], .int .i64 (s.size : Int)] W fun r w' => r = .returned (.string (strOfNums (locL pn pe m))) ∧ W.grownBy w' none) := fun pn pe W h1 h2 h4 h5 => by
    rw [hlong]
    exact locator_any pn pe m W h0 h3 h1 h2 h4 h5
  clear hlong
  clear h hb hn he hhg hwd
  go_enter Tryz.func15, Tryz.ntmps15
  go_wp2_with fail
  refine (isLocator_ok s x m _ HS.out).mono ?_
  rintro _ w1 ⟨rfl, hg1⟩
  go_wp2_with fail
  refine (HAR.out _).mono ?_
  rintro _ w2 ⟨rfl, hg2⟩
  have hG := gr_alloc (gr_trans hg1 hg2) (.cells #[.int .i64 n, .int .i64 e, .int .i64 n2, .int .i64 e2] 39)
  have hB := Blk.new w2 39 #[.int .i64 n, .int .i64 e, .int .i64 n2, .int .i64 e2]
  obtain ⟨c0, c1, c2, c3⟩ := hB.cells4
  clear hg1 hg2
  go_wp2_with fail
  go_quiet (fail)
  go_wp2_with fail
  have hS1 : Blk (((w2.alloc (.cells #[.int .i64 n, .int .i64 e, .int .i64 n2, .int .i64 e2] 39)).drewN nq).alloc (.cells #[.int .i64 (-hg), .int .i64 0, .int .i64 hg] 3)) (w2.heap.size + 1) 3 #[.int .i64 (-hg), .int .i64 0, .int .i64 hg] := by
    simpa using Blk.new ((w2.alloc (.cells #[.int .i64 n, .int .i64 e, .int .i64 n2, .int .i64 e2] 39)).drewN nq) 3 #[.int .i64 (-hg), .int .i64 0, .int .i64 hg]
  have hB1 := (hB.drewN nq).alloc (.cells #[.int .i64 (-hg), .int .i64 0, .int .i64 hg] 3)
  have hG1 := gr_alloc (gr_drewN hG nq) (.cells #[.int .i64 (-hg), .int .i64 0, .int .i64 hg] 3)
  generalize ((w2.alloc (.cells #[.int .i64 n, .int .i64 e, .int .i64 n2, .int .i64 e2] 39)).drewN nq).alloc (.cells #[.int .i64 (-hg), .int .i64 0, .int .i64 hg] 3) = W at *
  generalize w2.heap.size + 1 = gs1 at *
  generalize w2.heap.size = ga at *
  have hgaW := hB1.lt
  clear hB hG c0 c1 c2 c3
  go_loopw [7, 40] (fun o i wr => ∃ j : Nat, j ≤ 3 ∧ i = .int .i64 j ∧ Sites W.heap.size wr o (besTo n e hg wd (3 * j)) ∧ W.grownBy wr none) (fun _ i _ => 3 - (intOf i).toNat)
  case atStart => exact ⟨0, by omega, rfl, Sites.nil _ _, gr_refl _ _⟩
  case round =>
    obtain ⟨j, hj, rfl, hown, hgr⟩ := hrel
    by_cases hlt : j < 3
    · have hjl : (j : Int) < 3 := by omega
      have hjc := step_cell (hS1.grown hgr (by simp)) j hlt
      have hDc := stepI_cases hg j
      obtain ⟨D, hD⟩ : ∃ D, stepI hg j = D := ⟨_, rfl⟩
      rw [hD] at hjc hDc
      have HD := Lib.hid hD
      clear hD
      have hS2 := Blk.new wr 3 #[.int .i64 (-wd), .int .i64 0, .int .i64 wd]
      have hG2 := gr_alloc hgr (.cells #[.int .i64 (-wd), .int .i64 0, .int .i64 wd] 3)
      have hown2 : Sites W.heap.size (wr.alloc (.cells #[.int .i64 (-wd), .int .i64 0, .int .i64 wd] 3)) _ (besTo n e hg wd (3 * j)) := hown.grown (World.grownBy_alloc wr _ none)
      go_wp2_with fail
      generalize wr.alloc (.cells #[.int .i64 (-wd), .int .i64 0, .int .i64 wd] 3) = W5 at *
      generalize wr.heap.size = gs2 at *
      clear hown hgr hjc
      go_loopw [7, 49] (fun o i wr => ∃ q : Nat, q ≤ 3 ∧ i = .int .i64 q ∧ Sites W.heap.size wr o (besTo n e hg wd (3 * j + q)) ∧ Blk wr gs2 3 #[.int .i64 (-wd), .int .i64 0, .int .i64 wd] ∧ W.grownBy wr none) (fun _ i _ => 3 - (intOf i).toNat)
      case atStart => exact ⟨0, by omega, rfl, hown2, hS2, hG2⟩
      case round =>
        obtain ⟨q, hq, rfl, hown, hbs, hgr⟩ := hrel
        by_cases hlq : q < 3
        · have hql : (q : Int) < 3 := by omega
          have hqc := step_cell hbs q hlq
          have hFc := stepI_cases wd q
          have HBB := Lib.hid (besB_of (n := n) (h := hg) (wd := wd) (by omega) (by omega) hlt hlq)
          have HPP := Lib.hid (besP_at (n := n) (e := e) (h := hg) (wd := wd) (j := j) hlq)
          obtain ⟨F, hF⟩ : ∃ F, stepI wd q = F := ⟨_, rfl⟩
          rw [HD.out] at HBB HPP
          rw [hF] at hqc hFc HBB HPP
          clear hF
          obtain ⟨c0, c1, c2, c3⟩ := (hB1.grown hgr (by simp)).cells4
          have d0 : wr.drew.cell? ⟨ga, 0, none⟩ = some (.int .i64 n) := c0
          have d1 : wr.drew.cell? ⟨ga, 1, none⟩ = some (.int .i64 e) := c1
          have hfew := besTo_few n e hg wd (3 * j + q)
          obtain ⟨A2, c2', rfl, hlen2, hshp⟩ := ownsRow_shape hown
          clear hshp
          by_cases hD0 : D = 0
          · subst hD0
            rw [Int.add_zero] at HBB HPP
            by_cases hF0 : F = 0
            · subst hF0
              have e2' : IntKind.i64.wrap e = e := i64_in _ ⟨by omega, by omega⟩
              have HA := Lib.hid (fun W => around_any e W (by omega) (by omega))
              have HK : Hid (besTo n e hg wd (3 * j + (q + 1)) = besTo n e hg wd (3 * j + q)) := by
                show besTo n e hg wd (3 * j + q + 1) = _
                rw [besTo, if_neg (by rw [HBB.out _ rfl]; simp)]
              go_wp2_with fail
              go_region_held3 (fun W' => W'.cell? ⟨ga, 0, none⟩ = some (.int .i64 n) ∧ W'.cell? ⟨ga, 1, none⟩ = some (.int .i64 e)) (go_keep) (first | (go_at_call 41; refine (HA.out _).mono ?_; rintro _ wA ⟨rfl, rfl⟩) | fail)
              all_goals
                go_wp2_with fail
                go_roundw
                case rel => exact ⟨q + 1, by omega, by go_num, by rw [HK.out]; exact hown.grown (by repeat (first | exact gr_refl _ _ | assumption | refine gr_alloc ?_ _ | refine gr_drewN ?_ _ | refine gr_drew ?_)), Blk.grown (row := none) hbs (by repeat (first | exact gr_refl _ _ | assumption | refine gr_alloc ?_ _ | refine gr_drewN ?_ _ | refine gr_drew ?_)) (by simp), gr_trans hgr (by repeat (first | exact gr_refl _ _ | assumption | refine gr_alloc ?_ _ | refine gr_drewN ?_ _ | refine gr_drew ?_))⟩
                case measure => simp [intOf]; omega
            · have e2' : IntKind.i64.wrap (e + F) = e + F := i64_in _ ⟨by omega, by omega⟩
              have HA := Lib.hid (fun W => around_any (e + F) W (by omega) (by omega))
              obtain ⟨b, hb⟩ : ∃ b, outB n (-324000) 323999 = b := ⟨_, rfl⟩
              cases b with
              | true =>
                have HK : Hid (besTo n e hg wd (3 * j + (q + 1)) = besTo n e hg wd (3 * j + q)) := by
                  show besTo n e hg wd (3 * j + q + 1) = _
                  rw [besTo, if_neg (by rw [HBB.out _ hb]; simp)]
                have HBO := Lib.hid hb
                clear hb
                go_wp2_with fail
                go_region_held3 (fun W' => W'.cell? ⟨ga, 0, none⟩ = some (.int .i64 n) ∧ W'.cell? ⟨ga, 1, none⟩ = some (.int .i64 e)) (go_keep) (first | (go_at_call 41; refine (HA.out _).mono ?_; rintro _ wA ⟨rfl, rfl⟩) | fail)
                all_goals
                  go_wp2_with fail
                  refine (outside_any _ _ _ _).mono ?_
                  rintro _ _ ⟨rfl, rfl⟩
                  rw [HBO.out]
                  go_wp2_with fail
                  go_roundw
                  case rel => exact ⟨q + 1, by omega, by go_num, by rw [HK.out]; exact hown.grown (by repeat (first | exact gr_refl _ _ | assumption | refine gr_alloc ?_ _ | refine gr_drewN ?_ _ | refine gr_drew ?_)), Blk.grown (row := none) hbs (by repeat (first | exact gr_refl _ _ | assumption | refine gr_alloc ?_ _ | refine gr_drewN ?_ _ | refine gr_drew ?_)) (by simp), gr_trans hgr (by repeat (first | exact gr_refl _ _ | assumption | refine gr_alloc ?_ _ | refine gr_drewN ?_ _ | refine gr_drew ?_))⟩
                  case measure => simp [intOf]; omega
              | false =>
                have HK : Hid (besTo n e hg wd (3 * j + (q + 1)) = besTo n e hg wd (3 * j + q) ++ [(n, aroundI (e + F))]) := by
                  show besTo n e hg wd (3 * j + q + 1) = _
                  rw [besTo, if_pos (by rw [HBB.out _ hb]; simp [hF0]), HPP.out]
                have HBO := Lib.hid hb
                clear hb
                go_wp2_with fail
                go_region_held3 (fun W' => W'.cell? ⟨ga, 0, none⟩ = some (.int .i64 n) ∧ W'.cell? ⟨ga, 1, none⟩ = some (.int .i64 e)) (go_keep) (first | (go_at_call 41; refine (HA.out _).mono ?_; rintro _ wA ⟨rfl, rfl⟩) | fail)
                all_goals
                  go_wp2_with fail
                  refine (outside_any _ _ _ _).mono ?_
                  rintro _ _ ⟨rfl, rfl⟩
                  rw [HBO.out]
                  have hG6 : W.grownBy (wr.alloc (.cells #[.int .i64 (n), .int .i64 (aroundI (e + F))] 27)).drew none := gr_trans hgr (by repeat (first | exact gr_refl _ _ | assumption | refine gr_alloc ?_ _ | refine gr_drewN ?_ _ | refine gr_drew ?_))
                  have hown6 : Sites W.heap.size (wr.alloc (.cells #[.int .i64 (n), .int .i64 (aroundI (e + F))] 27)).drew _ (besTo n e hg wd (3 * j + q)) := hown.grown (by repeat (first | exact gr_refl _ _ | assumption | refine gr_alloc ?_ _ | refine gr_drewN ?_ _ | refine gr_drew ?_))
                  have hbs6 : Blk (wr.alloc (.cells #[.int .i64 (n), .int .i64 (aroundI (e + F))] 27)).drew gs2 3 #[.int .i64 (-wd), .int .i64 0, .int .i64 wd] := Blk.grown (row := none) hbs (by repeat (first | exact gr_refl _ _ | assumption | refine gr_alloc ?_ _ | refine gr_drewN ?_ _ | refine gr_drew ?_)) (by simp)
                  have hP6 : Blk (wr.alloc (.cells #[.int .i64 (n), .int .i64 (aroundI (e + F))] 27)).drew wr.heap.size 27 #[.int .i64 (n), .int .i64 (aroundI (e + F))] := (Blk.new wr 27 #[.int .i64 (n), .int .i64 (aroundI (e + F))]).drew
                  generalize (wr.alloc (.cells #[.int .i64 (n), .int .i64 (aroundI (e + F))] 27)).drew = W6 at *
                  generalize besTo n e hg wd (3 * j + q) = L at *
                  obtain ⟨p0, p1⟩ := hP6.cells2
                  have hsz6 := hG6.size
                  have hplt := hP6.lt
                  have HK2 := Lib.hid HK.out
                  clear d0 d1 HPP HBB hbs hP6 c0 c1 c2 c3
                  generalize aroundI (e + F) = PE at *
                  have hownA : W6.ownsRow W.heap.size 27 2 (.slice A2 L.length c2') L.length (wcells L) := hown6
                  go_wp2_with (at_builtin; refine wpList_append_own _ rfl _ _ 71 rfl W.heap.size 27 i0 _ 2 16 Tryz.underlying71 hi hz0 hz1 hz2 rfl (by decide) _ _ _ rfl (hownA.alloc _) ⟨W6.heap.size, 0, none⟩ 1 1 [.int .i64 (n), .int .i64 PE] rfl rfl (two_cells W6 (n) PE _) (two_oneCell (n) PE) (by unfold maxLen; omega) (by omega) (by simp; omega) ?_; intro v' w9 hownB hgrB _)
                  have hG9 : W.grownBy w9 none := gr_grown (gr_alloc hG6 _) hgrB (fun kk h => .inr (hownA.lt kk h).1)
                  have hbs9 := Blk.grown (hbs6.alloc _) hgrB (blk_row hbs6 hownA (by decide))
                  have hown9 : Sites W.heap.size w9 v' (besTo n e hg wd (3 * j + (q + 1))) := by
                    unfold Sites
                    rw [HK2.out, List.length_append, wcells_snoc]
                    exact hownB
                  go_wp2_with fail
                  go_roundw
                  case rel => exact ⟨q + 1, by omega, by go_num, hown9, hbs9, hG9⟩
                  case measure => simp [intOf]; omega
          · have e1 : IntKind.i64.wrap (n + D) = n + D := i64_in _ ⟨by omega, by omega⟩
            have e2' : IntKind.i64.wrap (e + F) = e + F := i64_in _ ⟨by omega, by omega⟩
            have HA := Lib.hid (fun W => around_any (e + F) W (by omega) (by omega))
            obtain ⟨b, hb⟩ : ∃ b, outB (n + D) (-324000) 323999 = b := ⟨_, rfl⟩
            cases b with
            | true =>
              have HK : Hid (besTo n e hg wd (3 * j + (q + 1)) = besTo n e hg wd (3 * j + q)) := by
                show besTo n e hg wd (3 * j + q + 1) = _
                rw [besTo, if_neg (by rw [HBB.out _ hb]; simp)]
              have HBO := Lib.hid hb
              clear hb
              go_wp2_with fail
              go_region_held3 (fun W' => W'.cell? ⟨ga, 0, none⟩ = some (.int .i64 n) ∧ W'.cell? ⟨ga, 1, none⟩ = some (.int .i64 e)) (go_keep) (first | (go_at_call 41; refine (HA.out _).mono ?_; rintro _ wA ⟨rfl, rfl⟩) | fail)
              all_goals
                go_wp2_with fail
                refine (outside_any _ _ _ _).mono ?_
                rintro _ _ ⟨rfl, rfl⟩
                rw [HBO.out]
                go_wp2_with fail
                go_roundw
                case rel => exact ⟨q + 1, by omega, by go_num, by rw [HK.out]; exact hown.grown (by repeat (first | exact gr_refl _ _ | assumption | refine gr_alloc ?_ _ | refine gr_drewN ?_ _ | refine gr_drew ?_)), Blk.grown (row := none) hbs (by repeat (first | exact gr_refl _ _ | assumption | refine gr_alloc ?_ _ | refine gr_drewN ?_ _ | refine gr_drew ?_)) (by simp), gr_trans hgr (by repeat (first | exact gr_refl _ _ | assumption | refine gr_alloc ?_ _ | refine gr_drewN ?_ _ | refine gr_drew ?_))⟩
                case measure => simp [intOf]; omega
            | false =>
              have HK : Hid (besTo n e hg wd (3 * j + (q + 1)) = besTo n e hg wd (3 * j + q) ++ [(n + D, aroundI (e + F))]) := by
                show besTo n e hg wd (3 * j + q + 1) = _
                rw [besTo, if_pos (by rw [HBB.out _ hb]; simp [hD0]), HPP.out]
              have HBO := Lib.hid hb
              clear hb
              go_wp2_with fail
              go_region_held3 (fun W' => W'.cell? ⟨ga, 0, none⟩ = some (.int .i64 n) ∧ W'.cell? ⟨ga, 1, none⟩ = some (.int .i64 e)) (go_keep) (first | (go_at_call 41; refine (HA.out _).mono ?_; rintro _ wA ⟨rfl, rfl⟩) | fail)
              all_goals
                go_wp2_with fail
                refine (outside_any _ _ _ _).mono ?_
                rintro _ _ ⟨rfl, rfl⟩
                rw [HBO.out]
                have hG6 : W.grownBy (wr.alloc (.cells #[.int .i64 (n + D), .int .i64 (aroundI (e + F))] 27)).drew none := gr_trans hgr (by repeat (first | exact gr_refl _ _ | assumption | refine gr_alloc ?_ _ | refine gr_drewN ?_ _ | refine gr_drew ?_))
                have hown6 : Sites W.heap.size (wr.alloc (.cells #[.int .i64 (n + D), .int .i64 (aroundI (e + F))] 27)).drew _ (besTo n e hg wd (3 * j + q)) := hown.grown (by repeat (first | exact gr_refl _ _ | assumption | refine gr_alloc ?_ _ | refine gr_drewN ?_ _ | refine gr_drew ?_))
                have hbs6 : Blk (wr.alloc (.cells #[.int .i64 (n + D), .int .i64 (aroundI (e + F))] 27)).drew gs2 3 #[.int .i64 (-wd), .int .i64 0, .int .i64 wd] := Blk.grown (row := none) hbs (by repeat (first | exact gr_refl _ _ | assumption | refine gr_alloc ?_ _ | refine gr_drewN ?_ _ | refine gr_drew ?_)) (by simp)
                have hP6 : Blk (wr.alloc (.cells #[.int .i64 (n + D), .int .i64 (aroundI (e + F))] 27)).drew wr.heap.size 27 #[.int .i64 (n + D), .int .i64 (aroundI (e + F))] := (Blk.new wr 27 #[.int .i64 (n + D), .int .i64 (aroundI (e + F))]).drew
                generalize (wr.alloc (.cells #[.int .i64 (n + D), .int .i64 (aroundI (e + F))] 27)).drew = W6 at *
                generalize besTo n e hg wd (3 * j + q) = L at *
                obtain ⟨p0, p1⟩ := hP6.cells2
                have hsz6 := hG6.size
                have hplt := hP6.lt
                have HK2 := Lib.hid HK.out
                clear d0 d1 HPP HBB hbs hP6 c0 c1 c2 c3
                generalize aroundI (e + F) = PE at *
                have hownA : W6.ownsRow W.heap.size 27 2 (.slice A2 L.length c2') L.length (wcells L) := hown6
                go_wp2_with (at_builtin; refine wpList_append_own _ rfl _ _ 71 rfl W.heap.size 27 i0 _ 2 16 Tryz.underlying71 hi hz0 hz1 hz2 rfl (by decide) _ _ _ rfl (hownA.alloc _) ⟨W6.heap.size, 0, none⟩ 1 1 [.int .i64 (n + D), .int .i64 PE] rfl rfl (two_cells W6 (n + D) PE _) (two_oneCell (n + D) PE) (by unfold maxLen; omega) (by omega) (by simp; omega) ?_; intro v' w9 hownB hgrB _)
                have hG9 : W.grownBy w9 none := gr_grown (gr_alloc hG6 _) hgrB (fun kk h => .inr (hownA.lt kk h).1)
                have hbs9 := Blk.grown (hbs6.alloc _) hgrB (blk_row hbs6 hownA (by decide))
                have hown9 : Sites W.heap.size w9 v' (besTo n e hg wd (3 * j + (q + 1))) := by
                  unfold Sites
                  rw [HK2.out, List.length_append, wcells_snoc]
                  exact hownB
                go_wp2_with fail
                go_roundw
                case rel => exact ⟨q + 1, by omega, by go_num, hown9, hbs9, hG9⟩
                case measure => simp [intOf]; omega
        · have hqe : q = 3 := by omega
          subst hqe
          go_wp2_with fail
          go_roundw
          case rel => exact ⟨j + 1, by omega, by go_num, by rw [show 3 * (j + 1) = 3 * j + 3 by omega]; exact hown, hgr⟩
          case measure => simp [intOf]; omega
    · have hjl : ¬ (j : Int) < 3 := by omega
      obtain rfl : j = 3 := by omega
      go_wp2_with fail
      have hlen9 := besTo_len n e hg wd (by omega) hnb0 (by omega) (by omega)
      have hown9 : Sites W.heap.size wr _ (besTo n e hg wd 9) := hown
      have hall : ∀ p ∈ besTo n e hg wd 9, (-324000 ≤ p.1 ∧ p.1 ≤ 323999) ∧ (-648000 ≤ p.2 ∧ p.2 ≤ 647999) := fun p hp => by
        obtain ⟨q, _, hb, rfl⟩ := (besTo_mem n e hg wd 9 p).1 hp
        simp only [besB, Bool.and_eq_true, decide_eq_true_eq] at hb
        exact ⟨⟨hb.2.1, hb.2.2⟩, aroundI_bd _⟩
      have HGEN : Hid (besTo (lowNo x m) (lowEa x m) (lvHigh (m - 1)) (lvWide (m - 1)) 9 = besTo n e hg wd 9) := by show _ = _; rw [HN.out, HE.out, HHG.out, HWD.out]
      generalize besTo n e hg wd 9 = LL at *
      obtain ⟨l, hl⟩ : ∃ l : List SiteN, siteL l = LL := ⟨LL.attach.map fun p => ⟨p.1, by have := hall p.1 p.2; omega⟩, by
        simp only [siteL, List.map_map, Function.comp_def]
        exact List.attach_map_subtype_val LL⟩
      have hll : l.length = LL.length := by rw [← hl]; simp [siteL]
      rw [← hl] at hown9
      obtain ⟨A2, c2, he2q, hlen2, hA2⟩ := ownsRow_shape hown9
      have hsl : (siteL l).length = l.length := by simp [siteL]
      rw [hsl] at he2q hA2
      obtain ⟨g, rfl, hgb, hgl⟩ := hA2 (by omega)
      subst he2q
      clear hown
      refine (sortSites_own W.heap.size g c2 l _ hown9 (by omega)).mono ?_
      rintro _ w6 ⟨rfl, l', hperm, hsort, hown6, hg6⟩
      have hG6 : W.grownBy w6 none := gr_grown hgr hg6 (fun kk h => .inr (by injection h with h; omega))
      have hl2 : l'.length = l.length := hperm.length_eq
      have hLP : Hid ((siteL l').Perm LL) := by rw [← hl]; exact hperm.map _
      have HSO : Hid ((siteL l').Pairwise leS) := leS_of hsort
      have hall2 : ∀ p ∈ siteL l', (-324000 ≤ p.1 ∧ p.1 ≤ 323999) ∧ (-648000 ≤ p.2 ∧ p.2 ≤ 647999) := fun p hp => hall p (hLP.out.mem_iff.1 hp)
      have hsl2 : (siteL l').length = l.length := by simp [siteL, hl2]
      generalize siteL l' = SL at *
      obtain ⟨N, hN⟩ : ∃ N, l.length = N := ⟨_, rfl⟩
      rw [hN] at hsl2 hown6 hll
      rw [hN]
      have HALL := Lib.hid hall2
      have hN9 : N ≤ 8 := by omega
      have HOWN := Lib.hid hown6
      have HSL := Lib.hid hsl2
      clear hll hall hall2 hown9 hperm hsort hown6 hg6 hl2 hl hgl hlen9 hsl hlen2 hN hsl2
      have hw6 := hG6.size
      have hGw := gr_trans hG1 hG6
      have hw0 := hGw.size
      clear hB1 hS1 hG1 hgr hG6
      go_wp2_with fail
      go_loopw [13, 87] (fun o i wr => ∃ k : Nat, k ≤ N ∧ i = .int .i64 k ∧ StrsFrom w6.heap.size wr o ((SL.take k).map fun p => strOfNums (locL p.1 p.2 m)) ∧ w6.grownBy wr none) (fun _ i _ => N - (intOf i).toNat)
      case atStart => exact ⟨0, by omega, rfl, StrsFrom.nil _ _, gr_refl _ _⟩
      case round =>
        obtain ⟨k, hk, rfl, hown, hgr⟩ := hrel
        have hlk : ((SL.take k).map fun p => strOfNums (locL p.1 p.2 m)).length = k := by simp; have := HSL.out; omega
        by_cases hlt : k < N
        · have hkl : (k : Int) < (N : Int) := by omega
          have hks : k < SL.length := by have := HSL.out; omega
          have hcc := wcells_at SL k hks
          have hr6 : wr.ownsRow W.heap.size 27 2 (.slice (some ⟨g, 0, none⟩) N c2) N (wcells SL) := by
            have h := HOWN.out.grown hgr
            unfold Sites at h
            rwa [HSL.out] at h
          have c0 := World.ownsRow.cellAt hr6 (k * 2) (by omega)
          have c1 := World.ownsRow.cellAt hr6 (k * 2 + 1) (by omega)
          rw [hcc.1] at c0
          rw [hcc.2] at c1
          have hb := HALL.out _ (List.getElem_mem hks)
          have HTK : Hid ((SL.take (k + 1)).map (fun p => strOfNums (locL p.1 p.2 m)) = (SL.take k).map (fun p => strOfNums (locL p.1 p.2 m)) ++ [strOfNums (locL SL[k].1 SL[k].2 m)]) := by
            show _ = _
            rw [List.take_succ_eq_append_getElem hks, List.map_append]
            rfl
          obtain ⟨pn, hpn⟩ : ∃ z, SL[k].1 = z := ⟨_, rfl⟩
          obtain ⟨pe, hpe⟩ : ∃ z, SL[k].2 = z := ⟨_, rfl⟩
          rw [hpn] at c0 hb HTK
          rw [hpe] at c1 hb HTK
          obtain ⟨S, hS⟩ : ∃ z, strOfNums (locL pn pe m) = z := ⟨_, rfl⟩
          rw [hS] at HTK
          have HLOk := Lib.hid (fun W => HLO.out pn pe W hb.1.1 (by omega) hb.2.1 hb.2.2)
          rw [hS] at HLOk
          generalize (SL.take k).map (fun p => strOfNums (locL p.1 p.2 m)) = X at *
          have hlk8 : X.length ≤ 8 := by omega
          clear hlk
          obtain ⟨A3, c3, rfl, hlen3, hsh3⟩ := hown.shape
          clear hsh3 hcc hr6 hpn hpe hS hb
          have hszr := hgr.size
          go_wp2_with fail
          refine (HLOk.out _).mono ?_
          rintro _ w7 ⟨rfl, hg7⟩
          have hG7 := gr_trans (gr_alloc hgr (.cells #[.int .i64 pn, .int .i64 pe] 27)) hg7
          have hsz7 := hG7.size
          have hownA : w7.ownsRow w6.heap.size 9 1 (.slice A3 X.length c3) X.length (X.map Value.string) := StrsFrom.grown (hown.grown (World.grownBy_alloc wr (.cells #[.int .i64 pn, .int .i64 pe] 27) none)) hg7
          clear hown hg7 c0 c1
          go_wp2_with (at_builtin; refine wpList_append_own _ rfl _ _ 31 rfl w6.heap.size 9 j0 _ 1 16 Tryz.underlying31 kj ky0 ky1 ky2 rfl (by decide) _ _ _ rfl (hownA.alloc _) ⟨w7.heap.size, 0, none⟩ 1 1 [.string S] rfl rfl (cells_new _ _ _) (str_one _) (by unfold maxLen; omega) (by omega) (by simp; omega) ?_; intro v' w8 hownB hgrB _)
          have hG8 : w6.grownBy w8 none := gr_grown (gr_alloc hG7 _) hgrB (fun kk h => .inr (hownA.lt kk h).1)
          have hown8 : StrsFrom w6.heap.size w8 v' ((SL.take (k + 1)).map fun p => strOfNums (locL p.1 p.2 m)) := by
            unfold StrsFrom
            rw [HTK.out, List.map_append, List.length_append]
            exact hownB
          go_wp2_with fail
          go_roundw
          case rel => exact ⟨k + 1, by omega, by go_num, hown8, hG8⟩
          case measure => simp [intOf]; omega
        · have hkl : ¬ (k : Int) < (N : Int) := by omega
          go_wp2_with fail
          go_ret2
          have hke : SL.take k = SL := List.take_of_length_le (by have := HSL.out; omega)
          rw [hke] at hown
          exact ⟨_, rfl, SL, by rw [HGEN.out]; exact hLP.out, HSO.out, hown.low (by omega), gr_trans hGw hgr⟩
theorem beside_ok (s : ByteArray) (x : Nat → Int) (m : Nat) (w : World) (h : LocS s x m) :
    Calls Tryz.prog 15 #[.string s] w fun r w' => ∃ (u : Value) (L : List (Int × Int)), r = .returned (.tuple #[u, .int .i64 0]) ∧ L.Perm (besTo (lowNo x m) (lowEa x m) (lvHigh (m - 1)) (lvWide (m - 1)) 9) ∧ StrsFrom w.heap.size w' u (L.map fun p => strOfNums (locL p.1 p.2 m)) ∧ w.grownBy w' none :=
  (beside_srt s x m w h).mono fun _ _ ⟨u, L, a, b, _, c⟩ => ⟨u, L, a, b, c⟩
end Go.Proofs.YtbaocnbppefciaaGreat
