/- The walk over the reference's BesideOf: those beside, in order. Condition: the signs are right. -/
import Derived.Test.YtbaocnbppefciaaGreatSortLoc
import Derived.Test.YtbaocnbppefciaaGreatMidRef
import Derived.Test.YtbaocnbppefciaaGreatLocFor
import Derived.Test.YtbaocnbppefciaaGreatDistRef
namespace Go.Proofs.YtbaocnbppefciaaGreat
open Go.RowKit
set_option linter.unusedVariables false
set_option linter.unusedSimpArgs false

/-- Is a place taken. -/
theorem besB_parts {n h wd : Int} (h0 : 0 < h) (w0 : 0 < wd) {j q : Nat} (hj : j < 3) (hq : q < 3) {b : Bool} (hb : outB (n + stepI h j) (-324000) 323999 = b) :
    besB n h (3 * j + q) = ((!decide (j = 1) || !decide (q = 1)) && !b) := by
  rw [besB_of h0 w0 hj hq b hb, decide_eq_decide.2 (stepI_zero h0 hj), decide_eq_decide.2 (stepI_zero w0 hq)]
/-- A loop's number from -1 to 1, as a factor of a width that is halved. -/
theorem half_step {m : Nat} (hm0 : 0 < m) (hm : m ≤ 3) {j : Nat} (hj : j < 3) {z : Int} (hz : z = (j : Int) - 1) :
    IntKind.i64.wrap (z * lvWide (m - 1)) = stepI (lvWide (m - 1)) j ∧ IntKind.i64.wrap ((stepI (lvWide (m - 1)) j).tdiv 2) = stepI (lvHigh (m - 1)) j ∧ (stepI (lvWide (m - 1)) j).tdiv 2 = stepI (lvHigh (m - 1)) j := by
  subst hz
  rcases (by omega : m = 1 ∨ m = 2 ∨ m = 3) with rfl | rfl | rfl <;> rcases (by omega : j = 0 ∨ j = 1 ∨ j = 2) with rfl | rfl | rfl <;> exact ⟨by decide, by decide, by decide⟩
set_option maxRecDepth 100000 in
set_option maxHeartbeats 8000000 in
theorem besideOf_ok (s : ByteArray) (x : Nat → Int) (m : Nat) (w : World) (h : LocS s x m) :
    Calls Tryz.prog 19 #[.string s] w fun r w' => ∃ (u : Value) (L : List (Int × Int)), r = .returned u ∧ L.Perm (besTo (lowNo x m) (lowEa x m) (lvHigh (m - 1)) (lvWide (m - 1)) 9) ∧ L.Pairwise leS ∧ StrsFrom w.heap.size w' u (L.map fun p => strOfNums (locL p.1 p.2 m)) ∧ w.grownBy w' none := by
  have HMI := Lib.hid (fun W => middleOf_ok s x m W h)
  have h0 := h.m0
  have h3 := h.m3
  have hlines := low_lines x m h0 h3 h.ok
  obtain ⟨-, -, -, -, w0, w1, g0, g1, -⟩ := lv_bd (m - 1) (by omega)
  have hlong : (s.size : Int) = (2 * m : Nat) := by rw [h.size]
  have HSZ : Hid (∀ W, Calls Tryz.prog 45 #[.int .i64 (s.size : Int)] W fun e w' => e = .returned (.int .i64 (lvWide (m - 1))) ∧ W = w') := fun W => by rw [hlong]; exact sizeOf_at m W h0 h3
  have HLF : Hid (∀ (n e : Int) (W : World), -324000 ≤ n → n ≤ 324000 → -648000 ≤ e → e ≤ 647999 → Calls Tryz.prog 23 #[.agg #[.int .i64 n, .int .i64 e], .int .i64 (s.size : Int)] W fun r w' => r = .returned (.string (strOfNums (locL n e m))) ∧ W.grownBy w' none) := fun n e W a b c d => by
    rw [hlong]
    exact locatorFor_any n e m W h0 h3 a b c d
  have HST := Lib.hid (fun (j : Nat) (hj : j < 3) (z : Int) (hz : z = (j : Int) - 1) => half_step h0 h3 hj hz)
  have HMID := Lib.hid (fun (p : Int × Int) (hp : OnLines m p) => lines_mid h0 h3 hp)
  have HIN := Lib.hid (fun (s : Int) hs => mid_in h0 h3 hlines (s := s) hs)
  have HAR := Lib.hid (fun (s : Int) hs => mid_around h0 h3 hlines (s := s) hs)
  have HLI := Lib.hid (fun (k : Nat) hb => besP_lines h0 h3 hlines (k := k) hb)
  have HALL := Lib.hid (besTo_lines h0 h3 hlines 9)
  have hl1 := hlines.1
  have hl2 := hlines.2.1
  simp only at hl1 hl2
  clear hlong h hlines
  generalize lowNo x m = n at *
  generalize lowEa x m = e at *
  generalize lvHigh (m - 1) = hg at *
  generalize lvWide (m - 1) = wd at *
  obtain ⟨N0, hN0⟩ : ∃ N0, n + hg / 2 = N0 := ⟨_, rfl⟩
  obtain ⟨E0, hE0⟩ : ∃ E0, e + wd / 2 = E0 := ⟨_, rfl⟩
  rw [hN0] at HIN HMI
  rw [hE0] at HAR HMI
  have hbN : -324000 ≤ N0 ∧ N0 ≤ 342000 := by omega
  have hbE : -648000 ≤ E0 ∧ E0 ≤ 690000 := by omega
  have HN0 := Lib.hid hN0
  have HE0 := Lib.hid hE0
  clear hN0 hE0
  obtain ⟨i0, hi, hz0, hz1, hz2⟩ := info_parts strInfo
  go_enter Tryz.func19, Tryz.ntmps19
  go_wp2_with fail
  refine (HMI.out _).mono ?_
  rintro _ w1 ⟨rfl, hg1⟩
  go_wp2_with fail
  refine (HSZ.out _).mono ?_
  rintro _ _ ⟨rfl, rfl⟩
  have hM := Blk.new w1 27 #[.int .i64 N0, .int .i64 E0]
  have hG := gr_alloc hg1 (.cells #[.int .i64 N0, .int .i64 E0] 27)
  go_wp2_with fail
  generalize w1.alloc (.cells #[.int .i64 N0, .int .i64 E0] 27) = W at *
  generalize w1.heap.size = gm at *
  clear hg1
  have hszW := hG.size
  go_loopw [5, 6] (fun o i wr => ∃ (j : Nat) (z : Int), j ≤ 3 ∧ Hid (z = (j : Int) - 1) ∧ -1 ≤ z ∧ z ≤ 2 ∧ i = .int .i64 z ∧ Hid (StrsFrom W.heap.size wr o ((besTo n e hg wd (3 * j)).map fun p => strOfNums (locL p.1 p.2 m))) ∧ W.grownBy wr none) (fun _ i _ => (2 - intOf i).toNat)
  case atStart => exact ⟨0, -1, by omega, (show (-1 : Int) = ((0 : Nat) : Int) - 1 by omega), by omega, by omega, rfl, StrsFrom.nil _ _, gr_refl _ _⟩
  case round =>
    obtain ⟨j, z, hj, HZ, hz0', hz1', rfl, HOW, hgr⟩ := hrel
    by_cases hlt : j < 3
    · have hzl : z ≤ 1 := by have := HZ.out; omega
      obtain ⟨q1, q2, hy2⟩ := HST.out j hlt z HZ.out
      have hbs := stepI_cases wd j
      have hbh := stepI_cases hg j
      have hin := HIN.out _ hbh
      obtain ⟨D, hD⟩ : ∃ D, stepI hg j = D := ⟨_, rfl⟩
      obtain ⟨Y, hY⟩ : ∃ Y, stepI wd j = Y := ⟨_, rfl⟩
      rw [hY] at q1 q2 hy2 hbs
      rw [hD] at q2 hy2 hbh hin
      have HD := Lib.hid hD
      have q3 : IntKind.i64.wrap (N0 + D) = N0 + D := i64_in _ ⟨by omega, by omega⟩
      have hnz : (z != 0) = !decide (j = 1) := by
        have := HZ.out
        by_cases h1 : j = 1
        · rw [decide_eq_true h1, show z = 0 by omega]; rfl
        · rw [decide_eq_false h1]; simp; omega
      clear hD hY hbs hy2
      have HHIN := Lib.hid hin
      clear hin
      go_wp2_with fail
      rename World => wo
      go_loopw [5, 7] (fun o i wr => ∃ (q : Nat) (z2 : Int), q ≤ 3 ∧ Hid (z2 = (q : Int) - 1) ∧ -1 ≤ z2 ∧ z2 ≤ 2 ∧ i = .int .i64 z2 ∧ Hid (StrsFrom W.heap.size wr o ((besTo n e hg wd (3 * j + q)).map fun p => strOfNums (locL p.1 p.2 m))) ∧ W.grownBy wr none) (fun _ i _ => (2 - intOf i).toNat)
      case atStart => exact ⟨0, -1, by omega, (show (-1 : Int) = ((0 : Nat) : Int) - 1 by omega), by omega, by omega, rfl, HOW, hgr⟩
      case round =>
        obtain ⟨q, z2, hq, HZ2, hz20, hz21, rfl, HOW2, hgr2⟩ := hrel
        by_cases hlq : q < 3
        · have hzl2 : z2 ≤ 1 := by have := HZ2.out; omega
          obtain ⟨r1, -⟩ := HST.out q hlq z2 HZ2.out
          have hbs := stepI_cases wd q
          have har := HAR.out _ hbs
          have HBP := Lib.hid (fun b hb => besB_parts (n := n) (h := hg) (wd := wd) (by omega) (by omega) hlt hlq (b := b) hb)
          have HPP := Lib.hid (besP_at (n := n) (e := e) (h := hg) (wd := wd) (j := j) hlq)
          obtain ⟨F, hF⟩ : ∃ F, stepI wd q = F := ⟨_, rfl⟩
          rw [hF] at r1 hbs har HPP
          rw [HD.out] at HBP HPP
          clear hF
          have r2 : IntKind.i64.wrap (E0 + F) = E0 + F := i64_in _ ⟨by omega, by omega⟩
          have HA := Lib.hid (fun W => aroundR_any (E0 + F) W (by omega) (by omega))
          rw [har] at HA
          have HBD := aroundI_bd (e + F)
          generalize aroundI (e + F) = PE at *
          have hnz2 : (z2 != 0) = !decide (q = 1) := by
            have := HZ2.out
            by_cases h1 : q = 1
            · rw [decide_eq_true h1, show z2 = 0 by omega]; rfl
            · rw [decide_eq_false h1]; simp; omega
          obtain ⟨PA, hPA⟩ : ∃ PA, PE + wd / 2 = PA := ⟨_, rfl⟩
          rw [hPA] at HA
          obtain ⟨PN, hPN⟩ : ∃ PN, N0 + D = PN := ⟨_, rfl⟩
          obtain ⟨b, hb⟩ : ∃ b, outB (n + D) (-324000) 323999 = b := ⟨_, rfl⟩
          have HHB : Hid (outB (N0 + D) (-324000) 324000 = b) := by show _ = _; rw [HHIN.out, hb]
          have hbes := HBP.out b hb
          obtain ⟨c0, c1⟩ := (hM.grown hgr2 (by simp)).cells2
          have hfew := besTo_few n e hg wd (3 * j + q)
          obtain ⟨A2, c2, rfl, hlen2, hsh⟩ := HOW2.out.shape
          rw [List.length_map] at hlen2
          have HLEN : Hid (((besTo n e hg wd (3 * j + q)).map fun p => strOfNums (locL p.1 p.2 m)).length = (besTo n e hg wd (3 * j + q)).length) := List.length_map _
          clear hsh har
          rw [hPN] at q3 HHB
          have hwz : IntKind.i64.wrap (z2 + 1) = z2 + 1 := i64_in _ ⟨by omega, by omega⟩
          have HZ3 : Hid (z2 + 1 = ((q + 1 : Nat) : Int) - 1) := by show _ = _; have := HZ2.out; omega
          have HPN := Lib.hid hPN
          have HPA := Lib.hid hPA
          clear hPA
          have hway : (besB n hg (3 * j + q) = false ∧ (b = true ∨ (b = false ∧ (z != 0) = false ∧ (z2 != 0) = false))) ∨ (besB n hg (3 * j + q) = true ∧ b = false ∧ ((z != 0) = true ∨ ((z != 0) = false ∧ (z2 != 0) = true))) := by
            rw [hbes, hnz, hnz2]
            cases b <;> cases decide (j = 1) <;> cases decide (q = 1) <;> simp
          have hszr := hgr2.size
          rcases hway with ⟨hB, hskip⟩ | ⟨hB, rfl, htake⟩
          · have HK : Hid (((besTo n e hg wd (3 * j + (q + 1))).map fun p => strOfNums (locL p.1 p.2 m)) = (besTo n e hg wd (3 * j + q)).map fun p => strOfNums (locL p.1 p.2 m)) := by
              show ((besTo n e hg wd (3 * j + q + 1)).map fun p => strOfNums (locL p.1 p.2 m)) = _
              rw [besTo, if_neg (by rw [hB]; decide)]
            generalize (besTo n e hg wd (3 * j + q)).map (fun p => strOfNums (locL p.1 p.2 m)) = X at *
            clear hB hbes hnz hnz2 hlen2 hfew HLEN
            rcases hskip with rfl | ⟨rfl, hnz, hnz2⟩
            all_goals
              go_wp2_with fail
              go_region_held3 (fun W' => W'.cell? ⟨gm, 0, none⟩ = some (.int .i64 N0) ∧ W'.cell? ⟨gm, 1, none⟩ = some (.int .i64 E0)) (go_keep) (first | (go_at_call 46; refine (HA.out _).mono ?_; rintro _ wA ⟨rfl, rfl⟩) | fail)
              all_goals
                go_wp2_with fail
                refine (in_any _ _ _ _).mono ?_
                rintro _ _ ⟨rfl, rfl⟩
                rw [HHB.out]
                go_wp2_with fail
                go_roundw
                case rel => exact ⟨q + 1, z2 + 1, by omega, HZ3, by omega, by omega, by first | rfl | go_num, (by show StrsFrom _ _ _ _; rw [HK.out]; exact HOW2.out.grown (by repeat (first | exact gr_refl _ _ | assumption | refine gr_alloc ?_ _ | refine gr_drewN ?_ _ | refine gr_drew ?_))), gr_trans hgr2 (by repeat (first | exact gr_refl _ _ | assumption | refine gr_alloc ?_ _ | refine gr_drewN ?_ _ | refine gr_drew ?_))⟩
                case measure => simp [intOf]; omega
          · have HLN := HLI.out _ hB
            have HPX := HPP.out
            rw [HPX] at HLN
            obtain ⟨m1, m2, m3⟩ := HMID.out _ HLN
            simp only at m1 m2 m3
            have n1 := HLN.1
            simp only at n1
            rw [show n + D + hg / 2 = PN by have := HPN.out; have := HN0.out; omega] at m1 m3
            rw [HPA.out] at m2 m3
            have e1 : -648000 ≤ PA := by have := HPA.out; omega
            have e2 : -324000 ≤ PN := by have := HPN.out; have := HN0.out; omega
            have HLK := Lib.hid (fun W => HLF.out PN PA W e2 m1 e1 m2)
            rw [m3] at HLK
            have HK : Hid (((besTo n e hg wd (3 * j + (q + 1))).map fun p => strOfNums (locL p.1 p.2 m)) = ((besTo n e hg wd (3 * j + q)).map fun p => strOfNums (locL p.1 p.2 m)) ++ [strOfNums (locL (n + D) PE m)]) := by
              show ((besTo n e hg wd (3 * j + q + 1)).map fun p => strOfNums (locL p.1 p.2 m)) = _
              rw [besTo, if_pos hB, HPX, List.map_append]
              rfl
            obtain ⟨SN, hSN⟩ : ∃ SN, strOfNums (locL (n + D) PE m) = SN := ⟨_, rfl⟩
            rw [hSN] at HLK HK
            have hlx : ((besTo n e hg wd (3 * j + q)).map fun p => strOfNums (locL p.1 p.2 m)).length ≤ 9 := by rw [List.length_map]; omega
            generalize (besTo n e hg wd (3 * j + q)).map (fun p => strOfNums (locL p.1 p.2 m)) = X at *
            clear hB hbes hnz hnz2 m3 HLN HPX hSN n1 hlen2 hfew HLEN
            rcases htake with hnz | ⟨hnz, hnz2⟩
            all_goals
              go_wp2_with fail
              go_region_held3 (fun W' => W'.cell? ⟨gm, 0, none⟩ = some (.int .i64 N0) ∧ W'.cell? ⟨gm, 1, none⟩ = some (.int .i64 E0)) (go_keep) (first | (go_at_call 46; refine (HA.out _).mono ?_; rintro _ wA ⟨rfl, rfl⟩) | fail)
              all_goals
                go_wp2_with fail
                refine (in_any _ _ _ _).mono ?_
                rintro _ _ ⟨rfl, rfl⟩
                rw [HHB.out]
                have hG6 : W.grownBy (wr.alloc (.cells #[.int .i64 PN, .int .i64 PA] 27)).drew none := gr_trans hgr2 (by repeat (first | exact gr_refl _ _ | assumption | refine gr_alloc ?_ _ | refine gr_drewN ?_ _ | refine gr_drew ?_))
                have hown6 : StrsFrom W.heap.size (wr.alloc (.cells #[.int .i64 PN, .int .i64 PA] 27)).drew _ X := HOW2.out.grown (by repeat (first | exact gr_refl _ _ | assumption | refine gr_alloc ?_ _ | refine gr_drewN ?_ _ | refine gr_drew ?_))
                obtain ⟨p0, p1⟩ := ((Blk.new wr 27 #[.int .i64 PN, .int .i64 PA]).drew).cells2
                generalize (wr.alloc (.cells #[.int .i64 PN, .int .i64 PA] 27)).drew = W6 at *
                have hsz6 := hG6.size
                go_wp2_with fail
                refine (HLK.out _).mono ?_
                rintro _ w7 ⟨rfl, hg7⟩
                have hG7 := gr_trans hG6 hg7
                have hsz7 := hG7.size
                have hownA : w7.ownsRow W.heap.size 9 1 (.slice A2 X.length c2) X.length (X.map Value.string) := hown6.grown hg7
                go_wp2_with (at_builtin; refine wpList_append_own _ rfl _ _ 31 rfl W.heap.size 9 i0 _ 1 16 Tryz.underlying31 hi hz0 hz1 hz2 rfl (by decide) _ _ _ rfl (hownA.alloc _) ⟨w7.heap.size, 0, none⟩ 1 1 [.string SN] rfl rfl (cells_new _ _ _) (str_one _) (by unfold maxLen; omega) (by omega) (by simp; omega) ?_; intro v' w8 hownB hgrB _)
                have hG8 : W.grownBy w8 none := gr_grown (gr_alloc hG7 _) hgrB (fun kk h => .inr (hownA.lt kk h).1)
                have hown8 : Hid (StrsFrom W.heap.size w8 v' ((besTo n e hg wd (3 * j + (q + 1))).map fun p => strOfNums (locL p.1 p.2 m))) := by
                  show StrsFrom _ _ _ _
                  unfold StrsFrom
                  rw [HK.out, List.map_append, List.length_append]
                  exact hownB
                go_wp2_with fail
                go_roundw
                case rel => exact ⟨q + 1, z2 + 1, by omega, HZ3, by omega, by omega, by first | rfl | go_num, hown8, hG8⟩
                case measure => simp [intOf]; omega
        · have hzl2 : ¬ z2 ≤ 1 := by have := HZ2.out; omega
          obtain rfl : q = 3 := by omega
          have hwz : IntKind.i64.wrap (z + 1) = z + 1 := i64_in _ ⟨by omega, by omega⟩
          have HZ3 : Hid (z + 1 = ((j + 1 : Nat) : Int) - 1) := by show _ = _; have := HZ.out; omega
          go_wp2_with fail
          go_roundw
          case rel => exact ⟨j + 1, z + 1, by omega, HZ3, by omega, by omega, by first | rfl | go_num, (by show StrsFrom _ _ _ _; rw [show 3 * (j + 1) = 3 * j + 3 by omega]; exact HOW2.out), hgr2⟩
          case measure => simp [intOf]; omega
    · have hzl : ¬ z ≤ 1 := by have := HZ.out; omega
      obtain rfl : j = 3 := by omega
      have hfew := besTo_few n e hg wd 9
      obtain ⟨l, hl⟩ : ∃ l : List (LowS m), l.map (·.1) = besTo n e hg wd 9 := ⟨(besTo n e hg wd 9).attach.map fun p => ⟨p.1, HALL.out p.1 p.2⟩, by
        simp only [List.map_map, Function.comp_def]
        exact List.attach_map_subtype_val _⟩
      have hmap : (besTo n e hg wd 9).map (fun p => strOfNums (locL p.1 p.2 m)) = l.map (encL m) := by
        rw [← hl, List.map_map]
        rfl
      have hlen : l.length ≤ 9 := by
        have : (l.map (·.1)).length = l.length := by simp
        rw [hl] at this
        omega
      have hown := HOW.out
      rw [show 3 * 3 = 9 by rfl, hmap] at hown
      have HPL : Hid (l.map (·.1) = besTo n e hg wd 9) := hl
      clear HOW hmap hl
      obtain ⟨A2, c2, rfl, hlen2, hsh⟩ := hown.shape
      rw [List.length_map] at hown hsh hlen2
      have HOW := Lib.hid hown
      have HSH := Lib.hid hsh
      rw [List.length_map]
      obtain ⟨N, hN⟩ : ∃ N, l.length = N := ⟨_, rfl⟩
      have hN0 : 0 < N := by
        have h1 : (l.map (·.1)).length = N := by rw [List.length_map, hN]
        rw [HPL.out] at h1
        rcases besTo_len n e hg wd (by omega) hl1.1 hl1.2 (by omega) with h2 | h2 <;> omega
      obtain ⟨g, rfl, hgb, hgl⟩ := hsh (by omega)
      have HSRT := Lib.hid (sortStrs_own m W.heap.size h0 h3 g c2 l wr hown (by omega))
      rw [hN] at HSRT ⊢
      clear hown hsh hgl
      have hszr := hgr.size
      go_wp2_with fail
      refine HSRT.out.mono ?_
      rintro _ w6 ⟨rfl, l2, hperm, hsort, hown6, hg6⟩
      have HRES : Hid (∃ L : List (Int × Int), L.Perm (besTo n e hg wd 9) ∧ L.Pairwise leS ∧ StrsFrom w.heap.size w6 (.slice (some ⟨g, 0, none⟩) N c2) (L.map fun p => strOfNums (locL p.1 p.2 m))) := by
        refine ⟨l2.map (·.1), ?_, hsort, ?_⟩
        · rw [← HPL.out]
          exact hperm.map _
        · rw [List.map_map]
          exact hown6.low (by omega)
      have hG6 : w.grownBy w6 none := gr_trans hG (gr_grown hgr hg6 (fun kk h => .inr (by injection h with h; omega)))
      clear hperm hsort hown6 hg6
      go_wp2_with fail
      go_ret
      obtain ⟨L, l1, l2, l3⟩ := HRES.out
      exact ⟨_, L, rfl, l1, l2, l3, hG6⟩
end Go.Proofs.YtbaocnbppefciaaGreat
