/- The law LocatorsHoldTheirSites: the walk over it. Condition: asciiSpace is Go's own table, MaxLen holds a number. -/
import Derived.Test.YtngdjeggigkmlaaDoorLoc4
import Derived.Test.YtngdjeggigkmlaaDoorRightSite
import Derived.Test.YtngdjeggigkmlaaDoorReady
import Derived.Test.YtngdjeggigkmlaaDoorStart
namespace Go.Proofs.YtngdjeggigkmlaaDoor
open Go.RowKit
set_option linter.unusedVariables false
set_option linter.unusedSimpArgs false

theorem locL_len (n e : Int) (m : Nat) : (strOfNums (locL n e m)).size = 2 * m := by rw [strOfNums_size]; exact locFrom_len _ _ _ _
theorem loc_within (n e : Int) (m : Nat) : (strOfNums (locL n e (m + 1))).extract 0 (strOfNums (locL n e m)).size = strOfNums (locL n e m) := by
  rw [locL_len]
  apply ByteArray.ext
  apply Array.toList_inj.1
  rw [Lib.extract_data]
  simp only [List.drop_zero, Nat.sub_zero]
  rw [strOfNums_data, strOfNums_data, ← List.map_take, locL_take]
/-- What a round of the law asks of a site and the signs of so many levels. -/
theorem loc_round {n e : Int} (h : siteE n e = 0) (m : Nat) (hm0 : 0 < m) (hm : m ≤ 3) :
    ∃ ln le hg wd : Int, lowNo (sgn (locL n e m)) m = ln ∧ lowEa (sgn (locL n e m)) m = le ∧ lvHigh (m - 1) = hg ∧ lvWide (m - 1) = wd ∧
      ¬ n < ln ∧ ¬ e < le ∧ ¬ le + wd ≤ e ∧ ((n = 324000 ∧ ln + hg = 324000) ∨ (¬ n = 324000 ∧ ¬ ln + hg ≤ n)) ∧
      siteE (ln + hg / 2) (le + wd / 2) = 0 ∧ locL (ln + hg / 2) (le + wd / 2) m = locL n e m := by
  obtain ⟨a0, a1, b0, b1⟩ := siteE_rng h
  obtain ⟨hok, h1, h2, h3, h4⟩ := locL_sgn n e m hm a0 a1 b0 b1 hm0
  have hb := low_bd _ m hm hok m (Nat.le_refl _)
  have hb2 := hb.2.2 hm0
  obtain ⟨-, -, -, -, w0, w1, g0, g1, -⟩ := lv_bd (m - 1) (by omega)
  have hsame := locL_same n e (lowNo (sgn (locL n e m)) m + lvHigh (m - 1) / 2) (lowEa (sgn (locL n e m)) m + lvWide (m - 1) / 2) m hm a0 a1 b0 b1 hm0 (by omega) (by omega) (by omega) (by omega)
  refine ⟨_, _, _, _, rfl, rfl, rfl, rfl, by omega, by omega, by omega, by omega, ?_, hsame⟩
  unfold siteE
  rw [outB_no (by omega) (by omega), outB_no (by omega) (by omega)]
  rfl
theorem str_some {s : ByteArray} (h : 0 < s.size) : s.toList.isEmpty = false := by
  rw [Lib.toList_data]
  cases hd : s.data.toList with
  | nil =>
    have h2 : s.size = s.data.toList.length := by rw [Lib.size_eq]
    rw [hd] at h2
    exact absurd h2 (by show ¬ s.size = 0; omega)
  | cons a r => rfl
theorem bytesZ {w : World} {g : Nat} (h : Blk w g 3 #[.int .i64 2, .int .i64 4, .int .i64 6]) (i : Nat) (hi : i < 3) : w.cell? ⟨g, i, none⟩ = some (.int .i64 (2 * (i + 1) : Nat)) := by
  rw [h.cell]
  rcases (by omega : i = 0 ∨ i = 1 ∨ i = 2) with rfl | rfl | rfl <;> rfl

set_option maxRecDepth 100000 in
set_option maxHeartbeats 8000000 in
theorem locUpLaw (A : Option Addr) (n c : Nat) (w : World) (hin : In w A n) (hgl : Gl w.heap.size w) :
    Calls Tryd.prog 5 #[.slice A n c] w fun r w' => r = .returned (.bool true) ∧ Below w.heap.size w w' := by
  have hs0 := Str.start (c := c) hin
  have HGL := Lib.hid hgl
  clear hin hgl
  go_enter Tryd.func5, Tryd.ntmps5
  go_wp2_with fail
  have hG0 := World.grownBy_alloc w (.cells #[.slice A n c, .int .i64 0] 25) none
  have hlt0 := hs0.lt
  generalize w.alloc (.cells #[.slice A n c, .int .i64 0] 25) = W0 at *
  generalize hb : w.heap.size = b at *
  have HB := Lib.hid hb
  clear hb
  refine (rightSite_in b 0 _ hs0 (by decide)).mono ?_
  rintro _ w1 ⟨n1, e1, rfl, hE1, hs1, hg1⟩
  have hG1 : w.grownBy w1 none := gr_grown hG0 hg1 (fun g e => by injection e with e; exact .inr (by have := HB.out; omega))
  clear hs0 hG0 hg1 hlt0 hs1
  have HE1 := Lib.hid hE1
  clear hE1
  go_wp2_with fail
  have hx := (Blk.new w1 27 #[.int .i64 n1, .int .i64 e1]).alloc (.cells #[.int .i64 2, .int .i64 4, .int .i64 6] 3)
  have hz := Blk.new (w1.alloc (.cells #[.int .i64 n1, .int .i64 e1] 27)) 3 #[.int .i64 2, .int .i64 4, .int .i64 6]
  rw [World.size_alloc] at hz
  replace hG1 := gr_alloc (gr_alloc hG1 (.cells #[.int .i64 n1, .int .i64 e1] 27)) (.cells #[.int .i64 2, .int .i64 4, .int .i64 6] 3)
  generalize (w1.alloc (.cells #[.int .i64 n1, .int .i64 e1] 27)).alloc (.cells #[.int .i64 2, .int .i64 4, .int .i64 6] 3) = W at *
  generalize w1.heap.size = X at *
  go_loopw [5, 26] (fun l i wr => ∃ k : Nat, k ≤ 3 ∧ i = .int .i64 k ∧ l = .string (strOfNums (locL n1 e1 k)) ∧ W.grownBy wr none) (fun _ i _ => 3 - (intOf i).toNat)
  case atStart => exact ⟨0, by omega, rfl, rfl, gr_refl _ _⟩
  case round =>
    obtain ⟨k, hk, rfl, rfl, hgr⟩ := hrel
    have hxr := hx.grown hgr (by simp)
    have hGr := gr_trans hG1 hgr
    by_cases hlt : k < 3
    · have hkl : (k : Int) < 3 := by omega
      have hzk := bytesZ (hz.grown hgr (by simp)) k hlt
      obtain ⟨m, hm⟩ : ∃ m, k + 1 = m := ⟨_, rfl⟩
      have HM := Lib.hid hm
      rw [hm] at hzk
      obtain ⟨ln, le, hg, wd, q1, q2, q3, q4, p1, p2, p3, p4, p5, p6⟩ := loc_round HE1.out m (by omega) (by omega)
      have hS := locS_of n1 e1 m HE1.out (by omega) (by omega)
      have HAR := Lib.hid (fun W' => areaOf_ok _ _ m W' hS)
      have HMI := Lib.hid (fun W' => middleS_ok _ _ m W' hS)
      rw [q1, q2, q3, q4] at HAR
      rw [q1, q2, q3, q4] at HMI
      have HLO := Lib.hid (fun W' => locatorE_ok n1 e1 m W' (by omega) (by omega) HE1.out)
      have HLM := Lib.hid (fun W' => locatorE_ok (ln + hg / 2) (le + wd / 2) m W' (by omega) (by omega) p5)
      rw [p6] at HLM
      have HWI : Hid (0 < k → ∀ W', Calls Tryd.prog 17 #[.string (strOfNums (locL n1 e1 m)), .string (strOfNums (locL n1 e1 k))] W' fun r w' => r = .returned (.tuple #[.bool true, .int .i64 0]) ∧ W'.grownBy w' none) := fun h0 W' => by
        subst hm
        exact within_ok _ _ _ _ (k + 1) k W' (locS_of n1 e1 (k + 1) HE1.out (by omega) (by omega)) (locS_of n1 e1 k HE1.out h0 (by omega)) (by rw [locL_len, locL_len]; omega) (loc_within n1 e1 k)
      have hsz := locL_len n1 e1 m
      have hlast : (k = 0 ∧ strOfNums (locL n1 e1 k) = ⟨#[]⟩) ∨ (0 < k ∧ (strOfNums (locL n1 e1 k)).toList.isEmpty = false) := by
        rcases Nat.eq_zero_or_pos k with rfl | h0
        · exact .inl ⟨rfl, rfl⟩
        · exact .inr ⟨h0, str_some (by rw [locL_len]; omega)⟩
      generalize hT : strOfNums (locL n1 e1 m) = t at *
      have HT := Lib.hid hT
      clear hT
      generalize strOfNums (locL n1 e1 k) = last at *
      have hm2 : ((t.size : Int) != ((2 * m : Nat) : Int)) = false := by rw [hsz]; simp
      clear q1 q2 q3 q4 p5 p6 hS hm hsz
      obtain ⟨x0, x1⟩ := hxr.cells2
      obtain ⟨M2, hM2⟩ : ∃ M2 : Nat, 2 * m = M2 := ⟨_, rfl⟩
      rw [hM2] at hzk HLO HLM hm2
      clear hM2
      go_wp2_with fail
      refine (HLO.out _).mono ?_
      rintro _ w2 ⟨rfl, hg2⟩
      replace hxr := hxr.grown hg2 (by simp)
      replace hgr := gr_trans hgr hg2
      clear hg2
      go_wp2_with fail
      refine (HAR.out _).mono ?_
      rintro _ w3 ⟨rfl, hg3⟩
      replace hxr := hxr.grown hg3 (by simp)
      replace hgr := gr_trans hgr hg3
      have hA := Blk.new w3 42 #[.int .i64 ln, .int .i64 le, .int .i64 (ln + hg), .int .i64 (le + wd)]
      replace hxr := hxr.alloc (.cells #[.int .i64 ln, .int .i64 le, .int .i64 (ln + hg), .int .i64 (le + wd)] 42)
      replace hgr := gr_alloc hgr (.cells #[.int .i64 ln, .int .i64 le, .int .i64 (ln + hg), .int .i64 (le + wd)] 42)
      clear hg3 x0 x1
      go_wp2_with fail
      generalize w3.alloc (.cells #[.int .i64 ln, .int .i64 le, .int .i64 (ln + hg), .int .i64 (le + wd)] 42) = W3 at *
      generalize w3.heap.size = Y at *
      refine (HMI.out _).mono ?_
      rintro _ w4 ⟨rfl, hg4⟩
      replace hxr := hxr.grown hg4 (by simp)
      replace hA := hA.grown hg4 (by simp)
      replace hgr := gr_trans hgr hg4
      clear hg4
      go_wp2_with fail
      refine (HLM.out _).mono ?_
      rintro _ w5 ⟨rfl, hg5⟩
      replace hxr := hxr.grown (gr_trans (World.grownBy_alloc w4 _ none) hg5) (by simp)
      replace hA := hA.grown (gr_trans (World.grownBy_alloc w4 _ none) hg5) (by simp)
      replace hgr := gr_trans hgr (gr_trans (World.grownBy_alloc w4 _ none) hg5)
      clear hg5
      obtain ⟨x0, x1⟩ := hxr.cells2
      obtain ⟨a0, a1, a2, a3⟩ := hA.cells4
      have hp4 : ((n1 == 324000) = true ∧ (ln + hg == 324000) = true ∧ ln + hg ≤ n1) ∨ ((n1 == 324000) = false ∧ ¬ ln + hg ≤ n1) := by
        rcases p4 with ⟨r1, r2⟩ | ⟨r1, r2⟩
        · exact .inl ⟨by simpa using r1, by simpa using r2, by omega⟩
        · exact .inr ⟨by simpa using r1, by omega⟩
      clear p4
      rcases hp4 with ⟨r1, r2, r3⟩ | ⟨r1, r3⟩
      all_goals
        rcases hlast with ⟨rfl, hl⟩ | ⟨h0, hl⟩
        · go_wp2_with fail
          go_roundw
          case rel => exact ⟨m, by have := HM.out; omega, by have h1 := HM.out; first | (congr 1; omega) | (show Value.int .i64 _ = Value.int .i64 _; congr 1; omega), by rw [HT.out], hgr⟩
          case measure => first | (simp [intOf]; done) | (simp [intOf]; omega)
        · go_wp2_with fail
          refine (HWI.out h0 _).mono ?_
          rintro _ w6 ⟨rfl, hg6⟩
          have hgr6 := gr_trans hgr hg6
          go_wp2_with fail
          go_roundw
          case rel => exact ⟨m, by have := HM.out; omega, by have h1 := HM.out; congr 1; omega, by rw [HT.out], hgr6⟩
          case measure => first | (simp [intOf]; done) | (simp [intOf]; omega)
    · obtain rfl : k = 3 := by omega
      go_wp2_with fail
      refine (ready_any b _ (HGL.out.quiet hGr)).mono ?_
      rintro _ w7 ⟨rfl, hg⟩
      go_wp2_with fail
      go_ret
      exact ⟨rfl, gr_below (gr_trans hGr hg)⟩
end Go.Proofs.YtngdjeggigkmlaaDoor
