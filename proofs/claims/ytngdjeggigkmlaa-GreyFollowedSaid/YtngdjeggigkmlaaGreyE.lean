/- The walks over GreyTimes and BothGrey with their errors. No condition. -/
import Derived.Test.YtngdjeggigkmlaaLightWalk
namespace Go.Proofs.Ytngdjeggigkmlaa
open Go.RowKit
set_option linter.unusedVariables false

def gtE (n e a to every v : Int) : Int := if saE n e a to every = 0 then spanE v 0 200000 else saE n e a to every
def bothE (n e n2 d2 : Int) : Int := if siteE n e = 0 then siteE n2 d2 else siteE n e
def sbE (n e n2 d2 a to every : Int) : Int := if bothE n e n2 d2 = 0 then askE a to every else bothE n e n2 d2
def bgE (n e n2 d2 a to every v : Int) : Int := if sbE n e n2 d2 a to every = 0 then spanE v 0 200000 else sbE n e n2 d2 a to every
def okL (e : Int) (l : List (Int × Int)) : List (Int × Int) := if e = 0 then l else []

theorem siteE_01 (n e : Int) : siteE n e = 0 ∨ siteE n e = 1 := by rcases siteE_cases n e with h | h; exact .inl h.1; exact .inr h
theorem siteE_rng {n e : Int} (h : siteE n e = 0) : -324000 ≤ n ∧ n ≤ 324000 ∧ -648000 ≤ e ∧ e ≤ 647999 := by
  rcases siteE_cases n e with ⟨_, h1⟩ | h1
  · exact h1
  · omega

set_option maxHeartbeats 400000 in
theorem checkBoth_any (n e n2 d2 : Int) (w : World) :
    Calls Try.prog 60 #[.agg #[.int .i64 n, .int .i64 e], .agg #[.int .i64 n2, .int .i64 d2]] w fun r w' => r = .returned (.int .i64 (bothE n e n2 d2)) ∧ w.grownBy w' none := by
  have hG := gr_alloc (World.grownBy_alloc w (.cells #[.int .i64 n, .int .i64 e] 27) none) (.cells #[.int .i64 n2, .int .i64 d2] 27)
  rcases siteE_01 n e with hs | hs
  · have HE : Hid (bothE n e n2 d2 = siteE n2 d2) := by show _ = _; unfold bothE; rw [if_pos hs]
    go_enter Try.func60, Try.ntmps60
    go_wp2_with fail
    refine (checkSite_any _ _ _).mono ?_
    rintro r w1 ⟨rfl, hg1⟩
    have hw1 := (Blk.new (w.alloc (.cells #[.int .i64 n, .int .i64 e] 27)) 27 #[.int .i64 n2, .int .i64 d2]).grown hg1 (by simp)
    rw [World.size_alloc] at hw1
    have c0 : w1.cell? ⟨w.heap.size + 1, 0, none⟩ = some (.int .i64 n2) := hw1.cell 0
    have c1 : w1.cell? ⟨w.heap.size + 1, 1, none⟩ = some (.int .i64 d2) := hw1.cell 1
    go_wp2_with fail
    refine (checkSite_any _ _ _).mono ?_
    rintro r w2 ⟨rfl, hg2⟩
    go_wp2_with fail
    go_ret
    exact ⟨ret_of HE.out.symm, gr_trans (gr_trans hG hg1) hg2⟩
  · have HE : Hid (bothE n e n2 d2 = 1) := by show _ = _; unfold bothE; rw [if_neg (by omega), hs]
    go_enter Try.func60, Try.ntmps60
    go_wp2_with fail
    refine (checkSite_any _ _ _).mono ?_
    rintro r w1 ⟨rfl, hg1⟩
    go_wp2_with fail
    go_ret
    exact ⟨ret_of HE.out.symm, gr_trans hG hg1⟩

theorem ret_vi {u : Value} {l : IntKind} {c d : Int} (h' : c = d) : Ending.returned (.tuple #[u, .int l c]) = .returned (.tuple #[u, .int l d]) := by rw [h']
theorem Wins.nil (w : World) : Wins w (.slice none 0 0) [] := World.ownsRow_nil _ _ _ _

set_option maxRecDepth 100000 in
set_option maxHeartbeats 2000000 in
theorem greyTimes_any (n e a to every v : Int) (w : World) :
    Calls Try.prog 21 #[.agg #[.int .i64 n, .int .i64 e], .agg #[.int .i64 a, .int .i64 to], .int .i64 every, .int .i64 v] w fun r w' =>
      ∃ u, r = .returned (.tuple #[u, .int .i64 (gtE n e a to every v)]) ∧ Wins w' u (okL (gtE n e a to every v) (winAll (grey1 n e v) a every to)) ∧ w.grownBy w' none := by
  have hG := gr_alloc (gr_alloc (World.grownBy_alloc w (.cells #[.int .i64 n, .int .i64 e] 27) none) (.cells #[.int .i64 a, .int .i64 to] 48)) (.cells #[.int .i64 v] 3)
  have hb0 := ((Blk.new w 27 #[.int .i64 n, .int .i64 e]).alloc (.cells #[.int .i64 a, .int .i64 to] 48)).alloc (.cells #[.int .i64 v] 3)
  have hw0 := (Blk.new (w.alloc (.cells #[.int .i64 n, .int .i64 e] 27)) 48 #[.int .i64 a, .int .i64 to]).alloc (.cells #[.int .i64 v] 3)
  have hv0 := Blk.new ((w.alloc (.cells #[.int .i64 n, .int .i64 e] 27)).alloc (.cells #[.int .i64 a, .int .i64 to] 48)) 3 #[.int .i64 v]
  rw [World.size_alloc] at hw0
  rw [World.size_alloc, World.size_alloc] at hv0
  rcases siteE_01 n e with hs | hs
  · have hbd := askE_bd a to every
    by_cases hq : askE a to every = 0
    · obtain ⟨ha, hat, hto, h0, h1⟩ := askE_rng hq
      have hsr := siteE_rng hs
      rcases spanE_cases v 0 200000 with ⟨hv, v0, v1⟩ | ⟨hv, v1⟩
      · have hbv : outB v 0 200000 = false := outB_no v0 v1
        have HE : Hid (gtE n e a to every v = 0) := by show _ = _; unfold gtE; rw [saE_ok hs, if_pos hq, hv]
        clear hv
        go_enter Try.func21, Try.ntmps21
        go_wp2_with fail
        refine (checkSite_any _ _ _).mono ?_
        rintro r w1 ⟨rfl, hg1⟩
        have hb1 := hb0.grown hg1 (by simp)
        have hw1 := hw0.grown hg1 (by simp)
        have hv1 := hv0.grown hg1 (by simp)
        have hG1 := gr_trans hG hg1
        clear hb0 hw0 hv0 hG hg1
        have c0 : w1.cell? ⟨w.heap.size + 1, 0, none⟩ = some (.int .i64 a) := hw1.cell 0
        have c1 : w1.cell? ⟨w.heap.size + 1, 1, none⟩ = some (.int .i64 to) := hw1.cell 1
        go_wp2_with fail
        refine (askedFault_any _ _ _ _).mono ?_
        rintro r w2 ⟨rfl, hg2⟩
        have hb2 := hb1.grown hg2 (by simp)
        have hw2 := hw1.grown hg2 (by simp)
        have hv2 := hv1.grown hg2 (by simp)
        have hG2 := gr_trans hG1 hg2
        clear hb1 hw1 hv1 hG1 hg2 c0 c1
        have c0 : w2.cell? ⟨w.heap.size + 1, 0, none⟩ = some (.int .i64 a) := hw2.cell 0
        have c1 : w2.cell? ⟨w.heap.size + 1, 1, none⟩ = some (.int .i64 to) := hw2.cell 1
        have c2 : w2.cell? ⟨w.heap.size + 1 + 1, 0, none⟩ = some (.int .i64 v) := hv2.cell 0
        go_wp2_with fail
        refine (outside_any _ _ _ _).mono ?_
        rintro r _ ⟨rfl, rfl⟩
        go_wp2_with fail
        refine (times1_any _ _ _ _ _ _ _ _ _ ⟨hb2, by omega, by omega, by omega, by omega⟩ ⟨hv2, by omega, by omega⟩ ha hat hto h0 h1).mono ?_
        rintro r w3 ⟨u, rfl, hown, hg3⟩
        go_wp2_with fail
        go_ret2
        exact ⟨u, ret_vi HE.out.symm, by rw [HE.out]; exact ownsRow_low hown (Nat.zero_le _), gr_trans hG2 hg3⟩
      · have hbv : outB v 0 200000 = true := outB_yes v1
        have HE : Hid (gtE n e a to every v = 1) := by show _ = _; unfold gtE; rw [saE_ok hs, if_pos hq, hv]
        clear hv
        go_enter Try.func21, Try.ntmps21
        go_wp2_with fail
        refine (checkSite_any _ _ _).mono ?_
        rintro r w1 ⟨rfl, hg1⟩
        have hw1 := hw0.grown hg1 (by simp)
        have hv1 := hv0.grown hg1 (by simp)
        have hG1 := gr_trans hG hg1
        clear hb0 hw0 hv0 hG hg1
        have c0 : w1.cell? ⟨w.heap.size + 1, 0, none⟩ = some (.int .i64 a) := hw1.cell 0
        have c1 : w1.cell? ⟨w.heap.size + 1, 1, none⟩ = some (.int .i64 to) := hw1.cell 1
        go_wp2_with fail
        refine (askedFault_any _ _ _ _).mono ?_
        rintro r w2 ⟨rfl, hg2⟩
        have hv2 := hv1.grown hg2 (by simp)
        have hG2 := gr_trans hG1 hg2
        clear hw1 hv1 hG1 hg2 c0 c1
        have c2 : w2.cell? ⟨w.heap.size + 1 + 1, 0, none⟩ = some (.int .i64 v) := hv2.cell 0
        go_wp2_with fail
        refine (outside_any _ _ _ _).mono ?_
        rintro r _ ⟨rfl, rfl⟩
        go_wp2_with fail
        go_ret2
        exact ⟨_, ret_vi HE.out.symm, by rw [HE.out]; exact Wins.nil _, hG2⟩
    · have hq1 : (askE a to every != 0) = true := by simpa using hq
      have HE : Hid (gtE n e a to every v = askE a to every) := by show _ = _; unfold gtE; rw [saE_ok hs, if_neg hq]
      go_enter Try.func21, Try.ntmps21
      go_wp2_with fail
      refine (checkSite_any _ _ _).mono ?_
      rintro r w1 ⟨rfl, hg1⟩
      have hw1 := hw0.grown hg1 (by simp)
      have hG1 := gr_trans hG hg1
      clear hb0 hw0 hv0 hG hg1
      have c0 : w1.cell? ⟨w.heap.size + 1, 0, none⟩ = some (.int .i64 a) := hw1.cell 0
      have c1 : w1.cell? ⟨w.heap.size + 1, 1, none⟩ = some (.int .i64 to) := hw1.cell 1
      go_wp2_with fail
      refine (askedFault_any _ _ _ _).mono ?_
      rintro r w2 ⟨rfl, hg2⟩
      go_wp2_with fail
      go_ret2
      exact ⟨_, ret_vi HE.out.symm, by rw [HE.out]; unfold okL; rw [if_neg hq]; exact Wins.nil _, gr_trans hG1 hg2⟩
  · have HE : Hid (gtE n e a to every v = 1) := by show _ = _; unfold gtE; rw [saE_bad hs]; rfl
    go_enter Try.func21, Try.ntmps21
    go_wp2_with fail
    refine (checkSite_any _ _ _).mono ?_
    rintro r w1 ⟨rfl, hg1⟩
    go_wp2_with fail
    go_ret2
    exact ⟨_, ret_vi HE.out.symm, by rw [HE.out]; exact Wins.nil _, gr_trans hG hg1⟩

theorem bothE_01 (n e n2 d2 : Int) : (bothE n e n2 d2 = 0 ∧ siteE n e = 0 ∧ siteE n2 d2 = 0) ∨ bothE n e n2 d2 = 1 := by
  unfold bothE
  rcases siteE_01 n e with h | h <;> rcases siteE_01 n2 d2 with h2 | h2 <;> simp [h, h2]

set_option maxRecDepth 100000 in
set_option maxHeartbeats 2000000 in
theorem bothGrey_any (n e n2 d2 a to every v : Int) (w : World) :
    Calls Try.prog 22 #[.agg #[.int .i64 n, .int .i64 e], .agg #[.int .i64 n2, .int .i64 d2], .agg #[.int .i64 a, .int .i64 to], .int .i64 every, .int .i64 v] w fun r w' =>
      ∃ u, r = .returned (.tuple #[u, .int .i64 (bgE n e n2 d2 a to every v)]) ∧ Wins w' u (okL (bgE n e n2 d2 a to every v) (winAll (grey2 n e n2 d2 v) a every to)) ∧ w.grownBy w' none := by
  have hG := gr_alloc (gr_alloc (gr_alloc (World.grownBy_alloc w (.cells #[.int .i64 n, .int .i64 e] 27) none) (.cells #[.int .i64 n2, .int .i64 d2] 27)) (.cells #[.int .i64 a, .int .i64 to] 48)) (.cells #[.int .i64 v] 3)
  have hb0 := (((Blk.new w 27 #[.int .i64 n, .int .i64 e]).alloc (.cells #[.int .i64 n2, .int .i64 d2] 27)).alloc (.cells #[.int .i64 a, .int .i64 to] 48)).alloc (.cells #[.int .i64 v] 3)
  have hd0 := ((Blk.new (w.alloc (.cells #[.int .i64 n, .int .i64 e] 27)) 27 #[.int .i64 n2, .int .i64 d2]).alloc (.cells #[.int .i64 a, .int .i64 to] 48)).alloc (.cells #[.int .i64 v] 3)
  have hw0 := (Blk.new ((w.alloc (.cells #[.int .i64 n, .int .i64 e] 27)).alloc (.cells #[.int .i64 n2, .int .i64 d2] 27)) 48 #[.int .i64 a, .int .i64 to]).alloc (.cells #[.int .i64 v] 3)
  have hv0 := Blk.new (((w.alloc (.cells #[.int .i64 n, .int .i64 e] 27)).alloc (.cells #[.int .i64 n2, .int .i64 d2] 27)).alloc (.cells #[.int .i64 a, .int .i64 to] 48)) 3 #[.int .i64 v]
  rw [World.size_alloc] at hd0
  rw [World.size_alloc, World.size_alloc] at hw0
  rw [World.size_alloc, World.size_alloc, World.size_alloc] at hv0
  rcases bothE_01 n e n2 d2 with ⟨hs, hs1, hs2⟩ | hs
  · have hbd := askE_bd a to every
    by_cases hq : askE a to every = 0
    · obtain ⟨ha, hat, hto, h0, h1⟩ := askE_rng hq
      have hsr := siteE_rng hs1
      have hsq := siteE_rng hs2
      rcases spanE_cases v 0 200000 with ⟨hv, v0, v1⟩ | ⟨hv, v1⟩
      · have hbv : outB v 0 200000 = false := outB_no v0 v1
        have HE : Hid (bgE n e n2 d2 a to every v = 0) := by show _ = _; unfold bgE sbE; rw [if_pos hs, if_pos hq, hv]
        clear hv
        go_enter Try.func22, Try.ntmps22
        go_wp2_with fail
        refine (checkBoth_any _ _ _ _ _).mono ?_
        rintro r w1 ⟨rfl, hg1⟩
        have hb1 := hb0.grown hg1 (by simp)
        have hd1 := hd0.grown hg1 (by simp)
        have hw1 := hw0.grown hg1 (by simp)
        have hv1' := hv0.grown hg1 (by simp)
        have hG1 := gr_trans hG hg1
        clear hb0 hd0 hw0 hv0 hG hg1
        have c0 : w1.cell? ⟨w.heap.size + 1 + 1, 0, none⟩ = some (.int .i64 a) := hw1.cell 0
        have c1 : w1.cell? ⟨w.heap.size + 1 + 1, 1, none⟩ = some (.int .i64 to) := hw1.cell 1
        go_wp2_with fail
        refine (askedFault_any _ _ _ _).mono ?_
        rintro r w2 ⟨rfl, hg2⟩
        have hb2 := hb1.grown hg2 (by simp)
        have hd2 := hd1.grown hg2 (by simp)
        have hw2 := hw1.grown hg2 (by simp)
        have hv2 := hv1'.grown hg2 (by simp)
        have hG2 := gr_trans hG1 hg2
        clear hb1 hd1 hw1 hv1' hG1 hg2 c0 c1
        have c0 : w2.cell? ⟨w.heap.size + 1 + 1, 0, none⟩ = some (.int .i64 a) := hw2.cell 0
        have c1 : w2.cell? ⟨w.heap.size + 1 + 1, 1, none⟩ = some (.int .i64 to) := hw2.cell 1
        have c2 : w2.cell? ⟨w.heap.size + 1 + 1 + 1, 0, none⟩ = some (.int .i64 v) := hv2.cell 0
        go_wp2_with fail
        refine (outside_any _ _ _ _).mono ?_
        rintro r _ ⟨rfl, rfl⟩
        go_wp2_with fail
        refine (times2_any _ _ _ _ _ _ _ _ _ _ _ _ ⟨hb2, by omega, by omega, by omega, by omega⟩ ⟨hv2, by omega, by omega⟩ ⟨hd2, by omega, by omega, by omega, by omega⟩ ha hat hto h0 h1).mono ?_
        rintro r w3 ⟨u, rfl, hown, hg3⟩
        go_wp2_with fail
        go_ret2
        exact ⟨u, ret_vi HE.out.symm, by rw [HE.out]; exact ownsRow_low hown (Nat.zero_le _), gr_trans hG2 hg3⟩
      · have hbv : outB v 0 200000 = true := outB_yes v1
        have HE : Hid (bgE n e n2 d2 a to every v = 1) := by show _ = _; unfold bgE sbE; rw [if_pos hs, if_pos hq, hv]
        clear hv
        go_enter Try.func22, Try.ntmps22
        go_wp2_with fail
        refine (checkBoth_any _ _ _ _ _).mono ?_
        rintro r w1 ⟨rfl, hg1⟩
        have hb1 := hb0.grown hg1 (by simp)
        have hd1 := hd0.grown hg1 (by simp)
        have hw1 := hw0.grown hg1 (by simp)
        have hv1' := hv0.grown hg1 (by simp)
        have hG1 := gr_trans hG hg1
        clear hb0 hd0 hw0 hv0 hG hg1
        have c0 : w1.cell? ⟨w.heap.size + 1 + 1, 0, none⟩ = some (.int .i64 a) := hw1.cell 0
        have c1 : w1.cell? ⟨w.heap.size + 1 + 1, 1, none⟩ = some (.int .i64 to) := hw1.cell 1
        go_wp2_with fail
        refine (askedFault_any _ _ _ _).mono ?_
        rintro r w2 ⟨rfl, hg2⟩
        have hb2 := hb1.grown hg2 (by simp)
        have hd2 := hd1.grown hg2 (by simp)
        have hw2 := hw1.grown hg2 (by simp)
        have hv2 := hv1'.grown hg2 (by simp)
        have hG2 := gr_trans hG1 hg2
        clear hb1 hd1 hw1 hv1' hG1 hg2 c0 c1
        have c0 : w2.cell? ⟨w.heap.size + 1 + 1, 0, none⟩ = some (.int .i64 a) := hw2.cell 0
        have c1 : w2.cell? ⟨w.heap.size + 1 + 1, 1, none⟩ = some (.int .i64 to) := hw2.cell 1
        have c2 : w2.cell? ⟨w.heap.size + 1 + 1 + 1, 0, none⟩ = some (.int .i64 v) := hv2.cell 0
        go_wp2_with fail
        refine (outside_any _ _ _ _).mono ?_
        rintro r _ ⟨rfl, rfl⟩
        go_wp2_with fail
        go_ret2
        exact ⟨_, ret_vi HE.out.symm, by rw [HE.out]; exact Wins.nil _, hG2⟩
    · have hq1 : (askE a to every != 0) = true := by simpa using hq
      · have HE : Hid (bgE n e n2 d2 a to every v = askE a to every) := by show _ = _; unfold bgE sbE; rw [if_pos hs, if_neg hq]
        go_enter Try.func22, Try.ntmps22
        go_wp2_with fail
        refine (checkBoth_any _ _ _ _ _).mono ?_
        rintro r w1 ⟨rfl, hg1⟩
        have hb1 := hb0.grown hg1 (by simp)
        have hd1 := hd0.grown hg1 (by simp)
        have hw1 := hw0.grown hg1 (by simp)
        have hv1' := hv0.grown hg1 (by simp)
        have hG1 := gr_trans hG hg1
        clear hb0 hd0 hw0 hv0 hG hg1
        have c0 : w1.cell? ⟨w.heap.size + 1 + 1, 0, none⟩ = some (.int .i64 a) := hw1.cell 0
        have c1 : w1.cell? ⟨w.heap.size + 1 + 1, 1, none⟩ = some (.int .i64 to) := hw1.cell 1
        go_wp2_with fail
        refine (askedFault_any _ _ _ _).mono ?_
        rintro r w2 ⟨rfl, hg2⟩
        have hb2 := hb1.grown hg2 (by simp)
        have hd2 := hd1.grown hg2 (by simp)
        have hw2 := hw1.grown hg2 (by simp)
        have hv2 := hv1'.grown hg2 (by simp)
        have hG2 := gr_trans hG1 hg2
        clear hb1 hd1 hw1 hv1' hG1 hg2 c0 c1
        have c0 : w2.cell? ⟨w.heap.size + 1 + 1, 0, none⟩ = some (.int .i64 a) := hw2.cell 0
        have c1 : w2.cell? ⟨w.heap.size + 1 + 1, 1, none⟩ = some (.int .i64 to) := hw2.cell 1
        have c2 : w2.cell? ⟨w.heap.size + 1 + 1 + 1, 0, none⟩ = some (.int .i64 v) := hv2.cell 0
        go_wp2_with fail
        go_ret2
        exact ⟨_, ret_vi HE.out.symm, by rw [HE.out]; unfold okL; rw [if_neg hq]; exact Wins.nil _, hG2⟩
  · have HE : Hid (bgE n e n2 d2 a to every v = 1) := by show _ = _; unfold bgE sbE; rw [if_neg (by omega), hs]; rfl
    go_enter Try.func22, Try.ntmps22
    go_wp2_with fail
    refine (checkBoth_any _ _ _ _ _).mono ?_
    rintro r w1 ⟨rfl, hg1⟩
    go_wp2_with fail
    go_ret2
    exact ⟨_, ret_vi HE.out.symm, by rw [HE.out]; exact Wins.nil _, gr_trans hG hg1⟩
end Go.Proofs.Ytngdjeggigkmlaa
