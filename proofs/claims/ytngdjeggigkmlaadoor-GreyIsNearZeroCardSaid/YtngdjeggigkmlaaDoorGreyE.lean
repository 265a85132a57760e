/- The walks over GreyTimes and BothGrey with their errors. No condition. -/
import Derived.Test.YtngdjeggigkmlaaDoorLightWalk
namespace Go.Proofs.YtngdjeggigkmlaaDoor
open Go.RowKit
set_option linter.unusedVariables false

def gtE (n e a zt every v : Int) : Int := if saE n e a zt every = 0 then spanE v 0 200000 else saE n e a zt every
def sbE (n e n2 d2 a zt every : Int) : Int := if bothE n e n2 d2 = 0 then askE a zt every else bothE n e n2 d2
def bgE (n e n2 d2 a zt every v : Int) : Int := if sbE n e n2 d2 a zt every = 0 then spanE v 0 200000 else sbE n e n2 d2 a zt every
def okL (e : Int) (l : List (Int × Int)) : List (Int × Int) := if e = 0 then l else []

theorem ret_vi {u : Value} {l : IntKind} {c d : Int} (h' : c = d) : Ending.returned (.tuple #[u, .int l c]) = .returned (.tuple #[u, .int l d]) := by rw [h']
theorem Wins.nil (w : World) : Wins w (.slice none 0 0) [] := World.ownsRow_nil _ _ _ _

set_option maxRecDepth 100000 in
set_option maxHeartbeats 2000000 in
theorem greyTimes_any (n e a zt every v : Int) (w : World) :
    Calls Tryd.prog 20 #[.agg #[.int .i64 n, .int .i64 e], .agg #[.int .i64 a, .int .i64 zt], .int .i64 every, .int .i64 v] w fun r w' =>
      ∃ u, r = .returned (.tuple #[u, .int .i64 (gtE n e a zt every v)]) ∧ Wins w' u (okL (gtE n e a zt every v) (winAll (grey1 n e v) a every zt)) ∧ w.grownBy w' none := by
  have hG := gr_alloc (gr_alloc (World.grownBy_alloc w (.cells #[.int .i64 n, .int .i64 e] 27) none) (.cells #[.int .i64 a, .int .i64 zt] 52)) (.cells #[.int .i64 v] 3)
  have hb0 := ((Blk.new w 27 #[.int .i64 n, .int .i64 e]).alloc (.cells #[.int .i64 a, .int .i64 zt] 52)).alloc (.cells #[.int .i64 v] 3)
  have hw0 := (Blk.new (w.alloc (.cells #[.int .i64 n, .int .i64 e] 27)) 52 #[.int .i64 a, .int .i64 zt]).alloc (.cells #[.int .i64 v] 3)
  have hv0 := Blk.new ((w.alloc (.cells #[.int .i64 n, .int .i64 e] 27)).alloc (.cells #[.int .i64 a, .int .i64 zt] 52)) 3 #[.int .i64 v]
  rw [World.size_alloc] at hw0
  rw [World.size_alloc, World.size_alloc] at hv0
  rcases siteE_01 n e with hs | hs
  · have hbd := askE_bd a zt every
    by_cases hq : askE a zt every = 0
    · obtain ⟨ha, hat, hto, h0, h1⟩ := askE_rng hq
      have hsr := siteE_rng hs
      rcases spanE_cases v 0 200000 with ⟨hv, v0, v1⟩ | ⟨hv, v1⟩
      · have hbv : outB v 0 200000 = false := outB_no v0 v1
        have HE : Hid (gtE n e a zt every v = 0) := by show _ = _; unfold gtE; rw [saE_ok hs, if_pos hq, hv]
        clear hv
        go_enter Tryd.func20, Tryd.ntmps20
        go_wp2_with fail
        refine (checkSite_any _ _ _).mono ?_
        rintro r w1 ⟨rfl, hg1⟩
        have hb1 := hb0.grown hg1 (by simp)
        have hw1 := hw0.grown hg1 (by simp)
        have hv1 := hv0.grown hg1 (by simp)
        have hG1 := gr_trans hG hg1
        clear hb0 hw0 hv0 hG hg1
        have c0 : w1.cell? ⟨w.heap.size + 1, 0, none⟩ = some (.int .i64 a) := hw1.cell 0
        have c1 : w1.cell? ⟨w.heap.size + 1, 1, none⟩ = some (.int .i64 zt) := hw1.cell 1
        go_wp2_with fail
        refine (askedFault_any _ _ _ _).mono ?_
        rintro r w2 ⟨rfl, hg2⟩
        have hb2 := hb1.grown hg2 (by simp)
        have hw2 := hw1.grown hg2 (by simp)
        have hv2 := hv1.grown hg2 (by simp)
        have hG2 := gr_trans hG1 hg2
        clear hb1 hw1 hv1 hG1 hg2 c0 c1
        have c0 : w2.cell? ⟨w.heap.size + 1, 0, none⟩ = some (.int .i64 a) := hw2.cell 0
        have c1 : w2.cell? ⟨w.heap.size + 1, 1, none⟩ = some (.int .i64 zt) := hw2.cell 1
        have c2 : w2.cell? ⟨w.heap.size + 1 + 1, 0, none⟩ = some (.int .i64 v) := hv2.cell 0
        go_wp2_with fail
        refine (outside_any _ _ _ _).mono ?_
        rintro r _ ⟨rfl, rfl⟩
        go_wp2_with fail
        refine (times1_any _ _ _ _ _ _ _ _ _ ⟨hb2, by omega, by omega, by omega, by omega⟩ ⟨hv2, by omega, by omega⟩ ha hat hto h0 h1).mono ?_
        rintro r w3 ⟨u, rfl, hown, hg3⟩
        go_wp2_with fail
        go_ret2
        exact ⟨u, ret_vi HE.out.symm, by rw [HE.out]; exact ownsRow_low hown (Nat.zero_le _), gr_trans hG2 hg3⟩
      · have hbv : outB v 0 200000 = true := outB_yes v1
        have HE : Hid (gtE n e a zt every v = 1) := by show _ = _; unfold gtE; rw [saE_ok hs, if_pos hq, hv]
        clear hv
        go_enter Tryd.func20, Tryd.ntmps20
        go_wp2_with fail
        refine (checkSite_any _ _ _).mono ?_
        rintro r w1 ⟨rfl, hg1⟩
        have hw1 := hw0.grown hg1 (by simp)
        have hv1 := hv0.grown hg1 (by simp)
        have hG1 := gr_trans hG hg1
        clear hb0 hw0 hv0 hG hg1
        have c0 : w1.cell? ⟨w.heap.size + 1, 0, none⟩ = some (.int .i64 a) := hw1.cell 0
        have c1 : w1.cell? ⟨w.heap.size + 1, 1, none⟩ = some (.int .i64 zt) := hw1.cell 1
        go_wp2_with fail
        refine (askedFault_any _ _ _ _).mono ?_
        rintro r w2 ⟨rfl, hg2⟩
        have hv2 := hv1.grown hg2 (by simp)
        have hG2 := gr_trans hG1 hg2
        clear hw1 hv1 hG1 hg2 c0 c1
        have c2 : w2.cell? ⟨w.heap.size + 1 + 1, 0, none⟩ = some (.int .i64 v) := hv2.cell 0
        go_wp2_with fail
        refine (outside_any _ _ _ _).mono ?_
        rintro r _ ⟨rfl, rfl⟩
        go_wp2_with fail
        go_ret2
        exact ⟨_, ret_vi HE.out.symm, by rw [HE.out]; exact Wins.nil _, hG2⟩
    · have hq1 : (askE a zt every != 0) = true := by simpa using hq
      have HE : Hid (gtE n e a zt every v = askE a zt every) := by show _ = _; unfold gtE; rw [saE_ok hs, if_neg hq]
      go_enter Tryd.func20, Tryd.ntmps20
      go_wp2_with fail
      refine (checkSite_any _ _ _).mono ?_
      rintro r w1 ⟨rfl, hg1⟩
      have hw1 := hw0.grown hg1 (by simp)
      have hG1 := gr_trans hG hg1
      clear hb0 hw0 hv0 hG hg1
      have c0 : w1.cell? ⟨w.heap.size + 1, 0, none⟩ = some (.int .i64 a) := hw1.cell 0
      have c1 : w1.cell? ⟨w.heap.size + 1, 1, none⟩ = some (.int .i64 zt) := hw1.cell 1
      go_wp2_with fail
      refine (askedFault_any _ _ _ _).mono ?_
      rintro r w2 ⟨rfl, hg2⟩
      go_wp2_with fail
      go_ret2
      exact ⟨_, ret_vi HE.out.symm, by rw [HE.out]; unfold okL; rw [if_neg hq]; exact Wins.nil _, gr_trans hG1 hg2⟩
  · have HE : Hid (gtE n e a zt every v = 1) := by show _ = _; unfold gtE; rw [saE_bad hs]; rfl
    go_enter Tryd.func20, Tryd.ntmps20
    go_wp2_with fail
    refine (checkSite_any _ _ _).mono ?_
    rintro r w1 ⟨rfl, hg1⟩
    go_wp2_with fail
    go_ret2
    exact ⟨_, ret_vi HE.out.symm, by rw [HE.out]; exact Wins.nil _, gr_trans hG hg1⟩


end Go.Proofs.YtngdjeggigkmlaaDoor
