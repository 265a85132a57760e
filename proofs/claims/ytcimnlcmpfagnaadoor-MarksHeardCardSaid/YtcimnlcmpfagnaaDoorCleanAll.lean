/- key.Clean with all its errors: what is cleaned, and the error, told as values. No condition but an argument that lies in its block. -/
import Derived.Test.YtcimnlcmpfagnaaDoorCleanWalk
namespace Go.Proofs.YtcimnlcmpfagnaaDoor
open Go.RowKit
set_option linter.unusedVariables false

def cleanE (l : List Int) (least : Int) : Int :=
  if marksE l = 0 then (if spanE least 1 100000 = 0 then (if cleanL least l = [] then 8 else if (cleanL least l).any bigM = true then 2 else 0) else spanE least 1 100000) else marksE l
def cleanK (l : List Int) (least : Int) : List Int := if cleanE l least = 0 then cleanL least l else []
def CleanAll (l : List Int) (least : Int) (w : World) (r : Ending) (w' : World) : Prop :=
  ∃ u, r = .returned (.tuple #[u, .int .i64 (cleanE l least)]) ∧ IntsFrom w.heap.size w' u (cleanK l least) ∧ w.grownBy w' none
/-- The same of the error and the list that the document's CleanedOf gives. -/
def clndE (l : List Int) (least : Int) : Int := if cleanL least l = [] then 8 else if (cleanL least l).any bigM = true then 2 else 0
theorem cleanE_in {l : List Int} {least : Int} (h : marksE l = 0) (h1 : 1 ≤ least) (h2 : least ≤ 100000) : cleanE l least = clndE l least := by
  unfold cleanE clndE
  rw [if_pos h, if_pos (spanE_no h1 h2)]
set_option maxHeartbeats 1000000 in
theorem clean_all (base : Nat) (v : Value) (l : List Int) (least : Int) (w : World) (hl : IntsFrom base w v l) :
    Calls Tryd.prog 14 #[v, .int .i64 least] w (CleanAll l least w) := by
  by_cases h0 : marksE l = 0
  · rcases spanE_cases least 1 100000 with ⟨hs, h1, h2⟩ | ⟨hs, ho⟩
    · refine (clean_any base v l least w hl h0 h1 h2).mono ?_
      rintro r w' ⟨hg, ⟨hn, rfl⟩ | ⟨hn, hb, rfl⟩ | ⟨hn, hb, u, rfl, hu⟩⟩
      · have hE : cleanE l least = 8 := by rw [cleanE_in h0 h1 h2]; unfold clndE; rw [if_pos hn]
        exact ⟨_, by rw [hE], by unfold cleanK; rw [hE, if_neg (by decide)]; exact IntsFrom.nil _ _, hg⟩
      · have hE : cleanE l least = 2 := by rw [cleanE_in h0 h1 h2]; unfold clndE; rw [if_neg hn, if_pos hb]
        exact ⟨_, by rw [hE], by unfold cleanK; rw [hE, if_neg (by decide)]; exact IntsFrom.nil _ _, hg⟩
      · have hE : cleanE l least = 0 := by rw [cleanE_in h0 h1 h2]; unfold clndE; rw [if_neg hn, hb]; rfl
        exact ⟨_, by rw [hE], by unfold cleanK; rw [hE, if_pos rfl]; exact hu, hg⟩
    · have hE : cleanE l least = 1 := by unfold cleanE; rw [if_pos h0, if_neg (by rw [hs]; decide), hs]
      have HK : Hid (cleanK l least = []) := by show _ = _; unfold cleanK; rw [hE, if_neg (by decide)]
      have HE := Lib.hid hE
      have HM := Lib.hid (checkMarks_any base v l w hl)
      rw [h0] at HM
      have HO := Lib.hid (outside_any least 1 100000 w)
      have hob : outB least 1 100000 = true := outB_yes ho
      rw [hob] at HO
      clear hE hob ho hs hl
      go_enter Tryd.func14, Tryd.ntmps14
      go_wp2_with fail
      refine HM.out.mono ?_
      rintro _ _ ⟨rfl, rfl⟩
      go_wp2_with fail
      refine HO.out.mono ?_
      rintro _ _ ⟨rfl, rfl⟩
      go_wp2_with fail
      go_ret2
      exact ⟨.slice none 0 0, by rw [HE.out]; rfl, by rw [HK.out]; exact IntsFrom.nil _ _, gr_refl _ _⟩
  · have hE : cleanE l least = marksE l := by unfold cleanE; rw [if_neg h0]
    have HK : Hid (cleanK l least = []) := by show _ = _; unfold cleanK; rw [hE, if_neg h0]
    have HE := Lib.hid hE
    have HM := Lib.hid (checkMarks_any base v l w hl)
    have hb : (marksE l != 0) = true := by rw [bne_iff_ne]; exact h0
    clear hE hl h0
    generalize marksE l = E at *
    go_enter Tryd.func14, Tryd.ntmps14
    go_wp2_with fail
    refine HM.out.mono ?_
    rintro _ _ ⟨rfl, rfl⟩
    go_wp2_with fail
    go_ret2
    exact ⟨.slice none 0 0, by rw [HE.out]; rfl, by rw [HK.out]; exact IntsFrom.nil _ _, gr_refl _ _⟩
end Go.Proofs.YtcimnlcmpfagnaaDoor
