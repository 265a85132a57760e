/- The walk over key.Key: the lengths, or the first error. Condition: a string of a size that fits in memory; asciiSpace is Go's own table. -/
import Derived.Test.YtlodmkdhlmineaaGreatDoorKeyB
import Derived.Test.YtlodmkdhlmineaaGreatDoorFaults
namespace Go.Proofs.YtlodmkdhlmineaaGreatDoor
open Go.RowKit
set_option linter.unusedVariables false

def keyE (s : ByteArray) (u sl : Int) : Int := if saidE s = 0 then (if outB u 1 2000 = true then 1 else if outB sl u 2000 = true then 1 else 0) else saidE s
def keyK (s : ByteArray) (u sl : Int) : List Int := if keyE s u sl = 0 then sL u sl (codesOf s) else []
def KeyPost (s : ByteArray) (u sl : Int) (w : World) (r : Ending) (w' : World) : Prop :=
  ∃ v, r = .returned (.tuple #[v, .int .i64 (keyE s u sl)]) ∧ IntsFrom w.heap.size w' v (keyK s u sl) ∧ (keyK s u sl).length ≤ 4000000 ∧ w.grownBy w' none
theorem keyPost_bad {s : ByteArray} {u sl : Int} {w w' : World} {E : Int} (h : keyE s u sl = E) (h0 : E ≠ 0) (hg : w.grownBy w' none) : KeyPost s u sl w (.returned (.tuple #[.slice none 0 0, .int .i64 E])) w' := by
  have hk : keyK s u sl = [] := by unfold keyK; rw [h, if_neg h0]
  exact ⟨_, by rw [h], by rw [hk]; exact IntsFrom.nil _ _, by rw [hk]; simp, hg⟩
theorem outB_is {n l h : Int} (hb : outB n l h = false) : l ≤ n ∧ n ≤ h := by
  unfold outB at hb
  simp at hb
  omega
set_option maxHeartbeats 1000000 in
theorem key_any (b : Nat) (s : ByteArray) (u sl : Int) (w : World) (hgl : Gl b w) (hs : s.size < 4294967281) :
    Calls Tryz.prog 26 #[.string s, .int .i64 u, .int .i64 sl] w (KeyPost s u sl w) := by
  have HC := Lib.hid (checkSaid_any b s w hgl hs)
  have HGL := Lib.hid hgl
  by_cases h0 : saidE s = 0
  · have hsz := (saidE_zero h0).1
    have HO := Lib.hid (fun n l h W => outside_any n l h W)
    rw [h0] at HC
    cases h1 : outB u 1 2000
    · cases h2 : outB sl u 2000
      · have hE : keyE s u sl = 0 := by unfold keyE; rw [if_pos h0, h1, h2]; rfl
        have HE := Lib.hid hE
        have hk : keyK s u sl = sL u sl (codesOf s) := by unfold keyK; rw [hE, if_pos rfl]
        have HK := Lib.hid hk
        obtain ⟨a0, a1⟩ := outB_is h1
        obtain ⟨b0, b1⟩ := outB_is h2
        have HL := Lib.hid (fun W (h : Gl b W) => lengths_any b s u sl W h hsz (by omega) (by omega) (by omega) (by omega))
        have H1 := Lib.hid h1
        have H2 := Lib.hid h2
        clear h0 h1 h2 hE hk hgl
        go_enter Tryz.func26, Tryz.ntmps26
        go_wp2_with fail
        refine HC.out.mono ?_
        rintro _ w1 ⟨rfl, hg1⟩
        go_wp2_with fail
        refine (HO.out u 1 2000 _).mono ?_
        rintro _ _ ⟨rfl, rfl⟩
        rw [H1.out]
        go_wp2_with fail
        refine (HO.out sl u 2000 _).mono ?_
        rintro _ _ ⟨rfl, rfl⟩
        rw [H2.out]
        go_wp2_with fail
        refine (HL.out _ (HGL.out.quiet hg1)).mono ?_
        rintro _ w2 ⟨v, rfl, hv, hn, hg2⟩
        go_wp2_with fail
        go_ret2
        exact ⟨v, by rw [HE.out]; rfl, by rw [HK.out]; exact ownsRow_low hv hg1.size, by rw [HK.out]; exact hn, gr_trans hg1 hg2⟩
      · have hE : keyE s u sl = 1 := by unfold keyE; rw [if_pos h0, h1, h2]; rfl
        have HE := Lib.hid hE
        have H1 := Lib.hid h1
        have H2 := Lib.hid h2
        clear h0 h1 h2 hE hgl
        go_enter Tryz.func26, Tryz.ntmps26
        go_wp2_with fail
        refine HC.out.mono ?_
        rintro _ w1 ⟨rfl, hg1⟩
        go_wp2_with fail
        refine (HO.out u 1 2000 _).mono ?_
        rintro _ _ ⟨rfl, rfl⟩
        rw [H1.out]
        go_wp2_with fail
        refine (HO.out sl u 2000 _).mono ?_
        rintro _ _ ⟨rfl, rfl⟩
        rw [H2.out]
        go_wp2_with fail
        go_ret2
        exact keyPost_bad HE.out (by decide) hg1
    · have hE : keyE s u sl = 1 := by unfold keyE; rw [if_pos h0, h1]; rfl
      have HE := Lib.hid hE
      have H1 := Lib.hid h1
      clear h0 h1 hE hgl
      go_enter Tryz.func26, Tryz.ntmps26
      go_wp2_with fail
      refine HC.out.mono ?_
      rintro _ w1 ⟨rfl, hg1⟩
      go_wp2_with fail
      refine (HO.out u 1 2000 _).mono ?_
      rintro _ _ ⟨rfl, rfl⟩
      rw [H1.out]
      go_wp2_with fail
      go_ret2
      exact keyPost_bad HE.out (by decide) hg1
  · have hE : keyE s u sl = saidE s := by unfold keyE; rw [if_neg h0]
    have HE := Lib.hid hE
    have hb : (saidE s != 0) = true := by rw [bne_iff_ne]; exact h0
    have H0 := Lib.hid h0
    clear hE hgl h0
    generalize saidE s = E at *
    go_enter Tryz.func26, Tryz.ntmps26
    go_wp2_with fail
    refine HC.out.mono ?_
    rintro _ w1 ⟨rfl, hg1⟩
    go_wp2_with fail
    go_ret2
    exact keyPost_bad HE.out H0.out hg1
end Go.Proofs.YtlodmkdhlmineaaGreatDoor
