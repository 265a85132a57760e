/- The walk over key's unitFault: what is wrong with marks and a unit. No condition but that the marks lie in a row that is known. -/
import Derived.Test.YtlodmkdhlmineaaGreatDoorMarks
namespace Go.Proofs.YtlodmkdhlmineaaGreatDoor
open Go.RowKit
set_option linter.unusedVariables false
set_option linter.unusedSimpArgs false

def unitE (l : List Int) (u : Int) : Int := if marksE l = 0 then spanE u 1 2000 else marksE l
set_option maxHeartbeats 1000000 in
theorem unitFault_any (base : Nat) (v : Value) (l : List Int) (u : Int) (w : World) (hl : IntsFrom base w v l) :
    Calls Tryz.prog 73 #[v, .int .i64 u] w fun r w' => r = .returned (.int .i64 (unitE l u)) ∧ w = w' := by
  have HC := Lib.hid (fun W (h : IntsFrom base W v l) => checkMarks_any base v l W h)
  have HL := Lib.hid hl
  obtain ⟨E, hE⟩ : ∃ E, marksE l = E := ⟨_, rfl⟩
  rw [hE] at HC
  clear hl
  by_cases h0 : E = 0
  · subst h0
    rcases hb : outB u 1 2000
    all_goals
      have HU : Hid (unitE l u = spanE u 1 2000) := by show _ = _; unfold unitE; rw [hE, if_pos rfl]
      have HS : Hid (spanE u 1 2000 = if outB u 1 2000 then 1 else 0) := rfl
      have HO := Lib.hid (fun W => outside_any u 1 2000 W)
      rw [hb] at HO HS
      clear hb
      have HE := Lib.hid hE
      clear hE
      go_enter Tryz.func73, Tryz.ntmps73
      go_wp2_with fail
      refine (HC.out _ HL.out).mono ?_
      rintro _ _ ⟨rfl, rfl⟩
      go_wp2_with fail
      refine (HO.out _).mono ?_
      rintro _ _ ⟨rfl, rfl⟩
      go_wp2_with fail
      go_ret
      exact ⟨ret_of (by rw [HU.out, HS.out]; rfl), rfl⟩
  · have HU : Hid (unitE l u = E) := by show _ = _; unfold unitE; rw [hE, if_neg h0]
    have hb : (E != 0) = true := by rw [bne_iff_ne]; exact h0
    clear hE
    go_enter Tryz.func73, Tryz.ntmps73
    go_wp2_with fail
    refine (HC.out _ HL.out).mono ?_
    rintro _ _ ⟨rfl, rfl⟩
    go_wp2_with fail
    go_ret
    exact ⟨ret_of HU.out.symm, rfl⟩
end Go.Proofs.YtlodmkdhlmineaaGreatDoor
