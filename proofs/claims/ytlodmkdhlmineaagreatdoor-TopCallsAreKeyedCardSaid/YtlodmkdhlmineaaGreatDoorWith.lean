/- The walk over key.With: the text and the deviation with a unit, or the error. Condition: asciiSpace is Go's own table. -/
import Derived.Test.YtlodmkdhlmineaaGreatDoorRead
import Derived.Test.YtlodmkdhlmineaaGreatDoorUneven
namespace Go.Proofs.YtlodmkdhlmineaaGreatDoor
open Go.RowKit
set_option linter.unusedVariables false
set_option linter.unusedSimpArgs false

def withT (l : List Int) (u : Int) : List UInt8 := if unitE l u = 0 then readL l u else []
def withO (l : List Int) (u : Int) : Int := if unitE l u = 0 then offL l u else 0
set_option maxHeartbeats 1000000 in
theorem with_any (base b : Nat) (v : Value) (l : List Int) (u : Int) (w : World) (hl : IntsFrom base w v l) (hgl : Gl b w) :
    Calls Tryz.prog 27 #[v, .int .i64 u] w fun r w' => r = .returned (.tuple #[.string ⟨(withT l u).toArray⟩, .int .i64 (withO l u), .int .i64 (unitE l u)]) ∧ w.grownBy w' none := by
  have HU := Lib.hid (unitFault_any base v l u w hl)
  by_cases h0 : unitE l u = 0
  · obtain ⟨hE, u0, u1⟩ := unitE_zero h0
    obtain ⟨m1, m2, m3⟩ := marksE_ok hE
    have HR := Lib.hid (read_ok base b v l u w hl m1 m2 (fun x hx => by have := m3 x hx; omega) (by omega) (by omega) hgl)
    have HO := Lib.hid (fun W (h : IntsFrom base W v l) => offOf_any base v l u W h m2 (fun x hx => by have := m3 x hx; omega) (by omega) (by omega))
    have HL := Lib.hid hl
    have HT : Hid (withT l u = readL l u) := by show _ = _; unfold withT; rw [if_pos h0]
    have HF : Hid (withO l u = offL l u) := by show _ = _; unfold withO; rw [if_pos h0]
    rw [h0] at HU ⊢
    clear hl hE m1 m2 m3 hgl h0
    go_enter Tryz.func27, Tryz.ntmps27
    go_wp2_with fail
    refine HU.out.mono ?_
    rintro _ _ ⟨rfl, rfl⟩
    go_wp2_with fail
    refine HR.out.mono ?_
    rintro _ w1 ⟨rfl, hg1⟩
    go_wp2_with fail
    refine (HO.out _ (HL.out.grown hg1)).mono ?_
    rintro _ _ ⟨rfl, rfl⟩
    go_wp2_with fail
    go_ret3
    exact ⟨by rw [HT.out, HF.out]; rfl, hg1⟩
  · have hb : (unitE l u != 0) = true := by rw [bne_iff_ne]; exact h0
    have HT : Hid (withT l u = []) := by show _ = _; unfold withT; rw [if_neg h0]
    have HF : Hid (withO l u = 0) := by show _ = _; unfold withO; rw [if_neg h0]
    generalize unitE l u = E at *
    clear hl hgl
    go_enter Tryz.func27, Tryz.ntmps27
    go_wp2_with fail
    refine HU.out.mono ?_
    rintro _ _ ⟨rfl, rfl⟩
    go_wp2_with fail
    go_ret3
    exact ⟨by rw [HT.out, HF.out]; rfl, gr_refl _ _⟩
end Go.Proofs.YtlodmkdhlmineaaGreatDoor
