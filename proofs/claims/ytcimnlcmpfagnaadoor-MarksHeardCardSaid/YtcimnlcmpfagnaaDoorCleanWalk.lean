/- The walk over key.Clean. Condition: right marks. -/
import Derived.Test.YtcimnlcmpfagnaaDoorCleaned
namespace Go.Proofs.YtcimnlcmpfagnaaDoor
open Go.RowKit
set_option linter.unusedVariables false

def CleanPost (least : Int) (l : List Int) (w : World) (e : Ending) (w' : World) : Prop :=
  w.grownBy w' none ∧ ((cleanL least l = [] ∧ e = .returned (.tuple #[.slice none 0 0, .int .i64 8])) ∨ (cleanL least l ≠ [] ∧ (cleanL least l).any bigM = true ∧ e = .returned (.tuple #[.slice none 0 0, .int .i64 2])) ∨
    (cleanL least l ≠ [] ∧ (cleanL least l).any bigM = false ∧ ∃ u, e = .returned (.tuple #[u, .int .i64 0]) ∧ IntsFrom w.heap.size w' u (cleanL least l)))
theorem sum_bound (B : Int) : ∀ m : List Int, (∀ x ∈ m, x ≤ B) → m.sum ≤ B * (m.length : Int)
  | [], _ => by simp
  | a :: r, hm => by
    have h1 := hm a (by simp)
    have h2 := sum_bound B r fun x hx => hm x (by simp [hx])
    simp only [List.sum_cons, List.length_cons]
    rw [show ((r.length + 1 : Nat) : Int) = (r.length : Int) + 1 by omega, Int.mul_add]
    omega

set_option maxRecDepth 100000 in
set_option maxHeartbeats 2000000 in
theorem clean_any (base : Nat) (v : Value) (l : List Int) (least : Int) (w : World) (hl : IntsFrom base w v l) (hE : marksE l = 0) (hl1 : 1 ≤ least) (hl2 : least ≤ 100000) :
    Calls Tryd.prog 14 #[v, .int .i64 least] w (CleanPost least l w) := by
  obtain ⟨m1, m2, m3⟩ := marksE_ok hE
  have C := closedAt least l (fun x hx => (m3 x hx).1) (l.length / 2) (by omega)
  have hcs : (closedL least l).sum ≤ 4000000000 := by
    show (closedTo least l (l.length / 2)).sum ≤ _
    rw [C.sum, List.take_of_length_le (by omega)]
    have := sum_bound 100000 l fun x hx => (m3 x hx).2
    omega
  have hcl : (closedL least l).length ≤ 20000 := by have := C.few; show (closedTo least l (l.length / 2)).length ≤ _; omega
  have HC := Lib.hid C
  have HCS := Lib.hid hcs
  have HCL := Lib.hid hcl
  have HL := Lib.hid hl
  have HE := Lib.hid hE
  have ho : outB least 1 100000 = false := outB_no hl1 hl2
  clear hl m1 m2 m3 C hcs hcl hE
  go_enter Tryd.func14, Tryd.ntmps14
  go_wp2_with fail
  refine (checkMarks_any base v l _ HL.out).mono ?_
  rintro _ _ ⟨rfl, rfl⟩
  rw [HE.out]
  go_wp2_with fail
  refine (outside_any least 1 100000 _).mono ?_
  rintro _ _ ⟨rfl, rfl⟩
  rw [ho]
  go_wp2_with fail
  refine (closed_any base v l least _ HL.out HE.out hl1 hl2).mono ?_
  rintro _ w1 ⟨u1, rfl, hu1, hg1⟩
  go_wp2_with fail
  refine (cleaned_any w.heap.size u1 (closedL least l) least _ hu1 HC.out.odd HCL.out HC.out.pos HCS.out HC.out.gap hl1 hl2).mono ?_
  rintro _ w2 ⟨u2, rfl, hu2, hg2⟩
  have hG2 := gr_trans hg1 hg2
  have hsz := hg1.size
  change IntsFrom w1.heap.size w2 u2 (cleanL least l) at hu2
  have hu3 := ownsRow_low hu2 hsz
  obtain ⟨A, c, rfl, hln, hA⟩ := IntsFrom.shape hu2
  have HU := Lib.hid hu2
  have HU3 : Hid (IntsFrom w.heap.size w2 (.slice A (cleanL least l).length c) (cleanL least l)) := hu3
  obtain ⟨K, hK⟩ : ∃ K, cleanL least l = K := ⟨_, rfl⟩
  have HK := Lib.hid hK
  rw [hK] at HU HU3 hln hA ⊢
  obtain ⟨N, hN⟩ : ∃ N, K.length = N := ⟨_, rfl⟩
  have HN := Lib.hid hN
  have HBIG : Hid (∀ W : World, w2 = W → Calls Tryd.prog 53 #[.slice A N c, .func (.func 63) #[] #[]] W fun r w' => r = .returned (.bool (K.any bigM)) ∧ W = w') := fun W hW => by
    subst hW
    rw [← hN]
    exact hasBig w1.heap.size _ K w2 HU.out
  rw [hN] at HU3 hln hA ⊢
  clear hu2 hu3 hg1 hg2 hu1 hN hK
  by_cases h0 : N = 0
  · subst h0
    have hK0 : K = [] := List.length_eq_zero_iff.1 HN.out
    have HP : Hid (CleanPost least l w (.returned (.tuple #[.slice none 0 0, .int .i64 8])) w2) := ⟨hG2, .inl ⟨by rw [HK.out, hK0], rfl⟩⟩
    clear hK0
    go_wp2_with fail
    go_ret2
    exact HP.out
  · have hz : ((N : Int) == 0) = false := by rw [beq_eq_false_iff_ne]; omega
    have hK0 : cleanL least l ≠ [] := by rw [HK.out]; intro e; apply h0; rw [← HN.out, e]; rfl
    have HK0 := Lib.hid hK0
    clear hK0 h0
    rcases hbg : K.any bigM
    · have HP : Hid (CleanPost least l w (.returned (.tuple #[.slice A N c, .int .i64 0])) w2) := ⟨hG2, .inr (.inr ⟨HK0.out, by rw [HK.out]; exact hbg, _, rfl, by rw [HK.out]; exact HU3.out⟩)⟩
      have HBG := Lib.hid hbg
      clear hbg
      go_wp2_with fail
      refine (HBIG.out _ rfl).mono ?_
      rintro _ _ ⟨rfl, rfl⟩
      rw [HBG.out]
      go_wp2_with fail
      go_ret2
      exact HP.out
    · have HP : Hid (CleanPost least l w (.returned (.tuple #[.slice none 0 0, .int .i64 2])) w2) := ⟨hG2, .inr (.inl ⟨HK0.out, by rw [HK.out]; exact hbg, rfl⟩)⟩
      have HBG := Lib.hid hbg
      clear hbg
      go_wp2_with fail
      refine (HBIG.out _ rfl).mono ?_
      rintro _ _ ⟨rfl, rfl⟩
      rw [HBG.out]
      go_wp2_with fail
      go_ret2
      exact HP.out
end Go.Proofs.YtcimnlcmpfagnaaDoor
