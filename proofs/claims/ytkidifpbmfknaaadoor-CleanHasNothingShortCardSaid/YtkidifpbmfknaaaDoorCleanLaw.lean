/- The walk over the law CleanHasNothingShort. Condition: asciiSpace is Go's own table, MaxLen holds a number. -/
import Derived.Test.YtkidifpbmfknaaaDoorCleanWalk
import Derived.Test.YtkidifpbmfknaaaDoorRightKeyed
import Derived.Test.YtkidifpbmfknaaaDoorIntsEq
import Derived.Test.YtkidifpbmfknaaaDoorReady
import Derived.Test.YtkidifpbmfknaaaDoorStart
namespace Go.Proofs.YtkidifpbmfknaaaDoor
open Go.RowKit
set_option linter.unusedVariables false

theorem minOf_ge (x : Int) (l : List Int) (hne : l ≠ []) (h : ∀ y ∈ l, x ≤ y) : x ≤ Lib.minOf l := by
  have key : ∀ (r : List Int) (a : Int), x ≤ a → (∀ y ∈ r, x ≤ y) → x ≤ r.foldl min a := by
    intro r
    induction r with
    | nil => intro a ha _; exact ha
    | cons z r ih =>
      intro a ha hr
      have hz := hr z (by simp)
      exact ih (min a z) (by omega) fun y hy => hr y (by simp [hy])
  unfold Lib.minOf
  refine key l _ ?_ h
  cases l with
  | nil => exact absurd rfl hne
  | cons a r => exact h a (by simp)
theorem min_any (base : Nat) (u : Value) (l : List Int) (w : World) (hu : IntsFrom base w u l) (hne : l ≠ []) :
    Calls Tryd.prog 27 #[u] w fun e w' => e = .returned (.int .i64 (Lib.minOf l)) ∧ w = w' := by
  have hp : 0 < l.length := List.length_pos_iff.2 hne
  obtain ⟨A, c, rfl, hl9, hA⟩ := hu.shape
  obtain ⟨g, rfl, _, _⟩ := hA hp
  have h := Tryd.slices_Min_int g 0 l.length c l w hp (Nat.le_refl _) hl9 (fun j hj => by
    rw [Nat.zero_add, hu.at_ j hj, List.getD_eq_getElem?_getD, List.getElem?_eq_getElem hj]; rfl)
  rw [List.take_length] at h
  exact same_back h

set_option maxRecDepth 100000 in
set_option maxHeartbeats 4000000 in
theorem cleanLaw (A : Option Addr) (n c : Nat) (w : World) (hin : In w A n) (hgl : Gl w.heap.size w) :
    Calls Tryd.prog 4 #[.slice A n c] w fun r w' => r = .returned (.bool true) ∧ Below w.heap.size w w' := by
  have hs0 := Str.start (c := c) hin
  have HGL := Lib.hid hgl
  clear hin hgl
  go_enter Tryd.func4, Tryd.ntmps4
  go_wp2_with fail
  have hG0 := World.grownBy_alloc w (.cells #[.slice A n c, .int .i64 0] 25) none
  generalize w.alloc (.cells #[.slice A n c, .int .i64 0] 25) = W0 at *
  generalize hb : w.heap.size = b at *
  have HB := Lib.hid hb
  clear hb
  have hgl0 := HGL.out.quiet hG0
  refine (rightKeyed_in b b 0 _ hs0 (by decide) hgl0 (Nat.le_refl _)).mono ?_
  rintro _ w1 ⟨v, l, rfl, hv, ho, h33, hx, hs1, hg1⟩
  have hG1 : w.grownBy w1 none := gr_grown hG0 hg1 (fun g e => by injection e with e; exact .inr (by have := HB.out; omega))
  have hlt0 := hs0.lt
  have hv1 : IntsFrom (b + 1) w1 v l := ownsRow_low hv (by omega)
  have hE : marksE l = 0 := marksE_zero ho (by omega) (fun x h => by have := hx x h; omega)
  have hsum : l.sum ≤ 49500 := by have := sum_bound 1500 l fun x h => (hx x h).2; omega
  have hgood := fun least => clean_good least l (fun x h => (hx x h).1) ho
  have HE := Lib.hid hE
  have HV := Lib.hid hv1
  have HGO := Lib.hid hgood
  have HSUM := Lib.hid hsum
  clear hs0 hG0 hgl0 hv hv1 hx hE hgood hg1 hsum hlt0
  obtain ⟨A1, c1, rfl, hl9, hA1⟩ := IntsFrom.shape HV.out
  obtain ⟨N, hN⟩ : ∃ N, l.length = N := ⟨_, rfl⟩
  have HN := Lib.hid hN
  have HCL : Hid (∀ (W : World) (least : Int), IntsFrom (b + 1) W (.slice A1 N c1) l → 1 ≤ least → least ≤ 100000 → Calls Tryd.prog 25 #[.slice A1 N c1, .int .i64 least] W (CleanPost least l W)) := fun W least h h1 h2 =>
    clean_any (b + 1) _ l least W h HE.out h1 h2
  rw [hN] at HV hl9 ho h33 ⊢
  clear hN hA1
  go_wp2_with fail
  refine (pick_at b _ _ 4 4 [1, 5, 30, 90] _ hs1 (by first | rfl | simp) (by decide) rfl (by decide) (by decide)).mono ?_
  rintro _ w2 ⟨q, hq, rfl, hs2, hg2⟩
  have hqb : 1 ≤ q ∧ q ≤ 90 := by simp at hq; omega
  have hG2 : w.grownBy w2 none := gr_grown hG1 hg2 (fun g e => by injection e with e; exact .inr (by have := HB.out; omega))
  have hV2 := IntsFrom.other HV.out hg2 (by omega)
  have hsz2 := hs2.lt
  clear hq hs1 hG1 hg2
  go_wp2_with fail
  refine (HCL.out _ q hV2 (by omega) (by omega)).mono ?_
  rintro _ w3 ⟨hg3, hway⟩
  have hG3 := gr_trans hG2 hg3
  rcases hway with ⟨h0, rfl⟩ | ⟨h0, h1, rfl⟩ | ⟨h0, h1, u, rfl, hu⟩
  · clear h0 hG2 hg3
    go_wp2_with fail
    refine (ready_any b _ (HGL.out.quiet hG3)).mono ?_
    rintro _ w7 ⟨rfl, hg⟩
    go_wp2_with fail
    go_ret
    exact ⟨rfl, gr_below (gr_trans hG3 hg)⟩
  · exfalso
    obtain ⟨x, hx, hb⟩ := List.any_eq_true.1 h1
    rcases HGO.out q with h | ⟨_, _, h⟩
    · exact h0 h
    · have := (h x hx).2.2
      have := HSUM.out
      unfold bigM at hb
      simp only [decide_eq_true_eq] at hb
      omega
  · obtain ⟨g1, g2, g3⟩ := (HGO.out q).resolve_left h0
    obtain ⟨K, hK⟩ : ∃ K, cleanL q l = K := ⟨_, rfl⟩
    rw [hK] at g1 g2 g3 hu h0
    have hk33 : K.length ≤ 33 := by rw [HN.out] at g2; omega
    have hKE : marksE K = 0 := marksE_zero g1 (by omega) (fun x h => by have := g3 x h; have := HSUM.out; omega)
    have hid : cleanL q K = K := clean_id q K g1 fun x h => (g3 x h).2.1
    have hmin := minOf_ge q K h0 fun x h => (g3 x h).2.1
    have hnb : K.any bigM = false := by
      rw [List.any_eq_false]
      intro x h
      have := (g3 x h).2.2
      have := HSUM.out
      unfold bigM
      simp only [decide_eq_true_eq]
      omega
    have HK0 := Lib.hid h0
    have HKE := Lib.hid hKE
    have HID := Lib.hid hid
    have HNB := Lib.hid hnb
    have hul := hu.low
    have HU := Lib.hid hu
    obtain ⟨A2, c2, rfl, hK9, hA2⟩ := hu.shape
    obtain ⟨M, hM⟩ : ∃ M, K.length = M := ⟨_, rfl⟩
    obtain ⟨mn, hmn⟩ : ∃ mn, Lib.minOf K = mn := ⟨_, rfl⟩
    rw [hmn] at hmin
    have HM := Lib.hid hM
    have HMIN : Hid (∀ W : World, w3 = W → Calls Tryd.prog 27 #[.slice A2 M c2] W fun e w' => e = .returned (.int .i64 mn) ∧ W = w') := fun W hW => by
      subst hW
      rw [← hM, ← hmn]
      exact min_any w2.heap.size _ K w3 HU.out HK0.out
    have HCL2 : Hid (∀ W : World, w3 = W → Calls Tryd.prog 25 #[.slice A2 M c2, .int .i64 q] W (CleanPost q K W)) := fun W hW => by
      subst hW
      rw [← hM]
      exact clean_any w2.heap.size _ K q w3 HU.out HKE.out (by omega) (by omega)
    rw [hM] at g1 hk33 hK9 ⊢
    have hM1 : ((M : Int) == 0) = false := by rw [beq_eq_false_iff_ne]; omega
    have hM2 : (M : Int) % 2 = 1 := by omega
    have hnlt : ¬ mn < q := by omega
    clear hM hmn g2 g3 h1 hu h0 hKE hid hnb hul hA2 hK hG2 hg3
    go_wp2_with fail
    refine (HMIN.out _ rfl).mono ?_
    rintro _ _ ⟨rfl, rfl⟩
    go_wp2_with fail
    refine (HCL2.out _ rfl).mono ?_
    rintro _ w4 ⟨hg4, hway⟩
    have hG4 := gr_trans hG3 hg4
    rw [HID.out] at hway
    rcases hway with ⟨e0, _⟩ | ⟨_, e1, _⟩ | ⟨_, _, u2, rfl, hu2⟩
    · exact absurd e0 HK0.out
    · rw [HNB.out] at e1; cases e1
    · have hw4 : Ints w4 (.slice A2 M c2) K := by
        have h := (IntsFrom.grown HU.out hg4).low
        rwa [HM.out] at h
      have HEQ := Lib.hid (equalInts_same _ u2 K w4 hw4 hu2.low)
      clear hw4 hu2 hG3 hg4
      go_wp2_with fail
      refine HEQ.out.mono ?_
      rintro _ w5 ⟨rfl, hg5⟩
      have hG5 := gr_trans hG4 hg5
      go_wp2_with fail
      refine (ready_any b _ (HGL.out.quiet hG5)).mono ?_
      rintro _ w7 ⟨rfl, hg⟩
      go_wp2_with fail
      go_ret
      exact ⟨rfl, gr_below (gr_trans hG5 hg)⟩
end Go.Proofs.YtkidifpbmfknaaaDoor
