/- The walk over key.closed: marks and gaps without the gaps that are shorter. Condition: right marks. -/
import Derived.Test.YtcimnlcmpfagnaaDoorCleanPlain
import Derived.Test.YtcimnlcmpfagnaaDoorMarks
import Derived.Deep.AppendLies
import Derived.Deep.RegionHeld3
import Derived.StillTailTactics
namespace Go.Proofs.YtcimnlcmpfagnaaDoor
open Go.RowKit
set_option linter.unusedVariables false
set_option linter.unusedSimpArgs false

/-- Numbers in a slice whose length is told. -/
def LFrom (base : Nat) (w : World) (v : Value) (n : Nat) (L : List Int) : Prop := w.ownsRow base 3 1 v n (L.map (Value.int .i64))
theorem LFrom.len {base n : Nat} {w : World} {v : Value} {L : List Int} (h : LFrom base w v n L) : L.length = n := by
  have := h.1; simpa using this
theorem LFrom.ints {base n : Nat} {w : World} {v : Value} {L : List Int} (h : LFrom base w v n L) : IntsFrom base w v L := by
  have e := h.len
  unfold IntsFrom
  rw [e]; exact h
theorem LFrom.at_ {base n : Nat} {w : World} {g c : Nat} {L : List Int} (h : LFrom base w (.slice (some ⟨g, 0, none⟩) n c) n L) (k : Nat) (hk : k < n) : w.cell? ⟨g, k, none⟩ = some (.int .i64 (L.getD k 0)) := by
  have e := h.len
  subst e
  have := IntsFrom.at_ (l := L) h k hk
  rw [this, List.getD_eq_getElem?_getD, List.getElem?_eq_getElem hk]; rfl
theorem blk_row {w : World} {g base : Nat} {x : Int} (h : Blk w g 3 #[.int .i64 x]) (hb : base ≤ g) : LFrom base w (.slice (some ⟨g, 0, none⟩) 1 1) 1 [x] :=
  ⟨rfl, .inr ⟨g, 1, _, rfl, hb, h, by omega, by unfold maxLen; omega, rfl, rfl⟩⟩
theorem two_ints (w : World) (x y : Int) (t : TypeId) : ∀ j u, ([Value.int .i64 x, .int .i64 y])[j]? = some u → (w.alloc (.cells #[.int .i64 x, .int .i64 y] t)).cell? ((⟨w.heap.size, 0, none⟩ : Addr).add j) = some u := by
  intro j u hu
  have hb := (Blk.new w t #[.int .i64 x, .int .i64 y]).cell j
  have hadd : (⟨w.heap.size, 0, none⟩ : Addr).add j = ⟨w.heap.size, j, none⟩ := by unfold Addr.add; split <;> simp_all
  rw [hadd, hb]
  simpa using hu
theorem two_intsOne (x y : Int) : ∀ u ∈ [Value.int .i64 x, .int .i64 y], u.oneCell' = true := by
  intro u hu; simp at hu; rcases hu with rfl | rfl <;> rfl

set_option maxRecDepth 100000 in
set_option maxHeartbeats 4000000 in
theorem closed_any (base : Nat) (v : Value) (l : List Int) (least : Int) (w : World) (hl : IntsFrom base w v l) (hE : marksE l = 0) (hl1 : 1 ≤ least) (hl2 : least ≤ 100000) :
    Calls Tryd.prog 62 #[v, .int .i64 least] w fun r w' => ∃ u, r = .returned u ∧ IntsFrom w.heap.size w' u (closedL least l) ∧ w.grownBy w' none := by
  obtain ⟨i0, hi, hz0, hz1, hz2⟩ := info_parts intInfo
  obtain ⟨m1, m2, m3⟩ := marksE_ok hE
  obtain ⟨A, ca, rfl, hla, hA⟩ := hl.shape
  obtain ⟨ga, rfl, ga0, ga1⟩ := hA (by omega)
  have CP := Lib.hid (fun k hk => closedAt least l (fun x hx => (m3 x hx).1) k hk)
  have HL := Lib.hid hl
  have HM := Lib.hid m3
  obtain ⟨N, hN⟩ : ∃ N, l.length = N := ⟨_, rfl⟩
  have HN := Lib.hid hN
  have HLN : Hid (∀ W : World, w.grownBy W none → ∀ k, k < N → W.cell? ⟨ga, k, none⟩ = some (.int .i64 (l.getD k 0))) := fun W hW k hk => by
    have h := HL.out.grown hW
    rw [h.at_ k (by rw [hN]; exact hk), List.getD_eq_getElem?_getD, List.getElem?_eq_getElem (by rw [hN]; exact hk)]; rfl
  have HLB : Hid (∀ k, k < N → 1 ≤ l.getD k 0 ∧ l.getD k 0 ≤ 100000) := fun k hk => m3 _ (getD_mem (by rw [hN]; exact hk))
  rw [hN] at m1 m2 hla ⊢
  have c0 := HLN.out w (gr_refl _ _) 0 (by omega)
  have hN0 : (0 : Int) < (N : Int) := by omega
  have HCL : Hid (closedL least l = closedTo least l (N / 2)) := by show _ = _; rw [← hN]; rfl
  have hfirst : closedTo least l 0 = [l.getD 0 0] := rfl
  have HF := Lib.hid hfirst
  clear hl hE hA hN m3 hfirst
  obtain ⟨x0, hx0⟩ : ∃ x0, l.getD 0 0 = x0 := ⟨_, rfl⟩
  rw [hx0] at c0
  have HX0 := Lib.hid hx0
  clear hx0
  go_enter Tryd.func62, Tryd.ntmps62
  go_wp2_with fail
  have hown0 : LFrom w.heap.size (w.alloc (.cells #[.int .i64 x0] 3)) (.slice (some ⟨w.heap.size, 0, none⟩) 1 1) 1 [x0] := blk_row (Blk.new w 3 #[.int .i64 x0]) (Nat.le_refl _)
  have hG0 := World.grownBy_alloc w (.cells #[.int .i64 x0] 3) none
  generalize w.alloc (.cells #[.int .i64 x0] 3) = W0 at *
  go_loopw [5, 6] (fun o i wr => ∃ k n j : Nat, Hid (j = 2 * k + 1) ∧ j ≤ N + 1 ∧ 2 * k < N ∧ i = .int .i64 j ∧ n ≤ j ∧ n % 2 = 1 ∧ LFrom w.heap.size wr o n (closedTo least l k) ∧ w.grownBy wr none) (fun _ i _ => N + 2 - (intOf i).toNat)
  case atStart => exact ⟨0, 1, 1, rfl, by omega, by omega, rfl, by omega, by omega, by rw [HF.out, HX0.out]; exact hown0, hG0⟩
  case round =>
    obtain ⟨k, n, j, HJ, hj, hkN, rfl, hn, hn2, hown, hgr⟩ := hrel
    obtain ⟨A2, c2, rfl, hk9, hA2⟩ := ownsRow_shape hown
    obtain ⟨g, rfl, hg0, hg1⟩ := hA2 (by omega)
    by_cases hlt : j < N
    · have hlt2 : (j : Int) < (N : Int) := by omega
      have hjj := HJ.out
      have ck := CP.out k (by rw [HN.out]; exact hkN)
      have hstep : closedTo least l (k + 1) = stepC least (closedTo least l k) (l.getD j 0) (l.getD (j + 1) 0) := by rw [hjj]; rfl
      have hj1N : j + 1 < N := by omega
      have cg := HLN.out wr hgr j hlt
      have cm := HLN.out wr hgr (j + 1) hj1N
      have bg := HLB.out j hlt
      have bm := HLB.out (j + 1) hj1N
      have co := hown.at_ (n - 1) (by omega)
      have hlen := hown.len
      have hsum := ck.sum
      have hpos := ck.pos
      have hlast : (closedTo least l k).getD (n - 1) 0 ∈ closedTo least l k := getD_mem (by omega)
      have hl3 := mem_le_sum hpos hlast
      have hl4 := hpos _ hlast
      have hS : (l.take (2 * k + 1)).sum ≤ 100000 * (2 * k + 1 : Nat) := by
        have key : ∀ (m : List Int), (∀ x ∈ m, x ≤ 100000) → m.sum ≤ 100000 * (m.length : Int) := by
          intro m
          induction m with
          | nil => intro _; simp
          | cons a r ih =>
            intro hm
            have h1 := hm a (by simp)
            have h2 := ih fun x hx => hm x (by simp [hx])
            simp only [List.sum_cons, List.length_cons]
            omega
        have h1 := key (l.take (2 * k + 1)) fun x hx => (HM.out x (List.mem_of_mem_take hx)).2
        have h2 : (l.take (2 * k + 1)).length ≤ 2 * k + 1 := by rw [List.length_take]; omega
        omega
      rw [stepC, hlen] at hstep
      have hob : 1 ≤ (closedTo least l k).getD (n - 1) 0 ∧ (closedTo least l k).getD (n - 1) 0 ≤ 4000200000 := by omega
      clear hsum hpos hlast hl3 hl4 hS ck
      obtain ⟨m, hmm⟩ : ∃ m, n - 1 = m := ⟨_, rfl⟩
      rw [hmm] at hstep co hob
      have hnm : n = m + 1 := by omega
      generalize hox : (closedTo least l k).getD m 0 = ox at *
      generalize hgg : l.getD j 0 = gp at *
      generalize hme : l.getD (j + 1) 0 = mk at *
      have HGG := Lib.hid hgg
      have HME := Lib.hid hme
      have HST := Lib.hid hstep
      have hJ1 : IntKind.i64.wrap ((j : Int) + 1) = ((j + 1 : Nat) : Int) := by
        rw [show (j : Int) + 1 = ((j + 1 : Nat) : Int) by omega]
        exact IntWalk.i64_in _ ⟨by omega, by omega⟩
      obtain ⟨J, hJ⟩ : ∃ J, j + 1 = J := ⟨_, rfl⟩
      rw [hJ] at hJ1 cm hj1N
      have HJJ := Lib.hid hJ
      have hJN : (J : Int) < (N : Int) := by omega
      have hJ0 : (0 : Int) ≤ (J : Int) := by omega
      have hm0 : (0 : Int) ≤ (m : Int) := by omega
      subst hnm
      have hw1 : IntKind.i64.wrap (((m + 1 : Nat) : Int) - 1) = (m : Int) := by
        rw [show ((m + 1 : Nat) : Int) - 1 = (m : Int) by omega]
        exact IntWalk.i64_in _ ⟨by omega, by omega⟩
      have hmn : (m : Int) < ((m + 1 : Nat) : Int) := by omega
      have hw2 : IntKind.i64.wrap (m : Int) = (m : Int) := IntWalk.i64_in _ ⟨by omega, by omega⟩
      have hmn2 : (m : Int) < (m : Int) + 1 := by omega
      have hmn3 : m < m + 1 := by omega
      have HOWN := Lib.hid hown
      clear hstep hox hgg hme hjj hJ hlen hA2
      by_cases hc : gp < least
      · have hs2 : closedTo least l (k + 1) = (closedTo least l k).set m (ox + (gp + mk)) := by rw [HST.out, if_pos hc]
        have HS2 := Lib.hid hs2
        clear hs2 hown
        have cgd : wr.drew.cell? ⟨ga, j, none⟩ = some (.int .i64 gp) := cg
        have cmd : wr.drew.cell? ⟨ga, J, none⟩ = some (.int .i64 mk) := cm
        have cod : wr.drew.cell? ⟨g, m, none⟩ = some (.int .i64 ox) := co
        have hs3 := World.ownsRow.stored (show World.ownsRow wr.drew w.heap.size 3 1 (.slice (some ⟨g, 0, none⟩) (m + 1) c2) (m + 1) ((closedTo least l k).map (Value.int .i64)) from HOWN.out) m (.int .i64 (ox + (gp + mk)))
        have hfz : wr.drew.frozen? ⟨g, m, none⟩ = false := World.ownsRow.frozenAt (show wr.ownsRow w.heap.size 3 1 (.slice (some ⟨g, 0, none⟩) (m + 1) c2) (m + 1) ((closedTo least l k).map (Value.int .i64)) from HOWN.out) m
        rw [← List.map_set] at hs3
        have HS3 := Lib.hid hs3
        clear hs3
        go_wp2_with fail
        go_still_tail 18, (by kernel_rfl)
        change wpList _ _ _ _ _ wr.drew
        go_wp2_with fail
        have hg3 : w.grownBy (wr.drew.setCell ⟨g, m, none⟩ (.int .i64 (ox + (gp + mk)))) none := gr_put (gr_drew hgr) (.inr hg0) _
        go_roundw
        case rel => exact ⟨k + 1, m + 1, j + 2, by show _ = _; have := HJ.out; omega, by omega, by have := HJ.out; omega, by go_num, by omega, hn2, by rw [HS2.out]; exact HS3.out.1, hg3⟩
        case measure => simp [intOf]; omega
      · have hs2 : closedTo least l (k + 1) = closedTo least l k ++ [gp, mk] := by rw [HST.out, if_neg hc]
        have HS2 := Lib.hid hs2
        have KX : Hid (∀ W' : World, w.grownBy W' none → W'.cell? ⟨ga, j, none⟩ = some (.int .i64 gp) ∧ W'.cell? ⟨ga, J, none⟩ = some (.int .i64 mk)) := fun W' hW => by
          have h1 := HLN.out W' hW j hlt
          have h2 := HLN.out W' hW J (by omega)
          exact ⟨by rw [h1, HGG.out], by rw [h2, ← HJJ.out, HME.out]⟩
        clear hs2 hown
        go_wp2_with fail
        go_region_held3 (fun W' => W'.cell? ⟨ga, j, none⟩ = some (.int .i64 gp) ∧ W'.cell? ⟨ga, J, none⟩ = some (.int .i64 mk))
          ((exact KX.out _ (by first | exact gr_grown (show w.grownBy _ none from gr_trans hgr (by repeat (first | exact gr_refl _ _ | assumption | refine gr_alloc ?_ _ | refine gr_drewN ?_ _ | refine gr_drew ?_))) hgq (fun kk h => .inr (HOWN.out.lt kk h).1) | exact gr_trans hgr (by repeat (first | exact gr_refl _ _ | assumption | refine gr_alloc ?_ _ | refine gr_drewN ?_ _ | refine gr_drew ?_)))))
          ((refine step_append_lies _ (by rfl) (.tmp 41) (.tmp 51) 22 (by rfl) w.heap.size 3 i0 _ 1 8 Tryd.underlying22 hi hz0 hz1 hz2 rfl (by decide) _ (m + 1) ((closedTo least l k).map (Value.int .i64)) (by simp [Act.eval]) (World.ownsRow.alloc (show World.ownsRow _ w.heap.size 3 1 _ (m + 1) ((closedTo least l k).map (Value.int .i64)) from HOWN.out) _) ⟨_, 0, none⟩ 2 2 [.int .i64 gp, .int .i64 mk] (by simp [Act.eval]) rfl (two_ints _ _ _ _) (two_intsOne _ _) (by decide) (by unfold maxLen; omega) (by omega) (by have := hgr.size; simp; omega) _ rfl ?_; intro gq cap w9 hqq hgq hat hglt))
        have hgF : w.grownBy w9 none := gr_grown (show w.grownBy _ none from gr_trans hgr (by repeat (first | exact gr_refl _ _ | assumption | refine gr_alloc ?_ _ | refine gr_drewN ?_ _ | refine gr_drew ?_))) hgq (fun kk h => .inr (HOWN.out.lt kk h).1)
        have hw9 : LFrom w.heap.size w9 (.slice (some ⟨gq, 0, none⟩) (m + 1 + 2) cap) (m + 1 + 2) (closedTo least l (k + 1)) := by
          unfold LFrom
          rw [HS2.out, List.map_append]
          exact hqq
        go_wp2_with fail
        go_roundw
        case rel => exact ⟨k + 1, m + 1 + 2, j + 2, by show _ = _; have := HJ.out; omega, by omega, by have := HJ.out; omega, by go_num, by omega, by omega, hw9, hgF⟩
        case measure => simp [intOf]; omega
    · have hlt2 : ¬ (j : Int) < (N : Int) := by omega
      have hkk : k = N / 2 := by have := HJ.out; omega
      have HO := Lib.hid hown
      clear hown
      go_wp2_with fail
      go_ret
      exact ⟨_, rfl, by rw [HCL.out, ← hkk]; exact HO.out.ints, hgr⟩
end Go.Proofs.YtcimnlcmpfagnaaDoor
