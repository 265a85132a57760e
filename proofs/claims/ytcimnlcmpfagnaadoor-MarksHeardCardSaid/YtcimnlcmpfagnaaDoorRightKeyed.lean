/- The walk over the stream's RightKeyed: at most 33 marks and gaps, an odd number of them, from 1 to 1500. Condition: MaxLen holds a number; the stream has handed out at most 10^9 numbers. -/
import Derived.Test.YtcimnlcmpfagnaaDoorKeysRef
import Derived.Test.YtcimnlcmpfagnaaDoorStreamStr
import Derived.Deep.RegionLaw
namespace Go.Proofs.YtcimnlcmpfagnaaDoor
open Go.RowKit
set_option linter.unusedVariables false
set_option linter.unusedSimpArgs false

/-- e, paris, k1ab k, test t, 5nn, a n. -/
def sixL : List ByteArray := [⟨#[101]⟩, ⟨#[112, 97, 114, 105, 115]⟩, ⟨#[107, 49, 97, 98, 32, 107]⟩, ⟨#[116, 101, 115, 116, 32, 116]⟩, ⟨#[53, 110, 110]⟩, ⟨#[97, 32, 110]⟩]
def goodK (l : List Int) : Bool := decide (l.length % 2 = 1) && decide (l.length ≤ 33) && l.all fun x => decide (1 ≤ x ∧ x ≤ 1400)
theorem six_good : ∀ s ∈ sixL, ∀ u ∈ [(1 : Int), 20, 60, 100], ∀ m ∈ [(1 : Int), 1, 2], goodK (keyedL s.data.toList u (u * m)) = true := by decide +kernel
theorem six_said : ∀ s ∈ sixL, s.size ≤ 500 ∧ ∀ c ∈ s.data.toList, c = 32 ∨ codeOf c ≠ [] := by decide +kernel
theorem goodK_is {l : List Int} (h : goodK l = true) : l.length % 2 = 1 ∧ l.length ≤ 33 ∧ ∀ x ∈ l, 1 ≤ x ∧ x ≤ 1400 := by
  unfold goodK at h
  simp only [Bool.and_eq_true, decide_eq_true_eq, List.all_eq_true] at h
  exact ⟨h.1.1, h.1.2, h.2⟩
def RightKeyedPost (b k : Nat) (w : World) (e : Ending) (w' : World) : Prop :=
  ∃ (v : Value) (l : List Int), e = .returned v ∧ IntsFrom w.heap.size w' v l ∧ l.length % 2 = 1 ∧ l.length ≤ 33 ∧ (∀ x ∈ l, 1 ≤ x ∧ x ≤ 1500) ∧ Str w' b (k + 80) ∧ w.grownBy w' (some b)
theorem IntsFrom.put {base g c q : Nat} {w : World} {l : List Int} (h : IntsFrom base w (.slice (some ⟨g, 0, none⟩) l.length c) l) (x : Int) : IntsFrom base (w.setCell ⟨g, q, none⟩ (.int .i64 x)) (.slice (some ⟨g, 0, none⟩) l.length c) (l.set q x) := by
  have h1 := (World.ownsRow.stored h q (.int .i64 x)).1
  rw [← List.map_set] at h1
  unfold IntsFrom
  rw [List.length_set]
  exact h1

theorem IntsFrom.putN {base g c q N : Nat} {w : World} {l : List Int} (hN : l.length = N) (h : IntsFrom base w (.slice (some ⟨g, 0, none⟩) N c) l) (x : Int) : IntsFrom base (w.setCell ⟨g, q, none⟩ (.int .i64 x)) (.slice (some ⟨g, 0, none⟩) N c) (l.set q x) := by
  subst hN; exact IntsFrom.put h x
theorem IntsFrom.frz {base g c N : Nat} {w : World} {l : List Int} (hN : l.length = N) (h : IntsFrom base w (.slice (some ⟨g, 0, none⟩) N c) l) (i : Nat) : w.frozen? ⟨g, i, none⟩ = false := by
  subst hN; exact World.ownsRow.frozenAt h i
theorem IntsFrom.atN {base g c N : Nat} {w : World} {l : List Int} (hN : l.length = N) (h : IntsFrom base w (.slice (some ⟨g, 0, none⟩) N c) l) (k : Nat) (hk : k < l.length) : w.cell? ⟨g, k, none⟩ = some (.int .i64 l[k]) := by
  subst hN; exact h.at_ k hk
set_option maxRecDepth 100000 in
set_option maxHeartbeats 16000000 in
theorem rightKeyed_in (B b k : Nat) (w : World) (hs : Str w b k) (hk : k ≤ 1000000000) (hgl : Gl B w) (hB : B ≤ b) :
    Calls Tryd.prog 50 #[.pointer (some ⟨b, 0, none⟩)] w (RightKeyedPost b k w) := by
  have hbs := hs.lt
  have HGL := Lib.hid hgl
  clear hgl
  go_enter Tryd.func50, Tryd.ntmps50
  go_wp2_with fail
  refine (pick_at b k _ 4 4 [1, 20, 60, 100] _ hs (by first | rfl | simp) (by omega) rfl (by decide) (by decide)).mono ?_
  rintro _ w1 ⟨u, hu, rfl, hs1, hg1⟩
  have HU := Lib.hid hu
  clear hu
  go_wp2_with fail
  refine (some_at b _ _ 6 6 sixL _ hs1 (by first | rfl | simp) (by omega) rfl (by decide) (by decide)).mono ?_
  rintro _ w2 ⟨s, hsix, rfl, hs2, hg2⟩
  have HS := Lib.hid hsix
  have hG2 := gr_trans hg1 hg2
  clear hsix hs1 hg1 hg2
  go_wp2_with fail
  refine (pick_at b _ _ 3 3 [1, 1, 2] _ hs2 (by first | rfl | simp) (by omega) rfl (by decide) (by decide)).mono ?_
  rintro _ w3 ⟨m, hm, rfl, hs3, hg3⟩
  have HM := Lib.hid hm
  have hG3 := gr_trans hG2 hg3
  have hub : 1 ≤ u ∧ u ≤ 100 := by have := HU.out; simp at this; omega
  have hmb : 1 ≤ m ∧ m ≤ 2 := by have := HM.out; simp at this; omega
  have hgood := goodK_is (six_good s HS.out u HU.out m HM.out)
  have hsaid := six_said s HS.out
  obtain ⟨sl, hsl⟩ : ∃ sl, u * m = sl := ⟨_, rfl⟩
  have hslb : 0 ≤ sl ∧ sl ≤ 200 := by
    rw [← hsl]
    rcases (show m = 1 ∨ m = 2 by omega) with rfl | rfl <;> omega
  have hwr : IntKind.i64.wrap (u * m) = sl := by rw [hsl]; exact IntWalk.i64_in _ ⟨by omega, by omega⟩
  rw [hsl] at hgood
  have hG3' := hG3
  have hgl3 := HGL.out.grown hG3 (fun g e => by injection e with e; omega)
  have HGL3 := Lib.hid hgl3
  obtain ⟨L, hL⟩ : ∃ L, keyedL s.data.toList u sl = L := ⟨_, rfl⟩
  rw [hL] at hgood
  have HLG := Lib.hid hgood
  have HSA := Lib.hid hsaid
  have HLL := Lib.hid hL
  clear hm hs2 hG2 hg3 hsl hgl3 hgood hsaid hL hG3'
  go_wp2_with fail
  refine (keyedOf_any B s u sl _ HGL3.out HSA.out.1 HSA.out.2 (by omega) (by omega) (by omega) (by omega)).mono ?_
  rintro _ w4 ⟨v, rfl, hv, hg4⟩
  rw [HLL.out] at hv
  obtain ⟨A, c, rfl, hLl, hA⟩ := hv.shape
  obtain ⟨g, rfl, hg0, hg1⟩ := hA (by have := HLG.out.1; omega)
  have hs4 := hs3.grown hg4 (by simp)
  have hG4 := gr_trans hG3 (gr_weak hg4 (some b))
  have hsz3 := hG3.size
  have hbg : b < g := by omega
  have hLo := HLG.out.1
  have hL33 := HLG.out.2.1
  obtain ⟨N, hN⟩ : ∃ N, L.length = N := ⟨_, rfl⟩
  rw [hN] at hLl hLo hL33 ⊢
  have HN := Lib.hid hN
  have hv4 : IntsFrom w3.heap.size w4 (.slice (some ⟨g, 0, none⟩) N c) L := by rw [← hN]; exact hv
  have HV := Lib.hid hv4
  clear hv hv4 hA hg4 hG3 hs3 hN
  go_wp2_with fail
  go_loopw [21] (fun i wr => ∃ (j : Nat) (l : List Int), j ≤ N ∧ i = .int .i64 j ∧ Hid (l.length = N) ∧ Hid (∀ q x, l[q]? = some x → 1 ≤ x ∧ x ≤ 1500 ∧ (j ≤ q → x ≤ 1400)) ∧ Hid (IntsFrom w3.heap.size wr (.slice (some ⟨g, 0, none⟩) N c) l) ∧ Str wr b (k + 3 + 2 * j) ∧ w.grownBy wr (some b)) (fun i _ => N - (intOf i).toNat)
  case atStart => exact ⟨0, L, by omega, rfl, HN.out, (fun q x hx => by have := HLG.out.2.2 x (List.mem_of_getElem? hx); omega), HV, hs4.mono (by omega), hG4⟩
  case round =>
    clear hs4 hG4
    obtain ⟨j, l, hj, rfl, HL2, HB, HO, hsr, hgr⟩ := hrel
    by_cases hlt : j < N
    · have hlt2 : (j : Int) < (N : Int) := by omega
      go_wp2_with fail
      refine (flip_in b _ 3 _ hsr (by omega) (by omega) (by omega)).mono ?_
      rintro _ w5 ⟨fl, rfl, hs5, hg5⟩
      have hO5 := Lib.hid (IntsFrom.other HO.out hg5 (by omega))
      have hG5 := gr_trans hgr hg5
      clear hsr hgr hg5
      cases fl
      · have HB2 : Hid (∀ q x, l[q]? = some x → 1 ≤ x ∧ x ≤ 1500 ∧ (j + 1 ≤ q → x ≤ 1400)) := fun q x hx => by have := HB.out q x hx; omega
        go_wp2_with fail
        go_roundw
        case rel => exact ⟨j + 1, l, by omega, by go_num, HL2, HB2, hO5, hs5.mono (by omega), hG5⟩
        case measure => simp [intOf]; omega
      · have hjl : j < l.length := by rw [HL2.out]; exact hlt
        have hat : w5.cell? ⟨g, j, none⟩ = some (.int .i64 l[j]) := by
          have h := hO5.out
          rw [← HL2.out] at h
          exact h.at_ j hjl
        have hxb := HB.out j l[j] (List.getElem?_eq_getElem hjl)
        obtain ⟨x, hx⟩ : ∃ x, l[j] = x := ⟨_, rfl⟩
        rw [hx] at hat hxb
        have hx1 : 1 ≤ x ∧ x ≤ 1400 := by omega
        have hgs : g < w5.heap.size := World.block_lt_of_cell? w5 _ hat
        have hfz : ∀ i, w5.frozen? ⟨g, i, none⟩ = false := fun i => IntsFrom.frz HL2.out hO5.out i
        have HFZ : Hid (∀ W : World, IntsFrom w3.heap.size W (.slice (some ⟨g, 0, none⟩) N c) l → ∀ i, W.frozen? ⟨g, i, none⟩ = false) := fun W h i => IntsFrom.frz HL2.out h i
        have HAT : Hid (∀ W : World, IntsFrom w3.heap.size W (.slice (some ⟨g, 0, none⟩) N c) l → W.cell? ⟨g, j, none⟩ = some (.int .i64 x)) := fun W h => by rw [IntsFrom.atN HL2.out h j hjl, hx]
        have hrest : ∀ (y : Int) (W' : World), 1 ≤ y → y ≤ 1500 → IntsFrom w3.heap.size W' (.slice (some ⟨g, 0, none⟩) N c) (l.set j y) → Str W' b (k + 3 + 2 * j + 2) → w.grownBy W' (some b) →
            ∃ (j2 : Nat) (l2 : List Int), j2 ≤ N ∧ Value.int .i64 ((j : Int) + 1) = .int .i64 j2 ∧ Hid (l2.length = N) ∧ Hid (∀ q x, l2[q]? = some x → 1 ≤ x ∧ x ≤ 1500 ∧ (j2 ≤ q → x ≤ 1400)) ∧ Hid (IntsFrom w3.heap.size W' (.slice (some ⟨g, 0, none⟩) N c) l2) ∧ Str W' b (k + 3 + 2 * j2) ∧ w.grownBy W' (some b) := fun y W' hy0 hy1 h1 h2 h3 =>
          ⟨j + 1, l.set j y, by omega, by go_num, by show _ = _; rw [List.length_set]; exact HL2.out, (fun q z hz => by
            rw [List.getElem?_set] at hz
            split at hz
            · first
                | (injection hz with hz; omega)
                | (split at hz; (injection hz with hz; omega); cases hz)
            · have := HB.out q z hz; omega), h1, h2.mono (by omega), h3⟩
        have HRE := Lib.hid hrest
        have hd1 : w5.drew.cell? ⟨g, j, none⟩ = some (.int .i64 x) := hat
        have hj0 : (0 : Int) ≤ (j : Int) := by omega
        clear hx hrest
        rcases (show u = 1 ∨ u = 20 ∨ u = 60 ∨ u = 100 by have := HU.out; simp at this; omega) with rfl | rfl | rfl | rfl
        · go_wp2_with fail
          go_region_law (first | (go_simp; go_at_call 8; refine (pick_in b (k + 3 + 2 * j + 1) _ 6 6 [1, -1, 0, 0, 1, -1] _ (by repeat (first | exact hs5 | refine Str.drew ?_ | refine Str.alloc ?_ _)) (by omega) (by repeat (first | exact Blk.new _ _ _ | refine Blk.drew ?_ | refine Blk.alloc ?_ _)) (by first | omega | (simp; omega)) rfl (by decide) (by decide)).mono ?_; rintro _ wP ⟨px, hpx, rfl, hsP, hgP⟩; have hOP := IntsFrom.other (hO5.out.grown (by repeat (first | exact gr_refl _ _ | assumption | refine gr_alloc ?_ _ | refine gr_drewN ?_ _ | refine gr_drew ?_))) hgP (by omega); have eP := HAT.out wP hOP; have hGP := gr_trans (show w5.grownBy _ (some b) from gr_weak (by repeat (first | exact gr_refl _ _ | assumption | refine gr_alloc ?_ _ | refine gr_drewN ?_ _ | refine gr_drew ?_)) _) hgP; have hfP := HFZ.out wP hOP; have hgsP : g < wP.heap.size := World.block_lt_of_cell? wP _ eP) | fail)
          all_goals
            have hpb : -100 ≤ px ∧ px ≤ 100 := by simp at hpx; omega
            have hput := IntsFrom.putN (q := j) HL2.out hOP (max 1 (x + px))
            have hGF : w.grownBy (wP.setCell ⟨g, j, none⟩ (.int .i64 (max 1 (x + px)))) (some b) := gr_put (gr_trans hG5 hGP) (.inr (by show w.heap.size ≤ g; have := hG5.size; omega)) _
            have hsF := hsP.setCell (p := ⟨g, j, none⟩) hbg (.int .i64 (max 1 (x + px)))
            clear hpx
            go_wp2_with fail
            go_roundw
            case rel => exact HRE.out (max 1 (x + px)) _ (by omega) (by omega) hput (hsF.mono (by omega)) hGF
            case measure => simp [intOf]; omega
        · go_wp2_with fail
          go_region_law (first | (go_simp; go_at_call 8; refine (pick_in b (k + 3 + 2 * j + 1) _ 6 6 [1, -1, 6, -6, 20, -20] _ (by repeat (first | exact hs5 | refine Str.drew ?_ | refine Str.alloc ?_ _)) (by omega) (by repeat (first | exact Blk.new _ _ _ | refine Blk.drew ?_ | refine Blk.alloc ?_ _)) (by first | omega | (simp; omega)) rfl (by decide) (by decide)).mono ?_; rintro _ wP ⟨px, hpx, rfl, hsP, hgP⟩; have hOP := IntsFrom.other (hO5.out.grown (by repeat (first | exact gr_refl _ _ | assumption | refine gr_alloc ?_ _ | refine gr_drewN ?_ _ | refine gr_drew ?_))) hgP (by omega); have eP := HAT.out wP hOP; have hGP := gr_trans (show w5.grownBy _ (some b) from gr_weak (by repeat (first | exact gr_refl _ _ | assumption | refine gr_alloc ?_ _ | refine gr_drewN ?_ _ | refine gr_drew ?_)) _) hgP; have hfP := HFZ.out wP hOP; have hgsP : g < wP.heap.size := World.block_lt_of_cell? wP _ eP) | fail)
          all_goals
            have hpb : -100 ≤ px ∧ px ≤ 100 := by simp at hpx; omega
            have hput := IntsFrom.putN (q := j) HL2.out hOP (max 1 (x + px))
            have hGF : w.grownBy (wP.setCell ⟨g, j, none⟩ (.int .i64 (max 1 (x + px)))) (some b) := gr_put (gr_trans hG5 hGP) (.inr (by show w.heap.size ≤ g; have := hG5.size; omega)) _
            have hsF := hsP.setCell (p := ⟨g, j, none⟩) hbg (.int .i64 (max 1 (x + px)))
            clear hpx
            go_wp2_with fail
            go_roundw
            case rel => exact HRE.out (max 1 (x + px)) _ (by omega) (by omega) hput (hsF.mono (by omega)) hGF
            case measure => simp [intOf]; omega
        · go_wp2_with fail
          go_region_law (first | (go_simp; go_at_call 8; refine (pick_in b (k + 3 + 2 * j + 1) _ 6 6 [1, -1, 20, -20, 60, -60] _ (by repeat (first | exact hs5 | refine Str.drew ?_ | refine Str.alloc ?_ _)) (by omega) (by repeat (first | exact Blk.new _ _ _ | refine Blk.drew ?_ | refine Blk.alloc ?_ _)) (by first | omega | (simp; omega)) rfl (by decide) (by decide)).mono ?_; rintro _ wP ⟨px, hpx, rfl, hsP, hgP⟩; have hOP := IntsFrom.other (hO5.out.grown (by repeat (first | exact gr_refl _ _ | assumption | refine gr_alloc ?_ _ | refine gr_drewN ?_ _ | refine gr_drew ?_))) hgP (by omega); have eP := HAT.out wP hOP; have hGP := gr_trans (show w5.grownBy _ (some b) from gr_weak (by repeat (first | exact gr_refl _ _ | assumption | refine gr_alloc ?_ _ | refine gr_drewN ?_ _ | refine gr_drew ?_)) _) hgP; have hfP := HFZ.out wP hOP; have hgsP : g < wP.heap.size := World.block_lt_of_cell? wP _ eP) | fail)
          all_goals
            have hpb : -100 ≤ px ∧ px ≤ 100 := by simp at hpx; omega
            have hput := IntsFrom.putN (q := j) HL2.out hOP (max 1 (x + px))
            have hGF : w.grownBy (wP.setCell ⟨g, j, none⟩ (.int .i64 (max 1 (x + px)))) (some b) := gr_put (gr_trans hG5 hGP) (.inr (by show w.heap.size ≤ g; have := hG5.size; omega)) _
            have hsF := hsP.setCell (p := ⟨g, j, none⟩) hbg (.int .i64 (max 1 (x + px)))
            clear hpx
            go_wp2_with fail
            go_roundw
            case rel => exact HRE.out (max 1 (x + px)) _ (by omega) (by omega) hput (hsF.mono (by omega)) hGF
            case measure => simp [intOf]; omega
        · go_wp2_with fail
          go_region_law (first | (go_simp; go_at_call 8; refine (pick_in b (k + 3 + 2 * j + 1) _ 6 6 [1, -1, 33, -33, 100, -100] _ (by repeat (first | exact hs5 | refine Str.drew ?_ | refine Str.alloc ?_ _)) (by omega) (by repeat (first | exact Blk.new _ _ _ | refine Blk.drew ?_ | refine Blk.alloc ?_ _)) (by first | omega | (simp; omega)) rfl (by decide) (by decide)).mono ?_; rintro _ wP ⟨px, hpx, rfl, hsP, hgP⟩; have hOP := IntsFrom.other (hO5.out.grown (by repeat (first | exact gr_refl _ _ | assumption | refine gr_alloc ?_ _ | refine gr_drewN ?_ _ | refine gr_drew ?_))) hgP (by omega); have eP := HAT.out wP hOP; have hGP := gr_trans (show w5.grownBy _ (some b) from gr_weak (by repeat (first | exact gr_refl _ _ | assumption | refine gr_alloc ?_ _ | refine gr_drewN ?_ _ | refine gr_drew ?_)) _) hgP; have hfP := HFZ.out wP hOP; have hgsP : g < wP.heap.size := World.block_lt_of_cell? wP _ eP) | fail)
          all_goals
            have hpb : -100 ≤ px ∧ px ≤ 100 := by simp at hpx; omega
            have hput := IntsFrom.putN (q := j) HL2.out hOP (max 1 (x + px))
            have hGF : w.grownBy (wP.setCell ⟨g, j, none⟩ (.int .i64 (max 1 (x + px)))) (some b) := gr_put (gr_trans hG5 hGP) (.inr (by show w.heap.size ≤ g; have := hG5.size; omega)) _
            have hsF := hsP.setCell (p := ⟨g, j, none⟩) hbg (.int .i64 (max 1 (x + px)))
            clear hpx
            go_wp2_with fail
            go_roundw
            case rel => exact HRE.out (max 1 (x + px)) _ (by omega) (by omega) hput (hsF.mono (by omega)) hGF
            case measure => simp [intOf]; omega
    · have hlt2 : ¬ (j : Int) < (N : Int) := by omega
      obtain rfl : j = N := by omega
      go_wp2_with fail
      go_ret
      refine ⟨_, l, rfl, ?_, by rw [HL2.out]; exact hLo, by rw [HL2.out]; exact hL33, fun x hx => ?_, hsr.mono (by omega), hgr⟩
      · have h := HO.out
        exact ownsRow_low h (by omega)
      · obtain ⟨q, hq, rfl⟩ := List.mem_iff_getElem.1 hx
        have := HB.out q _ (List.getElem?_eq_getElem hq)
        omega
end Go.Proofs.YtcimnlcmpfagnaaDoor
