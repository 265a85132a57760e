/- The walk over the stream's Table: entities and prefixes whose parts are of a size. Condition: the stream stands at its beginning, or has handed out at most 10^9 numbers. The walks over call.Is, call.Distance and call.CheckCalls. Condition: strings of ASCII of at most 100 bytes. -/
import Derived.Test.YtbpkfkbbkgdlaaaGreatDoorPChkae
import Derived.Deep.RegionHeld
import Derived.Deep.DeepCutAuto
import Derived.Test.YtbpkfkbbkgdlaaaGreatDoorPChkab
import Derived.Test.YtbpkfkbbkgdlaaaGreatDoorPChkaa
import Derived.Deep.AppendLies
import Derived.Deep.RegionHeld3
import Derived.StillTailTactics
import Derived.Lib.UnsafeStr
import Derived.Lib.AppendStr
import Derived.Maps.OwnSet
namespace Go.Proofs.YtbpkfkbbkgdlaaaGreatDoor
open Go.RowKit
set_option linter.unusedVariables false
set_option linter.unusedSimpArgs false

theorem ent_put {base : Nat} {w : World} {g n c : Nat} {l : List Ent} (h : EntsFrom base w (.slice (some ⟨g, 0, none⟩) n c) l) (hn : n = l.length) (k : Nat) (hk : k < l.length) (K : ByteArray) (C Z : Int) :
 EntsFrom base (((w.setCell ⟨g, k * 5, none⟩ (.string K)).setCell ⟨g, k * 5 + 1, none⟩ (.int .i64 C)).setCell ⟨g, k * 5 + 2, none⟩ (.int .i64 Z)) (.slice (some ⟨g, 0, none⟩) n c) (l.set k ⟨K, C, Z, l[k].a, l[k].z⟩) ∧ w.grownBy (((w.setCell ⟨g, k * 5, none⟩ (.string K)).setCell ⟨g, k * 5 + 1, none⟩ (.int .i64 C)).setCell ⟨g, k * 5 + 2, none⟩ (.int .i64 Z)) (some g) := by
 unfold EntsFrom at h ⊢
 rw [← hn] at h
 have h0 := World.ownsRow.stored h (k * 5 + 0) (.string K)
 have h1 := World.ownsRow.stored h0.1 (k * 5 + 1) (.int .i64 C)
 have h2 := World.ownsRow.stored h1.1 (k * 5 + 2) (.int .i64 Z)
 have hl1 : k < (l.set k ⟨K, l[k].cont, l[k].zone, l[k].a, l[k].z⟩).length := by rw [List.length_set]; exact hk
 have hl2 : k < (l.set k ⟨K, C, l[k].zone, l[k].a, l[k].z⟩).length := by rw [List.length_set]; exact hk
 have e0 := flat_set encE 5 (fun _ => rfl) l k 0 hk (by decide) ⟨K, l[k].cont, l[k].zone, l[k].a, l[k].z⟩ (.string K) rfl
 have e1 := flat_set encE 5 (fun _ => rfl) (l.set k ⟨K, l[k].cont, l[k].zone, l[k].a, l[k].z⟩) k 1 hl1 (by decide) ⟨K, C, l[k].zone, l[k].a, l[k].z⟩ (.int .i64 C) (by rw [List.getElem_set_self]; rfl)
 have e2 := flat_set encE 5 (fun _ => rfl) (l.set k ⟨K, C, l[k].zone, l[k].a, l[k].z⟩) k 2 hl2 (by decide) ⟨K, C, Z, l[k].a, l[k].z⟩ (.int .i64 Z) (by rw [List.getElem_set_self]; rfl)
 rw [List.set_set] at e1 e2
 rw [e0, e1, e2] at h2
 rw [Nat.add_zero] at h0 h1 h2
 rw [List.length_set, ← hn]
 exact ⟨h2.1, gr_trans (gr_trans h0.2 h1.2) h2.2⟩
theorem pfx_put {base : Nat} {w : World} {g n c : Nat} {l : List Pfx} (h : PfxsFrom base w (.slice (some ⟨g, 0, none⟩) n c) l) (hn : n = l.length) (k : Nat) (hk : k < l.length) (B E : ByteArray) (a : Int) (W : Bool) :
 PfxsFrom base ((((w.setCell ⟨g, k * 6, none⟩ (.string B)).setCell ⟨g, k * 6 + 1, none⟩ (.string E)).setCell ⟨g, k * 6 + 2, none⟩ (.int .i64 a)).setCell ⟨g, k * 6 + 4, none⟩ (.bool W)) (.slice (some ⟨g, 0, none⟩) n c) (l.set k ⟨B, E, a, l[k].z, W, l[k].zone⟩) ∧ w.grownBy ((((w.setCell ⟨g, k * 6, none⟩ (.string B)).setCell ⟨g, k * 6 + 1, none⟩ (.string E)).setCell ⟨g, k * 6 + 2, none⟩ (.int .i64 a)).setCell ⟨g, k * 6 + 4, none⟩ (.bool W)) (some g) := by
 unfold PfxsFrom at h ⊢
 rw [← hn] at h
 have h0 := World.ownsRow.stored h (k * 6 + 0) (.string B)
 have h1 := World.ownsRow.stored h0.1 (k * 6 + 1) (.string E)
 have h2 := World.ownsRow.stored h1.1 (k * 6 + 2) (.int .i64 a)
 have h3 := World.ownsRow.stored h2.1 (k * 6 + 4) (.bool W)
 have hl1 : k < (l.set k ⟨B, l[k].ent, l[k].a, l[k].z, l[k].whole, l[k].zone⟩).length := by rw [List.length_set]; exact hk
 have hl2 : k < (l.set k ⟨B, E, l[k].a, l[k].z, l[k].whole, l[k].zone⟩).length := by rw [List.length_set]; exact hk
 have hl3 : k < (l.set k ⟨B, E, a, l[k].z, l[k].whole, l[k].zone⟩).length := by rw [List.length_set]; exact hk
 have e0 := flat_set encP 6 (fun _ => rfl) l k 0 hk (by decide) ⟨B, l[k].ent, l[k].a, l[k].z, l[k].whole, l[k].zone⟩ (.string B) rfl
 have e1 := flat_set encP 6 (fun _ => rfl) (l.set k ⟨B, l[k].ent, l[k].a, l[k].z, l[k].whole, l[k].zone⟩) k 1 hl1 (by decide) ⟨B, E, l[k].a, l[k].z, l[k].whole, l[k].zone⟩ (.string E) (by rw [List.getElem_set_self]; rfl)
 have e2 := flat_set encP 6 (fun _ => rfl) (l.set k ⟨B, E, l[k].a, l[k].z, l[k].whole, l[k].zone⟩) k 2 hl2 (by decide) ⟨B, E, a, l[k].z, l[k].whole, l[k].zone⟩ (.int .i64 a) (by rw [List.getElem_set_self]; rfl)
 have e3 := flat_set encP 6 (fun _ => rfl) (l.set k ⟨B, E, a, l[k].z, l[k].whole, l[k].zone⟩) k 4 hl3 (by decide) ⟨B, E, a, l[k].z, W, l[k].zone⟩ (.bool W) (by rw [List.getElem_set_self]; rfl)
 rw [List.set_set] at e1 e2 e3
 rw [e0, e1, e2, e3] at h3
 rw [Nat.add_zero] at h0 h1 h2 h3
 rw [List.length_set, ← hn]
 exact ⟨h3.1, gr_trans (gr_trans (gr_trans h0.2 h1.2) h2.2) h3.2⟩
theorem own_apartT {w w' : World} {base : Nat} {e : TypeId} {s : Nat} {v : Value} {n : Nat} {xs : List Value} (h : w.ownsRow base e s v n xs) {row : Option Nat} (hg : w.grownBy w' row) (hr : ∀ g, v.ownBlock = some g → row ≠ some g) : w'.ownsRow base e s v n xs := by
 refine h.kept hg ?_
 cases hv : v.ownBlock with
 | none => exact .inl rfl
 | some g => exact .inr fun e => hr g hv e.symm
theorem set_all {α : Type} {P : α → Prop} {l : List α} (h : ∀ x ∈ l, P x) (k : Nat) (y : α) (hy : P y) : ∀ x ∈ l.set k y, P x := fun x hx => by
 rcases List.mem_or_eq_of_mem_set hx with h1 | h1
 ·exact h x h1
 ·rw [h1]; exact hy
def TabSPost (b k : Nat) (w : World) (e : Ending) (w' : World) : Prop :=
 ∃ (u v : Value) (l : List Ent) (p : List Pfx) (k' : Nat), e = .returned (.tuple #[u, v]) ∧ EntsFrom w.heap.size w' u l ∧ PfxsFrom w.heap.size w' v p ∧ l.length ≤ 6 ∧ p.length ≤ 24 ∧ (∀ x ∈ l, EntSm x) ∧ (∀ x ∈ p, PfxSm x) ∧ k' ≤ k + 300 ∧ Str w' b k' ∧ w.grownBy w' (some b)
set_option maxRecDepth 100000 in
set_option maxHeartbeats 32000000 in
theorem table_in (base b : Nat) (L : List Int) (k : Nat) (w : World) (hs : SX base w b L k) (hk : k ≤ 1000000000) :
 Calls Tryz.prog 7 #[.pointer (some ⟨b, 0, none⟩)] w (TabSPost b k w) := by
 have HRT := Lib.hid (rightTable_e base b L k w hs hk)
 have hbl := hs.lt
 obtain ⟨B, hB⟩ : ∃ B, w.heap.size = B := ⟨_, rfl⟩
 rw [hB] at hbl
 have HB := Lib.hid hB
 have HBL := Lib.hid hbl
 clear hs hB hbl
 go_enter Tryz.func7, Tryz.ntmps7
 go_wp2_with fail
 refine HRT.out.mono ?_
 rintro _ w1 ⟨u, v, l, p, k1, HR, rfl, hu, hv, hl1, hl6, hp24, hAE, hAP, hk0, hk1, sA1, hg1⟩
 rw [HB.out] at hu hv
 have hEsm := ents_sm hAE
 have hPsm := pfxs_sm hAP (rtAll_ascii HR.out)
 have HESM := Lib.hid hEsm
 have HPSM := Lib.hid hPsm
 have hs1 := sA1.str
 have hPb : ∀ x ∈ p, 0 ≤ x.a ∧ x.a ≤ 345686400000 := fun x hx => ⟨(hAP x hx).2.2.1, (hAP x hx).2.2.2.1⟩
 have HPB := Lib.hid hPb
 clear hAE hAP HR HRT hEsm hPsm sA1 hPb
 obtain ⟨AE, ce, rfl, _, hAE⟩ := hu.shape
 obtain ⟨gE, rfl, hgEB, hgEl⟩ := hAE (by omega)
 obtain ⟨AP, cp, rfl, _, hAP⟩ := hv.shape
 obtain ⟨NL, hNL⟩ : ∃ NL, l.length = NL := ⟨_, rfl⟩
 obtain ⟨NP, hNP⟩ : ∃ NP, p.length = NP := ⟨_, rfl⟩
 have hap : ∀ g, (Value.slice AP NP cp).ownBlock = some g → g ≠ gE := fun g e e2 => by
  subst e2
  rw [hNP] at hv
  rw [hNL] at hu
  rcases (show World.ownsRow _ _ _ _ _ _ _ from hv).2 with ⟨e3, _⟩ | ⟨g2, cap, cur, e3, _, hh, _⟩
  ·rw [e3] at e; simp [Value.ownBlock] at e
  ·rw [e3] at e
   simp only [Value.ownBlock, Option.some.injEq] at e
   subst e
   rcases (show World.ownsRow _ _ _ _ _ _ _ from hu).2 with ⟨e4, _⟩ | ⟨g3, cap3, cur3, e4, _, hh3, _⟩
   ·simp at e4
   ·simp only [Value.slice.injEq, Option.some.injEq, Addr.mk.injEq, and_true, true_and] at e4
    obtain ⟨rfl, _⟩ := e4
    rw [hh] at hh3
    injection hh3 with hh3
    injection hh3 with _ h9 _
    exact absurd h9 (by decide)
 have HNL := Lib.hid hNL
 have HNP := Lib.hid hNP
 rw [hNL] at hu hl1 hl6
 rw [hNP] at hv hp24 hAP
 (try rw [hNL])
 (try rw [hNP])
 have HU := Lib.hid hu
 have HV := Lib.hid hv
 have HAP := Lib.hid hAP
 have HAPT := Lib.hid hap
 clear hNL hNP hu hv hAE hAP hap
 have hnl0 : (0 : Int) < (NL : Int) := by omega
 have hnl0d : decide (0 < NL) = true := by rw [decide_eq_true_eq]; omega
 go_upto_region 2 with fail
 go_cut [19] (fun bv wx => ∃ f1 : Bool, bv = .bool f1 ∧ Str wx b (k1 + 1) ∧ w1.grownBy wx (some b))
 case first =>
  as_aux_lemma =>
   go_wp2_with fail
   refine (flip_in b k1 15 _ hs1 (by omega) (by omega) (by omega)).mono ?_
   rintro _ w2 ⟨f1, rfl, hs2, hg2⟩
   cases f1
   ·go_wp2_with fail
    go_meet
    exact ⟨false, rfl, hs2, hg2⟩
   ·go_wp2_with fail
    go_meet
    exact ⟨true, rfl, hs2, hg2⟩
 case rest =>
 obtain ⟨f1, rfl, hs2, hg2⟩ := hcut
 rename World => w2
 have HU2 := Lib.hid (EntsFrom.other HU.out hg2 HBL.out)
 have HV2 := Lib.hid (PfxsFrom.other HV.out hg2 HBL.out)
 have hg02 := gr_trans hg1 hg2
 clear hs1 hg1 hg2 HU HV
 go_upto_if 19 with fail
 go_cut [6] (fun _ wx => ∃ (l2 : List Ent) (k2 : Nat), Hid (l2.length = NL) ∧ Hid (EntsFrom B wx (.slice (some ⟨gE, 0, none⟩) NL ce) l2) ∧ Hid (PfxsFrom B wx (.slice AP NP cp) p) ∧ Hid (∀ x ∈ l2, EntSm x) ∧ k2 ≤ k1 + 10 ∧ Str wx b k2 ∧ w.grownBy wx (some b))
 case first =>
  as_aux_lemma =>
   cases f1
   ·go_wp2_with fail
    go_meet
    exact ⟨l, k1 + 1, HNL.out, HU2.out, HV2.out, HESM.out, by omega, hs2, hg02⟩
   ·go_wp2_with fail
    refine (next_in b _ (NL : Int) _ hs2 (by omega) (by omega) (by omega)).mono ?_
    rintro _ w3 ⟨z, hz0, hz1, rfl, hs3, hg3⟩
    obtain ⟨i, rfl⟩ := Int.eq_ofNat_of_zero_le hz0
    have hil : i < l.length := by rw [HNL.out]; omega
    have HU3 := Lib.hid (EntsFrom.other HU2.out hg3 HBL.out)
    have HV3 := Lib.hid (PfxsFrom.other HV2.out hg3 HBL.out)
    have hg03 := gr_trans hg02 hg3
    have hrow : EntsFrom B w3 (.slice (some ⟨gE, 0, none⟩) l.length ce) l := by rw [HNL.out]; exact HU3.out
    obtain ⟨q0, q1, q2, _, _⟩ := hrow.at_ i hil
    have hK := (HESM.out _ (List.getElem_mem hil)).1
    have HEZ := Lib.hid (HESM.out _ (List.getElem_mem hil)).2
    have hgE3 := Nat.lt_of_lt_of_le (Nat.lt_of_lt_of_le hgEl (Nat.le_refl _)) (Nat.le_refl _)
    generalize hKE : l[i].key = KE at *
    clear hs2 hg02 hg3 HU2 HV2 hrow hKE hgE3
    have hgEb : gE ≠ b := by have := HBL.out; omega
    go_wp2_with fail
    refine (some_at b _ _ 3 3 [KE, ⟨#[]⟩, ⟨#[117, 115, 97]⟩] _ hs3 (by first | rfl | simp) (by omega) rfl (by decide) (by decide)).mono ?_
    rintro _ w4 ⟨s, hsm, rfl, hs4, hg4⟩
    have hss : s.size ≤ 1000000000 := by simp at hsm; rcases hsm with rfl | rfl | rfl <;> first | exact hK | decide
    have HU4 := Lib.hid (EntsFrom.other HU3.out hg4 HBL.out)
    have HV4 := Lib.hid (PfxsFrom.other HV3.out hg4 HBL.out)
    have hg04 := gr_trans hg03 hg4
    have q1 := hg4.cell q1 (by simpa using hgEb)
    have q2 := hg4.cell q2 (by simpa using hgEb)
    have q0 := hg4.cell q0 (by simpa using hgEb)
    clear hs3 hg03 hg4 HU3 HV3 hsm
    go_wp2_with fail
    refine (odd_in b _ 1 7 _ hs4 (by omega) (by decide) (by decide) (by decide)).mono ?_
    rintro _ w5 ⟨x, _, _, rfl, hs5, hg5⟩
    have HU5 := Lib.hid (EntsFrom.other HU4.out hg5 HBL.out)
    have HV5 := Lib.hid (PfxsFrom.other HV4.out hg5 HBL.out)
    have hg05 := gr_trans hg04 hg5
    have q1 := hg5.cell q1 (by simpa using hgEb)
    have q2 := hg5.cell q2 (by simpa using hgEb)
    have q0 := hg5.cell q0 (by simpa using hgEb)
    clear hs4 hg04 hg5 HU4 HV4
    go_wp2_with fail
    refine (odd_in b _ 1 90 _ hs5 (by omega) (by decide) (by decide) (by decide)).mono ?_
    rintro _ w6 ⟨y, _, _, rfl, hs6, hg6⟩
    have hU6 := EntsFrom.other HU5.out hg6 HBL.out
    have HV6 := Lib.hid (PfxsFrom.other HV5.out hg6 HBL.out)
    have hg06 := gr_trans hg05 hg6
    have q1 := hg6.cell q1 (by simpa using hgEb)
    have q2 := hg6.cell q2 (by simpa using hgEb)
    have q0 := hg6.cell q0 (by simpa using hgEb)
    have hfz : ∀ j, w6.frozen? ⟨gE, j, none⟩ = false := fun j => by
     have h := hU6
     unfold EntsFrom at h
     rw [HNL.out] at h
     exact World.ownsRow.frozenAt h j
    obtain ⟨p1, p2⟩ := ent_put hU6 HNL.out.symm i hil s x y
    have HP1 := Lib.hid p1
    have hs7 := hs6.grown p2 (fun g e => by injection e with e; have := HBL.out; omega)
    have HV7 := Lib.hid (own_apartT (show World.ownsRow _ _ _ _ _ _ _ from HV6.out) p2 (fun g e e2 => by injection e2 with e2; exact HAPT.out g (by rw [← HNP.out] ; rw [HNP.out]; exact e) e2.symm))
    have hg07 := gr_grown hg06 p2 (fun g e => by injection e with e; exact .inr (by have := HB.out; omega))
    have HSM : Hid (∀ q ∈ l.set i ⟨s, x, y, l[i].a, l[i].z⟩, EntSm q) := set_all HESM.out i _ ⟨hss, HEZ.out⟩
    have HLN : Hid ((l.set i ⟨s, x, y, l[i].a, l[i].z⟩).length = NL) := by show _ = _; rw [List.length_set]; exact HNL.out
    clear hs5 hg05 hg6 HU5 HV5 hU6 p1 p2 hs6 hg06 HV6
    go_wp2_with fail
    go_meet
    exact ⟨_, k1 + 1 + 1 + 1 + 2 + 2, HLN.out, HP1.out, HV7.out, HSM.out, by omega, hs7, hg07⟩
 case rest =>
  obtain ⟨l2, k2, HL2, HU2', HV2', HSM2, hk2, hs3, hg03⟩ := hcut
  rename World => w3
  clear HU2 HV2 hs2 hg02
  go_wp2_with fail
  refine (flip_in b k2 15 _ hs3 (by omega) (by omega) (by omega)).mono ?_
  rintro _ w4 ⟨f2, rfl, hs4, hg4⟩
  have HU4 := Lib.hid (EntsFrom.other HU2'.out hg4 HBL.out)
  have HV4 := Lib.hid (PfxsFrom.other HV2'.out hg4 HBL.out)
  have hg04 := gr_trans hg03 hg4
  have HEND : Hid (∀ (w' : World) (p2 : List Pfx) (k' : Nat), EntsFrom B w' (.slice (some ⟨gE, 0, none⟩) NL ce) l2 → p2.length = NP → PfxsFrom B w' (.slice AP NP cp) p2 → (∀ x ∈ p2, PfxSm x) → k' ≤ k2 + 20 → Str w' b k' → w.grownBy w' (some b) → TabSPost b k w (.returned (.tuple #[.slice (some ⟨gE, 0, none⟩) NL ce, .slice AP NP cp])) w') := fun w' p2 k' h1 h2 h3 h4 h5 h6 h7 =>
   ⟨_, _, l2, p2, k', rfl, by rw [HB.out]; exact h1, by rw [HB.out]; exact h3, by rw [HL2.out]; exact hl6, by rw [h2]; exact hp24, HSM2.out, h4, by omega, h6, h7⟩
  clear hs3 hg03 hg4 HU2' HV2' HL2 HSM2 HESM
  cases f2
  ·go_wp2_with fail
   go_ret2
   exact HEND.out _ p _ HU4.out HNP.out HV4.out HPSM.out (by omega) hs4 hg04
  ·by_cases hnp : 0 < NP
   ·have hnp0 : (0 : Int) < (NP : Int) := by omega
    have hnp0d : decide (0 < NP) = true := by rw [decide_eq_true_eq]; omega
    obtain ⟨gp, rfl, hgpB, hgpl⟩ := HAP.out hnp
    go_wp2_with fail
    refine (next_in b _ (NP : Int) _ hs4 (by omega) (by omega) (by omega)).mono ?_
    rintro _ w5 ⟨z, hz0, hz1, rfl, hs5, hg5⟩
    obtain ⟨i, rfl⟩ := Int.eq_ofNat_of_zero_le hz0
    have hil : i < p.length := by rw [HNP.out]; omega
    have HU5 := Lib.hid (EntsFrom.other HU4.out hg5 HBL.out)
    have HV5 := Lib.hid (PfxsFrom.other HV4.out hg5 HBL.out)
    have hg05 := gr_trans hg04 hg5
    have hrow : PfxsFrom B w5 (.slice (some ⟨gp, 0, none⟩) p.length cp) p := by rw [HNP.out]; exact HV5.out
    obtain ⟨q0, q1, q2, _, q4, _⟩ := hrow.at_ i hil
    have hXs := HPSM.out _ (List.getElem_mem hil)
    have hXb := HPB.out _ (List.getElem_mem hil)
    have HXZ : Hid (∀ (B' E' : ByteArray) (a' : Int) (W' : Bool), B'.size ≤ 1000000000 → Ascii B' → E'.size ≤ 1000000000 → -1152921504606846976 ≤ a' → a' ≤ 1152921504606846976 → PfxSm ⟨B', E', a', p[i].z, W', p[i].zone⟩) := fun B' E' a' W' h1 h2 h3 h4 h5 => ⟨h1, h2, h3, h4, h5, hXs.2.2.2.2.2.1, hXs.2.2.2.2.2.2⟩
    have hBs : p[i].beg.size ≤ 1000000000 ∧ Ascii p[i].beg ∧ p[i].ent.size ≤ 1000000000 := ⟨hXs.1, hXs.2.1, hXs.2.2.1⟩
    have HBS := Lib.hid hBs
    have HPUT : Hid (∀ W (B' E' : ByteArray) (a' : Int) (W' : Bool), PfxsFrom B W (.slice (some ⟨gp, 0, none⟩) NP cp) p → PfxsFrom B ((((W.setCell ⟨gp, i * 6, none⟩ (.string B')).setCell ⟨gp, i * 6 + 1, none⟩ (.string E')).setCell ⟨gp, i * 6 + 2, none⟩ (.int .i64 a')).setCell ⟨gp, i * 6 + 4, none⟩ (.bool W')) (.slice (some ⟨gp, 0, none⟩) NP cp) (p.set i ⟨B', E', a', p[i].z, W', p[i].zone⟩) ∧ W.grownBy ((((W.setCell ⟨gp, i * 6, none⟩ (.string B')).setCell ⟨gp, i * 6 + 1, none⟩ (.string E')).setCell ⟨gp, i * 6 + 2, none⟩ (.int .i64 a')).setCell ⟨gp, i * 6 + 4, none⟩ (.bool W')) (some gp)) := fun W B' E' a' W' h => pfx_put h HNP.out.symm i hil B' E' a' W'
    generalize p[i].beg = XB at *
    generalize p[i].ent = XE at *
    generalize p[i].a = XA at *
    generalize p[i].whole = XW at *
    have hgpb : gp ≠ b := by have := HBL.out; omega
    clear hs4 hg04 hg5 HU4 HV4 hrow hXs hBs
    go_upto_region 7 with fail
    have HKC : Hid (∀ V, w5.grownBy V (some b) → V.cell? ⟨gp, i * 6, none⟩ = some (.string XB) ∧ V.cell? ⟨gp, i * 6 + 1, none⟩ = some (.string XE) ∧ V.cell? ⟨gp, i * 6 + 2, none⟩ = some (.int .i64 XA) ∧ w5.grownBy V (some b)) := fun V hV => ⟨hV.cell q0 (by simpa using hgpb), hV.cell q1 (by simpa using hgpb), hV.cell q2 (by simpa using hgpb), hV⟩
    have HQ4 : Hid (∀ V, w5.grownBy V (some b) → V.cell? ⟨gp, i * 6 + 4, none⟩ = some (.bool XW)) := fun V hV => hV.cell q4 (by simpa using hgpb)
    clear q0 q1 q2 q4
    refine wp_region_late [30, 33, 37, 40] (fun V => V.cell? ⟨gp, i * 6, none⟩ = some (.string XB) ∧ V.cell? ⟨gp, i * 6 + 1, none⟩ = some (.string XE) ∧ V.cell? ⟨gp, i * 6 + 2, none⟩ = some (.int .i64 XA) ∧ w5.grownBy V (some b)) (by kernel_rfl) ?_
    have hS := hs5.drew
    have hG : w5.grownBy w5.drew (some b) := gr_drew (gr_refl _ _)
    generalize w5.drew = W0 at *
    refine wpLate_takeAny (i := 0) (v := ?_) rfl (by kernel_rfl) (by kernel_rfl) (by kernel_rfl) (by kernel_rfl) (fun _ _ _ h => h) (Or.inl ⟨by kernel_rfl, ?_⟩) (fun _ => HKC.out _ hG) ?_
    rotate_left
    ·intro w hSw
     go_simp
     (try with_reducible rfl)
    change wpLate _ _ _ _ _ _ _ _ (Act.put _ (some 59) _) _
    simp only [Act.put, ssA, ssZ, ssS]
    refine wpLate_takeAny (i := 1) (v := ?_) rfl (by kernel_rfl) (by kernel_rfl) (by kernel_rfl) (by kernel_rfl) (fun _ _ _ h => h) (Or.inl ⟨by kernel_rfl, ?_⟩) (fun _ => HKC.out _ hG) ?_
    rotate_left
    ·intro w hSw
     go_simp
     (try with_reducible rfl)
    change wpLate _ _ _ _ _ _ _ _ (Act.put _ (some 60) _) _
    simp only [Act.put, ssA, ssZ, ssS]
    refine wpLate_takeAny (i := 2) (v := ?_) rfl (by kernel_rfl) (by kernel_rfl) (by kernel_rfl) (by kernel_rfl) (fun _ _ _ h => h) (Or.inl ⟨by kernel_rfl, ?_⟩) (fun _ => HKC.out _ hG) ?_
    rotate_left
    ·intro w hSw
     go_simp
     (try with_reducible rfl)
    change wpLate _ _ _ _ _ _ _ _ (Act.put _ (some 61) _) _
    simp only [Act.put, ssA, ssZ, ssS]
    refine wpLate_takeAny (i := 3) (v := ?_) rfl (by kernel_rfl) (by kernel_rfl) (by kernel_rfl) (by kernel_rfl) (fun _ _ _ h => h) (Or.inl ⟨by kernel_rfl, ?_⟩) (fun _ => HKC.out _ hG) ?_
    rotate_left
    ·intro w hSw
     go_simp
     (try with_reducible rfl)
    change wpLate _ _ _ _ _ _ _ _ (Act.put _ (some 62) _) _
    simp only [Act.put, ssA, ssZ, ssS]
    refine wpLate_takeAny (i := 4) (v := ?_) rfl (by kernel_rfl) (by kernel_rfl) (by kernel_rfl) (by kernel_rfl) (fun _ _ _ h => h) (Or.inl ⟨by kernel_rfl, ?_⟩) (fun _ => HKC.out _ hG) ?_
    rotate_left
    ·intro w hSw
     go_simp
     (try with_reducible rfl)
    change wpLate _ _ _ _ _ _ _ _ (Act.put _ (some 63) _) _
    simp only [Act.put, ssA, ssZ, ssS]
    refine wpLate_takeAny (i := 5) (v := ?_) rfl (by kernel_rfl) (by kernel_rfl) (by kernel_rfl) (by kernel_rfl) (fun _ _ _ h => h) (Or.inl ⟨by kernel_rfl, ?_⟩) (fun _ => HKC.out _ hG) ?_
    rotate_left
    ·intro w hSw
     go_simp
     (try with_reducible rfl)
    change wpLate _ _ _ _ _ _ _ _ (Act.put _ (some 64) _) _
    simp only [Act.put, ssA, ssZ, ssS]
    refine wpLate_takeAny (i := 6) (v := ?_) rfl (by kernel_rfl) (by kernel_rfl) (by kernel_rfl) (by kernel_rfl) (fun _ _ _ h => h) (Or.inl ⟨by kernel_rfl, ?_⟩) (fun _ => HKC.out _ hG) ?_
    rotate_left
    ·intro w hSw
     go_simp
     (try with_reducible rfl)
    change wpLate _ _ _ _ _ _ _ _ (Act.put _ (some 65) _) _
    simp only [Act.put, ssA, ssZ, ssS]
    refine wpLate_takeAny (i := 7) (v := ?_) rfl (by kernel_rfl) (by kernel_rfl) (by kernel_rfl) (by kernel_rfl) (fun _ _ _ h => h) (Or.inl ⟨by kernel_rfl, ?_⟩) (fun _ => HKC.out _ hG) ?_
    rotate_left
    ·intro w hSw
     go_simp
     (try with_reducible rfl)
    change wpLate _ _ _ _ _ _ _ _ (Act.put _ (some 66) _) _
    simp only [Act.put, ssA, ssZ, ssS]
    refine wpLate_take (i := 8) (v := ?_) rfl (by kernel_rfl) (by kernel_rfl) (by kernel_rfl) (by kernel_rfl) (by kernel_rfl) (by kernel_rfl) (fun _ _ _ h => h) (Or.inl ⟨by kernel_rfl, ?_⟩) (HKC.out _ hG) ?_
    rotate_left
    ·intro w hSw
     (try dsimp only at hSw)
     obtain ⟨hS0, hS1, hS2, hS3⟩ := hSw
     go_simp
     (try with_reducible rfl)
    change wpLate _ _ _ _ _ _ _ _ (Act.put _ (some 67) _) _
    simp only [Act.put, ssA, ssZ, ssS]
    refine wpLate_takeAny (i := 11) (v := ?_) rfl (by kernel_rfl) (by kernel_rfl) (by kernel_rfl) (by kernel_rfl) (fun _ _ _ h => h) (Or.inl ⟨by kernel_rfl, ?_⟩) (fun _ => HKC.out _ hG) ?_
    rotate_left
    ·intro w hSw
     go_simp
     (try with_reducible rfl)
    change wpLate _ _ _ _ _ _ _ _ (Act.put _ (some 70) _) _
    simp only [Act.put, ssA, ssZ, ssS]
    refine wpLate_takeAny (i := 12) (v := ?_) rfl (by kernel_rfl) (by kernel_rfl) (by kernel_rfl) (by kernel_rfl) (fun _ _ _ h => h) (Or.inl ⟨by kernel_rfl, ?_⟩) (fun _ => HKC.out _ hG) ?_
    rotate_left
    ·intro w hSw
     go_simp
     (try with_reducible rfl)
    change wpLate _ _ _ _ _ _ _ _ (Act.put _ (some 71) _) _
    simp only [Act.put, ssA, ssZ, ssS]
    refine wpLate_takeAny (i := 13) (v := ?_) rfl (by kernel_rfl) (by kernel_rfl) (by kernel_rfl) (by kernel_rfl) (fun _ _ _ h => h) (Or.inl ⟨by kernel_rfl, ?_⟩) (fun _ => HKC.out _ hG) ?_
    rotate_left
    ·intro w hSw
     go_simp
     (try with_reducible rfl)
    change wpLate _ _ _ _ _ _ _ _ (Act.put _ (some 72) _) _
    simp only [Act.put, ssA, ssZ, ssS]
    refine wpLate_takeAny (i := 14) (v := ?_) rfl (by kernel_rfl) (by kernel_rfl) (by kernel_rfl) (by kernel_rfl) (fun _ _ _ h => h) (Or.inl ⟨by kernel_rfl, ?_⟩) (fun _ => HKC.out _ hG) ?_
    rotate_left
    ·intro w hSw
     go_simp
     (try with_reducible rfl)
    change wpLate _ _ _ _ _ _ _ _ (Act.put _ (some 73) _) _
    simp only [Act.put, ssA, ssZ, ssS]
    refine wpLate_take (i := 15) (v := ?_) rfl (by kernel_rfl) (by kernel_rfl) (by kernel_rfl) (by kernel_rfl) (by kernel_rfl) (by kernel_rfl) (fun _ _ _ h => h) (Or.inl ⟨by kernel_rfl, ?_⟩) (HKC.out _ hG) ?_
    rotate_left
    ·intro w hSw
     (try dsimp only at hSw)
     obtain ⟨hS0, hS1, hS2, hS3⟩ := hSw
     go_simp
     (try with_reducible rfl)
    change wpLate _ _ _ _ _ _ _ _ (Act.put _ (some 74) _) _
    simp only [Act.put, ssA, ssZ, ssS]
    refine wpLate_takeAny (i := 18) (v := ?_) rfl (by kernel_rfl) (by kernel_rfl) (by kernel_rfl) (by kernel_rfl) (fun _ _ _ h => h) (Or.inl ⟨by kernel_rfl, ?_⟩) (fun _ => HKC.out _ hG) ?_
    rotate_left
    ·intro w hSw
     go_simp
     (try with_reducible rfl)
    change wpLate _ _ _ _ _ _ _ _ (Act.put _ (some 77) _) _
    simp only [Act.put, ssA, ssZ, ssS]
    refine wpLate_takeAny (i := 19) (v := ?_) rfl (by kernel_rfl) (by kernel_rfl) (by kernel_rfl) (by kernel_rfl) (fun _ _ _ h => h) (Or.inl ⟨by kernel_rfl, ?_⟩) (fun _ => HKC.out _ hG) ?_
    rotate_left
    ·intro w hSw
     go_simp
     (try with_reducible rfl)
    change wpLate _ _ _ _ _ _ _ _ (Act.put _ (some 78) _) _
    simp only [Act.put, ssA, ssZ, ssS]
    refine wpLate_takeAny (i := 20) (v := ?_) rfl (by kernel_rfl) (by kernel_rfl) (by kernel_rfl) (by kernel_rfl) (fun _ _ _ h => h) (Or.inl ⟨by kernel_rfl, ?_⟩) (fun _ => HKC.out _ hG) ?_
    rotate_left
    ·intro w hSw
     go_simp
     (try with_reducible rfl)
    change wpLate _ _ _ _ _ _ _ _ (Act.put _ (some 79) _) _
    simp only [Act.put, ssA, ssZ, ssS]
    refine wpLate_takeAny (i := 21) (v := ?_) rfl (by kernel_rfl) (by kernel_rfl) (by kernel_rfl) (by kernel_rfl) (fun _ _ _ h => h) (Or.inl ⟨by kernel_rfl, ?_⟩) (fun _ => HKC.out _ hG) ?_
    rotate_left
    ·intro w hSw
     go_simp
     (try with_reducible rfl)
    change wpLate _ _ _ _ _ _ _ _ (Act.put _ (some 80) _) _
    simp only [Act.put, ssA, ssZ, ssS]
    refine wpLate_takeAny (i := 22) (v := ?_) rfl (by kernel_rfl) (by kernel_rfl) (by kernel_rfl) (by kernel_rfl) (fun _ _ _ h => h) (Or.inl ⟨by kernel_rfl, ?_⟩) (fun _ => HKC.out _ hG) ?_
    rotate_left
    ·intro w hSw
     go_simp
     (try with_reducible rfl)
    change wpLate _ _ _ _ _ _ _ _ (Act.put _ (some 81) _) _
    simp only [Act.put, ssA, ssZ, ssS]
    refine wpLate_take (i := 23) (v := ?_) rfl (by kernel_rfl) (by kernel_rfl) (by kernel_rfl) (by kernel_rfl) (by kernel_rfl) (by kernel_rfl) (fun _ _ _ h => h) (Or.inl ⟨by kernel_rfl, ?_⟩) (HKC.out _ hG) ?_
    rotate_left
    ·intro w hSw
     (try dsimp only at hSw)
     obtain ⟨hS0, hS1, hS2, hS3⟩ := hSw
     go_simp
     (try with_reducible rfl)
    change wpLate _ _ _ _ _ _ _ _ (Act.put _ (some 82) _) _
    simp only [Act.put, ssA, ssZ, ssS]
    refine wpLate_takeAny (i := 26) (v := ?_) rfl (by kernel_rfl) (by kernel_rfl) (by kernel_rfl) (by kernel_rfl) (fun _ _ _ h => h) (Or.inl ⟨by kernel_rfl, ?_⟩) (fun _ => HKC.out _ hG) ?_
    rotate_left
    ·intro w hSw
     go_simp
     (try with_reducible rfl)
    change wpLate _ _ _ _ _ _ _ _ (Act.put _ (some 85) _) _
    simp only [Act.put, ssA, ssZ, ssS]
    refine wpLate_ready (rs := [9, 16, 24]) (by kernel_rfl) (by simp) ?_
    refine AllLate.cons (o := _) rfl (fun K hK => ?n3) (AllLate.cons (o := _) rfl (fun K hK => ?n2) (AllLate.cons (o := _) rfl (fun K hK => ?n1) AllLate.nil))
    case' n3 =>
     go_simp
     have hLa := Blk.new W0 9 #[.string XB, .string ⟨#[]⟩, .string ⟨#[107, 49, 97, 98]⟩, .string ⟨#[107]⟩]
     have hLab : W0.heap.size ≠ b := by have := hS.lt; omega
     replace hS := hS.alloc (.cells #[.string XB, .string ⟨#[]⟩, .string ⟨#[107, 49, 97, 98]⟩, .string ⟨#[107]⟩] 9)
     replace hG := gr_alloc hG (.cells #[.string XB, .string ⟨#[]⟩, .string ⟨#[107, 49, 97, 98]⟩, .string ⟨#[107]⟩] 9)
     generalize W0.alloc (.cells #[.string XB, .string ⟨#[]⟩, .string ⟨#[107, 49, 97, 98]⟩, .string ⟨#[107]⟩] 9) = W1 at *
     generalize W0.heap.size = gA at *
     refine hK.out _ _ (fun _ => HKC.out _ hG) ?_
     clear hK K
     (try simp only [Act.put, ssA, ssZ, ssS])
     refine wpLate_ready (rs := [10, 16, 24]) (by kernel_rfl) (by simp) ?_
     refine AllLate.cons (o := _) rfl (fun K hK => ?n6) (AllLate.cons (o := _) rfl (fun K hK => ?n5) (AllLate.cons (o := _) rfl (fun K hK => ?n4) AllLate.nil))
     case' n6 =>
      go_simp
      (go_at_call 42; refine (some_in b _ gA 4 4 [XB, ⟨#[]⟩, ⟨#[107, 49, 97, 98]⟩, ⟨#[107]⟩] _ hS (by omega) hLa hLab rfl (by decide) (by decide)).mono ?_; rintro _ W2 ⟨s1, hs1, rfl, hS2, hg2⟩)
      replace hG := gr_trans hG hg2
      replace hLa := Blk.grown hLa hg2 (by simpa using hLab)
      clear hS
      have hS := hS2
      clear hS2 hg2
      refine hK.out _ _ (fun _ => HKC.out _ hG) ?_
      clear hK K
      (try simp only [Act.put, ssA, ssZ, ssS])
      refine wpLate_ready (rs := [16, 24]) (by kernel_rfl) (by simp) ?_
      refine AllLate.cons (o := _) rfl (fun K hK => ?n8) (AllLate.cons (o := _) rfl (fun K hK => ?n7) AllLate.nil)
      case' n8 =>
       go_simp
       have hLb := Blk.new W2 9 #[.string XE, .string ⟨#[110, 111, 110, 101]⟩]
       have hLbb : W2.heap.size ≠ b := by have := hS.lt; omega
       replace hS := hS.alloc (.cells #[.string XE, .string ⟨#[110, 111, 110, 101]⟩] 9)
       replace hLa := Blk.alloc hLa (.cells #[.string XE, .string ⟨#[110, 111, 110, 101]⟩] 9)
       replace hG := gr_alloc hG (.cells #[.string XE, .string ⟨#[110, 111, 110, 101]⟩] 9)
       generalize W2.alloc (.cells #[.string XE, .string ⟨#[110, 111, 110, 101]⟩] 9) = W3 at *
       generalize W2.heap.size = gB at *
       refine hK.out _ _ (fun _ => HKC.out _ hG) ?_
       clear hK K
       (try simp only [Act.put, ssA, ssZ, ssS])
       refine wpLate_ready (rs := [17, 24]) (by kernel_rfl) (by simp) ?_
       refine AllLate.cons (o := _) rfl (fun K hK => ?n10) (AllLate.cons (o := _) rfl (fun K hK => ?n9) AllLate.nil)
       case' n10 =>
        go_simp
        (go_at_call 42; refine (some_in b _ gB 2 2 [XE, ⟨#[110, 111, 110, 101]⟩] _ hS (by omega) hLb hLbb rfl (by decide) (by decide)).mono ?_; rintro _ W4 ⟨s2, hs2, rfl, hS2, hg2⟩)
        replace hG := gr_trans hG hg2
        replace hLa := Blk.grown hLa hg2 (by simpa using hLab)
        replace hLb := Blk.grown hLb hg2 (by simpa using hLbb)
        clear hS
        have hS := hS2
        clear hS2 hg2
        refine hK.out _ _ (fun _ => HKC.out _ hG) ?_
        clear hK K
        (try simp only [Act.put, ssA, ssZ, ssS])
        refine wpLate_ready (rs := [24]) (by kernel_rfl) (by simp) ?_
        refine AllLate.cons (o := _) rfl (fun K hK => ?n11) AllLate.nil
        case' n11 =>
         go_simp
         have hLc := Blk.new W4 3 #[.int .i64 XA, .int .i64 0, .int .i64 (-1)]
         have hLcb : W4.heap.size ≠ b := by have := hS.lt; omega
         replace hS := hS.alloc (.cells #[.int .i64 XA, .int .i64 0, .int .i64 (-1)] 3)
         replace hLa := Blk.alloc hLa (.cells #[.int .i64 XA, .int .i64 0, .int .i64 (-1)] 3)
         replace hLb := Blk.alloc hLb (.cells #[.int .i64 XA, .int .i64 0, .int .i64 (-1)] 3)
         replace hG := gr_alloc hG (.cells #[.int .i64 XA, .int .i64 0, .int .i64 (-1)] 3)
         generalize W4.alloc (.cells #[.int .i64 XA, .int .i64 0, .int .i64 (-1)] 3) = W5 at *
         generalize W4.heap.size = gC at *
         refine hK.out _ _ (fun _ => HKC.out _ hG) ?_
         clear hK K
         (try simp only [Act.put, ssA, ssZ, ssS])
         refine wpLate_ready (rs := [25]) (by kernel_rfl) (by simp) ?_
         refine AllLate.cons (o := _) rfl (fun K hK => ?n12) AllLate.nil
         case' n12 =>
          go_simp
          (go_at_call 44; refine (pick_in b _ gC 3 3 [XA, 0, -1] _ hS (by omega) hLc hLcb rfl (by decide) (by decide)).mono ?_; rintro _ W6 ⟨n3, hn3, rfl, hS2, hg2⟩)
          replace hG := gr_trans hG hg2
          replace hLa := Blk.grown hLa hg2 (by simpa using hLab)
          replace hLb := Blk.grown hLb hg2 (by simpa using hLbb)
          replace hLc := Blk.grown hLc hg2 (by simpa using hLcb)
          clear hS
          have hS := hS2
          clear hS2 hg2
          refine hK.out _ _ (fun _ => HKC.out _ hG) ?_
          clear hK K
          (try simp only [Act.put, ssA, ssZ, ssS])
          refine wpLate_ready (rs := [27]) (by kernel_rfl) (by simp) ?_
          refine AllLate.cons (o := _) rfl (fun K hK => ?n13) AllLate.nil
          case' n13 =>
           go_simp
           (go_at_call 40; refine (flip_in b _ 2 _ hS (by omega) (by omega) (by omega)).mono ?_; rintro _ W7 ⟨f4, rfl, hS2, hg2⟩)
           replace hG := gr_trans hG hg2
           replace hLa := Blk.grown hLa hg2 (by simpa using hLab)
           replace hLb := Blk.grown hLb hg2 (by simpa using hLbb)
           replace hLc := Blk.grown hLc hg2 (by simpa using hLcb)
           clear hS
           have hS := hS2
           clear hS2 hg2
           refine hK.out _ _ (fun _ => HKC.out _ hG) ?_
           clear hK K
           (try simp only [Act.put, ssA, ssZ, ssS])
       case' n9 =>
        go_simp
        have hLc := Blk.new W3 3 #[.int .i64 XA, .int .i64 0, .int .i64 (-1)]
        have hLcb : W3.heap.size ≠ b := by have := hS.lt; omega
        replace hS := hS.alloc (.cells #[.int .i64 XA, .int .i64 0, .int .i64 (-1)] 3)
        replace hLa := Blk.alloc hLa (.cells #[.int .i64 XA, .int .i64 0, .int .i64 (-1)] 3)
        replace hLb := Blk.alloc hLb (.cells #[.int .i64 XA, .int .i64 0, .int .i64 (-1)] 3)
        replace hG := gr_alloc hG (.cells #[.int .i64 XA, .int .i64 0, .int .i64 (-1)] 3)
        generalize W3.alloc (.cells #[.int .i64 XA, .int .i64 0, .int .i64 (-1)] 3) = W4 at *
        generalize W3.heap.size = gC at *
        refine hK.out _ _ (fun _ => HKC.out _ hG) ?_
        clear hK K
        (try simp only [Act.put, ssA, ssZ, ssS])
        refine wpLate_ready (rs := [17]) (by kernel_rfl) (by simp) ?_
        refine AllLate.cons (o := _) rfl (fun K hK => ?n14) AllLate.nil
        case' n14 =>
         go_simp
         (go_at_call 42; refine (some_in b _ gB 2 2 [XE, ⟨#[110, 111, 110, 101]⟩] _ hS (by omega) hLb hLbb rfl (by decide) (by decide)).mono ?_; rintro _ W5 ⟨s2, hs2, rfl, hS2, hg2⟩)
         replace hG := gr_trans hG hg2
         replace hLa := Blk.grown hLa hg2 (by simpa using hLab)
         replace hLb := Blk.grown hLb hg2 (by simpa using hLbb)
         replace hLc := Blk.grown hLc hg2 (by simpa using hLcb)
         clear hS
         have hS := hS2
         clear hS2 hg2
         refine hK.out _ _ (fun _ => HKC.out _ hG) ?_
         clear hK K
         (try simp only [Act.put, ssA, ssZ, ssS])
         refine wpLate_ready (rs := [25]) (by kernel_rfl) (by simp) ?_
         refine AllLate.cons (o := _) rfl (fun K hK => ?n15) AllLate.nil
         case' n15 =>
          go_simp
          (go_at_call 44; refine (pick_in b _ gC 3 3 [XA, 0, -1] _ hS (by omega) hLc hLcb rfl (by decide) (by decide)).mono ?_; rintro _ W6 ⟨n3, hn3, rfl, hS2, hg2⟩)
          replace hG := gr_trans hG hg2
          replace hLa := Blk.grown hLa hg2 (by simpa using hLab)
          replace hLb := Blk.grown hLb hg2 (by simpa using hLbb)
          replace hLc := Blk.grown hLc hg2 (by simpa using hLcb)
          clear hS
          have hS := hS2
          clear hS2 hg2
          refine hK.out _ _ (fun _ => HKC.out _ hG) ?_
          clear hK K
          (try simp only [Act.put, ssA, ssZ, ssS])
          refine wpLate_ready (rs := [27]) (by kernel_rfl) (by simp) ?_
          refine AllLate.cons (o := _) rfl (fun K hK => ?n16) AllLate.nil
          case' n16 =>
           go_simp
           (go_at_call 40; refine (flip_in b _ 2 _ hS (by omega) (by omega) (by omega)).mono ?_; rintro _ W7 ⟨f4, rfl, hS2, hg2⟩)
           replace hG := gr_trans hG hg2
           replace hLa := Blk.grown hLa hg2 (by simpa using hLab)
           replace hLb := Blk.grown hLb hg2 (by simpa using hLbb)
           replace hLc := Blk.grown hLc hg2 (by simpa using hLcb)
           clear hS
           have hS := hS2
           clear hS2 hg2
           refine hK.out _ _ (fun _ => HKC.out _ hG) ?_
           clear hK K
           (try simp only [Act.put, ssA, ssZ, ssS])
      case' n7 =>
       go_simp
       have hLc := Blk.new W2 3 #[.int .i64 XA, .int .i64 0, .int .i64 (-1)]
       have hLcb : W2.heap.size ≠ b := by have := hS.lt; omega
       replace hS := hS.alloc (.cells #[.int .i64 XA, .int .i64 0, .int .i64 (-1)] 3)
       replace hLa := Blk.alloc hLa (.cells #[.int .i64 XA, .int .i64 0, .int .i64 (-1)] 3)
       replace hG := gr_alloc hG (.cells #[.int .i64 XA, .int .i64 0, .int .i64 (-1)] 3)
       generalize W2.alloc (.cells #[.int .i64 XA, .int .i64 0, .int .i64 (-1)] 3) = W3 at *
       generalize W2.heap.size = gC at *
       refine hK.out _ _ (fun _ => HKC.out _ hG) ?_
       clear hK K
       (try simp only [Act.put, ssA, ssZ, ssS])
       refine wpLate_ready (rs := [16]) (by kernel_rfl) (by simp) ?_
       refine AllLate.cons (o := _) rfl (fun K hK => ?n17) AllLate.nil
       case' n17 =>
        go_simp
        have hLb := Blk.new W3 9 #[.string XE, .string ⟨#[110, 111, 110, 101]⟩]
        have hLbb : W3.heap.size ≠ b := by have := hS.lt; omega
        replace hS := hS.alloc (.cells #[.string XE, .string ⟨#[110, 111, 110, 101]⟩] 9)
        replace hLa := Blk.alloc hLa (.cells #[.string XE, .string ⟨#[110, 111, 110, 101]⟩] 9)
        replace hLc := Blk.alloc hLc (.cells #[.string XE, .string ⟨#[110, 111, 110, 101]⟩] 9)
        replace hG := gr_alloc hG (.cells #[.string XE, .string ⟨#[110, 111, 110, 101]⟩] 9)
        generalize W3.alloc (.cells #[.string XE, .string ⟨#[110, 111, 110, 101]⟩] 9) = W4 at *
        generalize W3.heap.size = gB at *
        refine hK.out _ _ (fun _ => HKC.out _ hG) ?_
        clear hK K
        (try simp only [Act.put, ssA, ssZ, ssS])
        refine wpLate_ready (rs := [17]) (by kernel_rfl) (by simp) ?_
        refine AllLate.cons (o := _) rfl (fun K hK => ?n18) AllLate.nil
        case' n18 =>
         go_simp
         (go_at_call 42; refine (some_in b _ gB 2 2 [XE, ⟨#[110, 111, 110, 101]⟩] _ hS (by omega) hLb hLbb rfl (by decide) (by decide)).mono ?_; rintro _ W5 ⟨s2, hs2, rfl, hS2, hg2⟩)
         replace hG := gr_trans hG hg2
         replace hLa := Blk.grown hLa hg2 (by simpa using hLab)
         replace hLb := Blk.grown hLb hg2 (by simpa using hLbb)
         replace hLc := Blk.grown hLc hg2 (by simpa using hLcb)
         clear hS
         have hS := hS2
         clear hS2 hg2
         refine hK.out _ _ (fun _ => HKC.out _ hG) ?_
         clear hK K
         (try simp only [Act.put, ssA, ssZ, ssS])
         refine wpLate_ready (rs := [25]) (by kernel_rfl) (by simp) ?_
         refine AllLate.cons (o := _) rfl (fun K hK => ?n19) AllLate.nil
         case' n19 =>
          go_simp
          (go_at_call 44; refine (pick_in b _ gC 3 3 [XA, 0, -1] _ hS (by omega) hLc hLcb rfl (by decide) (by decide)).mono ?_; rintro _ W6 ⟨n3, hn3, rfl, hS2, hg2⟩)
          replace hG := gr_trans hG hg2
          replace hLa := Blk.grown hLa hg2 (by simpa using hLab)
          replace hLb := Blk.grown hLb hg2 (by simpa using hLbb)
          replace hLc := Blk.grown hLc hg2 (by simpa using hLcb)
          clear hS
          have hS := hS2
          clear hS2 hg2
          refine hK.out _ _ (fun _ => HKC.out _ hG) ?_
          clear hK K
          (try simp only [Act.put, ssA, ssZ, ssS])
          refine wpLate_ready (rs := [27]) (by kernel_rfl) (by simp) ?_
          refine AllLate.cons (o := _) rfl (fun K hK => ?n20) AllLate.nil
          case' n20 =>
           go_simp
           (go_at_call 40; refine (flip_in b _ 2 _ hS (by omega) (by omega) (by omega)).mono ?_; rintro _ W7 ⟨f4, rfl, hS2, hg2⟩)
           replace hG := gr_trans hG hg2
           replace hLa := Blk.grown hLa hg2 (by simpa using hLab)
           replace hLb := Blk.grown hLb hg2 (by simpa using hLbb)
           replace hLc := Blk.grown hLc hg2 (by simpa using hLcb)
           clear hS
           have hS := hS2
           clear hS2 hg2
           refine hK.out _ _ (fun _ => HKC.out _ hG) ?_
           clear hK K
           (try simp only [Act.put, ssA, ssZ, ssS])
     case' n5 =>
      go_simp
      have hLb := Blk.new W1 9 #[.string XE, .string ⟨#[110, 111, 110, 101]⟩]
      have hLbb : W1.heap.size ≠ b := by have := hS.lt; omega
      replace hS := hS.alloc (.cells #[.string XE, .string ⟨#[110, 111, 110, 101]⟩] 9)
      replace hLa := Blk.alloc hLa (.cells #[.string XE, .string ⟨#[110, 111, 110, 101]⟩] 9)
      replace hG := gr_alloc hG (.cells #[.string XE, .string ⟨#[110, 111, 110, 101]⟩] 9)
      generalize W1.alloc (.cells #[.string XE, .string ⟨#[110, 111, 110, 101]⟩] 9) = W2 at *
      generalize W1.heap.size = gB at *
      refine hK.out _ _ (fun _ => HKC.out _ hG) ?_
      clear hK K
      (try simp only [Act.put, ssA, ssZ, ssS])
      refine wpLate_ready (rs := [10, 24]) (by kernel_rfl) (by simp) ?_
      refine AllLate.cons (o := _) rfl (fun K hK => ?n22) (AllLate.cons (o := _) rfl (fun K hK => ?n21) AllLate.nil)
      case' n22 =>
       go_simp
       (go_at_call 42; refine (some_in b _ gA 4 4 [XB, ⟨#[]⟩, ⟨#[107, 49, 97, 98]⟩, ⟨#[107]⟩] _ hS (by omega) hLa hLab rfl (by decide) (by decide)).mono ?_; rintro _ W3 ⟨s1, hs1, rfl, hS2, hg2⟩)
       replace hG := gr_trans hG hg2
       replace hLa := Blk.grown hLa hg2 (by simpa using hLab)
       replace hLb := Blk.grown hLb hg2 (by simpa using hLbb)
       clear hS
       have hS := hS2
       clear hS2 hg2
       refine hK.out _ _ (fun _ => HKC.out _ hG) ?_
       clear hK K
       (try simp only [Act.put, ssA, ssZ, ssS])
       refine wpLate_ready (rs := [17, 24]) (by kernel_rfl) (by simp) ?_
       refine AllLate.cons (o := _) rfl (fun K hK => ?n24) (AllLate.cons (o := _) rfl (fun K hK => ?n23) AllLate.nil)
       case' n24 =>
        go_simp
        (go_at_call 42; refine (some_in b _ gB 2 2 [XE, ⟨#[110, 111, 110, 101]⟩] _ hS (by omega) hLb hLbb rfl (by decide) (by decide)).mono ?_; rintro _ W4 ⟨s2, hs2, rfl, hS2, hg2⟩)
        replace hG := gr_trans hG hg2
        replace hLa := Blk.grown hLa hg2 (by simpa using hLab)
        replace hLb := Blk.grown hLb hg2 (by simpa using hLbb)
        clear hS
        have hS := hS2
        clear hS2 hg2
        refine hK.out _ _ (fun _ => HKC.out _ hG) ?_
        clear hK K
        (try simp only [Act.put, ssA, ssZ, ssS])
        refine wpLate_ready (rs := [24]) (by kernel_rfl) (by simp) ?_
        refine AllLate.cons (o := _) rfl (fun K hK => ?n25) AllLate.nil
        case' n25 =>
         go_simp
         have hLc := Blk.new W4 3 #[.int .i64 XA, .int .i64 0, .int .i64 (-1)]
         have hLcb : W4.heap.size ≠ b := by have := hS.lt; omega
         replace hS := hS.alloc (.cells #[.int .i64 XA, .int .i64 0, .int .i64 (-1)] 3)
         replace hLa := Blk.alloc hLa (.cells #[.int .i64 XA, .int .i64 0, .int .i64 (-1)] 3)
         replace hLb := Blk.alloc hLb (.cells #[.int .i64 XA, .int .i64 0, .int .i64 (-1)] 3)
         replace hG := gr_alloc hG (.cells #[.int .i64 XA, .int .i64 0, .int .i64 (-1)] 3)
         generalize W4.alloc (.cells #[.int .i64 XA, .int .i64 0, .int .i64 (-1)] 3) = W5 at *
         generalize W4.heap.size = gC at *
         refine hK.out _ _ (fun _ => HKC.out _ hG) ?_
         clear hK K
         (try simp only [Act.put, ssA, ssZ, ssS])
         refine wpLate_ready (rs := [25]) (by kernel_rfl) (by simp) ?_
         refine AllLate.cons (o := _) rfl (fun K hK => ?n26) AllLate.nil
         case' n26 =>
          go_simp
          (go_at_call 44; refine (pick_in b _ gC 3 3 [XA, 0, -1] _ hS (by omega) hLc hLcb rfl (by decide) (by decide)).mono ?_; rintro _ W6 ⟨n3, hn3, rfl, hS2, hg2⟩)
          replace hG := gr_trans hG hg2
          replace hLa := Blk.grown hLa hg2 (by simpa using hLab)
          replace hLb := Blk.grown hLb hg2 (by simpa using hLbb)
          replace hLc := Blk.grown hLc hg2 (by simpa using hLcb)
          clear hS
          have hS := hS2
          clear hS2 hg2
          refine hK.out _ _ (fun _ => HKC.out _ hG) ?_
          clear hK K
          (try simp only [Act.put, ssA, ssZ, ssS])
          refine wpLate_ready (rs := [27]) (by kernel_rfl) (by simp) ?_
          refine AllLate.cons (o := _) rfl (fun K hK => ?n27) AllLate.nil
          case' n27 =>
           go_simp
           (go_at_call 40; refine (flip_in b _ 2 _ hS (by omega) (by omega) (by omega)).mono ?_; rintro _ W7 ⟨f4, rfl, hS2, hg2⟩)
           replace hG := gr_trans hG hg2
           replace hLa := Blk.grown hLa hg2 (by simpa using hLab)
           replace hLb := Blk.grown hLb hg2 (by simpa using hLbb)
           replace hLc := Blk.grown hLc hg2 (by simpa using hLcb)
           clear hS
           have hS := hS2
           clear hS2 hg2
           refine hK.out _ _ (fun _ => HKC.out _ hG) ?_
           clear hK K
           (try simp only [Act.put, ssA, ssZ, ssS])
       case' n23 =>
        go_simp
        have hLc := Blk.new W3 3 #[.int .i64 XA, .int .i64 0, .int .i64 (-1)]
        have hLcb : W3.heap.size ≠ b := by have := hS.lt; omega
        replace hS := hS.alloc (.cells #[.int .i64 XA, .int .i64 0, .int .i64 (-1)] 3)
        replace hLa := Blk.alloc hLa (.cells #[.int .i64 XA, .int .i64 0, .int .i64 (-1)] 3)
        replace hLb := Blk.alloc hLb (.cells #[.int .i64 XA, .int .i64 0, .int .i64 (-1)] 3)
        replace hG := gr_alloc hG (.cells #[.int .i64 XA, .int .i64 0, .int .i64 (-1)] 3)
        generalize W3.alloc (.cells #[.int .i64 XA, .int .i64 0, .int .i64 (-1)] 3) = W4 at *
        generalize W3.heap.size = gC at *
        refine hK.out _ _ (fun _ => HKC.out _ hG) ?_
        clear hK K
        (try simp only [Act.put, ssA, ssZ, ssS])
        refine wpLate_ready (rs := [17]) (by kernel_rfl) (by simp) ?_
        refine AllLate.cons (o := _) rfl (fun K hK => ?n28) AllLate.nil
        case' n28 =>
         go_simp
         (go_at_call 42; refine (some_in b _ gB 2 2 [XE, ⟨#[110, 111, 110, 101]⟩] _ hS (by omega) hLb hLbb rfl (by decide) (by decide)).mono ?_; rintro _ W5 ⟨s2, hs2, rfl, hS2, hg2⟩)
         replace hG := gr_trans hG hg2
         replace hLa := Blk.grown hLa hg2 (by simpa using hLab)
         replace hLb := Blk.grown hLb hg2 (by simpa using hLbb)
         replace hLc := Blk.grown hLc hg2 (by simpa using hLcb)
         clear hS
         have hS := hS2
         clear hS2 hg2
         refine hK.out _ _ (fun _ => HKC.out _ hG) ?_
         clear hK K
         (try simp only [Act.put, ssA, ssZ, ssS])
         refine wpLate_ready (rs := [25]) (by kernel_rfl) (by simp) ?_
         refine AllLate.cons (o := _) rfl (fun K hK => ?n29) AllLate.nil
         case' n29 =>
          go_simp
          (go_at_call 44; refine (pick_in b _ gC 3 3 [XA, 0, -1] _ hS (by omega) hLc hLcb rfl (by decide) (by decide)).mono ?_; rintro _ W6 ⟨n3, hn3, rfl, hS2, hg2⟩)
          replace hG := gr_trans hG hg2
          replace hLa := Blk.grown hLa hg2 (by simpa using hLab)
          replace hLb := Blk.grown hLb hg2 (by simpa using hLbb)
          replace hLc := Blk.grown hLc hg2 (by simpa using hLcb)
          clear hS
          have hS := hS2
          clear hS2 hg2
          refine hK.out _ _ (fun _ => HKC.out _ hG) ?_
          clear hK K
          (try simp only [Act.put, ssA, ssZ, ssS])
          refine wpLate_ready (rs := [27]) (by kernel_rfl) (by simp) ?_
          refine AllLate.cons (o := _) rfl (fun K hK => ?n30) AllLate.nil
          case' n30 =>
           go_simp
           (go_at_call 40; refine (flip_in b _ 2 _ hS (by omega) (by omega) (by omega)).mono ?_; rintro _ W7 ⟨f4, rfl, hS2, hg2⟩)
           replace hG := gr_trans hG hg2
           replace hLa := Blk.grown hLa hg2 (by simpa using hLab)
           replace hLb := Blk.grown hLb hg2 (by simpa using hLbb)
           replace hLc := Blk.grown hLc hg2 (by simpa using hLcb)
           clear hS
           have hS := hS2
           clear hS2 hg2
           refine hK.out _ _ (fun _ => HKC.out _ hG) ?_
           clear hK K
           (try simp only [Act.put, ssA, ssZ, ssS])
      case' n21 =>
       go_simp
       have hLc := Blk.new W2 3 #[.int .i64 XA, .int .i64 0, .int .i64 (-1)]
       have hLcb : W2.heap.size ≠ b := by have := hS.lt; omega
       replace hS := hS.alloc (.cells #[.int .i64 XA, .int .i64 0, .int .i64 (-1)] 3)
       replace hLa := Blk.alloc hLa (.cells #[.int .i64 XA, .int .i64 0, .int .i64 (-1)] 3)
       replace hLb := Blk.alloc hLb (.cells #[.int .i64 XA, .int .i64 0, .int .i64 (-1)] 3)
       replace hG := gr_alloc hG (.cells #[.int .i64 XA, .int .i64 0, .int .i64 (-1)] 3)
       generalize W2.alloc (.cells #[.int .i64 XA, .int .i64 0, .int .i64 (-1)] 3) = W3 at *
       generalize W2.heap.size = gC at *
       refine hK.out _ _ (fun _ => HKC.out _ hG) ?_
       clear hK K
       (try simp only [Act.put, ssA, ssZ, ssS])
       refine wpLate_ready (rs := [10]) (by kernel_rfl) (by simp) ?_
       refine AllLate.cons (o := _) rfl (fun K hK => ?n31) AllLate.nil
       case' n31 =>
        go_simp
        (go_at_call 42; refine (some_in b _ gA 4 4 [XB, ⟨#[]⟩, ⟨#[107, 49, 97, 98]⟩, ⟨#[107]⟩] _ hS (by omega) hLa hLab rfl (by decide) (by decide)).mono ?_; rintro _ W4 ⟨s1, hs1, rfl, hS2, hg2⟩)
        replace hG := gr_trans hG hg2
        replace hLa := Blk.grown hLa hg2 (by simpa using hLab)
        replace hLb := Blk.grown hLb hg2 (by simpa using hLbb)
        replace hLc := Blk.grown hLc hg2 (by simpa using hLcb)
        clear hS
        have hS := hS2
        clear hS2 hg2
        refine hK.out _ _ (fun _ => HKC.out _ hG) ?_
        clear hK K
        (try simp only [Act.put, ssA, ssZ, ssS])
        refine wpLate_ready (rs := [17]) (by kernel_rfl) (by simp) ?_
        refine AllLate.cons (o := _) rfl (fun K hK => ?n32) AllLate.nil
        case' n32 =>
         go_simp
         (go_at_call 42; refine (some_in b _ gB 2 2 [XE, ⟨#[110, 111, 110, 101]⟩] _ hS (by omega) hLb hLbb rfl (by decide) (by decide)).mono ?_; rintro _ W5 ⟨s2, hs2, rfl, hS2, hg2⟩)
         replace hG := gr_trans hG hg2
         replace hLa := Blk.grown hLa hg2 (by simpa using hLab)
         replace hLb := Blk.grown hLb hg2 (by simpa using hLbb)
         replace hLc := Blk.grown hLc hg2 (by simpa using hLcb)
         clear hS
         have hS := hS2
         clear hS2 hg2
         refine hK.out _ _ (fun _ => HKC.out _ hG) ?_
         clear hK K
         (try simp only [Act.put, ssA, ssZ, ssS])
         refine wpLate_ready (rs := [25]) (by kernel_rfl) (by simp) ?_
         refine AllLate.cons (o := _) rfl (fun K hK => ?n33) AllLate.nil
         case' n33 =>
          go_simp
          (go_at_call 44; refine (pick_in b _ gC 3 3 [XA, 0, -1] _ hS (by omega) hLc hLcb rfl (by decide) (by decide)).mono ?_; rintro _ W6 ⟨n3, hn3, rfl, hS2, hg2⟩)
          replace hG := gr_trans hG hg2
          replace hLa := Blk.grown hLa hg2 (by simpa using hLab)
          replace hLb := Blk.grown hLb hg2 (by simpa using hLbb)
          replace hLc := Blk.grown hLc hg2 (by simpa using hLcb)
          clear hS
          have hS := hS2
          clear hS2 hg2
          refine hK.out _ _ (fun _ => HKC.out _ hG) ?_
          clear hK K
          (try simp only [Act.put, ssA, ssZ, ssS])
          refine wpLate_ready (rs := [27]) (by kernel_rfl) (by simp) ?_
          refine AllLate.cons (o := _) rfl (fun K hK => ?n34) AllLate.nil
          case' n34 =>
           go_simp
           (go_at_call 40; refine (flip_in b _ 2 _ hS (by omega) (by omega) (by omega)).mono ?_; rintro _ W7 ⟨f4, rfl, hS2, hg2⟩)
           replace hG := gr_trans hG hg2
           replace hLa := Blk.grown hLa hg2 (by simpa using hLab)
           replace hLb := Blk.grown hLb hg2 (by simpa using hLbb)
           replace hLc := Blk.grown hLc hg2 (by simpa using hLcb)
           clear hS
           have hS := hS2
           clear hS2 hg2
           refine hK.out _ _ (fun _ => HKC.out _ hG) ?_
           clear hK K
           (try simp only [Act.put, ssA, ssZ, ssS])
     case' n4 =>
      go_simp
      have hLc := Blk.new W1 3 #[.int .i64 XA, .int .i64 0, .int .i64 (-1)]
      have hLcb : W1.heap.size ≠ b := by have := hS.lt; omega
      replace hS := hS.alloc (.cells #[.int .i64 XA, .int .i64 0, .int .i64 (-1)] 3)
      replace hLa := Blk.alloc hLa (.cells #[.int .i64 XA, .int .i64 0, .int .i64 (-1)] 3)
      replace hG := gr_alloc hG (.cells #[.int .i64 XA, .int .i64 0, .int .i64 (-1)] 3)
      generalize W1.alloc (.cells #[.int .i64 XA, .int .i64 0, .int .i64 (-1)] 3) = W2 at *
      generalize W1.heap.size = gC at *
      refine hK.out _ _ (fun _ => HKC.out _ hG) ?_
      clear hK K
      (try simp only [Act.put, ssA, ssZ, ssS])
      refine wpLate_ready (rs := [10, 16]) (by kernel_rfl) (by simp) ?_
      refine AllLate.cons (o := _) rfl (fun K hK => ?n36) (AllLate.cons (o := _) rfl (fun K hK => ?n35) AllLate.nil)
      case' n36 =>
       go_simp
       (go_at_call 42; refine (some_in b _ gA 4 4 [XB, ⟨#[]⟩, ⟨#[107, 49, 97, 98]⟩, ⟨#[107]⟩] _ hS (by omega) hLa hLab rfl (by decide) (by decide)).mono ?_; rintro _ W3 ⟨s1, hs1, rfl, hS2, hg2⟩)
       replace hG := gr_trans hG hg2
       replace hLa := Blk.grown hLa hg2 (by simpa using hLab)
       replace hLc := Blk.grown hLc hg2 (by simpa using hLcb)
       clear hS
       have hS := hS2
       clear hS2 hg2
       refine hK.out _ _ (fun _ => HKC.out _ hG) ?_
       clear hK K
       (try simp only [Act.put, ssA, ssZ, ssS])
       refine wpLate_ready (rs := [16]) (by kernel_rfl) (by simp) ?_
       refine AllLate.cons (o := _) rfl (fun K hK => ?n37) AllLate.nil
       case' n37 =>
        go_simp
        have hLb := Blk.new W3 9 #[.string XE, .string ⟨#[110, 111, 110, 101]⟩]
        have hLbb : W3.heap.size ≠ b := by have := hS.lt; omega
        replace hS := hS.alloc (.cells #[.string XE, .string ⟨#[110, 111, 110, 101]⟩] 9)
        replace hLa := Blk.alloc hLa (.cells #[.string XE, .string ⟨#[110, 111, 110, 101]⟩] 9)
        replace hLc := Blk.alloc hLc (.cells #[.string XE, .string ⟨#[110, 111, 110, 101]⟩] 9)
        replace hG := gr_alloc hG (.cells #[.string XE, .string ⟨#[110, 111, 110, 101]⟩] 9)
        generalize W3.alloc (.cells #[.string XE, .string ⟨#[110, 111, 110, 101]⟩] 9) = W4 at *
        generalize W3.heap.size = gB at *
        refine hK.out _ _ (fun _ => HKC.out _ hG) ?_
        clear hK K
        (try simp only [Act.put, ssA, ssZ, ssS])
        refine wpLate_ready (rs := [17]) (by kernel_rfl) (by simp) ?_
        refine AllLate.cons (o := _) rfl (fun K hK => ?n38) AllLate.nil
        case' n38 =>
         go_simp
         (go_at_call 42; refine (some_in b _ gB 2 2 [XE, ⟨#[110, 111, 110, 101]⟩] _ hS (by omega) hLb hLbb rfl (by decide) (by decide)).mono ?_; rintro _ W5 ⟨s2, hs2, rfl, hS2, hg2⟩)
         replace hG := gr_trans hG hg2
         replace hLa := Blk.grown hLa hg2 (by simpa using hLab)
         replace hLb := Blk.grown hLb hg2 (by simpa using hLbb)
         replace hLc := Blk.grown hLc hg2 (by simpa using hLcb)
         clear hS
         have hS := hS2
         clear hS2 hg2
         refine hK.out _ _ (fun _ => HKC.out _ hG) ?_
         clear hK K
         (try simp only [Act.put, ssA, ssZ, ssS])
         refine wpLate_ready (rs := [25]) (by kernel_rfl) (by simp) ?_
         refine AllLate.cons (o := _) rfl (fun K hK => ?n39) AllLate.nil
         case' n39 =>
          go_simp
          (go_at_call 44; refine (pick_in b _ gC 3 3 [XA, 0, -1] _ hS (by omega) hLc hLcb rfl (by decide) (by decide)).mono ?_; rintro _ W6 ⟨n3, hn3, rfl, hS2, hg2⟩)
          replace hG := gr_trans hG hg2
          replace hLa := Blk.grown hLa hg2 (by simpa using hLab)
          replace hLb := Blk.grown hLb hg2 (by simpa using hLbb)
          replace hLc := Blk.grown hLc hg2 (by simpa using hLcb)
          clear hS
          have hS := hS2
          clear hS2 hg2
          refine hK.out _ _ (fun _ => HKC.out _ hG) ?_
          clear hK K
          (try simp only [Act.put, ssA, ssZ, ssS])
          refine wpLate_ready (rs := [27]) (by kernel_rfl) (by simp) ?_
          refine AllLate.cons (o := _) rfl (fun K hK => ?n40) AllLate.nil
          case' n40 =>
           go_simp
           (go_at_call 40; refine (flip_in b _ 2 _ hS (by omega) (by omega) (by omega)).mono ?_; rintro _ W7 ⟨f4, rfl, hS2, hg2⟩)
           replace hG := gr_trans hG hg2
           replace hLa := Blk.grown hLa hg2 (by simpa using hLab)
           replace hLb := Blk.grown hLb hg2 (by simpa using hLbb)
           replace hLc := Blk.grown hLc hg2 (by simpa using hLcb)
           clear hS
           have hS := hS2
           clear hS2 hg2
           refine hK.out _ _ (fun _ => HKC.out _ hG) ?_
           clear hK K
           (try simp only [Act.put, ssA, ssZ, ssS])
      case' n35 =>
       go_simp
       have hLb := Blk.new W2 9 #[.string XE, .string ⟨#[110, 111, 110, 101]⟩]
       have hLbb : W2.heap.size ≠ b := by have := hS.lt; omega
       replace hS := hS.alloc (.cells #[.string XE, .string ⟨#[110, 111, 110, 101]⟩] 9)
       replace hLa := Blk.alloc hLa (.cells #[.string XE, .string ⟨#[110, 111, 110, 101]⟩] 9)
       replace hLc := Blk.alloc hLc (.cells #[.string XE, .string ⟨#[110, 111, 110, 101]⟩] 9)
       replace hG := gr_alloc hG (.cells #[.string XE, .string ⟨#[110, 111, 110, 101]⟩] 9)
       generalize W2.alloc (.cells #[.string XE, .string ⟨#[110, 111, 110, 101]⟩] 9) = W3 at *
       generalize W2.heap.size = gB at *
       refine hK.out _ _ (fun _ => HKC.out _ hG) ?_
       clear hK K
       (try simp only [Act.put, ssA, ssZ, ssS])
       refine wpLate_ready (rs := [10]) (by kernel_rfl) (by simp) ?_
       refine AllLate.cons (o := _) rfl (fun K hK => ?n41) AllLate.nil
       case' n41 =>
        go_simp
        (go_at_call 42; refine (some_in b _ gA 4 4 [XB, ⟨#[]⟩, ⟨#[107, 49, 97, 98]⟩, ⟨#[107]⟩] _ hS (by omega) hLa hLab rfl (by decide) (by decide)).mono ?_; rintro _ W4 ⟨s1, hs1, rfl, hS2, hg2⟩)
        replace hG := gr_trans hG hg2
        replace hLa := Blk.grown hLa hg2 (by simpa using hLab)
        replace hLb := Blk.grown hLb hg2 (by simpa using hLbb)
        replace hLc := Blk.grown hLc hg2 (by simpa using hLcb)
        clear hS
        have hS := hS2
        clear hS2 hg2
        refine hK.out _ _ (fun _ => HKC.out _ hG) ?_
        clear hK K
        (try simp only [Act.put, ssA, ssZ, ssS])
        refine wpLate_ready (rs := [17]) (by kernel_rfl) (by simp) ?_
        refine AllLate.cons (o := _) rfl (fun K hK => ?n42) AllLate.nil
        case' n42 =>
         go_simp
         (go_at_call 42; refine (some_in b _ gB 2 2 [XE, ⟨#[110, 111, 110, 101]⟩] _ hS (by omega) hLb hLbb rfl (by decide) (by decide)).mono ?_; rintro _ W5 ⟨s2, hs2, rfl, hS2, hg2⟩)
         replace hG := gr_trans hG hg2
         replace hLa := Blk.grown hLa hg2 (by simpa using hLab)
         replace hLb := Blk.grown hLb hg2 (by simpa using hLbb)
         replace hLc := Blk.grown hLc hg2 (by simpa using hLcb)
         clear hS
         have hS := hS2
         clear hS2 hg2
         refine hK.out _ _ (fun _ => HKC.out _ hG) ?_
         clear hK K
         (try simp only [Act.put, ssA, ssZ, ssS])
         refine wpLate_ready (rs := [25]) (by kernel_rfl) (by simp) ?_
         refine AllLate.cons (o := _) rfl (fun K hK => ?n43) AllLate.nil
         case' n43 =>
          go_simp
          (go_at_call 44; refine (pick_in b _ gC 3 3 [XA, 0, -1] _ hS (by omega) hLc hLcb rfl (by decide) (by decide)).mono ?_; rintro _ W6 ⟨n3, hn3, rfl, hS2, hg2⟩)
          replace hG := gr_trans hG hg2
          replace hLa := Blk.grown hLa hg2 (by simpa using hLab)
          replace hLb := Blk.grown hLb hg2 (by simpa using hLbb)
          replace hLc := Blk.grown hLc hg2 (by simpa using hLcb)
          clear hS
          have hS := hS2
          clear hS2 hg2
          refine hK.out _ _ (fun _ => HKC.out _ hG) ?_
          clear hK K
          (try simp only [Act.put, ssA, ssZ, ssS])
          refine wpLate_ready (rs := [27]) (by kernel_rfl) (by simp) ?_
          refine AllLate.cons (o := _) rfl (fun K hK => ?n44) AllLate.nil
          case' n44 =>
           go_simp
           (go_at_call 40; refine (flip_in b _ 2 _ hS (by omega) (by omega) (by omega)).mono ?_; rintro _ W7 ⟨f4, rfl, hS2, hg2⟩)
           replace hG := gr_trans hG hg2
           replace hLa := Blk.grown hLa hg2 (by simpa using hLab)
           replace hLb := Blk.grown hLb hg2 (by simpa using hLbb)
           replace hLc := Blk.grown hLc hg2 (by simpa using hLcb)
           clear hS
           have hS := hS2
           clear hS2 hg2
           refine hK.out _ _ (fun _ => HKC.out _ hG) ?_
           clear hK K
           (try simp only [Act.put, ssA, ssZ, ssS])
    case' n2 =>
     go_simp
     have hLb := Blk.new W0 9 #[.string XE, .string ⟨#[110, 111, 110, 101]⟩]
     have hLbb : W0.heap.size ≠ b := by have := hS.lt; omega
     replace hS := hS.alloc (.cells #[.string XE, .string ⟨#[110, 111, 110, 101]⟩] 9)
     replace hG := gr_alloc hG (.cells #[.string XE, .string ⟨#[110, 111, 110, 101]⟩] 9)
     generalize W0.alloc (.cells #[.string XE, .string ⟨#[110, 111, 110, 101]⟩] 9) = W1 at *
     generalize W0.heap.size = gB at *
     refine hK.out _ _ (fun _ => HKC.out _ hG) ?_
     clear hK K
     (try simp only [Act.put, ssA, ssZ, ssS])
     refine wpLate_ready (rs := [9, 24]) (by kernel_rfl) (by simp) ?_
     refine AllLate.cons (o := _) rfl (fun K hK => ?n46) (AllLate.cons (o := _) rfl (fun K hK => ?n45) AllLate.nil)
     case' n46 =>
      go_simp
      have hLa := Blk.new W1 9 #[.string XB, .string ⟨#[]⟩, .string ⟨#[107, 49, 97, 98]⟩, .string ⟨#[107]⟩]
      have hLab : W1.heap.size ≠ b := by have := hS.lt; omega
      replace hS := hS.alloc (.cells #[.string XB, .string ⟨#[]⟩, .string ⟨#[107, 49, 97, 98]⟩, .string ⟨#[107]⟩] 9)
      replace hLb := Blk.alloc hLb (.cells #[.string XB, .string ⟨#[]⟩, .string ⟨#[107, 49, 97, 98]⟩, .string ⟨#[107]⟩] 9)
      replace hG := gr_alloc hG (.cells #[.string XB, .string ⟨#[]⟩, .string ⟨#[107, 49, 97, 98]⟩, .string ⟨#[107]⟩] 9)
      generalize W1.alloc (.cells #[.string XB, .string ⟨#[]⟩, .string ⟨#[107, 49, 97, 98]⟩, .string ⟨#[107]⟩] 9) = W2 at *
      generalize W1.heap.size = gA at *
      refine hK.out _ _ (fun _ => HKC.out _ hG) ?_
      clear hK K
      (try simp only [Act.put, ssA, ssZ, ssS])
      refine wpLate_ready (rs := [10, 24]) (by kernel_rfl) (by simp) ?_
      refine AllLate.cons (o := _) rfl (fun K hK => ?n48) (AllLate.cons (o := _) rfl (fun K hK => ?n47) AllLate.nil)
      case' n48 =>
       go_simp
       (go_at_call 42; refine (some_in b _ gA 4 4 [XB, ⟨#[]⟩, ⟨#[107, 49, 97, 98]⟩, ⟨#[107]⟩] _ hS (by omega) hLa hLab rfl (by decide) (by decide)).mono ?_; rintro _ W3 ⟨s1, hs1, rfl, hS2, hg2⟩)
       replace hG := gr_trans hG hg2
       replace hLa := Blk.grown hLa hg2 (by simpa using hLab)
       replace hLb := Blk.grown hLb hg2 (by simpa using hLbb)
       clear hS
       have hS := hS2
       clear hS2 hg2
       refine hK.out _ _ (fun _ => HKC.out _ hG) ?_
       clear hK K
       (try simp only [Act.put, ssA, ssZ, ssS])
       refine wpLate_ready (rs := [17, 24]) (by kernel_rfl) (by simp) ?_
       refine AllLate.cons (o := _) rfl (fun K hK => ?n50) (AllLate.cons (o := _) rfl (fun K hK => ?n49) AllLate.nil)
       case' n50 =>
        go_simp
        (go_at_call 42; refine (some_in b _ gB 2 2 [XE, ⟨#[110, 111, 110, 101]⟩] _ hS (by omega) hLb hLbb rfl (by decide) (by decide)).mono ?_; rintro _ W4 ⟨s2, hs2, rfl, hS2, hg2⟩)
        replace hG := gr_trans hG hg2
        replace hLa := Blk.grown hLa hg2 (by simpa using hLab)
        replace hLb := Blk.grown hLb hg2 (by simpa using hLbb)
        clear hS
        have hS := hS2
        clear hS2 hg2
        refine hK.out _ _ (fun _ => HKC.out _ hG) ?_
        clear hK K
        (try simp only [Act.put, ssA, ssZ, ssS])
        refine wpLate_ready (rs := [24]) (by kernel_rfl) (by simp) ?_
        refine AllLate.cons (o := _) rfl (fun K hK => ?n51) AllLate.nil
        case' n51 =>
         go_simp
         have hLc := Blk.new W4 3 #[.int .i64 XA, .int .i64 0, .int .i64 (-1)]
         have hLcb : W4.heap.size ≠ b := by have := hS.lt; omega
         replace hS := hS.alloc (.cells #[.int .i64 XA, .int .i64 0, .int .i64 (-1)] 3)
         replace hLa := Blk.alloc hLa (.cells #[.int .i64 XA, .int .i64 0, .int .i64 (-1)] 3)
         replace hLb := Blk.alloc hLb (.cells #[.int .i64 XA, .int .i64 0, .int .i64 (-1)] 3)
         replace hG := gr_alloc hG (.cells #[.int .i64 XA, .int .i64 0, .int .i64 (-1)] 3)
         generalize W4.alloc (.cells #[.int .i64 XA, .int .i64 0, .int .i64 (-1)] 3) = W5 at *
         generalize W4.heap.size = gC at *
         refine hK.out _ _ (fun _ => HKC.out _ hG) ?_
         clear hK K
         (try simp only [Act.put, ssA, ssZ, ssS])
         refine wpLate_ready (rs := [25]) (by kernel_rfl) (by simp) ?_
         refine AllLate.cons (o := _) rfl (fun K hK => ?n52) AllLate.nil
         case' n52 =>
          go_simp
          (go_at_call 44; refine (pick_in b _ gC 3 3 [XA, 0, -1] _ hS (by omega) hLc hLcb rfl (by decide) (by decide)).mono ?_; rintro _ W6 ⟨n3, hn3, rfl, hS2, hg2⟩)
          replace hG := gr_trans hG hg2
          replace hLa := Blk.grown hLa hg2 (by simpa using hLab)
          replace hLb := Blk.grown hLb hg2 (by simpa using hLbb)
          replace hLc := Blk.grown hLc hg2 (by simpa using hLcb)
          clear hS
          have hS := hS2
          clear hS2 hg2
          refine hK.out _ _ (fun _ => HKC.out _ hG) ?_
          clear hK K
          (try simp only [Act.put, ssA, ssZ, ssS])
          refine wpLate_ready (rs := [27]) (by kernel_rfl) (by simp) ?_
          refine AllLate.cons (o := _) rfl (fun K hK => ?n53) AllLate.nil
          case' n53 =>
           go_simp
           (go_at_call 40; refine (flip_in b _ 2 _ hS (by omega) (by omega) (by omega)).mono ?_; rintro _ W7 ⟨f4, rfl, hS2, hg2⟩)
           replace hG := gr_trans hG hg2
           replace hLa := Blk.grown hLa hg2 (by simpa using hLab)
           replace hLb := Blk.grown hLb hg2 (by simpa using hLbb)
           replace hLc := Blk.grown hLc hg2 (by simpa using hLcb)
           clear hS
           have hS := hS2
           clear hS2 hg2
           refine hK.out _ _ (fun _ => HKC.out _ hG) ?_
           clear hK K
           (try simp only [Act.put, ssA, ssZ, ssS])
       case' n49 =>
        go_simp
        have hLc := Blk.new W3 3 #[.int .i64 XA, .int .i64 0, .int .i64 (-1)]
        have hLcb : W3.heap.size ≠ b := by have := hS.lt; omega
        replace hS := hS.alloc (.cells #[.int .i64 XA, .int .i64 0, .int .i64 (-1)] 3)
        replace hLa := Blk.alloc hLa (.cells #[.int .i64 XA, .int .i64 0, .int .i64 (-1)] 3)
        replace hLb := Blk.alloc hLb (.cells #[.int .i64 XA, .int .i64 0, .int .i64 (-1)] 3)
        replace hG := gr_alloc hG (.cells #[.int .i64 XA, .int .i64 0, .int .i64 (-1)] 3)
        generalize W3.alloc (.cells #[.int .i64 XA, .int .i64 0, .int .i64 (-1)] 3) = W4 at *
        generalize W3.heap.size = gC at *
        refine hK.out _ _ (fun _ => HKC.out _ hG) ?_
        clear hK K
        (try simp only [Act.put, ssA, ssZ, ssS])
        refine wpLate_ready (rs := [17]) (by kernel_rfl) (by simp) ?_
        refine AllLate.cons (o := _) rfl (fun K hK => ?n54) AllLate.nil
        case' n54 =>
         go_simp
         (go_at_call 42; refine (some_in b _ gB 2 2 [XE, ⟨#[110, 111, 110, 101]⟩] _ hS (by omega) hLb hLbb rfl (by decide) (by decide)).mono ?_; rintro _ W5 ⟨s2, hs2, rfl, hS2, hg2⟩)
         replace hG := gr_trans hG hg2
         replace hLa := Blk.grown hLa hg2 (by simpa using hLab)
         replace hLb := Blk.grown hLb hg2 (by simpa using hLbb)
         replace hLc := Blk.grown hLc hg2 (by simpa using hLcb)
         clear hS
         have hS := hS2
         clear hS2 hg2
         refine hK.out _ _ (fun _ => HKC.out _ hG) ?_
         clear hK K
         (try simp only [Act.put, ssA, ssZ, ssS])
         refine wpLate_ready (rs := [25]) (by kernel_rfl) (by simp) ?_
         refine AllLate.cons (o := _) rfl (fun K hK => ?n55) AllLate.nil
         case' n55 =>
          go_simp
          (go_at_call 44; refine (pick_in b _ gC 3 3 [XA, 0, -1] _ hS (by omega) hLc hLcb rfl (by decide) (by decide)).mono ?_; rintro _ W6 ⟨n3, hn3, rfl, hS2, hg2⟩)
          replace hG := gr_trans hG hg2
          replace hLa := Blk.grown hLa hg2 (by simpa using hLab)
          replace hLb := Blk.grown hLb hg2 (by simpa using hLbb)
          replace hLc := Blk.grown hLc hg2 (by simpa using hLcb)
          clear hS
          have hS := hS2
          clear hS2 hg2
          refine hK.out _ _ (fun _ => HKC.out _ hG) ?_
          clear hK K
          (try simp only [Act.put, ssA, ssZ, ssS])
          refine wpLate_ready (rs := [27]) (by kernel_rfl) (by simp) ?_
          refine AllLate.cons (o := _) rfl (fun K hK => ?n56) AllLate.nil
          case' n56 =>
           go_simp
           (go_at_call 40; refine (flip_in b _ 2 _ hS (by omega) (by omega) (by omega)).mono ?_; rintro _ W7 ⟨f4, rfl, hS2, hg2⟩)
           replace hG := gr_trans hG hg2
           replace hLa := Blk.grown hLa hg2 (by simpa using hLab)
           replace hLb := Blk.grown hLb hg2 (by simpa using hLbb)
           replace hLc := Blk.grown hLc hg2 (by simpa using hLcb)
           clear hS
           have hS := hS2
           clear hS2 hg2
           refine hK.out _ _ (fun _ => HKC.out _ hG) ?_
           clear hK K
           (try simp only [Act.put, ssA, ssZ, ssS])
      case' n47 =>
       go_simp
       have hLc := Blk.new W2 3 #[.int .i64 XA, .int .i64 0, .int .i64 (-1)]
       have hLcb : W2.heap.size ≠ b := by have := hS.lt; omega
       replace hS := hS.alloc (.cells #[.int .i64 XA, .int .i64 0, .int .i64 (-1)] 3)
       replace hLa := Blk.alloc hLa (.cells #[.int .i64 XA, .int .i64 0, .int .i64 (-1)] 3)
       replace hLb := Blk.alloc hLb (.cells #[.int .i64 XA, .int .i64 0, .int .i64 (-1)] 3)
       replace hG := gr_alloc hG (.cells #[.int .i64 XA, .int .i64 0, .int .i64 (-1)] 3)
       generalize W2.alloc (.cells #[.int .i64 XA, .int .i64 0, .int .i64 (-1)] 3) = W3 at *
       generalize W2.heap.size = gC at *
       refine hK.out _ _ (fun _ => HKC.out _ hG) ?_
       clear hK K
       (try simp only [Act.put, ssA, ssZ, ssS])
       refine wpLate_ready (rs := [10]) (by kernel_rfl) (by simp) ?_
       refine AllLate.cons (o := _) rfl (fun K hK => ?n57) AllLate.nil
       case' n57 =>
        go_simp
        (go_at_call 42; refine (some_in b _ gA 4 4 [XB, ⟨#[]⟩, ⟨#[107, 49, 97, 98]⟩, ⟨#[107]⟩] _ hS (by omega) hLa hLab rfl (by decide) (by decide)).mono ?_; rintro _ W4 ⟨s1, hs1, rfl, hS2, hg2⟩)
        replace hG := gr_trans hG hg2
        replace hLa := Blk.grown hLa hg2 (by simpa using hLab)
        replace hLb := Blk.grown hLb hg2 (by simpa using hLbb)
        replace hLc := Blk.grown hLc hg2 (by simpa using hLcb)
        clear hS
        have hS := hS2
        clear hS2 hg2
        refine hK.out _ _ (fun _ => HKC.out _ hG) ?_
        clear hK K
        (try simp only [Act.put, ssA, ssZ, ssS])
        refine wpLate_ready (rs := [17]) (by kernel_rfl) (by simp) ?_
        refine AllLate.cons (o := _) rfl (fun K hK => ?n58) AllLate.nil
        case' n58 =>
         go_simp
         (go_at_call 42; refine (some_in b _ gB 2 2 [XE, ⟨#[110, 111, 110, 101]⟩] _ hS (by omega) hLb hLbb rfl (by decide) (by decide)).mono ?_; rintro _ W5 ⟨s2, hs2, rfl, hS2, hg2⟩)
         replace hG := gr_trans hG hg2
         replace hLa := Blk.grown hLa hg2 (by simpa using hLab)
         replace hLb := Blk.grown hLb hg2 (by simpa using hLbb)
         replace hLc := Blk.grown hLc hg2 (by simpa using hLcb)
         clear hS
         have hS := hS2
         clear hS2 hg2
         refine hK.out _ _ (fun _ => HKC.out _ hG) ?_
         clear hK K
         (try simp only [Act.put, ssA, ssZ, ssS])
         refine wpLate_ready (rs := [25]) (by kernel_rfl) (by simp) ?_
         refine AllLate.cons (o := _) rfl (fun K hK => ?n59) AllLate.nil
         case' n59 =>
          go_simp
          (go_at_call 44; refine (pick_in b _ gC 3 3 [XA, 0, -1] _ hS (by omega) hLc hLcb rfl (by decide) (by decide)).mono ?_; rintro _ W6 ⟨n3, hn3, rfl, hS2, hg2⟩)
          replace hG := gr_trans hG hg2
          replace hLa := Blk.grown hLa hg2 (by simpa using hLab)
          replace hLb := Blk.grown hLb hg2 (by simpa using hLbb)
          replace hLc := Blk.grown hLc hg2 (by simpa using hLcb)
          clear hS
          have hS := hS2
          clear hS2 hg2
          refine hK.out _ _ (fun _ => HKC.out _ hG) ?_
          clear hK K
          (try simp only [Act.put, ssA, ssZ, ssS])
          refine wpLate_ready (rs := [27]) (by kernel_rfl) (by simp) ?_
          refine AllLate.cons (o := _) rfl (fun K hK => ?n60) AllLate.nil
          case' n60 =>
           go_simp
           (go_at_call 40; refine (flip_in b _ 2 _ hS (by omega) (by omega) (by omega)).mono ?_; rintro _ W7 ⟨f4, rfl, hS2, hg2⟩)
           replace hG := gr_trans hG hg2
           replace hLa := Blk.grown hLa hg2 (by simpa using hLab)
           replace hLb := Blk.grown hLb hg2 (by simpa using hLbb)
           replace hLc := Blk.grown hLc hg2 (by simpa using hLcb)
           clear hS
           have hS := hS2
           clear hS2 hg2
           refine hK.out _ _ (fun _ => HKC.out _ hG) ?_
           clear hK K
           (try simp only [Act.put, ssA, ssZ, ssS])
     case' n45 =>
      go_simp
      have hLc := Blk.new W1 3 #[.int .i64 XA, .int .i64 0, .int .i64 (-1)]
      have hLcb : W1.heap.size ≠ b := by have := hS.lt; omega
      replace hS := hS.alloc (.cells #[.int .i64 XA, .int .i64 0, .int .i64 (-1)] 3)
      replace hLb := Blk.alloc hLb (.cells #[.int .i64 XA, .int .i64 0, .int .i64 (-1)] 3)
      replace hG := gr_alloc hG (.cells #[.int .i64 XA, .int .i64 0, .int .i64 (-1)] 3)
      generalize W1.alloc (.cells #[.int .i64 XA, .int .i64 0, .int .i64 (-1)] 3) = W2 at *
      generalize W1.heap.size = gC at *
      refine hK.out _ _ (fun _ => HKC.out _ hG) ?_
      clear hK K
      (try simp only [Act.put, ssA, ssZ, ssS])
      refine wpLate_ready (rs := [9]) (by kernel_rfl) (by simp) ?_
      refine AllLate.cons (o := _) rfl (fun K hK => ?n61) AllLate.nil
      case' n61 =>
       go_simp
       have hLa := Blk.new W2 9 #[.string XB, .string ⟨#[]⟩, .string ⟨#[107, 49, 97, 98]⟩, .string ⟨#[107]⟩]
       have hLab : W2.heap.size ≠ b := by have := hS.lt; omega
       replace hS := hS.alloc (.cells #[.string XB, .string ⟨#[]⟩, .string ⟨#[107, 49, 97, 98]⟩, .string ⟨#[107]⟩] 9)
       replace hLb := Blk.alloc hLb (.cells #[.string XB, .string ⟨#[]⟩, .string ⟨#[107, 49, 97, 98]⟩, .string ⟨#[107]⟩] 9)
       replace hLc := Blk.alloc hLc (.cells #[.string XB, .string ⟨#[]⟩, .string ⟨#[107, 49, 97, 98]⟩, .string ⟨#[107]⟩] 9)
       replace hG := gr_alloc hG (.cells #[.string XB, .string ⟨#[]⟩, .string ⟨#[107, 49, 97, 98]⟩, .string ⟨#[107]⟩] 9)
       generalize W2.alloc (.cells #[.string XB, .string ⟨#[]⟩, .string ⟨#[107, 49, 97, 98]⟩, .string ⟨#[107]⟩] 9) = W3 at *
       generalize W2.heap.size = gA at *
       refine hK.out _ _ (fun _ => HKC.out _ hG) ?_
       clear hK K
       (try simp only [Act.put, ssA, ssZ, ssS])
       refine wpLate_ready (rs := [10]) (by kernel_rfl) (by simp) ?_
       refine AllLate.cons (o := _) rfl (fun K hK => ?n62) AllLate.nil
       case' n62 =>
        go_simp
        (go_at_call 42; refine (some_in b _ gA 4 4 [XB, ⟨#[]⟩, ⟨#[107, 49, 97, 98]⟩, ⟨#[107]⟩] _ hS (by omega) hLa hLab rfl (by decide) (by decide)).mono ?_; rintro _ W4 ⟨s1, hs1, rfl, hS2, hg2⟩)
        replace hG := gr_trans hG hg2
        replace hLa := Blk.grown hLa hg2 (by simpa using hLab)
        replace hLb := Blk.grown hLb hg2 (by simpa using hLbb)
        replace hLc := Blk.grown hLc hg2 (by simpa using hLcb)
        clear hS
        have hS := hS2
        clear hS2 hg2
        refine hK.out _ _ (fun _ => HKC.out _ hG) ?_
        clear hK K
        (try simp only [Act.put, ssA, ssZ, ssS])
        refine wpLate_ready (rs := [17]) (by kernel_rfl) (by simp) ?_
        refine AllLate.cons (o := _) rfl (fun K hK => ?n63) AllLate.nil
        case' n63 =>
         go_simp
         (go_at_call 42; refine (some_in b _ gB 2 2 [XE, ⟨#[110, 111, 110, 101]⟩] _ hS (by omega) hLb hLbb rfl (by decide) (by decide)).mono ?_; rintro _ W5 ⟨s2, hs2, rfl, hS2, hg2⟩)
         replace hG := gr_trans hG hg2
         replace hLa := Blk.grown hLa hg2 (by simpa using hLab)
         replace hLb := Blk.grown hLb hg2 (by simpa using hLbb)
         replace hLc := Blk.grown hLc hg2 (by simpa using hLcb)
         clear hS
         have hS := hS2
         clear hS2 hg2
         refine hK.out _ _ (fun _ => HKC.out _ hG) ?_
         clear hK K
         (try simp only [Act.put, ssA, ssZ, ssS])
         refine wpLate_ready (rs := [25]) (by kernel_rfl) (by simp) ?_
         refine AllLate.cons (o := _) rfl (fun K hK => ?n64) AllLate.nil
         case' n64 =>
          go_simp
          (go_at_call 44; refine (pick_in b _ gC 3 3 [XA, 0, -1] _ hS (by omega) hLc hLcb rfl (by decide) (by decide)).mono ?_; rintro _ W6 ⟨n3, hn3, rfl, hS2, hg2⟩)
          replace hG := gr_trans hG hg2
          replace hLa := Blk.grown hLa hg2 (by simpa using hLab)
          replace hLb := Blk.grown hLb hg2 (by simpa using hLbb)
          replace hLc := Blk.grown hLc hg2 (by simpa using hLcb)
          clear hS
          have hS := hS2
          clear hS2 hg2
          refine hK.out _ _ (fun _ => HKC.out _ hG) ?_
          clear hK K
          (try simp only [Act.put, ssA, ssZ, ssS])
          refine wpLate_ready (rs := [27]) (by kernel_rfl) (by simp) ?_
          refine AllLate.cons (o := _) rfl (fun K hK => ?n65) AllLate.nil
          case' n65 =>
           go_simp
           (go_at_call 40; refine (flip_in b _ 2 _ hS (by omega) (by omega) (by omega)).mono ?_; rintro _ W7 ⟨f4, rfl, hS2, hg2⟩)
           replace hG := gr_trans hG hg2
           replace hLa := Blk.grown hLa hg2 (by simpa using hLab)
           replace hLb := Blk.grown hLb hg2 (by simpa using hLbb)
           replace hLc := Blk.grown hLc hg2 (by simpa using hLcb)
           clear hS
           have hS := hS2
           clear hS2 hg2
           refine hK.out _ _ (fun _ => HKC.out _ hG) ?_
           clear hK K
           (try simp only [Act.put, ssA, ssZ, ssS])
    case' n1 =>
     go_simp
     have hLc := Blk.new W0 3 #[.int .i64 XA, .int .i64 0, .int .i64 (-1)]
     have hLcb : W0.heap.size ≠ b := by have := hS.lt; omega
     replace hS := hS.alloc (.cells #[.int .i64 XA, .int .i64 0, .int .i64 (-1)] 3)
     replace hG := gr_alloc hG (.cells #[.int .i64 XA, .int .i64 0, .int .i64 (-1)] 3)
     generalize W0.alloc (.cells #[.int .i64 XA, .int .i64 0, .int .i64 (-1)] 3) = W1 at *
     generalize W0.heap.size = gC at *
     refine hK.out _ _ (fun _ => HKC.out _ hG) ?_
     clear hK K
     (try simp only [Act.put, ssA, ssZ, ssS])
     refine wpLate_ready (rs := [9, 16]) (by kernel_rfl) (by simp) ?_
     refine AllLate.cons (o := _) rfl (fun K hK => ?n67) (AllLate.cons (o := _) rfl (fun K hK => ?n66) AllLate.nil)
     case' n67 =>
      go_simp
      have hLa := Blk.new W1 9 #[.string XB, .string ⟨#[]⟩, .string ⟨#[107, 49, 97, 98]⟩, .string ⟨#[107]⟩]
      have hLab : W1.heap.size ≠ b := by have := hS.lt; omega
      replace hS := hS.alloc (.cells #[.string XB, .string ⟨#[]⟩, .string ⟨#[107, 49, 97, 98]⟩, .string ⟨#[107]⟩] 9)
      replace hLc := Blk.alloc hLc (.cells #[.string XB, .string ⟨#[]⟩, .string ⟨#[107, 49, 97, 98]⟩, .string ⟨#[107]⟩] 9)
      replace hG := gr_alloc hG (.cells #[.string XB, .string ⟨#[]⟩, .string ⟨#[107, 49, 97, 98]⟩, .string ⟨#[107]⟩] 9)
      generalize W1.alloc (.cells #[.string XB, .string ⟨#[]⟩, .string ⟨#[107, 49, 97, 98]⟩, .string ⟨#[107]⟩] 9) = W2 at *
      generalize W1.heap.size = gA at *
      refine hK.out _ _ (fun _ => HKC.out _ hG) ?_
      clear hK K
      (try simp only [Act.put, ssA, ssZ, ssS])
      refine wpLate_ready (rs := [10, 16]) (by kernel_rfl) (by simp) ?_
      refine AllLate.cons (o := _) rfl (fun K hK => ?n69) (AllLate.cons (o := _) rfl (fun K hK => ?n68) AllLate.nil)
      case' n69 =>
       go_simp
       (go_at_call 42; refine (some_in b _ gA 4 4 [XB, ⟨#[]⟩, ⟨#[107, 49, 97, 98]⟩, ⟨#[107]⟩] _ hS (by omega) hLa hLab rfl (by decide) (by decide)).mono ?_; rintro _ W3 ⟨s1, hs1, rfl, hS2, hg2⟩)
       replace hG := gr_trans hG hg2
       replace hLa := Blk.grown hLa hg2 (by simpa using hLab)
       replace hLc := Blk.grown hLc hg2 (by simpa using hLcb)
       clear hS
       have hS := hS2
       clear hS2 hg2
       refine hK.out _ _ (fun _ => HKC.out _ hG) ?_
       clear hK K
       (try simp only [Act.put, ssA, ssZ, ssS])
       refine wpLate_ready (rs := [16]) (by kernel_rfl) (by simp) ?_
       refine AllLate.cons (o := _) rfl (fun K hK => ?n70) AllLate.nil
       case' n70 =>
        go_simp
        have hLb := Blk.new W3 9 #[.string XE, .string ⟨#[110, 111, 110, 101]⟩]
        have hLbb : W3.heap.size ≠ b := by have := hS.lt; omega
        replace hS := hS.alloc (.cells #[.string XE, .string ⟨#[110, 111, 110, 101]⟩] 9)
        replace hLa := Blk.alloc hLa (.cells #[.string XE, .string ⟨#[110, 111, 110, 101]⟩] 9)
        replace hLc := Blk.alloc hLc (.cells #[.string XE, .string ⟨#[110, 111, 110, 101]⟩] 9)
        replace hG := gr_alloc hG (.cells #[.string XE, .string ⟨#[110, 111, 110, 101]⟩] 9)
        generalize W3.alloc (.cells #[.string XE, .string ⟨#[110, 111, 110, 101]⟩] 9) = W4 at *
        generalize W3.heap.size = gB at *
        refine hK.out _ _ (fun _ => HKC.out _ hG) ?_
        clear hK K
        (try simp only [Act.put, ssA, ssZ, ssS])
        refine wpLate_ready (rs := [17]) (by kernel_rfl) (by simp) ?_
        refine AllLate.cons (o := _) rfl (fun K hK => ?n71) AllLate.nil
        case' n71 =>
         go_simp
         (go_at_call 42; refine (some_in b _ gB 2 2 [XE, ⟨#[110, 111, 110, 101]⟩] _ hS (by omega) hLb hLbb rfl (by decide) (by decide)).mono ?_; rintro _ W5 ⟨s2, hs2, rfl, hS2, hg2⟩)
         replace hG := gr_trans hG hg2
         replace hLa := Blk.grown hLa hg2 (by simpa using hLab)
         replace hLb := Blk.grown hLb hg2 (by simpa using hLbb)
         replace hLc := Blk.grown hLc hg2 (by simpa using hLcb)
         clear hS
         have hS := hS2
         clear hS2 hg2
         refine hK.out _ _ (fun _ => HKC.out _ hG) ?_
         clear hK K
         (try simp only [Act.put, ssA, ssZ, ssS])
         refine wpLate_ready (rs := [25]) (by kernel_rfl) (by simp) ?_
         refine AllLate.cons (o := _) rfl (fun K hK => ?n72) AllLate.nil
         case' n72 =>
          go_simp
          (go_at_call 44; refine (pick_in b _ gC 3 3 [XA, 0, -1] _ hS (by omega) hLc hLcb rfl (by decide) (by decide)).mono ?_; rintro _ W6 ⟨n3, hn3, rfl, hS2, hg2⟩)
          replace hG := gr_trans hG hg2
          replace hLa := Blk.grown hLa hg2 (by simpa using hLab)
          replace hLb := Blk.grown hLb hg2 (by simpa using hLbb)
          replace hLc := Blk.grown hLc hg2 (by simpa using hLcb)
          clear hS
          have hS := hS2
          clear hS2 hg2
          refine hK.out _ _ (fun _ => HKC.out _ hG) ?_
          clear hK K
          (try simp only [Act.put, ssA, ssZ, ssS])
          refine wpLate_ready (rs := [27]) (by kernel_rfl) (by simp) ?_
          refine AllLate.cons (o := _) rfl (fun K hK => ?n73) AllLate.nil
          case' n73 =>
           go_simp
           (go_at_call 40; refine (flip_in b _ 2 _ hS (by omega) (by omega) (by omega)).mono ?_; rintro _ W7 ⟨f4, rfl, hS2, hg2⟩)
           replace hG := gr_trans hG hg2
           replace hLa := Blk.grown hLa hg2 (by simpa using hLab)
           replace hLb := Blk.grown hLb hg2 (by simpa using hLbb)
           replace hLc := Blk.grown hLc hg2 (by simpa using hLcb)
           clear hS
           have hS := hS2
           clear hS2 hg2
           refine hK.out _ _ (fun _ => HKC.out _ hG) ?_
           clear hK K
           (try simp only [Act.put, ssA, ssZ, ssS])
      case' n68 =>
       go_simp
       have hLb := Blk.new W2 9 #[.string XE, .string ⟨#[110, 111, 110, 101]⟩]
       have hLbb : W2.heap.size ≠ b := by have := hS.lt; omega
       replace hS := hS.alloc (.cells #[.string XE, .string ⟨#[110, 111, 110, 101]⟩] 9)
       replace hLa := Blk.alloc hLa (.cells #[.string XE, .string ⟨#[110, 111, 110, 101]⟩] 9)
       replace hLc := Blk.alloc hLc (.cells #[.string XE, .string ⟨#[110, 111, 110, 101]⟩] 9)
       replace hG := gr_alloc hG (.cells #[.string XE, .string ⟨#[110, 111, 110, 101]⟩] 9)
       generalize W2.alloc (.cells #[.string XE, .string ⟨#[110, 111, 110, 101]⟩] 9) = W3 at *
       generalize W2.heap.size = gB at *
       refine hK.out _ _ (fun _ => HKC.out _ hG) ?_
       clear hK K
       (try simp only [Act.put, ssA, ssZ, ssS])
       refine wpLate_ready (rs := [10]) (by kernel_rfl) (by simp) ?_
       refine AllLate.cons (o := _) rfl (fun K hK => ?n74) AllLate.nil
       case' n74 =>
        go_simp
        (go_at_call 42; refine (some_in b _ gA 4 4 [XB, ⟨#[]⟩, ⟨#[107, 49, 97, 98]⟩, ⟨#[107]⟩] _ hS (by omega) hLa hLab rfl (by decide) (by decide)).mono ?_; rintro _ W4 ⟨s1, hs1, rfl, hS2, hg2⟩)
        replace hG := gr_trans hG hg2
        replace hLa := Blk.grown hLa hg2 (by simpa using hLab)
        replace hLb := Blk.grown hLb hg2 (by simpa using hLbb)
        replace hLc := Blk.grown hLc hg2 (by simpa using hLcb)
        clear hS
        have hS := hS2
        clear hS2 hg2
        refine hK.out _ _ (fun _ => HKC.out _ hG) ?_
        clear hK K
        (try simp only [Act.put, ssA, ssZ, ssS])
        refine wpLate_ready (rs := [17]) (by kernel_rfl) (by simp) ?_
        refine AllLate.cons (o := _) rfl (fun K hK => ?n75) AllLate.nil
        case' n75 =>
         go_simp
         (go_at_call 42; refine (some_in b _ gB 2 2 [XE, ⟨#[110, 111, 110, 101]⟩] _ hS (by omega) hLb hLbb rfl (by decide) (by decide)).mono ?_; rintro _ W5 ⟨s2, hs2, rfl, hS2, hg2⟩)
         replace hG := gr_trans hG hg2
         replace hLa := Blk.grown hLa hg2 (by simpa using hLab)
         replace hLb := Blk.grown hLb hg2 (by simpa using hLbb)
         replace hLc := Blk.grown hLc hg2 (by simpa using hLcb)
         clear hS
         have hS := hS2
         clear hS2 hg2
         refine hK.out _ _ (fun _ => HKC.out _ hG) ?_
         clear hK K
         (try simp only [Act.put, ssA, ssZ, ssS])
         refine wpLate_ready (rs := [25]) (by kernel_rfl) (by simp) ?_
         refine AllLate.cons (o := _) rfl (fun K hK => ?n76) AllLate.nil
         case' n76 =>
          go_simp
          (go_at_call 44; refine (pick_in b _ gC 3 3 [XA, 0, -1] _ hS (by omega) hLc hLcb rfl (by decide) (by decide)).mono ?_; rintro _ W6 ⟨n3, hn3, rfl, hS2, hg2⟩)
          replace hG := gr_trans hG hg2
          replace hLa := Blk.grown hLa hg2 (by simpa using hLab)
          replace hLb := Blk.grown hLb hg2 (by simpa using hLbb)
          replace hLc := Blk.grown hLc hg2 (by simpa using hLcb)
          clear hS
          have hS := hS2
          clear hS2 hg2
          refine hK.out _ _ (fun _ => HKC.out _ hG) ?_
          clear hK K
          (try simp only [Act.put, ssA, ssZ, ssS])
          refine wpLate_ready (rs := [27]) (by kernel_rfl) (by simp) ?_
          refine AllLate.cons (o := _) rfl (fun K hK => ?n77) AllLate.nil
          case' n77 =>
           go_simp
           (go_at_call 40; refine (flip_in b _ 2 _ hS (by omega) (by omega) (by omega)).mono ?_; rintro _ W7 ⟨f4, rfl, hS2, hg2⟩)
           replace hG := gr_trans hG hg2
           replace hLa := Blk.grown hLa hg2 (by simpa using hLab)
           replace hLb := Blk.grown hLb hg2 (by simpa using hLbb)
           replace hLc := Blk.grown hLc hg2 (by simpa using hLcb)
           clear hS
           have hS := hS2
           clear hS2 hg2
           refine hK.out _ _ (fun _ => HKC.out _ hG) ?_
           clear hK K
           (try simp only [Act.put, ssA, ssZ, ssS])
     case' n66 =>
      go_simp
      have hLb := Blk.new W1 9 #[.string XE, .string ⟨#[110, 111, 110, 101]⟩]
      have hLbb : W1.heap.size ≠ b := by have := hS.lt; omega
      replace hS := hS.alloc (.cells #[.string XE, .string ⟨#[110, 111, 110, 101]⟩] 9)
      replace hLc := Blk.alloc hLc (.cells #[.string XE, .string ⟨#[110, 111, 110, 101]⟩] 9)
      replace hG := gr_alloc hG (.cells #[.string XE, .string ⟨#[110, 111, 110, 101]⟩] 9)
      generalize W1.alloc (.cells #[.string XE, .string ⟨#[110, 111, 110, 101]⟩] 9) = W2 at *
      generalize W1.heap.size = gB at *
      refine hK.out _ _ (fun _ => HKC.out _ hG) ?_
      clear hK K
      (try simp only [Act.put, ssA, ssZ, ssS])
      refine wpLate_ready (rs := [9]) (by kernel_rfl) (by simp) ?_
      refine AllLate.cons (o := _) rfl (fun K hK => ?n78) AllLate.nil
      case' n78 =>
       go_simp
       have hLa := Blk.new W2 9 #[.string XB, .string ⟨#[]⟩, .string ⟨#[107, 49, 97, 98]⟩, .string ⟨#[107]⟩]
       have hLab : W2.heap.size ≠ b := by have := hS.lt; omega
       replace hS := hS.alloc (.cells #[.string XB, .string ⟨#[]⟩, .string ⟨#[107, 49, 97, 98]⟩, .string ⟨#[107]⟩] 9)
       replace hLb := Blk.alloc hLb (.cells #[.string XB, .string ⟨#[]⟩, .string ⟨#[107, 49, 97, 98]⟩, .string ⟨#[107]⟩] 9)
       replace hLc := Blk.alloc hLc (.cells #[.string XB, .string ⟨#[]⟩, .string ⟨#[107, 49, 97, 98]⟩, .string ⟨#[107]⟩] 9)
       replace hG := gr_alloc hG (.cells #[.string XB, .string ⟨#[]⟩, .string ⟨#[107, 49, 97, 98]⟩, .string ⟨#[107]⟩] 9)
       generalize W2.alloc (.cells #[.string XB, .string ⟨#[]⟩, .string ⟨#[107, 49, 97, 98]⟩, .string ⟨#[107]⟩] 9) = W3 at *
       generalize W2.heap.size = gA at *
       refine hK.out _ _ (fun _ => HKC.out _ hG) ?_
       clear hK K
       (try simp only [Act.put, ssA, ssZ, ssS])
       refine wpLate_ready (rs := [10]) (by kernel_rfl) (by simp) ?_
       refine AllLate.cons (o := _) rfl (fun K hK => ?n79) AllLate.nil
       case' n79 =>
        go_simp
        (go_at_call 42; refine (some_in b _ gA 4 4 [XB, ⟨#[]⟩, ⟨#[107, 49, 97, 98]⟩, ⟨#[107]⟩] _ hS (by omega) hLa hLab rfl (by decide) (by decide)).mono ?_; rintro _ W4 ⟨s1, hs1, rfl, hS2, hg2⟩)
        replace hG := gr_trans hG hg2
        replace hLa := Blk.grown hLa hg2 (by simpa using hLab)
        replace hLb := Blk.grown hLb hg2 (by simpa using hLbb)
        replace hLc := Blk.grown hLc hg2 (by simpa using hLcb)
        clear hS
        have hS := hS2
        clear hS2 hg2
        refine hK.out _ _ (fun _ => HKC.out _ hG) ?_
        clear hK K
        (try simp only [Act.put, ssA, ssZ, ssS])
        refine wpLate_ready (rs := [17]) (by kernel_rfl) (by simp) ?_
        refine AllLate.cons (o := _) rfl (fun K hK => ?n80) AllLate.nil
        case' n80 =>
         go_simp
         (go_at_call 42; refine (some_in b _ gB 2 2 [XE, ⟨#[110, 111, 110, 101]⟩] _ hS (by omega) hLb hLbb rfl (by decide) (by decide)).mono ?_; rintro _ W5 ⟨s2, hs2, rfl, hS2, hg2⟩)
         replace hG := gr_trans hG hg2
         replace hLa := Blk.grown hLa hg2 (by simpa using hLab)
         replace hLb := Blk.grown hLb hg2 (by simpa using hLbb)
         replace hLc := Blk.grown hLc hg2 (by simpa using hLcb)
         clear hS
         have hS := hS2
         clear hS2 hg2
         refine hK.out _ _ (fun _ => HKC.out _ hG) ?_
         clear hK K
         (try simp only [Act.put, ssA, ssZ, ssS])
         refine wpLate_ready (rs := [25]) (by kernel_rfl) (by simp) ?_
         refine AllLate.cons (o := _) rfl (fun K hK => ?n81) AllLate.nil
         case' n81 =>
          go_simp
          (go_at_call 44; refine (pick_in b _ gC 3 3 [XA, 0, -1] _ hS (by omega) hLc hLcb rfl (by decide) (by decide)).mono ?_; rintro _ W6 ⟨n3, hn3, rfl, hS2, hg2⟩)
          replace hG := gr_trans hG hg2
          replace hLa := Blk.grown hLa hg2 (by simpa using hLab)
          replace hLb := Blk.grown hLb hg2 (by simpa using hLbb)
          replace hLc := Blk.grown hLc hg2 (by simpa using hLcb)
          clear hS
          have hS := hS2
          clear hS2 hg2
          refine hK.out _ _ (fun _ => HKC.out _ hG) ?_
          clear hK K
          (try simp only [Act.put, ssA, ssZ, ssS])
          refine wpLate_ready (rs := [27]) (by kernel_rfl) (by simp) ?_
          refine AllLate.cons (o := _) rfl (fun K hK => ?n82) AllLate.nil
          case' n82 =>
           go_simp
           (go_at_call 40; refine (flip_in b _ 2 _ hS (by omega) (by omega) (by omega)).mono ?_; rintro _ W7 ⟨f4, rfl, hS2, hg2⟩)
           replace hG := gr_trans hG hg2
           replace hLa := Blk.grown hLa hg2 (by simpa using hLab)
           replace hLb := Blk.grown hLb hg2 (by simpa using hLbb)
           replace hLc := Blk.grown hLc hg2 (by simpa using hLcb)
           clear hS
           have hS := hS2
           clear hS2 hg2
           refine hK.out _ _ (fun _ => HKC.out _ hG) ?_
           clear hK K
           (try simp only [Act.put, ssA, ssZ, ssS])
    all_goals as_aux_lemma =>
     rename World => WL
     clear hLa hLb hLc hLab hLbb hLcb
     have hq4 := HQ4.out _ hG
     obtain ⟨hq0, hq1, hq2, _⟩ := HKC.out _ hG
     have hU9 := EntsFrom.other HU5.out hG HBL.out
     have hV9 := PfxsFrom.other HV5.out hG HBL.out
     have hfz : ∀ j, WL.frozen? ⟨gp, j, none⟩ = false := fun j => by
      have h := hV9
      unfold PfxsFrom at h
      rw [HNP.out] at h
      exact World.ownsRow.frozenAt h j
     have HB1 : Hid (s1.size ≤ 1000000000 ∧ Ascii s1) := by
      simp at hs1
      rcases hs1 with rfl | rfl | rfl | rfl
      ·exact ⟨HBS.out.1, HBS.out.2.1⟩
      ·exact ⟨by decide, Ascii.of_mem (by decide)⟩
      ·exact ⟨by decide, Ascii.of_mem (by decide)⟩
      ·exact ⟨by decide, Ascii.of_mem (by decide)⟩
     have HB2 : Hid (s2.size ≤ 1000000000) := by
      simp at hs2
      rcases hs2 with rfl | rfl
      ·exact HBS.out.2.2
      ·show _ ≤ _; decide
     have HB3 : Hid (-1 ≤ n3 ∧ n3 ≤ 345686400000) := by
      simp at hn3
      show _ ∧ _
      rcases hn3 with rfl | rfl | rfl <;> omega
     obtain ⟨z1, z2⟩ := HPUT.out WL s1 s2 n3 f4 hV9
     have HZ1 := Lib.hid z1
     have hs9 := hS.grown z2 (fun g e => by injection e with e; have := HBL.out; omega)
     have HS9 := Lib.hid hs9
     have HU10 : Hid (EntsFrom B ((((WL.setCell ⟨gp, i * 6, none⟩ (.string s1)).setCell ⟨gp, i * 6 + 1, none⟩ (.string s2)).setCell ⟨gp, i * 6 + 2, none⟩ (.int .i64 n3)).setCell ⟨gp, i * 6 + 4, none⟩ (.bool f4)) (.slice (some ⟨gE, 0, none⟩) NL ce) l2) := own_apartT (show World.ownsRow _ _ _ _ _ _ _ from hU9) z2 (fun g e e2 => by injection e2 with e2; simp [Value.ownBlock] at e; exact HAPT.out gp (by simp [Value.ownBlock]) (by omega))
     have HG10 := Lib.hid (gr_grown (gr_trans hg05 hG) z2 (fun g e => by injection e with e; exact .inr (by have := HB.out; omega)))
     have HSM : Hid (∀ x ∈ p.set i ⟨s1, s2, n3, p[i].z, f4, p[i].zone⟩, PfxSm x) := set_all HPSM.out i _ (HXZ.out _ _ _ _ HB1.out.1 HB1.out.2 HB2.out (by have := HB3.out; omega) (by have := HB3.out; omega))
     clear hU9 hV9 z1 z2 hs1 hs2 hn3 hs9 hS
     refine wpLate_takeAny (i := 28) (v := ?_) rfl (by kernel_rfl) (by kernel_rfl) (by kernel_rfl) (by kernel_rfl) (fun _ _ _ h => h) (Or.inl ⟨by kernel_rfl, ?_⟩) (fun _ => HKC.out _ hG) ?_
     rotate_left
     ·intro w hSw
      go_simp
      (try with_reducible rfl)
     change wpLate _ _ _ _ _ _ _ _ (Act.put _ (some 87) _) _
     simp only [Act.put, ssA, ssZ, ssS]
     refine wpLate_takeAny (i := 29) (v := ?_) rfl (by kernel_rfl) (by kernel_rfl) (by kernel_rfl) (by kernel_rfl) (fun _ _ _ h => h) (Or.inl ⟨by kernel_rfl, ?_⟩) (fun _ => HKC.out _ hG) ?_
     rotate_left
     ·intro w hSw
      go_simp
      (try with_reducible rfl)
     change wpLate _ _ _ _ _ _ _ _ (Act.put _ (some 88) _) _
     simp only [Act.put, ssA, ssZ, ssS]
     refine wpLate_ready (rs := [30]) (by kernel_rfl) (by simp) ?_
     refine AllLate.cons (o := _) rfl (fun K hK => ?_) AllLate.nil
     go_simp
     refine hK.out _ _ (fun h => Bool.noConfusion (show false = true from h)) ?_
     clear hK K
     (try simp only [Act.put, ssA, ssZ, ssS])
     refine wpLate_takeAny (i := 31) (v := ?_) rfl (by kernel_rfl) (by kernel_rfl) (by kernel_rfl) (by kernel_rfl) (fun _ _ _ h => h) (Or.inl ⟨by kernel_rfl, ?_⟩) (fun h => Bool.noConfusion (show false = true from h)) ?_
     rotate_left
     ·intro w hSw
      go_simp
      (try with_reducible rfl)
     change wpLate _ _ _ _ _ _ _ _ (Act.put _ (some 89) _) _
     simp only [Act.put, ssA, ssZ, ssS]
     refine wpLate_takeAny (i := 32) (v := ?_) rfl (by kernel_rfl) (by kernel_rfl) (by kernel_rfl) (by kernel_rfl) (fun _ _ _ h => h) (Or.inl ⟨by kernel_rfl, ?_⟩) (fun h => Bool.noConfusion (show false = true from h)) ?_
     rotate_left
     ·intro w hSw
      go_simp
      (try with_reducible rfl)
     change wpLate _ _ _ _ _ _ _ _ (Act.put _ (some 90) _) _
     simp only [Act.put, ssA, ssZ, ssS]
     refine wpLate_ready (rs := [33]) (by kernel_rfl) (by simp) ?_
     refine AllLate.cons (o := _) rfl (fun K hK => ?_) AllLate.nil
     go_simp
     refine hK.out _ _ (fun h => Bool.noConfusion (show false = true from h)) ?_
     clear hK K
     (try simp only [Act.put, ssA, ssZ, ssS])
     refine wpLate_takeAny (i := 34) (v := ?_) rfl (by kernel_rfl) (by kernel_rfl) (by kernel_rfl) (by kernel_rfl) (fun _ _ _ h => h) (Or.inl ⟨by kernel_rfl, ?_⟩) (fun h => Bool.noConfusion (show false = true from h)) ?_
     rotate_left
     ·intro w hSw
      go_simp
      (try with_reducible rfl)
     change wpLate _ _ _ _ _ _ _ _ (Act.put _ (some 91) _) _
     simp only [Act.put, ssA, ssZ, ssS]
     refine wpLate_takeAny (i := 35) (v := ?_) rfl (by kernel_rfl) (by kernel_rfl) (by kernel_rfl) (by kernel_rfl) (fun _ _ _ h => h) (Or.inl ⟨by kernel_rfl, ?_⟩) (fun h => Bool.noConfusion (show false = true from h)) ?_
     rotate_left
     ·intro w hSw
      go_simp
      (try with_reducible rfl)
     change wpLate _ _ _ _ _ _ _ _ (Act.put _ (some 92) _) _
     simp only [Act.put, ssA, ssZ, ssS]
     refine wpLate_takeAny (i := 36) (v := ?_) rfl (by kernel_rfl) (by kernel_rfl) (by kernel_rfl) (by kernel_rfl) (fun _ _ _ h => h) (Or.inl ⟨by kernel_rfl, ?_⟩) (fun h => Bool.noConfusion (show false = true from h)) ?_
     rotate_left
     ·intro w hSw
      go_simp
      (try with_reducible rfl)
     change wpLate _ _ _ _ _ _ _ _ (Act.put _ (some 93) _) _
     simp only [Act.put, ssA, ssZ, ssS]
     refine wpLate_ready (rs := [37]) (by kernel_rfl) (by simp) ?_
     refine AllLate.cons (o := _) rfl (fun K hK => ?_) AllLate.nil
     go_simp
     refine hK.out _ _ (fun h => Bool.noConfusion (show false = true from h)) ?_
     clear hK K
     (try simp only [Act.put, ssA, ssZ, ssS])
     refine wpLate_takeAny (i := 38) (v := ?_) rfl (by kernel_rfl) (by kernel_rfl) (by kernel_rfl) (by kernel_rfl) (fun _ _ _ h => h) (Or.inl ⟨by kernel_rfl, ?_⟩) (fun h => Bool.noConfusion (show false = true from h)) ?_
     rotate_left
     ·intro w hSw
      go_simp
      (try with_reducible rfl)
     change wpLate _ _ _ _ _ _ _ _ (Act.put _ (some 94) _) _
     simp only [Act.put, ssA, ssZ, ssS]
     refine wpLate_takeAny (i := 39) (v := ?_) rfl (by kernel_rfl) (by kernel_rfl) (by kernel_rfl) (by kernel_rfl) (fun _ _ _ h => h) (Or.inl ⟨by kernel_rfl, ?_⟩) (fun h => Bool.noConfusion (show false = true from h)) ?_
     rotate_left
     ·intro w hSw
      go_simp
      (try with_reducible rfl)
     change wpLate _ _ _ _ _ _ _ _ (Act.put _ (some 95) _) _
     simp only [Act.put, ssA, ssZ, ssS]
     refine wpLate_ready (rs := [40]) (by kernel_rfl) (by simp) ?_
     refine AllLate.cons (o := _) rfl (fun K hK => ?_) AllLate.nil
     go_simp
     refine hK.out _ _ (fun h => Bool.noConfusion (show false = true from h)) ?_
     clear hK K
     (try simp only [Act.put, ssA, ssZ, ssS])
     refine wpLate_done (by kernel_rfl) ?_ _
     go_wp2_with fail
     go_ret2
     exact HEND.out _ _ _ HU10.out (by rw [List.length_set]; exact HNP.out) HZ1.out HSM.out (by omega) HS9.out HG10.out
   ·have hnp0 : ¬ (0 : Int) < (NP : Int) := by omega
    have hnp0d : decide (0 < NP) = false := by rw [decide_eq_false_iff_not]; omega
    go_wp2_with fail
    go_ret2
    exact HEND.out _ p _ HU4.out HNP.out HV4.out HPSM.out (by omega) hs4 hg04
end Go.Proofs.YtbpkfkbbkgdlaaaGreatDoor

namespace Go.Proofs.YtbpkfkbbkgdlaaaGreatDoor
open Go.RowKit
set_option linter.unusedVariables false
set_option linter.unusedSimpArgs false

def isCall (s : ByteArray) : Bool := (partsOf s).isSome
theorem parts_flat {s : ByteArray} {w w' : World} {e : Ending} (h : PartsPost s w e w') : w.grownBy w' none ∧ ∃ (t0 t1 t2 t4 : ByteArray) (kd : Int), e = .returned (.tuple #[.agg #[.string t0, .string t1, .string t2, .int .i64 kd, .string t4], .bool (isCall s)]) := by
 obtain ⟨hg, ⟨hn, he⟩ | ⟨t, k, kd, ad, hn, he⟩⟩ := h
 ·have hb : isCall s = false := by unfold isCall; rw [hn]; rfl
  rw [hb]
  exact ⟨hg, _, _, _, _, _, he⟩
 ·have hb : isCall s = true := by unfold isCall; rw [hn]; rfl
  rw [hb]
  exact ⟨hg, _, _, _, _, _, he⟩
set_option maxHeartbeats 1000000 in
theorem isCall_any (s : ByteArray) (w : World) (hs : s.size < 4294967281) (ha : Ascii s) :
 Calls Tryz.prog 36 #[.string s] w fun e w' => e = .returned (.bool (isCall s)) ∧ w.grownBy w' none := by
 have HP := Lib.hid ((parts_any s w hs ha).mono fun e w' h => parts_flat h)
 clear hs ha
 generalize isCall s = B at *
 go_enter Tryz.func36, Tryz.ntmps36
 go_wp2_with fail
 refine HP.out.mono ?_
 rintro _ w1 ⟨hg1, t0, t1, t2, t4, kd, rfl⟩
 have hG := gr_alloc hg1 (.cells #[.string t0, .string t1, .string t2, .int .i64 kd, .string t4] 105)
 go_wp2_with fail
 go_ret
 exact ⟨rfl, hG⟩
/-- The closure of CheckCalls: what is no call sign. -/
theorem noCall_any (s : ByteArray) (w : World) (hs : s.size < 4294967281) (ha : Ascii s) :
 Calls Tryz.prog 106 #[.string s] w fun e w' => e = .returned (.bool (!isCall s)) ∧ w.grownBy w' none := by
 have H1 := Lib.hid (fun W => isCall_any s W hs ha)
 generalize isCall s = B at *
 cases B
 all_goals
  go_enter Tryz.func106, Tryz.ntmps106
  go_wp2_with fail
  refine (H1.out _).mono ?_
  rintro _ w1 ⟨rfl, hg1⟩
  go_wp2_with fail
  go_ret
  exact ⟨rfl, hg1⟩
end Go.Proofs.YtbpkfkbbkgdlaaaGreatDoor
