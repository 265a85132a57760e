/- Plain law of the cosine in whole numbers: no program in sight. No condition. place.cosine and pileref1.CosineOf both compute the plain cosine. Condition: the angle is far from the ends of int. Plain law of the sun: what tilt and height come to, and their bounds: no program in sight. No condition. The walks over tilt and height of the sun, in package place and in the reference. Condition: moments and angles in their ranges. The error of a site, in package place and in the reference. No condition. Tilt, Sun, Grey, Cosine with their errors; GreyAt; placed. Condition: a site's numbers lie within 2^41. ready: the four packages do something. Condition: asciiSpace is Go's own table, MaxLen holds a number. The walk over the law TidyKeepsAll: it answers true whatever numbers come in. Condition: asciiSpace is Go's own table, MaxLen holds a number. What the cards of this seat share: a world that meets the rows' condition on package-level variables; what that condition gives the walks. No condition. -/
import Derived.Test.YtbpkfkbbkgdlaaaGreatDoorPKeepaa
import Derived.Test.YtbpkfkbbkgdlaaaGreatDoorPKeepac
import Derived.Test.YtbpkfkbbkgdlaaaGreatDoorPKeepad
import Derived.Test.YtbpkfkbbkgdlaaaGreatDoorPKeepaj
import Derived.Test.YtbpkfkbbkgdlaaaGreatDoorPKeepag
import Derived.Test.YtbpkfkbbkgdlaaaGreatDoorPKeepam
import Derived.Deep.DeepCutAuto
import Derived.Test.YtbpkfkbbkgdlaaaGreatDoorCards
import Derived.Test.YtbpkfkbbkgdlaaaGreatDoorTie
import Derived.LaidMore
import Derived.Stop.Joined
import Derived.Stop.LaidErr
import Derived.HandedShaped
import Derived.Shelf.Vars
import Derived.PinnedBridge
import Derived.SevenTiedAt
namespace Go.Proofs.YtbpkfkbbkgdlaaaGreatDoor
set_option linter.unusedVariables false

def cosB (x : Int) : Int := (419904000000 - 4 * x * x) * 1000000 / (419904000000 + x * x)
/-- The cosine of an angle that is from 0 to a whole circle less 1. -/
def cosC (y : Int) : Int :=
  if 648000 < y then (if 324000 < 1296000 - y then -cosB (648000 - (1296000 - y)) else cosB (1296000 - y))
  else (if 324000 < y then -cosB (648000 - y) else cosB y)
def cosI (a : Int) : Int := cosC (a % 1296000)
theorem sq_bd (x : Int) (h0 : 0 ≤ x) (h1 : x ≤ 324000) : 0 ≤ x * x ∧ x * x ≤ 104976000000 ∧ 4 * x * x = 4 * (x * x) := by
  refine ⟨Int.mul_nonneg h0 h0, ?_, by rw [Int.mul_assoc]⟩
  have := Int.mul_le_mul h1 h1 h0 (by omega)
  omega
theorem cosB_bd (x : Int) (h0 : 0 ≤ x) (h1 : x ≤ 324000) : 0 ≤ cosB x ∧ cosB x ≤ 1000000 := by
  obtain ⟨a, b, c⟩ := sq_bd x h0 h1
  unfold cosB
  rw [c]
  refine ⟨Int.ediv_nonneg (by omega) (by omega), ?_⟩
  refine Int.le_of_lt_add_one (Int.ediv_lt_of_lt_mul (by omega) ?_)
  omega
theorem tmod_circle (a : Int) : (a.tmod 1296000 + 1296000) % 1296000 = a % 1296000 := by
  have := Int.tmod_add_mul_tdiv a 1296000
  have h1 := tmod_lo a 1296000 (by omega)
  omega
end Go.Proofs.YtbpkfkbbkgdlaaaGreatDoor

namespace Go.Proofs.YtbpkfkbbkgdlaaaGreatDoor
set_option linter.unusedVariables false
open Go.RowKit

set_option maxHeartbeats 400000 in
theorem cosine_base (x : Int) (w : World) (h0 : 0 ≤ x) (h1 : x ≤ 324000) :
    Calls Tryz.prog 129 #[.int .i64 x] w fun e w' => e = .returned (.int .i64 (cosB x)) ∧ w = w' := by
  obtain ⟨a, b, c⟩ := sq_bd x h0 h1
  have a' : 0 ≤ 4 * x * x := by omega
  have b' : 4 * x * x ≤ 419904000000 := by omega
  have e1 : (x % 1296000 + 1296000) % 1296000 = x := by omega
  clear c
  go_enter Tryz.func129, Tryz.ntmps129
  go_wp2_with fail
  go_ret
  exact ⟨rfl, rfl⟩
set_option maxHeartbeats 1000000 in
theorem cosine_any (x : Int) (w : World) (h0 : -1000000000000000 ≤ x) (h1 : x ≤ 1000000000000000) :
    Calls Tryz.prog 129 #[.int .i64 x] w fun e w' => e = .returned (.int .i64 (cosI x)) ∧ w = w' := by
  have ht := tmod_lo x 1296000 (by omega)
  obtain ⟨t1, t2⟩ := ht
  have hc := tmod_circle x
  have hfin : cosI x = cosC (x % 1296000) := rfl
  obtain ⟨y, hy⟩ : ∃ y, y = x % 1296000 := ⟨_, rfl⟩
  have y0 : 0 ≤ y := by omega
  have y1 : y < 1296000 := by omega
  rw [← hy] at hc hfin
  have hc2 : 0 ≤ x → (x % 1296000 + 1296000) % 1296000 = y := fun _ => by omega
  have HF := Lib.hid hfin
  clear hfin hy
  by_cases hx : 0 ≤ x
  all_goals first | (have hc3 := hc2 hx; clear hc hc2) | clear hc2
  all_goals
    by_cases g1 : 648000 < y
    · obtain ⟨z, hz⟩ : ∃ z, 1296000 - y = z := ⟨_, rfl⟩
      have z0 : 0 ≤ z := by omega
      have z1 : z < 648000 := by omega
      by_cases g2 : 324000 < z
      · have HE := Lib.hid (show cosC y = -cosB (648000 - z) by unfold cosC; rw [if_pos g1, hz, if_pos g2])
        have hbd := cosB_bd (648000 - z) (by omega) (by omega)
        obtain ⟨d1, d2⟩ := hbd
        go_enter Tryz.func129, Tryz.ntmps129
        go_wp2_with (go_at_call 129; refine (cosine_base _ _ (by omega) (by omega)).mono ?_; rintro e w' ⟨rfl, rfl⟩)
        go_ret
        exact ⟨ret_of (by rw [HF.out, HE.out]), rfl⟩
      · have HE := Lib.hid (show cosC y = cosB z by unfold cosC; rw [if_pos g1, hz, if_neg g2])
        obtain ⟨a, b, c⟩ := sq_bd z z0 (by omega)
        have a' : 0 ≤ 4 * z * z := by omega
        have b' : 4 * z * z ≤ 419904000000 := by omega
        clear c
        go_enter Tryz.func129, Tryz.ntmps129
        go_wp2_with fail
        go_ret
        exact ⟨ret_of (by rw [HF.out, HE.out]; rfl), rfl⟩
    · by_cases g2 : 324000 < y
      · have HE := Lib.hid (show cosC y = -cosB (648000 - y) by unfold cosC; rw [if_neg g1, if_pos g2])
        have hbd := cosB_bd (648000 - y) (by omega) (by omega)
        obtain ⟨d1, d2⟩ := hbd
        go_enter Tryz.func129, Tryz.ntmps129
        go_wp2_with (go_at_call 129; refine (cosine_base _ _ (by omega) (by omega)).mono ?_; rintro e w' ⟨rfl, rfl⟩)
        go_ret
        exact ⟨ret_of (by rw [HF.out, HE.out]), rfl⟩
      · have HE := Lib.hid (show cosC y = cosB y by unfold cosC; rw [if_neg g1, if_neg g2])
        obtain ⟨a, b, c⟩ := sq_bd y y0 (by omega)
        have a' : 0 ≤ 4 * y * y := by omega
        have b' : 4 * y * y ≤ 419904000000 := by omega
        clear c
        go_enter Tryz.func129, Tryz.ntmps129
        go_wp2_with fail
        go_ret
        exact ⟨ret_of (by rw [HF.out, HE.out]; rfl), rfl⟩
end Go.Proofs.YtbpkfkbbkgdlaaaGreatDoor

namespace Go.Proofs.YtbpkfkbbkgdlaaaGreatDoor
set_option linter.unusedVariables false

end Go.Proofs.YtbpkfkbbkgdlaaaGreatDoor

namespace Go.Proofs.YtbpkfkbbkgdlaaaGreatDoor
open Go.RowKit
set_option linter.unusedVariables false

theorem i64_in (n : Int) (h : -9223372036854775808 ≤ n ∧ n ≤ 9223372036854775807) : IntKind.i64.wrap n = n := IntWalk.i64_in n h
end Go.Proofs.YtbpkfkbbkgdlaaaGreatDoor

namespace Go.Proofs.YtbpkfkbbkgdlaaaGreatDoor
open Go.RowKit
set_option linter.unusedVariables false

end Go.Proofs.YtbpkfkbbkgdlaaaGreatDoor

namespace Go.Proofs.YtbpkfkbbkgdlaaaGreatDoor
open Go.RowKit
set_option linter.unusedVariables false

set_option maxHeartbeats 400000 in
theorem cosineE_any (x : Int) (w : World) :
    Calls Tryz.prog 79 #[.int .i64 x] w fun r w' =>
      r = .returned (.tuple #[.int .i64 (okI (spanE x (-1296000000) 1296000000) (cosI x)), .int .i64 (spanE x (-1296000000) 1296000000)]) ∧ w = w' := by
  rcases spanE_cases x (-1296000000) 1296000000 with ⟨he, h1, h2⟩ | ⟨he, h1⟩
  · have HE := Lib.hid he
    have hb : outB x (-1296000000) 1296000000 = false := outB_no h1 h2
    clear he
    go_enter Tryz.func79, Tryz.ntmps79
    go_wp2_with (first | (go_at_call 96; refine (outside_any _ _ _ _).mono ?_; rintro r w' ⟨rfl, rfl⟩) | (go_at_call 129; refine (cosine_any _ _ (by omega) (by omega)).mono ?_; rintro r w' ⟨rfl, rfl⟩))
    go_ret2
    exact ⟨ret_2i (by unfold okI; rw [HE.out]; rfl) HE.out.symm, rfl⟩
  · have HE := Lib.hid he
    have hb : outB x (-1296000000) 1296000000 = true := outB_yes h1
    clear he
    go_enter Tryz.func79, Tryz.ntmps79
    go_wp2_with (first | (go_at_call 96; refine (outside_any _ _ _ _).mono ?_; rintro r w' ⟨rfl, rfl⟩))
    go_ret2
    exact ⟨ret_2i (by unfold okI; rw [HE.out]; rfl) HE.out.symm, rfl⟩
theorem cos60 : cosI 216000 = 500000 := by decide +kernel
end Go.Proofs.YtbpkfkbbkgdlaaaGreatDoor

namespace Go.Proofs.YtbpkfkbbkgdlaaaGreatDoor
open Go.RowKit
set_option linter.unusedVariables false

theorem apart_ready (w : World) : Calls Tryz.prog 75 #[.string ⟨#[111, 104, 50, 97, 98, 99, 47, 52]⟩] w fun e w' =>
    e = .returned (.tuple #[.agg #[.string ⟨#[111, 104, 50, 97, 98, 99]⟩, .string ⟨#[111, 104, 50]⟩, .string ⟨#[97, 98, 99]⟩, .int .i64 2, .string ⟨#[52]⟩], .int .i64 0]) ∧ w.grownBy w' none := by
  refine (apart_any _ w (by decide) ?_).mono ?_
  · intro j b h
    have hm := List.mem_of_getElem? h
    have hall : ∀ b ∈ (⟨#[111, 104, 50, 97, 98, 99, 47, 52]⟩ : ByteArray).data.toList, b.toNat < 128 := by decide +kernel
    exact hall b hm
  · rintro e w' ⟨hg, h⟩
    refine ⟨?_, hg⟩
    rcases h with ⟨h, _⟩ | ⟨t, k, kd, ad, h, rfl⟩
    · rw [partsOf_ready] at h; cases h
    · rw [partsOf_ready] at h
      simp only [Option.some.injEq, Prod.mk.injEq] at h
      obtain ⟨rfl, rfl, rfl, rfl⟩ := h
      rfl
theorem units_ready (b : Nat) (w : World) (hgl : Gl b w) : Calls Tryz.prog 80 #[.string ⟨#[112, 97, 114, 105, 115]⟩] w fun e w' =>
    e = .returned (.tuple #[.int .i64 43, .int .i64 0]) ∧ w.grownBy w' none := by
  have h := units_any b parisS w hgl (by decide)
  rw [paris_ok, paris_units] at h
  exact h
theorem cosine_ready (w : World) : Calls Tryz.prog 79 #[.int .i64 216000] w fun e w' =>
    e = .returned (.tuple #[.int .i64 500000, .int .i64 0]) ∧ w = w' := by
  have h1 : spanE 216000 (-1296000000) 1296000000 = 0 := spanE_no (by omega) (by omega)
  have h := cosineE_any 216000 w
  rw [h1, cos60] at h
  exact h
theorem best_ready (w : World) : Calls Tryz.prog 81 #[.slice (some ⟨w.heap.size, 0, none⟩) 3 3, .agg #[.int .i64 0, .int .i64 3600000], .int .i64 900000] (w.alloc (.cells #[.int .i64 0, .int .i64 600000, .int .i64 1200000] 3)) fun e w' =>
    e = .returned (.tuple #[.int .i64 0, .int .i64 2, .int .i64 0]) ∧ w.grownBy w' none := by
  have hb := Blk.new w 3 (([0, 600000, 1200000] : List Int).map (Value.int .i64)).toArray
  have hl : IntsFrom 0 _ _ [0, 600000, 1200000] := blk_ints hb (Nat.zero_le _) (by decide)
  have e1 : timesE [0, 600000, 1200000] 0 3600000 = 0 := by decide
  have e2 : longE 900000 = 0 := by decide
  have e3 : bestI [0, 600000, 1200000] 0 900000 = (0, 2) := by decide
  have H := (best_ok 0 _ _ 0 3600000 900000 _ hl e1 e2)
  rw [e3] at H
  exact H.mono fun e w' ⟨he, hg⟩ => ⟨he, gr_trans (World.grownBy_alloc w _ none) hg⟩
set_option maxRecDepth 100000 in
set_option maxHeartbeats 2000000 in
theorem ready_any (b : Nat) (w : World) (hgl : Gl b w) : Calls Tryz.prog 29 #[] w fun r w' => r = .returned (.bool true) ∧ w.grownBy w' none := by
  have HGL := Lib.hid hgl
  clear hgl
  go_enter Tryz.func29, Tryz.ntmps29
  go_wp2_with fail
  refine (apart_ready _).mono ?_
  rintro _ w1 ⟨rfl, hg1⟩
  go_wp2_with fail
  have hB := Blk.new w1 105 #[.string ⟨#[111, 104, 50, 97, 98, 99]⟩, .string ⟨#[111, 104, 50]⟩, .string ⟨#[97, 98, 99]⟩, .int .i64 2, .string ⟨#[52]⟩]
  have hG := gr_alloc hg1 (.cells #[.string ⟨#[111, 104, 50, 97, 98, 99]⟩, .string ⟨#[111, 104, 50]⟩, .string ⟨#[97, 98, 99]⟩, .int .i64 2, .string ⟨#[52]⟩] 105)
  clear hg1
  generalize w1.alloc (.cells #[.string ⟨#[111, 104, 50, 97, 98, 99]⟩, .string ⟨#[111, 104, 50]⟩, .string ⟨#[97, 98, 99]⟩, .int .i64 2, .string ⟨#[52]⟩] 105) = W at *
  refine (cosine_ready _).mono ?_
  rintro _ _ ⟨rfl, rfl⟩
  go_wp2_with fail
  refine (units_ready b _ (HGL.out.quiet hG)).mono ?_
  rintro _ w2 ⟨rfl, hg⟩
  replace hB := hB.grown hg (by simp)
  replace hG := gr_trans hG hg
  clear hg
  go_wp2_with fail
  refine (best_ready _).mono ?_
  rintro _ w3 ⟨rfl, hg⟩
  replace hB := hB.grown hg (by simp)
  replace hG := gr_trans hG hg
  have c1 : w3.cell? ⟨w1.heap.size, 1, none⟩ = some (.string ⟨#[111, 104, 50]⟩) := hB.cell 1
  clear hg
  go_wp2_with fail
  go_ret
  exact ⟨rfl, hG⟩
end Go.Proofs.YtbpkfkbbkgdlaaaGreatDoor

namespace Go.Proofs.YtbpkfkbbkgdlaaaGreatDoor
open Go.RowKit
set_option linter.unusedVariables false
set_option linter.unusedSimpArgs false

set_option maxRecDepth 100000 in
set_option maxHeartbeats 16000000 in
theorem keepsLaw (A : Option Addr) (n c : Nat) (w : World) (hin : InX w A n) (hgl : Gl w.heap.size w) :
    Calls Tryz.prog 4 #[.slice A n c] w fun r w' => r = .returned (.bool true) ∧ Below w.heap.size w w' := by
  obtain ⟨hn, L, hL, hcell⟩ := hin
  have hG0 := World.grownBy_alloc w (.cells #[.slice A n c, .int .i64 0] 25) none
  have sA := SX.start hn hL hcell hG0 (Blk.new w _ _) (Nat.le_refl _)
  have HGL := Lib.hid hgl
  clear hn hL hcell hgl
  go_enter Tryz.func4, Tryz.ntmps4
  go_wp2_with fail
  generalize w.alloc (.cells #[.slice A n c, .int .i64 0] 25) = W0 at *
  obtain ⟨b, hb⟩ : ∃ b, w.heap.size = b := ⟨_, rfl⟩
  rw [hb] at sA HGL ⊢
  have HB := Lib.hid hb
  obtain ⟨B1, hB1⟩ : ∃ B1, W0.heap.size = B1 := ⟨_, rfl⟩
  have hbB : b < B1 := by rw [← hB1]; exact sA.lt
  have HBB := Lib.hid hbB
  have HRT := Lib.hid (rightTable_e b b L 0 W0 sA (by decide))
  unfold RtPost at HRT
  rw [hB1] at HRT
  have HBS := Lib.hid hB1
  clear hb hB1 sA hbB
  refine HRT.out.mono ?_
  rintro _ w1 ⟨u, v, l, p, k1, HR, rfl, hu, hv, hl1, hl6, hp24, hAE, hAP, hk0, hk1, sA1, hg1⟩
  have hG1 : w.grownBy w1 none := gr_grown hG0 hg1 (fun g e => by injection e with e; exact .inr (by have := HB.out; omega))
  have HSZ1 : Hid (B1 ≤ w1.heap.size) := by show _ ≤ _; rw [← HBS.out]; exact hg1.size
  have hEsm := ents_sm hAE
  have hPsm := pfxs_sm hAP (rtAll_ascii HR.out)
  have HU := Lib.hid hu
  have HV := Lib.hid hv
  have HESM := Lib.hid hEsm
  have HPSM := Lib.hid hPsm
  have hs1 := sA1.str
  have HS1 := Lib.hid hs1
  clear hG0 hg1 hu hAE hAP HR HRT hEsm hPsm sA1 hl1 hl6 hs1
  obtain ⟨AP, cp, rfl, hpl, _⟩ := hv.shape
  obtain ⟨PL, hPL⟩ : ∃ PL, p.length = PL := ⟨_, rfl⟩
  have HPL := Lib.hid hPL
  rw [hPL] at HV hpl hp24 ⊢
  clear hv hPL
  have HTF : Hid (∀ W, w1.grownBy W none → Calls Tryz.prog 11 #[u, .slice AP PL cp] W fun r w' => r = .returned (.int .i64 (tabE l p)) ∧ W.grownBy w' none) := fun W hW => tableFault_any B1 u _ l p W (HU.out.grown hW) HESM.out (HV.out.grown hW) HPSM.out
  have HRD : Hid (∀ W, w1.grownBy W none → Calls Tryz.prog 29 #[] W fun r w' => r = .returned (.bool true) ∧ W.grownBy w' none) := fun W hW => ready_any b W (HGL.out.quiet (gr_trans hG1 hW))
  have HTD : Hid (tabE l p = 0 → ∀ W, w1.grownBy W none → Calls Tryz.prog 30 #[u, .slice AP PL cp] W fun r w' => ∃ V, r = .returned (.tuple #[V, .int .i64 0]) ∧ PfxsFrom W.heap.size w' V (tidyL l p) ∧ W.grownBy w' none) := fun h W hW => by
    refine (tidy_any B1 u _ l p W (HU.out.grown hW) HESM.out (HV.out.grown hW) HPSM.out).mono ?_
    rintro r w' ⟨V, q, rfl, hq, _, h2, hg⟩
    obtain rfl := h2 h
    exact ⟨V, by rw [h], hq, hg⟩
  obtain ⟨E, hE⟩ : ∃ E, tabE l p = E := ⟨_, rfl⟩
  have HE := Lib.hid hE
  rw [hE] at HTF HTD
  clear hE
  go_wp2_with fail
  refine (HTF.out _ (gr_refl _ _)).mono ?_
  rintro _ w2 ⟨rfl, hg2⟩
  clear HTF
  by_cases hE0 : E = 0
  · have HTD2 := Lib.hid (HTD.out hE0)
    have htab : tabE l p = 0 := HE.out.trans hE0
    have hsub := tidyL_sub l p
    have htab2 := tabE_sub htab hsub
    have hqsm : ∀ x ∈ tidyL l p, PfxSm x := fun x hx => HPSM.out x (hsub.subset hx)
    have HSAME := Lib.hid (fun s t q => tidy_same htab s t q)
    have hovr := ovr_none htab (tidyL l p).length (Nat.le_refl _)
    have hqle := hsub.length_le
    rw [HPL.out] at hqle
    subst hE0
    generalize tidyL l p = Q at *
    have HT1 := Lib.hid htab
    have HT2 := Lib.hid htab2
    have HQSM := Lib.hid hqsm
    have HOVR := Lib.hid hovr
    clear HTD htab htab2 hsub hqsm hovr HE
    go_wp2_with fail
    refine (HTD2.out _ hg2).mono ?_
    rintro _ w3 ⟨V, rfl, hV, hg3⟩
    have hg13 := gr_trans hg2 hg3
    obtain ⟨AQ, cq, rfl, hql, _⟩ := hV.shape
    obtain ⟨QL, hQL⟩ : ∃ QL, Q.length = QL := ⟨_, rfl⟩
    have HQL := Lib.hid hQL
    have HQ := Lib.hid hV
    have hs3 := (HS1.out.grown hg13 (by simp))
    have HS3 := Lib.hid hs3
    rw [hQL] at HQ hql hqle ⊢
    have hQ3 : PfxsFrom B1 w3 (.slice AQ QL cq) Q := ownsRow_low HQ.out (Nat.le_trans HSZ1.out hg2.size)
    have HU3 : Hid (∀ W, w3.grownBy W (some b) → EntsFrom B1 W u l) := fun W hW => EntsFrom.other (HU.out.grown hg13) hW HBB.out
    have HV3 : Hid (∀ W, w3.grownBy W (some b) → PfxsFrom B1 W (.slice AP PL cp) p) := fun W hW => PfxsFrom.other (HV.out.grown hg13) hW HBB.out
    have HQ3 : Hid (∀ W, w3.grownBy W (some b) → PfxsFrom B1 W (.slice AQ QL cq) Q) := fun W hW => PfxsFrom.other hQ3 hW HBB.out
    have hG3 := gr_trans hG1 hg13
    have HGW : Hid (∀ W, w3.grownBy W (some b) → w.grownBy W none) := fun W hW => gr_grown hG3 hW (fun g e => by injection e with e; exact .inr (by have := HB.out; omega))
    have HCT : Hid (∀ W, w3.grownBy W (some b) → Calls Tryz.prog 14 #[u, .slice AQ QL cq] W fun r w' => r = .returned (.int .i64 0) ∧ W.grownBy w' none) := fun W hW => by
      have h := checkTable_any B1 u _ l Q W (HU3.out W hW) HESM.out (HQ3.out W hW) HQSM.out
      rw [HT2.out] at h
      exact h
    have HOV : Hid (∀ W, w3.grownBy W (some b) → Calls Tryz.prog 33 #[u, .slice AQ QL cq] W fun r w' => ∃ a cc, r = .returned (.tuple #[.slice a 0 cc, .int .i64 0]) ∧ W.grownBy w' none) := fun W hW => by
      refine (overlaps_any B1 u _ l Q W (HU3.out W hW) HESM.out (HQ3.out W hW) HQSM.out).mono ?_
      rintro r w' ⟨V, o, rfl, ho, _, h2, hg⟩
      have e := h2 HT2.out
      rw [HOVR.out] at e
      subst e
      obtain ⟨a, cc, rfl, _, _⟩ := IntsFrom.shape ho
      exact ⟨a, cc, by rw [HT2.out]; rfl, hg⟩
    have HOF1 : Hid (∀ (s : ByteArray) (t : Int) q W, w3.grownBy W (some b) → s.size ≤ 1000 → Ascii s → partsOf s = some q → 0 ≤ t → t ≤ 400 → Calls Tryz.prog 15 #[u, .slice AP PL cp, .string s, .int .i64 t] W fun r w' => r = .returned (.tuple #[.agg #[.string ((fndOf l p s t q).getD fndZ0).1, .int .i64 ((fndOf l p s t q).getD fndZ0).2.1, .int .i64 ((fndOf l p s t q).getD fndZ0).2.2], .bool (fndOf l p s t q).isSome, .int .i64 0]) ∧ W.grownBy w' none) := fun s t q W hW hs ha hq h0 h1 => by
      have hE : ofE l p s t = 0 := by unfold ofE isCall; rw [HT1.out, hq]; simp [momE, spanE_no (show (0 : Int) ≤ t by omega) (show t ≤ 345686399999 by omega)]
      refine (of_any B1 u _ l p s t W (HU3.out W hW) HESM.out (HV3.out W hW) HPSM.out hs ha).mono ?_
      rintro r w' ⟨O, rfl, _, h2, hg⟩
      obtain rfl := (h2 hE).2 q hq
      exact ⟨by rw [hE], hg⟩
    have HOF2 : Hid (∀ (s : ByteArray) (t : Int) q W, w3.grownBy W (some b) → s.size ≤ 1000 → Ascii s → partsOf s = some q → 0 ≤ t → t ≤ 400 → Calls Tryz.prog 15 #[u, .slice AQ QL cq, .string s, .int .i64 t] W fun r w' => r = .returned (.tuple #[.agg #[.string ((fndOf l p s t q).getD fndZ0).1, .int .i64 ((fndOf l p s t q).getD fndZ0).2.1, .int .i64 ((fndOf l p s t q).getD fndZ0).2.2], .bool (fndOf l p s t q).isSome, .int .i64 0]) ∧ W.grownBy w' none) := fun s t q W hW hs ha hq h0 h1 => by
      have hE : ofE l Q s t = 0 := by unfold ofE isCall; rw [HT2.out, hq]; simp [momE, spanE_no (show (0 : Int) ≤ t by omega) (show t ≤ 345686399999 by omega)]
      refine (of_any B1 u _ l Q s t W (HU3.out W hW) HESM.out (HQ3.out W hW) HQSM.out hs ha).mono ?_
      rintro r w' ⟨O, rfl, _, h2, hg⟩
      have e := (h2 hE).2 q hq
      rw [HSAME.out] at e
      subst e
      exact ⟨by rw [hE], hg⟩
    have hqle2 : ¬ ((PL : Int) < (QL : Int)) := by omega
    have hqd : decide (PL < QL) = false := by rw [decide_eq_false_iff_not]; omega
    have hqn : ¬ PL < QL := by omega
    clear hV hQL hs3 hQ3 hg2 hg13 HTD2 HU HV HQ HESM HPSM HQSM HOVR HSAME hG3
    go_wp2_with fail
    refine (HCT.out _ (gr_refl _ _)).mono ?_
    rintro _ w4 ⟨rfl, hg4⟩
    have hs4 := HS3.out.grown hg4 (by simp)
    have hg34 := gr_weak hg4 (some b)
    clear HCT hg4
    go_wp2_with fail
    go_loopw [51] (fun iv wr => ∃ j : Nat, j ≤ 6 ∧ iv = .int .i64 j ∧ Str wr b (k1 + 49 * j) ∧ w3.grownBy wr (some b)) (fun iv _ => 6 - (intOf iv).toNat)
    case atStart => exact ⟨0, by omega, rfl, hs4, hg34⟩
    case round =>
      obtain ⟨j, hj, rfl, hs, hg⟩ := hrel
      clear hs4 hg34
      by_cases hlt : j < 6
      · have hji : (j : Int) < 6 := by omega
        go_wp2_with fail
        refine (rightCall_in b (k1 + 49 * j) _ hs (by omega)).mono ?_
        rintro _ w5 ⟨s, rfl, hs30, hsa, hcall, hs5, hg5⟩
        have hg35 := gr_trans hg hg5
        obtain ⟨q, hq⟩ := Option.isSome_iff_exists.1 hcall
        have HSA := Lib.hid hsa
        have HQ := Lib.hid hq
        clear hs hg hg5 hsa hcall hq
        go_wp2_with fail
        refine (range_in b (k1 + 49 * j + 48) 0 400 _ hs5 (by omega) (by omega) (by omega) (by omega)).mono ?_
        rintro _ w6 ⟨t, ht0, ht1, rfl, hs6, hg6⟩
        have hg36 := gr_trans hg35 hg6
        have HA := Lib.hid (fun W hW => HOF1.out s t q W hW (by omega) HSA.out HQ.out ht0 ht1)
        have HBc := Lib.hid (fun W hW => HOF2.out s t q W hW (by omega) HSA.out HQ.out ht0 ht1)
        generalize fndOf l p s t q = O at *
        generalize (O.getD fndZ0).1 = F1 at *
        generalize (O.getD fndZ0).2.1 = F2 at *
        generalize (O.getD fndZ0).2.2 = F3 at *
        generalize O.isSome = OS at *
        clear hs5 hg35 hg6
        go_wp2_with fail
        refine (HA.out _ hg36).mono ?_
        rintro _ w7 ⟨rfl, hg7⟩
        have hX := Blk.new w7 38 #[.string F1, .int .i64 F2, .int .i64 F3]
        have hgX := gr_alloc hg7 (.cells #[.string F1, .int .i64 F2, .int .i64 F3] 38)
        go_upto_region 12 with fail
        generalize w7.alloc (.cells #[.string F1, .int .i64 F2, .int .i64 F3] 38) = w8 at *
        generalize w7.heap.size = gX at *
        have hg38 := gr_trans hg36 (gr_weak hgX (some b))
        have hs8 := hs6.grown hgX (by simp)
        clear hg7 hgX hg36 hs6
        go_wp2_with fail
        refine (HBc.out _ hg38).mono ?_
        rintro _ w9 ⟨rfl, hg9⟩
        have hX9 := hX.grown hg9 (by simp)
        have hY := Blk.new w9 38 #[.string F1, .int .i64 F2, .int .i64 F3]
        have hX10 := hX9.alloc (.cells #[.string F1, .int .i64 F2, .int .i64 F3] 38)
        have hgY := gr_alloc hg9 (.cells #[.string F1, .int .i64 F2, .int .i64 F3] 38)
        go_upto_region 13 with fail
        generalize w9.alloc (.cells #[.string F1, .int .i64 F2, .int .i64 F3] 38) = w10 at *
        generalize w9.heap.size = gY at *
        have hg310 := gr_trans hg38 (gr_weak hgY (some b))
        have hs10 := hs8.grown hgY (by simp)
        have x0 := hX10.cell 0
        have x1 := hX10.cell 1
        have x2 := hX10.cell 2
        have y0 := hY.cell 0
        have y1 := hY.cell 1
        have y2 := hY.cell 2
        simp only [List.getElem?_toArray, List.getElem?_cons_zero, List.getElem?_cons_succ] at x0 x1 x2 y0 y1 y2
        have hne : ∀ W, (binOp .neq 38 (.agg #[.string F1, .int .i64 F2, .int .i64 F3]) (.agg #[.string F1, .int .i64 F2, .int .i64 F3])).run Tryz.prog W = .ok (.bool false) W := fun W => by rw [neqFnd]; simp
        have HS10 := Lib.hid (show Str w10 b (k1 + 49 * (j + 1)) from hs10.mono (by omega))
        clear hg9 hX9 hX hX10 hY hgY hg38 hs8 hs10
        go_wp2_with fail
        go_roundw
        case rel => exact ⟨j + 1, by omega, by go_num, HS10.out, hg310⟩
        case measure => simp [intOf]; omega
      · have hji : ¬ (j : Int) < 6 := by omega
        have HGG := Lib.hid (HGW.out _ hg)
        have HGL2 := HGL.out
        go_wp2_with fail
        refine (HOV.out _ hg).mono ?_
        rintro _ w5 ⟨a, cc, rfl, hg5⟩
        have hg05 := gr_trans HGG.out hg5
        go_wp2_with fail
        refine (ready_any b _ (HGL2.quiet hg05)).mono ?_
        rintro _ w6 ⟨rfl, hg6⟩
        go_wp2_with fail
        go_ret
        exact ⟨rfl, gr_below (gr_trans hg05 hg6)⟩
  · have hE1 : (E == 0) = false := by rw [beq_eq_false_iff_ne]; exact hE0
    clear HTD hE0
    go_wp2_with fail
    refine (HRD.out _ hg2).mono ?_
    rintro _ w5 ⟨rfl, hg5⟩
    go_wp2_with fail
    go_ret
    exact ⟨rfl, gr_below (gr_trans hG1 (gr_trans hg2 hg5))⟩
end Go.Proofs.YtbpkfkbbkgdlaaaGreatDoor

namespace Go.Proofs.YtbpkfkbbkgdlaaaGreatDoor
open Go.ChangeShapes Go.WideShapes Go.ChangeAt Go.RowKit
set_option linter.unusedVariables false

theorem cardOwn : ownKnob Tryz.prog.godebug = none := by kernel_rfl
theorem cardLaidOut : laidOutB Tryz.prog = true := by kernel_rfl
/-- A contract in worlds that meet a condition and are shaped as the program lays them. -/
theorem returns_both {H : Type} {enc : TypeId × Value → H} {a : Assume} {C : Checked} {os : Os} {f : FuncId} {fn : Func} {s : ChangeSpec} {conds : List PathCond} {apart fresh handsOn again : Bool} {X : World → Array Value → Prop}
    (hX : ∀ (w w' : World) (args : Array Value), w.heap = w'.heap → X w args → X w' args)
    (own : ownKnob C.prog.godebug = none) (started : os.Started) (noInit : C.prog.inits.idxOf? f = none) (hfn : C.prog.funcs[f]? = some fn)
    (witness : ∃ (w : World) (tape : Tape) (i : Input), w.os = os ∧ (w.forCall tape i).Shaped C.prog ∧ i.vars = [] ∧ Input.okWide C.prog (w.forCall tape i) .any w.heap.size f i ∧
      ((s.pre enc C.prog fn conds apart (w.forCall tape i).memory i.args ∧ X (w.forCall tape i).memory i.args) ∧ sizedMet enc C.prog fn (OpenSpec.ofChange s) apart (w.forCall tape i).memory i.args) ∧ a.holds C.prog (lone (Frame.enter C.prog f i.args .normal) [] (w.forCall tape i)))
    (contract : ∀ (W : World) (base : Nat) (args : Array Value) (ds gs : List (DataW H)) (before : List MemPlace),
      (∀ (j : Nat) t v, fn.params[j]? = some t → args[j]? = some v → Value.okWide C.prog W .any base t v) →
      DataW.Whole enc C.prog fn.params.toList s.vars apart W args.toList ds gs before → X W args → W.ShapedOpen C.prog →
      Calls C.prog f args W fun e W' => ∃ v, e = .returned v ∧ s.post enc C.prog fn apart fresh handsOn again W args v W') :
    ReturnsInHanded a C os f .any (fun w args => (s.pre enc C.prog fn conds apart w args ∧ X w args) ∧ sizedMet enc C.prog fn (OpenSpec.ofChange s) apart w args) (s.post enc C.prog fn apart fresh handsOn again) := by
  refine returnsInHanded_of_calls own started noInit witness ?_
  intro w tape i _ hsh _ hok hpre hholds
  obtain ⟨_, _, _, fn', hfn', _, _, _, _, hval⟩ := hok
  have e : fn' = fn := Option.some.inj (hfn'.symm.trans hfn)
  subst e
  obtain ⟨⟨⟨ds, gs, before, hw, hc⟩, hx⟩, hz⟩ := hpre
  have hw' := DataW.Whole.of_heap (w' := w.forCall tape i) (by rfl) hw
  refine (contract (w.forCall tape i) w.heap.size i.args ds gs before hval hw' (hX _ _ _ (by rfl) hx) hsh).mono fun e W' ⟨v, he, hp⟩ => ?_
  subst he
  exact ChangeSpec.post_blind hp
/-- The condition on variables, by one run; that no cell is met twice goes by a number's bits. -/
theorem laidMet_of_bits {P : Program} {w : World} {l : List (String × DataW Unit)} (fuel M : Nat) (h : (DataW.laidRun P w fuel (l.map (·.1))).map (·.1) = some l)
    (hn : (DataW.laidRun P w fuel (l.map (·.1))).map (fun x => nodupBits M x.2 0) = some true)
    (hr : (DataW.laidRun P w fuel (l.map (·.1))).map (fun x => laidRowsB P w x.2) = some true) : laidMet P l w := by
  cases hx : DataW.laidRun P w fuel (l.map (·.1)) with
  | none => simp [hx] at h
  | some x =>
    obtain ⟨l', ps⟩ := x
    simp only [hx, Option.map_some, Option.some.injEq] at h hr hn
    subst h
    exact laidMet_of_run fuel hx (decide_eq_true (nodupBits_sound hn).1) hr
/-- The cells of a datum that is a row of plain numbers. -/
def cellsD : DataW Unit → Array Value
  | .agg ds => (ds.map fun d => match d with | .lit (.int k n) => Value.int k n | _ => .bool false).toArray
  | _ => #[]
/-- The start: what the door's own run leaves, and Go's great table in its variable. -/
noncomputable def startW (os : Os) : World :=
  let w0 := World.doorLaid Tryz.prog 200 os
  { w0 with heap := w0.heap.modify 4 fun
      | .cells _ t fr => .cells (cellsD Go.Pinned.utf8First) t fr
      | o => o }
theorem maxCell {W : World} (h : W.ShapedOpen Tryz.prog) : ∃ m, W.cell? ⟨0, 0, none⟩ = some (.int .i64 m) :=
  cell_of_shapedOpen_int (t := 3) (zero := #[.int .i64 0]) h (of_decide_eq_true (by kernel_rfl)) (by kernel_rfl) (by kernel_rfl) (by kernel_rfl) (by kernel_rfl) Tryz.underlying3
theorem asc_eq : (Rows.laid_strings_asciiSpace : DataW Unit) = Lib.tabData .u8 Lib.asciiSpaceTab := by kernel_rfl
theorem spaceTab {W : World} {rest : List (String × DataW Unit)} (h : laidMet Tryz.prog (("strings.asciiSpace", Rows.laid_strings_asciiSpace) :: rest) W) : Lib.TabIs Tryz.prog W "strings.asciiSpace" .u8 Lib.asciiSpaceTab := by
  rw [asc_eq] at h
  exact Lib.tabIs_of_head (g := 6) (t := 254) (e := 5) (n := 256) (by kernel_rfl) (by kernel_rfl) Tryz.underlying254 Tryz.underlying5 (by kernel_rfl) (by kernel_rfl) h
theorem gl_start {W : World} (h1 : ∃ m, W.cell? ⟨0, 0, none⟩ = some (.int .i64 m)) (h2 : Lib.TabIs Tryz.prog W "strings.asciiSpace" .u8 Lib.asciiSpaceTab) : Gl W.heap.size W := by
  obtain ⟨m, hm⟩ := h1
  have hc := h2.cell (g := 6) (by kernel_rfl) 0 (by rw [Lib.asciiSpaceTab_length]; decide)
  exact ⟨⟨m, hm⟩, h2, World.block_lt_of_cell? W _ hm, World.block_lt_of_cell? W _ hc, Nat.le_refl _⟩
end Go.Proofs.YtbpkfkbbkgdlaaaGreatDoor
