/- Plain law of the cosine in whole numbers: no program in sight. No condition. place.cosine and pileref1.CosineOf both compute the plain cosine. Condition: the angle is far from the ends of int. Plain law of the sun: what tilt and height come to, and their bounds: no program in sight. No condition. The walks over tilt and height of the sun, in package place and in the reference. Condition: moments and angles in their ranges. The error of a site, in package place and in the reference. No condition. Tilt, Sun, Grey, Cosine with their errors; GreyAt; placed. Condition: a site's numbers lie within 2^41. ready: the four packages do something. Condition: asciiSpace is Go's own table, MaxLen holds a number. slices.Equal at two slices of strings that are equal; pilelaw1's 'called' answers true. No condition. slices.Equal at two slices of entities that are equal, and of prefixes. No condition. The walk over the law TablesStay: it answers true whatever numbers come in. Condition: asciiSpace is Go's own table, MaxLen holds a number. What the cards of this seat share: a world that meets the rows' condition on package-level variables; what that condition gives the walks. No condition. -/
import Derived.Test.YtbpkfkbbkgdlaaaGreatDoorPStyaa
import Derived.Test.YtbpkfkbbkgdlaaaGreatDoorPStyac
import Derived.Test.YtbpkfkbbkgdlaaaGreatDoorPStyad
import Derived.Test.YtbpkfkbbkgdlaaaGreatDoorPStyaj
import Derived.Deep.QuietTactic
import Derived.Test.YtbpkfkbbkgdlaaaGreatDoorPStyab
import Derived.Deep.RegionHeld
import Derived.Test.YtbpkfkbbkgdlaaaGreatDoorPStyag
import Derived.Test.YtbpkfkbbkgdlaaaGreatDoorPStyam
import Derived.Test.YtbpkfkbbkgdlaaaGreatDoorPStyan
import Derived.Test.YtbpkfkbbkgdlaaaGreatDoorCards
import Derived.Test.YtbpkfkbbkgdlaaaGreatDoorTie
import Derived.LaidMore
import Derived.Stop.Joined
import Derived.Stop.LaidErr
import Derived.HandedShaped
import Derived.Shelf.Vars
import Derived.PinnedBridge
import Derived.SevenTiedAt
namespace Go.Proofs.YtbpkfkbbkgdlaaaGreatDoor
set_option linter.unusedVariables false

def cosB (x : Int) : Int := (419904000000 - 4 * x * x) * 1000000 / (419904000000 + x * x)
/-- The cosine of an angle that is from 0 to a whole circle less 1. -/
def cosC (y : Int) : Int :=
 if 648000 < y then (if 324000 < 1296000 - y then -cosB (648000 - (1296000 - y)) else cosB (1296000 - y))
 else (if 324000 < y then -cosB (648000 - y) else cosB y)
def cosI (a : Int) : Int := cosC (a % 1296000)
theorem sq_bd (x : Int) (h0 : 0 ≤ x) (h1 : x ≤ 324000) : 0 ≤ x * x ∧ x * x ≤ 104976000000 ∧ 4 * x * x = 4 * (x * x) := by
 refine ⟨Int.mul_nonneg h0 h0, ?_, by rw [Int.mul_assoc]⟩
 have := Int.mul_le_mul h1 h1 h0 (by omega)
 omega
theorem cosB_bd (x : Int) (h0 : 0 ≤ x) (h1 : x ≤ 324000) : 0 ≤ cosB x ∧ cosB x ≤ 1000000 := by
 obtain ⟨a, b, c⟩ := sq_bd x h0 h1
 unfold cosB
 rw [c]
 refine ⟨Int.ediv_nonneg (by omega) (by omega), ?_⟩
 refine Int.le_of_lt_add_one (Int.ediv_lt_of_lt_mul (by omega) ?_)
 omega
theorem tmod_circle (a : Int) : (a.tmod 1296000 + 1296000) % 1296000 = a % 1296000 := by
 have := Int.tmod_add_mul_tdiv a 1296000
 have h1 := tmod_lo a 1296000 (by omega)
 omega
end Go.Proofs.YtbpkfkbbkgdlaaaGreatDoor

namespace Go.Proofs.YtbpkfkbbkgdlaaaGreatDoor
set_option linter.unusedVariables false
open Go.RowKit

set_option maxHeartbeats 400000 in
theorem cosine_base (x : Int) (w : World) (h0 : 0 ≤ x) (h1 : x ≤ 324000) :
 Calls Tryz.prog 129 #[.int .i64 x] w fun e w' => e = .returned (.int .i64 (cosB x)) ∧ w = w' := by
 obtain ⟨a, b, c⟩ := sq_bd x h0 h1
 have a' : 0 ≤ 4 * x * x := by omega
 have b' : 4 * x * x ≤ 419904000000 := by omega
 have e1 : (x % 1296000 + 1296000) % 1296000 = x := by omega
 clear c
 go_enter Tryz.func129, Tryz.ntmps129
 go_wp2_with fail
 go_ret
 exact ⟨rfl, rfl⟩
set_option maxHeartbeats 1000000 in
theorem cosine_any (x : Int) (w : World) (h0 : -1000000000000000 ≤ x) (h1 : x ≤ 1000000000000000) :
 Calls Tryz.prog 129 #[.int .i64 x] w fun e w' => e = .returned (.int .i64 (cosI x)) ∧ w = w' := by
 have ht := tmod_lo x 1296000 (by omega)
 obtain ⟨t1, t2⟩ := ht
 have hc := tmod_circle x
 have hfin : cosI x = cosC (x % 1296000) := rfl
 obtain ⟨y, hy⟩ : ∃ y, y = x % 1296000 := ⟨_, rfl⟩
 have y0 : 0 ≤ y := by omega
 have y1 : y < 1296000 := by omega
 rw [← hy] at hc hfin
 have hc2 : 0 ≤ x → (x % 1296000 + 1296000) % 1296000 = y := fun _ => by omega
 have HF := Lib.hid hfin
 clear hfin hy
 by_cases hx : 0 ≤ x
 all_goals first | (have hc3 := hc2 hx; clear hc hc2) | clear hc2
 all_goals
  by_cases g1 : 648000 < y
  ·obtain ⟨z, hz⟩ : ∃ z, 1296000 - y = z := ⟨_, rfl⟩
   have z0 : 0 ≤ z := by omega
   have z1 : z < 648000 := by omega
   by_cases g2 : 324000 < z
   ·have HE := Lib.hid (show cosC y = -cosB (648000 - z) by unfold cosC; rw [if_pos g1, hz, if_pos g2])
    have hbd := cosB_bd (648000 - z) (by omega) (by omega)
    obtain ⟨d1, d2⟩ := hbd
    go_enter Tryz.func129, Tryz.ntmps129
    go_wp2_with (go_at_call 129; refine (cosine_base _ _ (by omega) (by omega)).mono ?_; rintro e w' ⟨rfl, rfl⟩)
    go_ret
    exact ⟨ret_of (by rw [HF.out, HE.out]), rfl⟩
   ·have HE := Lib.hid (show cosC y = cosB z by unfold cosC; rw [if_pos g1, hz, if_neg g2])
    obtain ⟨a, b, c⟩ := sq_bd z z0 (by omega)
    have a' : 0 ≤ 4 * z * z := by omega
    have b' : 4 * z * z ≤ 419904000000 := by omega
    clear c
    go_enter Tryz.func129, Tryz.ntmps129
    go_wp2_with fail
    go_ret
    exact ⟨ret_of (by rw [HF.out, HE.out]; rfl), rfl⟩
  ·by_cases g2 : 324000 < y
   ·have HE := Lib.hid (show cosC y = -cosB (648000 - y) by unfold cosC; rw [if_neg g1, if_pos g2])
    have hbd := cosB_bd (648000 - y) (by omega) (by omega)
    obtain ⟨d1, d2⟩ := hbd
    go_enter Tryz.func129, Tryz.ntmps129
    go_wp2_with (go_at_call 129; refine (cosine_base _ _ (by omega) (by omega)).mono ?_; rintro e w' ⟨rfl, rfl⟩)
    go_ret
    exact ⟨ret_of (by rw [HF.out, HE.out]), rfl⟩
   ·have HE := Lib.hid (show cosC y = cosB y by unfold cosC; rw [if_neg g1, if_neg g2])
    obtain ⟨a, b, c⟩ := sq_bd y y0 (by omega)
    have a' : 0 ≤ 4 * y * y := by omega
    have b' : 4 * y * y ≤ 419904000000 := by omega
    clear c
    go_enter Tryz.func129, Tryz.ntmps129
    go_wp2_with fail
    go_ret
    exact ⟨ret_of (by rw [HF.out, HE.out]; rfl), rfl⟩
end Go.Proofs.YtbpkfkbbkgdlaaaGreatDoor

namespace Go.Proofs.YtbpkfkbbkgdlaaaGreatDoor
set_option linter.unusedVariables false

end Go.Proofs.YtbpkfkbbkgdlaaaGreatDoor

namespace Go.Proofs.YtbpkfkbbkgdlaaaGreatDoor
open Go.RowKit
set_option linter.unusedVariables false

theorem i64_in (n : Int) (h : -9223372036854775808 ≤ n ∧ n ≤ 9223372036854775807) : IntKind.i64.wrap n = n := IntWalk.i64_in n h
end Go.Proofs.YtbpkfkbbkgdlaaaGreatDoor

namespace Go.Proofs.YtbpkfkbbkgdlaaaGreatDoor
open Go.RowKit
set_option linter.unusedVariables false

end Go.Proofs.YtbpkfkbbkgdlaaaGreatDoor

namespace Go.Proofs.YtbpkfkbbkgdlaaaGreatDoor
open Go.RowKit
set_option linter.unusedVariables false

set_option maxHeartbeats 400000 in
theorem cosineE_any (x : Int) (w : World) :
 Calls Tryz.prog 79 #[.int .i64 x] w fun r w' =>
  r = .returned (.tuple #[.int .i64 (okI (spanE x (-1296000000) 1296000000) (cosI x)), .int .i64 (spanE x (-1296000000) 1296000000)]) ∧ w = w' := by
 rcases spanE_cases x (-1296000000) 1296000000 with ⟨he, h1, h2⟩ | ⟨he, h1⟩
 ·have HE := Lib.hid he
  have hb : outB x (-1296000000) 1296000000 = false := outB_no h1 h2
  clear he
  go_enter Tryz.func79, Tryz.ntmps79
  go_wp2_with (first | (go_at_call 96; refine (outside_any _ _ _ _).mono ?_; rintro r w' ⟨rfl, rfl⟩) | (go_at_call 129; refine (cosine_any _ _ (by omega) (by omega)).mono ?_; rintro r w' ⟨rfl, rfl⟩))
  go_ret2
  exact ⟨ret_2i (by unfold okI; rw [HE.out]; rfl) HE.out.symm, rfl⟩
 ·have HE := Lib.hid he
  have hb : outB x (-1296000000) 1296000000 = true := outB_yes h1
  clear he
  go_enter Tryz.func79, Tryz.ntmps79
  go_wp2_with (first | (go_at_call 96; refine (outside_any _ _ _ _).mono ?_; rintro r w' ⟨rfl, rfl⟩))
  go_ret2
  exact ⟨ret_2i (by unfold okI; rw [HE.out]; rfl) HE.out.symm, rfl⟩
theorem cos60 : cosI 216000 = 500000 := by decide +kernel
end Go.Proofs.YtbpkfkbbkgdlaaaGreatDoor

namespace Go.Proofs.YtbpkfkbbkgdlaaaGreatDoor
open Go.RowKit
set_option linter.unusedVariables false

theorem apart_ready (w : World) : Calls Tryz.prog 75 #[.string ⟨#[111, 104, 50, 97, 98, 99, 47, 52]⟩] w fun e w' =>
 e = .returned (.tuple #[.agg #[.string ⟨#[111, 104, 50, 97, 98, 99]⟩, .string ⟨#[111, 104, 50]⟩, .string ⟨#[97, 98, 99]⟩, .int .i64 2, .string ⟨#[52]⟩], .int .i64 0]) ∧ w.grownBy w' none := by
 refine (apart_any _ w (by decide) ?_).mono ?_
 ·intro j b h
  have hm := List.mem_of_getElem? h
  have hall : ∀ b ∈ (⟨#[111, 104, 50, 97, 98, 99, 47, 52]⟩ : ByteArray).data.toList, b.toNat < 128 := by decide +kernel
  exact hall b hm
 ·rintro e w' ⟨hg, h⟩
  refine ⟨?_, hg⟩
  rcases h with ⟨h, _⟩ | ⟨t, k, kd, ad, h, rfl⟩
  ·rw [partsOf_ready] at h; cases h
  ·rw [partsOf_ready] at h
   simp only [Option.some.injEq, Prod.mk.injEq] at h
   obtain ⟨rfl, rfl, rfl, rfl⟩ := h
   rfl
theorem units_ready (b : Nat) (w : World) (hgl : Gl b w) : Calls Tryz.prog 80 #[.string ⟨#[112, 97, 114, 105, 115]⟩] w fun e w' =>
 e = .returned (.tuple #[.int .i64 43, .int .i64 0]) ∧ w.grownBy w' none := by
 have h := units_any b parisS w hgl (by decide)
 rw [paris_ok, paris_units] at h
 exact h
theorem cosine_ready (w : World) : Calls Tryz.prog 79 #[.int .i64 216000] w fun e w' =>
 e = .returned (.tuple #[.int .i64 500000, .int .i64 0]) ∧ w = w' := by
 have h1 : spanE 216000 (-1296000000) 1296000000 = 0 := spanE_no (by omega) (by omega)
 have h := cosineE_any 216000 w
 rw [h1, cos60] at h
 exact h
theorem best_ready (w : World) : Calls Tryz.prog 81 #[.slice (some ⟨w.heap.size, 0, none⟩) 3 3, .agg #[.int .i64 0, .int .i64 3600000], .int .i64 900000] (w.alloc (.cells #[.int .i64 0, .int .i64 600000, .int .i64 1200000] 3)) fun e w' =>
 e = .returned (.tuple #[.int .i64 0, .int .i64 2, .int .i64 0]) ∧ w.grownBy w' none := by
 have hb := Blk.new w 3 (([0, 600000, 1200000] : List Int).map (Value.int .i64)).toArray
 have hl : IntsFrom 0 _ _ [0, 600000, 1200000] := blk_ints hb (Nat.zero_le _) (by decide)
 have e1 : timesE [0, 600000, 1200000] 0 3600000 = 0 := by decide
 have e2 : longE 900000 = 0 := by decide
 have e3 : bestI [0, 600000, 1200000] 0 900000 = (0, 2) := by decide
 have H := (best_ok 0 _ _ 0 3600000 900000 _ hl e1 e2)
 rw [e3] at H
 exact H.mono fun e w' ⟨he, hg⟩ => ⟨he, gr_trans (World.grownBy_alloc w _ none) hg⟩
set_option maxRecDepth 100000 in
set_option maxHeartbeats 2000000 in
theorem ready_any (b : Nat) (w : World) (hgl : Gl b w) : Calls Tryz.prog 29 #[] w fun r w' => r = .returned (.bool true) ∧ w.grownBy w' none := by
 have HGL := Lib.hid hgl
 clear hgl
 go_enter Tryz.func29, Tryz.ntmps29
 go_wp2_with fail
 refine (apart_ready _).mono ?_
 rintro _ w1 ⟨rfl, hg1⟩
 go_wp2_with fail
 have hB := Blk.new w1 105 #[.string ⟨#[111, 104, 50, 97, 98, 99]⟩, .string ⟨#[111, 104, 50]⟩, .string ⟨#[97, 98, 99]⟩, .int .i64 2, .string ⟨#[52]⟩]
 have hG := gr_alloc hg1 (.cells #[.string ⟨#[111, 104, 50, 97, 98, 99]⟩, .string ⟨#[111, 104, 50]⟩, .string ⟨#[97, 98, 99]⟩, .int .i64 2, .string ⟨#[52]⟩] 105)
 clear hg1
 generalize w1.alloc (.cells #[.string ⟨#[111, 104, 50, 97, 98, 99]⟩, .string ⟨#[111, 104, 50]⟩, .string ⟨#[97, 98, 99]⟩, .int .i64 2, .string ⟨#[52]⟩] 105) = W at *
 refine (cosine_ready _).mono ?_
 rintro _ _ ⟨rfl, rfl⟩
 go_wp2_with fail
 refine (units_ready b _ (HGL.out.quiet hG)).mono ?_
 rintro _ w2 ⟨rfl, hg⟩
 replace hB := hB.grown hg (by simp)
 replace hG := gr_trans hG hg
 clear hg
 go_wp2_with fail
 refine (best_ready _).mono ?_
 rintro _ w3 ⟨rfl, hg⟩
 replace hB := hB.grown hg (by simp)
 replace hG := gr_trans hG hg
 have c1 : w3.cell? ⟨w1.heap.size, 1, none⟩ = some (.string ⟨#[111, 104, 50]⟩) := hB.cell 1
 clear hg
 go_wp2_with fail
 go_ret
 exact ⟨rfl, hG⟩
end Go.Proofs.YtbpkfkbbkgdlaaaGreatDoor

namespace Go.Proofs.YtbpkfkbbkgdlaaaGreatDoor
open Go.RowKit
set_option linter.unusedVariables false
set_option linter.unusedSimpArgs false

set_option maxHeartbeats 2000000 in
theorem equalStrs_n (b1 b2 : Nat) (u v : Value) (l : List ByteArray) (w : World) (hu : StrsFrom b1 w u l) (hv : StrsFrom b2 w v l) :
 Calls Tryz.prog 25 #[u, v] w fun r w' => r = .returned (.bool true) ∧ w.grownBy w' none := by
 obtain ⟨A, ca, rfl, ha, hA⟩ := hu.shape
 obtain ⟨B, cb, rfl, hb, hB⟩ := hv.shape
 have HU := Lib.hid hu
 have HV := Lib.hid hv
 have HA := Lib.hid hA
 have HB := Lib.hid hB
 clear hu hv hA hB
 go_enter Tryz.func25, Tryz.ntmps25
 go_wp2_with fail
 go_loopw [13] (fun i wr => ∃ k : Nat, k ≤ l.length ∧ i = .int .i64 k ∧ w.grownBy wr none) (fun i _ => l.length - (intOf i).toNat)
 case atStart => exact ⟨0, by omega, rfl, gr_refl _ _⟩
 case round =>
  obtain ⟨k, hk, rfl, hgr⟩ := hrel
  by_cases hlt : k < l.length
  ·obtain ⟨ga, rfl, _, _⟩ := HA.out (by omega)
   obtain ⟨gb, rfl, _, _⟩ := HB.out (by omega)
   have a0 := (HU.out.grown hgr).at_ k hlt
   have b0 := (HV.out.grown hgr).at_ k hlt
   generalize l[k] = x at *
   have hkl : (k : Int) < (l.length : Int) := by omega
   go_wp2_with fail
   go_quiet (fail)
   go_wp2_with fail
   go_roundw
   case rel => exact ⟨k + 1, by omega, by go_num, by repeat (first | exact hgr | refine gr_drewN ?_ _ | refine gr_drew ?_)⟩
   case measure => simp [intOf]; omega
  ·have hkl : ¬ ((k : Int) < l.length) := by omega
   go_wp2_with fail
   go_ret
   exact ⟨rfl, hgr⟩
end Go.Proofs.YtbpkfkbbkgdlaaaGreatDoor

namespace Go.Proofs.YtbpkfkbbkgdlaaaGreatDoor
open Go.RowKit
set_option linter.unusedVariables false
set_option linter.unusedSimpArgs false

theorem neqEnt (x0 : ByteArray) (x1 x2 x3 x4 : Int) (w : World) : (binOp .neq 77 (.agg #[.string x0, .int .i64 x1, .int .i64 x2, .int .i64 x3, .int .i64 x4]) (.agg #[.string x0, .int .i64 x1, .int .i64 x2, .int .i64 x3, .int .i64 x4])).run Tryz.prog w = .ok (.bool false) w := by
 go_simp
set_option maxRecDepth 100000 in
set_option maxHeartbeats 2000000 in
theorem equalEnts_same (b1 b2 : Nat) (u v : Value) (l : List Ent) (w : World) (hu : EntsFrom b1 w u l) (hv : EntsFrom b2 w v l) :
 Calls Tryz.prog 37 #[u, v] w fun r w' => r = .returned (.bool true) ∧ w.grownBy w' none := by
 obtain ⟨A, ca, rfl, ha, hA⟩ := hu.shape
 obtain ⟨B, cb, rfl, hb, hB⟩ := hv.shape
 have HU := Lib.hid hu
 have HV := Lib.hid hv
 have HA := Lib.hid hA
 have HB := Lib.hid hB
 clear hu hv hA hB
 go_enter Tryz.func37, Tryz.ntmps37
 go_wp2_with fail
 go_loopw [13] (fun i wr => ∃ k : Nat, k ≤ l.length ∧ i = .int .i64 k ∧ w.grownBy wr none) (fun i _ => l.length - (intOf i).toNat)
 case atStart => exact ⟨0, by omega, rfl, gr_refl _ _⟩
 case round =>
  obtain ⟨k, hk, rfl, hgr⟩ := hrel
  by_cases hlt : k < l.length
  ·obtain ⟨ga, rfl, _, _⟩ := HA.out (by omega)
   obtain ⟨gb, rfl, _, _⟩ := HB.out (by omega)
   obtain ⟨a0, a1, a2, a3, a4⟩ := (HU.out.grown hgr).at_ k hlt
   obtain ⟨b0, b1, b2, b3, b4⟩ := (HV.out.grown hgr).at_ k hlt
   generalize l[k].key = x0 at *
   generalize l[k].cont = x1 at *
   generalize l[k].zone = x2 at *
   generalize l[k].a = x3 at *
   generalize l[k].z = x4 at *
   have hkl : (k : Int) < (l.length : Int) := by omega
   have hk0 : (0 : Int) ≤ (k : Int) := by omega
   have hnq := neqEnt x0 x1 x2 x3 x4
   go_upto_region 6 with fail
   refine wp_region_held_drew (S := fun W => W.cell? ⟨ga, k * 5, none⟩ = some (.string x0) ∧ W.cell? ⟨ga, k * 5 + 1, none⟩ = some (.int .i64 x1) ∧ W.cell? ⟨ga, k * 5 + 2, none⟩ = some (.int .i64 x2) ∧ W.cell? ⟨ga, k * 5 + 3, none⟩ = some (.int .i64 x3) ∧ W.cell? ⟨ga, k * 5 + 4, none⟩ = some (.int .i64 x4) ∧ W.cell? ⟨gb, k * 5, none⟩ = some (.string x0) ∧ W.cell? ⟨gb, k * 5 + 1, none⟩ = some (.int .i64 x1) ∧ W.cell? ⟨gb, k * 5 + 2, none⟩ = some (.int .i64 x2) ∧ W.cell? ⟨gb, k * 5 + 3, none⟩ = some (.int .i64 x3) ∧ W.cell? ⟨gb, k * 5 + 4, none⟩ = some (.int .i64 x4)) (by kernel_rfl) ⟨a0, a1, a2, a3, a4, b0, b1, b2, b3, b4⟩ (fun hHeld => ?_)
   refine wpAnyH_take (i := 0) (v := ?_) rfl (by kernel_rfl) (by kernel_rfl) (by kernel_rfl) (fun _ _ _ h => h) (Or.inl ⟨by kernel_rfl, ?_⟩) hHeld ?_
   rotate_left
   ·intro w hSw
    (try dsimp only at hSw)
    obtain ⟨hS0, hS1, hS2, hS3, hS4, hS5, hS6, hS7, hS8, hS9⟩ := hSw
    go_simp
    (try with_reducible rfl)
   change wpAnyH _ _ _ _ _ _ _ (Act.put _ (some 16) _) _
   simp only [Act.put, ssA, ssZ, ssS]
   refine wpAnyH_take (i := 1) (v := ?_) rfl (by kernel_rfl) (by kernel_rfl) (by kernel_rfl) (fun _ _ _ h => h) (Or.inl ⟨by kernel_rfl, ?_⟩) hHeld ?_
   rotate_left
   ·intro w hSw
    (try dsimp only at hSw)
    obtain ⟨hS0, hS1, hS2, hS3, hS4, hS5, hS6, hS7, hS8, hS9⟩ := hSw
    go_simp
    (try with_reducible rfl)
   change wpAnyH _ _ _ _ _ _ _ (Act.put _ (some 17) _) _
   simp only [Act.put, ssA, ssZ, ssS]
   refine wpAnyH_take (i := 2) (v := ?_) rfl (by kernel_rfl) (by kernel_rfl) (by kernel_rfl) (fun _ _ _ h => h) (Or.inl ⟨by kernel_rfl, ?_⟩) hHeld ?_
   rotate_left
   ·intro w hSw
    (try dsimp only at hSw)
    obtain ⟨hS0, hS1, hS2, hS3, hS4, hS5, hS6, hS7, hS8, hS9⟩ := hSw
    go_simp
    (try with_reducible rfl)
   change wpAnyH _ _ _ _ _ _ _ (Act.put _ (some 18) _) _
   simp only [Act.put, ssA, ssZ, ssS]
   refine wpAnyH_take (i := 3) (v := ?_) rfl (by kernel_rfl) (by kernel_rfl) (by kernel_rfl) (fun _ _ _ h => h) (Or.inl ⟨by kernel_rfl, ?_⟩) hHeld ?_
   rotate_left
   ·intro w hSw
    (try dsimp only at hSw)
    obtain ⟨hS0, hS1, hS2, hS3, hS4, hS5, hS6, hS7, hS8, hS9⟩ := hSw
    go_simp
    (try with_reducible rfl)
   change wpAnyH _ _ _ _ _ _ _ (Act.put _ (some 19) _) _
   simp only [Act.put, ssA, ssZ, ssS]
   refine wpAnyH_take (i := 4) (v := ?_) rfl (by kernel_rfl) (by kernel_rfl) (by kernel_rfl) (fun _ _ _ h => h) (Or.inl ⟨by kernel_rfl, ?_⟩) hHeld ?_
   rotate_left
   ·intro w hSw
    (try dsimp only at hSw)
    obtain ⟨hS0, hS1, hS2, hS3, hS4, hS5, hS6, hS7, hS8, hS9⟩ := hSw
    go_simp
    (try with_reducible rfl)
   change wpAnyH _ _ _ _ _ _ _ (Act.put _ (some 20) _) _
   simp only [Act.put, ssA, ssZ, ssS]
   refine wpAnyH_take (i := 5) (v := ?_) rfl (by kernel_rfl) (by kernel_rfl) (by kernel_rfl) (fun _ _ _ h => h) (Or.inl ⟨by kernel_rfl, ?_⟩) hHeld ?_
   rotate_left
   ·intro w hSw
    (try dsimp only at hSw)
    obtain ⟨hS0, hS1, hS2, hS3, hS4, hS5, hS6, hS7, hS8, hS9⟩ := hSw
    go_simp
    (try with_reducible rfl)
   change wpAnyH _ _ _ _ _ _ _ (Act.put _ (some 21) _) _
   simp only [Act.put, ssA, ssZ, ssS]
   refine wpAnyH_take (i := 6) (v := ?_) rfl (by kernel_rfl) (by kernel_rfl) (by kernel_rfl) (fun _ _ _ h => h) (Or.inl ⟨by kernel_rfl, ?_⟩) hHeld ?_
   rotate_left
   ·intro w hSw
    (try dsimp only at hSw)
    obtain ⟨hS0, hS1, hS2, hS3, hS4, hS5, hS6, hS7, hS8, hS9⟩ := hSw
    go_simp
    (try with_reducible rfl)
   change wpAnyH _ _ _ _ _ _ _ (Act.put _ (some 22) _) _
   simp only [Act.put, ssA, ssZ, ssS]
   refine wpAnyH_take (i := 7) (v := ?_) rfl (by kernel_rfl) (by kernel_rfl) (by kernel_rfl) (fun _ _ _ h => h) (Or.inl ⟨by kernel_rfl, ?_⟩) hHeld ?_
   rotate_left
   ·intro w hSw
    (try dsimp only at hSw)
    obtain ⟨hS0, hS1, hS2, hS3, hS4, hS5, hS6, hS7, hS8, hS9⟩ := hSw
    go_simp
    (try with_reducible rfl)
   change wpAnyH _ _ _ _ _ _ _ (Act.put _ (some 23) _) _
   simp only [Act.put, ssA, ssZ, ssS]
   refine wpAnyH_take (i := 8) (v := ?_) rfl (by kernel_rfl) (by kernel_rfl) (by kernel_rfl) (fun _ _ _ h => h) (Or.inl ⟨by kernel_rfl, ?_⟩) hHeld ?_
   rotate_left
   ·intro w hSw
    (try dsimp only at hSw)
    obtain ⟨hS0, hS1, hS2, hS3, hS4, hS5, hS6, hS7, hS8, hS9⟩ := hSw
    go_simp
    (try with_reducible rfl)
   change wpAnyH _ _ _ _ _ _ _ (Act.put _ (some 24) _) _
   simp only [Act.put, ssA, ssZ, ssS]
   refine wpAnyH_done (by kernel_rfl) ?_ _
   clear a0 a1 a2 a3 a4 b0 b1 b2 b3 b4
   have hgd := gr_drew hgr
   generalize wr.drew = wq at *
   go_wp2_with fail
   go_roundw
   case rel => exact ⟨k + 1, by omega, by go_num, hgd⟩
   case measure => simp [intOf]; omega
  ·have hkl : ¬ ((k : Int) < l.length) := by omega
   go_wp2_with fail
   go_ret
   exact ⟨rfl, hgr⟩
theorem neqPfx (x0 x1 : ByteArray) (x2 x3 : Int) (x4 : Bool) (x5 : Int) (w : World) : (binOp .neq 72 (.agg #[.string x0, .string x1, .int .i64 x2, .int .i64 x3, .bool x4, .int .i64 x5]) (.agg #[.string x0, .string x1, .int .i64 x2, .int .i64 x3, .bool x4, .int .i64 x5])).run Tryz.prog w = .ok (.bool false) w := by
 go_simp
set_option maxRecDepth 100000 in
set_option maxHeartbeats 2000000 in
theorem equalPfxs_same (b1 b2 : Nat) (u v : Value) (l : List Pfx) (w : World) (hu : PfxsFrom b1 w u l) (hv : PfxsFrom b2 w v l) :
 Calls Tryz.prog 38 #[u, v] w fun r w' => r = .returned (.bool true) ∧ w.grownBy w' none := by
 obtain ⟨A, ca, rfl, ha, hA⟩ := hu.shape
 obtain ⟨B, cb, rfl, hb, hB⟩ := hv.shape
 have HU := Lib.hid hu
 have HV := Lib.hid hv
 have HA := Lib.hid hA
 have HB := Lib.hid hB
 clear hu hv hA hB
 go_enter Tryz.func38, Tryz.ntmps38
 go_wp2_with fail
 go_loopw [13] (fun i wr => ∃ k : Nat, k ≤ l.length ∧ i = .int .i64 k ∧ w.grownBy wr none) (fun i _ => l.length - (intOf i).toNat)
 case atStart => exact ⟨0, by omega, rfl, gr_refl _ _⟩
 case round =>
  obtain ⟨k, hk, rfl, hgr⟩ := hrel
  by_cases hlt : k < l.length
  ·obtain ⟨ga, rfl, _, _⟩ := HA.out (by omega)
   obtain ⟨gb, rfl, _, _⟩ := HB.out (by omega)
   obtain ⟨a0, a1, a2, a3, a4, a5⟩ := (HU.out.grown hgr).at_ k hlt
   obtain ⟨b0, b1, b2, b3, b4, b5⟩ := (HV.out.grown hgr).at_ k hlt
   generalize l[k].beg = x0 at *
   generalize l[k].ent = x1 at *
   generalize l[k].a = x2 at *
   generalize l[k].z = x3 at *
   generalize l[k].whole = x4 at *
   generalize l[k].zone = x5 at *
   have hkl : (k : Int) < (l.length : Int) := by omega
   have hk0 : (0 : Int) ≤ (k : Int) := by omega
   have hnq := neqPfx x0 x1 x2 x3 x4 x5
   go_upto_region 6 with fail
   refine wp_region_held_drew (S := fun W => W.cell? ⟨ga, k * 6, none⟩ = some (.string x0) ∧ W.cell? ⟨ga, k * 6 + 1, none⟩ = some (.string x1) ∧ W.cell? ⟨ga, k * 6 + 2, none⟩ = some (.int .i64 x2) ∧ W.cell? ⟨ga, k * 6 + 3, none⟩ = some (.int .i64 x3) ∧ W.cell? ⟨ga, k * 6 + 4, none⟩ = some (.bool x4) ∧ W.cell? ⟨ga, k * 6 + 5, none⟩ = some (.int .i64 x5) ∧ W.cell? ⟨gb, k * 6, none⟩ = some (.string x0) ∧ W.cell? ⟨gb, k * 6 + 1, none⟩ = some (.string x1) ∧ W.cell? ⟨gb, k * 6 + 2, none⟩ = some (.int .i64 x2) ∧ W.cell? ⟨gb, k * 6 + 3, none⟩ = some (.int .i64 x3) ∧ W.cell? ⟨gb, k * 6 + 4, none⟩ = some (.bool x4) ∧ W.cell? ⟨gb, k * 6 + 5, none⟩ = some (.int .i64 x5)) (by kernel_rfl) ⟨a0, a1, a2, a3, a4, a5, b0, b1, b2, b3, b4, b5⟩ (fun hHeld => ?_)
   refine wpAnyH_take (i := 0) (v := ?_) rfl (by kernel_rfl) (by kernel_rfl) (by kernel_rfl) (fun _ _ _ h => h) (Or.inl ⟨by kernel_rfl, ?_⟩) hHeld ?_
   rotate_left
   ·intro w hSw
    (try dsimp only at hSw)
    obtain ⟨hS0, hS1, hS2, hS3, hS4, hS5, hS6, hS7, hS8, hS9, hS10, hS11⟩ := hSw
    go_simp
    (try with_reducible rfl)
   change wpAnyH _ _ _ _ _ _ _ (Act.put _ (some 16) _) _
   simp only [Act.put, ssA, ssZ, ssS]
   refine wpAnyH_take (i := 1) (v := ?_) rfl (by kernel_rfl) (by kernel_rfl) (by kernel_rfl) (fun _ _ _ h => h) (Or.inl ⟨by kernel_rfl, ?_⟩) hHeld ?_
   rotate_left
   ·intro w hSw
    (try dsimp only at hSw)
    obtain ⟨hS0, hS1, hS2, hS3, hS4, hS5, hS6, hS7, hS8, hS9, hS10, hS11⟩ := hSw
    go_simp
    (try with_reducible rfl)
   change wpAnyH _ _ _ _ _ _ _ (Act.put _ (some 17) _) _
   simp only [Act.put, ssA, ssZ, ssS]
   refine wpAnyH_take (i := 2) (v := ?_) rfl (by kernel_rfl) (by kernel_rfl) (by kernel_rfl) (fun _ _ _ h => h) (Or.inl ⟨by kernel_rfl, ?_⟩) hHeld ?_
   rotate_left
   ·intro w hSw
    (try dsimp only at hSw)
    obtain ⟨hS0, hS1, hS2, hS3, hS4, hS5, hS6, hS7, hS8, hS9, hS10, hS11⟩ := hSw
    go_simp
    (try with_reducible rfl)
   change wpAnyH _ _ _ _ _ _ _ (Act.put _ (some 18) _) _
   simp only [Act.put, ssA, ssZ, ssS]
   refine wpAnyH_take (i := 3) (v := ?_) rfl (by kernel_rfl) (by kernel_rfl) (by kernel_rfl) (fun _ _ _ h => h) (Or.inl ⟨by kernel_rfl, ?_⟩) hHeld ?_
   rotate_left
   ·intro w hSw
    (try dsimp only at hSw)
    obtain ⟨hS0, hS1, hS2, hS3, hS4, hS5, hS6, hS7, hS8, hS9, hS10, hS11⟩ := hSw
    go_simp
    (try with_reducible rfl)
   change wpAnyH _ _ _ _ _ _ _ (Act.put _ (some 19) _) _
   simp only [Act.put, ssA, ssZ, ssS]
   refine wpAnyH_take (i := 4) (v := ?_) rfl (by kernel_rfl) (by kernel_rfl) (by kernel_rfl) (fun _ _ _ h => h) (Or.inl ⟨by kernel_rfl, ?_⟩) hHeld ?_
   rotate_left
   ·intro w hSw
    (try dsimp only at hSw)
    obtain ⟨hS0, hS1, hS2, hS3, hS4, hS5, hS6, hS7, hS8, hS9, hS10, hS11⟩ := hSw
    go_simp
    (try with_reducible rfl)
   change wpAnyH _ _ _ _ _ _ _ (Act.put _ (some 20) _) _
   simp only [Act.put, ssA, ssZ, ssS]
   refine wpAnyH_take (i := 5) (v := ?_) rfl (by kernel_rfl) (by kernel_rfl) (by kernel_rfl) (fun _ _ _ h => h) (Or.inl ⟨by kernel_rfl, ?_⟩) hHeld ?_
   rotate_left
   ·intro w hSw
    (try dsimp only at hSw)
    obtain ⟨hS0, hS1, hS2, hS3, hS4, hS5, hS6, hS7, hS8, hS9, hS10, hS11⟩ := hSw
    go_simp
    (try with_reducible rfl)
   change wpAnyH _ _ _ _ _ _ _ (Act.put _ (some 21) _) _
   simp only [Act.put, ssA, ssZ, ssS]
   refine wpAnyH_take (i := 6) (v := ?_) rfl (by kernel_rfl) (by kernel_rfl) (by kernel_rfl) (fun _ _ _ h => h) (Or.inl ⟨by kernel_rfl, ?_⟩) hHeld ?_
   rotate_left
   ·intro w hSw
    (try dsimp only at hSw)
    obtain ⟨hS0, hS1, hS2, hS3, hS4, hS5, hS6, hS7, hS8, hS9, hS10, hS11⟩ := hSw
    go_simp
    (try with_reducible rfl)
   change wpAnyH _ _ _ _ _ _ _ (Act.put _ (some 22) _) _
   simp only [Act.put, ssA, ssZ, ssS]
   refine wpAnyH_take (i := 7) (v := ?_) rfl (by kernel_rfl) (by kernel_rfl) (by kernel_rfl) (fun _ _ _ h => h) (Or.inl ⟨by kernel_rfl, ?_⟩) hHeld ?_
   rotate_left
   ·intro w hSw
    (try dsimp only at hSw)
    obtain ⟨hS0, hS1, hS2, hS3, hS4, hS5, hS6, hS7, hS8, hS9, hS10, hS11⟩ := hSw
    go_simp
    (try with_reducible rfl)
   change wpAnyH _ _ _ _ _ _ _ (Act.put _ (some 23) _) _
   simp only [Act.put, ssA, ssZ, ssS]
   refine wpAnyH_take (i := 8) (v := ?_) rfl (by kernel_rfl) (by kernel_rfl) (by kernel_rfl) (fun _ _ _ h => h) (Or.inl ⟨by kernel_rfl, ?_⟩) hHeld ?_
   rotate_left
   ·intro w hSw
    (try dsimp only at hSw)
    obtain ⟨hS0, hS1, hS2, hS3, hS4, hS5, hS6, hS7, hS8, hS9, hS10, hS11⟩ := hSw
    go_simp
    (try with_reducible rfl)
   change wpAnyH _ _ _ _ _ _ _ (Act.put _ (some 24) _) _
   simp only [Act.put, ssA, ssZ, ssS]
   refine wpAnyH_done (by kernel_rfl) ?_ _
   clear a0 a1 a2 a3 a4 a5 b0 b1 b2 b3 b4 b5
   have hgd := gr_drew hgr
   generalize wr.drew = wq at *
   go_wp2_with fail
   go_roundw
   case rel => exact ⟨k + 1, by omega, by go_num, hgd⟩
   case measure => simp [intOf]; omega
  ·have hkl : ¬ ((k : Int) < l.length) := by omega
   go_wp2_with fail
   go_ret
   exact ⟨rfl, hgr⟩
end Go.Proofs.YtbpkfkbbkgdlaaaGreatDoor

namespace Go.Proofs.YtbpkfkbbkgdlaaaGreatDoor
open Go.RowKit
set_option linter.unusedVariables false
set_option linter.unusedSimpArgs false

theorem callList5_e (base b : Nat) (L : List Int) (k : Nat) (w : World) (hs : SX base w b L k) (hk : k ≤ 100000000) :
 Calls Tryz.prog 9 #[.pointer (some ⟨b, 0, none⟩), .int .i64 5] w (CallListEPost base b L k 5 w) := callList_e base b L k 5 (by decide) w hs hk
theorem near14_ok (C : List ByteArray) (h : callsE C = 0) : neaE ⟨#[107, 49, 97, 98]⟩ C 14 = 0 := by
 unfold neaE
 rw [h, callE_0 (show isCall ⟨#[107, 49, 97, 98]⟩ = true from partsOf_k1ab)]
 decide
theorem guessStar_ok (C : List ByteArray) (h : callsE C = 0) : guessE ⟨#[42]⟩ C = 0 := by
 unfold guessE
 rw [if_pos (by decide +kernel), h]
set_option maxRecDepth 100000 in
set_option maxHeartbeats 16000000 in
theorem staysLaw (A : Option Addr) (n c : Nat) (w : World) (hin : InX w A n) (hgl : Gl w.heap.size w) :
 Calls Tryz.prog 5 #[.slice A n c] w fun r w' => r = .returned (.bool true) ∧ Below w.heap.size w w' := by
 obtain ⟨hn, L, hL, hcell⟩ := hin
 obtain ⟨W, hW, hb1, hb2, hsz, hG⟩ := two_streams w A n c
 have sA := SX.start hn hL hcell hG hb1 (Nat.le_refl _)
 have sB := SX.start hn hL hcell hG hb2 (Nat.le_succ _)
 have HGL := Lib.hid hgl
 have HW := Lib.hid hW
 have HWT := Lib.hid hG
 clear hn hL hcell hb1 hb2 hgl hW hG
 go_enter Tryz.func5, Tryz.ntmps5
 go_wp2_with fail
 rw [← HW.out]
 have hG : w.grownBy W none := HWT.out
 generalize hb : w.heap.size = b at *
 have HB := Lib.hid hb
 clear hb
 refine (rightTable_e b b L 0 _ sA (by decide)).mono ?_
 rintro _ w1 ⟨u, v, l, p, k1, HR, rfl, hu, hv, _, _, _, hAE, hAP, _, hk1, sA1, hg1⟩
 have sB1 := sB.grown hg1 (fun g e => by injection e with e; omega)
 have hG1 : w.grownBy w1 none := gr_grown hG hg1 (fun g e => by injection e with e; exact .inr (by have := HB.out; omega))
 have HU1 : Hid (EntsFrom (b + 2) w1 u l) := ownsRow_low hu (show b + 2 ≤ W.heap.size by omega)
 have HV1 : Hid (PfxsFrom (b + 2) w1 v p) := ownsRow_low hv (show b + 2 ≤ W.heap.size by omega)
 have HESM := Lib.hid (ents_sm hAE)
 have HPSM := Lib.hid (pfxs_sm hAP (rtAll_ascii HR.out))
 have hs1 := hg1.size
 clear sA sB hG hg1 hu hv hAE hAP
 go_wp2_with fail
 refine (rightTable_e b (b + 1) L 0 _ sB1 (by decide)).mono ?_
 rintro _ w2 ⟨u2, v2, l2, p2, k2, HR2, rfl, hu2, hv2, _, _, _, _, _, _, _, sB2, hg2⟩
 obtain ⟨rfl, rfl, rfl⟩ : l = l2 ∧ p = p2 ∧ k1 = k2 := by
  have h := HR.out.symm.trans HR2.out
  simpa using h
 have sA2 := sA1.grown hg2 (fun g e => by injection e with e; omega)
 have hG2 : w.grownBy w2 none := gr_grown hG1 hg2 (fun g e => by injection e with e; exact .inr (by have := HB.out; omega))
 have HU1 := Lib.hid (EntsFrom.other HU1.out hg2 (by omega))
 have HV1 := Lib.hid (PfxsFrom.other HV1.out hg2 (by omega))
 have HU2 : Hid (EntsFrom (b + 2) w2 u2 l) := ownsRow_low hu2 (show b + 2 ≤ w1.heap.size by omega)
 have HV2 : Hid (PfxsFrom (b + 2) w2 v2 p) := ownsRow_low hv2 (show b + 2 ≤ w1.heap.size by omega)
 have hs2 := hg2.size
 clear sA1 sB1 hG1 hg2 hu2 hv2 HR HR2
 go_wp2_with fail
 refine (callList5_e b b L k1 _ sA2 (by omega)).mono ?_
 rintro _ w3 ⟨cv, C, k3, HC, rfl, hc, hC9, hCs, _, _, _, hg3⟩
 have sB3 := sB2.grown hg3 (fun g e => by injection e with e; omega)
 have hG3 : w.grownBy w3 none := gr_grown hG2 hg3 (fun g e => by injection e with e; exact .inr (by have := HB.out; omega))
 have HU1 := Lib.hid (EntsFrom.other HU1.out hg3 (by omega))
 have HV1 := Lib.hid (PfxsFrom.other HV1.out hg3 (by omega))
 have HU2 := Lib.hid (EntsFrom.other HU2.out hg3 (by omega))
 have HV2 := Lib.hid (PfxsFrom.other HV2.out hg3 (by omega))
 have HC1 : Hid (StrsFrom (b + 2) w3 cv C) := ownsRow_low hc (show b + 2 ≤ w2.heap.size by omega)
 have hs3 := hg3.size
 clear sA2 sB2 hG2 hg3 hc
 go_wp2_with fail
 refine (callList5_e b (b + 1) L k1 _ sB3 (by omega)).mono ?_
 rintro _ w4 ⟨dv, C2, k4, HC2, rfl, hd, _, _, _, _, _, hg4⟩
 obtain ⟨rfl, rfl⟩ : C = C2 ∧ k3 = k4 := by
  have h := HC.out.symm.trans HC2.out
  simpa using h
 have hG4 : w.grownBy w4 none := gr_grown hG3 hg4 (fun g e => by injection e with e; exact .inr (by have := HB.out; omega))
 have HU1 : Hid (∀ W, w4.grownBy W none → EntsFrom (b + 2) W u l) := fun W hW => (EntsFrom.other HU1.out hg4 (by omega)).grown hW
 have HV1 : Hid (∀ W, w4.grownBy W none → PfxsFrom (b + 2) W v p) := fun W hW => (PfxsFrom.other HV1.out hg4 (by omega)).grown hW
 have HU2 : Hid (∀ W, w4.grownBy W none → EntsFrom (b + 2) W u2 l) := fun W hW => (EntsFrom.other HU2.out hg4 (by omega)).grown hW
 have HV2 : Hid (∀ W, w4.grownBy W none → PfxsFrom (b + 2) W v2 p) := fun W hW => (PfxsFrom.other HV2.out hg4 (by omega)).grown hW
 have HC1 : Hid (∀ W, w4.grownBy W none → StrsFrom (b + 2) W cv C) := fun W hW => (StrsFrom.other HC1.out hg4 (by omega)).grown hW
 have HD1 : Hid (∀ W, w4.grownBy W none → StrsFrom (b + 2) W dv C) := fun W hW => StrsFrom.grown (ownsRow_low hd (show b + 2 ≤ w3.heap.size by omega)) hW
 have HLS : Hid (SmallS C) := ⟨by omega, fun x hx => ⟨by have := (hCs x hx).1; omega, (hCs x hx).2⟩⟩
 have HTF : Hid (∀ W, w4.grownBy W none → Calls Tryz.prog 11 #[u2, v2] W fun r w' => r = .returned (.int .i64 (tabE l p)) ∧ W.grownBy w' none) := fun W hW => tableFault_any (b + 2) u2 v2 l p W (HU2.out W hW) HESM.out (HV2.out W hW) HPSM.out
 have HCF : Hid (∀ W, w4.grownBy W none → Calls Tryz.prog 21 #[dv] W fun r w' => r = .returned (.int .i64 (callsE C)) ∧ W.grownBy w' none) := fun W hW => callsFault_any (b + 2) dv C W (HD1.out W hW) HLS.out
 have HRD : Hid (∀ W, w4.grownBy W none → Calls Tryz.prog 29 #[] W fun r w' => r = .returned (.bool true) ∧ W.grownBy w' none) := fun W hW => ready_any b W (HGL.out.quiet (gr_trans hG4 hW))
 have HTD : Hid (tabE l p = 0 → ∀ W, w4.grownBy W none → Calls Tryz.prog 30 #[u, v] W fun r w' => ∃ V q, r = .returned (.tuple #[V, .int .i64 0]) ∧ PfxsFrom W.heap.size w' V q ∧ W.grownBy w' none) := fun h W hW => by
  refine (tidy_any (b + 2) u v l p W (HU1.out W hW) HESM.out (HV1.out W hW) HPSM.out).mono ?_
  rintro r w' ⟨V, q, rfl, hq, _, _, hg⟩
  exact ⟨V, q, by rw [h], hq, hg⟩
 have HNR : Hid (callsE C = 0 → ∀ W, w4.grownBy W none → Calls Tryz.prog 34 #[.string ⟨#[107, 49, 97, 98]⟩, cv, .int .i64 14] W fun r w' => ∃ V q, r = .returned (.tuple #[V, .int .i64 0]) ∧ StrsFrom W.heap.size w' V q ∧ W.grownBy w' none) := fun h W hW => by
  refine (near_any (b + 2) ⟨#[107, 49, 97, 98]⟩ cv C 14 W (HC1.out W hW) HLS.out (by decide) (fewA_of (n := 4) (by decide)).2 (by omega) (by omega)).mono ?_
  rintro r w' ⟨V, rfl, hq, hg⟩
  exact ⟨V, _, by rw [near14_ok C h], hq, hg⟩
 have HGS : Hid (callsE C = 0 → ∀ W, w4.grownBy W none → Calls Tryz.prog 35 #[.string ⟨#[42]⟩, cv] W fun r w' => ∃ V q, r = .returned (.tuple #[V, .int .i64 0]) ∧ StrsFrom W.heap.size w' V q ∧ W.grownBy w' none) := fun h W hW => by
  refine (guess_any (b + 2) ⟨#[42]⟩ cv C W (HC1.out W hW) HLS.out (by decide)).mono ?_
  rintro r w' ⟨V, rfl, hq, hg⟩
  exact ⟨V, _, by rw [guessStar_ok C h], hq, hg⟩
 have HQ1 : Hid (∀ W, w4.grownBy W none → Calls Tryz.prog 37 #[u, u2] W fun r w' => r = .returned (.bool true) ∧ W.grownBy w' none) := fun W hW => equalEnts_same (b + 2) (b + 2) u u2 l W (HU1.out W hW) (HU2.out W hW)
 have HQ2 : Hid (∀ W, w4.grownBy W none → Calls Tryz.prog 38 #[v, v2] W fun r w' => r = .returned (.bool true) ∧ W.grownBy w' none) := fun W hW => equalPfxs_same (b + 2) (b + 2) v v2 p W (HV1.out W hW) (HV2.out W hW)
 have HQ3 : Hid (∀ W, w4.grownBy W none → Calls Tryz.prog 25 #[cv, dv] W fun r w' => r = .returned (.bool true) ∧ W.grownBy w' none) := fun W hW => equalStrs_n (b + 2) (b + 2) cv dv C W (HC1.out W hW) (HD1.out W hW)
 clear HU1 HV1 HU2 HV2 HC1 HD1 HESM HPSM HLS HC HC2 hd hG3 hg4 sB3 hCs hC9 HGL hs1 hs2 hs3 hk1 HWT HW
 generalize tabE l p = E at *
 generalize callsE C = CE at *
 go_wp2_with fail
 refine (HTF.out _ (gr_refl _ _)).mono ?_
 rintro _ w5 ⟨rfl, hg5⟩
 clear HTF
 by_cases hE0 : E = 0
 ·have HTD2 := Lib.hid (HTD.out hE0)
  subst hE0
  clear HTD
  go_wp2_with fail
  refine (HCF.out _ hg5).mono ?_
  rintro _ w6 ⟨rfl, hg⟩
  have hg6 := gr_trans hg5 hg
  clear HCF hg hg5
  by_cases hC0 : CE = 0
  ·have HNR2 := Lib.hid (HNR.out hC0)
   have HGS2 := Lib.hid (HGS.out hC0)
   subst hC0
   clear HNR HGS
   go_wp2_with fail
   refine (HTD2.out _ hg6).mono ?_
   rintro _ w7 ⟨tv, tq, rfl, ht, hg67⟩
   have hg7 := gr_trans hg6 hg67
   have hs7 := hg67.size
   obtain ⟨tA, tc, rfl, htl, hts⟩ := ht.shape
   have hT7 : ∃ xs, w7.ownsRow w6.heap.size 72 6 (.slice tA tq.length tc) tq.length xs := ⟨_, ht⟩
   generalize tq.length = T at *
   have HTS := Lib.hid hts
   clear HTD2 ht hts
   go_wp2_with fail
   refine (HNR2.out _ hg7).mono ?_
   rintro _ w8 ⟨nv, nq, rfl, hnr, hg78⟩
   have hg8 := gr_trans hg7 hg78
   have hg68 := gr_trans hg67 hg78
   have hs8 := hg78.size
   have hT8 : ∃ xs, w8.ownsRow w6.heap.size 72 6 (.slice tA T tc) T xs := by obtain ⟨xs, h⟩ := hT7; exact ⟨xs, ownsRow_grown h hg78⟩
   obtain ⟨nA, nc, rfl, hnl, hns⟩ := hnr.shape
   have hN8 : ∃ xs, w8.ownsRow w7.heap.size 9 1 (.slice nA nq.length nc) nq.length xs := ⟨_, hnr⟩
   generalize nq.length = M at *
   have HNS := Lib.hid hns
   clear HNR2 hnr hns hT7 hg67 hg7
   go_wp2_with fail
   refine (HGS2.out _ hg8).mono ?_
   rintro _ w9 ⟨gv, gq, rfl, hgs, hg89⟩
   have hg69 := gr_trans hg68 hg89
   have hs9 := hg89.size
   have HT9 : Hid (∃ xs, w9.ownsRow w6.heap.size 72 6 (.slice tA T tc) T xs) := by obtain ⟨xs, h⟩ := hT8; exact ⟨xs, ownsRow_grown h hg89⟩
   have HN9 : Hid (∃ xs, w9.ownsRow w7.heap.size 9 1 (.slice nA M nc) M xs) := by obtain ⟨xs, h⟩ := hN8; exact ⟨xs, ownsRow_grown h hg89⟩
   obtain ⟨gA, gc, rfl, hgl, hgs2⟩ := hgs.shape
   have HG9 : Hid (∃ xs, w9.ownsRow w8.heap.size 9 1 (.slice gA gq.length gc) gq.length xs) := ⟨_, hgs⟩
   generalize gq.length = K at *
   have HGS := Lib.hid hgs2
   clear HGS2 hgs hgs2 hT8 hN8 hg68 hg78 hg89 hg8
   go_wp2_with fail
   go_loopw [80] (fun i wr => ∃ k : Nat, k ≤ T ∧ i = .int .i64 k ∧ Hid (∃ xs, wr.ownsRow w6.heap.size 72 6 (.slice tA T tc) T xs) ∧ Hid (∃ xs, wr.ownsRow w7.heap.size 9 1 (.slice nA M nc) M xs) ∧ Hid (∃ xs, wr.ownsRow w8.heap.size 9 1 (.slice gA K gc) K xs) ∧ w6.grownBy wr none ∧ w9.heap.size ≤ wr.heap.size) (fun i _ => T - (intOf i).toNat)
   case atStart => exact ⟨0, by omega, rfl, HT9, HN9, HG9, hg69, Nat.le_refl _⟩
   case round =>
    obtain ⟨k, hk, rfl, ⟨ys, hrow⟩, HN, HGr, hgr, hsr⟩ := hrel
    clear HT9 HN9 HG9 hg69
    by_cases hlt : k < T
    ·have hki : (k : Int) < (T : Int) := by omega
     obtain ⟨g, rfl, hg0, hg1⟩ := HTS.out (by omega)
     have hc := hrow.cellAt (k * 6 + 1) (by omega)
     have hlen' := hrow.1
     obtain ⟨u0, hu0⟩ : ∃ u, ys[k * 6 + 1]? = some u := ⟨_, List.getElem?_eq_getElem (by omega)⟩
     rw [hu0] at hc
     have hfz := hrow.frozenAt (k * 6 + 1)
     have hst := hrow.stored (k * 6 + 1) (.string ⟨#[115, 112, 111, 105, 108, 116]⟩)
     have HST := Lib.hid hst
     have HN2 : Hid (∃ xs, (wr.setCell ⟨g, k * 6 + 1, none⟩ (.string ⟨#[115, 112, 111, 105, 108, 116]⟩)).ownsRow w7.heap.size 9 1 (.slice nA M nc) M xs) := by
      obtain ⟨xs, h⟩ := HN.out
      exact ⟨xs, own_far h HST.out.2 (fun gg e => by injection e with e; omega)⟩
     have HG2 : Hid (∃ xs, (wr.setCell ⟨g, k * 6 + 1, none⟩ (.string ⟨#[115, 112, 111, 105, 108, 116]⟩)).ownsRow w8.heap.size 9 1 (.slice gA K gc) K xs) := by
      obtain ⟨xs, h⟩ := HGr.out
      exact ⟨xs, own_far h HST.out.2 (fun gg e => by injection e with e; omega)⟩
     have hsz' : w9.heap.size ≤ (wr.setCell ⟨g, k * 6 + 1, none⟩ (.string ⟨#[115, 112, 111, 105, 108, 116]⟩)).heap.size := Nat.le_trans hsr HST.out.2.size
     clear hu0 hst hlen' HN HGr
     go_wp2_with fail
     go_roundw
     case rel => exact ⟨k + 1, by omega, by go_num, ⟨_, HST.out.1⟩, HN2, HG2, gr_grown hgr HST.out.2 (fun gg e => by injection e with e; exact .inr (by omega)), hsz'⟩
     case measure => simp [intOf]; omega
    ·have hki : ¬ (k : Int) < (T : Int) := by omega
     have hX := Blk.new wr 31 #[.slice nA M nc, .slice gA K gc]
     have hgX := gr_alloc hgr (.cells #[.slice nA M nc, .slice gA K gc] 31)
     have HNX : Hid (∃ xs, (wr.alloc (.cells #[.slice nA M nc, .slice gA K gc] 31)).ownsRow w7.heap.size 9 1 (.slice nA M nc) M xs) := by obtain ⟨xs, h⟩ := HN.out; exact ⟨xs, h.alloc _⟩
     have HGX : Hid (∃ xs, (wr.alloc (.cells #[.slice nA M nc, .slice gA K gc] 31)).ownsRow w8.heap.size 9 1 (.slice gA K gc) K xs) := by obtain ⟨xs, h⟩ := HGr.out; exact ⟨xs, h.alloc _⟩
     have HX := Lib.hid hX
     clear hrow HN HGr hgr hX
     go_wp2_with fail
     generalize wr.alloc (.cells #[.slice nA M nc, .slice gA K gc] 31) = wx at *
     generalize wr.heap.size = gX at *
     go_loopw [92] (fun i wq => ∃ k : Nat, k ≤ 2 ∧ i = .int .i64 k ∧ Hid (Blk wq gX 31 #[.slice nA M nc, .slice gA K gc]) ∧ Hid (k = 0 → ∃ xs, wq.ownsRow w7.heap.size 9 1 (.slice nA M nc) M xs) ∧ Hid (∃ xs, wq.ownsRow w8.heap.size 9 1 (.slice gA K gc) K xs) ∧ w6.grownBy wq none) (fun i _ => 2 - (intOf i).toNat)
     case atStart => exact ⟨0, by omega, rfl, HX, fun _ => HNX.out, HGX, hgX⟩
     case round =>
      obtain ⟨k2, hk2, rfl, HXq, HNq, HGq, hgq⟩ := hrel
      clear HX HNX HGX hgX hki hlt
      by_cases hlt2 : k2 < 2
      ·have hki : (k2 : Int) < 2 := by omega
       have hki0 : (0 : Int) ≤ k2 := by omega
       by_cases hz : k2 = 0
       ·have hc0 : wr.cell? ⟨gX, k2, none⟩ = some (.slice nA M nc) := by rw [hz]; exact HXq.out.cell 0
        have HNq2 := Lib.hid (HNq.out hz)
        clear HNq hz
        go_wp2_with fail
        clear hc0
        go_loopw [98] (fun i ws => ∃ q : Nat, q ≤ M ∧ i = .int .i64 q ∧ Hid (∃ xs, ws.ownsRow w7.heap.size 9 1 (.slice nA M nc) M xs) ∧ Hid (∃ xs, ws.ownsRow w8.heap.size 9 1 (.slice gA K gc) K xs) ∧ Hid (Blk ws gX 31 #[.slice nA M nc, .slice gA K gc]) ∧ w6.grownBy ws none) (fun i _ => M - (intOf i).toNat)
        case atStart => exact ⟨0, by omega, rfl, HNq2, HGq, HXq, hgq⟩
        case round =>
         obtain ⟨q, hq, rfl, ⟨ys, hrow⟩, HGs, HXs, hgs⟩ := hrel
         clear HGq HXq hgq HNq2
         by_cases hlq : q < M
         ·have hkq : (q : Int) < (M : Int) := by omega
          obtain ⟨g, rfl, hg0, hg1⟩ := HNS.out (by omega)
          have hc := hrow.cellAt q (by omega)
          have hlen' := hrow.1
          obtain ⟨u0, hu0⟩ : ∃ u, ys[q]? = some u := ⟨_, List.getElem?_eq_getElem (by omega)⟩
          rw [hu0] at hc
          have hfz := hrow.frozenAt q
          have hst := hrow.stored q (.string ⟨#[115, 112, 111, 105, 108, 116]⟩)
          have HST := Lib.hid hst
          have HXs2 := Lib.hid (HXs.out.grown HST.out.2 (fun e => by injection e with e; omega))
          have HGs2 : Hid (∃ xs, (wr.setCell ⟨g, q, none⟩ (.string ⟨#[115, 112, 111, 105, 108, 116]⟩)).ownsRow w8.heap.size 9 1 (.slice gA K gc) K xs) := by
           obtain ⟨xs, h⟩ := HGs.out
           exact ⟨xs, own_far h HST.out.2 (fun gg e => by injection e with e; omega)⟩
          clear hu0 hst hlen' HXs
          go_wp2_with fail
          go_roundw
          case rel => exact ⟨q + 1, by omega, by go_num, ⟨_, HST.out.1⟩, HGs2, HXs2, gr_grown hgs HST.out.2 (fun gg e => by injection e with e; exact .inr (by omega))⟩
          case measure => simp [intOf]; omega
         ·have hkq : ¬ (q : Int) < (M : Int) := by omega
          clear hrow
          go_wp2_with fail
          go_roundw
          case rel => exact ⟨k2 + 1, by omega, by go_num, HXs, fun h => absurd h (by omega), HGs, hgs⟩
          case measure => simp [intOf]; omega
       ·have hc0 : wr.cell? ⟨gX, k2, none⟩ = some (.slice gA K gc) := by rw [show k2 = 1 by omega]; exact HXq.out.cell 1
        clear HNq
        go_wp2_with fail
        clear hc0
        go_loopw [98] (fun i ws => ∃ q : Nat, q ≤ K ∧ i = .int .i64 q ∧ Hid (∃ xs, ws.ownsRow w8.heap.size 9 1 (.slice gA K gc) K xs) ∧ Hid (Blk ws gX 31 #[.slice nA M nc, .slice gA K gc]) ∧ w6.grownBy ws none) (fun i _ => K - (intOf i).toNat)
        case atStart => exact ⟨0, by omega, rfl, HGq, HXq, hgq⟩
        case round =>
         obtain ⟨q, hq, rfl, ⟨ys, hrow⟩, HXs, hgs⟩ := hrel
         clear HGq HXq hgq 
         by_cases hlq : q < K
         ·have hkq : (q : Int) < (K : Int) := by omega
          obtain ⟨g, rfl, hg0, hg1⟩ := HGS.out (by omega)
          have hc := hrow.cellAt q (by omega)
          have hlen' := hrow.1
          obtain ⟨u0, hu0⟩ : ∃ u, ys[q]? = some u := ⟨_, List.getElem?_eq_getElem (by omega)⟩
          rw [hu0] at hc
          have hfz := hrow.frozenAt q
          have hst := hrow.stored q (.string ⟨#[115, 112, 111, 105, 108, 116]⟩)
          have HST := Lib.hid hst
          have HXs2 := Lib.hid (HXs.out.grown HST.out.2 (fun e => by injection e with e; omega))
          clear hu0 hst hlen' HXs
          go_wp2_with fail
          go_roundw
          case rel => exact ⟨q + 1, by omega, by go_num, ⟨_, HST.out.1⟩, HXs2, gr_grown hgs HST.out.2 (fun gg e => by injection e with e; exact .inr (by omega))⟩
          case measure => simp [intOf]; omega
         ·have hkq : ¬ (q : Int) < (K : Int) := by omega
          have HGe : Hid (∃ xs, wr.ownsRow w8.heap.size 9 1 (.slice gA K gc) K xs) := ⟨_, hrow⟩
          clear hrow
          go_wp2_with fail
          go_roundw
          case rel => exact ⟨k2 + 1, by omega, by go_num, HXs, fun h => absurd h (by omega), HGe, hgs⟩
          case measure => simp [intOf]; omega
      ·have hki : ¬ (k2 : Int) < 2 := by omega
       clear HXq HNq HGq
       have HIS := Lib.hid (fun W => isCall_any ⟨#[107, 49, 97, 98]⟩ W (by decide) (fewA_of (n := 4) (by decide)).2)
       rw [show isCall ⟨#[107, 49, 97, 98]⟩ = true from partsOf_k1ab] at HIS
       have hg4 := gr_trans hg6 hgq
       go_wp2_with fail
       refine (HIS.out _).mono ?_
       rintro _ v1 ⟨rfl, hg⟩
       have hg41 := gr_trans hg4 hg
       clear hg hg4
       go_wp2_with fail
       refine (HQ1.out _ hg41).mono ?_
       rintro _ v2 ⟨rfl, hg⟩
       have hg42 := gr_trans hg41 hg
       clear hg hg41
       go_wp2_with fail
       refine (HQ2.out _ hg42).mono ?_
       rintro _ v3 ⟨rfl, hg⟩
       have hg43 := gr_trans hg42 hg
       clear hg hg42
       go_wp2_with fail
       refine (HQ3.out _ hg43).mono ?_
       rintro _ v4 ⟨rfl, hg⟩
       have hg44 := gr_trans hg43 hg
       clear hg hg43
       go_wp2_with fail
       refine (HRD.out _ hg44).mono ?_
       rintro _ v5 ⟨rfl, hg⟩
       go_wp2_with fail
       go_ret
       exact ⟨rfl, gr_below (gr_trans hG4 (gr_trans hg44 hg))⟩
  ·have hC1 : (CE == 0) = false := by rw [beq_eq_false_iff_ne]; exact hC0
   clear HTD2 HNR HGS hC0
   go_wp2_with fail
   refine (HRD.out _ hg6).mono ?_
   rintro _ w7 ⟨rfl, hg7⟩
   go_wp2_with fail
   go_ret
   exact ⟨rfl, gr_below (gr_trans hG4 (gr_trans hg6 hg7))⟩
 ·have hE1 : (E == 0) = false := by rw [beq_eq_false_iff_ne]; exact hE0
  have hE2 : (E != 0) = true := by rw [bne, hE1]; rfl
  clear HTD
  go_wp2_with fail
  refine (HRD.out _ hg5).mono ?_
  rintro _ w7 ⟨rfl, hg7⟩
  go_wp2_with fail
  go_ret
  exact ⟨rfl, gr_below (gr_trans hG4 (gr_trans hg5 hg7))⟩
end Go.Proofs.YtbpkfkbbkgdlaaaGreatDoor

namespace Go.Proofs.YtbpkfkbbkgdlaaaGreatDoor
open Go.ChangeShapes Go.WideShapes Go.ChangeAt Go.RowKit
set_option linter.unusedVariables false

theorem cardOwn : ownKnob Tryz.prog.godebug = none := by kernel_rfl
theorem cardLaidOut : laidOutB Tryz.prog = true := by kernel_rfl
/-- A contract in worlds that meet a condition and are shaped as the program lays them. -/
theorem returns_both {H : Type} {enc : TypeId × Value → H} {a : Assume} {C : Checked} {os : Os} {f : FuncId} {fn : Func} {s : ChangeSpec} {conds : List PathCond} {apart fresh handsOn again : Bool} {X : World → Array Value → Prop}
 (hX : ∀ (w w' : World) (args : Array Value), w.heap = w'.heap → X w args → X w' args)
 (own : ownKnob C.prog.godebug = none) (started : os.Started) (noInit : C.prog.inits.idxOf? f = none) (hfn : C.prog.funcs[f]? = some fn)
 (witness : ∃ (w : World) (tape : Tape) (i : Input), w.os = os ∧ (w.forCall tape i).Shaped C.prog ∧ i.vars = [] ∧ Input.okWide C.prog (w.forCall tape i) .any w.heap.size f i ∧
  ((s.pre enc C.prog fn conds apart (w.forCall tape i).memory i.args ∧ X (w.forCall tape i).memory i.args) ∧ sizedMet enc C.prog fn (OpenSpec.ofChange s) apart (w.forCall tape i).memory i.args) ∧ a.holds C.prog (lone (Frame.enter C.prog f i.args .normal) [] (w.forCall tape i)))
 (contract : ∀ (W : World) (base : Nat) (args : Array Value) (ds gs : List (DataW H)) (before : List MemPlace),
  (∀ (j : Nat) t v, fn.params[j]? = some t → args[j]? = some v → Value.okWide C.prog W .any base t v) →
  DataW.Whole enc C.prog fn.params.toList s.vars apart W args.toList ds gs before → X W args → W.ShapedOpen C.prog →
  Calls C.prog f args W fun e W' => ∃ v, e = .returned v ∧ s.post enc C.prog fn apart fresh handsOn again W args v W') :
 ReturnsInHanded a C os f .any (fun w args => (s.pre enc C.prog fn conds apart w args ∧ X w args) ∧ sizedMet enc C.prog fn (OpenSpec.ofChange s) apart w args) (s.post enc C.prog fn apart fresh handsOn again) := by
 refine returnsInHanded_of_calls own started noInit witness ?_
 intro w tape i _ hsh _ hok hpre hholds
 obtain ⟨_, _, _, fn', hfn', _, _, _, _, hval⟩ := hok
 have e : fn' = fn := Option.some.inj (hfn'.symm.trans hfn)
 subst e
 obtain ⟨⟨⟨ds, gs, before, hw, hc⟩, hx⟩, hz⟩ := hpre
 have hw' := DataW.Whole.of_heap (w' := w.forCall tape i) (by rfl) hw
 refine (contract (w.forCall tape i) w.heap.size i.args ds gs before hval hw' (hX _ _ _ (by rfl) hx) hsh).mono fun e W' ⟨v, he, hp⟩ => ?_
 subst he
 exact ChangeSpec.post_blind hp
/-- The condition on variables, by one run; that no cell is met twice goes by a number's bits. -/
theorem laidMet_of_bits {P : Program} {w : World} {l : List (String × DataW Unit)} (fuel M : Nat) (h : (DataW.laidRun P w fuel (l.map (·.1))).map (·.1) = some l)
 (hn : (DataW.laidRun P w fuel (l.map (·.1))).map (fun x => nodupBits M x.2 0) = some true)
 (hr : (DataW.laidRun P w fuel (l.map (·.1))).map (fun x => laidRowsB P w x.2) = some true) : laidMet P l w := by
 cases hx : DataW.laidRun P w fuel (l.map (·.1)) with
 | none => simp [hx] at h
 | some x =>
   obtain ⟨l', ps⟩ := x
   simp only [hx, Option.map_some, Option.some.injEq] at h hr hn
   subst h
   exact laidMet_of_run fuel hx (decide_eq_true (nodupBits_sound hn).1) hr
/-- The cells of a datum that is a row of plain numbers. -/
def cellsD : DataW Unit → Array Value
 | .agg ds => (ds.map fun d => match d with | .lit (.int k n) => Value.int k n | _ => .bool false).toArray
 | _ => #[]
/-- The start: what the door's own run leaves, and Go's great table in its variable. -/
noncomputable def startW (os : Os) : World :=
 let w0 := World.doorLaid Tryz.prog 200 os
 { w0 with heap := w0.heap.modify 4 fun
  | .cells _ t fr => .cells (cellsD Go.Pinned.utf8First) t fr
  | o => o }
theorem maxCell {W : World} (h : W.ShapedOpen Tryz.prog) : ∃ m, W.cell? ⟨0, 0, none⟩ = some (.int .i64 m) :=
 cell_of_shapedOpen_int (t := 3) (zero := #[.int .i64 0]) h (of_decide_eq_true (by kernel_rfl)) (by kernel_rfl) (by kernel_rfl) (by kernel_rfl) (by kernel_rfl) Tryz.underlying3
theorem asc_eq : (Rows.laid_strings_asciiSpace : DataW Unit) = Lib.tabData .u8 Lib.asciiSpaceTab := by kernel_rfl
theorem spaceTab {W : World} {rest : List (String × DataW Unit)} (h : laidMet Tryz.prog (("strings.asciiSpace", Rows.laid_strings_asciiSpace) :: rest) W) : Lib.TabIs Tryz.prog W "strings.asciiSpace" .u8 Lib.asciiSpaceTab := by
 rw [asc_eq] at h
 exact Lib.tabIs_of_head (g := 6) (t := 254) (e := 5) (n := 256) (by kernel_rfl) (by kernel_rfl) Tryz.underlying254 Tryz.underlying5 (by kernel_rfl) (by kernel_rfl) h
theorem gl_start {W : World} (h1 : ∃ m, W.cell? ⟨0, 0, none⟩ = some (.int .i64 m)) (h2 : Lib.TabIs Tryz.prog W "strings.asciiSpace" .u8 Lib.asciiSpaceTab) : Gl W.heap.size W := by
 obtain ⟨m, hm⟩ := h1
 have hc := h2.cell (g := 6) (by kernel_rfl) 0 (by rw [Lib.asciiSpaceTab_length]; decide)
 exact ⟨⟨m, hm⟩, h2, World.block_lt_of_cell? W _ hm, World.block_lt_of_cell? W _ hc, Nat.le_refl _⟩
end Go.Proofs.YtbpkfkbbkgdlaaaGreatDoor
