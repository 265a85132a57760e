/- slices.Equal at two slices of pairs that are equal. No condition. slices.Equal at two slices of strings that are equal; pilelaw1's 'called' answers true. No condition. The walk over the law TablesChecked: it answers true whatever numbers come in. Condition: the powers of ten are Go's own table. What the cards of this seat share: a world that meets the rows' condition on package-level variables; what that condition gives the walks. No condition. -/
import Derived.Test.YtbpkfkbbkgdlaaaGreatDoorPChkan
import Derived.Deep.RegionHeld
import Derived.Test.YtbpkfkbbkgdlaaaGreatDoorPChkac
import Derived.Test.YtbpkfkbbkgdlaaaGreatDoorPChkab
import Derived.Deep.QuietTactic
import Derived.Test.YtbpkfkbbkgdlaaaGreatDoorPChkaf
import Derived.Test.YtbpkfkbbkgdlaaaGreatDoorPChkah
import Derived.Deep.DeepCutAuto
import Derived.Test.YtbpkfkbbkgdlaaaGreatDoorPChkaa
import Derived.Test.YtbpkfkbbkgdlaaaGreatDoorCards
import Derived.Test.YtbpkfkbbkgdlaaaGreatDoorTie
import Derived.LaidMore
import Derived.Stop.Joined
import Derived.Stop.LaidErr
import Derived.HandedShaped
import Derived.Shelf.Vars
import Derived.PinnedBridge
import Derived.SevenTiedAt
namespace Go.Proofs.YtbpkfkbbkgdlaaaGreatDoor
open Go.RowKit
set_option linter.unusedVariables false
set_option linter.unusedSimpArgs false

theorem neqPair (a b : ByteArray) (w : World) : (binOp .neq 58 (.agg #[.string a, .string b]) (.agg #[.string a, .string b])).run Tryz.prog w = .ok (.bool false) w := by
 go_simp
set_option maxRecDepth 100000 in
set_option maxHeartbeats 2000000 in
theorem equalPairs_same (b1 b2 : Nat) (u v : Value) (l : List (Int × ByteArray)) (w : World) (hu : PairsFrom b1 w u l) (hv : PairsFrom b2 w v l) :
 Calls Tryz.prog 26 #[u, v] w fun r w' => r = .returned (.bool true) ∧ w.grownBy w' none := by
 obtain ⟨A, ca, rfl, ha, hA⟩ := hu.shape
 obtain ⟨B, cb, rfl, hb, hB⟩ := hv.shape
 have HU := Lib.hid hu
 have HV := Lib.hid hv
 have HA := Lib.hid hA
 have HB := Lib.hid hB
 clear hu hv hA hB
 go_enter Tryz.func26, Tryz.ntmps26
 go_wp2_with fail
 go_loopw [13] (fun i wr => ∃ k : Nat, k ≤ l.length ∧ i = .int .i64 k ∧ w.grownBy wr none) (fun i _ => l.length - (intOf i).toNat)
 case atStart => exact ⟨0, by omega, rfl, gr_refl _ _⟩
 case round =>
  obtain ⟨k, hk, rfl, hgr⟩ := hrel
  by_cases hlt : k < l.length
  ·obtain ⟨ga, rfl, _, _⟩ := HA.out (by omega)
   obtain ⟨gb, rfl, _, _⟩ := HB.out (by omega)
   obtain ⟨a0, a1⟩ := (HU.out.grown hgr).at_ k hlt
   obtain ⟨b0, b1⟩ := (HV.out.grown hgr).at_ k hlt
   generalize l[k].2 = y at *
   generalize itZ l[k].1 = x at *
   have hkl : (k : Int) < (l.length : Int) := by omega
   have hk0 : (0 : Int) ≤ (k : Int) := by omega
   have hnq := neqPair x y
   go_upto_region 6 with fail
   refine wp_region_held_drew (S := fun W => W.cell? ⟨ga, k * 2, none⟩ = some (.string x) ∧ W.cell? ⟨ga, k * 2 + 1, none⟩ = some (.string y) ∧ W.cell? ⟨gb, k * 2, none⟩ = some (.string x) ∧ W.cell? ⟨gb, k * 2 + 1, none⟩ = some (.string y)) (by kernel_rfl) ⟨a0, a1, b0, b1⟩ (fun hHeld => ?_)
   refine wpAnyH_take (i := 0) (v := ?_) rfl (by kernel_rfl) (by kernel_rfl) (by kernel_rfl) (fun _ _ _ h => h) (Or.inl ⟨by kernel_rfl, ?_⟩) hHeld ?_
   rotate_left
   ·intro w hSw
    (try dsimp only at hSw)
    obtain ⟨hS0, hS1, hS2, hS3⟩ := hSw
    go_simp
    (try with_reducible rfl)
   change wpAnyH _ _ _ _ _ _ _ (Act.put _ (some 16) _) _
   simp only [Act.put, ssA, ssZ, ssS]
   refine wpAnyH_take (i := 1) (v := ?_) rfl (by kernel_rfl) (by kernel_rfl) (by kernel_rfl) (fun _ _ _ h => h) (Or.inl ⟨by kernel_rfl, ?_⟩) hHeld ?_
   rotate_left
   ·intro w hSw
    (try dsimp only at hSw)
    obtain ⟨hS0, hS1, hS2, hS3⟩ := hSw
    go_simp
    (try with_reducible rfl)
   change wpAnyH _ _ _ _ _ _ _ (Act.put _ (some 17) _) _
   simp only [Act.put, ssA, ssZ, ssS]
   refine wpAnyH_take (i := 2) (v := ?_) rfl (by kernel_rfl) (by kernel_rfl) (by kernel_rfl) (fun _ _ _ h => h) (Or.inl ⟨by kernel_rfl, ?_⟩) hHeld ?_
   rotate_left
   ·intro w hSw
    (try dsimp only at hSw)
    obtain ⟨hS0, hS1, hS2, hS3⟩ := hSw
    go_simp
    (try with_reducible rfl)
   change wpAnyH _ _ _ _ _ _ _ (Act.put _ (some 18) _) _
   simp only [Act.put, ssA, ssZ, ssS]
   refine wpAnyH_take (i := 3) (v := ?_) rfl (by kernel_rfl) (by kernel_rfl) (by kernel_rfl) (fun _ _ _ h => h) (Or.inl ⟨by kernel_rfl, ?_⟩) hHeld ?_
   rotate_left
   ·intro w hSw
    (try dsimp only at hSw)
    obtain ⟨hS0, hS1, hS2, hS3⟩ := hSw
    go_simp
    (try with_reducible rfl)
   change wpAnyH _ _ _ _ _ _ _ (Act.put _ (some 19) _) _
   simp only [Act.put, ssA, ssZ, ssS]
   refine wpAnyH_take (i := 4) (v := ?_) rfl (by kernel_rfl) (by kernel_rfl) (by kernel_rfl) (fun _ _ _ h => h) (Or.inl ⟨by kernel_rfl, ?_⟩) hHeld ?_
   rotate_left
   ·intro w hSw
    (try dsimp only at hSw)
    obtain ⟨hS0, hS1, hS2, hS3⟩ := hSw
    go_simp
    (try with_reducible rfl)
   change wpAnyH _ _ _ _ _ _ _ (Act.put _ (some 20) _) _
   simp only [Act.put, ssA, ssZ, ssS]
   refine wpAnyH_take (i := 5) (v := ?_) rfl (by kernel_rfl) (by kernel_rfl) (by kernel_rfl) (fun _ _ _ h => h) (Or.inl ⟨by kernel_rfl, ?_⟩) hHeld ?_
   rotate_left
   ·intro w hSw
    (try dsimp only at hSw)
    obtain ⟨hS0, hS1, hS2, hS3⟩ := hSw
    go_simp
    (try with_reducible rfl)
   change wpAnyH _ _ _ _ _ _ _ (Act.put _ (some 21) _) _
   simp only [Act.put, ssA, ssZ, ssS]
   refine wpAnyH_take (i := 6) (v := ?_) rfl (by kernel_rfl) (by kernel_rfl) (by kernel_rfl) (fun _ _ _ h => h) (Or.inl ⟨by kernel_rfl, ?_⟩) hHeld ?_
   rotate_left
   ·intro w hSw
    (try dsimp only at hSw)
    obtain ⟨hS0, hS1, hS2, hS3⟩ := hSw
    go_simp
    (try with_reducible rfl)
   change wpAnyH _ _ _ _ _ _ _ (Act.put _ (some 22) _) _
   simp only [Act.put, ssA, ssZ, ssS]
   refine wpAnyH_take (i := 7) (v := ?_) rfl (by kernel_rfl) (by kernel_rfl) (by kernel_rfl) (fun _ _ _ h => h) (Or.inl ⟨by kernel_rfl, ?_⟩) hHeld ?_
   rotate_left
   ·intro w hSw
    (try dsimp only at hSw)
    obtain ⟨hS0, hS1, hS2, hS3⟩ := hSw
    go_simp
    (try with_reducible rfl)
   change wpAnyH _ _ _ _ _ _ _ (Act.put _ (some 23) _) _
   simp only [Act.put, ssA, ssZ, ssS]
   refine wpAnyH_take (i := 8) (v := ?_) rfl (by kernel_rfl) (by kernel_rfl) (by kernel_rfl) (fun _ _ _ h => h) (Or.inl ⟨by kernel_rfl, ?_⟩) hHeld ?_
   rotate_left
   ·intro w hSw
    (try dsimp only at hSw)
    obtain ⟨hS0, hS1, hS2, hS3⟩ := hSw
    go_simp
    (try with_reducible rfl)
   change wpAnyH _ _ _ _ _ _ _ (Act.put _ (some 24) _) _
   simp only [Act.put, ssA, ssZ, ssS]
   refine wpAnyH_done (by kernel_rfl) ?_ _
   clear a0 a1 b0 b1
   have hgd := gr_drew hgr
   generalize wr.drew = wq at *
   go_wp2_with fail
   go_roundw
   case rel => exact ⟨k + 1, by omega, by go_num, hgd⟩
   case measure => simp [intOf]; omega
  ·have hkl : ¬ ((k : Int) < l.length) := by omega
   go_wp2_with fail
   go_ret
   exact ⟨rfl, hgr⟩
end Go.Proofs.YtbpkfkbbkgdlaaaGreatDoor

namespace Go.Proofs.YtbpkfkbbkgdlaaaGreatDoor
open Go.RowKit
set_option linter.unusedVariables false
set_option linter.unusedSimpArgs false

set_option maxHeartbeats 2000000 in
theorem equalStrs_n (b1 b2 : Nat) (u v : Value) (l : List ByteArray) (w : World) (hu : StrsFrom b1 w u l) (hv : StrsFrom b2 w v l) :
 Calls Tryz.prog 25 #[u, v] w fun r w' => r = .returned (.bool true) ∧ w.grownBy w' none := by
 obtain ⟨A, ca, rfl, ha, hA⟩ := hu.shape
 obtain ⟨B, cb, rfl, hb, hB⟩ := hv.shape
 have HU := Lib.hid hu
 have HV := Lib.hid hv
 have HA := Lib.hid hA
 have HB := Lib.hid hB
 clear hu hv hA hB
 go_enter Tryz.func25, Tryz.ntmps25
 go_wp2_with fail
 go_loopw [13] (fun i wr => ∃ k : Nat, k ≤ l.length ∧ i = .int .i64 k ∧ w.grownBy wr none) (fun i _ => l.length - (intOf i).toNat)
 case atStart => exact ⟨0, by omega, rfl, gr_refl _ _⟩
 case round =>
  obtain ⟨k, hk, rfl, hgr⟩ := hrel
  by_cases hlt : k < l.length
  ·obtain ⟨ga, rfl, _, _⟩ := HA.out (by omega)
   obtain ⟨gb, rfl, _, _⟩ := HB.out (by omega)
   have a0 := (HU.out.grown hgr).at_ k hlt
   have b0 := (HV.out.grown hgr).at_ k hlt
   generalize l[k] = x at *
   have hkl : (k : Int) < (l.length : Int) := by omega
   go_wp2_with fail
   go_quiet (fail)
   go_wp2_with fail
   go_roundw
   case rel => exact ⟨k + 1, by omega, by go_num, by repeat (first | exact hgr | refine gr_drewN ?_ _ | refine gr_drew ?_)⟩
   case measure => simp [intOf]; omega
  ·have hkl : ¬ ((k : Int) < l.length) := by omega
   go_wp2_with fail
   go_ret
   exact ⟨rfl, hgr⟩
theorem apart_oh2n (w : World) : Calls Tryz.prog 75 #[.string ⟨#[111, 104, 50, 97, 98, 99, 47, 52]⟩] w fun e w' =>
 e = .returned (.tuple #[.agg #[.string ⟨#[111, 104, 50, 97, 98, 99]⟩, .string ⟨#[111, 104, 50]⟩, .string ⟨#[97, 98, 99]⟩, .int .i64 2, .string ⟨#[52]⟩], .int .i64 0]) ∧ w.grownBy w' none := by
 refine (apart_any _ w (by decide) ?_).mono ?_
 ·intro j b h
  have hm := List.mem_of_getElem? h
  have hall : ∀ b ∈ (⟨#[111, 104, 50, 97, 98, 99, 47, 52]⟩ : ByteArray).data.toList, b.toNat < 128 := by decide +kernel
  exact hall b hm
 ·rintro e w' ⟨hg, h⟩
  refine ⟨?_, hg⟩
  rcases h with ⟨h, _⟩ | ⟨t, k, kd, ad, h, rfl⟩
  ·rw [partsOf_ready] at h; cases h
  ·rw [partsOf_ready] at h
   simp only [Option.some.injEq, Prod.mk.injEq] at h
   obtain ⟨rfl, rfl, rfl, rfl⟩ := h
   rfl
set_option maxRecDepth 100000 in
set_option maxHeartbeats 2000000 in
theorem called_n (w : World) :
 Calls Tryz.prog 27 #[] w fun e w' => e = .returned (.bool true) ∧ w.grownBy w' none := by
 go_enter Tryz.func27, Tryz.ntmps27
 go_wp2_with fail
 refine (apart_oh2n _).mono ?_
 rintro _ w1 ⟨rfl, hg⟩
 go_wp2_with fail
 go_ret
 exact ⟨rfl, gr_alloc hg _⟩
end Go.Proofs.YtbpkfkbbkgdlaaaGreatDoor

namespace Go.Proofs.YtbpkfkbbkgdlaaaGreatDoor
open Go.RowKit
set_option linter.unusedVariables false
set_option linter.unusedSimpArgs false

theorem eqlFnd (a : ByteArray) (c e : Int) (w : World) : (binOp .eql 38 (.agg #[.string a, .int .i64 c, .int .i64 e]) (.agg #[.string a, .int .i64 c, .int .i64 e])).run Tryz.prog w = .ok (.bool true) w := by
 go_simp
theorem names_strs {base : Nat} {w : World} {v : Value} {l : List (List UInt8)} (h : NamesFrom base w v l) : StrsFrom base w v (l.map fun x => ⟨x.toArray⟩) := by
 unfold StrsFrom
 rw [List.length_map, List.map_map]
 exact h
theorem of_or (l : List Ent) (p : List Pfx) (s : ByteArray) (t : Int) : orL [tabE l p, callE s, momE t] = ofE l p s t := by
 unfold ofE
 rw [orL_cons]
 by_cases h : tabE l p = 0
 ·rw [if_pos h, if_neg (by simpa using h), orL_cons, orL1]
  cases hc : isCall s
  ·rw [callE_3 hc]; rfl
  ·rw [callE_0 hc]; rfl
 ·rw [if_neg h, if_pos h]
theorem all_or (l : List Ent) (p : List Pfx) (cs : List ByteArray) (t : Int) : orL [tabE l p, callsE cs, momE t] = allE l p cs t := by
 unfold allE
 rw [orL_cons]
 by_cases h : tabE l p = 0
 ·rw [if_pos h, if_neg (by simpa using h), orL_cons, orL1]
  by_cases h2 : callsE cs = 0
  ·rw [if_pos h2, if_neg (by simpa using h2)]
  ·rw [if_neg h2, if_pos h2]
 ·rw [if_neg h, if_pos h]
theorem chg_or (l : List Ent) (p : List Pfx) (s : ByteArray) : (if tabE l p = 0 then callE s else tabE l p) = chgE l p s := by
 unfold chgE
 by_cases h : tabE l p = 0
 ·rw [if_pos h, if_neg (by simpa using h)]
  cases hc : isCall s
  ·rw [callE_3 hc]; rfl
  ·rw [callE_0 hc]; rfl
 ·rw [if_neg h, if_pos h]
theorem ofE_0 {l : List Ent} {p : List Pfx} {s : ByteArray} {t : Int} (h : ofE l p s t = 0) : tabE l p = 0 ∧ isCall s = true := by
 unfold ofE at h
 by_cases h1 : tabE l p = 0
 ·rw [if_neg (by simpa using h1)] at h
  refine ⟨h1, ?_⟩
  cases hc : isCall s
  ·rw [hc] at h; simp at h
  ·rfl
 ·rw [if_pos h1] at h; exact absurd h h1
theorem chgE_0 {l : List Ent} {p : List Pfx} {s : ByteArray} (h : chgE l p s = 0) : tabE l p = 0 ∧ isCall s = true := by
 unfold chgE at h
 by_cases h1 : tabE l p = 0
 ·rw [if_neg (by simpa using h1)] at h
  refine ⟨h1, ?_⟩
  cases hc : isCall s
  ·rw [hc] at h; simp at h
  ·rfl
 ·rw [if_pos h1] at h; exact absurd h h1
theorem allE_0 {l : List Ent} {p : List Pfx} {cs : List ByteArray} {t : Int} (h : allE l p cs t = 0) : tabE l p = 0 ∧ ∀ s ∈ cs, isCall s = true := by
 unfold allE at h
 by_cases h1 : tabE l p = 0
 ·rw [if_neg (by simpa using h1)] at h
  by_cases h2 : callsE cs = 0
  ·exact ⟨h1, List.all_eq_true.1 (callsE_0.1 h2)⟩
  ·rw [if_pos h2] at h; exact absurd h h2
 ·rw [if_pos h1] at h; exact absurd h h1
set_option maxRecDepth 100000 in
set_option maxHeartbeats 32000000 in
theorem checkLaw (A : Option Addr) (n c : Nat) (w : World) (hin : InX w A n) (hp : P10 w.heap.size w) :
 Calls Tryz.prog 3 #[.slice A n c] w fun r w' => r = .returned (.bool true) ∧ Below w.heap.size w w' := by
 obtain ⟨hn, L, hL, hcell⟩ := hin
 have hG0 := World.grownBy_alloc w (.cells #[.slice A n c, .int .i64 0] 25) none
 have sA := SX.start hn hL hcell hG0 (Blk.new w _ _) (Nat.le_refl _)
 have HPT := Lib.hid hp
 clear hn hL hcell hp
 go_enter Tryz.func3, Tryz.ntmps3
 go_wp2_with fail
 generalize w.alloc (.cells #[.slice A n c, .int .i64 0] 25) = W0 at *
 obtain ⟨b, hb⟩ : ∃ b, w.heap.size = b := ⟨_, rfl⟩
 rw [hb] at sA HPT ⊢
 have HB := Lib.hid hb
 obtain ⟨B1, hB1⟩ : ∃ B1, W0.heap.size = B1 := ⟨_, rfl⟩
 have hbB : b < B1 := by rw [← hB1]; exact sA.lt
 have HBB := Lib.hid hbB
 have HTB := Lib.hid (table_in b b L 0 W0 sA (by decide))
 unfold TabSPost at HTB
 rw [hB1] at HTB
 have HBS := Lib.hid hB1
 clear hb hB1 sA hbB
 refine HTB.out.mono ?_
 rintro _ w1 ⟨u, v, l, p, k1, rfl, hu, hv, hl6, hp24, hEsm, hPsm, hk1, hs1, hg1⟩
 have hG1 : w.grownBy w1 none := gr_grown hG0 hg1 (fun g e => by injection e with e; exact .inr (by have := HB.out; omega))
 have HSZ1 : Hid (B1 ≤ w1.heap.size) := by show _ ≤ _; rw [← HBS.out]; exact hg1.size
 have HU := Lib.hid hu
 have HV := Lib.hid hv
 have HESM := Lib.hid hEsm
 have HPSM := Lib.hid hPsm
 clear hG0 hg1 hu hv HTB hEsm hPsm hl6 hp24
 go_wp2_with fail
 refine (callOf_in b k1 _ hs1 (by omega)).mono ?_
 rintro _ w2 ⟨s, rfl, hs30, hsa, hs2, hg2⟩
 have hG2 : w.grownBy w2 none := gr_grown hG1 hg2 (fun g e => by injection e with e; exact .inr (by have := HB.out; omega))
 have HU2 := Lib.hid (EntsFrom.other HU.out hg2 HBB.out)
 have HV2 := Lib.hid (PfxsFrom.other HV.out hg2 HBB.out)
 have HSA := Lib.hid hsa
 have HSZ : Hid (B1 ≤ w2.heap.size) := Nat.le_trans HSZ1.out hg2.size
 clear hs1 hG1 hg2 HU HV hsa
 go_wp2_with fail
 refine (callListM_in b _ 6 (by decide) _ hs2 (by omega)).mono ?_
 rintro _ w3 ⟨cv, cs, rfl, hcv, hL9, hLs, hs3, hg3⟩
 have hG3 : w.grownBy w3 none := gr_grown hG2 hg3 (fun g e => by injection e with e; exact .inr (by have := HB.out; omega))
 have HU3 := Lib.hid (EntsFrom.other HU2.out hg3 HBB.out)
 have HV3 := Lib.hid (PfxsFrom.other HV2.out hg3 HBB.out)
 have HC3 : Hid (StrsFrom B1 w3 cv cs) := hcv.low HSZ.out
 have HLS : Hid (SmallS cs) := ⟨by omega, fun x hx => ⟨by have := (hLs x hx).1; omega, (hLs x hx).2⟩⟩
 clear hs2 hG2 hg3 HU2 HV2 hcv hL9 hLs HSZ
 go_wp2_with fail
 refine (asked_in b _ _ hs3 (by omega)).mono ?_
 rintro _ w4 ⟨t, ht0, ht1, rfl, hs4, hg4⟩
 have hG4 : w.grownBy w4 none := gr_grown hG3 hg4 (fun g e => by injection e with e; exact .inr (by have := HB.out; omega))
 have HU4 := Lib.hid (EntsFrom.other HU3.out hg4 HBB.out)
 have HV4 := Lib.hid (PfxsFrom.other HV3.out hg4 HBB.out)
 have HC4 := Lib.hid (HC3.out.other hg4 HBB.out)
 have HP4 : Hid (P10 b w4) := HPT.out.grown hG4
 clear hs3 hs4 hG3 hg4 HU3 HV3 HC3 HPT
 have HTF : Hid (∀ W, w4.grownBy W none → Calls Tryz.prog 11 #[u, v] W fun r w' => r = .returned (.int .i64 (tabE l p)) ∧ W.grownBy w' none) := fun W hW => tableFault_any B1 u v l p W (HU4.out.grown hW) HESM.out (HV4.out.grown hW) HPSM.out
 have HCE : Hid (∀ W, w4.grownBy W none → Calls Tryz.prog 12 #[u] W fun r w' => r = .returned (.int .i64 (entsE l)) ∧ W.grownBy w' none) := fun W hW => checkEntities_any B1 u l W (HU4.out.grown hW) HESM.out
 have HEF : Hid (∀ W, w4.grownBy W none → Calls Tryz.prog 13 #[u] W fun r w' => r = .returned (.int .i64 (entsE l)) ∧ W.grownBy w' none) := fun W hW => entitiesFault_any B1 u l W (HU4.out.grown hW) HESM.out
 have HCT : Hid (∀ W, w4.grownBy W none → Calls Tryz.prog 14 #[u, v] W fun r w' => r = .returned (.int .i64 (tabE l p)) ∧ W.grownBy w' none) := fun W hW => checkTable_any B1 u v l p W (HU4.out.grown hW) HESM.out (HV4.out.grown hW) HPSM.out
 obtain ⟨O, hO⟩ : ∃ O : Option Fnd, (ofE l p s t ≠ 0 → O = none) ∧ (ofE l p s t = 0 → ∀ q, partsOf s = some q → O = fndOf l p s t q) := by
  by_cases h : ofE l p s t = 0
  ·obtain ⟨q, hq⟩ := Option.isSome_iff_exists.1 (show (partsOf s).isSome = true from (ofE_0 h).2)
   exact ⟨fndOf l p s t q, fun h' => absurd h h', fun _ q' hq' => by rw [hq] at hq'; injection hq' with hq'; rw [hq']⟩
  ·exact ⟨none, fun _ => rfl, fun h' => absurd h' h⟩
 have HO := Lib.hid hO
 clear hO
 have HOF : Hid (∀ W, w4.grownBy W none → Calls Tryz.prog 15 #[u, v, .string s, .int .i64 t] W fun r w' => r = .returned (.tuple #[.agg #[.string (O.getD fndZ0).1, .int .i64 (O.getD fndZ0).2.1, .int .i64 (O.getD fndZ0).2.2], .bool O.isSome, .int .i64 (ofE l p s t)]) ∧ W.grownBy w' none) := fun W hW => by
  refine (of_any B1 u v l p s t W (HU4.out.grown hW) HESM.out (HV4.out.grown hW) HPSM.out (by omega) HSA.out).mono ?_
  rintro r w' ⟨O', rfl, h1, h2, hg⟩
  have e : O' = O := by
   by_cases h : ofE l p s t = 0
   ·obtain ⟨q, hq⟩ := Option.isSome_iff_exists.1 (show (partsOf s).isSome = true from (ofE_0 h).2)
    rw [(h2 h).2 q hq, HO.out.2 h q hq]
   ·rw [h1 h, HO.out.1 h]
  subst e
  exact ⟨rfl, hg⟩
 have HFO : Hid (ofE l p s t = 0 → ∀ W, w4.grownBy W none → Calls Tryz.prog 22 #[u, v, .string s, .int .i64 t] W fun r w' => r = .returned (.tuple #[.agg #[.string (O.getD fndZ0).1, .int .i64 (O.getD fndZ0).2.1, .int .i64 (O.getD fndZ0).2.2], .bool O.isSome]) ∧ W.grownBy w' none) := fun h W hW => by
  obtain ⟨q, hq⟩ := Option.isSome_iff_exists.1 (show (partsOf s).isSome = true from (ofE_0 h).2)
  have hR := tabE_ok (ofE_0 h).1
  refine (foundOf_ok B1 u v l p s t q W (HU4.out.grown hW) (by have := hR.ok.ents.len; omega) (HV4.out.grown hW) (by have := hR.ok.len; omega) HPSM.out (by omega) HSA.out hq (parts_size hq)).mono ?_
  rintro r w' ⟨hr, hg⟩
  rw [← HO.out.2 h q hq] at hr
  exact ⟨hr, hg⟩
 obtain ⟨AK, hAK⟩ : ∃ AK : List ByteArray, (allE l p cs t ≠ 0 → AK = []) ∧ (allE l p cs t = 0 → AK = (allOnce l p t cs).map fun x => ⟨x.toArray⟩) := by
  by_cases h : allE l p cs t = 0
  ·exact ⟨_, fun h' => absurd h h', fun _ => rfl⟩
  ·exact ⟨[], fun _ => rfl, fun h' => absurd h' h⟩
 obtain ⟨AN, hAN⟩ : ∃ AN : List ByteArray, (allE l p cs t ≠ 0 → AN = []) ∧ (allE l p cs t = 0 → AN = allNone l p t cs cs.length) := by
  by_cases h : allE l p cs t = 0
  ·exact ⟨_, fun h' => absurd h h', fun _ => rfl⟩
  ·exact ⟨[], fun _ => rfl, fun h' => absurd h' h⟩
 have HAK := Lib.hid hAK
 have HAN := Lib.hid hAN
 clear hAK hAN
 have HAL : Hid (∀ W, w4.grownBy W none → Calls Tryz.prog 16 #[u, v, cv, .int .i64 t] W fun r w' => ∃ v1 v2, r = .returned (.tuple #[v1, v2, .int .i64 (allE l p cs t)]) ∧ StrsFrom 0 w' v1 AK ∧ StrsFrom 0 w' v2 AN ∧ W.grownBy w' none) := fun W hW => by
  refine (all_any B1 u v cv l p cs t W (HU4.out.grown hW) HESM.out (HV4.out.grown hW) HPSM.out (HC4.out.grown hW) HLS.out).mono ?_
  rintro r w' ⟨v1, v2, a, d, rfl, ha, hd, h1, h2, hg⟩
  refine ⟨v1, v2, rfl, ?_, ?_, hg⟩
  ·have e : AK = a.map fun x => ⟨x.toArray⟩ := by
    by_cases h : allE l p cs t = 0
    ·rw [HAK.out.2 h, (h2 h).1]
    ·rw [HAK.out.1 h, (h1 h).1]; rfl
   rw [e]
   exact (names_strs ha).low (Nat.zero_le _)
  ·have e : AN = d := by
    by_cases h : allE l p cs t = 0
    ·rw [HAN.out.2 h, (h2 h).2]
    ·rw [HAN.out.1 h, (h1 h).2]
   rw [e]
   exact hd.low (Nat.zero_le _)
 have HAO : Hid (allE l p cs t = 0 → ∀ W, w4.grownBy W none → Calls Tryz.prog 23 #[u, v, cv, .int .i64 t] W fun r w' => ∃ v1 v2, r = .returned (.tuple #[v1, v2]) ∧ StrsFrom 0 w' v1 AK ∧ StrsFrom 0 w' v2 AN ∧ W.grownBy w' none) := fun h W hW => by
  refine (allOf_any B1 u v cv l p cs t W (HU4.out.grown hW) (HV4.out.grown hW) HPSM.out (tabE_ok (allE_0 h).1) (HC4.out.grown hW) HLS.out (allE_0 h).2).mono ?_
  rintro r w' ⟨v1, v2, rfl, ha, hd, hg⟩
  exact ⟨v1, v2, rfl, by rw [HAK.out.2 h]; exact (names_strs ha).low (Nat.zero_le _), by rw [HAN.out.2 h]; exact hd.low (Nat.zero_le _), hg⟩
 obtain ⟨CH, hCH⟩ : ∃ CH : List (Int × ByteArray), (chgE l p s ≠ 0 → CH = []) ∧ (chgE l p s = 0 → ∀ q, partsOf s = some q → CH = chgL (nameAt l p s q) none (edgL l p (canL p s q) 0 345686400000)) := by
  by_cases h : chgE l p s = 0
  ·obtain ⟨q, hq⟩ := Option.isSome_iff_exists.1 (show (partsOf s).isSome = true from (chgE_0 h).2)
   exact ⟨_, fun h' => absurd h h', fun _ q' hq' => by rw [hq] at hq'; injection hq' with hq'; rw [← hq']⟩
  ·exact ⟨[], fun _ => rfl, fun h' => absurd h' h⟩
 have HCHS := Lib.hid hCH
 clear hCH
 have HCG : Hid (∀ W, w4.grownBy W none → Calls Tryz.prog 17 #[u, v, .string s] W fun r w' => ∃ V, r = .returned (.tuple #[V, .int .i64 (chgE l p s)]) ∧ PairsFrom 0 w' V CH ∧ W.grownBy w' none) := fun W hW => by
  refine (changes_any B1 u v l p s W (HU4.out.grown hW) HESM.out (HV4.out.grown hW) HPSM.out (by omega) HSA.out b (HP4.out.grown hW)).mono ?_
  rintro r w' ⟨V, o, rfl, ho, h1, h2, hg⟩
  have e : CH = o := by
   by_cases h : chgE l p s = 0
   ·obtain ⟨q, hq⟩ := Option.isSome_iff_exists.1 (show (partsOf s).isSome = true from (chgE_0 h).2)
    rw [HCHS.out.2 h q hq, (h2 h).2 q hq]
   ·rw [HCHS.out.1 h, h1 h]
  rw [e]
  exact ⟨V, rfl, ownsRow_low ho (Nat.zero_le _), hg⟩
 have HCO : Hid (chgE l p s = 0 → ∀ W, w4.grownBy W none → Calls Tryz.prog 24 #[u, v, .string s] W fun r w' => ∃ V, r = .returned V ∧ PairsFrom 0 w' V CH ∧ W.grownBy w' none) := fun h W hW => by
  obtain ⟨q, hq⟩ := Option.isSome_iff_exists.1 (show (partsOf s).isSome = true from (chgE_0 h).2)
  have hR := tabE_ok (chgE_0 h).1
  refine (changesOf_any B1 u v l p s q W (HU4.out.grown hW) (HV4.out.grown hW) HPSM.out hR (by omega) HSA.out hq b (HP4.out.grown hW)).mono ?_
  rintro r w' ⟨V, rfl, hV, hg⟩
  rw [HCHS.out.2 h q hq, chg_ref l p hR s q]
  exact ⟨V, rfl, ownsRow_low hV (Nat.zero_le _), hg⟩
 have HCFs := Lib.hid (fun W => callFault_any s W (by omega) HSA.out)
 have HCL : Hid (∀ W, w4.grownBy W none → Calls Tryz.prog 21 #[cv] W fun e w' => e = .returned (.int .i64 (callsE cs)) ∧ W.grownBy w' none) := fun W hW => callsFault_any B1 cv cs W (HC4.out.grown hW) HLS.out
 have HO1 := Lib.hid (of_or l p s t)
 have HO2 := Lib.hid (all_or l p cs t)
 have HO3 := Lib.hid (chg_or l p s)
 have HZ1 : Hid (ofE l p s t ≠ 0 → O = none) := HO.out.1
 have HZ2 : Hid (allE l p cs t ≠ 0 → AK = [] ∧ AN = []) := fun h => ⟨HAK.out.1 h, HAN.out.1 h⟩
 have HZ3 : Hid (chgE l p s ≠ 0 → CH = []) := HCHS.out.1
 clear HO HAK HAN HCHS HU4 HV4 HC4 HESM HPSM HLS HP4 HSA
 generalize ofE l p s t = E1 at *
 generalize allE l p cs t = E2 at *
 generalize chgE l p s = E3 at *
 generalize tabE l p = ET at *
 generalize entsE l = EE at *
 generalize callE s = EC at *
 generalize callsE cs = ECS at *
 have hee : (EE == EE) = true := by simp
 have het : (ET == ET) = true := by simp
 go_wp2_with fail
 refine (HTF.out _ (gr_refl _ _)).mono ?_
 rintro _ w5 ⟨rfl, hg5⟩
 go_wp2_with fail
 refine (HCE.out _ hg5).mono ?_
 rintro _ w6 ⟨rfl, hg⟩
 have hg6 := gr_trans hg5 hg
 clear hg5 hg
 go_wp2_with fail
 refine (HEF.out _ hg6).mono ?_
 rintro _ w7 ⟨rfl, hg⟩
 have hg7 := gr_trans hg6 hg
 clear hg6 hg
 go_wp2_with fail
 refine (HCT.out _ hg7).mono ?_
 rintro _ w8 ⟨rfl, hg⟩
 have hg8 := gr_trans hg7 hg
 clear hg7 hg
 go_wp2_with fail
 refine (HOF.out _ hg8).mono ?_
 rintro _ w9 ⟨rfl, hg⟩
 have hX := Blk.new w9 38 #[.string (O.getD fndZ0).1, .int .i64 (O.getD fndZ0).2.1, .int .i64 (O.getD fndZ0).2.2]
 have hg9 := gr_alloc (gr_trans hg8 hg) (.cells #[.string (O.getD fndZ0).1, .int .i64 (O.getD fndZ0).2.1, .int .i64 (O.getD fndZ0).2.2] 38)
 clear hg8 hg HTF HCE HEF HCT HOF
 go_upto_region 8 with fail
 generalize w9.alloc (.cells #[.string (O.getD fndZ0).1, .int .i64 (O.getD fndZ0).2.1, .int .i64 (O.getD fndZ0).2.2] 38) = w10 at *
 generalize w9.heap.size = gX at *
 go_wp2_with fail
 refine (HAL.out _ hg9).mono ?_
 rintro _ w11 ⟨v1, v2, rfl, hv1, hv2, hg⟩
 have hg11 := gr_trans hg9 hg
 have hX := hX.grown hg (by simp)
 have HV1 : Hid (∀ W, w11.grownBy W none → StrsFrom 0 W v1 AK) := fun W hW => hv1.grown hW
 have HV2 : Hid (∀ W, w11.grownBy W none → StrsFrom 0 W v2 AN) := fun W hW => hv2.grown hW
 clear hg9 hg hv1 hv2 HAL
 go_wp2_with fail
 refine (HCG.out _ hg11).mono ?_
 rintro _ w12 ⟨V3, rfl, hv3, hg⟩
 have hg12 := gr_trans hg11 hg
 have hX := hX.grown hg (by simp)
 have HV3 : Hid (∀ W, w12.grownBy W none → PairsFrom 0 W V3 CH) := fun W hW => hv3.grown hW
 have HV1 : Hid (∀ W, w12.grownBy W none → StrsFrom 0 W v1 AK) := fun W hW => HV1.out W (gr_trans hg hW)
 have HV2 : Hid (∀ W, w12.grownBy W none → StrsFrom 0 W v2 AN) := fun W hW => HV2.out W (gr_trans hg hW)
 clear hg11 hg hv3 HCG
 go_wp2_with fail
 refine (HCFs.out _).mono ?_
 rintro _ w13 ⟨rfl, hg13⟩
 go_wp2_with fail
 refine (momentFault_any t _).mono ?_
 rintro _ _ ⟨rfl, rfl⟩
 go_wp2_with fail
 refine (or3_any _ _ _ _).mono ?_
 rintro _ w14 ⟨rfl, hg⟩
 have hg1214 := gr_trans hg13 hg
 rw [HO1.out]
 clear hg13 hg
 go_wp2_with fail
 refine (HCL.out _ (gr_trans hg12 hg1214)).mono ?_
 rintro _ w15 ⟨rfl, hg⟩
 have hg1215 := gr_trans hg1214 hg
 clear hg1214 hg
 go_wp2_with fail
 refine (momentFault_any t _).mono ?_
 rintro _ _ ⟨rfl, rfl⟩
 go_wp2_with fail
 refine (or3_any _ _ _ _).mono ?_
 rintro _ w16 ⟨rfl, hg⟩
 have hg1216 := gr_trans hg1215 hg
 rw [HO2.out]
 clear hg1215 hg
 go_wp2_with fail
 refine (HCFs.out _).mono ?_
 rintro _ w17 ⟨rfl, hg⟩
 have hg1217 := gr_trans hg1216 hg
 clear hg1216 hg
 go_wp2_with fail
 refine (or2_any _ _ _).mono ?_
 rintro _ w18 ⟨rfl, hg⟩
 have hg1218 := gr_trans hg1217 hg
 rw [HO3.out]
 have hX18 := hX.grown hg1218 (by simp)
 have hY := Blk.new w18 38 #[.string ⟨#[]⟩, .int .i64 0, .int .i64 0]
 have hX19 := hX18.alloc (.cells #[.string ⟨#[]⟩, .int .i64 0, .int .i64 0] 38)
 have hXY : gX < w18.heap.size := hX18.lt
 have hg1219 := gr_alloc hg1218 (.cells #[.string ⟨#[]⟩, .int .i64 0, .int .i64 0] 38)
 have HS18 : Hid (w12.heap.size ≤ w18.heap.size) := hg1218.size
 clear hg1217 hg hX hX18 hg1218 HCFs HCL HO1 HO2 HO3
 go_upto_region 14 with fail
 generalize w18.alloc (.cells #[.string ⟨#[]⟩, .int .i64 0, .int .i64 0] 38) = w19 at *
 generalize w18.heap.size = gY at *
 go_upto_if 100 with fail
 go_cut [22] (fun x wx => x = .bool O.isSome ∧ Hid (Blk wx gY 38 #[.string (O.getD fndZ0).1, .int .i64 (O.getD fndZ0).2.1, .int .i64 (O.getD fndZ0).2.2]) ∧ Hid (Blk wx gX 38 #[.string (O.getD fndZ0).1, .int .i64 (O.getD fndZ0).2.1, .int .i64 (O.getD fndZ0).2.2]) ∧ w12.grownBy wx none)
 case first =>
  as_aux_lemma =>
   by_cases h : E1 = 0
   ·have HB2 := Lib.hid (HFO.out h)
    subst h
    clear HFO HAO HCO HZ1 HZ2 HZ3
    go_wp2_with fail
    refine (HB2.out _ (gr_trans hg12 hg1219)).mono ?_
    rintro _ w20 ⟨rfl, hg20⟩
    have hY20 := hY.grown hg20 (by simp)
    have hX20 := hX19.grown hg20 (by simp)
    have y0 := hY20.cell 0
    have y1 := hY20.cell 1
    have y2 := hY20.cell 2
    have yf := hY20.free
    simp only [List.getElem?_toArray, List.getElem?_cons_zero, List.getElem?_cons_succ] at y0 y1 y2
    have hYP := ((hY20.put 0 (.string (O.getD fndZ0).1)).put 1 (.int .i64 (O.getD fndZ0).2.1)).put 2 (.int .i64 (O.getD fndZ0).2.2)
    simp only [List.setIfInBounds_toArray, List.set_cons_zero, List.set_cons_succ] at hYP
    have hXP := ((hX20.far (p := ⟨gY, 0, none⟩) (by show gX ≠ gY; omega) (.string (O.getD fndZ0).1)).far (p := ⟨gY, 1, none⟩) (by show gX ≠ gY; omega) (.int .i64 (O.getD fndZ0).2.1)).far (p := ⟨gY, 2, none⟩) (by show gX ≠ gY; omega) (.int .i64 (O.getD fndZ0).2.2)
    have HYP := Lib.hid hYP
    have HXP := Lib.hid hXP
    have hgP := gr_put (p := ⟨gY, 2, none⟩) (gr_put (p := ⟨gY, 1, none⟩) (gr_put (p := ⟨gY, 0, none⟩) (gr_trans hg1219 hg20) (.inr HS18.out) (.string (O.getD fndZ0).1)) (.inr HS18.out) (.int .i64 (O.getD fndZ0).2.1)) (.inr HS18.out) (.int .i64 (O.getD fndZ0).2.2)
    have HGP := Lib.hid hgP
    clear hYP hXP hgP hY20 hX20
    go_wp2_with fail
    go_meet
    exact ⟨rfl, HYP, HXP, HGP.out⟩
   ·have hb : (E1 == 0) = false := by rw [beq_eq_false_iff_ne]; exact h
    have HZ := Lib.hid (HZ1.out h)
    clear HFO HAO HCO HZ1 HZ2 HZ3 h
    go_wp2_with fail
    go_meet
    exact ⟨by rw [HZ.out]; rfl, by show Blk _ _ _ _; rw [HZ.out]; exact hY, hX19, hg1219⟩
 case rest =>
  obtain ⟨rfl, HY, HX, hgB⟩ := hcut
  rename World => w20
  clear hY hX19 hg1219 HFO HZ1
  go_upto_if 110 with fail
  go_cut [23, 24] (fun x y wx => Hid (StrsFrom 0 wx x AK) ∧ Hid (StrsFrom 0 wx y AN) ∧ w20.grownBy wx none)
  case first =>
   as_aux_lemma =>
    by_cases h : E2 = 0
    ·have HB2 := Lib.hid (HAO.out h)
     subst h
     clear HAO HCO HZ2 HZ3
     go_wp2_with fail
     refine (HB2.out _ (gr_trans hg12 hgB)).mono ?_
     rintro _ w21 ⟨x1, x2, rfl, hx1, hx2, hg21⟩
     have H1 := Lib.hid hx1
     have H2 := Lib.hid hx2
     clear hx1 hx2
     go_wp2_with fail
     go_meet
     exact ⟨H1, H2, hg21⟩
    ·have hb : (E2 == 0) = false := by rw [beq_eq_false_iff_ne]; exact h
     have HZ := Lib.hid (HZ2.out h)
     clear HAO HCO HZ2 HZ3 h
     go_wp2_with fail
     go_meet
     exact ⟨by show StrsFrom _ _ _ _; rw [HZ.out.1]; exact StrsFrom.nil _ _, by show StrsFrom _ _ _ _; rw [HZ.out.2]; exact StrsFrom.nil _ _, gr_refl _ _⟩
  case rest =>
   obtain ⟨HN1, HN2, hgC⟩ := hcut
   rename World => w21
   have hgBC := gr_trans hgB hgC
   have HY := Lib.hid (HY.out.grown hgC (by simp))
   have HX := Lib.hid (HX.out.grown hgC (by simp))
   clear hgB hgC HAO HZ2
   go_upto_if 120 with fail
   go_cut [25] (fun x wx => Hid (PairsFrom 0 wx x CH) ∧ w21.grownBy wx none)
   case first =>
    as_aux_lemma =>
     by_cases h : E3 = 0
     ·have HB2 := Lib.hid (HCO.out h)
      subst h
      clear HCO HZ3
      go_wp2_with fail
      refine (HB2.out _ (gr_trans hg12 hgBC)).mono ?_
      rintro _ w22 ⟨x1, rfl, hx1, hg22⟩
      have H1 := Lib.hid hx1
      clear hx1
      go_wp2_with fail
      go_meet
      exact ⟨H1, hg22⟩
     ·have hb : (E3 == 0) = false := by rw [beq_eq_false_iff_ne]; exact h
      have HZ := Lib.hid (HZ3.out h)
      clear HCO HZ3 h
      go_wp2_with fail
      go_meet
      exact ⟨by show PairsFrom _ _ _ _; rw [HZ.out]; exact PairsFrom.nil _ _, gr_refl _ _⟩
   case rest =>
    obtain ⟨HN3, hgD⟩ := hcut
    rename World => w22
    have hgBD := gr_trans hgBC hgD
    have hY := HY.out.grown hgD (by simp)
    have hX := HX.out.grown hgD (by simp)
    have x0 := hX.cell 0
    have x1 := hX.cell 1
    have x2 := hX.cell 2
    have y0 := hY.cell 0
    have y1 := hY.cell 1
    have y2 := hY.cell 2
    simp only [List.getElem?_toArray, List.getElem?_cons_zero, List.getElem?_cons_succ] at x0 x1 x2 y0 y1 y2
    have heq := fun W => eqlFnd (O.getD fndZ0).1 (O.getD fndZ0).2.1 (O.getD fndZ0).2.2 W
    generalize (O.getD fndZ0).1 = F1 at *
    generalize (O.getD fndZ0).2.1 = F2 at *
    generalize (O.getD fndZ0).2.2 = F3 at *
    generalize O.isSome = OS at *
    have hos : (OS == OS) = true := by simp
    have h1 : (E1 == E1) = true := by simp
    have h2 : (E2 == E2) = true := by simp
    have h3 : (E3 == E3) = true := by simp
    have HQ1 : Hid (∀ W : World, w22.grownBy W none → Calls Tryz.prog 25 #[v1, u23] W fun r w' => r = .returned (.bool true) ∧ W.grownBy w' none) := fun W hW => equalStrs_n _ _ _ _ AK W (HV1.out _ (gr_trans hgBD hW)) (HN1.out.grown (gr_trans hgD hW))
    have HQ2 : Hid (∀ W : World, w22.grownBy W none → Calls Tryz.prog 25 #[v2, u24] W fun r w' => r = .returned (.bool true) ∧ W.grownBy w' none) := fun W hW => equalStrs_n _ _ _ _ AN W (HV2.out _ (gr_trans hgBD hW)) (HN2.out.grown (gr_trans hgD hW))
    have HQ3 : Hid (∀ W : World, w22.grownBy W none → Calls Tryz.prog 26 #[V3, u25] W fun r w' => r = .returned (.bool true) ∧ W.grownBy w' none) := fun W hW => equalPairs_same _ _ _ _ CH W (HV3.out _ (gr_trans hgBD hW)) (HN3.out.grown hW)
    have hG22 := gr_trans hG4 (gr_trans hg12 hgBD)
    clear hgBC hgD hgBD HCO HZ3 HN1 HN2 HN3 HV1 HV2 HV3 HY HX hX hY
    go_wp2_with fail
    refine (HQ1.out _ (gr_refl _ _)).mono ?_
    rintro _ w23 ⟨rfl, hg23⟩
    go_wp2_with fail
    refine (HQ2.out _ hg23).mono ?_
    rintro _ w24 ⟨rfl, hg⟩
    have hg24 := gr_trans hg23 hg
    clear hg23 hg
    go_wp2_with fail
    refine (HQ3.out _ hg24).mono ?_
    rintro _ w25 ⟨rfl, hg⟩
    have hg25 := gr_trans hg24 hg
    clear hg24 hg
    go_wp2_with fail
    refine (called_n _).mono ?_
    rintro _ w26 ⟨rfl, hg⟩
    have hg26 := gr_trans hg25 hg
    go_wp2_with fail
    go_ret
    exact ⟨rfl, gr_below (gr_trans hG22 hg26)⟩
end Go.Proofs.YtbpkfkbbkgdlaaaGreatDoor

namespace Go.Proofs.YtbpkfkbbkgdlaaaGreatDoor
open Go.ChangeShapes Go.WideShapes Go.ChangeAt Go.RowKit
set_option linter.unusedVariables false

theorem cardOwn : ownKnob Tryz.prog.godebug = none := by kernel_rfl
theorem cardLaidOut : laidOutB Tryz.prog = true := by kernel_rfl
/-- A contract in worlds that meet a condition and are shaped as the program lays them. -/
theorem returns_both {H : Type} {enc : TypeId × Value → H} {a : Assume} {C : Checked} {os : Os} {f : FuncId} {fn : Func} {s : ChangeSpec} {conds : List PathCond} {apart fresh handsOn again : Bool} {X : World → Array Value → Prop}
 (hX : ∀ (w w' : World) (args : Array Value), w.heap = w'.heap → X w args → X w' args)
 (own : ownKnob C.prog.godebug = none) (started : os.Started) (noInit : C.prog.inits.idxOf? f = none) (hfn : C.prog.funcs[f]? = some fn)
 (witness : ∃ (w : World) (tape : Tape) (i : Input), w.os = os ∧ (w.forCall tape i).Shaped C.prog ∧ i.vars = [] ∧ Input.okWide C.prog (w.forCall tape i) .any w.heap.size f i ∧
  ((s.pre enc C.prog fn conds apart (w.forCall tape i).memory i.args ∧ X (w.forCall tape i).memory i.args) ∧ sizedMet enc C.prog fn (OpenSpec.ofChange s) apart (w.forCall tape i).memory i.args) ∧ a.holds C.prog (lone (Frame.enter C.prog f i.args .normal) [] (w.forCall tape i)))
 (contract : ∀ (W : World) (base : Nat) (args : Array Value) (ds gs : List (DataW H)) (before : List MemPlace),
  (∀ (j : Nat) t v, fn.params[j]? = some t → args[j]? = some v → Value.okWide C.prog W .any base t v) →
  DataW.Whole enc C.prog fn.params.toList s.vars apart W args.toList ds gs before → X W args → W.ShapedOpen C.prog →
  Calls C.prog f args W fun e W' => ∃ v, e = .returned v ∧ s.post enc C.prog fn apart fresh handsOn again W args v W') :
 ReturnsInHanded a C os f .any (fun w args => (s.pre enc C.prog fn conds apart w args ∧ X w args) ∧ sizedMet enc C.prog fn (OpenSpec.ofChange s) apart w args) (s.post enc C.prog fn apart fresh handsOn again) := by
 refine returnsInHanded_of_calls own started noInit witness ?_
 intro w tape i _ hsh _ hok hpre hholds
 obtain ⟨_, _, _, fn', hfn', _, _, _, _, hval⟩ := hok
 have e : fn' = fn := Option.some.inj (hfn'.symm.trans hfn)
 subst e
 obtain ⟨⟨⟨ds, gs, before, hw, hc⟩, hx⟩, hz⟩ := hpre
 have hw' := DataW.Whole.of_heap (w' := w.forCall tape i) (by rfl) hw
 refine (contract (w.forCall tape i) w.heap.size i.args ds gs before hval hw' (hX _ _ _ (by rfl) hx) hsh).mono fun e W' ⟨v, he, hp⟩ => ?_
 subst he
 exact ChangeSpec.post_blind hp
/-- The condition on variables, by one run; that no cell is met twice goes by a number's bits. -/
theorem laidMet_of_bits {P : Program} {w : World} {l : List (String × DataW Unit)} (fuel M : Nat) (h : (DataW.laidRun P w fuel (l.map (·.1))).map (·.1) = some l)
 (hn : (DataW.laidRun P w fuel (l.map (·.1))).map (fun x => nodupBits M x.2 0) = some true)
 (hr : (DataW.laidRun P w fuel (l.map (·.1))).map (fun x => laidRowsB P w x.2) = some true) : laidMet P l w := by
 cases hx : DataW.laidRun P w fuel (l.map (·.1)) with
 | none => simp [hx] at h
 | some x =>
   obtain ⟨l', ps⟩ := x
   simp only [hx, Option.map_some, Option.some.injEq] at h hr hn
   subst h
   exact laidMet_of_run fuel hx (decide_eq_true (nodupBits_sound hn).1) hr
/-- The cells of a datum that is a row of plain numbers. -/
def cellsD : DataW Unit → Array Value
 | .agg ds => (ds.map fun d => match d with | .lit (.int k n) => Value.int k n | _ => .bool false).toArray
 | _ => #[]
/-- The start: what the door's own run leaves, and Go's great table in its variable. -/
noncomputable def startW (os : Os) : World :=
 let w0 := World.doorLaid Tryz.prog 200 os
 { w0 with heap := w0.heap.modify 4 fun
  | .cells _ t fr => .cells (cellsD Go.Pinned.utf8First) t fr
  | o => o }
end Go.Proofs.YtbpkfkbbkgdlaaaGreatDoor
