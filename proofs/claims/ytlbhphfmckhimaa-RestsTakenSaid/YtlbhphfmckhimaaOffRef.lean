/- The walks over the reference's OffOf and WorkedOf. Condition: moments from 0 to the end of all contests, at most 2000; a least length from 1 to 10^9. -/
import Derived.Test.YtlbhphfmckhimaaOffOf
import Derived.Test.YtlbhphfmckhimaaRestsWorked
namespace Go.Proofs.Ytlbhphfmckhimaa
open Go.RowKit
set_option linter.unusedVariables false

theorem offL_keep (l : List Int) (a z least : Int) : (gapsL 1 a (l ++ [z])).filter (keepB least) = offL l a z least := by
  unfold offL restsL
  exact congrArg (fun f => (gapsL 1 a (l ++ [z])).filter f) (funext fun p => keep_long least p)

set_option maxHeartbeats 1000000 in
theorem offOf_ok (base : Nat) (v : Value) (l : List Int) (a z least : Int) (w : World) (hl : IntsFrom base w v l) (ha0 : 0 ≤ a) (ha1 : a ≤ 345686400000) (hz0 : 0 ≤ z) (hz1 : z ≤ 345686400000) (hm : ∀ x ∈ l, 0 ≤ x ∧ x ≤ 345686400000) (hn : l.length ≤ 2000) :
    Calls Try.prog 16 #[v, .agg #[.int .i64 a, .int .i64 z], .int .i64 least] w fun r w' => ∃ u, r = .returned u ∧ Wins w' u (offL l a z least) ∧ w.grownBy w' none := by
  have hlen : (gapsL 1 a (l ++ [z])).length ≤ 3000 := by rw [gapsL_len]; simp; omega
  have hmem := gapsL_mem 1 0 345686400001 (l ++ [z]) a ha0 (by omega) (fun x hx => by
    rcases List.mem_append.1 hx with h | h
    · have := hm x h; omega
    · simp at h; omega) (by omega)
  have HLEN := Lib.hid hlen
  have HMEM : Hid (∀ p ∈ gapsL 1 a (l ++ [z]), -1000000000000000 ≤ p.1 ∧ p.1 ≤ 1000000000000000 ∧ -1000000000000000 ≤ p.2 ∧ p.2 ≤ 1000000000000000) := fun p hp => by have := hmem p hp; omega
  have HM := Lib.hid hm
  have HL := Lib.hid hl
  have HK := Lib.hid (offL_keep l a z least)
  clear hl hlen hmem hm
  go_enter Try.func16, Try.ntmps16
  go_wp2_with fail
  have hG := gr_alloc (World.grownBy_alloc w (.cells #[.int .i64 a, .int .i64 z] 27) none) (.cells #[.int .i64 least] 3)
  have hB := Blk.new (w.alloc (.cells #[.int .i64 a, .int .i64 z] 27)) 3 #[.int .i64 least]
  rw [World.size_alloc] at hB
  have HL0 := Lib.hid (HL.out.grown hG)
  refine (gaps_any base _ _ _ _ 1 _ HL0.out ha0 ha1 hz0 hz1 HM.out hn (by omega) (by omega)).mono ?_
  rintro _ w1 ⟨u, rfl, hu, hg⟩
  replace hB := hB.grown hg (by simp)
  have hG1 := gr_trans hG hg
  have hu' : WinsFrom (w.heap.size + 2) w1 u (gapsL 1 a (l ++ [z])) := WinsFrom.lowTo hu (by simp)
  clear hu hg
  go_wp2_with fail
  refine (deleteW_any (w.heap.size + 2) (w.heap.size + 1) _ _ least w1 hu' hB (by omega) HLEN.out HMEM.out).mono ?_
  rintro _ w2 ⟨v2, rfl, hv2, hg2⟩
  have hrow : ∀ g, u.ownBlock = some g → w.heap.size + 2 ≤ g := fun g e => (World.ownsRow.lt hu' g e).1
  have hG2 : w.grownBy w2 none := gr_grown hG1 hg2 (fun g e => .inr (by have := hrow g e; omega))
  have HV := Lib.hid (WinsFrom.low hv2)
  clear hv2 hg2 hrow
  go_wp2_with fail
  go_ret
  exact ⟨_, rfl, by rw [← HK.out]; exact HV.out, hG2⟩

set_option maxHeartbeats 1000000 in
theorem workedOf_ok (base : Nat) (v : Value) (l : List Int) (a z least : Int) (w : World) (hl : IntsFrom base w v l) (hE : timesE l a z = 0) (hm0 : 1 ≤ least) (hm1 : least ≤ 1000000000) :
    Calls Try.prog 17 #[v, .agg #[.int .i64 a, .int .i64 z], .int .i64 least] w fun r w' => r = .returned (.int .i64 (z - a - sumW (offL l a z least))) ∧ w.grownBy w' none := by
  have O := timesE_ok hE
  have o1 := O.a0
  have o2 := O.ato
  have o3 := O.to_
  have o4 := O.len
  have hG := World.grownBy_alloc w (.cells #[.int .i64 a, .int .i64 z] 27) none
  have hx0 := Blk.new w 27 #[.int .i64 a, .int .i64 z]
  have HL1 := Lib.hid (hl.grown hG)
  have hln := offL_len l a z least
  have HM := Lib.hid (offL_mem l a z least hE hm0)
  have HMM : Hid (∀ x ∈ l, 0 ≤ x ∧ x ≤ 345686400000) := fun x hx => by have := O.mem x hx; omega
  have hsb := sumW_bd (offL l a z least) (fun p hp => by have := HM.out p hp; omega) (offL l a z least).length (Nat.le_refl _)
  rw [List.take_length] at hsb
  obtain ⟨S, hSd⟩ : ∃ S, sumW (offL l a z least) = S := ⟨_, rfl⟩
  rw [hSd] at hsb ⊢
  have HSd := Lib.hid hSd
  have e1 : IntKind.i64.wrap (z - a) = z - a := IntWalk.i64_in _ ⟨by omega, by omega⟩
  have e2 : IntKind.i64.wrap (z - a - S) = z - a - S := IntWalk.i64_in _ ⟨by omega, by omega⟩
  clear hl hE O hSd
  go_enter Try.func17, Try.ntmps17
  go_wp2_with fail
  generalize w.alloc (.cells #[.int .i64 a, .int .i64 z] 27) = w1 at *
  have KX : Hid (∀ W' : World, w1.grownBy W' none → W'.cell? ⟨w.heap.size, 0, none⟩ = some (.int .i64 a) ∧ W'.cell? ⟨w.heap.size, 1, none⟩ = some (.int .i64 z) ∧ w1.grownBy W' none) :=
    fun W' hW => ⟨(hx0.grown hW (by simp)).cell 0, (hx0.grown hW (by simp)).cell 1, hW⟩
  go_region_held3 (fun W' => W'.cell? ⟨w.heap.size, 0, none⟩ = some (.int .i64 a) ∧ W'.cell? ⟨w.heap.size, 1, none⟩ = some (.int .i64 z) ∧ w1.grownBy W' none)
    ((exact KX.out _ (by repeat (first | exact gr_refl _ _ | assumption | refine gr_drew ?_ | refine gr_alloc ?_ _ | refine gr_trans ?_ (by assumption)))))
    (first | (go_at_call 16; refine (offOf_ok base _ _ _ _ _ _ (HL1.out.grown (by repeat (first | exact gr_refl _ _ | assumption | refine gr_alloc ?_ _ | refine gr_drewN ?_ _ | refine gr_drew ?_))) (by omega) (by omega) (by omega) (by omega) HMM.out o4).mono ?_; rintro _ w2 ⟨u, rfl, hu, hg2⟩; have HU := Lib.hid hu; clear hu) | (go_at_call 41; refine (rested_any _ _ _ HU.out (by omega) HM.out).mono ?_; rintro _ w3 ⟨rfl, hg3⟩; rw [HSd.out]) | fail)
  go_wp2_with fail
  go_ret
  exact ⟨rfl, gr_trans hG (by repeat (first | exact gr_refl _ _ | assumption | refine gr_drew ?_ | refine gr_alloc ?_ _ | refine gr_trans ?_ (by assumption)))⟩
end Go.Proofs.Ytlbhphfmckhimaa
