/- The walk over the reference's TooLongOf. Condition: times and rests without error. -/
import Derived.Test.YtlbhphfmckhimaaOffRef
import Derived.Test.YtlbhphfmckhimaaTimes
import Derived.Test.YtlbhphfmckhimaaTooLong
namespace Go.Proofs.Ytlbhphfmckhimaa
open Go.RowKit
set_option linter.unusedVariables false

def tooM (o : Option Nat) : Int := match o with | none => -1 | some i => i
set_option maxRecDepth 100000 in
set_option maxHeartbeats 2000000 in
theorem tooLongOf_ok (base : Nat) (v : Value) (l : List Int) (a z need least : Int) (w : World) (hl : IntsFrom base w v l) (hE : timesE l a z = 0) (hm0 : 1 ≤ least) (hm1 : least ≤ 1000000000) :
    Calls Try.prog 19 #[v, .agg #[.int .i64 a, .int .i64 z], .agg #[.int .i64 need, .int .i64 least]] w fun r w' =>
      r = .returned (.int .i64 (tooM (tooI l a z need least))) ∧ w.grownBy w' none := by
  have O := timesE_ok hE
  have o1 := O.a0
  have o2 := O.ato
  have o3 := O.to_
  have o4 := O.len
  obtain ⟨A, ca, rfl, hla, hA⟩ := hl.shape
  have hcap := IntsFrom.cap hl
  have hG := gr_alloc (World.grownBy_alloc w (.cells #[.int .i64 a, .int .i64 z] 27) none) (.cells #[.int .i64 need, .int .i64 least] 32)
  have HL := Lib.hid (hl.grown hG)
  have hx0 := (Blk.new w 27 #[.int .i64 a, .int .i64 z]).alloc (.cells #[.int .i64 need, .int .i64 least] 32)
  have hy0 := Blk.new (w.alloc (.cells #[.int .i64 a, .int .i64 z] 27)) 32 #[.int .i64 need, .int .i64 least]
  rw [World.size_alloc] at hy0
  have HMM : Hid (∀ x ∈ l, 0 ≤ x ∧ x ≤ 345686400000) := fun x hx => by have := O.mem x hx; omega
  have HOM : Hid (∀ k, ∀ p ∈ offL (l.take k) a z least, 0 ≤ p.1 ∧ p.1 ≤ 345686400001 ∧ 0 ≤ p.2 ∧ p.2 ≤ 345686400001 ∧ -1 ≤ p.2 - p.1) := fun k p hp => by
    have h1 := List.mem_filter.1 hp
    have h2 := gapsL_mem 1 0 345686400001 (l.take k ++ [z]) a o1 (by omega) (fun x hx => by
      rcases List.mem_append.1 hx with h | h
      · have := O.mem x (List.mem_of_mem_take h); omega
      · simp at h; omega) (by omega) p h1.1
    have h3 : least ≤ p.2 - p.1 := by simpa [longB] using h1.2
    omega
  obtain ⟨o, ho⟩ : ∃ o, tooI l a z need least = o := ⟨_, rfl⟩
  have HO : Hid (o = tooFrom l a z need least 0 l.length) := ho.symm
  rw [ho]
  clear hl hE O ho
  go_enter Try.func19, Try.ntmps19
  go_wp2_with fail
  generalize (w.alloc (.cells #[.int .i64 a, .int .i64 z] 27)).alloc (.cells #[.int .i64 need, .int .i64 least] 32) = w1 at *
  go_loopw [10] (fun i wr => ∃ k : Nat, k ≤ l.length ∧ i = .int .i64 k ∧ Hid (o = tooFrom l a z need least k (l.length - k)) ∧ w1.grownBy wr none) (fun i _ => l.length - (intOf i).toNat)
  case atStart => exact ⟨0, by omega, rfl, HO.out, gr_refl _ _⟩
  case round =>
    obtain ⟨k, hk, rfl, HK, hgr⟩ := hrel
    have hx1 := hx0.grown hgr (by simp)
    have hy1 := hy0.grown hgr (by simp)
    by_cases hlt : k < l.length
    · have hkl : (k : Int) < (l.length : Int) := by omega
      have hkk : l.length - k = (l.length - (k + 1)) + 1 := by omega
      have hst : o = if tooB l a z need least k then some k else tooFrom l a z need least (k + 1) (l.length - (k + 1)) := by rw [HK.out, hkk]; rfl
      have HS := Lib.hid hst
      have hlk : (l.take (k + 1)).length = k + 1 := by rw [List.length_take]; omega
      have HT : Hid (∀ W' : World, wr.grownBy W' none → IntsFrom base W' (.slice A (k + 1) ca) (l.take (k + 1))) := fun W' hW => IntsFrom.take ((HL.out.grown hgr).grown hW) (k + 1) (by omega)
      have hol := offL_len (l.take (k + 1)) a z least
      obtain ⟨S, hS⟩ : ∃ S, sumW (offL (l.take (k + 1)) a z least) = S := ⟨_, rfl⟩
      have HSd := Lib.hid hS
      have HB : Hid (tooB l a z need least k = decide (S < need)) := by show _ = _; unfold tooB; rw [hS]
      have HMK : Hid (∀ x ∈ l.take (k + 1), 0 ≤ x ∧ x ≤ 345686400000) := fun x hx => HMM.out x (List.mem_of_mem_take hx)
      have e1 : IntKind.i64.wrap ((k : Int) + 1) = (k : Int) + 1 := IntWalk.i64_in _ ⟨by omega, by omega⟩
      have k0 : (0 : Int) ≤ (k : Int) + 1 := by omega
      have k1 : (k : Int) + 1 ≤ (ca : Int) := by omega
      have k2 : k + 1 ≤ ca := by omega
      have k3 : ((k : Int) + 1).toNat = k + 1 := by omega
      have KX : Hid (∀ W' : World, wr.grownBy W' none → W'.cell? ⟨w.heap.size, 0, none⟩ = some (.int .i64 a) ∧ W'.cell? ⟨w.heap.size, 1, none⟩ = some (.int .i64 z) ∧ W'.cell? ⟨w.heap.size + 1, 0, none⟩ = some (.int .i64 need) ∧ W'.cell? ⟨w.heap.size + 1, 1, none⟩ = some (.int .i64 least) ∧ wr.grownBy W' none) :=
        fun W' hW => ⟨(hx1.grown hW (by simp)).cell 0, (hx1.grown hW (by simp)).cell 1, (hy1.grown hW (by simp)).cell 0, (hy1.grown hW (by simp)).cell 1, hW⟩
      rw [hlk] at hol
      clear hkk hst hlk hS HK hA
      go_wp2_with fail
      go_region_held3 (fun W' => W'.cell? ⟨w.heap.size, 0, none⟩ = some (.int .i64 a) ∧ W'.cell? ⟨w.heap.size, 1, none⟩ = some (.int .i64 z) ∧ W'.cell? ⟨w.heap.size + 1, 0, none⟩ = some (.int .i64 need) ∧ W'.cell? ⟨w.heap.size + 1, 1, none⟩ = some (.int .i64 least) ∧ wr.grownBy W' none)
        ((exact KX.out _ (by repeat (first | exact gr_refl _ _ | assumption | refine gr_drew ?_ | refine gr_alloc ?_ _ | refine gr_trans ?_ (by assumption)))))
        (first | (go_at_call 16; refine (offOf_ok base _ _ _ _ _ _ (HT.out _ (by repeat (first | exact gr_refl _ _ | assumption | refine gr_alloc ?_ _ | refine gr_drewN ?_ _ | refine gr_drew ?_))) (by omega) (by omega) (by omega) (by omega) HMK.out (by rw [List.length_take]; omega)).mono ?_; rintro _ w2 ⟨u, rfl, hu, hg2⟩; have HU := Lib.hid hu; clear hu) | (go_at_call 41; refine (rested_any _ _ _ HU.out (by omega) (HOM.out (k + 1))).mono ?_; rintro _ w3 ⟨rfl, hg3⟩; rw [HSd.out]) | fail)
      have hgX : wr.grownBy w3 none := (by repeat (first | exact gr_refl _ _ | assumption | refine gr_drew ?_ | refine gr_alloc ?_ _ | refine gr_trans ?_ (by assumption)))
      go_wp2_with fail
      all_goals first
        | (go_roundw
           case rel => exact ⟨k + 1, by omega, by go_num, by show _ = _; rw [HS.out, HB.out]; exact if_neg (by simp; omega), gr_trans hgr hgX⟩
           case measure => simp [intOf]; omega)
        | (go_ret
           have ho : o = some k := by rw [HS.out, HB.out]; exact if_pos (by simp; omega)
           rw [ho]
           exact ⟨rfl, gr_trans (gr_trans hG hgr) hgX⟩)
    · have hkl : ¬ (k : Int) < (l.length : Int) := by omega
      have HN : Hid (o = none) := by show _ = _; rw [HK.out, show l.length - k = 0 by omega]; rfl
      go_wp2_with fail
      go_ret
      rw [HN.out]
      exact ⟨rfl, gr_trans hG hgr⟩
end Go.Proofs.Ytlbhphfmckhimaa
