/- The stream's LocatorText and LocatorList, told exactly. Condition: the stream has handed out at most 10^7 numbers. -/
import Derived.Test.YtnapbnkbchaanaaGreatDoorSiteX
import Derived.Test.YtnapbnkbchaanaaGreatDoorChangedX
import Derived.Test.YtnapbnkbchaanaaGreatDoorLocText
namespace Go.Proofs.YtnapbnkbchaanaaGreatDoor
open Go.RowKit
set_option linter.unusedVariables false
set_option linter.unusedSimpArgs false

def locAt (s : Int × Int × Nat) (z : Int) : ByteArray := strOfNums (locL s.1 s.2.1 (z.toNat / 2))
theorem locAt_of {n e : Int} {k1 m : Nat} {t : ByteArray} (h : strOfNums (locL n e m) = t) : locAt (n, e, k1) ((2 * m : Nat) : Int) = t := by
  unfold locAt
  rw [Int.toNat_natCast, show 2 * m / 2 = m by omega]
  exact h
def locTextF (L : List Int) (k : Nat) : ByteArray × Nat :=
  let s := rightSiteF L 6 k
  let t := locAt s (pickV L s.2.2 [2, 4, 4, 6, 6])
  if decide (nextV L (s.2.2 + 1) 12 = 0) then changedF L (s.2.2 + 1 + 1) t ⟨#[97, 114, 115, 120, 48, 57, 121]⟩ else (t, s.2.2 + 1 + 1)
section
variable {L : List Int} {k k1 m : Nat} {n e : Int} {t : ByteArray} (hS : rightSiteF L 6 k = (n, e, k1)) (hZ : pickV L k1 [2, 4, 4, 6, 6] = ((2 * m : Nat) : Int)) (hT : strOfNums (locL n e m) = t)
include hS hZ hT
theorem locTextF_no (hF : decide (nextV L (k1 + 1) 12 = 0) = false) : locTextF L k = (t, k1 + 1 + 1) := by
  unfold locTextF
  simp only [hS, hZ, locAt_of hT, hF]
  rfl
theorem locTextF_yes {u : ByteArray} {k5 : Nat} (hF : decide (nextV L (k1 + 1) 12 = 0) = true) (hC : changedF L (k1 + 1 + 1) t ⟨#[97, 114, 115, 120, 48, 57, 121]⟩ = (u, k5)) : locTextF L k = (u, k5) := by
  unfold locTextF
  simp only [hS, hZ, locAt_of hT, hF, if_true]
  exact hC
end
def LocTextXPost (base b : Nat) (L : List Int) (k : Nat) (w : World) (e : Ending) (w' : World) : Prop :=
  ∃ (u : ByteArray) (k' : Nat), Hid (locTextF L k = (u, k')) ∧ e = .returned (.string u) ∧ u.size ≤ 13 ∧ Ascii u ∧ k ≤ k' ∧ k' ≤ k + 100 ∧ SX base w' b L k' ∧ w.grownBy w' (some b)
/-- The locators after so many rounds, and how many numbers were handed out. -/
def locLoop (L : List Int) (k : Nat) : Nat → List ByteArray × Nat
  | 0 => ([], k)
  | j + 1 => ((locLoop L k j).1 ++ [locAt (rightSiteF L 6 (locLoop L k j).2) (pickV L (rightSiteF L 6 (locLoop L k j).2).2.2 [4, 4, 6, 6, 6, 2])], (rightSiteF L 6 (locLoop L k j).2).2.2 + 1)
theorem locLoop_succ {L : List Int} {k j q k1 m : Nat} {l : List ByteArray} {n e : Int} {t : ByteArray} (hQ : locLoop L k j = (l, q)) (hS : rightSiteF L 6 q = (n, e, k1)) (hZ : pickV L k1 [4, 4, 6, 6, 6, 2] = ((2 * m : Nat) : Int)) (hT : strOfNums (locL n e m) = t) :
    locLoop L k (j + 1) = (l ++ [t], k1 + 1) := by
  unfold locLoop
  simp only [hQ, hS, hZ, locAt_of hT]
def locListF (L : List Int) (k : Nat) (many : Int) : List ByteArray × Nat :=
  let p := locLoop L (k + 1) (rangeV L k 0 many).toNat
  if decide (nextV L p.2 20 = 0) then (p.1 ++ [(locTextF L (p.2 + 1)).1], (locTextF L (p.2 + 1)).2) else (p.1, p.2 + 1)
theorem locListF_no {L : List Int} {k j q : Nat} {many : Int} {l : List ByteArray} (hN : rangeV L k 0 many = (j : Int)) (hQ : locLoop L (k + 1) j = (l, q)) (hF : decide (nextV L q 20 = 0) = false) : locListF L k many = (l, q + 1) := by
  unfold locListF
  simp only [hN, Int.toNat_natCast, hQ, hF]
  rfl
theorem locListF_yes {L : List Int} {k j q k5 : Nat} {many : Int} {l : List ByteArray} {t : ByteArray} (hN : rangeV L k 0 many = (j : Int)) (hQ : locLoop L (k + 1) j = (l, q)) (hF : decide (nextV L q 20 = 0) = true) (hX : locTextF L (q + 1) = (t, k5)) :
    locListF L k many = (l ++ [t], k5) := by
  unfold locListF
  simp only [hN, Int.toNat_natCast, hQ, hF, if_true, hX]
def LocListXPost (base b : Nat) (L : List Int) (k : Nat) (many : Int) (w : World) (e : Ending) (w' : World) : Prop :=
  ∃ (v : Value) (l : List ByteArray) (k' : Nat), Hid (locListF L k many = (l, k')) ∧ e = .returned v ∧ StrsFrom w.heap.size w' v l ∧ l.length ≤ 20 ∧ (∀ t ∈ l, t.size ≤ 13 ∧ Ascii t) ∧ k ≤ k' ∧ k' ≤ k + 3000 ∧ SX base w' b L k' ∧ w.grownBy w' (some b)

set_option maxRecDepth 100000 in
set_option maxHeartbeats 4000000 in
theorem locatorText_e (base b : Nat) (L : List Int) (k : Nat) (w : World) (hs : SX base w b L k) (hk : k ≤ 100000000) :
    Calls Tryz.prog 88 #[.pointer (some ⟨b, 0, none⟩)] w (LocTextXPost base b L k w) := by
  have hbase := hs.base
  go_enter Tryz.func88, Tryz.ntmps88
  go_wp2_with fail
  refine (rightSite_e base b L k _ hs (by omega)).mono ?_
  rintro _ w1 ⟨n, e, k1, HS, rfl, hE, hk0, hk1, hs1, hg1⟩
  go_wp2_with fail
  refine (pick_eat base b L _ _ 5 5 [2, 4, 4, 6, 6] _ hs1 (by first | rfl | simp) (by omega) rfl (by decide) (by decide)).mono ?_
  rintro _ w2 ⟨z, hz, HZ, rfl, hs2, hg2⟩
  obtain ⟨m, hm0, hm, rfl⟩ := pick246 hz (by decide)
  have hG2 := gr_trans hg1 hg2
  obtain ⟨a0, a1, b0, b1⟩ := siteE_rng hE
  have HLF := Lib.hid (fun W => locatorFor_any n e m W hm0 hm a0 a1 b0 b1)
  obtain ⟨hta, htn⟩ := locL_ascii hE hm0 hm
  generalize hT : strOfNums (locL n e m) = t at *
  have HT := Lib.hid hT
  clear hT
  have HTA := Lib.hid hta
  clear hta hz hg1 hg2 hs1 hE a0 a1 b0 b1
  go_wp2_with fail
  refine (HLF.out _).mono ?_
  rintro _ w3 ⟨rfl, hg3⟩
  have hs3 := hs2.grown hg3 (by simp)
  have hG3 := gr_trans hG2 (gr_weak hg3 (some b))
  clear hg3 hs2
  go_wp2_with fail
  refine (flip_e base b L _ _ _ hs3 (by omega) (by omega) (by omega)).mono ?_
  rintro _ w4 ⟨fl, HF, rfl, hs4, hg4⟩
  have hG4 := gr_trans hG3 hg4
  cases fl
  · go_wp2_with fail
    go_ret
    exact ⟨t, _, locTextF_no HS.out HZ.out HT.out HF.out, rfl, by omega, HTA.out, by omega, by omega, hs4, hG4⟩
  · go_wp2_with fail
    refine (changed_e base b L _ t ⟨#[97, 114, 115, 120, 48, 57, 121]⟩ _ hs4 (by omega) (by omega) (by decide) HTA.out (Ascii.of_mem (by decide))).mono ?_
    rintro _ w5 ⟨u, k5, HC, rfl, hu, hua, hk2, hk3, hs5, hg5⟩
    have hu2 : u.size ≤ 13 := by
      have : (⟨#[97, 114, 115, 120, 48, 57, 121]⟩ : ByteArray).size = 7 := rfl
      omega
    have HUA := Lib.hid hua
    clear hua hu
    go_wp2_with fail
    go_ret
    exact ⟨u, k5, locTextF_yes HS.out HZ.out HT.out HF.out HC.out, rfl, hu2, HUA.out, by omega, by omega, hs5, gr_trans hG4 hg5⟩


set_option maxRecDepth 100000 in
set_option maxHeartbeats 8000000 in
theorem locatorList_e (base b : Nat) (L : List Int) (k : Nat) (many : Int) (w : World) (hs : SX base w b L k) (hk : k ≤ 10000000) (h0 : 0 ≤ many) (h1 : many ≤ 10) :
    Calls Tryz.prog 37 #[.pointer (some ⟨b, 0, none⟩), .int .i64 many] w (LocListXPost base b L k many w) := by
  have hbase := hs.base
  obtain ⟨i0, hi, hz0, hz1, hz2⟩ := info_parts strInfo
  have hbs := hs.lt
  go_enter Tryz.func37, Tryz.ntmps37
  go_wp2_with fail
  refine (range_e base b L k 0 many _ hs (by omega) (by decide) h0 (by omega)).mono ?_
  rintro _ w1 ⟨n', hn0, hn1, HN, rfl, hs1, hg1⟩
  obtain ⟨n, rfl⟩ := Int.eq_ofNat_of_zero_le hn0
  go_wp2_with fail
  go_loopw [5, 9] (fun o i wr => ∃ (j : Nat) (l : List ByteArray), j ≤ n ∧ i = .int .i64 j ∧ l.length = j ∧ (∀ t ∈ l, t.size ≤ 13 ∧ Ascii t) ∧ StrsFrom w1.heap.size wr o l ∧ (∃ q, SX base wr b L q ∧ k + 1 ≤ q ∧ q ≤ k + 1 + 100 * j ∧ Hid (locLoop L (k + 1) j = (l, q))) ∧ w1.grownBy wr (some b)) (fun _ i _ => n - (intOf i).toNat)
  case atStart => exact ⟨0, [], by omega, rfl, rfl, by simp, StrsFrom.nil _ _, ⟨k + 1, hs1, by omega, by omega, rfl⟩, gr_refl _ _⟩
  case round =>
    obtain ⟨j, l, hj, rfl, hll, hall, hown, ⟨q, hsr, hq0, hq1, HQ⟩, hgr⟩ := hrel
    obtain ⟨A2, c2, rfl, hlen2, hsh2⟩ := hown.shape
    have HALL := Lib.hid hall
    have HLL := Lib.hid hll
    have hl10 : l.length ≤ 10 := by omega
    have hw1 := hg1.size
    have hszr := hgr.size
    clear hsh2 hall hll
    by_cases hlt : j < n
    · have hjn : (j : Int) < (n : Int) := by omega
      go_wp2_with fail
      refine (rightSite_e base b L _ _ hsr (by omega)).mono ?_
      rintro _ w2 ⟨p, e, k1, HS, rfl, hE, hk0, hk1, hs2, hg2⟩
      have hown2 := StrsFrom.other hown hg2 (by omega)
      have hG2 := gr_trans hgr hg2
      clear hown hgr hsr hg2
      go_wp2_with fail
      refine (pick_eat base b L _ _ 6 6 [4, 4, 6, 6, 6, 2] _ hs2 (by first | rfl | simp) (by omega) rfl (by decide) (by decide)).mono ?_
      rintro _ w3 ⟨z, hz, HZ, rfl, hs3, hg3⟩
      obtain ⟨m, hm0, hm, rfl⟩ := pick246 hz (by decide)
      have hown3 := StrsFrom.other hown2 hg3 (by omega)
      have hG3 := gr_trans hG2 hg3
      obtain ⟨a0, a1, b0, b1⟩ := siteE_rng hE
      have HLF := Lib.hid (fun W => locatorFor_any p e m W hm0 hm a0 a1 b0 b1)
      obtain ⟨hta, htn⟩ := locL_ascii hE hm0 hm
      generalize hT : strOfNums (locL p e m) = t at *
      have HT := Lib.hid hT
      clear hT
      have HQ2 : Hid (locLoop L (k + 1) (j + 1) = (l ++ [t], k1 + 1)) := locLoop_succ HQ.out HS.out HZ.out HT.out
      have HTA := Lib.hid hta
      clear hown2 hG2 hs2 hta hz hg3 hE a0 a1 b0 b1
      go_wp2_with fail
      refine (HLF.out _).mono ?_
      rintro _ w4 ⟨rfl, hg4⟩
      have hs4 := hs3.grown hg4 (by simp)
      have hG4 := gr_trans hG3 (gr_weak hg4 (some b))
      have hownA : w4.ownsRow w1.heap.size 9 1 (.slice A2 l.length c2) l.length (l.map Value.string) := hown3.grown hg4
      have hsz4 := hG4.size
      have hrow : ∀ g, (Value.slice A2 l.length c2).ownBlock = some g → w1.heap.size ≤ g := fun g e => (hownA.lt g e).1
      have HROW := Lib.hid hrow
      clear hown3 hG3 hs3 hg4 hrow
      go_wp2_with (at_builtin; refine wpList_append_own _ rfl _ _ 27 rfl w1.heap.size 9 i0 _ 1 16 Tryz.underlying27 hi hz0 hz1 hz2 rfl (by decide) _ _ _ rfl (hownA.alloc _) ⟨w4.heap.size, 0, none⟩ 1 1 [.string t] rfl rfl (cells_new _ _ _) (str_one _) (by unfold maxLen; omega) (by omega) (by simp; omega) ?_; intro v' w5 hownB hgrB _)
      have hG5 : w1.grownBy w5 (some b) := gr_grown (gr_alloc hG4 _) hgrB (fun g e => .inr (HROW.out g e))
      have hs5 : SX base w5 b L _ := (hs4.alloc _).grown hgrB (fun g e => by have := HROW.out g e; omega)
      have hown5 : StrsFrom w1.heap.size w5 v' (l ++ [t]) := by
        unfold StrsFrom
        rw [List.map_append, List.length_append]
        exact hownB
      have hall5 : Hid (∀ q ∈ l ++ [t], q.size ≤ 13 ∧ Ascii q) := fun q hq => by
        rcases List.mem_append.1 hq with h | h
        · exact HALL.out q h
        · rw [List.mem_singleton.1 h]; exact ⟨by omega, HTA.out⟩
      clear hownA hs4 hgrB hownB
      go_wp2_with fail
      go_roundw
      case rel => exact ⟨j + 1, l ++ [t], by omega, by go_num, by have := HLL.out; simp; omega, hall5.out, hown5, ⟨k1 + 1, hs5, by omega, by omega, HQ2⟩, hG5⟩
      case measure => simp [intOf]; omega
    · have hjn : ¬ (j : Int) < (n : Int) := by omega
      have HN2 : Hid (rangeV L k 0 many = (j : Int)) := by show _ = _; rw [show j = n by omega]; exact HN.out
      have hG := gr_trans hg1 hgr
      go_wp2_with fail
      refine (flip_e base b L _ _ _ hsr (by omega) (by omega) (by omega)).mono ?_
      rintro _ w3 ⟨fl, HF, rfl, hs3, hg3⟩
      have hown3 := StrsFrom.other hown hg3 (by omega)
      have hG3 := gr_trans hG hg3
      have hsz3 := hG3.size
      clear hown hgr hsr
      cases fl
      · go_wp2_with fail
        go_ret
        exact ⟨_, l, _, locListF_no HN2.out HQ.out HF.out, rfl, hown3.low (by omega), by omega, HALL.out, by omega, by omega, hs3, hG3⟩
      · go_wp2_with fail
        refine (locatorText_e base b L _ _ hs3 (by omega)).mono ?_
        rintro _ w4 ⟨t, k5, HX, rfl, ht, hta, hk2, hk3, hs4, hg4⟩
        have HTA := Lib.hid hta
        have hownA : w4.ownsRow w1.heap.size 9 1 (.slice A2 l.length c2) l.length (l.map Value.string) := StrsFrom.other hown3 hg4 (by omega)
        have hG4 := gr_trans hG3 hg4
        have hsz4 := hg4.size
        have hsz3' := hg3.size
        have HROW : Hid (∀ g, (Value.slice A2 l.length c2).ownBlock = some g → w1.heap.size ≤ g) := fun g e => (hownA.lt g e).1
        clear hown3 hG3 hs3 hta
        go_wp2_with (at_builtin; refine wpList_append_own _ rfl _ _ 27 rfl w1.heap.size 9 i0 _ 1 16 Tryz.underlying27 hi hz0 hz1 hz2 rfl (by decide) _ _ _ rfl (hownA.alloc _) ⟨w4.heap.size, 0, none⟩ 1 1 [.string t] rfl rfl (cells_new _ _ _) (str_one _) (by unfold maxLen; omega) (by omega) (by simp; omega) ?_; intro v' w5 hownB hgrB _)
        have hG5 : w.grownBy w5 (some b) := gr_grown (gr_alloc hG4 _) hgrB (fun g e => .inr (by have := HROW.out g e; omega))
        have hs5 : SX base w5 b L _ := (hs4.alloc _).grown hgrB (fun g e => by have := HROW.out g e; omega)
        have hown5 : StrsFrom w1.heap.size w5 v' (l ++ [t]) := by
          unfold StrsFrom
          rw [List.map_append, List.length_append]
          exact hownB
        have hall5 : Hid (∀ q ∈ l ++ [t], q.size ≤ 13 ∧ Ascii q) := fun q hq => by
          rcases List.mem_append.1 hq with h | h
          · exact HALL.out q h
          · rw [List.mem_singleton.1 h]; exact ⟨ht, HTA.out⟩
        clear hownA hs4 hgrB hownB
        go_wp2_with fail
        go_ret
        exact ⟨_, l ++ [t], k5, locListF_yes HN2.out HQ.out HF.out HX.out, rfl, hown5.low (by omega), by simp; omega, hall5.out, by omega, by omega, hs5, hG5⟩
end Go.Proofs.YtnapbnkbchaanaaGreatDoor
