/- The walks over the stream's LocatorText and LocatorList: short strings of ASCII. Condition: the stream has handed out at most 10^9 numbers. -/
import Derived.Test.YtbaocnbppefciaaGreatLocFor
import Derived.Test.YtbaocnbppefciaaGreatChanged
import Derived.Test.YtbaocnbppefciaaGreatRightSite
import Derived.Test.YtbaocnbppefciaaGreatKeyB
namespace Go.Proofs.YtbaocnbppefciaaGreat
open Go.RowKit
set_option linter.unusedVariables false
set_option linter.unusedSimpArgs false

theorem pick246 {z : Int} {l : List Int} (h : z ∈ l) (hl : ∀ y ∈ l, y = 2 ∨ y = 4 ∨ y = 6) : ∃ m : Nat, 0 < m ∧ m ≤ 3 ∧ z = ((2 * m : Nat) : Int) := by
  rcases hl z h with rfl | rfl | rfl
  · exact ⟨1, by decide, by decide, rfl⟩
  · exact ⟨2, by decide, by decide, rfl⟩
  · exact ⟨3, by decide, by decide, rfl⟩
theorem locL_ascii {n e : Int} (h : siteE n e = 0) {m : Nat} (hm0 : 0 < m) (hm : m ≤ 3) : Ascii (strOfNums (locL n e m)) ∧ (strOfNums (locL n e m)).size ≤ 6 := by
  have hs := locS_of n e m h hm0 hm
  refine ⟨?_, by have := hs.size; omega⟩
  intro j c hc
  have hj : j < (strOfNums (locL n e m)).data.toList.length := by
    rcases Nat.lt_or_ge j (strOfNums (locL n e m)).data.toList.length with h | h
    · exact h
    · rw [List.getElem?_eq_none h] at hc; cases hc
  have hj' : j < (strOfNums (locL n e m)).size := by simpa using hj
  have h1 := hs.dig j hj'
  obtain ⟨h2, h3, h4⟩ := hs.each j hj'
  have h5 := lv_bd (j / 2) h2
  rw [List.getElem?_eq_getElem hj] at hc
  injection hc with hc
  have h6 : (strOfNums (locL n e m))[j] = c := by rw [← hc]; rfl
  rw [h6] at h1
  omega
def LocTextPost (b k : Nat) (w : World) (e : Ending) (w' : World) : Prop :=
  ∃ u : ByteArray, e = .returned (.string u) ∧ u.size ≤ 13 ∧ Ascii u ∧ Str w' b (k + 100) ∧ w.grownBy w' (some b)

set_option maxRecDepth 100000 in
set_option maxHeartbeats 4000000 in
theorem locatorText_in (b k : Nat) (w : World) (hs : Str w b k) (hk : k ≤ 100000000) :
    Calls Tryz.prog 5 #[.pointer (some ⟨b, 0, none⟩)] w (LocTextPost b k w) := by
  go_enter Tryz.func5, Tryz.ntmps5
  go_wp2_with fail
  refine (rightSite_in b k _ hs (by omega)).mono ?_
  rintro _ w1 ⟨n, e, rfl, hE, hs1, hg1⟩
  go_wp2_with fail
  refine (pick_at b _ _ 5 5 [2, 4, 4, 6, 6] _ hs1 (by first | rfl | simp) (by omega) rfl (by decide) (by decide)).mono ?_
  rintro _ w2 ⟨z, hz, rfl, hs2, hg2⟩
  obtain ⟨m, hm0, hm, rfl⟩ := pick246 hz (by decide)
  have hG2 := gr_trans hg1 hg2
  obtain ⟨a0, a1, b0, b1⟩ := siteE_rng hE
  have HLF := Lib.hid (fun W => locatorFor_any n e m W hm0 hm a0 a1 b0 b1)
  obtain ⟨hta, htn⟩ := locL_ascii hE hm0 hm
  generalize strOfNums (locL n e m) = t at *
  have HTA := Lib.hid hta
  clear hta hz hg1 hg2 hs1 hE a0 a1 b0 b1
  go_wp2_with fail
  refine (HLF.out _).mono ?_
  rintro _ w3 ⟨rfl, hg3⟩
  have hs3 := hs2.grown hg3 (by simp)
  have hG3 := gr_trans hG2 (gr_weak hg3 (some b))
  clear hg3 hs2
  go_wp2_with fail
  refine (flip_in b _ _ _ hs3 (by omega) (by omega) (by omega)).mono ?_
  rintro _ w4 ⟨fl, rfl, hs4, hg4⟩
  have hG4 := gr_trans hG3 hg4
  cases fl
  · go_wp2_with fail
    go_ret
    exact ⟨t, rfl, by omega, HTA.out, hs4.mono (by omega), hG4⟩
  · go_wp2_with fail
    refine (changed_in b _ t ⟨#[97, 114, 115, 120, 48, 57, 121]⟩ _ hs4 (by omega) (by omega) (by decide) HTA.out (Ascii.of_mem (by decide))).mono ?_
    rintro _ w5 ⟨u, rfl, hu, hua, hs5, hg5⟩
    have hu2 : u.size ≤ 13 := by
      have : (⟨#[97, 114, 115, 120, 48, 57, 121]⟩ : ByteArray).size = 7 := rfl
      omega
    have HUA := Lib.hid hua
    clear hua hu
    go_wp2_with fail
    go_ret
    exact ⟨u, rfl, hu2, HUA.out, hs5.mono (by omega), gr_trans hG4 hg5⟩

def LocListPost (b k : Nat) (w : World) (e : Ending) (w' : World) : Prop :=
  ∃ (v : Value) (l : List ByteArray), e = .returned v ∧ StrsFrom w.heap.size w' v l ∧ l.length ≤ 20 ∧ (∀ t ∈ l, t.size ≤ 13 ∧ Ascii t) ∧ Str w' b (k + 3000) ∧ w.grownBy w' (some b)
set_option maxRecDepth 100000 in
set_option maxHeartbeats 8000000 in
theorem locatorList_in (b k : Nat) (many : Int) (w : World) (hs : Str w b k) (hk : k ≤ 10000000) (h0 : 0 ≤ many) (h1 : many ≤ 10) :
    Calls Tryz.prog 7 #[.pointer (some ⟨b, 0, none⟩), .int .i64 many] w (LocListPost b k w) := by
  obtain ⟨i0, hi, hz0, hz1, hz2⟩ := info_parts strInfo
  have hbs := hs.lt
  go_enter Tryz.func7, Tryz.ntmps7
  go_wp2_with fail
  refine (range_in b k 0 many _ hs (by omega) (by decide) h0 (by omega)).mono ?_
  rintro _ w1 ⟨n', hn0, hn1, rfl, hs1, hg1⟩
  obtain ⟨n, rfl⟩ := Int.eq_ofNat_of_zero_le hn0
  go_wp2_with fail
  go_loopw [5, 9] (fun o i wr => ∃ (j : Nat) (l : List ByteArray), j ≤ n ∧ i = .int .i64 j ∧ l.length = j ∧ (∀ t ∈ l, t.size ≤ 13 ∧ Ascii t) ∧ StrsFrom w1.heap.size wr o l ∧ Str wr b (k + 1 + 100 * j) ∧ w1.grownBy wr (some b)) (fun _ i _ => n - (intOf i).toNat)
  case atStart => exact ⟨0, [], by omega, rfl, rfl, by simp, StrsFrom.nil _ _, hs1.mono (by omega), gr_refl _ _⟩
  case round =>
    obtain ⟨j, l, hj, rfl, hll, hall, hown, hsr, hgr⟩ := hrel
    obtain ⟨A2, c2, rfl, hlen2, hsh2⟩ := hown.shape
    have HALL := Lib.hid hall
    have HLL := Lib.hid hll
    have hl10 : l.length ≤ 10 := by omega
    have hw1 := hg1.size
    have hszr := hgr.size
    clear hsh2 hall hll
    by_cases hlt : j < n
    · have hjn : (j : Int) < (n : Int) := by omega
      go_wp2_with fail
      refine (rightSite_in b _ _ hsr (by omega)).mono ?_
      rintro _ w2 ⟨p, e, rfl, hE, hs2, hg2⟩
      have hown2 := StrsFrom.other hown hg2 (by omega)
      have hG2 := gr_trans hgr hg2
      clear hown hgr hsr hg2
      go_wp2_with fail
      refine (pick_at b _ _ 6 6 [4, 4, 6, 6, 6, 2] _ hs2 (by first | rfl | simp) (by omega) rfl (by decide) (by decide)).mono ?_
      rintro _ w3 ⟨z, hz, rfl, hs3, hg3⟩
      obtain ⟨m, hm0, hm, rfl⟩ := pick246 hz (by decide)
      have hown3 := StrsFrom.other hown2 hg3 (by omega)
      have hG3 := gr_trans hG2 hg3
      obtain ⟨a0, a1, b0, b1⟩ := siteE_rng hE
      have HLF := Lib.hid (fun W => locatorFor_any p e m W hm0 hm a0 a1 b0 b1)
      obtain ⟨hta, htn⟩ := locL_ascii hE hm0 hm
      generalize strOfNums (locL p e m) = t at *
      have HTA := Lib.hid hta
      clear hown2 hG2 hs2 hta hz hg3 hE a0 a1 b0 b1
      go_wp2_with fail
      refine (HLF.out _).mono ?_
      rintro _ w4 ⟨rfl, hg4⟩
      have hs4 := hs3.grown hg4 (by simp)
      have hG4 := gr_trans hG3 (gr_weak hg4 (some b))
      have hownA : w4.ownsRow w1.heap.size 9 1 (.slice A2 l.length c2) l.length (l.map Value.string) := hown3.grown hg4
      have hsz4 := hG4.size
      have hrow : ∀ g, (Value.slice A2 l.length c2).ownBlock = some g → w1.heap.size ≤ g := fun g e => (hownA.lt g e).1
      have HROW := Lib.hid hrow
      clear hown3 hG3 hs3 hg4 hrow
      go_wp2_with (at_builtin; refine wpList_append_own _ rfl _ _ 31 rfl w1.heap.size 9 i0 _ 1 16 Tryz.underlying31 hi hz0 hz1 hz2 rfl (by decide) _ _ _ rfl (hownA.alloc _) ⟨w4.heap.size, 0, none⟩ 1 1 [.string t] rfl rfl (cells_new _ _ _) (str_one _) (by unfold maxLen; omega) (by omega) (by simp; omega) ?_; intro v' w5 hownB hgrB _)
      have hG5 : w1.grownBy w5 (some b) := gr_grown (gr_alloc hG4 _) hgrB (fun g e => .inr (HROW.out g e))
      have hs5 : Str w5 b _ := (hs4.alloc _).grown hgrB (fun g e => by have := HROW.out g e; omega)
      have hown5 : StrsFrom w1.heap.size w5 v' (l ++ [t]) := by
        unfold StrsFrom
        rw [List.map_append, List.length_append]
        exact hownB
      have hall5 : Hid (∀ q ∈ l ++ [t], q.size ≤ 13 ∧ Ascii q) := fun q hq => by
        rcases List.mem_append.1 hq with h | h
        · exact HALL.out q h
        · rw [List.mem_singleton.1 h]; exact ⟨by omega, HTA.out⟩
      clear hownA hs4 hgrB hownB
      go_wp2_with fail
      go_roundw
      case rel => exact ⟨j + 1, l ++ [t], by omega, by go_num, by have := HLL.out; simp; omega, hall5.out, hown5, hs5.mono (by omega), hG5⟩
      case measure => simp [intOf]; omega
    · have hjn : ¬ (j : Int) < (n : Int) := by omega
      have hG := gr_trans hg1 hgr
      go_wp2_with fail
      refine (flip_in b _ _ _ hsr (by omega) (by omega) (by omega)).mono ?_
      rintro _ w3 ⟨fl, rfl, hs3, hg3⟩
      have hown3 := StrsFrom.other hown hg3 (by omega)
      have hG3 := gr_trans hG hg3
      have hsz3 := hG3.size
      clear hown hgr hsr
      cases fl
      · go_wp2_with fail
        go_ret
        exact ⟨_, l, rfl, hown3.low (by omega), by omega, HALL.out, hs3.mono (by omega), hG3⟩
      · go_wp2_with fail
        refine (locatorText_in b _ _ hs3 (by omega)).mono ?_
        rintro _ w4 ⟨t, rfl, ht, hta, hs4, hg4⟩
        have HTA := Lib.hid hta
        have hownA : w4.ownsRow w1.heap.size 9 1 (.slice A2 l.length c2) l.length (l.map Value.string) := StrsFrom.other hown3 hg4 (by omega)
        have hG4 := gr_trans hG3 hg4
        have hsz4 := hg4.size
        have hsz3' := hg3.size
        have HROW : Hid (∀ g, (Value.slice A2 l.length c2).ownBlock = some g → w1.heap.size ≤ g) := fun g e => (hownA.lt g e).1
        clear hown3 hG3 hs3 hta
        go_wp2_with (at_builtin; refine wpList_append_own _ rfl _ _ 31 rfl w1.heap.size 9 i0 _ 1 16 Tryz.underlying31 hi hz0 hz1 hz2 rfl (by decide) _ _ _ rfl (hownA.alloc _) ⟨w4.heap.size, 0, none⟩ 1 1 [.string t] rfl rfl (cells_new _ _ _) (str_one _) (by unfold maxLen; omega) (by omega) (by simp; omega) ?_; intro v' w5 hownB hgrB _)
        have hG5 : w.grownBy w5 (some b) := gr_grown (gr_alloc hG4 _) hgrB (fun g e => .inr (by have := HROW.out g e; omega))
        have hs5 : Str w5 b _ := (hs4.alloc _).grown hgrB (fun g e => by have := HROW.out g e; omega)
        have hown5 : StrsFrom w1.heap.size w5 v' (l ++ [t]) := by
          unfold StrsFrom
          rw [List.map_append, List.length_append]
          exact hownB
        have hall5 : Hid (∀ q ∈ l ++ [t], q.size ≤ 13 ∧ Ascii q) := fun q hq => by
          rcases List.mem_append.1 hq with h | h
          · exact HALL.out q h
          · rw [List.mem_singleton.1 h]; exact ⟨ht, HTA.out⟩
        clear hownA hs4 hgrB hownB
        go_wp2_with fail
        go_ret
        exact ⟨_, l ++ [t], rfl, hown5.low (by omega), by simp; omega, hall5.out, hs5.mono (by omega), hG5⟩
end Go.Proofs.YtbaocnbppefciaaGreat
