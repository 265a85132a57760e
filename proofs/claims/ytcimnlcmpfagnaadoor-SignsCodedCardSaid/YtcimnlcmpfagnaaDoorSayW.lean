/- The walk over the stream's Saying: a short string of ASCII. Condition: the stream has handed out at most 10^8 numbers. -/
import Derived.Test.YtcimnlcmpfagnaaDoorSaying
namespace Go.Proofs.YtcimnlcmpfagnaaDoor
open Go.RowKit
set_option linter.unusedVariables false
set_option linter.unusedSimpArgs false

theorem join_short {l : List ByteArray} (h : ∀ t ∈ l, t.size ≤ 5 ∧ Ascii t) (hn : l.length ≤ 4) : (joinB ⟨#[32]⟩ l).size ≤ 24 ∧ Ascii (joinB ⟨#[32]⟩ l) := by
  have h1 := isp_len_le [32] 5 (l.map (·.data.toList)) (fun p hp => by
    obtain ⟨t, ht, rfl⟩ := List.mem_map.1 hp
    have := (h t ht).1
    simpa using this)
  refine ⟨?_, ?_⟩
  · unfold joinB
    rw [strB_size]
    simp only [List.length_map, List.length_cons, List.length_nil] at h1
    show (isp [32] _).length ≤ 24
    omega
  · refine Ascii.of_mem (isp_all (P := fun c => c.toNat < 128) ?_ ?_)
    · intro c hc
      simp at hc
      subst hc; decide
    · intro p hp c hc
      obtain ⟨t, ht, rfl⟩ := List.mem_map.1 hp
      exact (h t ht).2.mem_ c hc
set_option maxRecDepth 100000 in
set_option maxHeartbeats 4000000 in
theorem saying_in (b k : Nat) (w : World) (hs : Str w b k) (hk : k ≤ 100000000) :
    Calls Tryd.prog 23 #[.pointer (some ⟨b, 0, none⟩)] w (SayPost b k w) := by
  obtain ⟨i0, hi, hz0, hz1, hz2⟩ := info_parts strInfo
  have hbs := hs.lt
  go_enter Tryd.func23, Tryd.ntmps23
  go_wp2_with fail
  refine (range_in b k 1 4 _ hs (by omega) (by decide) (by decide) (by decide)).mono ?_
  rintro _ w1 ⟨n', hn0, hn1, rfl, hs1, hg1⟩
  obtain ⟨n, rfl⟩ := Int.eq_ofNat_of_zero_le (show 0 ≤ n' by omega)
  go_wp2_with fail
  go_loopw [3, 8] (fun o i wr => ∃ (j : Nat) (l : List ByteArray), j ≤ n ∧ i = .int .i64 j ∧ l.length = j ∧ (∀ t ∈ l, t.size ≤ 5 ∧ Ascii t) ∧ StrsFrom w1.heap.size wr o l ∧ Str wr b (k + 1 + 10 * j) ∧ w1.grownBy wr (some b)) (fun _ i _ => n - (intOf i).toNat)
  case atStart => exact ⟨0, [], by omega, rfl, rfl, by simp, StrsFrom.nil _ _, hs1.mono (by omega), gr_refl _ _⟩
  case round =>
    obtain ⟨j, l, hj, rfl, hll, hall, hown, hsr, hgr⟩ := hrel
    rename World => wo
    obtain ⟨A2, c2, rfl, hlen2, hsh2⟩ := hown.shape
    have HALL := Lib.hid hall
    have HLL := Lib.hid hll
    have hl10 : l.length ≤ 4 := by omega
    have hw1 := hg1.size
    have hszr := hgr.size
    clear hsh2 hall hll
    by_cases hlt : j < n
    · have hjn : (j : Int) < (n : Int) := by omega
      go_wp2_with fail
      refine (range_in b _ 1 5 _ hsr (by omega) (by decide) (by decide) (by decide)).mono ?_
      rintro _ w2 ⟨m', hm0, hm1, rfl, hs2, hg2⟩
      obtain ⟨m, rfl⟩ := Int.eq_ofNat_of_zero_le (show 0 ≤ m' by omega)
      have hown2 := Lib.hid (StrsFrom.other hown hg2 (by omega))
      have hG2 := gr_trans hgr hg2
      clear hown hgr hsr hg2
      go_wp2_with fail
      go_loopw [4, 12] (fun t i wr => ∃ (q : Nat) (u : ByteArray), q ≤ m ∧ i = .int .i64 q ∧ t = .string u ∧ u.size ≤ q ∧ Hid (Ascii u) ∧ Str wr b (k + 1 + 10 * j + 1 + q) ∧ w2.grownBy wr (some b)) (fun _ i _ => m - (intOf i).toNat)
      case atStart => exact ⟨0, ⟨#[]⟩, by omega, rfl, rfl, by decide, Ascii.of_mem (by simp), hs2.mono (by omega), gr_refl _ _⟩
      case round =>
        obtain ⟨q, u, hq, rfl, rfl, huq, hua, hsi, hgi⟩ := hrel
        by_cases hlq : q < m
        · have hqm : (q : Int) < (m : Int) := by omega
          go_wp2_with fail
          refine (some_at b _ _ 14 14 say14 _ hsi (by first | rfl | simp) (by omega) rfl (by decide) (by decide)).mono ?_
          rintro _ w3 ⟨s, h14, rfl, hs3, hg3⟩
          obtain ⟨hs14, ha14⟩ := say14_ok s h14
          have hua3 := Lib.hid (Ascii.app hua.out (Ascii.of_mem ha14))
          have husz : (u ++ s).size ≤ q + 1 := by rw [ByteArray.size_append]; omega
          clear h14 ha14
          go_wp2_with fail
          go_roundw
          case rel => exact ⟨q + 1, u ++ s, by omega, by go_num, rfl, husz, hua3, hs3.mono (by omega), gr_trans hgi hg3⟩
          case measure => simp [intOf]; omega
        · have hqm : ¬ (q : Int) < (m : Int) := by omega
          have hownA : wr.ownsRow w1.heap.size 9 1 (.slice A2 l.length c2) l.length (l.map Value.string) := StrsFrom.other hown2.out hgi (by omega)
          have hG4 := gr_trans hG2 hgi
          have hsz4 := hG4.size
          have hrow : ∀ g, (Value.slice A2 l.length c2).ownBlock = some g → w1.heap.size ≤ g := fun g e => (hownA.lt g e).1
          have HROW := Lib.hid hrow
          clear hG2 hgi hrow hown2
          go_wp2_with (at_builtin; refine wpList_append_own _ rfl _ _ 102 rfl w1.heap.size 9 i0 _ 1 16 Tryd.underlying102 hi hz0 hz1 hz2 rfl (by decide) _ _ _ rfl (hownA.alloc _) ⟨wr.heap.size, 0, none⟩ 1 1 [.string u] rfl rfl (cells_new _ _ _) (str_one _) (by unfold maxLen; omega) (by omega) (by simp; omega) ?_; intro v' w5 hownB hgrB _)
          have hG5 : w1.grownBy w5 (some b) := gr_grown (gr_alloc hG4 _) hgrB (fun g e => .inr (HROW.out g e))
          have hs5 : Str w5 b _ := (hsi.alloc _).grown hgrB (fun g e => by have := HROW.out g e; omega)
          have hown5 : StrsFrom w1.heap.size w5 v' (l ++ [u]) := by
            unfold StrsFrom
            rw [List.map_append, List.length_append]
            exact hownB
          have hall5 : Hid (∀ t ∈ l ++ [u], t.size ≤ 5 ∧ Ascii t) := fun t ht => by
            rcases List.mem_append.1 ht with h | h
            · exact HALL.out t h
            · rw [List.mem_singleton.1 h]; exact ⟨by omega, hua.out⟩
          clear hownA hsi hgrB hownB
          go_wp2_with fail
          go_roundw
          case rel => exact ⟨j + 1, l ++ [u], by omega, by go_num, by have := HLL.out; simp; omega, hall5.out, hown5, hs5.mono (by omega), hG5⟩
          case measure => simp [intOf]; omega
    · have hjn : ¬ (j : Int) < (n : Int) := by omega
      have hG := gr_trans hg1 hgr
      obtain ⟨hjs, hja⟩ := join_short HALL.out hl10
      have HJ := Lib.hid (join_any w1.heap.size _ l ⟨#[32]⟩ wo hown (by have h := hjs; unfold joinB at h; rw [strB_size] at h; omega) (by omega))
      have HJA := Lib.hid hja
      clear hown hgr hja
      generalize joinB ⟨#[32]⟩ l = t at *
      go_wp2_with fail
      refine HJ.out.mono ?_
      rintro _ w2 ⟨rfl, hg2⟩
      have hs2 := hsr.grown hg2 (by simp)
      have hG2 := gr_trans hG (gr_weak hg2 (some b))
      clear hsr hG hg2
      go_wp2_with fail
      refine (flip_in b _ _ _ hs2 (by omega) (by omega) (by omega)).mono ?_
      rintro _ w3 ⟨fl, rfl, hs3, hg3⟩
      have hG3 := gr_trans hG2 hg3
      clear hs2 hG2 hg3
      cases fl
      · go_wp2_with fail
        go_ret
        exact ⟨_, rfl, by omega, HJA.out, hs3.mono (by omega), hG3⟩
      · go_wp2_with fail
        refine (changed_in b _ _ _ _ hs3 (by omega) (by omega) (by decide) HJA.out (Ascii.of_mem (by decide))).mono ?_
        rintro _ w4 ⟨u, rfl, hu, hua, hs4, hg4⟩
        have hus : u.size ≤ 29 := Nat.le_trans hu (by show t.size + 5 ≤ 29; omega)
        go_wp2_with fail
        go_ret
        exact ⟨_, rfl, by omega, hua, hs4.mono (by omega), gr_trans hG3 hg4⟩
end Go.Proofs.YtcimnlcmpfagnaaDoor
