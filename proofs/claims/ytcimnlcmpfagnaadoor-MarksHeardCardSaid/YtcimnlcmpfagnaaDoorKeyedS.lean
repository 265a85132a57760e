/- The walk over the stream's Keyed: at most 34 marks and gaps, from 0 to 100001. Condition: MaxLen holds a number; the stream has handed out at most 10^8 numbers. -/
import Derived.Test.YtcimnlcmpfagnaaDoorRightKeyed
import Derived.Test.YtcimnlcmpfagnaaDoorClosed
namespace Go.Proofs.YtcimnlcmpfagnaaDoor
open Go.RowKit
set_option linter.unusedVariables false
set_option linter.unusedSimpArgs false

def KeyedSPost (b k : Nat) (w : World) (e : Ending) (w' : World) : Prop :=
  ∃ (v : Value) (l : List Int), e = .returned v ∧ IntsFrom w.heap.size w' v l ∧ l.length ≤ 34 ∧ (∀ x ∈ l, 0 ≤ x ∧ x ≤ 100001) ∧ Str w' b (k + 90) ∧ w.grownBy w' (some b)
theorem set_in {l : List Int} {i : Nat} {v lo hi : Int} (h : ∀ x ∈ l, lo ≤ x ∧ x ≤ hi) (hv : lo ≤ v ∧ v ≤ hi) : ∀ x ∈ l.set i v, lo ≤ x ∧ x ≤ hi := fun x hx => by
  rcases List.mem_or_eq_of_mem_set hx with h1 | h1
  · exact h x h1
  · rw [h1]; exact hv
set_option maxRecDepth 100000 in
set_option maxHeartbeats 4000000 in
theorem keyedS_in (B b k : Nat) (w : World) (hs : Str w b k) (hk : k ≤ 100000000) (hgl : Gl B w) (hB : B ≤ b) :
    Calls Tryd.prog 7 #[.pointer (some ⟨b, 0, none⟩)] w (KeyedSPost b k w) := by
  obtain ⟨i0, hi, hz0, hz1, hz2⟩ := info_parts intInfo
  have hbs := hs.lt
  have HGL := Lib.hid hgl
  clear hgl
  go_enter Tryd.func7, Tryd.ntmps7
  go_wp2_with fail
  refine (rightKeyed_in B b k _ hs (by omega) HGL.out hB).mono ?_
  rintro _ w1 ⟨v, l, rfl, hv, ho, h33, hx, hs1, hg1⟩
  obtain ⟨A, c, rfl, hl9, hA⟩ := hv.shape
  obtain ⟨g, rfl, hg0, hgl1⟩ := hA (by omega)
  have hlb : ∀ x ∈ l, (0 : Int) ≤ x ∧ x ≤ 100001 := fun x h => by have := hx x h; omega
  obtain ⟨N, hN⟩ : ∃ N, l.length = N := ⟨_, rfl⟩
  have HN := Lib.hid hN
  have HV : Hid (IntsFrom w.heap.size w1 (.slice (some ⟨g, 0, none⟩) N c) l) := by rw [← hN]; exact hv
  rw [hN] at ho h33 hl9 ⊢
  have HLB := Lib.hid hlb
  clear hv hA hx hlb hs hN hgl1
  go_wp2_with fail
  refine (flip_in b _ 15 _ hs1 (by omega) (by omega) (by omega)).mono ?_
  rintro _ w2 ⟨f1, rfl, hs2, hg2⟩
  have hG2 := gr_trans hg1 hg2
  have HV2 := Lib.hid (IntsFrom.other HV.out hg2 (by omega))
  clear hs1 hg1 hg2 HV
  go_upto_if 7 with fail
  go_cut [3] (fun s wq => ∃ L, s = .slice (some ⟨g, 0, none⟩) N c ∧ Hid (L.length = N) ∧ Hid (∀ x ∈ L, (0 : Int) ≤ x ∧ x ≤ 100001) ∧ Hid (IntsFrom w.heap.size wq (.slice (some ⟨g, 0, none⟩) N c) L) ∧ Str wq b (k + 84) ∧ w.grownBy wq (some b))
  case first =>
    as_aux_lemma =>
      cases f1
      · go_wp2_with fail
        go_meet
        exact ⟨l, rfl, HN, HLB, HV2, hs2.mono (by omega), hG2⟩
      · go_wp2_with fail
        refine (next_in b _ (N : Int) _ hs2 (by omega) (by omega) (by omega)).mono ?_
        rintro _ w3 ⟨i, hi0, hi1, rfl, hs3, hg3⟩
        obtain ⟨q, rfl⟩ := Int.eq_ofNat_of_zero_le hi0
        have HV3 := Lib.hid (IntsFrom.other HV2.out hg3 (by omega))
        have hG3 := gr_trans hG2 hg3
        clear hs2 hG2 hg3 HV2
        go_wp2_with fail
        refine (pick_at b _ _ 4 4 [0, 5, 100000, 100001] _ hs3 (by first | rfl | simp) (by omega) rfl (by decide) (by decide)).mono ?_
        rintro _ w4 ⟨z, hz, rfl, hs4, hg4⟩
        have hzb : 0 ≤ z ∧ z ≤ 100001 := by simp at hz; omega
        have hV4 := IntsFrom.other HV3.out hg4 (by omega)
        have hG4 := gr_trans hG3 hg4
        have hat := IntsFrom.atN HN.out hV4 q (by rw [HN.out]; omega)
        have hfz := IntsFrom.frz HN.out hV4 q
        have hgs := World.block_lt_of_cell? w4 _ hat
        have hput := IntsFrom.putN (q := q) HN.out hV4 z
        have HS : Hid ((l.set q z).length = N) := by show _ = _; rw [List.length_set]; exact HN.out
        have HB : Hid (∀ x ∈ l.set q z, (0 : Int) ≤ x ∧ x ≤ 100001) := set_in HLB.out hzb
        have HPUT := Lib.hid hput
        have hql : (q : Int) < (N : Int) := hi1
        have hq0 : (0 : Int) ≤ (q : Int) := by omega
        have hs5 := hs4.setCell (p := ⟨g, q, none⟩) (show b < g by omega) (.int .i64 z)
        have hG5 : w.grownBy (w4.setCell ⟨g, q, none⟩ (.int .i64 z)) (some b) := gr_put hG4 (.inr hg0) _
        clear hz hV4 hput hG4 hs3 hG3 hs4 HV3
        go_wp2_with fail
        go_meet
        exact ⟨l.set q z, rfl, HS, HB, HPUT, hs5.mono (by omega), hG5⟩
  case rest =>
    obtain ⟨L, rfl, HL, HB, HR, hs3, hG3⟩ := hcut
    clear hs2 hG2 HV2 HLB HN
    go_wp2_with fail
    refine (flip_in b _ 25 _ hs3 (by omega) (by omega) (by omega)).mono ?_
    rintro _ w4 ⟨f2, rfl, hs4, hg4⟩
    have HR4 := Lib.hid (IntsFrom.other HR.out hg4 (by omega))
    have hG4 := gr_trans hG3 hg4
    have hgs4 := hG4.size
    have HOWN : Hid (LFrom w.heap.size w4 (.slice (some ⟨g, 0, none⟩) N c) N L) := by
      have h := HR4.out
      show w4.ownsRow _ _ _ _ _ _
      unfold IntsFrom at h
      rwa [HL.out] at h
    clear hs3 hG3 hg4 HR
    go_upto_if 18 with fail
    go_cut [3] (fun s wq => ∃ (n2 : Nat) (L : List Int), n2 ≤ 34 ∧ Hid (∀ x ∈ L, (0 : Int) ≤ x ∧ x ≤ 100001) ∧ LFrom w.heap.size wq s n2 L ∧ Str wq b (k + 85) ∧ w.grownBy wq (some b))
    case first =>
      as_aux_lemma =>
        cases f2
        · go_wp2_with fail
          go_meet
          exact ⟨N, L, by omega, HB, HOWN.out, hs4.mono (by omega), hG4⟩
        · have hrow : ∀ gg, (Value.slice (some ⟨g, 0, none⟩) N c).ownBlock = some gg → w.heap.size ≤ gg := fun gg e => (HOWN.out.lt gg e).1
          have HROW := Lib.hid hrow
          clear hrow
          go_wp2_with (at_builtin; refine wpList_append_own _ rfl _ _ 22 rfl w.heap.size 3 i0 _ 1 8 Tryd.underlying22 hi hz0 hz1 hz2 rfl (by decide) _ _ _ rfl (World.ownsRow.alloc (show World.ownsRow _ w.heap.size 3 1 _ N (L.map (Value.int .i64)) from HOWN.out) _) ⟨w4.heap.size, 0, none⟩ 1 1 [.int .i64 7] rfl rfl (one_cell w4 7 _) (one_oneCell 7) (by unfold maxLen; omega) (by omega) (by simp; omega) ?_; intro v' w5 hown2 hgrow2 _)
          have hs5 : Str w5 b _ := (hs4.alloc _).grown hgrow2 (fun gg e => by have := HROW.out gg e; omega)
          have hG5 : w.grownBy w5 (some b) := gr_grown (gr_alloc hG4 _) hgrow2 (fun gg e => .inr (HROW.out gg e))
          have hown3 : LFrom w.heap.size w5 v' (N + 1) (L ++ [7]) := by
            unfold LFrom; rw [List.map_append]; exact hown2
          have HB7 : Hid (∀ x ∈ L ++ [7], (0 : Int) ≤ x ∧ x ≤ 100001) := fun x hx => by
            rcases List.mem_append.1 hx with h | h
            · exact HB.out x h
            · simp at h; omega
          go_wp2_with fail
          go_meet
          exact ⟨N + 1, L ++ [7], by omega, HB7, hown3, hs5.mono (by omega), hG5⟩
    case rest =>
      obtain ⟨n2, L2, hn2, HB2, hown, hs5, hG5⟩ := hcut
      have HOWN2 := Lib.hid hown
      clear hs4 hG4 HR4 hgs4 HB HOWN hown
      go_wp2_with fail
      refine (flip_in b _ 30 _ hs5 (by omega) (by omega) (by omega)).mono ?_
      rintro _ w6 ⟨f3, rfl, hs6, hg6⟩
      have hG6 := gr_trans hG5 hg6
      cases f3
      · have hown6 : LFrom w.heap.size w6 _ n2 L2 := ownsRow_other HOWN2.out hg6 (by omega)
        have HI := Lib.hid hown6.ints
        have hl2 := hown6.len
        clear hown6
        go_wp2_with fail
        go_ret
        exact ⟨_, L2, rfl, HI.out, by omega, HB2.out, hs6.mono (by omega), hG6⟩
      · go_wp2_with fail
        go_ret
        exact ⟨_, [], rfl, IntsFrom.nil _ _, by simp, by simp, hs6.mono (by omega), hG6⟩
end Go.Proofs.YtcimnlcmpfagnaaDoor
