/- The walk over the law NeighboursAreMutual. Condition: asciiSpace is Go's own table, MaxLen holds a number. -/
import Derived.Test.YtffddmgnjecmdaaGreatDoorBeside
import Derived.Test.YtffddmgnjecmdaaGreatDoorLocFor
import Derived.Test.YtffddmgnjecmdaaGreatDoorRightSite
import Derived.Test.YtffddmgnjecmdaaGreatDoorReady
import Derived.Test.YtffddmgnjecmdaaGreatDoorStart
namespace Go.Proofs.YtffddmgnjecmdaaGreatDoor
open Go.RowKit
set_option linter.unusedVariables false
set_option linter.unusedSimpArgs false

/-- One that is beside a locator: its string, its low corner; the first is beside it. -/
theorem neigh_of {a b : Int} {m : Nat} (hm0 : 0 < m) (hm : m ≤ 3) (a0 : -324000 ≤ a) (a1 : a ≤ 323999) (b0 : -648000 ≤ b) (b1 : b ≤ 647999) (hl : Lined m a b) (p : Int × Int) (hp : p ∈ besTo a b (lvHigh (m - 1)) (lvWide (m - 1)) 9) :
    LocS (strOfNums (locL p.1 p.2 m)) (sgn (locL p.1 p.2 m)) m ∧ (a, b) ∈ besTo (lowNo (sgn (locL p.1 p.2 m)) m) (lowEa (sgn (locL p.1 p.2 m)) m) (lvHigh (m - 1)) (lvWide (m - 1)) 9 := by
  obtain ⟨j, hj, hb, rfl⟩ := (besTo_mem _ _ _ _ 9 p).1 hp
  have hbk := bes_back a b (lvHigh (m - 1)) (lvWide (m - 1)) j hj a0 a1 b0 b1 hb
  have hln := lined_step hm0 hm hl j
  simp only [besB, Bool.and_eq_true, decide_eq_true_eq] at hb
  have h1 : -324000 ≤ (besP a b (lvHigh (m - 1)) (lvWide (m - 1)) j).1 := hb.2.1
  have h2 : (besP a b (lvHigh (m - 1)) (lvWide (m - 1)) j).1 ≤ 323999 := hb.2.2
  have h3 : -648000 ≤ (besP a b (lvHigh (m - 1)) (lvWide (m - 1)) j).2 ∧ (besP a b (lvHigh (m - 1)) (lvWide (m - 1)) j).2 ≤ 647999 := aroundI_bd _
  generalize besP a b (lvHigh (m - 1)) (lvWide (m - 1)) j = p at *
  have hE : siteE p.1 p.2 = 0 := by
    unfold siteE
    rw [outB_no (by omega) (by omega), outB_no (by omega) (by omega)]
    rfl
  obtain ⟨e1, e2⟩ := low_own p.1 p.2 m hm0 hm h1 h2 h3.1 h3.2 hln
  exact ⟨locS_of p.1 p.2 m hE hm0 hm, by rw [e1, e2]; exact hbk⟩
set_option maxRecDepth 100000 in
set_option maxHeartbeats 8000000 in
theorem neighLaw (A : Option Addr) (n c : Nat) (w : World) (hin : In w A n) (hgl : Gl w.heap.size w) :
    Calls Tryz.prog 3 #[.slice A n c] w fun r w' => r = .returned (.bool true) ∧ Below w.heap.size w w' := by
  have hs0 := Str.start (c := c) hin
  have HGL := Lib.hid hgl
  clear hin hgl
  go_enter Tryz.func3, Tryz.ntmps3
  go_wp2_with fail
  have hG0 := World.grownBy_alloc w (.cells #[.slice A n c, .int .i64 0] 25) none
  generalize w.alloc (.cells #[.slice A n c, .int .i64 0] 25) = W0 at *
  generalize hb : w.heap.size = b at *
  have HB := Lib.hid hb
  clear hb
  refine (rightSite_in b 0 _ hs0 (by decide)).mono ?_
  rintro _ w1 ⟨n1, e1, rfl, hE1, hs1, hg1⟩
  have hG1 : w.grownBy w1 none := gr_grown hG0 hg1 (fun g e => by injection e with e; exact .inr (by have := HB.out; omega))
  clear hs0 hG0 hg1
  go_wp2_with fail
  refine (pick_at b _ _ 3 3 [2, 4, 6] _ hs1 (by first | rfl | simp) (by decide) rfl (by decide) (by decide)).mono ?_
  rintro _ w2 ⟨z, hz, rfl, hs2, hg2⟩
  have hG2 : w.grownBy w2 none := gr_grown hG1 hg2 (fun g e => by injection e with e; exact .inr (by have := HB.out; omega))
  obtain ⟨m, hm0, hm, rfl⟩ : ∃ m : Nat, 0 < m ∧ m ≤ 3 ∧ z = ((2 * m : Nat) : Int) := by
    simp only [List.mem_cons, List.not_mem_nil, or_false] at hz
    rcases hz with rfl | rfl | rfl
    · exact ⟨1, by decide, by decide, rfl⟩
    · exact ⟨2, by decide, by decide, rfl⟩
    · exact ⟨3, by decide, by decide, rfl⟩
  obtain ⟨a0, a1, b0, b1⟩ := siteE_rng hE1
  have HLF := Lib.hid (fun W => locatorFor_any n1 e1 m W hm0 hm a0 a1 b0 b1)
  have hLS := locS_of n1 e1 m hE1 hm0 hm
  obtain ⟨la, lb, h1, h2, r0, r1, r2, r3, hline, hsame, hfar⟩ := low_site n1 e1 m hm0 hm a0 a1 b0 b1
  have hBS := Lib.hid (fun W => beside_ok _ _ m W hLS)
  rw [h1, h2] at hBS
  have hlen := besTo_len la lb (lvHigh (m - 1)) (lvWide (m - 1)) (by have := lv_bd (m - 1) (by omega); omega) r0 r1 hfar
  have HNB := Lib.hid (neigh_of hm0 hm r0 r1 r2 r3 hline)
  obtain ⟨T, hT⟩ : ∃ T, strOfNums (locL n1 e1 m) = T := ⟨_, rfl⟩
  rw [hT] at HLF hBS
  have HT : Hid (strOfNums (locL la lb m) = T) := by show _ = _; rw [hsame, hT]
  generalize besTo la lb (lvHigh (m - 1)) (lvWide (m - 1)) 9 = BL at *
  clear hs1 hs2 hG1 hg2 hz hE1 a0 a1 b0 b1 hLS h1 h2 r0 r1 r2 r3 hline hsame hfar hT
  go_wp2_with fail
  refine (HLF.out _).mono ?_
  rintro _ w3 ⟨rfl, hg3⟩
  replace hG2 := gr_trans hG2 hg3
  clear hg3
  go_wp2_with fail
  refine (hBS.out _).mono ?_
  rintro _ w4 ⟨u, L, rfl, hperm, hown, hg4⟩
  replace hG2 := gr_trans hG2 hg4
  clear hg4
  have hl2 : L.length = BL.length := hperm.length_eq
  have HMEM : Hid (∀ p ∈ L, p ∈ BL) := fun p hp => hperm.mem_iff.1 hp
  obtain ⟨A2, c2, rfl, hlen2, hA2⟩ := hown.shape
  have hml : (L.map fun p => strOfNums (locL p.1 p.2 m)).length = L.length := by simp
  have hLpos : 0 < (L.map fun p => strOfNums (locL p.1 p.2 m)).length := by clear hA2; omega
  obtain ⟨g, rfl, _, _⟩ := hA2 hLpos
  clear hA2 hLpos
  have HOWN := Lib.hid hown
  have hL85 : L.length = 8 ∨ L.length = 5 := by omega
  obtain ⟨N, hN⟩ : ∃ N, L.length = N := ⟨_, rfl⟩
  have HN := Lib.hid hN
  rw [hml, hN] 
  rw [hN] at hL85
  have HAT : Hid (∀ W : World, w4.grownBy W none → ∀ k, k < N → ∃ p : Int × Int, p ∈ L ∧ W.cell? ⟨g, k, none⟩ = some (.string (strOfNums (locL p.1 p.2 m)))) := fun W hW k hk => by
    have hk' : k < L.length := by rw [hN]; exact hk
    have h := (hown.grown hW).at_ k (by rw [hml]; exact hk')
    exact ⟨L[k], List.getElem_mem hk', by rw [h]; simp⟩
  clear hown hperm hl2 hlen2 hml hN hlen
  rcases hL85 with h85 | h85
  all_goals
    go_wp2_with fail
    go_loopw [39] (fun i wr => ∃ k : Nat, k ≤ N ∧ i = .int .i64 k ∧ w4.grownBy wr none) (fun i _ => N - (intOf i).toNat)
    case atStart => exact ⟨0, by omega, rfl, gr_refl _ _⟩
    case round =>
      obtain ⟨k, hk, rfl, hgr⟩ := hrel
      by_cases hlt : k < N
      · have hkl : (k : Int) < (N : Int) := by omega
        obtain ⟨p, hp, c0⟩ := HAT.out wr hgr k hlt
        obtain ⟨hps, hpb⟩ := HNB.out p (HMEM.out p hp)
        have hBS2 := Lib.hid (fun W => beside_ok _ _ m W hps)
        generalize besTo (lowNo (sgn (locL p.1 p.2 m)) m) (lowEa (sgn (locL p.1 p.2 m)) m) (lvHigh (m - 1)) (lvWide (m - 1)) 9 = BP at *
        generalize strOfNums (locL p.1 p.2 m) = U at *
        clear hps hp
        go_wp2_with fail
        refine (hBS2.out _).mono ?_
        rintro _ w5 ⟨v, L2, rfl, hperm2, hown2, hg5⟩
        have hG5 := gr_trans hgr hg5
        have hmem : T ∈ L2.map fun p => strOfNums (locL p.1 p.2 m) := List.mem_map.2 ⟨(la, lb), hperm2.mem_iff.2 hpb, HT.out⟩
        generalize L2.map (fun p => strOfNums (locL p.1 p.2 m)) = ZS at *
        obtain ⟨A3, c3, rfl, hlen3, hA3⟩ := hown2.shape
        have hpos : 0 < ZS.length := List.length_pos_of_mem hmem
        obtain ⟨g3, rfl, _, _⟩ := hA3 hpos
        clear hA3
        have hcell : ∀ j, j < ZS.length → w5.cell? ⟨g3, 0 + j, none⟩ = some (.string (ZS.getD j ByteArray.empty)) := fun j hj => by
          rw [Nat.zero_add, hown2.at_ j hj]
          simp [hj]
        have hcon := Tryz.slices_Contains_string g3 0 ZS.length c3 ZS T w5 (Nat.le_refl _) hlen3 hcell
        rw [List.take_length, (Lib.containsS_iff ZS T).2 hmem] at hcon
        have HCON := Lib.hid hcon
        clear hcon hcell hmem hperm2 hown2 hg5 hBS2 hpb c0
        go_wp2_with fail
        refine HCON.out.mono ?_
        rintro _ _ ⟨rfl, rfl⟩
        go_wp2_with fail
        go_roundw
        case rel => exact ⟨k + 1, by omega, by go_num, hG5⟩
        case measure => simp [intOf]; omega
      · have hkl : ¬ (k : Int) < (N : Int) := by omega
        have hGr := gr_trans hG2 hgr
        go_wp2_with fail
        refine (ready_any b _ (HGL.out.quiet hGr)).mono ?_
        rintro _ w7 ⟨rfl, hg⟩
        go_wp2_with fail
        go_ret
        exact ⟨rfl, gr_below (gr_trans hGr hg)⟩
end Go.Proofs.YtffddmgnjecmdaaGreatDoor
