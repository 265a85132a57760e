/- The walks over key's read and its closure: what is read of marks and gaps with a unit. Condition: right marks and a right unit. -/
import Derived.Test.YtlodmkdhlmineaaGreatDoorReadS
import Derived.Test.YtlodmkdhlmineaaGreatDoorNear
namespace Go.Proofs.YtlodmkdhlmineaaGreatDoor
open Go.RowKit
set_option linter.unusedVariables false
set_option linter.unusedSimpArgs false

set_option maxRecDepth 100000 in
set_option maxHeartbeats 2000000 in
theorem end_in {w wr : World} {B0 bv bm bo bc : Nat} {lo lc : List UInt8} (P : RdP w B0 bv bm bo bc) (h : RdS w wr B0 bv bm bo bc lo lc) (h0 : lc ≠ []) (hl : lo.length ≤ 100000) (hc : lc.length ≤ 100000) :
    Calls Tryz.prog 133 #[.pointer (some ⟨bo, 0, none⟩), .pointer (some ⟨bv, 0, none⟩), .pointer (some ⟨bc, 0, none⟩)] wr fun e w' => e = .returned (.tuple #[]) ∧ RdS w w' B0 bv bm bo bc (lo ++ signOfL lc) [] := by
  have HD := Lib.hid (h.quiet (gr_drew (gr_refl wr none)))
  have cv : wr.drew.cell? ⟨bv, 0, none⟩ = some (.map (some bm)) := h.hv.drew.cell 0
  have hsl := signOfL_len lc
  clear h
  go_enter Tryz.func133, Tryz.ntmps133
  go_wp2_with fail
  go_region_held3 (fun W' => W'.cell? ⟨bv, 0, none⟩ = some (.map (some bm))) (first | exact hT2.hv.cell 0 | exact hT.hv.cell 0 | exact cv) (first | (refine (rd_string P HD.out (by omega) h0).mono ?_; rintro _ w1 ⟨rfl, hT⟩) | (refine (signOf_any bm 40 lc _ hT.hm (by omega)).mono ?_; rintro _ _ ⟨rfl, rfl⟩) | (refine (rd_put P (signOfL lc) hT (by omega) (by omega)).mono ?_; rintro _ w2 ⟨rfl, hT2⟩) | fail)
  all_goals
    go_wp2_with fail
    refine (rd_reset P hT2).mono ?_
    rintro _ w3 ⟨rfl, hS⟩
    go_wp2_with fail
    go_end0
    exact ⟨rfl, hS⟩

theorem readTo_ne (l : List Int) (u : Int) (k : Nat) (h : k % 2 = 1) : (readTo l u k).2 ≠ [] := by
  obtain ⟨j, rfl⟩ : ∃ j, k = j + 1 := ⟨k - 1, by omega⟩
  have hm : markB j = true := by unfold markB; rw [decide_eq_true_eq]; omega
  unfold readTo
  rw [if_pos hm]
  split <;> simp
theorem rd_start {w w1 W : World} {bm : Nat} (hM : MapC w1 bm 40 codeT) (hbm : w.heap.size ≤ bm) (hg : w.grownBy w1 none)
    (hW : W = ((w1.alloc (.cells #[.map (some bm)] 154)).alloc (.cells #[.pointer none, .slice none 0 0] 133)).alloc (.cells #[.pointer none, .slice none 0 0] 133)) :
    RdS w W (w1.heap.size + 3) w1.heap.size bm (w1.heap.size + 1) (w1.heap.size + 1 + 1) [] [] ∧ RdP w (w1.heap.size + 3) w1.heap.size bm (w1.heap.size + 1) (w1.heap.size + 1 + 1) := by
  have hsz := hg.size
  have hlt := hM.lt
  have hgA := World.grownBy_alloc w1 (.cells #[.map (some bm)] 154) none
  have hB := Blk.new w1 154 #[.map (some bm)]
  generalize hWA : w1.alloc (.cells #[.map (some bm)] 154) = WA at *
  have hza : WA.heap.size = w1.heap.size + 1 := by rw [← hWA]; simp
  have hf1 := Bld.fresh WA (w1.heap.size + 3)
  have hgB := World.grownBy_alloc WA (.cells #[.pointer none, .slice none 0 0] 133) none
  generalize hWB : WA.alloc (.cells #[.pointer none, .slice none 0 0] 133) = WB at *
  have hzb : WB.heap.size = w1.heap.size + 1 + 1 := by rw [← hWB]; simp; omega
  have hf2 := Bld.fresh WB (w1.heap.size + 3)
  have hgC := World.grownBy_alloc WB (.cells #[.pointer none, .slice none 0 0] 133) none
  rw [← hW] at hf2 hgC
  have hzc : W.heap.size = w1.heap.size + 3 := by rw [hW]; simp; omega
  rw [hza] at hf1
  rw [hzb] at hf2
  have hG := gr_trans hgB hgC
  refine ⟨⟨gr_trans (gr_trans hg hgA) hG, hB.grown hG (by simp), (hM.quiet hgA).quiet hG, _, _, w1.heap.size + 3, hf1.quiet hgC, hf2, Nat.le_refl _, by omega, by simp [Value.ownBlock], fun _ => rfl⟩, ?_⟩
  constructor <;> omega

set_option maxHeartbeats 4000000 in
set_option maxRecDepth 100000 in
theorem read_ok (base b : Nat) (v : Value) (l : List Int) (u : Int) (w : World) (hl : IntsFrom base w v l) (ho : l.length % 2 = 1) (hn : l.length ≤ 20000) (hb : ∀ x ∈ l, 0 ≤ x ∧ x ≤ 1000000) (u0 : 0 ≤ u) (u1 : u ≤ 100000) (hgl : Gl b w) :
    Calls Tryz.prog 74 #[v, .int .i64 u] w fun e w' => e = .returned (.string ⟨(readL l u).toArray⟩) ∧ w.grownBy w' none := by
  obtain ⟨A, c, rfl, hlen, hA⟩ := hl.shape
  obtain ⟨g, rfl, hg0, hg1⟩ := hA (by omega)
  have HL := Lib.hid hl
  have HBD := Lib.hid hb
  have HGL := Lib.hid hgl
  have HRL := Lib.hid (fun k => readTo_len l u k)
  have HNE := Lib.hid (fun k (h : k % 2 = 1) => readTo_ne l u k h)
  clear hl hb hgl hA
  go_enter Tryz.func74, Tryz.ntmps74
  go_wp2_with fail
  refine (byCodes_any b _ HGL.out).mono ?_
  rintro _ w1 ⟨bm, rfl, hbm, hM, hgm⟩
  obtain ⟨hS0, hP⟩ := rd_start hM hbm hgm rfl
  have HS0 := Lib.hid hS0
  clear hM hS0
  go_wp2_with fail
  generalize ((w1.alloc (.cells #[.map (some bm)] 154)).alloc (.cells #[.pointer none, .slice none 0 0] 133)).alloc (.cells #[.pointer none, .slice none 0 0] 133) = W0 at *
  generalize w1.heap.size + 3 = B0 at *
  generalize w1.heap.size + 1 + 1 = bc at *
  generalize w1.heap.size + 1 = bo at *
  generalize w1.heap.size = bv at *
  go_loopw [17] (fun i wr => ∃ k : Nat, k ≤ l.length ∧ i = .int .i64 k ∧ RdS w wr B0 bv bm bo bc (readTo l u k).1 (readTo l u k).2) (fun i _ => l.length - (intOf i).toNat)
  case atStart => exact ⟨0, by omega, rfl, HS0.out⟩
  case round =>
    obtain ⟨k, hk, rfl, hS⟩ := hrel
    have hrl := HRL.out k
    have hne := HNE.out k
    by_cases hlt : k < l.length
    · have hkl : (k : Int) < (l.length : Int) := by omega
      have cx := (HL.out.grown hS.gr).at_ k hlt
      have hx := HBD.out l[k] (List.getElem_mem hlt)
      have HN : Hid (readTo l u (k + 1) = if markB k then (if nearU true l[k] u = 1 then ((readTo l u k).1, (readTo l u k).2 ++ [46]) else ((readTo l u k).1, (readTo l u k).2 ++ [45]))
          else if nearU false l[k] u = 3 then ((readTo l u k).1 ++ signOfL (readTo l u k).2, [])
          else if nearU false l[k] u = 7 then ((readTo l u k).1 ++ signOfL (readTo l u k).2 ++ [32], [])
          else readTo l u k) := by
        show readTo l u (k + 1) = _
        rw [readTo, List.getD_eq_getElem?_getD, List.getElem?_eq_getElem hlt]; rfl
      have hmk2 : markB k = decide (k % 2 = 0) := rfl
      have HIM := Lib.hid (fun W => isMark_any k W (by omega))
      have HNR := Lib.hid (fun W => nearest_any l[k] u (markB k) W hx.1 hx.2 u0 u1)
      have hnc := nearU_cases (markB k) l[k] u
      have hsl := signOfL_len (readTo l u k).2
      generalize l[k] = x at *
      generalize hR : readTo l u k = R at *
      obtain ⟨lo, lc⟩ := R
      simp only at hrl hne hsl hS
      obtain ⟨hr1, hr2⟩ := hrl
      clear hR hx
      cases hmk : markB k
      · rw [hmk] at HN HIM HNR hnc hmk2
        have hodd : k % 2 = 1 := by have := hmk2.symm; rw [decide_eq_false_iff_not] at this; omega
        have hne' := hne hodd
        clear hmk2 hne hmk
        rcases hnc with h | h | ⟨h, _⟩
        · rw [h] at HN HNR
          have HN2 : Hid (readTo l u (k + 1) = (lo, lc)) := by show _ = _; rw [HN.out]; rfl
          clear h HN
          go_wp2_with fail
          refine (HIM.out _).mono ?_
          rintro _ _ ⟨rfl, rfl⟩
          go_wp2_with fail
          refine (HNR.out _).mono ?_
          rintro _ w2 ⟨rfl, hg2⟩
          have hS2 := hS.quiet hg2
          clear hS hg2
          go_wp2_with fail
          refine (HIM.out _).mono ?_
          rintro _ _ ⟨rfl, rfl⟩
          go_wp2_with fail
          refine (HIM.out _).mono ?_
          rintro _ _ ⟨rfl, rfl⟩
          go_wp2_with fail
          go_roundw
          case rel => exact ⟨k + 1, by omega, by go_num, by rw [HN2.out]; exact hS2⟩
          case measure => simp [intOf]; omega
        · rw [h] at HN HNR
          have HN2 : Hid (readTo l u (k + 1) = (lo ++ signOfL lc, [])) := by show _ = _; rw [HN.out]; rfl
          clear h HN
          go_wp2_with fail
          refine (HIM.out _).mono ?_
          rintro _ _ ⟨rfl, rfl⟩
          go_wp2_with fail
          refine (HNR.out _).mono ?_
          rintro _ w2 ⟨rfl, hg2⟩
          have hS2 := hS.quiet hg2
          clear hS hg2
          go_wp2_with fail
          refine (HIM.out _).mono ?_
          rintro _ _ ⟨rfl, rfl⟩
          go_wp2_with fail
          refine (HIM.out _).mono ?_
          rintro _ _ ⟨rfl, rfl⟩
          go_wp2_with fail
          refine (end_in hP hS2 hne' (by omega) (by omega)).mono ?_
          rintro _ w3 ⟨rfl, hS3⟩
          go_wp2_with fail
          go_roundw
          case rel => exact ⟨k + 1, by omega, by go_num, by rw [HN2.out]; exact hS3⟩
          case measure => simp [intOf]; omega
        · rw [h] at HN HNR
          have HN2 : Hid (readTo l u (k + 1) = (lo ++ signOfL lc ++ [32], [])) := by show _ = _; rw [HN.out]; rfl
          clear h HN
          go_wp2_with fail
          refine (HIM.out _).mono ?_
          rintro _ _ ⟨rfl, rfl⟩
          go_wp2_with fail
          refine (HNR.out _).mono ?_
          rintro _ w2 ⟨rfl, hg2⟩
          have hS2 := hS.quiet hg2
          clear hS hg2
          go_wp2_with fail
          refine (HIM.out _).mono ?_
          rintro _ _ ⟨rfl, rfl⟩
          go_wp2_with fail
          refine (HIM.out _).mono ?_
          rintro _ _ ⟨rfl, rfl⟩
          go_wp2_with fail
          refine (end_in hP hS2 hne' (by omega) (by omega)).mono ?_
          rintro _ w3 ⟨rfl, hS3⟩
          go_wp2_with fail
          refine (rd_text hP 32 hS3 (by rw [List.length_append]; omega)).mono ?_
          rintro _ w4 ⟨rfl, hS4⟩
          go_wp2_with fail
          go_roundw
          case rel => exact ⟨k + 1, by omega, by go_num, by rw [HN2.out]; exact hS4⟩
          case measure => simp [intOf]; omega
      · rw [hmk] at HN HIM HNR hnc hmk2
        clear hmk2 hne hmk
        rcases hnc with h | h | ⟨_, h⟩
        · rw [h] at HN HNR
          have HN2 : Hid (readTo l u (k + 1) = (lo, lc ++ [46])) := by show _ = _; rw [HN.out]; rfl
          clear h HN
          go_wp2_with fail
          refine (HIM.out _).mono ?_
          rintro _ _ ⟨rfl, rfl⟩
          go_wp2_with fail
          refine (HNR.out _).mono ?_
          rintro _ w2 ⟨rfl, hg2⟩
          have hS2 := hS.quiet hg2
          clear hS hg2
          go_wp2_with fail
          refine (HIM.out _).mono ?_
          rintro _ _ ⟨rfl, rfl⟩
          go_wp2_with fail
          refine (rd_code hP 46 hS2 (by omega)).mono ?_
          rintro _ w3 ⟨rfl, hS3⟩
          go_wp2_with fail
          go_roundw
          case rel => exact ⟨k + 1, by omega, by go_num, by rw [HN2.out]; exact hS3⟩
          case measure => simp [intOf]; omega
        · rw [h] at HN HNR
          have HN2 : Hid (readTo l u (k + 1) = (lo, lc ++ [45])) := by show _ = _; rw [HN.out]; rfl
          clear h HN
          go_wp2_with fail
          refine (HIM.out _).mono ?_
          rintro _ _ ⟨rfl, rfl⟩
          go_wp2_with fail
          refine (HNR.out _).mono ?_
          rintro _ w2 ⟨rfl, hg2⟩
          have hS2 := hS.quiet hg2
          clear hS hg2
          go_wp2_with fail
          refine (HIM.out _).mono ?_
          rintro _ _ ⟨rfl, rfl⟩
          go_wp2_with fail
          refine (HIM.out _).mono ?_
          rintro _ _ ⟨rfl, rfl⟩
          go_wp2_with fail
          refine (rd_code hP 45 hS2 (by omega)).mono ?_
          rintro _ w3 ⟨rfl, hS3⟩
          go_wp2_with fail
          go_roundw
          case rel => exact ⟨k + 1, by omega, by go_num, by rw [HN2.out]; exact hS3⟩
          case measure => simp [intOf]; omega
        · cases h
    · have hkl : ¬ (k : Int) < (l.length : Int) := by omega
      obtain rfl : k = l.length := by omega
      have hne' := hne ho
      have hRD : Hid ((readTo l u l.length).1 ++ signOfL (readTo l u l.length).2 = readL l u) := rfl
      have hsl := signOfL_len (readTo l u l.length).2
      obtain ⟨T, hT⟩ : ∃ T, readL l u = T := ⟨_, rfl⟩
      rw [hT] at hRD
      have HT := Lib.hid hT
      clear hT
      generalize hR : readTo l u l.length = R at *
      obtain ⟨lo, lc⟩ := R
      simp only at hrl hne' hsl hS hRD
      clear hR hne
      go_wp2_with fail
      refine (end_in hP hS hne' (by omega) (by omega)).mono ?_
      rintro _ w3 ⟨rfl, hS3⟩
      rw [hRD.out] at hS3
      have hT0 : T ≠ [] := by
        intro e
        have := congrArg List.length (hRD.out.trans e)
        rw [List.length_append, List.length_nil] at this
        omega
      have hTl : T.length ≤ 1000000 := by
        rw [← hRD.out, List.length_append]
        omega
      obtain ⟨hgr, hv3, hm3, vo, vc, Bc, h1, _⟩ := hS3
      have r1 := row_lo h1
      have hPv := hP.v0
      have hPv1 := hP.v1
      go_wp2_with fail
      refine (bld_string B0 bo vo T w3 h1 hT0 hTl).mono ?_
      rintro _ w4 ⟨rfl, hg4⟩
      go_wp2_with fail
      go_ret
      exact ⟨by rw [HT.out]; rfl, gr_grown hgr hg4 (fun g e => .inr (by have := (r1 g e).1; omega))⟩
end Go.Proofs.YtlodmkdhlmineaaGreatDoor
