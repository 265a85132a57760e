/- The walk over pileref1.GapOf. Condition: times without error. -/
import Derived.Test.YtjhklpffmfdkbaaRateGaps
namespace Go.Proofs.Ytjhklpffmfdkbaa
open Go.RowKit
set_option linter.unusedVariables false

def gapOfI (gs : List (Int × Int)) : Int × Int := match gs with | [] => (0, 0) | g :: r => r.foldl gapPick g
def gapAt (gs : List (Int × Int)) (k : Nat) (st : Int × Int) : Int × Int := if k = 0 then gapOfI gs else (gs.drop k).foldl gapPick st
theorem gapAt_first (gs : List (Int × Int)) (st : Int × Int) (h : 0 < gs.length) : gapAt gs 0 st = gapAt gs 1 gs[0] := by
  cases gs with
  | nil => simp at h
  | cons g r => rfl
theorem gapAt_next (gs : List (Int × Int)) (k : Nat) (st : Int × Int) (h0 : 0 < k) (h : k < gs.length) : gapAt gs k st = gapAt gs (k + 1) (gapPick st gs[k]) := by
  unfold gapAt
  rw [if_neg (by omega), if_neg (by omega), List.drop_eq_getElem_cons h]; rfl
theorem gapAt_end (gs : List (Int × Int)) (k : Nat) (st : Int × Int) (h : gs.length ≤ k) (h0 : k = 0 → st = (0, 0)) : gapAt gs k st = st := by
  unfold gapAt
  by_cases hk : k = 0
  · rw [if_pos hk, h0 hk]
    have : gs = [] := List.eq_nil_of_length_eq_zero (by omega)
    subst this; rfl
  · rw [if_neg hk, List.drop_eq_nil_of_le h]; rfl

set_option maxRecDepth 100000 in
set_option maxHeartbeats 4000000 in
theorem gapOf_ok (base : Nat) (v : Value) (l : List Int) (a to : Int) (w : World) (hl : IntsFrom base w v l) (hE : timesE l a to = 0) :
    Calls Try.prog 24 #[v, .agg #[.int .i64 a, .int .i64 to]] w fun r w' => r = .returned (.agg #[.int .i64 (gapI l a to).1, .int .i64 (gapI l a to).2]) ∧ w.grownBy w' none := by
  have O := timesE_ok hE
  have hmem : ∀ x ∈ l ++ [to], a ≤ x ∧ x + 0 ≤ 345686400000 := fun x hx => by
    rcases List.mem_append.1 hx with h | h
    · have := O.mem x h; have := O.to_; omega
    · simp at h; have := O.to_; have := O.ato; omega
  have hto := O.to_
  have ha0 := O.a0
  have hato := O.ato
  have hll := O.len
  have hgm := gapsL_mem 0 a 345686400000 (l ++ [to]) a (by omega) (by omega) hmem (by omega)
  have hgl := gapsL_len 0 (l ++ [to]) a
  have hG0 : gapI l a to = gapOfI (gapsL 0 a (l ++ [to])) := gapI_first l a to (fun x hx => (hmem x hx).1)
  have HG0 := Lib.hid hG0
  have hgl2 : (gapsL 0 a (l ++ [to])).length ≤ 2001 := by rw [hgl]; simp; omega
  have HGM := Lib.hid hgm
  have hW := gr_alloc (gr_alloc (World.grownBy_alloc w (.cells #[.int .i64 a, .int .i64 to] 27) none) (.cells #[.int .i64 0, .int .i64 0] 27)) (.cells #[.int .i64 0, .int .i64 0] 27)
  have HL := Lib.hid (hl.grown hW)
  have hr0 := (Blk.new (w.alloc (.cells #[.int .i64 a, .int .i64 to] 27)) 27 #[.int .i64 0, .int .i64 0]).alloc (.cells #[.int .i64 0, .int .i64 0] 27)
  have hb0 := Blk.new ((w.alloc (.cells #[.int .i64 a, .int .i64 to] 27)).alloc (.cells #[.int .i64 0, .int .i64 0] 27)) 27 #[.int .i64 0, .int .i64 0]
  rw [World.size_alloc] at hr0
  rw [World.size_alloc, World.size_alloc] at hb0
  have HM := Lib.hid (fun x hx => (⟨by have := O.mem x hx; omega, by have := O.mem x hx; omega⟩ : 0 ≤ x ∧ x ≤ 345686400000) : ∀ x ∈ l, 0 ≤ x ∧ x ≤ 345686400000)
  clear hl O hmem hgm hgl hG0
  go_enter Try.func24, Try.ntmps24
  go_wp2_with fail
  generalize ((w.alloc (.cells #[.int .i64 a, .int .i64 to] 27)).alloc (.cells #[.int .i64 0, .int .i64 0] 27)).alloc (.cells #[.int .i64 0, .int .i64 0] 27) = W at *
  refine (gaps_any base _ _ _ _ _ _ HL.out (by omega) (by omega) (by omega) (by omega) HM.out (by omega) (by omega) (by omega)).mono ?_
  rintro _ w1 ⟨u, rfl, hu, hg1⟩
  have hr1 := hr0.grown hg1 (by simp)
  have hb1 := hb0.grown hg1 (by simp)
  have hW1 := gr_trans hW hg1
  have hWs := hb0.lt
  have hu1 : WinsFrom (w.heap.size + 3) w1 u (gapsL 0 a (l ++ [to])) := hu.lowTo (by omega)
  obtain ⟨gs, hgs⟩ : ∃ gs, gs = gapsL 0 a (l ++ [to]) := ⟨_, rfl⟩
  rw [← hgs] at HG0 hu1 HGM hgl2
  obtain ⟨A, c, rfl, hlen, hA⟩ := hu1.shape
  have HA := Lib.hid hA
  have HU := Lib.hid hu1
  clear hu hu1 hA hgs hr0 hb0 hg1 hW HL HM
  go_wp2_with fail
  go_loopw [12] (fun i wr => ∃ (k : Nat) (p q : Int), k ≤ gs.length ∧ i = .int .i64 k ∧ Hid (gapI l a to = gapAt gs k (p, q)) ∧ (k = 0 → (p, q) = ((0, 0) : Int × Int)) ∧ Blk wr (w.heap.size + 1 + 1) 27 #[.int .i64 p, .int .i64 q] ∧ w1.grownBy wr (some (w.heap.size + 1 + 1)) ∧ 0 ≤ p ∧ p ≤ 345686400000 ∧ 0 ≤ q ∧ q ≤ 345686400000) (fun i _ => gs.length - (intOf i).toNat)
  case atStart => exact ⟨0, 0, 0, by omega, rfl, HG0, fun _ => rfl, hb1, gr_refl _ _, by omega, by omega, by omega, by omega⟩
  case round =>
    obtain ⟨k, p, q, hk, rfl, HR, hz, hbr, hgr, hp0, hp1, hq0, hq1⟩ := hrel
    by_cases hlt : k < gs.length
    · obtain ⟨g, rfl, hg1, hg2⟩ := HA.out (by omega)
      have hkl : (k : Int) < (gs.length : Int) := by omega
      have cx := (HU.out.other hgr (by omega)).at1 k hlt
      have hxm := HGM.out gs[k] (List.getElem_mem hlt)
      have hs0 := gapAt_first gs (p, q) (by omega)
      have hs1 := gapAt_next gs k (p, q)
      by_cases hk0 : k = 0
      · subst hk0
        have HN := Lib.hid (HR.out.trans hs0)
        obtain ⟨x, y, hxy⟩ : ∃ x y, gs[0] = (x, y) := ⟨gs[0].1, gs[0].2, rfl⟩
        rw [hxy] at HN cx hxm
        obtain ⟨cx0, cx1⟩ := cx
        dsimp only at cx0 cx1 hxm
        have hb2 := hbr.alloc (.cells #[.int .i64 x, .int .i64 y] 27)
        have e0 := hb2.cell 0
        have e1 := hb2.cell 1
        have ef0 := hb2.free 0
        have ef1 := hb2.free 1
        clear hxy hs0 hs1 HR hz
        go_wp2_with fail
        go_roundw
        case rel => exact ⟨1, x, y, by omega, by go_num, HN, by omega, (hb2.put 0 _).put 1 _, gr_put (gr_put (gr_alloc hgr _) (.inl rfl) _) (.inl rfl) _, by omega, by omega, by omega, by omega⟩
        case measure => simp [intOf]; omega
      · have hk1 : (k : Int) ≠ 0 := by omega
        have HS := Lib.hid (HR.out.trans (hs1 (by omega) hlt))
        obtain ⟨x, y, hxy⟩ : ∃ x y, gs[k] = (x, y) := ⟨gs[k].1, gs[k].2, rfl⟩
        rw [hxy] at HS cx hxm
        obtain ⟨cx0, cx1⟩ := cx
        dsimp only at cx0 cx1 hxm
        have hb2 := hbr.alloc (.cells #[.int .i64 x, .int .i64 y] 27)
        have e0 := hb2.cell 0
        have e1 := hb2.cell 1
        have ef0 := hb2.free 0
        have ef1 := hb2.free 1
        clear hxy hs0 hs1 HR hz
        by_cases hqm : q - p < y - x
        · have HN : Hid (gapI l a to = gapAt gs (k + 1) (x, y)) := by show _ = _; rw [HS.out]; unfold gapPick; rw [if_pos hqm]
          go_wp2_with fail
          go_roundw
          case rel => exact ⟨k + 1, x, y, by omega, by go_num, HN, by omega, (hb2.put 0 _).put 1 _, gr_put (gr_put (gr_alloc hgr _) (.inl rfl) _) (.inl rfl) _, by omega, by omega, by omega, by omega⟩
          case measure => simp [intOf]; omega
        · have HN : Hid (gapI l a to = gapAt gs (k + 1) (p, q)) := by show _ = _; rw [HS.out]; unfold gapPick; rw [if_neg hqm]
          go_wp2_with fail
          go_roundw
          case rel => exact ⟨k + 1, p, q, by omega, by go_num, HN, by omega, hb2, gr_alloc hgr _, by omega, by omega, by omega, by omega⟩
          case measure => simp [intOf]; omega
    · have hkl : ¬ (k : Int) < (gs.length : Int) := by omega
      have HF : Hid (gapI l a to = (p, q)) := by show _ = _; rw [HR.out]; exact gapAt_end gs k (p, q) (by omega) hz
      have hr2 := hr1.grown hgr (by simp)
      have f0 := hr2.free 0
      have f1 := hr2.free 1
      have z0 := hr2.cell 0
      have z1 := hr2.cell 1
      have e0 := hbr.cell 0
      have e1 := hbr.cell 1
      clear HR hz
      go_wp2_with fail
      have hr5 : Blk ((wr.setCell ⟨w.heap.size + 1, 0, none⟩ (.int .i64 p)).setCell ⟨w.heap.size + 1, 1, none⟩ (.int .i64 q)) (w.heap.size + 1) 27 #[.int .i64 p, .int .i64 q] := (hr2.put 0 _).put 1 _
      have d0 := hr5.cell 0
      have d1 := hr5.cell 1
      refine bodyPost_ret (v := .agg #[.int .i64 p, .int .i64 q]) (by simp [results, Try.results24, go_sem, d0, d1]) rfl ?_
      rw [HF.out]
      exact ⟨rfl, gr_put (gr_put (gr_grown hW1 hgr (fun g e => by injection e with e; exact .inr (by omega))) (.inr (by simp)) _) (.inr (by simp)) _⟩
end Go.Proofs.Ytjhklpffmfdkbaa
