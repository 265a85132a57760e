/- The walk over pileref1.HoursOf. Condition: times without error, at most 1000 hours. The walk over rate.Hours. Condition: the window's end is no number beyond 2^60. -/
import Derived.Test.YtnapbnkbchaanaaGreatDoorRateB
namespace Go.Proofs.YtnapbnkbchaanaaGreatDoor
open Go.RowKit
set_option linter.unusedVariables false

theorem hourL_len (l : List Int) (zt : Int) : ∀ (n : Nat) (f : Int), (hourL l zt n f).length = n
  | 0, _ => rfl
  | n + 1, f => by simp [hourL, hourL_len l zt n]
theorem hours_eq (a zt : Int) (h : a < zt) : ∃ n : Nat, (hoursI a zt).toNat = n ∧ hoursI a zt = n ∧ a + 3600000 * (n : Int) - 3600000 < zt ∧ zt ≤ a + 3600000 * (n : Int) := by
  refine ⟨(hoursI a zt).toNat, rfl, ?_⟩
  unfold hoursI
  omega

end Go.Proofs.YtnapbnkbchaanaaGreatDoor

namespace Go.Proofs.YtnapbnkbchaanaaGreatDoor
open Go.RowKit
set_option linter.unusedVariables false

/-- How many of the moments are in each hour. -/
def hourIs (a : Int) (i : Nat) (x : Int) : Bool := decide ((x - a) / 3600000 = (i : Int))
def hist (a : Int) (N : Nat) (l : List Int) : List Int := (List.range N).map fun i => ((l.countP (hourIs a i) : Nat) : Int)
theorem hist_len (a : Int) (N : Nat) (l : List Int) : (hist a N l).length = N := by simp [hist]
theorem hist_nil (a : Int) (N : Nat) : hist a N [] = List.replicate N 0 := by
  unfold hist
  apply List.ext_getElem <;> simp
theorem hist_snoc (a : Int) (N : Nat) (l : List Int) (x : Int) (i : Nat) (hi : i < N) (hx : (x - a) / 3600000 = (i : Int)) : hist a N (l ++ [x]) = (hist a N l).set i ((hist a N l)[i]'(by rw [hist_len]; exact hi) + 1) := by
  apply List.ext_getElem
  · simp [hist]
  · intro j h1 h2
    rw [List.getElem_set]
    simp only [hist, List.getElem_map, List.getElem_range, List.countP_append, List.countP_cons, List.countP_nil]
    by_cases h : i = j
    · subst h
      have : hourIs a i x = true := by unfold hourIs; simpa using hx
      simp [this]
    · have : hourIs a j x = false := by unfold hourIs; rw [hx]; simp; omega
      simp [this, h]
theorem made_ints (N : Nat) : madeCells (Value.int .i64 0).cells N = ((List.replicate N (0 : Int)).map (Value.int .i64)).toArray := by
  apply Array.ext
  · simp [madeCells]
  · intro i h1 h2
    simp [madeCells, Value.cells, Nat.mod_one]
theorem blk_ints {w : World} {g base : Nat} {l : List Int} (h : Blk w g 3 (l.map (Value.int .i64)).toArray) (hb : base ≤ g) (hn : l.length ≤ 1000000) : IntsFrom base w (.slice (some ⟨g, 0, none⟩) l.length l.length) l := by
  refine ⟨by simp, .inr ⟨g, l.length, _, rfl, hb, h, Nat.le_refl _, by unfold maxLen; omega, by simp, ?_⟩⟩
  exact List.take_of_length_le (by simp)
theorem set_ints (l : List Int) (i : Nat) (x : Int) : ((l.map (Value.int .i64)).toArray).setIfInBounds i (.int .i64 x) = ((l.set i x).map (Value.int .i64)).toArray := by
  simp [List.map_set]
theorem hist_bd (a : Int) (N : Nat) (l : List Int) (i : Nat) (hi : i < N) : 0 ≤ (hist a N l)[i]'(by rw [hist_len]; exact hi) ∧ (hist a N l)[i]'(by rw [hist_len]; exact hi) ≤ l.length := by
  simp only [hist, List.getElem_map, List.getElem_range]
  have := List.countP_le_length (p := hourIs a i) (l := l)
  omega
theorem hourL_map (l : List Int) (zt : Int) : ∀ (n : Nat) (f : Int), hourL l zt n f = (List.range n).map fun (i : Nat) => manyI l (f + 3600000 * (i : Int)) (min (f + 3600000 * (i : Int) + 3600000) zt)
  | 0, _ => rfl
  | n + 1, f => by
    rw [hourL, hourL_map l zt n, List.range_succ_eq_map, List.map_cons, List.map_map]
    congr 1
    · simp
    · apply List.map_congr_left
      intro i _
      have e : f + 3600000 + 3600000 * (i : Int) = f + 3600000 * ((i + 1 : Nat) : Int) := by omega
      simp only [Function.comp_apply, Nat.succ_eq_add_one]
      rw [e]
theorem hist_hours (a zt : Int) (l : List Int) (N : Nat) (hm : ∀ x ∈ l, a ≤ x ∧ x < zt) (hN : (hoursI a zt).toNat = N) : hist a N l = hourAll l a zt := by
  unfold hourAll
  rw [hN, hourL_map]
  apply List.map_congr_left
  intro i _
  unfold manyI
  congr 1
  apply List.countP_congr
  intro x hx
  have := hm x hx
  unfold hourIs hasB
  simp only [decide_eq_true_eq]
  omega

set_option maxRecDepth 100000 in
set_option maxHeartbeats 4000000 in
theorem hours_new (base : Nat) (v : Value) (l : List Int) (a zt : Int) (w : World) (hl : IntsFrom base w v l) (hE : timesE l a zt = 0) (hh : hoursI a zt ≤ 1000) :
    Calls Tryz.prog 45 #[v, .agg #[.int .i64 a, .int .i64 zt]] w fun r w' => ∃ u, r = .returned (.tuple #[u, .int .i64 0]) ∧ IntsFrom w.heap.size w' u (hourAll l a zt) ∧ w.grownBy w' none := by
  have O := timesE_ok hE
  have hto := O.to_
  have ha0 := O.a0
  have hato := O.ato
  have hll := O.len
  obtain ⟨N, hN1, hN2, hN3, hN4⟩ := hours_eq a zt hato
  have hx0 := Blk.new w 71 #[.int .i64 a, .int .i64 zt]
  have hG := World.grownBy_alloc w (.cells #[.int .i64 a, .int .i64 zt] 71) none
  obtain ⟨A, c, rfl, hlen, hA⟩ := (hl.grown hG).shape
  have HA := Lib.hid hA
  have HL := Lib.hid (hl.grown hG)
  have HO := Lib.hid O
  have hsz : (w.alloc (.cells #[.int .i64 a, .int .i64 zt] 71)).heap.size = w.heap.size + 1 := by simp
  have HH := Lib.hid (hist_hours a zt l N O.mem hN1)
  have HE := Lib.hid hE
  have hN5 : N ≤ 1000 := by omega
  obtain ⟨i0, hi, hz0, hz1, hz2⟩ := info_parts intInfo
  have hmk : ∀ W : World, (Instr.makeSlice 22 (.int .i64 (N : Int)) (.int .i64 (N : Int))).run Tryz.prog W = .ok (.slice (some ⟨W.heap.size, 0, none⟩) N N) (W.alloc (.cells (((hist a N []).map (Value.int .i64)).toArray) 3)) := fun W => by
    have h := run_make (P := Tryz.prog) W 22 3 i0 _ Tryz.underlying22 hi hz0 .i64 .i64 (N : Int) (N : Int) (by omega) (by omega) (by rw [hz2]; omega) (by omega)
    rw [h, hz1, hist_nil, ← made_ints]
    simp
  clear hl O hN1 hA
  go_enter Tryz.func45, Tryz.ntmps45
  go_wp2_with fail
  generalize w.alloc (.cells #[.int .i64 a, .int .i64 zt] 71) = W at *
  refine (checkTimes_any base _ _ _ _ _ HL.out (by omega) (by omega)).mono ?_
  rintro _ w1 ⟨rfl, hg1⟩
  rw [HE.out]
  have hx1 := hx0.grown hg1 (by simp)
  have c0 : w1.cell? ⟨w.heap.size, 0, none⟩ = some (.int .i64 a) := hx1.cell 0
  have c1 : w1.cell? ⟨w.heap.size, 1, none⟩ = some (.int .i64 zt) := hx1.cell 1
  go_wp2_with fail
  refine (hoursOf_any _ _ _ (by omega) (by omega) (by omega)).mono ?_
  rintro _ w2 ⟨rfl, hg2⟩
  have hx2 := hx1.grown hg2 (by simp)
  have c0 : w2.cell? ⟨w.heap.size, 0, none⟩ = some (.int .i64 a) := hx2.cell 0
  have c1 : w2.cell? ⟨w.heap.size, 1, none⟩ = some (.int .i64 zt) := hx2.cell 1
  go_wp2_with fail
  refine (hoursOf_any _ _ _ (by omega) (by omega) (by omega)).mono ?_
  rintro _ w3 ⟨rfl, hg3⟩
  have hx3 := hx2.grown hg3 (by simp)
  rw [hN2]
  go_wp2_with fail
  have hG0 := Blk.new w3 3 (((hist a N []).map (Value.int .i64)).toArray)
  have hx4 := hx3.alloc (.cells (((hist a N []).map (Value.int .i64)).toArray) 3)
  have hg4 := gr_alloc (gr_trans (gr_trans (gr_trans hG hg1) hg2) hg3) (.cells (((hist a N []).map (Value.int .i64)).toArray) 3)
  have HL4 := Lib.hid (HL.out.grown (gr_alloc (gr_trans (gr_trans hg1 hg2) hg3) (.cells (((hist a N []).map (Value.int .i64)).toArray) 3)))
  have hlt0 := hx3.lt
  have hbg : Hid (∀ g, some (⟨g, 0, none⟩ : Addr) = A → 0 < l.length → g < w3.heap.size) := fun g e h => by
    subst e
    obtain ⟨g', e, _, h3⟩ := HA.out h
    injection e with e; injection e with e
    have := (gr_trans (gr_trans hg1 hg2) hg3).size
    omega
  generalize hGG : w3.heap.size = G at *
  generalize w3.alloc (.cells (((hist a N []).map (Value.int .i64)).toArray) 3) = w4 at *
  clear hg1 hg2 hg3 hx0 hx1 hx2 hx3 hG c0 c1 hmk HL
  go_loopw [24] (fun i wr => ∃ k : Nat, k ≤ l.length ∧ i = .int .i64 k ∧ Blk wr G 3 (((hist a N (l.take k)).map (Value.int .i64)).toArray) ∧ w4.grownBy wr (some G)) (fun i _ => l.length - (intOf i).toNat)
  case atStart => exact ⟨0, by omega, rfl, hG0, gr_refl _ _⟩
  case round =>
    obtain ⟨k, hk, rfl, hB, hgr⟩ := hrel
    have hx5 := hx4.grown hgr (by simp; omega)
    have e0 : wr.cell? ⟨w.heap.size, 0, none⟩ = some (.int .i64 a) := hx5.cell 0
    by_cases hlt : k < l.length
    · obtain ⟨g, rfl, _, _⟩ := HA.out (by omega)
      have hgG := hbg.out g rfl (by omega)
      have hkl : (k : Int) < (l.length : Int) := by omega
      have cx : wr.cell? ⟨g, k, none⟩ = some (.int .i64 l[k]) := by
        have h : IntsFrom base wr _ l := HL4.out.kept hgr (.inr (by simp [Value.ownBlock]; omega))
        exact h.at_ k hlt
      have hxm := HO.out.mem l[k] (List.getElem_mem hlt)
      obtain ⟨j, hj⟩ : ∃ j : Nat, (l[k] - a) / 3600000 = (j : Int) := ⟨((l[k] - a) / 3600000).toNat, by omega⟩
      have hjN : j < N := by omega
      have hjN2 : (j : Int) < (N : Int) := by omega
      have hs := hist_snoc a N (l.take k) l[k] j hjN hj
      have hbd := hist_bd a N (l.take k) j hjN
      have hce := hB.cell j
      have hfr := hB.free j
      obtain ⟨y, hy⟩ : ∃ y, y = (hist a N (l.take k))[j]'(by rw [hist_len]; exact hjN) := ⟨_, rfl⟩
      have hce2 : wr.cell? ⟨G, j, none⟩ = some (.int .i64 y) := by rw [hce, hy]; simp [hist_len, hjN]
      rw [← hy] at hs hbd
      rw [← List.take_succ_eq_append_getElem hlt] at hs
      have HB2 : Hid (∀ w' : World, w' = wr.setCell ⟨G, j, none⟩ (.int .i64 (y + 1)) → Blk w' G 3 (((hist a N (l.take (k + 1))).map (Value.int .i64)).toArray)) := fun w' e => by
        rw [e, hs, ← set_ints]; exact hB.put j _
      obtain ⟨x, hx⟩ : ∃ x, x = l[k] := ⟨_, rfl⟩
      rw [← hx] at cx hxm hj
      have hyb : 0 ≤ y ∧ y ≤ 2000 := by have : (l.take k).length ≤ l.length := by simp; omega
                                        omega
      have hdv : (x - a).tdiv 3600000 = (j : Int) := by rw [Int.tdiv_eq_ediv_of_nonneg (by omega)]; exact hj
      clear hs hce hbd hy hx hB
      go_wp2_with fail
      go_roundw
      case rel => exact ⟨k + 1, by omega, by go_num, HB2.out _ rfl, gr_put hgr (.inl rfl) _⟩
      case measure => simp [intOf]; omega
    · have hkl : ¬ (k : Int) < (l.length : Int) := by omega
      have HBF : Hid (IntsFrom w.heap.size wr (.slice (some ⟨G, 0, none⟩) N N) (hourAll l a zt)) := by
        have h := blk_ints (base := w.heap.size) hB (by omega) (by rw [hist_len]; omega)
        rw [hist_len, List.take_of_length_le (by omega), HH.out] at h
        exact h
      clear hB
      go_wp2_with fail
      go_ret2
      exact ⟨_, rfl, HBF.out, gr_grown hg4 hgr (fun g e => by injection e with e; exact .inr (by omega))⟩
theorem hours_ok (base : Nat) (v : Value) (l : List Int) (a zt : Int) (w : World) (hl : IntsFrom base w v l) (hE : timesE l a zt = 0) (hh : hoursI a zt ≤ 1000) :
    Calls Tryz.prog 45 #[v, .agg #[.int .i64 a, .int .i64 zt]] w fun r w' => ∃ u, r = .returned (.tuple #[u, .int .i64 0]) ∧ Ints w' u (hourAll l a zt) ∧ w.grownBy w' none :=
  (hours_new base v l a zt w hl hE hh).mono fun _ _ ⟨u, he, hu, hg⟩ => ⟨u, he, IntsFrom.low hu, hg⟩


set_option maxHeartbeats 1000000 in
theorem hours_bad (base : Nat) (v : Value) (l : List Int) (a zt : Int) (w : World) (hl : IntsFrom base w v l) (hto : -1152921504606846976 ≤ zt) (hto2 : zt ≤ 1152921504606846976) (hE : timesE l a zt ≠ 0) :
    Calls Tryz.prog 45 #[v, .agg #[.int .i64 a, .int .i64 zt]] w fun r w' => r = .returned (.tuple #[.slice none 0 0, .int .i64 (timesE l a zt)]) ∧ w.grownBy w' none := by
  have hE1 : (timesE l a zt != 0) = true := by rw [bne_iff_ne]; exact hE
  have hG := World.grownBy_alloc w (.cells #[.int .i64 a, .int .i64 zt] 71) none
  have HL := Lib.hid (hl.grown hG)
  clear hl hE
  go_enter Tryz.func45, Tryz.ntmps45
  go_wp2_with fail
  refine (checkTimes_any base _ _ _ _ _ HL.out hto hto2).mono ?_
  rintro _ w1 ⟨rfl, hg1⟩
  go_wp2_with fail
  go_ret2
  exact ⟨rfl, gr_trans hG hg1⟩

set_option maxHeartbeats 1000000 in
theorem hours_large (base : Nat) (v : Value) (l : List Int) (a zt : Int) (w : World) (hl : IntsFrom base w v l) (hE : timesE l a zt = 0) (hh : 1000 < hoursI a zt) :
    Calls Tryz.prog 45 #[v, .agg #[.int .i64 a, .int .i64 zt]] w fun r w' => r = .returned (.tuple #[.slice none 0 0, .int .i64 2]) ∧ w.grownBy w' none := by
  have O := timesE_ok hE
  have hto := O.to_
  have ha0 := O.a0
  have hato := O.ato
  have hx0 := Blk.new w 71 #[.int .i64 a, .int .i64 zt]
  have hG := World.grownBy_alloc w (.cells #[.int .i64 a, .int .i64 zt] 71) none
  have HL := Lib.hid (hl.grown hG)
  have HE := Lib.hid hE
  clear hl O
  go_enter Tryz.func45, Tryz.ntmps45
  go_wp2_with fail
  refine (checkTimes_any base _ _ _ _ _ HL.out (by omega) (by omega)).mono ?_
  rintro _ w1 ⟨rfl, hg1⟩
  rw [HE.out]
  have hx1 := hx0.grown hg1 (by simp)
  have c0 : w1.cell? ⟨w.heap.size, 0, none⟩ = some (.int .i64 a) := hx1.cell 0
  have c1 : w1.cell? ⟨w.heap.size, 1, none⟩ = some (.int .i64 zt) := hx1.cell 1
  go_wp2_with fail
  refine (hoursOf_any _ _ _ (by omega) (by omega) (by omega)).mono ?_
  rintro _ w2 ⟨rfl, hg2⟩
  go_wp2_with fail
  go_ret2
  exact ⟨rfl, gr_trans (gr_trans hG hg1) hg2⟩
end Go.Proofs.YtnapbnkbchaanaaGreatDoor
