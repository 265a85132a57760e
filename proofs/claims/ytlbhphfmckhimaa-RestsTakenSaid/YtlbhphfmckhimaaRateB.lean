/- The walks over rate.Rate and its twin in the reference. Condition: the window's end is no number beyond 2^60; times without error where the name says ok. The walks over rate.Best and its twin in the reference. Condition: the window's end is no number beyond 2^60; times without error where the name says ok. The walks over slices.Clone, rate.Gap, pileref1.gaps and GapOf. Condition: the window's end is no number beyond 2^60; times without error where the name says ok. The walks over pileref1.gaps and GapOf. Condition: times without error; gaps begun at most a second behind. The walk over pileref1.GapOf. Condition: times without error. -/
import Derived.Test.YtlbhphfmckhimaaRateA
import Derived.Deep.AppendLies
import Derived.Test.YtlbhphfmckhimaaPairs
namespace Go.Proofs.Ytlbhphfmckhimaa
open Go.RowKit
set_option linter.unusedVariables false

theorem ret_3 {a b c d : Int} {p : Bool} {e f : Int} (h : a = b) (h' : c = d) (h2 : e = f) :
    Ending.returned (.tuple #[.agg #[.int .i64 a, .int .i64 c], .bool p, .int .i64 e]) = .returned (.tuple #[.agg #[.int .i64 b, .int .i64 d], .bool p, .int .i64 f]) := by rw [h, h', h2]

theorem gr_put2 {a w : World} {g : Nat} (h : a.grownBy w (some g)) (i j : Nat) (u v : Value) : a.grownBy ((w.setCell ⟨g, i, none⟩ u).setCell ⟨g, j, none⟩ v) (some g) :=
  gr_put (p := ⟨g, j, none⟩) (gr_put (p := ⟨g, i, none⟩) h (.inl rfl) u) (.inl rfl) v
theorem many_scale {m d : Int} (h0 : 0 ≤ m) (h1 : m ≤ 2000) : 0 ≤ m * 3600000 ∧ m * 3600000 ≤ 1000000000000000000 := by omega

end Go.Proofs.Ytlbhphfmckhimaa

namespace Go.Proofs.Ytlbhphfmckhimaa
open Go.RowKit
set_option linter.unusedVariables false

def bestE (l : List Int) (a zt long : Int) : Int := if timesE l a zt = 0 then longE long else timesE l a zt
theorem ret_3i {a b c d e f : Int} (h : a = b) (h' : c = d) (h2 : e = f) : Ending.returned (.tuple #[.int .i64 a, .int .i64 c, .int .i64 e]) = .returned (.tuple #[.int .i64 b, .int .i64 d, .int .i64 f]) := by rw [h, h', h2]
theorem ret_2ii {a b c d : Int} (h : a = b) (h' : c = d) : Ending.returned (.tuple #[.int .i64 a, .int .i64 c]) = .returned (.tuple #[.int .i64 b, .int .i64 d]) := by rw [h, h']
theorem bestI_drop (l : List Int) (long : Int) (st : Int × Int) (k : Nat) (h : k < l.length) : (l.drop k).foldl (bestStep l long) st = (l.drop (k + 1)).foldl (bestStep l long) (bestStep l long st l[k]) := by
  rw [List.drop_eq_getElem_cons h]; rfl

set_option maxHeartbeats 1000000 in
theorem best_bad (base : Nat) (v : Value) (l : List Int) (a zt long : Int) (w : World) (hl : IntsFrom base w v l) (hto : -1152921504606846976 ≤ zt) (hto2 : zt ≤ 1152921504606846976) (hE : bestE l a zt long ≠ 0) :
    Calls Try.prog 42 #[v, .agg #[.int .i64 a, .int .i64 zt], .int .i64 long] w fun r w' => r = .returned (.tuple #[.int .i64 0, .int .i64 0, .int .i64 (bestE l a zt long)]) ∧ w.grownBy w' none := by
  have hG := World.grownBy_alloc w (.cells #[.int .i64 a, .int .i64 zt] 27) none
  have HL := Lib.hid (hl.alloc (.cells #[.int .i64 a, .int .i64 zt] 27))
  clear hl
  by_cases h0 : timesE l a zt = 0
  · have HB : Hid (bestE l a zt long = 1) := by
      show _ = _
      unfold bestE at hE ⊢
      rw [if_pos h0] at hE ⊢
      rcases longE_cases long with h | h
      · exact absurd h.1 hE
      · exact h.1
    have hb : outB long 60000 86400000 = true := by
      rcases longE_cases long with h | h
      · unfold bestE at hE; rw [if_pos h0] at hE; exact absurd h.1 hE
      · exact h.2
    clear hE
    go_enter Try.func42, Try.ntmps42
    go_wp2_with fail
    refine (checkTimes_any base _ _ _ _ _ HL.out hto hto2).mono ?_
    rintro _ w1 ⟨rfl, hg1⟩
    go_wp2_with fail
    refine (isLong_any _ _).mono ?_
    rintro _ _ ⟨rfl, rfl⟩
    go_wp2_with fail
    go_ret3
    exact ⟨ret_3i rfl rfl HB.out.symm, gr_trans hG hg1⟩
  · have h1 : (timesE l a zt != 0) = true := by rw [bne_iff_ne]; exact h0
    have HB : Hid (bestE l a zt long = timesE l a zt) := by show _ = _; unfold bestE; rw [if_neg h0]
    clear hE h0
    go_enter Try.func42, Try.ntmps42
    go_wp2_with fail
    refine (checkTimes_any base _ _ _ _ _ HL.out hto hto2).mono ?_
    rintro _ w1 ⟨rfl, hg1⟩
    go_wp2_with fail
    go_ret3
    exact ⟨ret_3i rfl rfl HB.out.symm, gr_trans hG hg1⟩

set_option maxRecDepth 100000 in
set_option maxHeartbeats 4000000 in
theorem best_ok (base : Nat) (v : Value) (l : List Int) (a zt long : Int) (w : World) (hl : IntsFrom base w v l) (hE : timesE l a zt = 0) (hLo : longE long = 0) :
    Calls Try.prog 42 #[v, .agg #[.int .i64 a, .int .i64 zt], .int .i64 long] w fun r w' => r = .returned (.tuple #[.int .i64 (bestI l a long).1, .int .i64 (bestI l a long).2, .int .i64 0]) ∧ w.grownBy w' none := by
  have O := timesE_ok hE
  obtain ⟨hb, r2, r3⟩ : outB long 60000 86400000 = false ∧ 60000 ≤ long ∧ long ≤ 86400000 := by
    rcases longE_cases long with ⟨_, h0, h1, h2⟩ | ⟨h, _⟩
    · exact ⟨h0, h1, h2⟩
    · omega
  have hto := O.to_
  have ha0 := O.a0
  have hato := O.ato
  have hll := O.len
  have hG := World.grownBy_alloc w (.cells #[.int .i64 a, .int .i64 zt] 27) none
  have HL := Lib.hid (hl.alloc (.cells #[.int .i64 a, .int .i64 zt] 27))
  have hx0 := Blk.new w 27 #[.int .i64 a, .int .i64 zt]
  obtain ⟨A, c, rfl, hlen, hA⟩ := hl.shape
  have HA := Lib.hid hA
  have HO := Lib.hid O
  have HE := Lib.hid hE
  have HLo := Lib.hid hLo
  have m1 : IntKind.i64.wrap (a + long) = a + long := IntWalk.i64_in _ ⟨by omega, by omega⟩
  clear hl hA O hLo
  go_enter Try.func42, Try.ntmps42
  go_wp2_with fail
  refine (checkTimes_any base _ _ _ _ _ HL.out (by omega) (by omega)).mono ?_
  rintro _ w1 ⟨rfl, hg1⟩
  have hx1 := hx0.grown hg1 (by simp)
  have c0 : w1.cell? ⟨w.heap.size, 0, none⟩ = some (.int .i64 a) := hx1.cell 0
  have hG1 := gr_trans hG hg1
  have HL1 := Lib.hid (HL.out.grown hg1)
  go_wp2_with fail
  refine (isLong_any _ _).mono ?_
  rintro _ _ ⟨rfl, rfl⟩
  go_wp2_with fail
  have KX : Hid (∀ W' : World, w1.grownBy W' none → W'.cell? ⟨w.heap.size, 0, none⟩ = some (.int .i64 a) ∧ w1.grownBy W' none) := fun W' hW => ⟨(hx1.grown hW (by simp)).cell 0, hW⟩
  clear hg1 c0
  have c0 : w1.cell? ⟨w.heap.size, 0, none⟩ = some (.int .i64 a) := hx1.cell 0
  go_region_held3 (fun W' => W'.cell? ⟨w.heap.size, 0, none⟩ = some (.int .i64 a) ∧ w1.grownBy W' none)
    ((exact KX.out _ (by first | exact gr_refl _ _ | exact gr_drew (gr_refl _ _) | exact gr_of_drew (by assumption))))
    (first | (go_at_call 60; refine (in_many base _ _ _ _ _ (HL1.out.grown (by first | exact gr_refl _ _ | exact gr_drew (gr_refl _ _))) HO.out.sorted (by have := HO.out.len; omega)).mono ?_; rintro _ w2 ⟨rfl, hgA⟩))
  rename_i hH
  have hg2 := hH.2
  clear hH KX c0
  have hG2 := gr_trans hG1 hg2
  have HL2 := Lib.hid (HL1.out.grown hg2)
  clear hx1 hG1 hg2 hx0 hG
  have hmb := manyI_bd l a (a + long)
  obtain ⟨m0, hm0⟩ : ∃ m, manyI l a (a + long) = m := ⟨_, rfl⟩
  have HB : Hid (bestI l a long = l.foldl (bestStep l long) (a, m0)) := by show _ = _; rw [← hm0]; rfl
  rw [hm0] at hmb ⊢
  clear hm0
  go_wp2_with fail
  go_loopw [10, 11, 37] (fun b n i wr => ∃ (k : Nat) (st : Int × Int), k ≤ l.length ∧ i = .int .i64 k ∧ b = .int .i64 st.1 ∧ n = .int .i64 st.2 ∧ Hid (bestI l a long = (l.drop k).foldl (bestStep l long) st) ∧ w2.grownBy wr none) (fun _ _ i _ => l.length - (intOf i).toNat)
  case atStart => exact ⟨0, (a, m0), by omega, rfl, rfl, rfl, HB, gr_refl _ _⟩
  case round =>
    obtain ⟨k, ⟨p, q⟩, hk, rfl, rfl, rfl, HR, hG⟩ := hrel
    by_cases hlt : k < l.length
    · obtain ⟨g, rfl, _, _⟩ := HA.out (by omega)
      have hkl : (k : Int) < (l.length : Int) := by omega
      have cx := (HL2.out.grown hG).at_ k hlt
      have hs := bestI_drop l long (p, q) k hlt
      have hxm := HO.out.mem l[k] (List.getElem_mem hlt)
      obtain ⟨x, hx⟩ : ∃ x, x = l[k] := ⟨_, rfl⟩
      rw [← hx] at cx hs hxm
      have HS := Lib.hid (HR.out.trans hs)
      clear hx hs HR
      go_wp2_with fail
      refine (in_many base _ _ _ _ _ (HL2.out.grown hG) HO.out.sorted (by have := HO.out.len; omega)).mono ?_
      rintro _ w3 ⟨rfl, hg3⟩
      have hG3 := gr_trans hG hg3
      by_cases hqm : q < manyI l x (x + long)
      · have HN : Hid (bestI l a long = (l.drop (k + 1)).foldl (bestStep l long) (x, manyI l x (x + long))) := by
          show _ = _; rw [HS.out]; unfold bestStep; rw [if_pos hqm]
        go_wp2_with fail
        go_roundw
        case rel => exact ⟨k + 1, (x, manyI l x (x + long)), by omega, by go_num, rfl, rfl, HN, hG3⟩
        case measure => simp [intOf]; omega
      · have HN : Hid (bestI l a long = (l.drop (k + 1)).foldl (bestStep l long) (p, q)) := by
          show _ = _; rw [HS.out]; unfold bestStep; rw [if_neg hqm]
        go_wp2_with fail
        go_roundw
        case rel => exact ⟨k + 1, (p, q), by omega, by go_num, rfl, rfl, HN, hG3⟩
        case measure => simp [intOf]; omega
    · have hkl : ¬ (k : Int) < (l.length : Int) := by omega
      have HN : Hid (bestI l a long = (p, q)) := by show _ = _; rw [HR.out, List.drop_of_length_le (by omega)]; rfl
      go_wp2_with fail
      go_ret3
      exact ⟨ret_3i (by rw [HN.out]) (by rw [HN.out]) rfl, gr_trans hG2 hG⟩
end Go.Proofs.Ytlbhphfmckhimaa

namespace Go.Proofs.Ytlbhphfmckhimaa
open Go.RowKit
set_option linter.unusedVariables false

theorem clone_any (base : Nat) (v : Value) (l : List Int) (w : World) (hl : IntsFrom base w v l) (hn : l.length ≤ 1000000) :
    Calls Try.prog 50 #[v] w fun r w' => ∃ u, r = .returned u ∧ IntsFrom w.heap.size w' u l ∧ w.grownBy w' none := by
  obtain ⟨A, c, rfl, hlen, hA⟩ := hl.shape
  rcases Nat.eq_zero_or_pos l.length with h0 | h0
  · have hl0 : l = [] := List.eq_nil_of_length_eq_zero h0
    subst hl0
    cases A with
    | none =>
      refine (Try.slices_Clone_int_nil 0 c w).mono ?_
      rintro _ w1 ⟨rfl, rfl⟩
      exact ⟨_, rfl, IntsFrom.nil _ _, gr_refl _ _⟩
    | some ad =>
      refine (Try.slices_Clone_int_zero ad c w).mono ?_
      rintro _ w1 ⟨u, rfl, hown, _, hb⟩
      exact ⟨_, rfl, hown, gr_of_below hb⟩
  · obtain ⟨g, rfl, _, _⟩ := hA h0
    have hc : ∀ j, j < l.length → w.cell? ⟨g, 0 + j, none⟩ = some (.int .i64 (l.getD j 0)) := fun j hj => by
      rw [Nat.zero_add, hl.at_ j hj]
      simp [List.getD, hj]
    refine (Try.slices_Clone_int g 0 l.length c l w (Nat.le_refl _) (by omega) hc).mono ?_
    rintro _ w1 ⟨u, rfl, hown, _, hb⟩
    rw [List.take_length] at hown
    exact ⟨_, rfl, hown, gr_of_below hb⟩

theorem gapI_drop (l : List Int) (st : (Int × Int) × Int) (k : Nat) (h : k < l.length) : (l.drop k).foldl gapStep st = (l.drop (k + 1)).foldl gapStep (gapStep st l[k]) := by
  rw [List.drop_eq_getElem_cons h]; rfl

theorem one_kept {w w' : World} {x : Int} {t : TypeId} (hg : (w.alloc (.cells #[.int .i64 x] t)).drew.grownBy w' none) : ∀ j u, ([Value.int .i64 x])[j]? = some u → w'.cell? ((⟨w.heap.size, 0, none⟩ : Addr).add j) = some u := fun j u hu =>
  hg.cell (a := (⟨w.heap.size, 0, none⟩ : Addr).add j) (one_cell w x t j u hu) (by simp)

end Go.Proofs.Ytlbhphfmckhimaa

namespace Go.Proofs.Ytlbhphfmckhimaa
open Go.RowKit
set_option linter.unusedVariables false

theorem gapsL_drop (begun : Int) (l r : List Int) (f : Int) (k : Nat) (h : k < l.length) : gapsL begun f (l.drop k ++ r) = (f, l[k]) :: gapsL begun (l[k] + begun) (l.drop (k + 1) ++ r) := by
  rw [List.drop_eq_getElem_cons h]; rfl

set_option maxRecDepth 100000 in
set_option maxHeartbeats 4000000 in
theorem gaps_any (base : Nat) (v : Value) (l : List Int) (a zt begun : Int) (w : World) (hl : IntsFrom base w v l) (ha0 : 0 ≤ a) (ha1 : a ≤ 345686400000) (hto0 : 0 ≤ zt) (hto1 : zt ≤ 345686400000) (hm : ∀ x ∈ l, 0 ≤ x ∧ x ≤ 345686400000) (hn : l.length ≤ 2000) (hb0 : 0 ≤ begun) (hb1 : begun ≤ 1000) :
    Calls Try.prog 39 #[v, .agg #[.int .i64 a, .int .i64 zt], .int .i64 begun] w fun r w' => ∃ u, r = .returned u ∧ WinsFrom (w.heap.size + 1) w' u (gapsL begun a (l ++ [zt])) ∧ w.grownBy w' none := by
  obtain ⟨i0, hi, hz0, hz1, hz2⟩ := info_parts winInfo
  have hx0 := Blk.new w 27 #[.int .i64 a, .int .i64 zt]
  have HL := Lib.hid (hl.grown (World.grownBy_alloc w (.cells #[.int .i64 a, .int .i64 zt] 27) none))
  have HM := Lib.hid hm
  obtain ⟨A, c, rfl, hlen, hA⟩ := hl.shape
  have HA := Lib.hid hA
  have hG := World.grownBy_alloc w (.cells #[.int .i64 a, .int .i64 zt] 27) none
  have HR0 : Hid (gapsL begun a (l ++ [zt]) = [] ++ gapsL begun a (l.drop 0 ++ [zt])) := rfl
  have hsz : (w.alloc (.cells #[.int .i64 a, .int .i64 zt] 27)).heap.size = w.heap.size + 1 := by simp
  clear hl hm hA
  go_enter Try.func39, Try.ntmps39
  go_wp2_with fail
  generalize w.alloc (.cells #[.int .i64 a, .int .i64 zt] 27) = W at *
  go_loopw [7, 8, 15] (fun f o i wr => ∃ (k : Nat) (f' : Int) (out : List (Int × Int)), k ≤ l.length ∧ i = .int .i64 k ∧ f = .int .i64 f' ∧ 0 ≤ f' ∧ f' ≤ 345686401000 ∧ out.length = k ∧ Hid (gapsL begun a (l ++ [zt]) = out ++ gapsL begun f' (l.drop k ++ [zt])) ∧ WinsFrom (w.heap.size + 1) wr o out ∧ W.grownBy wr none) (fun _ _ i _ => l.length - (intOf i).toNat)
  case atStart => exact ⟨0, a, [], by omega, rfl, rfl, by omega, by omega, rfl, HR0, WinsFrom.nil _ _, gr_refl _ _⟩
  case round =>
    obtain ⟨k, f, out, hk, rfl, rfl, hf0, hf1, hol, HR, hown, hgr⟩ := hrel
    obtain ⟨A2, c2, rfl, hlen2, _⟩ := hown.shape
    subst hol
    have hmx : out.length + 1 ≤ 2001 := by omega
    by_cases hlt : out.length < l.length
    · obtain ⟨g, rfl, _, _⟩ := HA.out (by omega)
      have hkl : (out.length : Int) < (l.length : Int) := by omega
      have cx := (HL.out.grown hgr).at_ out.length hlt
      have hs := gapsL_drop begun l [zt] f out.length hlt
      have hxm := HM.out l[out.length] (List.getElem_mem hlt)
      obtain ⟨x, hx⟩ : ∃ x, x = l[out.length] := ⟨_, rfl⟩
      rw [← hx] at cx hs hxm
      have HN : Hid (gapsL begun a (l ++ [zt]) = (out ++ [(f, x)]) ++ gapsL begun (x + begun) (l.drop (out.length + 1) ++ [zt])) := by show _ = _; rw [HR.out, hs]; simp
      have hwl : (wcells out).length = out.length * 2 := wcells_len out
      have hown1 : wr.ownsRow (w.heap.size + 1) 27 2 (.slice A2 out.length c2) out.length (wcells out) := hown
      have hsz2 := hgr.size
      clear hx hs HR hown
      go_wp2_with (at_builtin; refine wpList_append_own _ rfl _ _ 40 rfl (w.heap.size + 1) 27 i0 _ 2 16 Try.underlying40 hi hz0 hz1 hz2 rfl (by decide) _ _ _ rfl (hown1.alloc _) ⟨wr.heap.size, 0, none⟩ 1 1 [.int .i64 f, .int .i64 x] rfl rfl (two_cells wr f x _) (two_oneCell f x) (by unfold maxLen; omega) (by omega) (by simp; omega) ?_; intro v' w2 hown2 hgrow2 _)
      have hg3 : W.grownBy w2 none := gr_grown (gr_alloc hgr _) hgrow2 (fun k hk => .inr (by have := (hown1.lt k hk).1; omega))
      have hown3 : WinsFrom (w.heap.size + 1) w2 v' (out ++ [(f, x)]) := by
        unfold WinsFrom; rw [wcells_snoc, List.length_append]; exact hown2
      go_wp2_with fail
      go_roundw
      case rel => exact ⟨out.length + 1, x + begun, out ++ [(f, x)], by omega, by go_num, rfl, by omega, by omega, by simp, HN, hown3, hg3⟩
      case measure => simp [intOf]; omega
    · have hkl : ¬ (out.length : Int) < (l.length : Int) := by omega
      have hd : l.drop out.length = [] := List.drop_eq_nil_of_le (by omega)
      have HN : Hid (gapsL begun a (l ++ [zt]) = out ++ [(f, zt)]) := by show _ = _; rw [HR.out, hd]; rfl
      have cto : wr.cell? ⟨w.heap.size, 1, none⟩ = some (.int .i64 zt) := (hx0.grown hgr (by simp)).cell 1
      have hwl : (wcells out).length = out.length * 2 := wcells_len out
      have hown1 : wr.ownsRow (w.heap.size + 1) 27 2 (.slice A2 out.length c2) out.length (wcells out) := hown
      have hsz2 := hgr.size
      clear HR hown hd
      go_wp2_with (at_builtin; refine wpList_append_own _ rfl _ _ 40 rfl (w.heap.size + 1) 27 i0 _ 2 16 Try.underlying40 hi hz0 hz1 hz2 rfl (by decide) _ _ _ rfl (hown1.alloc _) ⟨wr.heap.size, 0, none⟩ 1 1 [.int .i64 f, .int .i64 zt] rfl rfl (two_cells wr f zt _) (two_oneCell f zt) (by unfold maxLen; omega) (by omega) (by simp; omega) ?_; intro v' w2 hown2 hgrow2 _)
      have hg3 : W.grownBy w2 none := gr_grown (gr_alloc hgr _) hgrow2 (fun k hk => .inr (by have := (hown1.lt k hk).1; omega))
      have hown3 : WinsFrom (w.heap.size + 1) w2 v' (out ++ [(f, zt)]) := by
        unfold WinsFrom; rw [wcells_snoc, List.length_append]; exact hown2
      go_wp2_with fail
      go_ret
      rw [HN.out]
      exact ⟨_, rfl, hown3, gr_trans hG hg3⟩

theorem gapsL_mem (begun lo hi : Int) : ∀ (l : List Int) (f : Int), lo ≤ f → f ≤ hi → (∀ x ∈ l, lo ≤ x ∧ x + begun ≤ hi) → 0 ≤ begun → ∀ p ∈ gapsL begun f l, lo ≤ p.1 ∧ p.1 ≤ hi ∧ lo ≤ p.2 ∧ p.2 ≤ hi
  | [], _, _, _, _, _, p, hp => by simp [gapsL] at hp
  | x :: r, f, h1, h2, h3, h4, p, hp => by
    have hx := h3 x (by simp)
    simp only [gapsL, List.mem_cons] at hp
    rcases hp with rfl | hp
    · exact ⟨h1, h2, hx.1, by show x ≤ hi; omega⟩
    · exact gapsL_mem begun lo hi r (x + begun) (by omega) (by omega) (fun y hy => h3 y (by simp [hy])) h4 p hp
theorem gapsL_len (begun : Int) : ∀ (l : List Int) (f : Int), (gapsL begun f l).length = l.length
  | [], _ => rfl
  | x :: r, f => by simp [gapsL, gapsL_len begun r]
end Go.Proofs.Ytlbhphfmckhimaa

namespace Go.Proofs.Ytlbhphfmckhimaa
open Go.RowKit
set_option linter.unusedVariables false

def gapOfI (gs : List (Int × Int)) : Int × Int := match gs with | [] => (0, 0) | g :: r => r.foldl gapPick g
def gapAt (gs : List (Int × Int)) (k : Nat) (st : Int × Int) : Int × Int := if k = 0 then gapOfI gs else (gs.drop k).foldl gapPick st
theorem gapAt_first (gs : List (Int × Int)) (st : Int × Int) (h : 0 < gs.length) : gapAt gs 0 st = gapAt gs 1 gs[0] := by
  cases gs with
  | nil => simp at h
  | cons g r => rfl
theorem gapAt_next (gs : List (Int × Int)) (k : Nat) (st : Int × Int) (h0 : 0 < k) (h : k < gs.length) : gapAt gs k st = gapAt gs (k + 1) (gapPick st gs[k]) := by
  unfold gapAt
  rw [if_neg (by omega), if_neg (by omega), List.drop_eq_getElem_cons h]; rfl
theorem gapAt_end (gs : List (Int × Int)) (k : Nat) (st : Int × Int) (h : gs.length ≤ k) (h0 : k = 0 → st = (0, 0)) : gapAt gs k st = st := by
  unfold gapAt
  by_cases hk : k = 0
  · rw [if_pos hk, h0 hk]
    have : gs = [] := List.eq_nil_of_length_eq_zero (by omega)
    subst this; rfl
  · rw [if_neg hk, List.drop_eq_nil_of_le h]; rfl

end Go.Proofs.Ytlbhphfmckhimaa
