/- The walks over rate.rests and rate.longOf. Condition: times without error; a least length from 1 to 10^9. The walks over rate.longOf and its twin, over the errors of rests, rate.Off and rate.Worked. Condition: windows within the times of a contest; the window's end is at most 2^60. -/
import Derived.Test.YtlbhphfmckhimaaRateB
import Derived.Test.YtlbhphfmckhimaaRateA
namespace Go.Proofs.Ytlbhphfmckhimaa
open Go.RowKit
set_option linter.unusedVariables false

/-- The rests that are long enough. -/
def longB (least : Int) (p : Int × Int) : Bool := decide (least ≤ p.2 - p.1)
def restsL (least f : Int) (ll : List Int) : List (Int × Int) := (gapsL 1 f ll).filter (longB least)
theorem restsL_cons (least f x : Int) (r : List Int) : restsL least f (x :: r) = (if longB least (f, x) then [(f, x)] else []) ++ restsL least (x + 1) r := by
  unfold restsL
  rw [gapsL, List.filter_cons]
  by_cases h : longB least (f, x) = true
  · rw [if_pos h, if_pos h]; rfl
  · rw [if_neg h, if_neg h]; rfl
def offL (l : List Int) (a zt least : Int) : List (Int × Int) := restsL least a (l ++ [zt])

set_option maxRecDepth 100000 in
set_option maxHeartbeats 4000000 in
theorem rests_ok (base : Nat) (v : Value) (l : List Int) (a zt least : Int) (w : World) (hl : IntsFrom base w v l) (hE : timesE l a zt = 0) (hm0 : 1 ≤ least) (hm1 : least ≤ 1000000000) :
    Calls Try.prog 29 #[v, .agg #[.int .i64 a, .int .i64 zt], .int .i64 least] w fun r w' => ∃ u, r = .returned u ∧ WinsFrom (w.heap.size + 1) w' u (offL l a zt least) ∧ w.grownBy w' none := by
  have O := timesE_ok hE
  obtain ⟨i0, hi, hz0, hz1, hz2⟩ := info_parts intInfo
  obtain ⟨j0, hj, hy0, hy1, hy2⟩ := info_parts winInfo
  have hto := O.to_
  have ha0 := O.a0
  have hato := O.ato
  have hll := O.len
  have hG := World.grownBy_alloc w (.cells #[.int .i64 a, .int .i64 zt] 27) none
  have HL2 := Lib.hid (hl.grown hG)
  have hx2 := Blk.new w 27 #[.int .i64 a, .int .i64 zt]
  have hxl := hx2.lt
  have HO := Lib.hid O
  have HE := Lib.hid hE
  clear hl O hE
  go_enter Try.func29, Try.ntmps29
  go_wp2_with fail
  generalize w.alloc (.cells #[.int .i64 a, .int .i64 zt] 27) = W at *
  have KX : Hid (∀ W' : World, W.grownBy W' none → W'.cell? ⟨w.heap.size, 1, none⟩ = some (.int .i64 zt) ∧ W.grownBy W' none) := fun W' hW => ⟨(hx2.grown hW (by simp)).cell 1, hW⟩
  go_region_held3 (fun W' => W'.cell? ⟨w.heap.size, 1, none⟩ = some (.int .i64 zt) ∧ W.grownBy W' none)
    ((exact KX.out _ (by first | exact gr_refl _ _ | exact gr_drew (gr_refl _ _) | exact gr_drew (gr_alloc (gr_refl _ _) _) | exact hgA | exact gr_alloc hgA _ | exact gr_grown (gr_alloc hgA _) hgr (fun k hk => .inr (hu.lt k hk).1) | exact gr_grown hgA hgr (fun k hk => .inr (hu.lt k hk).1) | fail)))
    (first | (go_at_call 50; refine (clone_any base _ _ _ (HL2.out.grown (by first | exact gr_drew (gr_refl _ _) | exact gr_drew (gr_alloc (gr_refl _ _) _))) (by have := HO.out.len; omega)).mono ?_; rintro _ w2 ⟨u, rfl, hu0, hgA0⟩; have hgA : W.grownBy w2 none := gr_trans (by first | exact gr_drew (gr_refl _ _) | exact gr_drew (gr_alloc (gr_refl _ _) _)) hgA0; have hu : w2.ownsRow W.heap.size 3 1 u l.length (l.map (Value.int .i64)) := ownsRow_low hu0 (by simp); clear hu0) | (refine step_append_lies _ (by rfl) (.tmp 14) (.tmp 17) 22 (by rfl) W.heap.size 3 i0 _ 1 8 Try.underlying22 hi hz0 hz1 hz2 rfl (by decide) u l.length (l.map (Value.int .i64)) (by simp [Act.eval]) (hu.alloc _) ⟨w2.heap.size, 0, none⟩ 1 1 [.int .i64 zt] (by simp [Act.eval]) rfl (one_cell w2 zt _) (one_oneCell zt) (by decide) (by unfold maxLen; omega) (by omega) (by have := hgA.size; simp; omega) _ rfl ?_; intro g cap w3 hown hgr hat hglt) | (refine step_append_lies _ (by rfl) (.tmp 14) (.tmp 17) 22 (by rfl) W.heap.size 3 i0 _ 1 8 Try.underlying22 hi hz0 hz1 hz2 rfl (by decide) u l.length (l.map (Value.int .i64)) (by simp [Act.eval]) hu ⟨W.heap.size, 0, none⟩ 1 1 [.int .i64 zt] (by simp [Act.eval]) rfl (one_kept hgA0) (one_oneCell zt) (by decide) (by unfold maxLen; omega) (by omega) hgA.size _ rfl ?_; intro g cap w3 hown hgr hat hglt) | fail)
  all_goals
    have hgB := (hown.lt g rfl).1
    have hG3 : W.grownBy w3 none := by
      first
        | exact gr_grown (gr_alloc hgA _) hgr (fun k hk => .inr (hu.lt k hk).1)
        | exact gr_grown hgA hgr (fun k hk => .inr (hu.lt k hk).1)
    have hgl : ∀ k, (hk : k < (l ++ [zt]).length) → ∀ W', w3.grownBy W' none → W'.cell? ⟨g, k, none⟩ = some (.int .i64 (l ++ [zt])[k]) := fun k hk W' hW => by
      have h1 := (ownsRow_grown hown hW).cellAt k (by simpa using hk)
      rw [h1]
      by_cases hkl : k < l.length
      · rw [List.getElem?_append_left (by simpa using hkl), List.getElem_append_left hkl]
        simp [hkl]
      · have : k = l.length := by simp at hk; omega
        subst this
        simp
    have HGL := Lib.hid hgl
    have hmemb : ∀ x ∈ l ++ [zt], 0 ≤ x ∧ x ≤ 345686400000 := fun x hx => by
      rcases List.mem_append.1 hx with h | h
      · have := HO.out.mem x h; omega
      · simp at h; omega
    have HMB := Lib.hid hmemb
    have hll2 : (l ++ [zt]).length = l.length + 1 := by simp
    have HB0 : Hid (offL l a zt least = restsL least a (l ++ [zt])) := rfl
    generalize l ++ [zt] = ll at *
    have HL3 := Lib.hid hll2
    have hsz3 := hG3.size
    clear hgl hmemb hll2 hown hgr hat hu hgA hgA0 KX
    go_wp2_with fail
    go_loopw [7, 8, 20] (fun o f i wr => ∃ (k : Nat) (out : List (Int × Int)) (f' : Int), k ≤ l.length + 1 ∧ i = .int .i64 k ∧ f = .int .i64 f' ∧ Hid (offL l a zt least = out ++ restsL least f' (ll.drop k)) ∧ out.length ≤ k ∧ WinsFrom w3.heap.size wr o out ∧ w3.grownBy wr none ∧ 0 ≤ f' ∧ f' ≤ 345686400001) (fun _ _ i _ => l.length + 1 - (intOf i).toNat)
    case atStart => exact ⟨0, [], a, by omega, rfl, rfl, HB0, by simp, WinsFrom.nil _ _, gr_refl _ _, by omega, by omega⟩
    case round =>
      obtain ⟨k, out, f, hk, rfl, rfl, HR, hol, hown, hgr, hf0, hf1⟩ := hrel
      obtain ⟨A2, c2, hO, hlen2, _⟩ := hown.shape
      subst hO
      by_cases hlt : k < l.length + 1
      · have hkl : (k : Int) < (l.length : Int) + 1 := by omega
        have hlt2 : k < ll.length := by have := HL3.out; omega
        have cx := HGL.out k hlt2 wr hgr
        have hxm := HMB.out ll[k] (List.getElem_mem hlt2)
        have hd := List.drop_eq_getElem_cons hlt2
        obtain ⟨x, hx⟩ : ∃ x, x = ll[k] := ⟨_, rfl⟩
        rw [← hx] at cx hxm hd
        have HS : Hid (offL l a zt least = out ++ ((if longB least (f, x) then [(f, x)] else []) ++ restsL least (x + 1) (ll.drop (k + 1)))) := by show _ = _; rw [HR.out, hd, restsL_cons]
        clear hx hd HR
        have hownA : wr.ownsRow w3.heap.size 27 2 (.slice A2 out.length c2) out.length (wcells out) := hown
        have hszr := hgr.size
        by_cases hq : least ≤ x - f
        · have HN : Hid (offL l a zt least = (out ++ [(f, x)]) ++ restsL least (x + 1) (ll.drop (k + 1))) := by
            show _ = _; rw [HS.out, if_pos (by simpa [longB] using hq), List.append_assoc]
          go_wp2_with (at_builtin; refine wpList_append_own _ rfl _ _ 40 rfl w3.heap.size 27 j0 _ 2 16 Try.underlying40 hj hy0 hy1 hy2 rfl (by decide) _ _ _ rfl (hownA.alloc _) ⟨wr.heap.size, 0, none⟩ 1 1 [.int .i64 f, .int .i64 x] rfl rfl (two_cells wr f x _) (two_oneCell f x) (by unfold maxLen; omega) (by omega) (by simp; omega) ?_; intro v' w4 hownB hgrB _)
          have hgF : w3.grownBy w4 none := gr_grown (gr_alloc hgr _) hgrB (fun kk h => .inr (hownA.lt kk h).1)
          have hw9 : WinsFrom w3.heap.size w4 v' (out ++ [(f, x)]) := by
            unfold WinsFrom; rw [wcells_snoc, List.length_append]; exact hownB
          go_wp2_with fail
          go_roundw
          case rel => exact ⟨k + 1, out ++ [(f, x)], x + 1, by omega, by go_num, rfl, HN, by simp; omega, hw9, hgF, by omega, by omega⟩
          case measure => simp [intOf]; omega
        · have HN : Hid (offL l a zt least = out ++ restsL least (x + 1) (ll.drop (k + 1))) := by
            show _ = _; rw [HS.out, if_neg (by simpa [longB] using hq), List.nil_append]
          go_wp2_with fail
          go_roundw
          case rel => exact ⟨k + 1, out, x + 1, by omega, by go_num, rfl, HN, by omega, hown, hgr, by omega, by omega⟩
          case measure => simp [intOf]; omega
      · have hkl : ¬ (k : Int) < (l.length : Int) + 1 := by omega
        have hd : ll.drop k = [] := List.drop_eq_nil_of_le (by have := HL3.out; omega)
        have HF : Hid (offL l a zt least = out) := by show _ = _; rw [HR.out, hd]; simp [restsL, gapsL]
        clear hd
        go_wp2_with fail
        go_ret
        rw [HF.out]
        exact ⟨_, rfl, WinsFrom.lowTo hown (by omega), gr_trans (gr_trans hG hG3) hgr⟩
end Go.Proofs.Ytlbhphfmckhimaa

namespace Go.Proofs.Ytlbhphfmckhimaa
open Go.RowKit
set_option linter.unusedVariables false

def sumW (l : List (Int × Int)) : Int := l.foldl (fun n p => n + (p.2 - p.1)) 0
theorem sumW_snoc (l : List (Int × Int)) (k : Nat) (h : k < l.length) : sumW (l.take (k + 1)) = sumW (l.take k) + (l[k].2 - l[k].1) := by
  unfold sumW
  rw [List.take_succ_eq_append_getElem h, List.foldl_append]
  rfl
theorem sumW_bd (l : List (Int × Int)) (hb : ∀ p ∈ l, -1 ≤ p.2 - p.1 ∧ p.2 - p.1 ≤ 345686400001) : ∀ k, k ≤ l.length → -(k : Int) ≤ sumW (l.take k) ∧ sumW (l.take k) ≤ 345686400001 * (k : Int)
  | 0, _ => by simp [sumW]
  | k + 1, h => by
    have ih := sumW_bd l hb k (by omega)
    rw [sumW_snoc l k (by omega)]
    have := hb l[k] (List.getElem_mem _)
    omega

set_option maxHeartbeats 1000000 in
theorem longOf_any (v : Value) (l : List (Int × Int)) (w : World) (hl : Wins w v l) (hn : l.length ≤ 3000) (hb : ∀ p ∈ l, 0 ≤ p.1 ∧ p.1 ≤ 345686400001 ∧ 0 ≤ p.2 ∧ p.2 ≤ 345686400001 ∧ -1 ≤ p.2 - p.1) :
    Calls Try.prog 30 #[v] w fun r w' => r = .returned (.int .i64 (sumW l)) ∧ w.grownBy w' none := by
  obtain ⟨A, ca, rfl, ha, hA⟩ := WinsFrom.shape hl
  have HL := Lib.hid hl
  have HSB := Lib.hid (sumW_bd l (fun p hp => by have := hb p hp; omega))
  have HSN := Lib.hid (sumW_snoc l)
  have HB := Lib.hid hb
  clear hl hb
  go_enter Try.func30, Try.ntmps30
  go_wp2_with fail
  go_loopw [3, 8] (fun s i wr => ∃ k : Nat, k ≤ l.length ∧ i = .int .i64 k ∧ s = .int .i64 (sumW (l.take k)) ∧ w.grownBy wr none) (fun _ i _ => l.length - (intOf i).toNat)
  case atStart => exact ⟨0, by omega, rfl, rfl, gr_refl _ _⟩
  case round =>
    obtain ⟨k, hk, rfl, rfl, hgr⟩ := hrel
    have hsb := HSB.out k hk
    by_cases hlt : k < l.length
    · obtain ⟨ga, rfl, _, _⟩ := hA (by omega)
      have hkl : (k : Int) < (l.length : Int) := by omega
      have hc := WinsFrom.at1 (HL.out.grown hgr) k hlt
      have hm := HB.out l[k] (List.getElem_mem hlt)
      have hsn := HSN.out k hlt
      have hgl : ga < wr.heap.size := ((HL.out.grown hgr).lt ga rfl).2
      generalize l[k].1 = x at *
      generalize l[k].2 = y at *
      obtain ⟨c0, c1⟩ := hc
      generalize sumW (l.take k) = s at *
      have HN := Lib.hid hsn
      clear hsn hA
      go_wp2_with fail
      go_roundw
      case rel => exact ⟨k + 1, by omega, by go_num, by rw [HN.out], gr_alloc hgr _⟩
      case measure => simp [intOf]; omega
    · have hkl : ¬ (k : Int) < (l.length : Int) := by omega
      have hd : l.take k = l := List.take_of_length_le (by omega)
      rw [hd]
      clear hd
      go_wp2_with fail
      go_ret
      exact ⟨rfl, hgr⟩

set_option maxHeartbeats 1000000 in
theorem rested_any (v : Value) (l : List (Int × Int)) (w : World) (hl : Wins w v l) (hn : l.length ≤ 3000) (hb : ∀ p ∈ l, 0 ≤ p.1 ∧ p.1 ≤ 345686400001 ∧ 0 ≤ p.2 ∧ p.2 ≤ 345686400001 ∧ -1 ≤ p.2 - p.1) :
    Calls Try.prog 41 #[v] w fun r w' => r = .returned (.int .i64 (sumW l)) ∧ w.grownBy w' none := by
  obtain ⟨A, ca, rfl, ha, hA⟩ := WinsFrom.shape hl
  have HL := Lib.hid hl
  have HSB := Lib.hid (sumW_bd l (fun p hp => by have := hb p hp; omega))
  have HSN := Lib.hid (sumW_snoc l)
  have HB := Lib.hid hb
  clear hl hb
  go_enter Try.func41, Try.ntmps41
  go_wp2_with fail
  go_loopw [3, 8] (fun s i wr => ∃ k : Nat, k ≤ l.length ∧ i = .int .i64 k ∧ s = .int .i64 (sumW (l.take k)) ∧ w.grownBy wr none) (fun _ i _ => l.length - (intOf i).toNat)
  case atStart => exact ⟨0, by omega, rfl, rfl, gr_refl _ _⟩
  case round =>
    obtain ⟨k, hk, rfl, rfl, hgr⟩ := hrel
    have hsb := HSB.out k hk
    by_cases hlt : k < l.length
    · obtain ⟨ga, rfl, _, _⟩ := hA (by omega)
      have hkl : (k : Int) < (l.length : Int) := by omega
      have hc := WinsFrom.at1 (HL.out.grown hgr) k hlt
      have hm := HB.out l[k] (List.getElem_mem hlt)
      have hsn := HSN.out k hlt
      have hgl : ga < wr.heap.size := ((HL.out.grown hgr).lt ga rfl).2
      generalize l[k].1 = x at *
      generalize l[k].2 = y at *
      obtain ⟨c0, c1⟩ := hc
      generalize sumW (l.take k) = s at *
      have HN := Lib.hid hsn
      clear hsn hA
      go_wp2_with fail
      go_roundw
      case rel => exact ⟨k + 1, by omega, by go_num, by rw [HN.out], gr_alloc hgr _⟩
      case measure => simp [intOf]; omega
    · have hkl : ¬ (k : Int) < (l.length : Int) := by omega
      have hd : l.take k = l := List.take_of_length_le (by omega)
      rw [hd]
      clear hd
      go_wp2_with fail
      go_ret
      exact ⟨rfl, hgr⟩

/-- What is known of the rests. -/
theorem offL_mem (l : List Int) (a to_ least : Int) (h : timesE l a to_ = 0) (hm : 1 ≤ least) : ∀ p ∈ offL l a to_ least, 0 ≤ p.1 ∧ p.1 ≤ 345686400001 ∧ 0 ≤ p.2 ∧ p.2 ≤ 345686400001 ∧ -1 ≤ p.2 - p.1 := by
  have O := timesE_ok h
  intro p hp
  have h1 := List.mem_filter.1 hp
  have h2 := gapsL_mem 1 0 345686400001 (l ++ [to_]) a (by have := O.a0; omega) (by have := O.ato; have := O.to_; omega) (fun x hx => by
    rcases List.mem_append.1 hx with h | h
    · have := O.mem x h; have := O.a0; have := O.to_; omega
    · simp at h; subst h; have := O.a0; have := O.ato; have := O.to_; omega) (by omega) p h1.1
  have h3 : least ≤ p.2 - p.1 := by simpa [longB] using h1.2
  omega
theorem offL_len (l : List Int) (a to_ least : Int) : (offL l a to_ least).length ≤ l.length + 1 := by
  have h1 : (offL l a to_ least).length ≤ (gapsL 1 a (l ++ [to_])).length := List.length_filter_le _ _
  rw [gapsL_len] at h1
  simpa using h1

def restE (l : List Int) (a z least : Int) : Int := orE (timesE l a z) (spanE least 1000 86400000)
set_option maxHeartbeats 1000000 in
theorem restFault_any (base : Nat) (v : Value) (l : List Int) (a z least : Int) (w : World) (hl : IntsFrom base w v l) (hto : -1152921504606846976 ≤ z) (hto2 : z ≤ 1152921504606846976) :
    Calls Try.prog 28 #[v, .agg #[.int .i64 a, .int .i64 z], .int .i64 least] w fun r w' => r = .returned (.int .i64 (restE l a z least)) ∧ w.grownBy w' none := by
  have hG := World.grownBy_alloc w (.cells #[.int .i64 a, .int .i64 z] 27) none
  have HL := Lib.hid (hl.grown hG)
  clear hl
  obtain ⟨T, hTd⟩ : ∃ T, timesE l a z = T := ⟨_, rfl⟩
  have hEd : restE l a z least = orE T (spanE least 1000 86400000) := by unfold restE; rw [hTd]
  have HT := Lib.hid hTd
  have HE := Lib.hid hEd
  clear hTd hEd
  by_cases hT : T = 0
  · have b0 : (T != 0) = false := by simpa using hT
    have H0 := Lib.hid hT
    clear hT
    rcases spanE_cases least 1000 86400000 with ⟨hs, h1, h2⟩ | ⟨hs, h1⟩
    · have HO := Lib.hid (outB_no h1 h2)
      have HS := Lib.hid hs
      clear hs h1 h2
      go_enter Try.func28, Try.ntmps28
      go_wp2_with fail
      refine (checkTimes_any base _ _ _ _ _ HL.out hto hto2).mono ?_
      rintro _ w1 ⟨rfl, hg⟩
      rw [HT.out]
      go_wp2_with fail
      refine (outside_any _ _ _ _).mono ?_
      rintro _ w' ⟨rfl, rfl⟩
      rw [HO.out]
      go_wp2_with fail
      go_ret
      exact ⟨by rw [HE.out, orE_z H0.out, HS.out]; rfl, gr_trans hG hg⟩
    · have HO := Lib.hid (outB_yes h1)
      have HS := Lib.hid hs
      clear hs h1
      go_enter Try.func28, Try.ntmps28
      go_wp2_with fail
      refine (checkTimes_any base _ _ _ _ _ HL.out hto hto2).mono ?_
      rintro _ w1 ⟨rfl, hg⟩
      rw [HT.out]
      go_wp2_with fail
      refine (outside_any _ _ _ _).mono ?_
      rintro _ w' ⟨rfl, rfl⟩
      rw [HO.out]
      go_wp2_with fail
      go_ret
      exact ⟨by rw [HE.out, orE_z H0.out, HS.out]; rfl, gr_trans hG hg⟩
  · have b0 : (T != 0) = true := by rw [bne_iff_ne]; exact hT
    have H0 := Lib.hid hT
    clear hT
    go_enter Try.func28, Try.ntmps28
    go_wp2_with fail
    refine (checkTimes_any base _ _ _ _ _ HL.out hto hto2).mono ?_
    rintro _ w1 ⟨rfl, hg⟩
    rw [HT.out]
    go_wp2_with fail
    go_ret
    exact ⟨by rw [HE.out, orE_ne H0.out]; rfl, gr_trans hG hg⟩

def offAll (l : List Int) (a z least : Int) : List (Int × Int) := if restE l a z least = 0 then offL l a z least else []
def workAll (l : List Int) (a z least : Int) : Int := if restE l a z least = 0 then z - a - sumW (offL l a z least) else 0
theorem restE_0 {l : List Int} {a z least : Int} (h : restE l a z least = 0) : timesE l a z = 0 ∧ 1000 ≤ least ∧ least ≤ 86400000 := by
  obtain ⟨h1, h2⟩ := orE_0' h
  rcases spanE_cases least 1000 86400000 with ⟨_, h3, h4⟩ | ⟨h3, _⟩
  · exact ⟨h1, h3, h4⟩
  · omega

set_option maxHeartbeats 1000000 in
theorem off_new (base : Nat) (v : Value) (l : List Int) (a z least : Int) (w : World) (hl : IntsFrom base w v l) (hto : -1152921504606846976 ≤ z) (hto2 : z ≤ 1152921504606846976) :
    Calls Try.prog 11 #[v, .agg #[.int .i64 a, .int .i64 z], .int .i64 least] w fun r w' => ∃ u, r = .returned (.tuple #[u, .int .i64 (restE l a z least)]) ∧ WinsFrom w.heap.size w' u (offAll l a z least) ∧ w.grownBy w' none := by
  have hG := World.grownBy_alloc w (.cells #[.int .i64 a, .int .i64 z] 27) none
  have hx0 := Blk.new w 27 #[.int .i64 a, .int .i64 z]
  have HL := Lib.hid (hl.grown hG)
  clear hl
  obtain ⟨E, hEd⟩ : ∃ E, restE l a z least = E := ⟨_, rfl⟩
  rw [hEd]
  have HE := Lib.hid hEd
  clear hEd
  by_cases h0 : E = 0
  · have b0 : (E != 0) = false := by simpa using h0
    obtain ⟨t0, m0, m1⟩ := restE_0 (HE.out.trans h0)
    have HF : Hid (offAll l a z least = offL l a z least) := by show _ = _; unfold offAll; rw [HE.out, if_pos h0]
    have H0 := Lib.hid h0
    have HT := Lib.hid t0
    clear h0 t0
    go_enter Try.func11, Try.ntmps11
    go_wp2_with fail
    refine (restFault_any base _ _ _ _ _ _ HL.out hto hto2).mono ?_
    rintro _ w1 ⟨rfl, hg⟩
    rw [HE.out]
    have c0 : w1.cell? ⟨w.heap.size, 0, none⟩ = some (.int .i64 a) := (hx0.grown hg (by simp)).cell 0
    have c1 : w1.cell? ⟨w.heap.size, 1, none⟩ = some (.int .i64 z) := (hx0.grown hg (by simp)).cell 1
    go_wp2_with fail
    refine (rests_ok base _ _ _ _ _ _ (HL.out.grown hg) HT.out (by omega) (by omega)).mono ?_
    rintro _ w2 ⟨u, rfl, hu, hg2⟩
    have HU : Hid (WinsFrom w.heap.size w2 u _) := WinsFrom.lowTo hu (by have := (gr_trans hG hg).size; omega)
    clear hu
    go_wp2_with fail
    go_ret2
    exact ⟨u, by rw [H0.out]; rfl, by rw [HF.out]; exact HU.out, gr_trans (gr_trans hG hg) hg2⟩
  · have b0 : (E != 0) = true := by rw [bne_iff_ne]; exact h0
    have HF : Hid (offAll l a z least = []) := by show _ = _; unfold offAll; rw [HE.out, if_neg h0]
    clear h0
    go_enter Try.func11, Try.ntmps11
    go_wp2_with fail
    refine (restFault_any base _ _ _ _ _ _ HL.out hto hto2).mono ?_
    rintro _ w1 ⟨rfl, hg⟩
    rw [HE.out]
    go_wp2_with fail
    go_ret2
    exact ⟨_, rfl, by rw [HF.out]; exact WinsFrom.nil _ _, gr_trans hG hg⟩
theorem off_all (base : Nat) (v : Value) (l : List Int) (a z least : Int) (w : World) (hl : IntsFrom base w v l) (hto : -1152921504606846976 ≤ z) (hto2 : z ≤ 1152921504606846976) :
    Calls Try.prog 11 #[v, .agg #[.int .i64 a, .int .i64 z], .int .i64 least] w fun r w' => ∃ u, r = .returned (.tuple #[u, .int .i64 (restE l a z least)]) ∧ Wins w' u (offAll l a z least) ∧ w.grownBy w' none :=
  (off_new base v l a z least w hl hto hto2).mono fun _ _ ⟨u, he, hu, hg⟩ => ⟨u, he, WinsFrom.low hu, hg⟩


set_option maxHeartbeats 1000000 in
theorem worked_all (base : Nat) (v : Value) (l : List Int) (a z least : Int) (w : World) (hl : IntsFrom base w v l) (hto : -1152921504606846976 ≤ z) (hto2 : z ≤ 1152921504606846976) :
    Calls Try.prog 12 #[v, .agg #[.int .i64 a, .int .i64 z], .int .i64 least] w fun r w' => r = .returned (.tuple #[.int .i64 (workAll l a z least), .int .i64 (restE l a z least)]) ∧ w.grownBy w' none := by
  have hG := World.grownBy_alloc w (.cells #[.int .i64 a, .int .i64 z] 27) none
  have hx0 := Blk.new w 27 #[.int .i64 a, .int .i64 z]
  have HL := Lib.hid (hl.grown hG)
  clear hl
  obtain ⟨E, hEd⟩ : ∃ E, restE l a z least = E := ⟨_, rfl⟩
  rw [hEd]
  have HE := Lib.hid hEd
  clear hEd
  by_cases h0 : E = 0
  · have b0 : (E != 0) = false := by simpa using h0
    obtain ⟨t0, m0, m1⟩ := restE_0 (HE.out.trans h0)
    have HF : Hid (workAll l a z least = z - a - sumW (offL l a z least)) := by show _ = _; unfold workAll; rw [HE.out, if_pos h0]
    have O := timesE_ok t0
    have o1 := O.a0
    have o2 := O.ato
    have o3 := O.to_
    have o4 := O.len
    have hln := offL_len l a z least
    have HM := Lib.hid (offL_mem l a z least t0 (by omega))
    have hsb := sumW_bd (offL l a z least) (fun p hp => by have := HM.out p hp; omega) (offL l a z least).length (Nat.le_refl _)
    rw [List.take_length] at hsb
    have H0 := Lib.hid h0
    have HT := Lib.hid t0
    clear h0 t0 O
    go_enter Try.func12, Try.ntmps12
    go_wp2_with fail
    refine (restFault_any base _ _ _ _ _ _ HL.out hto hto2).mono ?_
    rintro _ w1 ⟨rfl, hg⟩
    rw [HE.out]
    replace hx0 := hx0.grown hg (by simp)
    have c0 : w1.cell? ⟨w.heap.size, 0, none⟩ = some (.int .i64 a) := hx0.cell 0
    have c1 : w1.cell? ⟨w.heap.size, 1, none⟩ = some (.int .i64 z) := hx0.cell 1
    obtain ⟨S, hSd⟩ : ∃ S, sumW (offL l a z least) = S := ⟨_, rfl⟩
    rw [hSd] at hsb
    have HSd := Lib.hid hSd
    have e1 : IntKind.i64.wrap (z - a) = z - a := IntWalk.i64_in _ ⟨by omega, by omega⟩
    have e2 : IntKind.i64.wrap (z - a - S) = z - a - S := IntWalk.i64_in _ ⟨by omega, by omega⟩
    have KX : Hid (∀ W' : World, w1.grownBy W' none → W'.cell? ⟨w.heap.size, 0, none⟩ = some (.int .i64 a) ∧ W'.cell? ⟨w.heap.size, 1, none⟩ = some (.int .i64 z) ∧ w1.grownBy W' none) :=
      fun W' hW => ⟨(hx0.grown hW (by simp)).cell 0, (hx0.grown hW (by simp)).cell 1, hW⟩
    have HL1 := Lib.hid (HL.out.grown hg)
    clear hSd c0 c1
    go_wp2_with fail
    go_region_held3 (fun W' => W'.cell? ⟨w.heap.size, 0, none⟩ = some (.int .i64 a) ∧ W'.cell? ⟨w.heap.size, 1, none⟩ = some (.int .i64 z) ∧ w1.grownBy W' none)
      ((exact KX.out _ (by repeat (first | exact gr_refl _ _ | assumption | refine gr_drew ?_ | refine gr_alloc ?_ _ | refine gr_trans ?_ (by assumption)))))
      (first | (go_at_call 29; refine (rests_ok base _ _ _ _ _ _ (HL1.out.grown (by repeat (first | exact gr_refl _ _ | assumption | refine gr_alloc ?_ _ | refine gr_drewN ?_ _ | refine gr_drew ?_))) HT.out (by omega) (by omega)).mono ?_; rintro _ w2 ⟨u, rfl, hu, hg2⟩; have HU := Lib.hid (WinsFrom.low hu); clear hu) | (go_at_call 30; refine (longOf_any _ _ _ HU.out (by omega) HM.out).mono ?_; rintro _ w3 ⟨rfl, hg3⟩; rw [HSd.out]) | fail)
    go_wp2_with fail
    go_ret2
    exact ⟨by rw [HF.out, HSd.out, H0.out]; rfl, gr_trans (gr_trans hG hg) (by repeat (first | exact gr_refl _ _ | assumption | refine gr_drew ?_ | refine gr_alloc ?_ _ | refine gr_trans ?_ (by assumption)))⟩
  · have b0 : (E != 0) = true := by rw [bne_iff_ne]; exact h0
    have HF : Hid (workAll l a z least = 0) := by show _ = _; unfold workAll; rw [HE.out, if_neg h0]
    clear h0
    go_enter Try.func12, Try.ntmps12
    go_wp2_with fail
    refine (restFault_any base _ _ _ _ _ _ HL.out hto hto2).mono ?_
    rintro _ w1 ⟨rfl, hg⟩
    rw [HE.out]
    go_wp2_with fail
    go_ret2
    exact ⟨by rw [HF.out]; rfl, gr_trans hG hg⟩
end Go.Proofs.Ytlbhphfmckhimaa
