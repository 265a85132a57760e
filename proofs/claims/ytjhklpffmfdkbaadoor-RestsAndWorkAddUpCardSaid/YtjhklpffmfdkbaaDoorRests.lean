/- The walks over rate.rests and rate.longOf. Condition: times without error; a least length from 1 to 10^9. -/
import Derived.Test.YtjhklpffmfdkbaaDoorRateGap
import Derived.Test.YtjhklpffmfdkbaaDoorRateGaps
namespace Go.Proofs.YtjhklpffmfdkbaaDoor
open Go.RowKit
set_option linter.unusedVariables false

/-- The rests that are long enough. -/
def longB (least : Int) (p : Int × Int) : Bool := decide (least ≤ p.2 - p.1)
def restsL (least f : Int) (ll : List Int) : List (Int × Int) := (gapsL 1 f ll).filter (longB least)
theorem restsL_cons (least f x : Int) (r : List Int) : restsL least f (x :: r) = (if longB least (f, x) then [(f, x)] else []) ++ restsL least (x + 1) r := by
  unfold restsL
  rw [gapsL, List.filter_cons]
  by_cases h : longB least (f, x) = true
  · rw [if_pos h, if_pos h]; rfl
  · rw [if_neg h, if_neg h]; rfl
def offL (l : List Int) (a zt least : Int) : List (Int × Int) := restsL least a (l ++ [zt])

set_option maxRecDepth 100000 in
set_option maxHeartbeats 4000000 in
theorem rests_ok (base : Nat) (v : Value) (l : List Int) (a zt least : Int) (w : World) (hl : IntsFrom base w v l) (hE : timesE l a zt = 0) (hm0 : 1 ≤ least) (hm1 : least ≤ 1000000000) :
    Calls Tryd.prog 60 #[v, .agg #[.int .i64 a, .int .i64 zt], .int .i64 least] w fun r w' => ∃ u, r = .returned u ∧ WinsFrom (w.heap.size + 1) w' u (offL l a zt least) ∧ w.grownBy w' none := by
  have O := timesE_ok hE
  obtain ⟨i0, hi, hz0, hz1, hz2⟩ := info_parts intInfo
  obtain ⟨j0, hj, hy0, hy1, hy2⟩ := info_parts winInfo
  have hto := O.to_
  have ha0 := O.a0
  have hato := O.ato
  have hll := O.len
  have hG := World.grownBy_alloc w (.cells #[.int .i64 a, .int .i64 zt] 27) none
  have HL2 := Lib.hid (hl.grown hG)
  have hx2 := Blk.new w 27 #[.int .i64 a, .int .i64 zt]
  have hxl := hx2.lt
  have HO := Lib.hid O
  have HE := Lib.hid hE
  clear hl O hE
  go_enter Tryd.func60, Tryd.ntmps60
  go_wp2_with fail
  generalize w.alloc (.cells #[.int .i64 a, .int .i64 zt] 27) = W at *
  have KX : Hid (∀ W' : World, W.grownBy W' none → W'.cell? ⟨w.heap.size, 1, none⟩ = some (.int .i64 zt) ∧ W.grownBy W' none) := fun W' hW => ⟨(hx2.grown hW (by simp)).cell 1, hW⟩
  go_region_held3 (fun W' => W'.cell? ⟨w.heap.size, 1, none⟩ = some (.int .i64 zt) ∧ W.grownBy W' none)
    ((exact KX.out _ (by first | exact gr_refl _ _ | exact gr_drew (gr_refl _ _) | exact gr_drew (gr_alloc (gr_refl _ _) _) | exact hgA | exact gr_alloc hgA _ | exact gr_grown (gr_alloc hgA _) hgr (fun k hk => .inr (hu.lt k hk).1) | exact gr_grown hgA hgr (fun k hk => .inr (hu.lt k hk).1) | fail)))
    (first | (go_at_call 86; refine (clone_any base _ _ _ (HL2.out.grown (by first | exact gr_drew (gr_refl _ _) | exact gr_drew (gr_alloc (gr_refl _ _) _))) (by have := HO.out.len; omega)).mono ?_; rintro _ w2 ⟨u, rfl, hu0, hgA0⟩; have hgA : W.grownBy w2 none := gr_trans (by first | exact gr_drew (gr_refl _ _) | exact gr_drew (gr_alloc (gr_refl _ _) _)) hgA0; have hu : w2.ownsRow W.heap.size 3 1 u l.length (l.map (Value.int .i64)) := ownsRow_low hu0 (by simp); clear hu0) | (refine step_append_lies _ (by rfl) (.tmp 14) (.tmp 17) 22 (by rfl) W.heap.size 3 i0 _ 1 8 Tryd.underlying22 hi hz0 hz1 hz2 rfl (by decide) u l.length (l.map (Value.int .i64)) (by simp [Act.eval]) (hu.alloc _) ⟨w2.heap.size, 0, none⟩ 1 1 [.int .i64 zt] (by simp [Act.eval]) rfl (one_cell w2 zt _) (one_oneCell zt) (by decide) (by unfold maxLen; omega) (by omega) (by have := hgA.size; simp; omega) _ rfl ?_; intro g cap w3 hown hgr hat hglt) | (refine step_append_lies _ (by rfl) (.tmp 14) (.tmp 17) 22 (by rfl) W.heap.size 3 i0 _ 1 8 Tryd.underlying22 hi hz0 hz1 hz2 rfl (by decide) u l.length (l.map (Value.int .i64)) (by simp [Act.eval]) hu ⟨W.heap.size, 0, none⟩ 1 1 [.int .i64 zt] (by simp [Act.eval]) rfl (one_kept hgA0) (one_oneCell zt) (by decide) (by unfold maxLen; omega) (by omega) hgA.size _ rfl ?_; intro g cap w3 hown hgr hat hglt) | fail)
  all_goals
    have hgB := (hown.lt g rfl).1
    have hG3 : W.grownBy w3 none := by
      first
        | exact gr_grown (gr_alloc hgA _) hgr (fun k hk => .inr (hu.lt k hk).1)
        | exact gr_grown hgA hgr (fun k hk => .inr (hu.lt k hk).1)
    have hgl : ∀ k, (hk : k < (l ++ [zt]).length) → ∀ W', w3.grownBy W' none → W'.cell? ⟨g, k, none⟩ = some (.int .i64 (l ++ [zt])[k]) := fun k hk W' hW => by
      have h1 := (ownsRow_grown hown hW).cellAt k (by simpa using hk)
      rw [h1]
      by_cases hkl : k < l.length
      · rw [List.getElem?_append_left (by simpa using hkl), List.getElem_append_left hkl]
        simp [hkl]
      · have : k = l.length := by simp at hk; omega
        subst this
        simp
    have HGL := Lib.hid hgl
    have hmemb : ∀ x ∈ l ++ [zt], 0 ≤ x ∧ x ≤ 345686400000 := fun x hx => by
      rcases List.mem_append.1 hx with h | h
      · have := HO.out.mem x h; omega
      · simp at h; omega
    have HMB := Lib.hid hmemb
    have hll2 : (l ++ [zt]).length = l.length + 1 := by simp
    have HB0 : Hid (offL l a zt least = restsL least a (l ++ [zt])) := rfl
    generalize l ++ [zt] = ll at *
    have HL3 := Lib.hid hll2
    have hsz3 := hG3.size
    clear hgl hmemb hll2 hown hgr hat hu hgA hgA0 KX
    go_wp2_with fail
    go_loopw [7, 8, 20] (fun o f i wr => ∃ (k : Nat) (out : List (Int × Int)) (f' : Int), k ≤ l.length + 1 ∧ i = .int .i64 k ∧ f = .int .i64 f' ∧ Hid (offL l a zt least = out ++ restsL least f' (ll.drop k)) ∧ out.length ≤ k ∧ WinsFrom w3.heap.size wr o out ∧ w3.grownBy wr none ∧ 0 ≤ f' ∧ f' ≤ 345686400001) (fun _ _ i _ => l.length + 1 - (intOf i).toNat)
    case atStart => exact ⟨0, [], a, by omega, rfl, rfl, HB0, by simp, WinsFrom.nil _ _, gr_refl _ _, by omega, by omega⟩
    case round =>
      obtain ⟨k, out, f, hk, rfl, rfl, HR, hol, hown, hgr, hf0, hf1⟩ := hrel
      obtain ⟨A2, c2, hO, hlen2, _⟩ := hown.shape
      subst hO
      by_cases hlt : k < l.length + 1
      · have hkl : (k : Int) < (l.length : Int) + 1 := by omega
        have hlt2 : k < ll.length := by have := HL3.out; omega
        have cx := HGL.out k hlt2 wr hgr
        have hxm := HMB.out ll[k] (List.getElem_mem hlt2)
        have hd := List.drop_eq_getElem_cons hlt2
        obtain ⟨x, hx⟩ : ∃ x, x = ll[k] := ⟨_, rfl⟩
        rw [← hx] at cx hxm hd
        have HS : Hid (offL l a zt least = out ++ ((if longB least (f, x) then [(f, x)] else []) ++ restsL least (x + 1) (ll.drop (k + 1)))) := by show _ = _; rw [HR.out, hd, restsL_cons]
        clear hx hd HR
        have hownA : wr.ownsRow w3.heap.size 27 2 (.slice A2 out.length c2) out.length (wcells out) := hown
        have hszr := hgr.size
        by_cases hq : least ≤ x - f
        · have HN : Hid (offL l a zt least = (out ++ [(f, x)]) ++ restsL least (x + 1) (ll.drop (k + 1))) := by
            show _ = _; rw [HS.out, if_pos (by simpa [longB] using hq), List.append_assoc]
          go_wp2_with (at_builtin; refine wpList_append_own _ rfl _ _ 59 rfl w3.heap.size 27 j0 _ 2 16 Tryd.underlying59 hj hy0 hy1 hy2 rfl (by decide) _ _ _ rfl (hownA.alloc _) ⟨wr.heap.size, 0, none⟩ 1 1 [.int .i64 f, .int .i64 x] rfl rfl (two_cells wr f x _) (two_oneCell f x) (by unfold maxLen; omega) (by omega) (by simp; omega) ?_; intro v' w4 hownB hgrB _)
          have hgF : w3.grownBy w4 none := gr_grown (gr_alloc hgr _) hgrB (fun kk h => .inr (hownA.lt kk h).1)
          have hw9 : WinsFrom w3.heap.size w4 v' (out ++ [(f, x)]) := by
            unfold WinsFrom; rw [wcells_snoc, List.length_append]; exact hownB
          go_wp2_with fail
          go_roundw
          case rel => exact ⟨k + 1, out ++ [(f, x)], x + 1, by omega, by go_num, rfl, HN, by simp; omega, hw9, hgF, by omega, by omega⟩
          case measure => simp [intOf]; omega
        · have HN : Hid (offL l a zt least = out ++ restsL least (x + 1) (ll.drop (k + 1))) := by
            show _ = _; rw [HS.out, if_neg (by simpa [longB] using hq), List.nil_append]
          go_wp2_with fail
          go_roundw
          case rel => exact ⟨k + 1, out, x + 1, by omega, by go_num, rfl, HN, by omega, hown, hgr, by omega, by omega⟩
          case measure => simp [intOf]; omega
      · have hkl : ¬ (k : Int) < (l.length : Int) + 1 := by omega
        have hd : ll.drop k = [] := List.drop_eq_nil_of_le (by have := HL3.out; omega)
        have HF : Hid (offL l a zt least = out) := by show _ = _; rw [HR.out, hd]; simp [restsL, gapsL]
        clear hd
        go_wp2_with fail
        go_ret
        rw [HF.out]
        exact ⟨_, rfl, WinsFrom.lowTo hown (by omega), gr_trans (gr_trans hG hG3) hgr⟩
end Go.Proofs.YtjhklpffmfdkbaaDoor
