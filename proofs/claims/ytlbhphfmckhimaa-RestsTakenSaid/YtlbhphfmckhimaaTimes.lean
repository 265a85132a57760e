/- The walk over the stream's TimesOf: a list of at most 20 numbers and a window. Condition: the stream has handed out at most 10^10 numbers. -/
import Derived.Test.YtlbhphfmckhimaaStreamA
import Derived.Test.YtlbhphfmckhimaaInts
namespace Go.Proofs.Ytlbhphfmckhimaa
open Go.RowKit
set_option linter.unusedVariables false

def sliceLen : Value → Nat
  | .slice _ n _ => n
  | _ => 0
theorem IntsFrom.take {base : Nat} {w : World} {A : Option Addr} {c : Nat} {l : List Int} (h : IntsFrom base w (.slice A l.length c) l) (m : Nat) (hm : m ≤ l.length) : IntsFrom base w (.slice A m c) (l.take m) := by
  have hl : (l.take m).length = m := by simp; omega
  unfold IntsFrom
  rw [hl]
  refine ⟨by simp; omega, ?_⟩
  rcases h.2 with ⟨h1, h2⟩ | ⟨g, cap, cur, h1, h2, h3, h4, h5, h6, h7⟩
  · injection h1 with e1 e2 e3
    subst e1; subst e3
    exact .inl ⟨by rw [show m = 0 by omega], by omega⟩
  · injection h1 with e1 e2 e3
    subst e1; subst e3
    refine .inr ⟨g, _, cur, rfl, h2, h3, by omega, h5, h6, ?_⟩
    rw [List.map_take, ← h7, List.take_take]
    congr 1
    omega

theorem IntsFrom.cap {base : Nat} {w : World} {A : Option Addr} {c n : Nat} {l : List Int} (h : IntsFrom base w (.slice A n c) l) : n ≤ c := by
  rcases h.2 with ⟨h1, h2⟩ | ⟨g, cap, cur, h1, h2, h3, h4, h5, h6, h7⟩
  · injection h1 with e1 e2 e3
    omega
  · injection h1 with e1 e2 e3
    omega

def TimesPost (b k : Nat) (w : World) (e : Ending) (w' : World) : Prop :=
  ∃ (v : Value) (l : List Int) (a zt : Int), e = .returned (.tuple #[v, .agg #[.int .i64 a, .int .i64 zt]]) ∧ IntsFrom w.heap.size w' v l ∧ l.length ≤ 20 ∧ 0 ≤ a ∧ a ≤ 1000 ∧ 0 ≤ zt ∧ (zt ≤ 30000000 ∨ zt = 345686400001) ∧ Str w' b (k + 40) ∧ w.grownBy w' (some b)

set_option maxRecDepth 100000 in
set_option maxHeartbeats 4000000 in
theorem timesOf_in (b k : Nat) (w : World) (hs : Str w b k) (hk : k ≤ 10000000000) :
    Calls Try.prog 4 #[.pointer (some ⟨b, 0, none⟩)] w (TimesPost b k w) := by
  obtain ⟨i0, hi, hz0, hz1, hz2⟩ := info_parts intInfo
  have hbs := hs.lt
  have hs0 := hs.alloc (.cells #[.int .i64 0, .int .i64 0] 27)
  have hr0 := Blk.new w 27 #[.int .i64 0, .int .i64 0]
  have hG0 := World.grownBy_alloc w (.cells #[.int .i64 0, .int .i64 0] 27) (some b)
  go_enter Try.func4, Try.ntmps4
  go_wp2_with fail
  refine (pick_at b k _ 2 2 [0, 1000] _ hs0 (by simp) (by omega) rfl (by decide) (by decide)).mono ?_
  rintro e w1 ⟨a, ha, rfl, hs1, hg1⟩
  have hab : 0 ≤ a ∧ a ≤ 1000 := by simp at ha; omega
  have hr1 := hr0.grown hg1 (by simp; omega)
  have hG1 := gr_trans hG0 hg1
  clear ha hs0 hr0 hG0 hg1
  go_wp2_with fail
  refine (pick_at b _ _ 4 4 [3600000, 5000000, 9000000, 30000000] _ hs1 rfl (by omega) rfl (by decide) (by decide)).mono ?_
  rintro e w2 ⟨zt, hto, rfl, hs2, hg2⟩
  have htob : 0 ≤ zt ∧ zt ≤ 30000000 := by simp at hto; omega
  have hr2 := hr1.grown hg2 (by simp; omega)
  have hG2 := gr_trans hG1 hg2
  clear hto hs1 hr1 hG1 hg2
  have hx3 := Blk.new w2 27 #[.int .i64 a, .int .i64 zt]
  have hr3 := hr2.alloc (.cells #[.int .i64 a, .int .i64 zt] 27)
  have hs3 := hs2.alloc (.cells #[.int .i64 a, .int .i64 zt] 27)
  have hG3 := gr_alloc hG2 (.cells #[.int .i64 a, .int .i64 zt] 27)
  have hrB := hr2.lt
  have hBlt := hx3.lt
  go_wp2_with fail
  generalize w2.alloc (.cells #[.int .i64 a, .int .i64 zt] 27) = W at *
  generalize w2.heap.size = B at *
  clear hr2 hs2 hG2
  refine (range_in b _ _ _ _ hs3 (by omega) (by omega) (by omega) (by omega)).mono ?_
  rintro e w4 ⟨n, hn0, hn1, rfl, hs4, hg4⟩
  have hx4 := hx3.grown hg4 (by simp; omega)
  have hr4 := hr3.grown hg4 (by simp; omega)
  have hG4 := gr_trans hG3 hg4
  have hB4 := hx4.lt
  clear hx3 hr3 hs3 hG3 hg4
  go_wp2_with fail
  go_loopw [5, 6, 18] (fun o t i wr => ∃ (out : List Int) (t' : Int) (j : Nat), j ≤ 12 ∧ (j : Int) ≤ n ∧ i = .int .i64 j ∧ t = .int .i64 t' ∧ 0 ≤ t' ∧ t' ≤ 1000 + 1800000 * (j : Int) ∧ out.length = j ∧ IntsFrom w4.heap.size wr o out ∧ Str wr b (k + 3 + j) ∧ Blk wr B 27 #[.int .i64 a, .int .i64 zt] ∧ w4.grownBy wr (some b)) (fun _ _ i _ => 12 - (intOf i).toNat)
  case atStart => exact ⟨[], a, 0, by omega, by omega, rfl, rfl, by omega, by omega, rfl, IntsFrom.nil _ _, hs4, hx4, gr_refl _ _⟩
  case round =>
    obtain ⟨out, t, j, hj, hjn, rfl, rfl, ht0, ht1, hol, hown, hsr, hxr, hgr⟩ := hrel
    obtain ⟨A2, c2, rfl, hlen2, hA2⟩ := hown.shape
    subst hol
    by_cases hlt : (out.length : Int) < n
    · go_wp2_with fail
      refine (pick_at b _ _ 6 6 [0, 1, 1000, 60000, 300000, 1800000] _ hsr rfl (by omega) rfl (by decide) (by decide)).mono ?_
      rintro e w5 ⟨d, hd, rfl, hs5, hg5⟩
      have hdb : 0 ≤ d ∧ d ≤ 1800000 := by simp at hd; omega
      have hx5 := hxr.grown hg5 (by simp; omega)
      have hG5 := gr_trans hgr hg5
      have hown1 : w5.ownsRow w4.heap.size 3 1 (.slice A2 out.length c2) out.length (out.map (Value.int .i64)) := hown.other hg5 (by have := hG4.size; omega)
      have hsz5 := hG5.size
      have hG4s := hG4.size
      clear hd hg5 hown hsr hA2
      go_wp2_with (at_builtin; refine wpList_append_own _ rfl _ _ 22 rfl w4.heap.size 3 i0 _ 1 8 Try.underlying22 hi hz0 hz1 hz2 rfl (by decide) _ _ _ rfl (hown1.alloc _) ⟨w5.heap.size, 0, none⟩ 1 1 [.int .i64 (t + d)] rfl rfl (one_cell w5 (t + d) _) (one_oneCell (t + d)) (by unfold maxLen; omega) (by omega) (by simp; omega) ?_; intro v' w6 hown2 hgrow2 _)
      have hrow : ∀ g, (Value.slice A2 out.length c2).ownBlock = some g → w4.heap.size ≤ g := fun g e => (hown1.lt g e).1
      have hG6 : w4.grownBy w6 (some b) := gr_grown (gr_alloc hG5 _) hgrow2 (fun g e => .inr (hrow g e))
      have hown3 : IntsFrom w4.heap.size w6 v' (out ++ [t + d]) := by
        unfold IntsFrom; rw [List.map_append, List.length_append]; exact hown2
      have hs6 : Str w6 b (k + 3 + (out.length + 1)) := ((hs5.alloc _).grown hgrow2 (fun g e => by have := hrow g e; omega)).mono (by omega)
      have hx6 : Blk w6 B 27 #[.int .i64 a, .int .i64 zt] := (hx5.alloc _).grown hgrow2 (fun e => by have := hrow B e.symm; omega)
      go_wp2_with fail
      go_roundw
      case rel => exact ⟨out ++ [t + d], t + d, out.length + 1, by omega, by omega, by go_num, rfl, by omega, by omega, by simp, hown3, hs6, hx6, hG6⟩
      case measure => simp [intOf]; omega
    · have HOWN : Hid (∀ W' : World, wr.grownBy W' none → ∀ m, m ≤ out.length → IntsFrom w4.heap.size W' (.slice A2 m c2) (out.take m)) := fun W' hW m hm => (hown.grown hW).take m hm
      have hcap := hown.cap
      have hz4 := hgr.size
      have hG5 := gr_trans hG4 hgr
      have hrr : Blk wr w.heap.size 27 #[.int .i64 0, .int .i64 0] := hr4.grown hgr (by simp; omega)
      have x1 : wr.cell? ⟨B, 1, none⟩ = some (.int .i64 zt) := hxr.cell 1
      have hnl : ¬ (out.length : Int) < n := hlt
      clear hown hgr hG4 hx4 hr4 hs4
      go_wp2_with fail
      --MARK1
      go_loopw [5] (fun o w6 => ∃ m q : Nat, m ≤ out.length ∧ o = .slice A2 m c2 ∧ w6 = wr.drewN q) (fun o _ => sliceLen o)
      case atStart => exact ⟨out.length, 0, by omega, rfl, rfl⟩
      case round =>
        obtain ⟨m, q, hm, rfl, rfl⟩ := hrel
        have hs6 : Str (wr.drewN q) b (k + 3 + out.length) := hsr.drewN q
        have hx6 : Blk (wr.drewN q) B 27 #[.int .i64 a, .int .i64 zt] := hxr.drewN q
        have hG6 : w.grownBy (wr.drewN q) (some b) := gr_drewN hG5 q
        have hy1 : (wr.drewN q).cell? ⟨B, 1, none⟩ = some (.int .i64 zt) := hx6.cell 1
        by_cases hc : ∃ j x, m = j + 1 ∧ out[j]? = some x ∧ zt ≤ x
        · obtain ⟨j, x, rfl, hjx, hxt⟩ := hc
          have hfull := HOWN.out wr (gr_refl _ _) out.length (Nat.le_refl _)
          rw [List.take_length] at hfull
          obtain ⟨g, rfl, hg0, hg1⟩ := hA2 (by omega)
          have hjl : j < out.length := by omega
          have cj : wr.cell? ⟨g, j, none⟩ = some (.int .i64 x) := by
            have h1 := hfull.at_ j hjl
            rw [h1]
            rw [List.getElem?_eq_getElem hjl] at hjx
            injection hjx with e; rw [e]
          have hj2 : (j : Int) < (j : Int) + 1 := by omega
          have hj3 : j < j + 1 := by omega
          have e1 : IntKind.i64.wrap (j : Int) = (j : Int) := IntWalk.i64_in _ ⟨by omega, by omega⟩
          have hj0 : (0 : Int) ≤ (j : Int) := by omega
          have hj1 : j < c2 := by omega
          have HJ := Lib.hid hjx
          clear hjx hfull hA2
          go_wp2_with fail
          go_quiet (fail)
          go_wp2_with fail
          go_roundw
          case rel => exact ⟨j, _, by omega, rfl, rfl⟩
          case measure => simp [sliceLen]
        · have hx : m = 0 ∨ ∃ j x, m = j + 1 ∧ out[j]? = some x ∧ x < zt := by
            rcases Nat.eq_zero_or_pos m with h | h
            · exact .inl h
            · refine .inr ⟨m - 1, out[m - 1]'(by omega), by omega, List.getElem?_eq_getElem (by omega), ?_⟩
              refine Int.not_le.1 fun h' => hc ⟨m - 1, out[m - 1]'(by omega), by omega, List.getElem?_eq_getElem (by omega), h'⟩
          have hG6' : ∀ n, w.grownBy (wr.drewN n) (some b) := fun n => gr_drewN hG5 n
          have HI : Hid (∀ n, IntsFrom w4.heap.size (wr.drewN n) (.slice A2 m c2) (out.take m)) := fun n => HOWN.out _ (gr_drewN (gr_refl _ _) _) m hm
          have HG := Lib.hid hG6'
          have hlo : w.heap.size ≤ w4.heap.size := by omega
          clear hG6' hs6 hx6 hG6 hG5 hc
          rcases hx with h0 | ⟨j, x, h0, hjx, hxt⟩
          case' inl =>
            have g0 : decide (0 < m) = false := by simp; omega
            have HZ := Lib.hid h0
            clear hA2 h0
            go_wp2_with fail
            go_quiet (fail)
          case' inr =>
            have hfull := HOWN.out wr (gr_refl _ _) out.length (Nat.le_refl _)
            rw [List.take_length] at hfull
            obtain ⟨g, rfl, hg0, hg1⟩ := hA2 (by omega)
            have hjl : j < out.length := by omega
            have cj : wr.cell? ⟨g, j, none⟩ = some (.int .i64 x) := by
              have h1 := hfull.at_ j hjl
              rw [h1]
              rw [List.getElem?_eq_getElem hjl] at hjx
              injection hjx with e; rw [e]
            have hnx : ¬ zt ≤ x := by omega
            have g0 : decide (0 < m) = true := by simp; omega
            have e1 : IntKind.i64.wrap ((m : Int) - 1) = (j : Int) := by rw [show (m : Int) - 1 = (j : Int) by omega]; exact IntWalk.i64_in _ ⟨by omega, by omega⟩
            have hj0 : (0 : Int) ≤ (j : Int) := by omega
            have hj1 : j < m := by omega
            have HJ := Lib.hid hjx
            have HZ := Lib.hid h0
            clear hjx hfull hA2 h0
            go_wp2_with fail
            go_quiet (fail)
            generalize (some (⟨g, 0, none⟩ : Addr)) = A2 at *
          all_goals
            go_wp2_with fail
            refine (flip_in _ _ _ _ (hsr.drewN _) (by omega) (by omega) (by omega)).mono ?_
            rintro e w7 ⟨fl, rfl, hs7, hg7⟩
            have hI7 : IntsFrom w4.heap.size w7 (.slice A2 m c2) (out.take m) := (HI.out _).other hg7 (by omega)
            have hx7 : Blk w7 B 27 #[.int .i64 a, .int .i64 zt] := (hxr.drewN _).grown hg7 (by simp; omega)
            have hr7 : Blk w7 w.heap.size 27 #[.int .i64 0, .int .i64 0] := (hrr.drewN _).grown hg7 (by simp; omega)
            have hz47 : w4.heap.size ≤ w7.heap.size := Nat.le_trans hz4 hg7.size
            have hG7 : w.grownBy w7 (some b) := gr_trans (HG.out _) hg7
            clear hg7
            have b0 := hx7.cell 0
            have b1 := hx7.cell 1
            have bf0 := hx7.free 0
            have bf1 := hx7.free 1
            simp only [List.getElem?_toArray, List.getElem?_cons_zero, List.getElem?_cons_succ] at b0 b1
            cases fl
            · have q0 := hr7.cell 0
              have q1 := hr7.cell 1
              have qf0 := hr7.free 0
              have qf1 := hr7.free 1
              simp only [List.getElem?_toArray, List.getElem?_cons_zero, List.getElem?_cons_succ] at q0 q1
              go_wp2_with fail
              go_region
              go_wp2_with fail
              have hf := ((hr7.put 0 (.int .i64 a)).put 1 (.int .i64 zt))
              have d0 := hf.cell 0
              have d1 := hf.cell 1
              simp at d0 d1
              refine bodyPost_ret (v := .tuple #[.slice A2 m c2, .agg #[.int .i64 a, .int .i64 zt]]) (by simp [results, Try.results4, go_sem, d0, d1]) rfl ?_
              have hP : ∀ W' : World, w7.grownBy W' (some w.heap.size) → TimesPost b k w (.returned (.tuple #[.slice A2 m c2, .agg #[.int .i64 a, .int .i64 zt]])) W' := fun W' hW =>
                ⟨_, out.take m, a, zt, rfl, ownsRow_low (hI7.other hW (by omega)) (by omega), by simp; omega, by omega, by omega, by omega, by omega, (hs7.grown hW (fun g e => by injection e with e; omega)).mono (by omega), gr_grown hG7 hW (fun g e => by injection e with e; exact .inr (by omega))⟩
              exact hP _ (by repeat (first | exact gr_refl _ _ | refine gr_drew ?_ | refine gr_put ?_ (.inl rfl) _))
            · have hnb : B ≠ b := by omega
              have hlt7 := hx7.lt
              go_wp2_with fail
              refine (pick_at b _ _ 3 3 [zt, a, 345686400001] _ hs7 rfl (by omega) rfl (by decide) (by decide)).mono ?_
              rintro e w8 ⟨to2, hto2, rfl, hs8, hg8⟩
              have htb2 : 0 ≤ to2 ∧ (to2 ≤ 30000000 ∨ to2 = 345686400001) := by simp at hto2; omega
              have hI8 := hI7.other hg8 (by omega)
              have hx8 := hx7.grown hg8 (by simp; omega)
              have hr8 := hr7.grown hg8 (by simp; omega)
              have hG8 := gr_trans hG7 hg8
              have c0 := hx8.cell 0
              have c1 := hx8.cell 1
              have cf0 := hx8.free 0
              have cf1 := hx8.free 1
              simp only [List.getElem?_toArray, List.getElem?_cons_zero, List.getElem?_cons_succ] at c0 c1
              have hs9 := hs8.setCell (p := ⟨B, 1, none⟩) (by show b < B; omega) (.int .i64 to2)
              have hz7 := hg8.size
              have hG9 : w.grownBy (w8.setCell ⟨B, 1, none⟩ (.int .i64 to2)) (some b) := gr_put hG8 (.inr (by show _ ≤ B; omega)) _
              have hI9 : IntsFrom w4.heap.size (w8.setCell ⟨B, 1, none⟩ (.int .i64 to2)) (.slice A2 m c2) (out.take m) := hI8.other (gr_put (gr_refl _ _) (.inl rfl) _) hB4
              have hx9 := hx8.put 1 (.int .i64 to2)
              have hr9 := hr8.far (p := ⟨B, 1, none⟩) (by show w.heap.size ≠ B; omega) (.int .i64 to2)
              clear hg8 hI7 hx7 hr7 hG7 b0 b1 bf0 bf1 hto2 hI8 hx8 hr8 hG8 hs7 hs8
              go_wp2_with fail
              refine (pick_at b _ _ 3 3 [0, to2, t] _ hs9 (by simp) (by omega) rfl (by decide) (by decide)).mono ?_
              rintro e w10 ⟨x2, hx2, rfl, hsA, hgA⟩
              have hIA := hI9.other hgA (by omega)
              have hxA := hx9.grown hgA (by simp; omega)
              have hrA := hr9.grown hgA (by simp; omega)
              have hGA := gr_trans hG9 hgA
              have hzA := hgA.size
              have hzw : w8.heap.size ≤ w10.heap.size := by simpa using hzA
              clear hgA hI9 hx9 hr9 hG9 hs9 c0 c1 cf0 cf1 hx2 hzA
              have hown1 : w10.ownsRow w4.heap.size 3 1 (.slice A2 m c2) m ((out.take m).map (Value.int .i64)) := by
                have h := hIA
                unfold IntsFrom at h
                rwa [show (out.take m).length = m by simp; omega] at h
              go_wp2_with (at_builtin; refine wpList_append_own _ rfl _ _ 22 rfl w4.heap.size 3 i0 _ 1 8 Try.underlying22 hi hz0 hz1 hz2 rfl (by decide) _ _ _ rfl (hown1.alloc _) ⟨w10.heap.size, 0, none⟩ 1 1 [.int .i64 x2] rfl rfl (one_cell w10 x2 _) (one_oneCell x2) (by unfold maxLen; omega) (by omega) (by simp; omega) ?_; intro v' w11 hown2 hgrow2 _)
              have hrow : ∀ g, (Value.slice A2 m c2).ownBlock = some g → w4.heap.size ≤ g := fun g e => (hown1.lt g e).1
              have hownB : IntsFrom w4.heap.size w11 v' (out.take m ++ [x2]) := by
                unfold IntsFrom; rw [List.map_append, List.length_append, show (out.take m).length = m by simp; omega]; exact hown2
              have hsB : Str w11 b (k + 40) := ((hsA.alloc _).grown hgrow2 (fun g e => by have := hrow g e; omega)).mono (by omega)
              have hxB := (hxA.alloc (.cells #[.int .i64 x2] 3)).grown hgrow2 (fun e => by have := hrow B e.symm; omega)
              have hrB := (hrA.alloc (.cells #[.int .i64 x2] 3)).grown hgrow2 (fun e => by have := hrow _ e.symm; omega)
              have hGB : w.grownBy w11 (some b) := gr_grown (gr_alloc hGA _) hgrow2 (fun g e => .inr (by have := hrow g e; omega))
              have c0 := hxB.cell 0
              have c1 := hxB.cell 1
              have q0 := hrB.cell 0
              have q1 := hrB.cell 1
              have qf0 := hrB.free 0
              have qf1 := hrB.free 1
              simp at c0 c1 q0 q1
              clear hown1 hown2 hgrow2 hIA hxA hrA hGA hsA
              go_wp2_with fail
              go_region
              go_wp2_with fail
              have hf := ((hrB.put 0 (.int .i64 a)).put 1 (.int .i64 to2))
              have d0 := hf.cell 0
              have d1 := hf.cell 1
              simp at d0 d1
              refine bodyPost_ret (v := .tuple #[v', .agg #[.int .i64 a, .int .i64 to2]]) (by simp [results, Try.results4, go_sem, d0, d1]) rfl ?_
              have hP : ∀ W' : World, w11.grownBy W' (some w.heap.size) → TimesPost b k w (.returned (.tuple #[v', .agg #[.int .i64 a, .int .i64 to2]])) W' := fun W' hW =>
                ⟨_, out.take m ++ [x2], a, to2, rfl, ownsRow_low (hownB.other hW (by omega)) (by omega), by simp; omega, by omega, by omega, by omega, by omega, hsB.grown hW (fun g e => by injection e with e; omega), gr_grown hGB hW (fun g e => by injection e with e; exact .inr (by omega))⟩
              exact hP _ (by repeat (first | exact gr_refl _ _ | refine gr_drew ?_ | refine gr_put ?_ (.inl rfl) _))
end Go.Proofs.Ytlbhphfmckhimaa
