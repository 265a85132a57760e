/- The walk over the document's CleanedOf: what is cleaned, and the error. Condition: right marks and a right number. -/
import Derived.Test.YtcimnlcmpfagnaaDoorMerged
import Derived.Test.YtcimnlcmpfagnaaDoorCleanAll
import Derived.Test.YtcimnlcmpfagnaaDoorShelf
namespace Go.Proofs.YtcimnlcmpfagnaaDoor
open Go.RowKit
set_option linter.unusedVariables false
set_option linter.unusedSimpArgs false

theorem fold_big (B : Int) : ∀ (l : List Int) (a : Int), B < l.foldl max a ↔ B < a ∨ ∃ x ∈ l, B < x
  | [], a => by simp
  | x :: r, a => by
    rw [List.foldl_cons, fold_big B r (max a x)]
    constructor
    · rintro (h | ⟨y, hy, h⟩)
      · by_cases hx : B < x
        · exact .inr ⟨x, by simp, hx⟩
        · exact .inl (by omega)
      · exact .inr ⟨y, by simp [hy], h⟩
    · rintro (h | ⟨y, hy, h⟩)
      · exact .inl (by omega)
      · rcases List.mem_cons.1 hy with rfl | hy
        · exact .inl (by omega)
        · exact .inr ⟨y, hy, h⟩
theorem max_big (l : List Int) (h : l ≠ []) : l.any bigM = decide (100000 < Lib.maxOf l) := by
  rw [Bool.eq_iff_iff, decide_eq_true_eq, List.any_eq_true]
  unfold Lib.maxOf
  rw [fold_big]
  constructor
  · rintro ⟨x, hx, hb⟩
    unfold bigM at hb
    exact .inr ⟨x, hx, by simpa using hb⟩
  · rintro (hh | ⟨x, hx, hb⟩)
    · cases l with
      | nil => exact absurd rfl h
      | cons a r => exact ⟨a, by simp, by unfold bigM; simpa using hh⟩
    · exact ⟨x, hx, by unfold bigM; simpa using hb⟩
theorem max_any (base : Nat) (u : Value) (l : List Int) (w : World) (hu : IntsFrom base w u l) (hne : l ≠ []) :
    Calls Tryd.prog 71 #[u] w fun e w' => e = .returned (.int .i64 (Lib.maxOf l)) ∧ w = w' := by
  have hp : 0 < l.length := List.length_pos_iff.2 hne
  obtain ⟨A, c, rfl, hl9, hA⟩ := hu.shape
  obtain ⟨g, rfl, _, _⟩ := hA hp
  have h := Tryd.slices_Max_int g 0 l.length c l w hp (Nat.le_refl _) hl9 (fun j hj => by
    rw [Nat.zero_add, hu.at_ j hj, List.getD_eq_getElem?_getD, List.getElem?_eq_getElem hj]; rfl)
  rw [List.take_length] at h
  exact h.mono fun _ _ ⟨he, hm⟩ => ⟨he, hm.symm⟩
def ClndPost (l : List Int) (least : Int) (w : World) (r : Ending) (w' : World) : Prop :=
  ∃ u, r = .returned (.tuple #[u, .int .i64 (clndE l least)]) ∧ IntsFrom w.heap.size w' u (if clndE l least = 0 then cleanL least l else []) ∧ w.grownBy w' none
theorem clndPost_nil {l : List Int} {least : Int} {w w' : World} (h : cleanL least l = []) (hg : w.grownBy w' none) : ClndPost l least w (.returned (.tuple #[.slice none 0 0, .int .i64 8])) w' := by
  have e : clndE l least = 8 := by unfold clndE; rw [if_pos h]
  exact ⟨_, by rw [e], by rw [e, if_neg (by decide)]; exact IntsFrom.nil _ _, hg⟩
theorem clndPost_big {l : List Int} {least : Int} {w w' : World} (h : cleanL least l ≠ []) (hb : (cleanL least l).any bigM = true) (hg : w.grownBy w' none) : ClndPost l least w (.returned (.tuple #[.slice none 0 0, .int .i64 2])) w' := by
  have e : clndE l least = 2 := by unfold clndE; rw [if_neg h, if_pos hb]
  exact ⟨_, by rw [e], by rw [e, if_neg (by decide)]; exact IntsFrom.nil _ _, hg⟩
theorem clndPost_ok {l : List Int} {least : Int} {w w' : World} {u : Value} (h : cleanL least l ≠ []) (hb : (cleanL least l).any bigM = false) (hu : IntsFrom w.heap.size w' u (cleanL least l)) (hg : w.grownBy w' none) : ClndPost l least w (.returned (.tuple #[u, .int .i64 0])) w' := by
  have e : clndE l least = 0 := by unfold clndE; rw [if_neg h, hb]; rfl
  exact ⟨u, by rw [e], by rw [e, if_pos rfl]; exact hu, hg⟩
set_option maxRecDepth 100000 in
set_option maxHeartbeats 4000000 in
theorem cleanedRef_any (base : Nat) (v : Value) (l0 : List Int) (least : Int) (w : World) (hl0 : IntsFrom base w v l0) (hE : marksE l0 = 0) (hl1 : 1 ≤ least) (hl2 : least ≤ 100000) :
    Calls Tryd.prog 19 #[v, .int .i64 least] w (ClndPost l0 least w) := by
  obtain ⟨m1, m2, m3⟩ := marksE_ok hE
  have C := closedAt least l0 (fun x hx => (m3 x hx).1) (l0.length / 2) (by omega)
  have hsm : (closedL least l0).sum ≤ 4000000000 := by
    show (closedTo least l0 (l0.length / 2)).sum ≤ _
    rw [C.sum, List.take_of_length_le (by omega)]
    have := sum_bound 100000 l0 fun x hx => (m3 x hx).2
    omega
  have hsm0 : l0.sum ≤ 4000000000 := by
    have := sum_bound 100000 l0 fun x hx => (m3 x hx).2
    omega
  have h20 : (closedL least l0).length ≤ 20000 := by have := C.few; show (closedTo least l0 (l0.length / 2)).length ≤ _; omega
  have ho : (closedL least l0).length % 2 = 1 := C.odd
  have hp : ∀ x ∈ closedL least l0, 1 ≤ x := C.pos
  have hgp : gapsOK least (closedL least l0) := C.gap
  have hmg := merged_gaps least l0 m1
  obtain ⟨A0, c0, rfl, hla0, hA0⟩ := hl0.shape
  obtain ⟨g0, rfl, g00, g01⟩ := hA0 (by omega)
  have hcap0 : l0.length ≤ c0 := by
    rcases hl0.2 with ⟨e, h2⟩ | ⟨g', cap, cur, e, _, _, hnc, _⟩
    · cases e
    · injection e with _ _ e3; omega
  have HM1 := Lib.hid (merged_1 g0 0 l0.length c0 l0 least w rfl (fun W hW k hk => by
    have h := hl0.grown hW
    rw [Nat.zero_add, h.at_ k hk, List.getD_eq_getElem?_getD, List.getElem?_eq_getElem hk]; rfl) m2 (fun x hx => (m3 x hx).1) hsm0 hcap0)
  rw [hmg] at HM1
  have HCE : Hid (cleanL least l0 = cleanedL least (closedL least l0)) := rfl
  generalize closedL least l0 = l at *
  clear C hl0 hA0 m1 m3 hE hsm0 hmg
  go_enter Tryd.func19, Tryd.ntmps19
  go_wp2_with fail
  refine HM1.out.mono ?_
  rintro _ w1 ⟨v1, rfl, hl, hg1⟩
  clear HM1
  obtain ⟨A, ca, rfl, hla, hA⟩ := hl.shape
  obtain ⟨ga, rfl, ga0, ga1⟩ := hA (by omega)
  have hcap' : l.length ≤ ca := by
    rcases hl.2 with ⟨e, h2⟩ | ⟨g', cap, cur, e, _, _, hnc, _⟩
    · cases e
    · injection e with _ _ e3; omega
  have HL := Lib.hid hl
  have HP := Lib.hid hp
  have HGP := Lib.hid hgp
  have HSM := Lib.hid hsm
  obtain ⟨N, hN⟩ : ∃ N, l.length = N := ⟨_, rfl⟩
  have HN := Lib.hid hN
  have HLN : Hid (∀ W : World, w1.grownBy W none → ∀ k, k < N → W.cell? ⟨ga, k, none⟩ = some (.int .i64 (l.getD k 0))) := fun W hW k hk => by
    have h := HL.out.grown hW
    rw [h.at_ k (by rw [hN]; exact hk), List.getD_eq_getElem?_getD, List.getElem?_eq_getElem (by rw [hN]; exact hk)]; rfl
  rw [hN] at ho h20 hla hcap' ⊢
  clear hl hA hN hp hgp hsm
  go_wp2_with fail
  go_loopw [0] (fun s wr => ∃ a o n c : Nat, s = .slice (some ⟨ga, a, none⟩) n c ∧ n ≤ c ∧ o + n = N ∧ (0 < n → a = o ∧ n % 2 = 1) ∧ Hid (trimH least l = trimH least (l.drop o)) ∧ wr = w1) (fun s _ => sliceLn s)
  case atStart => exact ⟨0, 0, N, ca, rfl, hcap', by omega, fun _ => ⟨rfl, ho⟩, rfl, rfl⟩
  case round =>
    obtain ⟨a, o, n, c, rfl, hnc, hon, hao, HT, rfl⟩ := hrel
    have hdl : (l.drop o).length = n := by rw [List.length_drop, HN.out]; omega
    have hrest : (n = 0 ∨ ¬ l.getD o 0 < least) → Hid (trimH least l = l.drop o) := fun h => by
      show _ = _
      rw [HT.out]
      apply trimH_stop
      intro h0
      rw [drop_getD, Nat.add_zero]
      rcases h with h | h
      · omega
      · exact h
    by_cases hstop : n = 0 ∨ ¬ l.getD o 0 < least
    · have HT2 := hrest hstop
      clear hrest HT
      by_cases hn0 : n = 0
      · subst hn0
        have hd0 : l.drop o = [] := List.length_eq_zero_iff.1 hdl
        have HR : Hid (cleanedL least l = []) := by
          show _ = _
          unfold cleanedL
          rw [trimB_of (o := o) (n := 0) HT2.out (by rw [hd0]; rfl)]
          simp
        clear hd0 hdl HT2 hstop hao
        go_wp2_with fail
        go_loopw [0] (fun s w2 => s = .slice (some ⟨ga, a, none⟩) 0 c ∧ w2 = wr) (fun _ _ => 0)
        case atStart => exact ⟨rfl, rfl⟩
        case round =>
          obtain ⟨rfl, rfl⟩ := hrel
          go_wp2_with fail
          go_ret2
          exact clndPost_nil (HCE.out.trans HR.out) hg1
      · have hn0' : 0 < n := by omega
        have hge : ¬ l.getD o 0 < least := by omega
        obtain ⟨rfl, hnp⟩ := hao hn0'
        have hn0i : (0 : Int) < (n : Int) := by omega
        have ca0 := HLN.out wr (gr_refl _ _) a (by omega)
        obtain ⟨T, hT⟩ : ∃ T, l.drop a = T := ⟨_, rfl⟩
        rw [hT] at hdl
        have HTT := Lib.hid hT
        have HDL := Lib.hid hdl
        have HTB := HT2.out
        rw [hT] at HTB
        replace HTB := Lib.hid HTB
        have hx0 : ∃ x0, l.getD a 0 = x0 := ⟨_, rfl⟩
        obtain ⟨x0, hx0⟩ := hx0
        rw [hx0] at hge ca0
        have HX0 := Lib.hid hx0
        have HTC : Hid (∀ W : World, wr.grownBy W none → ∀ q, q < n → W.cell? ⟨ga, a + q, none⟩ = some (.int .i64 (T.getD q 0))) := fun W hW q hq => by
          rw [HLN.out W hW (a + q) (by omega), ← hT, drop_getD]
        have HTP : Hid (∀ x ∈ T, 1 ≤ x) := fun x hx => HP.out x (by rw [← hT] at hx; exact List.mem_of_mem_drop hx)
        clear hx0 hT hdl HT2 hstop hao hn0
        go_wp2_with fail
        go_loopw [0] (fun s w2 => ∃ n2 : Nat, s = .slice (some ⟨ga, a, none⟩) n2 c ∧ n2 ≤ n ∧ (0 < n2 → n2 % 2 = 1) ∧ Hid (trimT least T = trimT least (T.take n2)) ∧ w2 = wr) (fun s _ => sliceLn s)
        case atStart => exact ⟨n, rfl, by omega, fun _ => hnp, by show _ = _; rw [List.take_of_length_le (by rw [HDL.out]; omega)], rfl⟩
        case round =>
          obtain ⟨n2, rfl, hn2, hpar, HT3, rfl⟩ := hrel
          have htl : (T.take n2).length = n2 := by rw [List.length_take, HDL.out]; omega
          by_cases hz : n2 = 0
          · subst hz
            have HR : Hid (cleanedL least l = []) := by
              show _ = _
              unfold cleanedL
              rw [trimB_of (o := a) (n := 0) (by rw [HTB.out, HTT.out]) (by rw [HTT.out, HT3.out]; rfl)]
              simp
            clear htl HT3 hpar
            go_wp2_with fail
            go_ret2
            exact clndPost_nil (HCE.out.trans HR.out) hg1
          · obtain ⟨q, rfl⟩ : ∃ q, n2 = q + 1 := ⟨n2 - 1, by omega⟩
            have hpq := hpar (by omega)
            have cq := HTC.out wr (gr_refl _ _) q (by omega)
            have htq : (T.take (q + 1)).getD q 0 = T.getD q 0 := take_getD _ _ _ (by omega)
            obtain ⟨y, hy⟩ : ∃ y, T.getD q 0 = y := ⟨_, rfl⟩
            rw [hy] at cq htq
            have hw2 : IntKind.i64.wrap (q : Int) = (q : Int) := IntWalk.i64_in _ ⟨by omega, by omega⟩
            have hq1 : (q : Int) < (q : Int) + 1 := by omega
            have hq2 : q < q + 1 := by omega
            have hq3 : (0 : Int) < (q : Int) + 1 := by omega
            have hq0 : (0 : Int) ≤ (q : Int) := by omega
            by_cases hyl : y < least
            · have hstep := trimT_step least (T.take (q + 1)) (by rw [htl]; omega) (by rw [htl, Nat.add_sub_cancel, htq]; exact hyl)
              rw [htl, List.take_take] at hstep
              have HY := Lib.hid hy
              by_cases hq : q = 0
              · subst hq
                have : y = x0 := by rw [← HY.out, ← HTT.out, drop_getD]; exact HX0.out
                omega
              · have HT4 : Hid (trimT least T = trimT least (T.take (q - 1))) := by show _ = _; rw [HT3.out, hstep]; congr 2; omega
                have hmx : max (0 : Int) ((q : Int) - 1) = (q : Int) - 1 := by omega
                have hmx2 : (0 : Int) ≤ (q : Int) - 1 := by omega
                have hmx3 : (q : Int) - 1 = ((q - 1 : Nat) : Int) := by omega
                clear hstep htl htq hy HT3 hpar hz
                go_wp2_with fail
                go_roundw
                case rel => exact ⟨q - 1, by first | rfl | (congr 1; omega), by omega, fun h => by omega, HT4, trivial⟩
                case measure => simp [sliceLn]; omega
            · have htrim : trimB least l = T.take (q + 1) := by
                rw [← HTT.out] at HT3 ⊢
                refine trimB_of (by rw [HTB.out, HTT.out]) ?_
                rw [HT3.out]
                exact trimT_stop least _ fun _ => by rw [HTT.out, htl, Nat.add_sub_cancel, htq]; exact hyl
              have HTR := Lib.hid htrim
              clear htl htq hy HT3 hpar hz htrim
              obtain ⟨t, ht⟩ : ∃ t, T.take (q + 1) = t := ⟨_, rfl⟩
              have htl : t.length = q + 1 := by rw [← ht, List.length_take, HDL.out]; omega
              have HTE : Hid (∀ W : World, wr.grownBy W none → ∀ k, k < q + 1 → W.cell? ⟨ga, a + k, none⟩ = some (.int .i64 (t.getD k 0))) := fun W hW k hk => by
                rw [HTC.out W hW k (by omega), ← ht, take_getD _ _ _ hk]
              have HTM : Hid (∀ x ∈ t, 1 ≤ x) := fun x hx => HTP.out x (by rw [← ht] at hx; exact List.mem_of_mem_take hx)
              obtain ⟨_, _, tok3, tok4, tok5, _⟩ := trimOk least l
              have htb : trimB least l = t := by rw [HTR.out, ht]
              rw [htb] at tok3 tok4 tok5
              have htne : t ≠ [] := by intro e; rw [e] at htl; simp at htl
              have hts : t.sum ≤ 4000000000 := by have := tok3 HP.out; have := HSM.out; omega
              have HK : Hid (cleanL least l0 = mergedL 0 least t) := by
                show _ = _
                rw [HCE.out, merged_marks least t (by rw [htl]; omega)]
                unfold cleanedL
                rw [htb, if_neg htne]
              have HM0 := Lib.hid (merged_0 ga a (q + 1) c t least wr htl HTE.out (by omega) HTM.out hts (by omega))
              have hkne : mergedL 0 least t ≠ [] := by
                have CA := cleanAt least t HTM.out (tok5 htne) (tok4 HGP.out) ((q + 1) / 2) (by omega)
                have := CA.odd
                rw [merged_marks least t (by rw [htl]; omega), htl]
                intro e
                rw [e] at this
                simp at this
              have HNE := Lib.hid hkne
              have hmb := max_big _ hkne
              clear htl tok3 tok4 tok5 htb htne ht hts hkne
              generalize mergedL 0 least t = K at *
              have HG1 := hg1
              go_wp2_with fail
              refine HM0.out.mono ?_
              rintro _ w2 ⟨u2, rfl, hu2, hg2⟩
              have HMX := Lib.hid (max_any _ u2 K w2 hu2 HNE.out)
              have hu0 : IntsFrom w.heap.size w2 u2 K := ownsRow_low hu2 hg1.size
              obtain ⟨A2, c2, rfl, hk2, hA2⟩ := IntsFrom.shape hu2
              have hG2 := gr_trans hg1 hg2
              have HU0 := Lib.hid hu0
              clear hA2 hu2 hu0
              by_cases hbg : 100000 < Lib.maxOf K
              · have HP2 : Hid (ClndPost l0 least w (.returned (.tuple #[.slice none 0 0, .int .i64 2])) w2) := clndPost_big (by rw [HK.out]; exact HNE.out) (by rw [HK.out, hmb]; exact decide_eq_true hbg) hG2
                clear hmb
                generalize Lib.maxOf K = mx at *
                go_wp2_with fail
                refine HMX.out.mono ?_
                rintro _ _ ⟨rfl, rfl⟩
                go_wp2_with fail
                go_ret2
                exact HP2.out
              · have HP2 : Hid (ClndPost l0 least w (.returned (.tuple #[.slice A2 K.length c2, .int .i64 0])) w2) := clndPost_ok (by rw [HK.out]; exact HNE.out) (by rw [HK.out, hmb]; exact decide_eq_false hbg) (by rw [HK.out]; exact HU0.out) hG2
                clear hmb
                generalize Lib.maxOf K = mx at *
                go_wp2_with fail
                refine HMX.out.mono ?_
                rintro _ _ ⟨rfl, rfl⟩
                go_wp2_with fail
                go_ret2
                exact HP2.out
    · have hn0 : 0 < n := by omega
      obtain ⟨rfl, hnp⟩ := hao hn0
      have hlt : l.getD a 0 < least := by omega
      have hstep := trimH_step least (l.drop a) (by omega) (by rw [drop_getD, Nat.add_zero]; exact hlt)
      rw [hdl, List.drop_drop] at hstep
      have c0 := HLN.out wr (gr_refl _ _) a (by omega)
      have hn0i : (0 : Int) < (n : Int) := by omega
      generalize hx : l.getD a 0 = x at *
      clear hstop hrest hx
      by_cases h1 : n = 1
      · subst h1
        have HT3 : Hid (trimH least l = trimH least (l.drop (a + 1))) := by show _ = _; rw [HT.out, hstep]; rfl
        have hm21 : min (2 : Int) 1 = 1 := by decide
        clear hstep hdl HT
        go_wp2_with fail
        by_cases hc1 : c = 1
        · simp only [hc1, if_true]
          go_roundw
          case rel => exact ⟨a, a + 1, 0, _, rfl, by omega, by omega, fun h => absurd h (by omega), HT3, trivial⟩
          case measure => simp [sliceLn]
        · simp only [hc1, if_false]
          go_roundw
          case rel => exact ⟨N, a + 1, 0, c - 1, rfl, by omega, by omega, fun h => absurd h (by omega), HT3, trivial⟩
          case measure => simp [sliceLn]
      · have HT3 : Hid (trimH least l = trimH least (l.drop (a + 2))) := by show _ = _; rw [HT.out, hstep, Nat.min_eq_left (by omega)]
        have hmin : min (2 : Int) (n : Int) = 2 := by omega
        have h2n : (2 : Int) ≤ (n : Int) := by omega
        have hc2 : ¬ c = 2 := by omega
        clear hstep hdl HT
        go_wp2_with fail
        go_roundw
        case rel => exact ⟨a + 2, a + 2, n - 2, c - 2, rfl, by omega, by omega, fun h => ⟨rfl, by omega⟩, HT3, trivial⟩
        case measure => simp [sliceLn]; omega
end Go.Proofs.YtcimnlcmpfagnaaDoor
