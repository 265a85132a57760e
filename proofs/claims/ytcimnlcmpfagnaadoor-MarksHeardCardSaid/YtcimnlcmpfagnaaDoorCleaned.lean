/- The walk over key.cleaned: marks and gaps without the marks that are shorter. Condition: right marks whose gaps are long enough. -/
import Derived.Test.YtcimnlcmpfagnaaDoorClosed
namespace Go.Proofs.YtcimnlcmpfagnaaDoor
open Go.RowKit
set_option linter.unusedVariables false
set_option linter.unusedSimpArgs false

theorem LFrom.take {base n : Nat} {w : World} {A : Option Addr} {c : Nat} {L : List Int} (h : LFrom base w (.slice A n c) n L) (m : Nat) (hm : m ≤ n) : LFrom base w (.slice A m c) m (L.take m) := by
  have hl := h.len
  refine ⟨by simp; omega, ?_⟩
  rcases h.2 with ⟨h1, h2⟩ | ⟨g, cap, cur, h1, h2, h3, h4, h5, h6, h7⟩
  · injection h1 with e1 e2 e3
    subst e1; subst e3
    exact .inl ⟨by rw [show m = 0 by omega], by omega⟩
  · injection h1 with e1 e2 e3
    subst e1; subst e3
    refine .inr ⟨g, _, cur, rfl, h2, h3, by omega, h5, h6, ?_⟩
    rw [List.map_take, ← h7, List.take_take]
    congr 1
    omega
theorem LFrom.cap {base : Nat} {w : World} {A : Option Addr} {c n : Nat} {l : List Int} (h : LFrom base w (.slice A n c) n l) : n ≤ c := by
  rcases h.2 with ⟨h1, h2⟩ | ⟨g, cap, cur, h1, h2, h3, h4, h5, h6, h7⟩
  · injection h1 with e1 e2 e3
    omega
  · injection h1 with e1 e2 e3
    omega
theorem drop_getD (l : List Int) (o q : Nat) : (l.drop o).getD q 0 = l.getD (o + q) 0 := by
  rw [List.getD_eq_getElem?_getD, List.getD_eq_getElem?_getD, List.getElem?_drop]
theorem take_getD (l : List Int) (n q : Nat) (h : q < n) : (l.take n).getD q 0 = l.getD q 0 := by
  rw [List.getD_eq_getElem?_getD, List.getD_eq_getElem?_getD, List.getElem?_take, if_pos h]
theorem trimB_of {least : Int} {l : List Int} {o n : Nat} (h1 : trimH least l = l.drop o) (h2 : trimT least (l.drop o) = (l.drop o).take n) : trimB least l = (l.drop o).take n := by
  unfold trimB; rw [h1, h2]
theorem take_sum_le {l : List Int} (h : ∀ x ∈ l, 1 ≤ x) (k : Nat) : (l.take k).sum ≤ l.sum := by
  have h1 := sum_split l k
  have h2 := nonneg_sum (l := l.drop k) fun x hx => h x (List.mem_of_mem_drop hx)
  omega

def sliceLn : Value → Nat
  | .slice _ n _ => n
  | _ => 0
set_option maxRecDepth 100000 in
set_option maxHeartbeats 4000000 in
theorem cleaned_any (base : Nat) (v : Value) (l : List Int) (least : Int) (w : World) (hl : IntsFrom base w v l) (ho : l.length % 2 = 1) (h20 : l.length ≤ 20000) (hp : ∀ x ∈ l, 1 ≤ x) (hsm : l.sum ≤ 4000000000) (hgp : gapsOK least l) (hl1 : 1 ≤ least) (hl2 : least ≤ 100000) :
    Calls Tryd.prog 61 #[v, .int .i64 least] w fun r w' => ∃ u, r = .returned u ∧ IntsFrom w.heap.size w' u (cleanedL least l) ∧ w.grownBy w' none := by
  obtain ⟨i0, hi, hz0, hz1, hz2⟩ := info_parts intInfo
  obtain ⟨A, ca, rfl, hla, hA⟩ := hl.shape
  obtain ⟨ga, rfl, ga0, ga1⟩ := hA (by omega)
  have hcap' : l.length ≤ ca := by
    rcases hl.2 with ⟨e, h2⟩ | ⟨g', cap, cur, e, _, _, hnc, _⟩
    · cases e
    · injection e with _ _ e3; omega
  have HL := Lib.hid hl
  have HP := Lib.hid hp
  have HGP := Lib.hid hgp
  have HSM := Lib.hid hsm
  obtain ⟨N, hN⟩ : ∃ N, l.length = N := ⟨_, rfl⟩
  have HN := Lib.hid hN
  have HLN : Hid (∀ W : World, w.grownBy W none → ∀ k, k < N → W.cell? ⟨ga, k, none⟩ = some (.int .i64 (l.getD k 0))) := fun W hW k hk => by
    have h := HL.out.grown hW
    rw [h.at_ k (by rw [hN]; exact hk), List.getD_eq_getElem?_getD, List.getElem?_eq_getElem (by rw [hN]; exact hk)]; rfl
  have HLB : Hid (∀ k, k < N → 1 ≤ l.getD k 0 ∧ l.getD k 0 ≤ 4000000000) := fun k hk => by
    have h1 := getD_mem (l := l) (show k < l.length by rw [hN]; exact hk)
    have h2 := mem_le_sum hp h1
    have h3 := hp _ h1
    omega
  rw [hN] at ho h20 hla hcap' ⊢
  clear hl hA hN hp hgp hsm
  go_enter Tryd.func61, Tryd.ntmps61
  go_wp2_with fail
  go_loopw [0] (fun s wr => ∃ a o n c : Nat, s = .slice (some ⟨ga, a, none⟩) n c ∧ n ≤ c ∧ o + n = N ∧ (0 < n → a = o ∧ n % 2 = 1) ∧ Hid (trimH least l = trimH least (l.drop o)) ∧ wr = w) (fun s _ => sliceLn s)
  case atStart => exact ⟨0, 0, N, ca, rfl, hcap', by omega, fun _ => ⟨rfl, ho⟩, rfl, rfl⟩
  case round =>
    obtain ⟨a, o, n, c, rfl, hnc, hon, hao, HT, rfl⟩ := hrel
    have hdl : (l.drop o).length = n := by rw [List.length_drop, HN.out]; omega
    have hrest : (n = 0 ∨ ¬ l.getD o 0 < least) → Hid (trimH least l = l.drop o) := fun h => by
      show _ = _
      rw [HT.out]
      apply trimH_stop
      intro h0
      rw [drop_getD, Nat.add_zero]
      rcases h with h | h
      · omega
      · exact h
    by_cases hstop : n = 0 ∨ ¬ l.getD o 0 < least
    · have HT2 := hrest hstop
      clear hrest HT
      by_cases hn0 : n = 0
      · subst hn0
        have hd0 : l.drop o = [] := List.length_eq_zero_iff.1 hdl
        have HR : Hid (cleanedL least l = []) := by
          show _ = _
          unfold cleanedL
          rw [trimB_of (o := o) (n := 0) HT2.out (by rw [hd0]; rfl)]
          simp
        clear hd0 hdl HT2 hstop hao
        go_wp2_with fail
        go_loopw [0] (fun s w2 => s = .slice (some ⟨ga, a, none⟩) 0 c ∧ w2 = wr) (fun _ _ => 0)
        case atStart => exact ⟨rfl, rfl⟩
        case round =>
          obtain ⟨rfl, rfl⟩ := hrel
          go_wp2_with fail
          go_ret
          exact ⟨_, rfl, by rw [HR.out]; exact IntsFrom.nil _ _, gr_refl _ _⟩
      · have hn0' : 0 < n := by omega
        have hge : ¬ l.getD o 0 < least := by omega
        obtain ⟨rfl, hnp⟩ := hao hn0'
        have hn0i : (0 : Int) < (n : Int) := by omega
        have ca0 := HLN.out wr (gr_refl _ _) a (by omega)
        obtain ⟨T, hT⟩ : ∃ T, l.drop a = T := ⟨_, rfl⟩
        rw [hT] at hdl
        have HTT := Lib.hid hT
        have HDL := Lib.hid hdl
        have HTB := HT2.out
        rw [hT] at HTB
        replace HTB := Lib.hid HTB
        have hx0 : ∃ x0, l.getD a 0 = x0 := ⟨_, rfl⟩
        obtain ⟨x0, hx0⟩ := hx0
        rw [hx0] at hge ca0
        have HX0 := Lib.hid hx0
        have HTC : Hid (∀ W : World, wr.grownBy W none → ∀ q, q < n → W.cell? ⟨ga, a + q, none⟩ = some (.int .i64 (T.getD q 0))) := fun W hW q hq => by
          rw [HLN.out W hW (a + q) (by omega), ← hT, drop_getD]
        have HTP : Hid (∀ x ∈ T, 1 ≤ x) := fun x hx => HP.out x (by rw [← hT] at hx; exact List.mem_of_mem_drop hx)
        clear hx0 hT hdl HT2 hstop hao hn0
        go_wp2_with fail
        go_loopw [0] (fun s w2 => ∃ n2 : Nat, s = .slice (some ⟨ga, a, none⟩) n2 c ∧ n2 ≤ n ∧ (0 < n2 → n2 % 2 = 1) ∧ Hid (trimT least T = trimT least (T.take n2)) ∧ w2 = wr) (fun s _ => sliceLn s)
        case atStart => exact ⟨n, rfl, by omega, fun _ => hnp, by show _ = _; rw [List.take_of_length_le (by rw [HDL.out]; omega)], rfl⟩
        case round =>
          obtain ⟨n2, rfl, hn2, hpar, HT3, rfl⟩ := hrel
          have htl : (T.take n2).length = n2 := by rw [List.length_take, HDL.out]; omega
          by_cases hz : n2 = 0
          · subst hz
            have HR : Hid (cleanedL least l = []) := by
              show _ = _
              unfold cleanedL
              rw [trimB_of (o := a) (n := 0) (by rw [HTB.out, HTT.out]) (by rw [HTT.out, HT3.out]; rfl)]
              simp
            clear htl HT3 hpar
            go_wp2_with fail
            go_ret
            exact ⟨_, rfl, by rw [HR.out]; exact IntsFrom.nil _ _, gr_refl _ _⟩
          · obtain ⟨q, rfl⟩ : ∃ q, n2 = q + 1 := ⟨n2 - 1, by omega⟩
            have hpq := hpar (by omega)
            have cq := HTC.out wr (gr_refl _ _) q (by omega)
            have htq : (T.take (q + 1)).getD q 0 = T.getD q 0 := take_getD _ _ _ (by omega)
            obtain ⟨y, hy⟩ : ∃ y, T.getD q 0 = y := ⟨_, rfl⟩
            rw [hy] at cq htq
            have hw2 : IntKind.i64.wrap (q : Int) = (q : Int) := IntWalk.i64_in _ ⟨by omega, by omega⟩
            have hq1 : (q : Int) < (q : Int) + 1 := by omega
            have hq2 : q < q + 1 := by omega
            have hq3 : (0 : Int) < (q : Int) + 1 := by omega
            have hq0 : (0 : Int) ≤ (q : Int) := by omega
            by_cases hyl : y < least
            · have hstep := trimT_step least (T.take (q + 1)) (by rw [htl]; omega) (by rw [htl, Nat.add_sub_cancel, htq]; exact hyl)
              rw [htl, List.take_take] at hstep
              have HY := Lib.hid hy
              by_cases hq : q = 0
              · subst hq
                have : y = x0 := by rw [← HY.out, ← HTT.out, drop_getD]; exact HX0.out
                omega
              · have HT4 : Hid (trimT least T = trimT least (T.take (q - 1))) := by show _ = _; rw [HT3.out, hstep]; congr 2; omega
                have hmx : max (0 : Int) ((q : Int) - 1) = (q : Int) - 1 := by omega
                have hmx2 : (0 : Int) ≤ (q : Int) - 1 := by omega
                have hmx3 : (q : Int) - 1 = ((q - 1 : Nat) : Int) := by omega
                clear hstep htl htq hy HT3 hpar hz
                go_wp2_with fail
                go_roundw
                case rel => exact ⟨q - 1, rfl, by omega, fun h => by omega, HT4, trivial⟩
                case measure => simp [sliceLn]; omega
            · have htrim : trimB least l = T.take (q + 1) := by
                rw [← HTT.out] at HT3 ⊢
                refine trimB_of (by rw [HTB.out, HTT.out]) ?_
                rw [HT3.out]
                exact trimT_stop least _ fun _ => by rw [HTT.out, htl, Nat.add_sub_cancel, htq]; exact hyl
              have HTR := Lib.hid htrim
              clear htl htq hy HT3 hpar hz htrim
              obtain ⟨t, ht⟩ : ∃ t, T.take (q + 1) = t := ⟨_, rfl⟩
              have htl : t.length = q + 1 := by rw [← ht, List.length_take, HDL.out]; omega
              have HTE : Hid (∀ W : World, wr.grownBy W none → ∀ k, k < q + 1 → W.cell? ⟨ga, a + k, none⟩ = some (.int .i64 (t.getD k 0))) := fun W hW k hk => by
                rw [HTC.out W hW k (by omega), ← ht, take_getD _ _ _ hk]
              have HTM : Hid (∀ x ∈ t, 1 ≤ x) := fun x hx => HTP.out x (by rw [← ht] at hx; exact List.mem_of_mem_take hx)
              obtain ⟨_, _, tok3, tok4, tok5, _⟩ := trimOk least l
              have htb : trimB least l = t := by rw [HTR.out, ht]
              rw [htb] at tok3 tok4 tok5
              have htne : t ≠ [] := by intro e; rw [e] at htl; simp at htl
              have hts : t.sum ≤ 4000000000 := by have := tok3 HP.out; have := HSM.out; omega
              have CA := Lib.hid (fun k hk => cleanAt least t HTM.out (tok5 htne) (tok4 HGP.out) k hk)
              have HCL : Hid (cleanedL least l = cleanTo least t ((q + 1) / 2)) := by
                show _ = _
                unfold cleanedL
                rw [htb, if_neg htne, htl]
              have hx1 : t.getD 0 0 = x0 := by rw [← ht, take_getD _ _ _ (by omega), ← HTT.out, drop_getD]; exact HX0.out
              have hfirst : cleanTo least t 0 = [x0] := by rw [← hx1]; rfl
              have HF := Lib.hid hfirst
              have HTL := Lib.hid htl
              have hown0 : LFrom wr.heap.size (wr.alloc (.cells #[.int .i64 x0] 3)) (.slice (some ⟨wr.heap.size, 0, none⟩) 1 1) 1 [x0] := blk_row (Blk.new wr 3 #[.int .i64 x0]) (Nat.le_refl _)
              have hG0 := World.grownBy_alloc wr (.cells #[.int .i64 x0] 3) none
              clear htl tok3 tok4 tok5 htb htne hx1 hfirst ht
              rename World => wo
              go_wp2_with fail
              generalize wo.alloc (.cells #[.int .i64 x0] 3) = W0 at *
              go_loopw [5, 6] (fun o i wr => ∃ k n2 j : Nat, Hid (j = 2 * k + 1) ∧ j ≤ q + 2 ∧ 2 * k < q + 1 ∧ i = .int .i64 j ∧ n2 ≤ j ∧ n2 % 2 = 1 ∧ LFrom wo.heap.size wr o n2 (cleanTo least t k) ∧ wo.grownBy wr none) (fun _ i _ => q + 3 - (intOf i).toNat)
              case atStart => exact ⟨0, 1, 1, rfl, by omega, by omega, rfl, by omega, by omega, by rw [HF.out]; exact hown0, hG0⟩
              case round =>
                clear hown0 hG0
                obtain ⟨k, n2, j, HJ, hj, hkq, rfl, hn3, hnp2, hown, hgr⟩ := hrel
                obtain ⟨A2, c2, rfl, hk9, hA2⟩ := ownsRow_shape hown
                obtain ⟨g, rfl, hg0, hg1⟩ := hA2 (by omega)
                by_cases hlt : j < q + 1
                · have hlt2 : (j : Int) < (q : Int) + 1 := by omega
                  have hjj := HJ.out
                  have ck := CA.out k (by rw [HTL.out]; exact hkq)
                  have hstep : cleanTo least t (k + 1) = stepD least (cleanTo least t k) (t.getD (2 * k) 0) (t.getD j 0) (t.getD (j + 1) 0) := by rw [hjj]; rfl
                  have hJq0 : j + 1 < q + 1 := by omega
                  have cg := HTE.out wr hgr j hlt
                  have cm := HTE.out wr hgr (j + 1) hJq0
                  have cx := HTE.out wr hgr (2 * k) (by omega)
                  have bd : ∀ y ∈ t, 1 ≤ y ∧ y ≤ 4000000000 := fun y hy => ⟨HTM.out y hy, by have := mem_le_sum HTM.out hy; omega⟩
                  have bg := bd _ (getD_mem (show j < t.length by rw [HTL.out]; exact hlt))
                  have bm := bd _ (getD_mem (show j + 1 < t.length by rw [HTL.out]; exact hJq0))
                  have bx := bd _ (getD_mem (show 2 * k < t.length by rw [HTL.out]; exact hkq))
                  have hlen := hown.len
                  have bo : ∀ y ∈ cleanTo least t k, 1 ≤ y ∧ y ≤ 4000000000 := fun y hy => ⟨ck.pos y hy, by have h1 := mem_le_sum ck.pos hy; have h2 := ck.sum; have h3 := take_sum_le HTM.out (2 * k + 1); omega⟩
                  have hob := bo _ (getD_mem (show n2 - 1 < (cleanTo least t k).length by omega))
                  have co := hown.at_ (n2 - 1) (by omega)
                  have hpb := fun (h : 1 ≤ n2 - 1) => bo _ (getD_mem (show n2 - 1 - 1 < (cleanTo least t k).length by omega))
                  have cp := fun (h : 1 ≤ n2 - 1) => hown.at_ (n2 - 1 - 1) (by omega)
                  rw [stepD, hlen] at hstep
                  clear ck bd bo
                  obtain ⟨m, hmm⟩ : ∃ m, n2 - 1 = m := ⟨_, rfl⟩
                  rw [hmm] at hstep co hob hpb cp
                  have hnm : n2 = m + 1 := by omega
                  have hx2 : 2 * k = j - 1 := by omega
                  rw [hx2] at cx bx hstep
                  generalize hox : (cleanTo least t k).getD m 0 = ox at *
                  generalize hgg : t.getD j 0 = gp at *
                  generalize hme : t.getD (j + 1) 0 = mk at *
                  generalize hxx : t.getD (j - 1) 0 = xp at *
                  have HGG := Lib.hid hgg
                  have HME := Lib.hid hme
                  have HST := Lib.hid hstep
                  have hJ1 : IntKind.i64.wrap ((j : Int) + 1) = ((j + 1 : Nat) : Int) := by
                    rw [show (j : Int) + 1 = ((j + 1 : Nat) : Int) by omega]
                    exact IntWalk.i64_in _ ⟨by omega, by omega⟩
                  obtain ⟨J, hJ⟩ : ∃ J, j + 1 = J := ⟨_, rfl⟩
                  rw [hJ] at hJ1 cm hJq0
                  have hJq : J < q + 1 := hJq0
                  have HJJ := Lib.hid hJ
                  have hJN : (J : Int) < (q : Int) + 1 := by omega
                  have hJ0 : (0 : Int) ≤ (J : Int) := by omega
                  have hm0 : (0 : Int) ≤ (m : Int) := by omega
                  subst hnm
                  have hw1 : IntKind.i64.wrap (((m + 1 : Nat) : Int) - 1) = (m : Int) := by
                    rw [show ((m + 1 : Nat) : Int) - 1 = (m : Int) by omega]
                    exact IntWalk.i64_in _ ⟨by omega, by omega⟩
                  have hmn : (m : Int) < ((m + 1 : Nat) : Int) := by omega
                  have hw2' : IntKind.i64.wrap (m : Int) = (m : Int) := IntWalk.i64_in _ ⟨by omega, by omega⟩
                  have hmn2 : (m : Int) < (m : Int) + 1 := by omega
                  have hmn3 : m < m + 1 := by omega
                  have HOWN := Lib.hid hown
                  clear hstep hox hgg hme hxx hjj hJ hJq0 hlen hA2 hx2 hmm
                  by_cases hc : ox < least
                  · by_cases hm1 : 0 < m
                    · have hs2 : cleanTo least t (k + 1) = ((cleanTo least t k).take m).set (m - 1) ((cleanTo least t k).getD (m - 1) 0 + (xp + gp)) ++ [mk] := by rw [HST.out, if_pos ⟨hc, hm1⟩]
                      obtain ⟨r, hr⟩ : ∃ r, m - 1 = r := ⟨_, rfl⟩
                      have hpb2 := hpb (by omega)
                      have cp2 := cp (by omega)
                      rw [hr] at hs2 hpb2 cp2
                      have hmr : m = r + 1 := by omega
                      subst hmr
                      generalize (cleanTo least t k).getD r 0 = px at *
                      have HS2 := Lib.hid hs2
                      obtain ⟨jj, hjj⟩ : ∃ jj, j = jj + 1 := ⟨j - 1, by omega⟩
                      subst hjj
                      rw [Nat.add_sub_cancel] at cx
                      have hcp0 := LFrom.cap hown
                      have hcp : (r : Int) + 1 ≤ (c2 : Int) := by omega
                      have hcp2 : (0 : Int) ≤ (r : Int) + 1 := by omega
                      have hr1 : (r : Int) < (r : Int) + 1 := by omega
                      have hr2 : r < r + 1 := by omega
                      have hr3 : IntKind.i64.wrap (r : Int) = (r : Int) := IntWalk.i64_in _ ⟨by omega, by omega⟩
                      have hr4 : (0 : Int) ≤ (r : Int) := by omega
                      have hjj1 : (jj : Int) < (q : Int) + 1 := by omega
                      have hjj2 : IntKind.i64.wrap (jj : Int) = (jj : Int) := IntWalk.i64_in _ ⟨by omega, by omega⟩
                      have hjj3 : (0 : Int) ≤ (jj : Int) := by omega
                      have hjj4 : jj < q + 1 := by omega
                      have hjj5 : (jj : Int) + 1 < (q : Int) + 1 := by omega
                      have hjj6 : (0 : Int) ≤ (jj : Int) + 1 := by omega
                      have hJ2 : IntKind.i64.wrap ((jj : Int) + 1 + 1) = (J : Int) := by have := HJJ.out; rw [show (jj : Int) + 1 + 1 = (J : Int) by omega]; exact IntWalk.i64_in _ ⟨by omega, by omega⟩
                      have hJ3 : IntKind.i64.wrap ((jj : Int) + 2) = (J : Int) := by have := HJJ.out; rw [show (jj : Int) + 2 = (J : Int) by omega]; exact IntWalk.i64_in _ ⟨by omega, by omega⟩
                      have hown5 : LFrom wo.heap.size wr (.slice (some ⟨g, 0, none⟩) (r + 1) c2) (r + 1) ((cleanTo least t k).take (r + 1)) := LFrom.take hown (r + 1) (by omega)
                      have hs3 := World.ownsRow.stored (show World.ownsRow wr.drew wo.heap.size 3 1 (.slice (some ⟨g, 0, none⟩) (r + 1) c2) (r + 1) (((cleanTo least t k).take (r + 1)).map (Value.int .i64)) from hown5) r (.int .i64 (px + (xp + gp)))
                      have hfz : wr.drew.frozen? ⟨g, r, none⟩ = false := World.ownsRow.frozenAt (show wr.ownsRow wo.heap.size 3 1 (.slice (some ⟨g, 0, none⟩) (r + 1) c2) (r + 1) (((cleanTo least t k).take (r + 1)).map (Value.int .i64)) from hown5) r
                      rw [← List.map_set] at hs3
                      have hg3 : wo.grownBy (wr.drew.setCell ⟨g, r, none⟩ (.int .i64 (px + (xp + gp)))) none := gr_put (gr_drew hgr) (.inr hg0) _
                      have cgd : wr.drew.cell? ⟨ga, a + (jj + 1), none⟩ = some (.int .i64 gp) := cg
                      have cxd : wr.drew.cell? ⟨ga, a + jj, none⟩ = some (.int .i64 xp) := cx
                      have cpd : wr.drew.cell? ⟨g, r, none⟩ = some (.int .i64 px) := cp2
                      have hm5 := HTE.out _ hg3 J hJq
                      rw [← HJJ.out, HME.out, HJJ.out] at hm5
                      clear hs2 hpb cp hr hown5 cm
                      go_wp2_with fail
                      go_still_tail 17, (by kernel_rfl)
                      change wpList _ _ _ _ _ wr.drew
                      generalize wr.drew = W4 at *
                      have hoc := one_cell (W4.setCell ⟨g, r, none⟩ (.int .i64 (px + (xp + gp)))) mk 3
                      rw [show (W4.setCell ⟨g, r, none⟩ (.int .i64 (px + (xp + gp)))).heap.size = W4.heap.size by simp] at hoc
                      go_wp2_with (at_builtin; refine wpList_append_own _ rfl _ _ 22 rfl wo.heap.size 3 i0 _ 1 8 Tryd.underlying22 hi hz0 hz1 hz2 rfl (by decide) _ _ _ rfl (World.ownsRow.alloc hs3.1 _) ⟨W4.heap.size, 0, none⟩ 1 1 [.int .i64 mk] rfl rfl hoc (one_oneCell _) (by unfold maxLen; omega) (by omega) (Nat.le_trans hg3.size (by simp)) ?_; intro v2 w2 h2_ hgw_ _)
                      have hgF : wo.grownBy w2 none := gr_grown (gr_alloc hg3 _) hgw_ (fun gg e => .inr (hs3.1.lt gg e).1)
                      have hw9 : LFrom wo.heap.size w2 v2 (r + 1 + 1) (cleanTo least t (k + 1)) := by
                        unfold LFrom
                        rw [HS2.out, List.map_append]
                        exact h2_
                      go_wp2_with fail
                      go_roundw
                      case rel => exact ⟨k + 1, r + 1 + 1, jj + 1 + 2, by show _ = _; have := HJ.out; omega, by omega, by have := HJ.out; omega, by go_num, by omega, by omega, hw9, hgF⟩
                      case measure => simp [intOf]; omega
                    · have hs2 : cleanTo least t (k + 1) = cleanTo least t k ++ [gp, mk] := by rw [HST.out, if_neg (fun h => hm1 h.2)]
                      have HS2 := Lib.hid hs2
                      obtain rfl : m = 0 := by omega
                      clear hpb cp
                      have KX : Hid (∀ W' : World, wo.grownBy W' none → W'.cell? ⟨ga, a + j, none⟩ = some (.int .i64 gp) ∧ W'.cell? ⟨ga, a + J, none⟩ = some (.int .i64 mk)) := fun W' hW => by
                        have h1 := HTE.out W' hW j hlt
                        have h2 := HTE.out W' hW J hJq
                        exact ⟨by rw [h1, HGG.out], by rw [h2, ← HJJ.out, HME.out]⟩
                      clear hs2 hown
                      go_wp2_with fail
                      go_region_held3 (fun W' => W'.cell? ⟨ga, a + j, none⟩ = some (.int .i64 gp) ∧ W'.cell? ⟨ga, a + J, none⟩ = some (.int .i64 mk))
                        ((exact KX.out _ (by first | exact gr_grown (show wo.grownBy _ none from gr_trans hgr (by repeat (first | exact gr_refl _ _ | assumption | refine gr_alloc ?_ _ | refine gr_drewN ?_ _ | refine gr_drew ?_))) hgq (fun kk h => .inr (HOWN.out.lt kk h).1) | exact gr_trans hgr (by repeat (first | exact gr_refl _ _ | assumption | refine gr_alloc ?_ _ | refine gr_drewN ?_ _ | refine gr_drew ?_)))))
                        ((refine step_append_lies _ (by rfl) (.tmp 96) (.tmp 106) 22 (by rfl) wo.heap.size 3 i0 _ 1 8 Tryd.underlying22 hi hz0 hz1 hz2 rfl (by decide) _ (0 + 1) ((cleanTo least t k).map (Value.int .i64)) (by simp [Act.eval]) (World.ownsRow.alloc (show World.ownsRow _ wo.heap.size 3 1 _ (0 + 1) ((cleanTo least t k).map (Value.int .i64)) from HOWN.out) _) ⟨_, 0, none⟩ 2 2 [.int .i64 gp, .int .i64 mk] (by simp [Act.eval]) rfl (two_ints _ _ _ _) (two_intsOne _ _) (by decide) (by unfold maxLen; omega) (by omega) (by have := hgr.size; simp; omega) _ rfl ?_; intro gq cap w9 hqq hgq hat hglt))
                      have hgF : wo.grownBy w9 none := gr_grown (show wo.grownBy _ none from gr_trans hgr (by repeat (first | exact gr_refl _ _ | assumption | refine gr_alloc ?_ _ | refine gr_drewN ?_ _ | refine gr_drew ?_))) hgq (fun kk h => .inr (HOWN.out.lt kk h).1)
                      have hw9 : LFrom wo.heap.size w9 (.slice (some ⟨gq, 0, none⟩) (0 + 1 + 2) cap) (0 + 1 + 2) (cleanTo least t (k + 1)) := by
                        unfold LFrom
                        rw [HS2.out, List.map_append]
                        exact hqq
                      go_wp2_with fail
                      go_roundw
                      case rel => exact ⟨k + 1, 0 + 1 + 2, j + 2, by show _ = _; have := HJ.out; omega, by omega, by have := HJ.out; omega, by go_num, by omega, by omega, hw9, hgF⟩
                      case measure => simp [intOf]; omega
                  · have hs2 : cleanTo least t (k + 1) = cleanTo least t k ++ [gp, mk] := by rw [HST.out, if_neg (fun h => hc h.1)]
                    have HS2 := Lib.hid hs2
                    clear hpb cp
                    have KX : Hid (∀ W' : World, wo.grownBy W' none → W'.cell? ⟨ga, a + j, none⟩ = some (.int .i64 gp) ∧ W'.cell? ⟨ga, a + J, none⟩ = some (.int .i64 mk)) := fun W' hW => by
                      have h1 := HTE.out W' hW j hlt
                      have h2 := HTE.out W' hW J hJq
                      exact ⟨by rw [h1, HGG.out], by rw [h2, ← HJJ.out, HME.out]⟩
                    clear hs2 hown
                    go_wp2_with fail
                    go_region_held3 (fun W' => W'.cell? ⟨ga, a + j, none⟩ = some (.int .i64 gp) ∧ W'.cell? ⟨ga, a + J, none⟩ = some (.int .i64 mk))
                      ((exact KX.out _ (by first | exact gr_grown (show wo.grownBy _ none from gr_trans hgr (by repeat (first | exact gr_refl _ _ | assumption | refine gr_alloc ?_ _ | refine gr_drewN ?_ _ | refine gr_drew ?_))) hgq (fun kk h => .inr (HOWN.out.lt kk h).1) | exact gr_trans hgr (by repeat (first | exact gr_refl _ _ | assumption | refine gr_alloc ?_ _ | refine gr_drewN ?_ _ | refine gr_drew ?_)))))
                      ((refine step_append_lies _ (by rfl) (.tmp 96) (.tmp 106) 22 (by rfl) wo.heap.size 3 i0 _ 1 8 Tryd.underlying22 hi hz0 hz1 hz2 rfl (by decide) _ (m + 1) ((cleanTo least t k).map (Value.int .i64)) (by simp [Act.eval]) (World.ownsRow.alloc (show World.ownsRow _ wo.heap.size 3 1 _ (m + 1) ((cleanTo least t k).map (Value.int .i64)) from HOWN.out) _) ⟨_, 0, none⟩ 2 2 [.int .i64 gp, .int .i64 mk] (by simp [Act.eval]) rfl (two_ints _ _ _ _) (two_intsOne _ _) (by decide) (by unfold maxLen; omega) (by omega) (by have := hgr.size; simp; omega) _ rfl ?_; intro gq cap w9 hqq hgq hat hglt))
                    have hgF : wo.grownBy w9 none := gr_grown (show wo.grownBy _ none from gr_trans hgr (by repeat (first | exact gr_refl _ _ | assumption | refine gr_alloc ?_ _ | refine gr_drewN ?_ _ | refine gr_drew ?_))) hgq (fun kk h => .inr (HOWN.out.lt kk h).1)
                    have hw9 : LFrom wo.heap.size w9 (.slice (some ⟨gq, 0, none⟩) (m + 1 + 2) cap) (m + 1 + 2) (cleanTo least t (k + 1)) := by
                      unfold LFrom
                      rw [HS2.out, List.map_append]
                      exact hqq
                    go_wp2_with fail
                    go_roundw
                    case rel => exact ⟨k + 1, m + 1 + 2, j + 2, by show _ = _; have := HJ.out; omega, by omega, by have := HJ.out; omega, by go_num, by omega, by omega, hw9, hgF⟩
                    case measure => simp [intOf]; omega
                · have hlt2 : ¬ (j : Int) < (q : Int) + 1 := by omega
                  have hkk : k = (q + 1) / 2 := by have := HJ.out; omega
                  have HO := Lib.hid hown
                  clear hown
                  go_wp2_with fail
                  go_ret
                  exact ⟨_, rfl, by rw [HCL.out, ← hkk]; exact HO.out.ints, hgr⟩
    · have hn0 : 0 < n := by omega
      obtain ⟨rfl, hnp⟩ := hao hn0
      have hlt : l.getD a 0 < least := by omega
      have hstep := trimH_step least (l.drop a) (by omega) (by rw [drop_getD, Nat.add_zero]; exact hlt)
      rw [hdl, List.drop_drop] at hstep
      have c0 := HLN.out wr (gr_refl _ _) a (by omega)
      have hn0i : (0 : Int) < (n : Int) := by omega
      generalize hx : l.getD a 0 = x at *
      clear hstop hrest hx
      by_cases h1 : n = 1
      · subst h1
        have HT3 : Hid (trimH least l = trimH least (l.drop (a + 1))) := by show _ = _; rw [HT.out, hstep]; rfl
        clear hstep hdl HT
        go_wp2_with fail
        by_cases hc1 : c = 1
        · simp only [hc1, if_true]
          go_roundw
          case rel => exact ⟨a, a + 1, 0, _, rfl, by omega, by omega, fun h => absurd h (by omega), HT3, trivial⟩
          case measure => simp [sliceLn]
        · simp only [hc1, if_false]
          go_roundw
          case rel => exact ⟨N, a + 1, 0, c - 1, rfl, by omega, by omega, fun h => absurd h (by omega), HT3, trivial⟩
          case measure => simp [sliceLn]
      · have HT3 : Hid (trimH least l = trimH least (l.drop (a + 2))) := by show _ = _; rw [HT.out, hstep, Nat.min_eq_left (by omega)]
        have hmin : min (2 : Int) (n : Int) = 2 := by omega
        have h2n : (2 : Int) ≤ (n : Int) := by omega
        have hc2 : ¬ c = 2 := by omega
        clear hstep hdl HT
        go_wp2_with fail
        go_roundw
        case rel => exact ⟨a + 2, a + 2, n - 2, c - 2, rfl, by omega, by omega, fun h => ⟨rfl, by omega⟩, HT3, trivial⟩
        case measure => simp [sliceLn]; omega
end Go.Proofs.YtcimnlcmpfagnaaDoor
