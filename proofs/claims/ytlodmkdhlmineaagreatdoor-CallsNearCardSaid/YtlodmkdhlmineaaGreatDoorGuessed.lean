/- The walk over the reference GuessedOf: the calls that fit a pattern, by a copy of which the others are struck. Condition: at most 1000 strings of at most 100 bytes, a pattern of at most 100 bytes. -/
import Derived.Test.YtlodmkdhlmineaaGreatDoorGuess
import Derived.Lib.SliceRun
namespace Go.Proofs.YtlodmkdhlmineaaGreatDoor
open Go.RowKit
set_option linter.unusedVariables false
set_option linter.unusedSimpArgs false

theorem zeroStr (w : World) : (zeroValue 9).run Tryz.prog w = .ok (.string ⟨#[]⟩) w := by kernel_rfl
theorem strs_zeros (base g n c : Nat) : ∀ (m o : Nat) (w : World) (l : List ByteArray), w.ownsRow base 9 1 (.slice (some ⟨g, 0, none⟩) n c) n (l.map Value.string) →
    ∃ l' : List ByteArray, l'.length = l.length ∧ l'.take o = l.take o ∧ (w.setCells g o (List.replicate m (.string ⟨#[]⟩))).ownsRow base 9 1 (.slice (some ⟨g, 0, none⟩) n c) n (l'.map Value.string) ∧ w.grownBy (w.setCells g o (List.replicate m (.string ⟨#[]⟩))) (some g)
  | 0, o, w, l, h => ⟨l, rfl, rfl, h, gr_refl _ _⟩
  | m + 1, o, w, l, h => by
    have h1 := h.stored o (.string ⟨#[]⟩)
    rw [← List.map_set] at h1
    obtain ⟨l', e, e2, h2, h3⟩ := strs_zeros base g n c m (o + 1) _ _ h1.1
    refine ⟨l', by rw [e]; simp, ?_, h2, gr_trans h1.2 h3⟩
    have e3 := congrArg (List.take o) e2
    rw [List.take_take, List.take_take, Nat.min_eq_left (by omega)] at e3
    rw [e3, List.take_set]
    exact List.set_eq_of_length_le (by rw [List.length_take]; omega)
set_option maxHeartbeats 400000 in
theorem gdel_any (p x : ByteArray) (xb : Nat) (w : World) (hc : w.cell? ⟨xb, 0, none⟩ = some (.string p)) (hp : p.size ≤ 100) (hx : x.size ≤ 100) :
    Calls Tryz.prog 67 #[.string x, .pointer (some ⟨xb, 0, none⟩)] w fun r w' => r = .returned (.bool (!fitS p x)) ∧ w.grownBy w' none := by
  have HF := Lib.hid (fun W => refFits_any _ p x W rfl hp hx)
  rw [show fitL p.data.toList x.data.toList = fitS p x from rfl] at HF
  generalize fitS p x = B at *
  cases B
  all_goals
    go_enter Tryz.func67, Tryz.ntmps67
    go_wp2_with fail
    refine (HF.out _).mono ?_
    rintro _ w1 ⟨rfl, hg1⟩
    go_wp2_with fail
    go_ret
    exact ⟨rfl, hg1⟩
def IdxDel (p : ByteArray) (L : List ByteArray) (i : Int) : Prop := (i = -1 ∧ L.filter (fitS p) = L) ∨ ∃ j : Nat, i = j ∧ j < L.length ∧ (L.take (j + 1)).filter (fitS p) = L.take j
theorem fit_all {p : ByteArray} {L : List ByteArray} {k : Nat} (h : k < L.length) (h1 : (L.take k).filter (fitS p) = L.take k) (h2 : fitS p L[k] = true) : (L.take (k + 1)).filter (fitS p) = L.take (k + 1) := by
  rw [filter_take h, h1, if_pos h2, List.take_succ_eq_append_getElem h]
theorem fit_not {p : ByteArray} {L : List ByteArray} {k : Nat} (h : k < L.length) (h1 : (L.take k).filter (fitS p) = L.take k) (h2 : fitS p L[k] = false) : (L.take (k + 1)).filter (fitS p) = L.take k := by
  rw [filter_take h, h1, if_neg (by rw [h2]; simp), List.append_nil]
set_option maxRecDepth 100000 in
set_option maxHeartbeats 2000000 in
theorem idxDel_any (base xb : Nat) (p : ByteArray) (v : Value) (L : List ByteArray) (w : World) (hl : StrsFrom base w v L) (hn : L.length ≤ 1000) (hs : ∀ x ∈ L, x.size ≤ 100) (hp : p.size ≤ 100) (hc : w.cell? ⟨xb, 0, none⟩ = some (.string p)) :
    Calls Tryz.prog 129 #[v, .func (.func 67) #[] #[.pointer (some ⟨xb, 0, none⟩)]] w fun e w' => (∃ i : Int, e = .returned (.int .i64 i) ∧ Hid (IdxDel p L i)) ∧ w.grownBy w' none := by
  obtain ⟨A, ca, rfl, hla, hA⟩ := hl.shape
  have HU := Lib.hid hl
  have HA := Lib.hid hA
  have HS := Lib.hid hs
  have HC : Hid (∀ W : World, w.grownBy W none → W.cell? ⟨xb, 0, none⟩ = some (.string p)) := fun W hW => hW.cell hc (by simp)
  clear hl hA hs hc
  go_enter Tryz.func129, Tryz.ntmps129
  go_wp2_with fail
  go_loopw [8] (fun i wr => ∃ k : Nat, k ≤ L.length ∧ i = .int .i64 k ∧ Hid ((L.take k).filter (fitS p) = L.take k) ∧ w.grownBy wr none) (fun i _ => L.length - (intOf i).toNat)
  case atStart => exact ⟨0, by omega, rfl, rfl, gr_refl _ _⟩
  case round =>
    obtain ⟨k, hk, rfl, HT, hgr⟩ := hrel
    by_cases hlt : k < L.length
    · obtain ⟨g, rfl, _, _⟩ := HA.out (by omega)
      have cx := (HU.out.grown hgr).at_ k hlt
      have hkl : (k : Int) < (L.length : Int) := by omega
      have HN := Lib.hid (gdel_any p L[k] xb wr (HC.out _ hgr) hp (HS.out _ (List.getElem_mem hlt)))
      have HAT := Lib.hid (fun h => fit_all hlt HT.out h)
      have HNT := Lib.hid (fun h => fit_not hlt HT.out h)
      generalize L[k] = x at *
      cases hB : fitS p x
      · rw [hB] at HN
        have HI : Hid (IdxDel p L (k : Int)) := .inr ⟨k, rfl, hlt, HNT.out hB⟩
        clear hB
        go_wp2_with fail
        refine HN.out.mono ?_
        rintro _ w1 ⟨rfl, hg1⟩
        go_wp2_with fail
        go_ret
        exact ⟨⟨_, rfl, HI⟩, gr_trans hgr hg1⟩
      · rw [hB] at HN
        have HT2 := Lib.hid (HAT.out hB)
        clear hB
        go_wp2_with fail
        refine HN.out.mono ?_
        rintro _ w1 ⟨rfl, hg1⟩
        go_wp2_with fail
        go_roundw
        case rel => exact ⟨k + 1, by omega, by go_num, HT2, gr_trans hgr hg1⟩
        case measure => simp [intOf]; omega
    · have hkl : ¬ (k : Int) < (L.length : Int) := by omega
      have hfull : L.take k = L := List.take_of_length_le (by omega)
      rw [hfull] at HT
      have HI : Hid (IdxDel p L (-1)) := .inl ⟨rfl, HT.out⟩
      clear hfull
      go_wp2_with fail
      go_ret
      exact ⟨⟨_, rfl, HI⟩, hgr⟩
set_option maxRecDepth 100000 in
set_option maxHeartbeats 4000000 in
theorem delS_any (base xb : Nat) (p : ByteArray) (v : Value) (L : List ByteArray) (w : World) (hl : StrsFrom base w v L) (hn : L.length ≤ 1000) (hs : ∀ x ∈ L, x.size ≤ 100) (hp : p.size ≤ 100) (hc : w.cell? ⟨xb, 0, none⟩ = some (.string p)) (hxb : xb < base) :
    Calls Tryz.prog 65 #[v, .func (.func 67) #[] #[.pointer (some ⟨xb, 0, none⟩)]] w fun e w' => ∃ u, e = .returned u ∧ StrsFrom base w' u (L.filter (fitS p)) ∧ w.grownBy w' v.ownBlock := by
  have HI := Lib.hid (idxDel_any base xb p v L w hl hn hs hp hc)
  obtain ⟨A, ca, rfl, hla, hA⟩ := hl.shape
  have HU := Lib.hid hl
  have HS := Lib.hid hs
  have HA := Lib.hid hA
  clear hl hA hs
  go_enter Tryz.func65, Tryz.ntmps65
  go_wp2_with fail
  refine HI.out.mono ?_
  rintro _ w1 ⟨⟨i, rfl, HD⟩, hg1⟩
  rcases HD.out with ⟨rfl, hall⟩ | ⟨j, rfl, hj, hfj⟩
  · have HALL := Lib.hid hall
    clear hall HI
    go_wp2_with fail
    go_ret
    exact ⟨_, rfl, by rw [HALL.out]; exact HU.out.grown hg1, gr_weak hg1 _⟩
  · have hne : ((j : Int) == -1) = false := by rw [beq_eq_false_iff_ne]; omega
    obtain ⟨g, rfl, hg0, hglt⟩ := HA.out (by omega)
    have hU1 := HU.out.grown hg1
    have HFJ := Lib.hid hfj
    have hcw : w1.cell? ⟨xb, 0, none⟩ = some (.string p) := hg1.cell hc (by simp)
    have HCW : Hid (∀ W : World, w1.grownBy W (some g) → W.cell? ⟨xb, 0, none⟩ = some (.string p)) := fun W hW => hW.cell hcw (by intro e; injection e with e; have e2 : xb = g := e; omega)
    have HU1 : Hid (w1.ownsRow base 9 1 (.slice (some ⟨g, 0, none⟩) L.length ca) L.length (L.map Value.string)) := hU1
    have hG1 := gr_weak hg1 (some g)
    have hcap : L.length ≤ ca := by
      rcases HU1.out.2 with ⟨h0, _⟩ | ⟨g', cap, cur, h0, _, _, h5, _⟩
      · cases h0
      · injection h0 with e1 e2 e3
        omega
    have hcapi : (L.length : Int) ≤ (ca : Int) := by omega
    clear HA HI HD hfj hU1 hcw hc
    go_wp2_with fail
    go_loopw [5, 6] (fun a b wr => ∃ (i q : Nat) (z : List ByteArray), a = .int .i64 i ∧ b = .int .i64 q ∧ i < q ∧ q ≤ L.length ∧ z.length = L.length ∧ Hid (z.take i = (L.take q).filter (fitS p) ∧ z.drop q = L.drop q) ∧ Hid (wr.ownsRow base 9 1 (.slice (some ⟨g, 0, none⟩) L.length ca) L.length (z.map Value.string)) ∧ w1.grownBy wr (some g)) (fun _ b _ => L.length - (intOf b).toNat)
    case atStart => exact ⟨j, j + 1, L, rfl, by go_num, by omega, by omega, rfl, ⟨HFJ.out.symm, rfl⟩, HU1, gr_refl _ _⟩
    case round =>
      obtain ⟨i, q, z, rfl, rfl, hiq, hq, hz, HZ, HO, hgr⟩ := hrel
      rename World => wx
      by_cases hlt2 : q < L.length
      · have hqz : q < z.length := by omega
        have hiz : i < z.length := by omega
        have hzq : z[q] = L[q] := by
          have h1 := HZ.out.2
          rw [List.drop_eq_getElem_cons hqz, List.drop_eq_getElem_cons hlt2] at h1
          injection h1
        have cx : wx.cell? ⟨g, q, none⟩ = some (.string L[q]) := by
          rw [HO.out.cellAt q (by omega)]; simp [hqz, hzq]
        have ci : wx.cell? ⟨g, i, none⟩ = some (.string z[i]) := by
          rw [HO.out.cellAt i (by omega)]; simp [hiz]
        have fi := HO.out.frozenAt i
        have hql : (q : Int) < (L.length : Int) := by omega
        have hst := HO.out.stored i (.string L[q])
        rw [← List.map_set] at hst
        have HST := Lib.hid hst
        have HN := Lib.hid (gdel_any p L[q] xb wx (HCW.out _ hgr) hp (HS.out _ (List.getElem_mem hlt2)))
        have hft := filter_take (p := p) hlt2
        have HZ2 : Hid (fitS p L[q] = true → (z.set i L[q]).take (i + 1) = (L.take (q + 1)).filter (fitS p) ∧ (z.set i L[q]).drop (q + 1) = L.drop (q + 1)) := fun h => by
          rw [hft, if_pos h, ← HZ.out.1]
          refine ⟨?_, ?_⟩
          · rw [List.take_succ_eq_append_getElem (by simp; omega), List.take_set, List.set_eq_of_length_le (by rw [List.length_take]; omega)]
            simp
          · rw [List.drop_set_of_lt (by omega)]
            have h1 := congrArg (List.drop 1) HZ.out.2
            rw [List.drop_drop, List.drop_drop] at h1
            exact h1
        have HZ3 : Hid (fitS p L[q] = false → z.take i = (L.take (q + 1)).filter (fitS p) ∧ z.drop (q + 1) = L.drop (q + 1)) := fun h => by
          rw [hft, if_neg (by rw [h]; simp), List.append_nil]
          refine ⟨HZ.out.1, ?_⟩
          have h1 := congrArg (List.drop 1) HZ.out.2
          rw [List.drop_drop, List.drop_drop] at h1
          exact h1
        clear hzq hst hft
        generalize z[i] = x0 at *
        generalize L[q] = x at *
        cases hB : fitS p x
        · rw [hB] at HN
          have HZ4 := Lib.hid (HZ3.out hB)
          clear hB
          go_wp2_with fail
          refine HN.out.mono ?_
          rintro _ w2 ⟨rfl, hg2⟩
          have HO2 := Lib.hid (ownsRow_grown HO.out hg2)
          go_wp2_with fail
          go_roundw
          case rel => exact ⟨i, q + 1, z, rfl, by go_num, by omega, by omega, hz, HZ4, HO2, gr_trans hgr (gr_weak hg2 _)⟩
          case measure => simp [intOf]; omega
        · rw [hB] at HN
          have HZ4 := Lib.hid (HZ2.out hB)
          clear hB
          go_wp2_with fail
          refine HN.out.mono ?_
          rintro _ w2 ⟨rfl, hg2⟩
          have ci2 : w2.cell? ⟨g, i, none⟩ = some (.string x0) := hg2.cell ci (by simp)
          have HO2 := Lib.hid (ownsRow_grown HO.out hg2)
          have fi2 := HO2.out.frozenAt i
          have hst2 := HO2.out.stored i (.string x)
          rw [← List.map_set] at hst2
          have HST2 := Lib.hid hst2
          clear hst2
          go_wp2_with fail
          go_roundw
          case rel => exact ⟨i + 1, q + 1, z.set i x, by go_num, by go_num, by omega, by omega, by simp; omega, HZ4, HST2.out.1, gr_trans (gr_trans hgr (gr_weak hg2 _)) HST2.out.2⟩
          case measure => simp [intOf]; omega
      · have hql : ¬ (q : Int) < (L.length : Int) := by omega
        obtain rfl : q = L.length := by omega
        have hil : (i : Int) ≤ (L.length : Int) := by omega
        have hil2 : i < L.length := by omega
        have hic : i ≤ ca := by omega
        have hici : (i : Int) ≤ (ca : Int) := by omega
        have hfin := HZ.out.1
        rw [List.take_length] at hfin
        have HFIN := Lib.hid hfin
        obtain ⟨z', hz', hz2, hown2, hgr2⟩ := strs_zeros base g L.length ca (L.length - i) i wx z HO.out
        have hcl : ∀ ty, (Builtin.clear_ #[27] ty #[.slice (some ⟨g, i, none⟩) (L.length - i) (ca - i)]).run Tryz.prog wx = .ok (.tuple #[]) (wx.setCells g i (List.replicate (L.length - i) (.string ⟨#[]⟩))) :=
          fun ty => Lib.run_clear_slice wx 27 9 ty (.string ⟨#[]⟩) Tryz.underlying27 zeroStr rfl rfl g i _ _ (by omega) (fun k hk => by rw [HO.out.cellAt (i + k) (by omega)]; simp [show i + k < z.length by omega]) (fun k hk => HO.out.frozenAt _)
        generalize wx.setCells g i (List.replicate (L.length - i) (.string ⟨#[]⟩)) = W2 at *
        have HZ' := Lib.hid hz'
        have HZZ := Lib.hid hz
        have HZ2 := Lib.hid hz2
        clear hz hz' hz2 hfin
        go_wp2_with (simp only [hcl])
        go_ret
        have hlen : z'.length = L.length := by rw [HZ'.out, HZZ.out]
        have hfl : (L.filter (fitS p)).length = i := by rw [← HFIN.out, List.length_take]; have := HZZ.out; omega
        refine ⟨_, rfl, ?_, gr_trans hG1 (gr_trans hgr hgr2)⟩
        have hrow : W2.ownsRow base 9 1 (.slice (some ⟨g, 0, none⟩) i ca) i ((z'.take i).map Value.string) := by
          rcases hown2.2 with ⟨h0, _⟩ | ⟨g', cap, cur, h0, hb, hgh, hnc, hm, hsz, ht⟩
          · cases h0
          · injection h0 with e1 e2 e3
            refine ⟨by simp; omega, .inr ⟨g', cap, cur, by rw [← e3]; injection e1 with e1; rw [e1], hb, hgh, by omega, hm, hsz, ?_⟩⟩
            rw [List.map_take, ← ht, List.take_take]
            congr 1
            omega
        unfold StrsFrom
        rw [hfl, ← HFIN.out, ← HZ2.out]
        exact hrow
theorem cloneS_any (base : Nat) (v : Value) (L : List ByteArray) (w : World) (hl : StrsFrom base w v L) (hn : L.length ≤ 1000) :
    Calls Tryz.prog 66 #[v] w fun e w' => ∃ u, e = .returned u ∧ StrsFrom w.heap.size w' u L ∧ w.grownBy w' none := by
  rcases strs_none hl with ⟨rfl, rfl⟩ | ⟨g, c, rfl, hg, hlt⟩
  · refine (Tryz.slices_Clone_string_nil 0 0 w).mono ?_
    rintro e w' ⟨he, hw⟩
    subst hw
    exact ⟨_, he, StrsFrom.nil _ _, gr_refl _ _⟩
  · refine (Tryz.slices_Clone_string g 0 L.length c L w (Nat.le_refl _) (by omega) (fun j hj => by rw [Nat.zero_add, hl.at_ j hj]; simp [hj])).mono ?_
    rintro e w' ⟨u, he, ho, _, hw⟩
    rw [List.take_length] at ho
    exact ⟨u, he, ho, gr_of_below hw⟩
set_option maxRecDepth 100000 in
set_option maxHeartbeats 1000000 in
theorem guessedOf_any (base : Nat) (p : ByteArray) (v : Value) (L : List ByteArray) (w : World) (hl : StrsFrom base w v L) (hn : L.length ≤ 1000) (hs : ∀ x ∈ L, x.size ≤ 100) (hp : p.size ≤ 100) :
    Calls Tryz.prog 22 #[.string p, v] w fun e w' => ∃ u, e = .returned u ∧ StrsFrom w.heap.size w' u (L.filter (fitS p)) ∧ w.grownBy w' none := by
  have hB := Blk.new w 9 #[.string p]
  have hG0 := World.grownBy_alloc w (.cells #[.string p] 9) none
  have hsz1 : (w.alloc (.cells #[.string p] 9)).heap.size = w.heap.size + 1 := by simp
  have HCL := Lib.hid (cloneS_any base v L _ (hl.grown hG0) hn)
  rw [hsz1] at HCL
  have HDEL := Lib.hid (fun u W (h : StrsFrom (w.heap.size + 1) W u L) hc => delS_any (w.heap.size + 1) w.heap.size p u L W h hn hs hp hc (by omega))
  clear hl hn hs hp hsz1
  go_enter Tryz.func22, Tryz.ntmps22
  go_wp2_with fail
  generalize w.alloc (.cells #[.string p] 9) = W1 at *
  refine HCL.out.mono ?_
  rintro _ w2 ⟨u, rfl, hu, hg2⟩
  have hG2 := gr_trans hG0 hg2
  have hc2 : w2.cell? ⟨w.heap.size, 0, none⟩ = some (.string p) := (hB.grown hg2 (by simp)).cell 0
  have HD := Lib.hid (HDEL.out u w2 hu hc2)
  have HRW := Lib.hid (fun g e => (World.ownsRow.lt hu g e).1)
  obtain ⟨A2, c2, rfl, _, _⟩ := hu.shape
  clear hu hc2 HDEL
  go_wp2_with fail
  refine HD.out.mono ?_
  rintro _ w3 ⟨u3, rfl, hu3, hg3⟩
  go_wp2_with fail
  go_ret
  exact ⟨_, rfl, hu3.low (by omega), gr_grown hG2 hg3 (fun g e => .inr (by have := HRW.out g e; omega))⟩
end Go.Proofs.YtlodmkdhlmineaaGreatDoor
