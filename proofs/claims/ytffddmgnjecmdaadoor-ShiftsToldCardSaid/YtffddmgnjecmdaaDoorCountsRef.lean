/- The walk over the reference's CountsOf. Condition: few shifts without error; a window within a contest; at most 1000 times. -/
import Derived.Test.YtffddmgnjecmdaaDoorWhoRef
import Derived.Test.YtffddmgnjecmdaaDoorCounts
import Derived.Deep.RegionWith
namespace Go.Proofs.YtffddmgnjecmdaaDoor
open Go.RowKit
set_option linter.unusedVariables false
set_option linter.unusedSimpArgs false

/-- How many of the first so many times one operates. -/
def ownN (sh : List (Int × ByteArray)) (ts : List Int) (q : List UInt8) (j : Nat) : Int := (((ts.take j).countP fun t => decide ((whoS sh t).data.toList = q) : Nat) : Int)
theorem ownN_step (sh : List (Int × ByteArray)) (ts : List Int) (q : List UInt8) (j : Nat) (h : j < ts.length) : ownN sh ts q (j + 1) = ownN sh ts q j + truthI (decide ((whoS sh ts[j]).data.toList = q)) := by
  unfold ownN
  rw [List.take_succ_eq_append_getElem h, List.countP_append]
  cases hd : decide ((whoS sh ts[j]).data.toList = q) <;> simp [truthI, hd]
theorem ownN_bd (sh : List (Int × ByteArray)) (ts : List Int) (q : List UInt8) (j : Nat) : 0 ≤ ownN sh ts q j ∧ ownN sh ts q j ≤ j := by
  unfold ownN
  have h1 := List.countP_le_length (p := fun t => decide ((whoS sh t).data.toList = q)) (l := ts.take j)
  have h2 : (ts.take j).length ≤ j := by simp; omega
  omega
theorem ownN_all (sh : List (Int × ByteArray)) (ts : List Int) (q : List UInt8) : ownN sh ts q ts.length = valS (manyS sh ts) q := by
  unfold ownN
  rw [List.take_length, manyS_count]

theorem str_at (w : World) (x : ByteArray) (t : TypeId) (g : Nat) (hg : g = w.heap.size) : ∀ j u, ([Value.string x])[j]? = some u → (w.alloc (.cells #[.string x] t)).cell? ((⟨g, 0, none⟩ : Addr).add j) = some u := by
  subst hg; exact str_new w x t
set_option maxRecDepth 100000 in
set_option maxHeartbeats 8000000 in
theorem refCounts_any (base base2 : Nat) (v v2 : Value) (ts : List Int) (l : List (Int × ByteArray)) (a z : Int) (w : World) (hts : IntsFrom base w v ts) (htl : ts.length ≤ 1000) (hl : ShFrom base2 w v2 l) (F : ShFew l) (O : ShOk l) (ha : 0 ≤ a) (hz0 : 0 ≤ z) (ha1 : a ≤ 345686400000) (hz : z ≤ 345686400000) :
    Calls Tryd.prog 42 #[v, .agg #[.int .i64 a, .int .i64 z], v2] w fun r w' =>
      ∃ u, r = .returned u ∧ CountsFrom (w.heap.size + 1) w' u (onceB (whosTo l a z l.length)) (valS (manyS l ts)) (valS (longsTo l a z l.length)) ∧ w.grownBy w' none := by
  obtain ⟨A, c, rfl, hlen, hA⟩ := hl.shape
  obtain ⟨At, ct, rfl, htl2, hAt⟩ := hts.shape
  have HAt := Lib.hid hAt
  clear hAt
  have h6 := F.len
  have HF := Lib.hid F
  have HO := Lib.hid O
  have hx := (Blk.new w 60 #[.int .i64 a, .int .i64 z]).alloc (.map #[] 0)
  have hM := MapS.made (w.alloc (.cells #[.int .i64 a, .int .i64 z] 60))
  have hG := gr_alloc (World.grownBy_alloc w (.cells #[.int .i64 a, .int .i64 z] 60) none) (.map #[] 0)
  have HL0 := Lib.hid hl
  have HT0 := Lib.hid hts
  have hmm := @run_makeMap Tryd.prog
  have HBD := Lib.hid (longsTo_bd l a z ha hz O.mom)
  obtain ⟨i0, hi, hz0', hz1, hz2⟩ := info_parts strNameInfo
  obtain ⟨j0, kj, ky0, ky1, ky2⟩ := info_parts counts_info
  clear hl F O hts
  rw [World.size_alloc] at hM
  go_enter Tryd.func42, Tryd.ntmps42
  go_wp2_with fail
  generalize (w.alloc (.cells #[.int .i64 a, .int .i64 z] 60)).alloc (.map #[] 0) = W at *
  have hWs := hG.size
  have hWs2 : w.heap.size + 2 ≤ W.heap.size := by have := hM.lt; omega
  go_loopw [7, 22] (fun o i wr => ∃ k : Nat, k ≤ l.length ∧ i = .int .i64 k ∧ NamesFrom W.heap.size wr o (whosTo l a z k) ∧ MapS wr (w.heap.size + 1) k (longsTo l a z k) ∧ w.grownBy wr none ∧ W.heap.size ≤ wr.heap.size ∧ Blk wr w.heap.size 60 #[.int .i64 a, .int .i64 z]) (fun _ i _ => l.length - (intOf i).toNat)
  case atStart => exact ⟨0, by omega, rfl, NamesFrom.nil _ _, hM, hG, Nat.le_refl _, hx⟩
  case round =>
    obtain ⟨k, hk, rfl, hown, hMr, hwr, hWr, hxr⟩ := hrel
    obtain ⟨A2, c2, rfl, hlen2, hsh2⟩ := hown.shape
    clear hsh2
    have HLr := Lib.hid (HL0.out.grown hwr)
    by_cases hlt : k < l.length
    · obtain ⟨g, rfl, hg0, hg1⟩ := hA (by omega)
      clear hA
      have hkl : (k : Int) < (l.length : Int) := by omega
      obtain ⟨c0, c1⟩ := HLr.out.at1 k hlt
      have hmom := HO.out.mom _ (List.getElem_mem hlt)
      have hstr := HF.out.str _ (List.getElem_mem hlt)
      have hnx : (k + 1 < l.length ∧ wr.cell? ⟨g, (k + 1) * 2, none⟩ = some (.int .i64 (nextS l k))) ∨ (¬ k + 1 < l.length ∧ nextS l k = 345686400000) := by
        by_cases h1 : k + 1 < l.length
        · refine .inl ⟨h1, ?_⟩
          rw [(HLr.out.at1 (k + 1) h1).1]
          simp [nextS, h1]
        · exact .inr ⟨h1, by simp [nextS, h1]⟩
      have hnb : 0 ≤ nextS l k ∧ nextS l k ≤ 345686400000 := by
        unfold nextS
        split
        · rename_i q hq
          have := HO.out.mom q (List.mem_of_getElem? hq)
          omega
        · omega
      have HS : Hid (longsTo l a z (k + 1) = if 0 < overS l a z k l[k].1 ∧ l[k].2.toList.isEmpty = false then addS (longsTo l a z k) l[k].2.data.toList (overS l a z k l[k].1) else longsTo l a z k) := by
        show _ = _
        conv => lhs; unfold longsTo
        rw [List.getElem?_eq_getElem hlt]
      have HQ : Hid (whosTo l a z (k + 1) = if 0 < overS l a z k l[k].1 ∧ l[k].2.toList.isEmpty = false then whosTo l a z k ++ [l[k].2.data.toList] else whosTo l a z k) := by
        show _ = _
        conv => lhs; unfold whosTo
        rw [List.getElem?_eq_getElem hlt]
      have HOV : Hid (overS l a z k l[k].1 = min (nextS l k) z - max l[k].1 a) := rfl
      have hbd := HBD.out k
      have hwl := whosTo_len l a z k
      obtain ⟨x, hxx⟩ : ∃ x, l[k].1 = x := ⟨_, rfl⟩
      obtain ⟨who, hww⟩ : ∃ y, l[k].2 = y := ⟨_, rfl⟩
      rw [hxx] at c0 HS HQ hmom HOV
      rw [hww] at c1 HS HQ hstr
      generalize nextS l k = nx at *
      obtain ⟨N, hN⟩ : ∃ N, overS l a z k x = N := ⟨_, rfl⟩
      rw [hN] at HS HQ HOV
      have hov0 := HOV.out
      have hNb : N ≤ 345686400000 := by omega
      have hNb0 : -345686400000 ≤ N := by omega
      have hvb := valS_bd (l := longsTo l a z k) (B := 345686400000 * (k : Int)) (by omega) hbd.1 who.data.toList
      have hB := Blk.new wr 124 #[.int .i64 x, .string who]
      have hM2 := hMr.quiet (World.grownBy_alloc wr (.cells #[.int .i64 x, .string who] 124) none)
      have hx2 := hxr.alloc (.cells #[.int .i64 x, .string who] 124)
      have hG2 := gr_alloc hwr (.cells #[.int .i64 x, .string who] 124)
      have hown2 := hown.grown (World.grownBy_alloc wr (.cells #[.int .i64 x, .string who] 124) none)
      have hlook := hM2.look who (by omega)
      have HM2 := Lib.hid hM2
      have hmL := hM2.lt
      obtain ⟨x0, x1⟩ := hx2.cells2
      obtain ⟨b0, b1⟩ := hB.cells2
      generalize hV : valS (longsTo l a z k) who.data.toList = V at *
      have HV := Lib.hid hV
      generalize longsTo l a z k = LK at *
      generalize whosTo l a z k = WK at *
      have HS1 : Hid (¬ 0 < N → longsTo l a z (k + 1) = LK ∧ whosTo l a z (k + 1) = WK) := fun h => ⟨by rw [HS.out, if_neg (by omega)], by rw [HQ.out, if_neg (by omega)]⟩
      have HS2 : Hid (who.toList.isEmpty = true → longsTo l a z (k + 1) = LK ∧ whosTo l a z (k + 1) = WK) := fun h => ⟨by rw [HS.out, if_neg (by simp [h])], by rw [HQ.out, if_neg (by simp [h])]⟩
      have HS3 : Hid (0 < N → who.toList.isEmpty = false → longsTo l a z (k + 1) = addS LK who.data.toList N ∧ whosTo l a z (k + 1) = WK ++ [who.data.toList]) := fun h h2 => ⟨by rw [HS.out, if_pos ⟨h, h2⟩], by rw [HQ.out, if_pos ⟨h, h2⟩]⟩
      have hszr := hwr.size
      have HRL : Hid (∀ kk, (Value.slice A2 WK.length c2).ownBlock = some kk → W.heap.size ≤ kk ∧ kk < wr.heap.size) := fun kk e => hown.lt kk e
      clear hxx hww hN hbd hM2 hMr hxr hV hown hov0
      rcases hnx with ⟨h1, cn⟩ | ⟨h1, h2⟩
      · have h1' : (k : Int) + 1 < (l.length : Int) := by omega
        have cn2 : (wr.alloc (.cells #[.int .i64 x, .string who] 124)).cell? ⟨g, (k + 1) * 2, none⟩ = some (.int .i64 nx) := (World.cell?_alloc_lt wr _ _ (World.block_lt_of_cell? wr _ cn)).trans cn
        have hov : min z nx - max x a = N := by have := HOV.out; omega
        by_cases hNp : 0 < N
        · rcases he : who.toList.isEmpty
          · obtain ⟨h3, h4⟩ := HS3.out hNp he
            have HS4 := Lib.hid h3
            have HQ4 := Lib.hid h4
            clear h3 h4
            go_wp2_with (first | (refine wpList_mapS _ rfl _ _ _ rfl (w.heap.size + 1) k LK who N rfl rfl (by show _ = Value.int .i64 _; rw [HV.out]; rfl) hM6.out (by omega) (by omega) (by rw [HV.out]; exact i64_wf (by omega) (by omega)) ?_; intro w7 hM7 hg7) | (at_builtin; refine wpList_append_own _ rfl _ _ 117 rfl W.heap.size 9 i0 _ 1 16 Tryd.underlying117 hi hz0' hz1 hz2 rfl (by decide) _ _ _ rfl (World.ownsRow.alloc (show World.ownsRow _ W.heap.size 9 1 (.slice A2 WK.length c2) WK.length (WK.map encStr) from hown2) _) ⟨_, 0, none⟩ 1 1 [.string who] rfl rfl (str_at _ _ _ _ (by simp)) (str_newOne _) (by unfold maxLen; omega) (by omega) (by simp; omega) ?_; intro v2 w6 h2_ hgw_ _; have hM6 := Lib.hid (MapS.kept (HM2.out.quiet (World.grownBy_alloc _ (.cells #[.string who] 9) none)) hgw_ (fun e => by have := HRL.out _ e.symm; omega)); have hl6 := hM6.out.look who (by omega); rw [HV.out] at hl6; have b61 : w6.cell? ⟨wr.heap.size, 1, none⟩ = some (.string who) := ((hB.alloc (.cells #[.string who] 9)).grown hgw_ (fun e => by have := HRL.out _ e.symm; omega)).cell 1))
            have hG6 : w.grownBy w7 none := gr_grown (gr_grown (gr_alloc hG2 (.cells #[.string who] 9)) hgw_ (fun kk e => .inr (by have := HRL.out _ e; omega))) hg7 (fun kk e => .inr (by injection e with e; omega))
            have hW7 : W.heap.size ≤ w7.heap.size := by have h1 := hgw_.size; have h2 := hg7.size; simp at h1; omega
            have hx7 := ((hx2.alloc (.cells #[.string who] 9)).grown hgw_ (fun e => by have := HRL.out _ e.symm; omega)).grown hg7 (by first | (simp; done) | (simp; omega))
            have hown7 : NamesFrom W.heap.size w7 v2 (whosTo l a z (k + 1)) := by
              rw [HQ4.out]
              unfold NamesFrom
              rw [List.map_append, List.length_append]
              have := ownsRow_other h2_ hg7 (by omega)
              simpa [encStr_bytes] using this
            go_wp2_with fail
            go_roundw
            case rel => exact ⟨k + 1, by omega, by go_num, hown7, by rw [HS4.out]; exact hM7, hG6, hW7, hx7⟩
            case measure => simp [intOf]; omega
          · obtain ⟨h3, h4⟩ := HS2.out he
            have HS4 := Lib.hid h3
            have HQ4 := Lib.hid h4
            have hn : who.toList = [] := by simpa using he
            clear h3 h4 he
            go_wp2_with fail
            go_roundw
            case rel => exact ⟨k + 1, by omega, by go_num, by rw [HQ4.out]; exact hown2, by rw [HS4.out]; exact MapS.mono HM2.out, hG2, by simp; omega, hx2⟩
            case measure => simp [intOf]; omega
        · obtain ⟨h3, h4⟩ := HS1.out hNp
          have HS4 := Lib.hid h3
          have HQ4 := Lib.hid h4
          clear h3 h4
          go_wp2_with fail
          go_roundw
          case rel => exact ⟨k + 1, by omega, by go_num, by rw [HQ4.out]; exact hown2, by rw [HS4.out]; exact MapS.mono HM2.out, hG2, by simp; omega, hx2⟩
          case measure => simp [intOf]; omega
      · have h1' : ¬ (k : Int) + 1 < (l.length : Int) := by omega
        have hov : z - max x a = N := by have := HOV.out; omega
        by_cases hNp : 0 < N
        · rcases he : who.toList.isEmpty
          · obtain ⟨h3, h4⟩ := HS3.out hNp he
            have HS4 := Lib.hid h3
            have HQ4 := Lib.hid h4
            clear h3 h4
            go_wp2_with (first | (refine wpList_mapS _ rfl _ _ _ rfl (w.heap.size + 1) k LK who N rfl rfl (by show _ = Value.int .i64 _; rw [HV.out]; rfl) hM6.out (by omega) (by omega) (by rw [HV.out]; exact i64_wf (by omega) (by omega)) ?_; intro w7 hM7 hg7) | (at_builtin; refine wpList_append_own _ rfl _ _ 117 rfl W.heap.size 9 i0 _ 1 16 Tryd.underlying117 hi hz0' hz1 hz2 rfl (by decide) _ _ _ rfl (World.ownsRow.alloc (show World.ownsRow _ W.heap.size 9 1 (.slice A2 WK.length c2) WK.length (WK.map encStr) from hown2) _) ⟨_, 0, none⟩ 1 1 [.string who] rfl rfl (str_at _ _ _ _ (by simp)) (str_newOne _) (by unfold maxLen; omega) (by omega) (by simp; omega) ?_; intro v2 w6 h2_ hgw_ _; have hM6 := Lib.hid (MapS.kept (HM2.out.quiet (World.grownBy_alloc _ (.cells #[.string who] 9) none)) hgw_ (fun e => by have := HRL.out _ e.symm; omega)); have hl6 := hM6.out.look who (by omega); rw [HV.out] at hl6; have b61 : w6.cell? ⟨wr.heap.size, 1, none⟩ = some (.string who) := ((hB.alloc (.cells #[.string who] 9)).grown hgw_ (fun e => by have := HRL.out _ e.symm; omega)).cell 1))
            have hG6 : w.grownBy w7 none := gr_grown (gr_grown (gr_alloc hG2 (.cells #[.string who] 9)) hgw_ (fun kk e => .inr (by have := HRL.out _ e; omega))) hg7 (fun kk e => .inr (by injection e with e; omega))
            have hW7 : W.heap.size ≤ w7.heap.size := by have h1 := hgw_.size; have h2 := hg7.size; simp at h1; omega
            have hx7 := ((hx2.alloc (.cells #[.string who] 9)).grown hgw_ (fun e => by have := HRL.out _ e.symm; omega)).grown hg7 (by first | (simp; done) | (simp; omega))
            have hown7 : NamesFrom W.heap.size w7 v2 (whosTo l a z (k + 1)) := by
              rw [HQ4.out]
              unfold NamesFrom
              rw [List.map_append, List.length_append]
              have := ownsRow_other h2_ hg7 (by omega)
              simpa [encStr_bytes] using this
            go_wp2_with fail
            go_roundw
            case rel => exact ⟨k + 1, by omega, by go_num, hown7, by rw [HS4.out]; exact hM7, hG6, hW7, hx7⟩
            case measure => simp [intOf]; omega
          · obtain ⟨h3, h4⟩ := HS2.out he
            have HS4 := Lib.hid h3
            have HQ4 := Lib.hid h4
            have hn : who.toList = [] := by simpa using he
            clear h3 h4 he
            go_wp2_with fail
            go_roundw
            case rel => exact ⟨k + 1, by omega, by go_num, by rw [HQ4.out]; exact hown2, by rw [HS4.out]; exact MapS.mono HM2.out, hG2, by simp; omega, hx2⟩
            case measure => simp [intOf]; omega
        · obtain ⟨h3, h4⟩ := HS1.out hNp
          have HS4 := Lib.hid h3
          have HQ4 := Lib.hid h4
          clear h3 h4
          go_wp2_with fail
          go_roundw
          case rel => exact ⟨k + 1, by omega, by go_num, by rw [HQ4.out]; exact hown2, by rw [HS4.out]; exact MapS.mono HM2.out, hG2, by simp; omega, hx2⟩
          case measure => simp [intOf]; omega
    · have hkl : ¬ (k : Int) < (l.length : Int) := by omega
      obtain rfl : k = l.length := by omega
      have hkeys : ∀ q ∈ onceB (whosTo l a z l.length), q.length ≤ 1000 := fun q hq => by
        have h1 := (onceB_props _).2.2 q |>.1 hq
        rw [whosTo_mem, hasS_mem] at h1
        obtain ⟨p, hp, rfl⟩ := longsTo_key l a z _ q h1
        have := HF.out.str p hp
        rw [Lib.size_eq] at this
        exact this
      have hol : (onceB (whosTo l a z l.length)).length ≤ 6 := by
        have h1 := onceB_len (whosTo l a z l.length)
        have h2 := whosTo_len l a z l.length
        omega
      have hwl := whosTo_len l a z l.length
      have hlb := HBD.out l.length
      have hvl := fun q => valS_bd (by omega) hlb.1 q
      have HWA := Lib.hid (fun (t : Int) W h => whoAt_any base2 (.slice A l.length c) l t W h (by omega))
      clear hA HBD hlb
      go_wp2_with fail
      refine (once_any W.heap.size _ _ _ hown (by omega)).mono ?_
      rintro _ w3 ⟨u, rfl, hu, hg3⟩
      have hG3 := gr_trans hwr hg3
      have hM3 := Lib.hid (hMr.quiet hg3)
      generalize hKS : onceB (whosTo l a z l.length) = KS at *
      have HKS := Lib.hid hKS
      generalize hLL : longsTo l a z l.length = LL at *
      have HLLh := Lib.hid hLL
      clear hKS hLL
      have HU := Lib.hid hu
      have HVL := Lib.hid hvl
      have HKY := Lib.hid hkeys
      obtain ⟨A5, c5, rfl, hlen5, hA5⟩ := hu.shape
      have hszo := hwr.size
      have hsz3 := hg3.size
      clear hu hvl hkeys hown hMr hxr hwr hg3 hM hG hx hlen2 hwl
      obtain ⟨n5, hn5⟩ : ∃ n5, KS.length = n5 := ⟨_, rfl⟩
      have HN5 := Lib.hid hn5
      rw [hn5] at hol hlen5 hA5
      rw [hn5]
      clear hn5
      go_wp2_with fail
      generalize wr = wo at *
      go_loopw [13, 71] (fun o i wr => ∃ k : Nat, k ≤ n5 ∧ i = .int .i64 k ∧ CountsFrom w3.heap.size wr o (KS.take k) (valS (manyS l ts)) (valS LL) ∧ w3.grownBy wr none) (fun _ i _ => n5 - (intOf i).toNat)
      case atStart => exact ⟨0, by omega, rfl, World.ownsRow_nil _ _ _ _, gr_refl _ _⟩
      case round =>
        obtain ⟨k, hk, rfl, hown, hgq⟩ := hrel
        obtain ⟨A8, c8, rfl, hlen8, hsh8⟩ := ownsRow_shape hown
        clear hsh8
        have htk : (KS.take k).length = k := by have := HN5.out; simp; omega
        by_cases hlt : k < n5
        · obtain ⟨g5, rfl, _, _⟩ := hA5 (by omega)
          clear hA5
          have hkl : (k : Int) < (n5 : Int) := by omega
          have hks : k < KS.length := by have := HN5.out; omega
          have c0 : wr.cell? ⟨g5, k, none⟩ = some (encStr KS[k]) := by
            exact (HU.out.grown hgq).at_ k hks
          obtain ⟨s, hs⟩ : ∃ s : ByteArray, (⟨KS[k].toArray⟩ : ByteArray) = s := ⟨_, rfl⟩
          have hsl : s.data.toList = KS[k] := by rw [← hs]
          have hse : encStr KS[k] = .string s := by rw [← hs]
          rw [hse] at c0
          have hsz : s.size ≤ 1000 := by
            have := HKY.out _ (List.getElem_mem hks)
            rw [Lib.size_eq, hsl]
            exact this
          have l2 := (hM3.out.quiet hgq).look s (by omega)
          have hv2 := HVL.out s.data.toList
          have HC2 : Hid (ccells (KS.take (k + 1)) (valS (manyS l ts)) (valS LL) = ccells (KS.take k) (valS (manyS l ts)) (valS LL) ++ [.string s, .int .i64 (ownN l ts s.data.toList ts.length), .int .i64 (valS LL s.data.toList)]) := by
            show _ = _
            rw [List.take_succ_eq_append_getElem hks, ccells_snoc, ownN_all, hse, hsl]
          obtain ⟨X2, hX2⟩ : ∃ z, valS LL s.data.toList = z := ⟨_, rfl⟩
          rw [hX2] at l2 hv2 HC2
          have hownA : wr.ownsRow w3.heap.size 80 3 (.slice A8 (KS.take k).length c8) k (ccells (KS.take k) (valS (manyS l ts)) (valS LL)) := by
            have h := hown
            unfold CountsFrom at h
            rwa [htk] at h ⊢
          rw [htk] at hownA ⊢
          generalize ccells (KS.take k) (valS (manyS l ts)) (valS LL) = cs at *
          have hszq := hgq.size
          have HSL := Lib.hid hsl
          clear hs hse hown htk hX2 hsl
          go_wp2_with fail
          have hB16 := Blk.new wr 80 #[.string s, .int .i64 0, .int .i64 X2]
          have hownB := hownA.alloc (.cells #[.string s, .int .i64 0, .int .i64 X2] 80)
          have hG18 := gr_alloc hgq (.cells #[.string s, .int .i64 0, .int .i64 X2] 80)
          have hs18 : (wr.alloc (.cells #[.string s, .int .i64 0, .int .i64 X2] 80)).heap.size = wr.heap.size + 1 := by simp
          have HRL8 : Hid (∀ kk, (Value.slice A8 k c8).ownBlock = some kk → w3.heap.size ≤ kk ∧ kk < wr.heap.size) := fun kk e => hownA.lt kk e
          generalize wr.alloc (.cells #[.string s, .int .i64 0, .int .i64 X2] 80) = W18 at *
          obtain ⟨x16, hx16⟩ : ∃ x, wr.heap.size = x := ⟨_, rfl⟩
          rw [hx16] at hB16 hszq hs18 HRL8 ⊢
          have HX16 := Lib.hid hx16
          clear hx16 hownA c0 l2
          go_loopw [82] (fun i wr => ∃ j : Nat, j ≤ ts.length ∧ i = .int .i64 j ∧ Blk wr x16 80 #[.string s, .int .i64 (ownN l ts s.data.toList j), .int .i64 X2] ∧ W18.grownBy wr (some x16)) (fun i _ => ts.length - (intOf i).toNat)
          case atStart => exact ⟨0, by omega, rfl, by simpa [ownN] using hB16, gr_refl _ _⟩
          case round =>
            obtain ⟨j, hj, rfl, hbj, hgj⟩ := hrel
            have hGj : w3.grownBy wr none := gr_grown hG18 hgj (fun kk e => by injection e with e; exact .inr (by omega))
            have hwj := gr_trans hG3 hGj
            by_cases hlj : j < ts.length
            · obtain ⟨gt, rfl, _, _⟩ := HAt.out (by omega)
              have hjl : (j : Int) < (ts.length : Int) := by omega
              have t0 := (HT0.out.grown hwj).at_ j hlj
              have HNS := Lib.hid (ownN_step l ts s.data.toList j hlj)
              have hnb := ownN_bd l ts s.data.toList j
              obtain ⟨t, ht⟩ : ∃ t, ts[j] = t := ⟨_, rfl⟩
              rw [ht] at t0 HNS
              have HWt := Lib.hid (HWA.out t)
              obtain ⟨S0, hS0⟩ : ∃ z, whoS l t = z := ⟨_, rfl⟩
              rw [hS0] at HWt HNS
              obtain ⟨Q, hQ⟩ : ∃ z, ownN l ts s.data.toList j = z := ⟨_, rfl⟩
              rw [hQ] at hbj hnb HNS
              obtain ⟨b0, b1, b2⟩ : wr.cell? ⟨x16, 0, none⟩ = some (.string s) ∧ wr.cell? ⟨x16, 1, none⟩ = some (.int .i64 Q) ∧ wr.cell? ⟨x16, 2, none⟩ = some (.int .i64 X2) := ⟨hbj.cell 0, hbj.cell 1, hbj.cell 2⟩
              have HLj := Lib.hid (HL0.out.grown hwj)
              have hxlt := hbj.lt
              clear ht hS0 hQ
              go_wp2_with fail
              have d1 : wr.drew.cell? ⟨x16, 1, none⟩ = some (.int .i64 Q) := b1
              have hte : (S0.toList == s.toList) = decide (S0.data.toList = s.data.toList) := by
                rw [Lib.toList_data, Lib.toList_data]
                by_cases h : S0.data.toList = s.data.toList
                · rw [h]; simp
                · have h2 : ¬ S0.data = s.data := fun e => h (by rw [e])
                  simp [h2]
              have htb : 0 ≤ truthI (S0.toList == s.toList) ∧ truthI (S0.toList == s.toList) ≤ 1 := by cases (S0.toList == s.toList) <;> decide
              have e9 : Hid (wrap64 (Q + truthI (S0.toList == s.toList)) = ownN l ts s.data.toList (j + 1)) := by
                have e8 : wrap64 (Q + truthI (S0.toList == s.toList)) = Q + truthI (S0.toList == s.toList) := IntWalk.wrap64_in _ ⟨by omega, by omega⟩
                show _ = _
                rw [HNS.out, ← hte]
                exact e8
              clear hte htb
              go_region_with (first | (go_at_call 41; refine (HWt.out _ (HLj.out.grown (by repeat (first | exact gr_refl _ _ | assumption | refine gr_alloc ?_ _ | refine gr_drewN ?_ _ | refine gr_drew ?_)))).mono ?_; rintro _ wA ⟨rfl, hgA⟩; have hbA := Lib.hid (Blk.grown (row := none) (Blk.grown (row := none) hbj (by repeat (first | exact gr_refl _ _ | assumption | refine gr_alloc ?_ _ | refine gr_drewN ?_ _ | refine gr_drew ?_)) (by simp)) hgA (by simp)); have a1 : wA.cell? ⟨x16, 1, none⟩ = some (.int .i64 Q) := hbA.out.cell 1; have f1 : wA.frozen? ⟨x16, 1, none⟩ = false := hbA.out.free 1) | (go_at_call 97; refine (truth_any _ _).mono ?_; rintro _ _ ⟨rfl, rfl⟩) | fail)
              all_goals
                go_wp2_with fail
                go_roundw
                case rel => exact ⟨j + 1, by omega, by go_num, by rw [e9.out]; exact hbA.out.put 1 _, gr_put (gr_trans hgj (gr_weak (gr_trans (show wr.grownBy _ none from (by repeat (first | exact gr_refl _ _ | assumption | refine gr_alloc ?_ _ | refine gr_drewN ?_ _ | refine gr_drew ?_))) hgA) _)) (.inl rfl) _⟩
                case measure => simp [intOf]; omega
            · have hjl : ¬ (j : Int) < (ts.length : Int) := by omega
              obtain rfl : j = ts.length := by omega
              have hownJ := World.ownsRow.kept hownB hgj (.inr (fun e => by have := HRL8.out _ e; omega))
              have hszj := hgj.size
              obtain ⟨Q, hQ⟩ : ∃ z, ownN l ts s.data.toList ts.length = z := ⟨_, rfl⟩
              rw [hQ] at hbj HC2
              obtain ⟨b0, b1, b2⟩ : wr.cell? ⟨x16, 0, none⟩ = some (.string s) ∧ wr.cell? ⟨x16, 1, none⟩ = some (.int .i64 Q) ∧ wr.cell? ⟨x16, 2, none⟩ = some (.int .i64 X2) := ⟨hbj.cell 0, hbj.cell 1, hbj.cell 2⟩
              have hxlt := hbj.lt
              clear hQ hbj hgj hownB hB16
              go_wp2_with (at_builtin; refine wpList_append_own _ rfl _ _ 68 rfl w3.heap.size 80 j0 _ 3 32 Tryd.underlying68 kj ky0 ky1 ky2 rfl (by decide) _ _ _ rfl (hownJ.alloc _) ⟨wr.heap.size, 0, none⟩ 1 1 [.string s, .int .i64 Q, .int .i64 X2] rfl rfl (three_cells wr Q X2 s _) (three_oneCell Q X2 s) (by unfold maxLen; omega) (by omega) (by simp; omega) ?_; intro v' w9 hownC hgrC _)
              have hG9 : w3.grownBy w9 none := gr_grown (gr_alloc hGj _) hgrC (fun kk h => .inr (hownJ.lt kk h).1)
              have hown9 : CountsFrom w3.heap.size w9 v' (KS.take (k + 1)) (valS (manyS l ts)) (valS LL) := by
                unfold CountsFrom
                rw [HC2.out, show (KS.take (k + 1)).length = k + 1 by have := HN5.out; simp; omega]
                exact hownC
              go_wp2_with fail
              go_roundw
              case rel => exact ⟨k + 1, by omega, by go_num, hown9, hG9⟩
              case measure => simp [intOf]; omega
        · have hkl : ¬ (k : Int) < (n5 : Int) := by omega
          obtain rfl : k = n5 := by omega
          go_wp2_with fail
          go_ret
          have hke : KS.take k = KS := List.take_of_length_le (by have := HN5.out; omega)
          rw [hke] at hown
          rw [HN5.out] at hown
          exact ⟨_, rfl, by rw [HKS.out, HLLh.out]; exact ownsRow_low hown (by omega), gr_trans hG3 hgq⟩
end Go.Proofs.YtffddmgnjecmdaaDoor
