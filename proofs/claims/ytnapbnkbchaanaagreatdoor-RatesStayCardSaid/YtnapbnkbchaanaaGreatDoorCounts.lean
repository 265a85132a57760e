/- The walk over rate.Counts. Condition: times and few shifts without error. -/
import Derived.Test.YtnapbnkbchaanaaGreatDoorLongs
import Derived.Test.YtnapbnkbchaanaaGreatDoorSortedS
import Derived.Test.YtnapbnkbchaanaaGreatDoorRateA
namespace Go.Proofs.YtnapbnkbchaanaaGreatDoor
open Go.RowKit
set_option linter.unusedVariables false
set_option linter.unusedSimpArgs false

/-- How many contacts each one made, nobody too. -/
def manyS (sh : List (Int × ByteArray)) (ts : List Int) : List (List UInt8 × Int) := ts.foldl (fun m t => addS m (whoS sh t).data.toList 1) []
theorem manyS_snoc (sh : List (Int × ByteArray)) (ts : List Int) (t : Int) : manyS sh (ts ++ [t]) = addS (manyS sh ts) (whoS sh t).data.toList 1 := by unfold manyS; rw [List.foldl_append]; rfl
theorem manyS_bd (sh : List (Int × ByteArray)) (ts : List Int) : ∀ k : Nat, (∀ p ∈ manyS sh (ts.take k), 0 ≤ p.2 ∧ p.2 ≤ (k : Int)) := by
  intro k
  induction k with
  | zero => simp [manyS]
  | succ k ih =>
    by_cases h : k < ts.length
    · rw [List.take_succ_eq_append_getElem h, manyS_snoc]
      intro p hp
      have := addS_bd (d := 1) (by omega) ih (by omega) _ p hp
      omega
    · rw [List.take_of_length_le (by omega)] at ih ⊢
      intro p hp
      have := ih p hp
      omega
theorem who_small {sh : List (Int × ByteArray)} (F : ShFew sh) (t : Int) : (whoS sh t).size ≤ 1000 := by
  rcases whoS_mem sh t with h | ⟨p, hp, h⟩
  · rw [h]; decide
  · rw [h]; exact F.str p hp

/-- Counts: the keys, and what the two maps say of them. -/
def ccells (ks : List (List UInt8)) (f g : List UInt8 → Int) : List Value := ks.flatMap fun k => [encStr k, .int .i64 (f k), .int .i64 (g k)]
theorem ccells_snoc (ks : List (List UInt8)) (f g : List UInt8 → Int) (k : List UInt8) : ccells (ks ++ [k]) f g = ccells ks f g ++ [encStr k, .int .i64 (f k), .int .i64 (g k)] := by simp [ccells]
theorem ccells_len (ks : List (List UInt8)) (f g : List UInt8 → Int) : (ccells ks f g).length = ks.length * 3 := by
  induction ks with
  | nil => rfl
  | cons p r ih => simp only [ccells, List.flatMap_cons, List.length_append, List.length_cons, List.length_nil] at ih ⊢; omega
def CountsFrom (base : Nat) (w : World) (v : Value) (ks : List (List UInt8)) (f g : List UInt8 → Int) : Prop := w.ownsRow base 86 3 v ks.length (ccells ks f g)

theorem longsTo_key (l : List (Int × ByteArray)) (a z : Int) (k : Nat) : ∀ q ∈ (longsTo l a z k).map (·.1), ∃ p ∈ l, q = p.2.data.toList := by
  induction k with
  | zero => simp [longsTo]
  | succ k ih =>
    unfold longsTo
    split
    · exact ih
    · rename_i p hp
      split
      · rw [keysS_add]
        split
        · exact ih
        · intro q hq
          rcases List.mem_append.1 hq with h | h
          · exact ih q h
          · simp only [List.mem_singleton] at h
            exact ⟨p, List.mem_of_getElem? hp, h⟩
      · exact ih
theorem three_cells (w : World) (x y : Int) (s : ByteArray) (t : TypeId) : ∀ j u, ([Value.string s, .int .i64 x, .int .i64 y])[j]? = some u → (w.alloc (.cells #[.string s, .int .i64 x, .int .i64 y] t)).cell? ((⟨w.heap.size, 0, none⟩ : Addr).add j) = some u := by
  intro j u hu
  have hb := (Blk.new w t #[.string s, .int .i64 x, .int .i64 y]).cell j
  have hadd : (⟨w.heap.size, 0, none⟩ : Addr).add j = ⟨w.heap.size, j, none⟩ := by unfold Addr.add; split <;> simp_all
  rw [hadd, hb]
  simpa using hu
theorem three_oneCell (x y : Int) (s : ByteArray) : ∀ u ∈ [Value.string s, .int .i64 x, .int .i64 y], u.oneCell' = true := by
  intro u hu; simp at hu; rcases hu with rfl | rfl | rfl <;> rfl
theorem counts_info : (Tryz.prog.info? 86).map (fun i => (i.zero, i.size, i.bytes)) = some (some (.agg #[.string ⟨#[]⟩, .int .i64 0, .int .i64 0]), 3, 32) := by kernel_rfl
set_option maxRecDepth 100000 in
set_option maxHeartbeats 4000000 in
theorem counts_ok (base base2 : Nat) (v v2 : Value) (ts : List Int) (sh : List (Int × ByteArray)) (a z : Int) (w : World) (hl : IntsFrom base w v ts) (hE : timesE ts a z = 0) (hsh : ShFrom base2 w v2 sh) (F : ShFew sh) (hS : scanS none sh = 0) :
    Calls Tryz.prog 48 #[v, .agg #[.int .i64 a, .int .i64 z], v2] w fun r w' =>
      ∃ u ks, r = .returned (.tuple #[u, .int .i64 0]) ∧ ks.Perm ((longsTo sh a z sh.length).map (·.1)) ∧ ks.Pairwise (· ≤ ·) ∧ CountsFrom (w.heap.size + 1) w' u ks (valS (manyS sh ts)) (valS (longsTo sh a z sh.length)) ∧ w.grownBy w' none := by
  have O := timesE_ok hE
  obtain ⟨SO, -⟩ := scanS_ok none sh hS
  have h6 := F.len
  have a0 := O.a0
  have az := O.ato
  have zt := O.to_
  have hll := O.len
  have hx := Blk.new w 71 #[.int .i64 a, .int .i64 z]
  have hG := World.grownBy_alloc w (.cells #[.int .i64 a, .int .i64 z] 71) none
  obtain ⟨A, c, rfl, hlen, hA⟩ := hl.shape
  have HL0 := Lib.hid hl
  have HSH0 := Lib.hid hsh
  have HL := Lib.hid (hl.grown hG)
  have HSH := Lib.hid (hsh.grown hG)
  have HCT := Lib.hid (fun W h => by have := checkTimes_any base (.slice A ts.length c) ts a z W h (by omega) (by omega); rw [hE] at this; exact this)
  have HCS := Lib.hid (fun W h => by have := checkShifts_few base2 v2 sh W h F; rw [hS] at this; exact this)
  have HLG := Lib.hid (fun W h => longs_ok base2 v2 sh a z W h F SO a0 (by omega) (by omega) zt)
  have HWH := Lib.hid (fun (t : Int) W h => who_any base2 v2 sh t W h (by omega))
  have HSM := Lib.hid (who_small F)
  have HLB := Lib.hid (longsTo_bd sh a z a0 zt SO.mom)
  have hmm := @run_makeMap Tryz.prog
  have HKS : Hid (∀ q ∈ (longsTo sh a z sh.length).map (·.1), q.length ≤ 1000) := fun q hq => by
    obtain ⟨p, hp, rfl⟩ := longsTo_key sh a z _ q hq
    have := F.str p hp
    rw [Lib.size_eq] at this
    exact this
  obtain ⟨i0, hi, hz0, hz1, hz2⟩ := info_parts counts_info
  clear hl hsh hE hS O F SO
  go_enter Tryz.func48, Tryz.ntmps48
  go_wp2_with fail
  generalize w.alloc (.cells #[.int .i64 a, .int .i64 z] 71) = W at *
  refine (HCT.out _ HL.out).mono ?_
  rintro _ w1 ⟨rfl, hg⟩
  replace hx := hx.grown hg (by simp)
  replace hG := gr_trans hG hg
  replace HL := Lib.hid (HL.out.grown hg)
  replace HSH := Lib.hid (HSH.out.grown hg)
  clear hg
  obtain ⟨x0, x1⟩ := hx.cells2
  go_wp2_with fail
  refine (HCS.out _ HSH.out).mono ?_
  rintro _ w2 ⟨rfl, hg⟩
  replace hx := hx.grown hg (by simp)
  replace hG := gr_trans hG hg
  replace HL := Lib.hid (HL.out.grown hg)
  replace HSH := Lib.hid (HSH.out.grown hg)
  clear hg x0 x1
  obtain ⟨x0, x1⟩ := hx.cells2
  go_wp2_with fail
  refine (HLG.out _ HSH.out).mono ?_
  rintro _ w3 ⟨bm, rfl, hM, hg, hbm⟩
  replace hG := gr_trans hG hg
  replace HL := Lib.hid (HL.out.grown hg)
  replace HSH := Lib.hid (HSH.out.grown hg)
  clear hg x0 x1 hx
  have hM2 := hM.quiet (World.grownBy_alloc w3 (.map #[] 0) none)
  have hN := MapS.made w3
  have hG2 := gr_alloc hG (.map #[] 0)
  have hbl := hM.lt
  go_wp2_with fail
  generalize hW4 : w3.alloc (.map #[] 0) = W4 at *
  generalize hbn : w3.heap.size = bn at *
  have HBN := Lib.hid hbn
  have hGs := hG.size
  have hs4 : W4.heap.size = bn + 1 := by rw [← hW4, World.size_alloc, hbn]
  have HS4 := Lib.hid hs4
  clear hW4 hbn hs4 hM
  go_loopw [34] (fun i wr => ∃ k : Nat, k ≤ ts.length ∧ i = .int .i64 k ∧ MapS wr bn k (manyS sh (ts.take k)) ∧ W4.grownBy wr (some bn)) (fun i _ => ts.length - (intOf i).toNat)
  case atStart => exact ⟨0, by omega, rfl, hN, gr_refl _ _⟩
  case round =>
    obtain ⟨k, hk, rfl, hNr, hgr⟩ := hrel
    have hwr : w.grownBy wr none := gr_grown hG2 hgr (fun g e => by injection e with e; exact .inr (by have := HBN.out; omega))
    have HSHr := Lib.hid (HSH0.out.grown hwr)
    by_cases hlt : k < ts.length
    · obtain ⟨g, rfl, hg0, hg1⟩ := hA (by omega)
      have hkl : (k : Int) < (ts.length : Int) := by omega
      have c0 := (HL0.out.grown hwr).at_ k hlt
      have HN2 : Hid (manyS sh (ts.take (k + 1)) = addS (manyS sh (ts.take k)) (whoS sh ts[k]).data.toList 1) := by
        show _ = _
        rw [List.take_succ_eq_append_getElem hlt, manyS_snoc]
      obtain ⟨t, ht⟩ : ∃ t, ts[k] = t := ⟨_, rfl⟩
      rw [ht] at c0 HN2
      clear ht
      have hsz := HSM.out t
      have HWt := Lib.hid (HWH.out t)
      obtain ⟨s, hss⟩ : ∃ s, whoS sh t = s := ⟨_, rfl⟩
      rw [hss] at hsz HWt HN2
      have hvb := valS_bd (B := (k : Int)) (by omega) (manyS_bd sh ts k) s.data.toList
      clear hss
      go_wp2_with fail
      refine (HWt.out _ HSHr.out).mono ?_
      rintro _ w5 ⟨rfl, hg⟩
      have hN5 := hNr.quiet hg
      have hG5 := gr_trans hgr (gr_weak hg (some bn))
      have hlook := hN5.look s (by omega)
      have HM5 := Lib.hid hN5
      generalize hV : valS (manyS sh (ts.take k)) s.data.toList = V at *
      have HV := Lib.hid hV
      generalize manyS sh (ts.take k) = MK at *
      clear hV hNr hN5 hg
      go_wp2_with (refine wpList_mapS _ rfl _ _ _ rfl bn k MK s 1 rfl rfl (by show _ = Value.int .i64 _; rw [HV.out]; rfl) HM5.out (by omega) (by omega) (by rw [HV.out]; exact i64_wf (by omega) (by omega)) ?_; intro w6 hM6 hg6)
      have hG6 := gr_trans hG5 hg6
      go_wp2_with fail
      go_roundw
      case rel => exact ⟨k + 1, by omega, by go_num, by rw [HN2.out]; exact hM6, hG6⟩
      case measure => simp [intOf]; omega
    · have hkl : ¬ (k : Int) < (ts.length : Int) := by omega
      obtain rfl : k = ts.length := by omega
      rw [List.take_length] at hNr
      have hMr := hM2.kept hgr (by intro e; injection e with e; omega)
      go_wp2_with fail
      refine (keys_any bm _).mono ?_
      rintro _ _ ⟨rfl, rfl⟩
      go_wp2_with fail
      have hlb := HLB.out sh.length
      refine (sorted_any bm _ _ _ hMr (by omega)).mono ?_
      rintro _ w7 ⟨u, ss, rfl, hp, hpw, hrow, hg⟩
      have HPW := Lib.hid hpw
      clear hpw
      have hM7 := Lib.hid (hMr.quiet hg)
      have hN7 := Lib.hid (hNr.quiet hg)
      have hG7 := gr_trans hwr hg
      have hw8 := hg.size
      have hw9 := hgr.size
      have hpl : ss.length ≤ 6 := by
        have := hp.length_eq
        rw [List.length_map] at this
        omega
      have HROW := Lib.hid hrow
      have HP := Lib.hid hp
      have HK2 : Hid (∀ q ∈ ss, q.length ≤ 1000) := fun q hq => HKS.out q (hp.mem_iff.1 hq)
      obtain ⟨A7, c7, rfl, hlen7, hA7⟩ := ownsRow_shape hrow
      have hvm := manyS_bd sh ts ts.length
      rw [List.take_length] at hvm
      have HVM := Lib.hid (fun q => valS_bd (by omega) hvm q)
      have HVL := Lib.hid (fun q => valS_bd (by omega) hlb.1 q)
      generalize hMM : manyS sh ts = MM at *
      generalize hLL : longsTo sh a z sh.length = LL at *
      have HMM := Lib.hid hMM
      have HLL := Lib.hid hLL
      clear hMM hLL hMr hNr hrow hp hM2 hN hvm hlb hg
      have hw7 := hG7.size
      go_wp2_with fail
      generalize wr = wo at *
      go_loopw [14, 49] (fun o i wr => ∃ k : Nat, k ≤ ss.length ∧ i = .int .i64 k ∧ CountsFrom w7.heap.size wr o (ss.take k) (valS MM) (valS LL) ∧ w7.grownBy wr none) (fun _ i _ => ss.length - (intOf i).toNat)
      case atStart => exact ⟨0, by omega, rfl, World.ownsRow_nil _ _ _ _, gr_refl _ _⟩
      case round =>
        obtain ⟨k, hk, rfl, hown, hgq⟩ := hrel
        obtain ⟨A8, c8, rfl, hlen8, _⟩ := ownsRow_shape hown
        have htk : (ss.take k).length = k := by simp; omega
        by_cases hlt : k < ss.length
        · obtain ⟨g7, rfl, _, _⟩ := hA7 (by omega)
          have hkl : (k : Int) < (ss.length : Int) := by omega
          have c0 := World.ownsRow.cellAt (ownsRow_grown HROW.out hgq) k (by omega)
          have hss : (ss.map encStr)[k]? = some (.string ⟨ss[k].toArray⟩) := by simp [hlt, encStr]
          rw [hss] at c0
          obtain ⟨s, hs⟩ : ∃ s : ByteArray, (⟨ss[k].toArray⟩ : ByteArray) = s := ⟨_, rfl⟩
          have hsl : s.data.toList = ss[k] := by rw [← hs]
          have hsz : s.size ≤ 1000 := by
            have := HK2.out _ (List.getElem_mem hlt)
            rw [Lib.size_eq, hsl]
            exact this
          rw [hs] at c0
          have l1 := (hN7.out.quiet hgq).look s (by omega)
          have l2 := (hM7.out.quiet hgq).look s (by omega)
          have hv1 := HVM.out s.data.toList
          have hv2 := HVL.out s.data.toList
          have HC2 : Hid (ccells (ss.take (k + 1)) (valS MM) (valS LL) = ccells (ss.take k) (valS MM) (valS LL) ++ [.string s, .int .i64 (valS MM s.data.toList), .int .i64 (valS LL s.data.toList)]) := by
            show _ = _
            rw [List.take_succ_eq_append_getElem hlt, ccells_snoc, hsl]
            simp [encStr, hs]
          generalize valS MM s.data.toList = X1 at *
          generalize valS LL s.data.toList = X2 at *
          have hownA : wr.ownsRow w7.heap.size 86 3 (.slice A8 (ss.take k).length c8) k (ccells (ss.take k) (valS MM) (valS LL)) := by
            have h := hown
            unfold CountsFrom at h
            rwa [htk] at h ⊢
          rw [htk] at hownA ⊢
          generalize ccells (ss.take k) (valS MM) (valS LL) = cs at *
          have hszq := hgq.size
          clear hss hs hsl hown htk
          go_wp2_with (at_builtin; refine wpList_append_own _ rfl _ _ 82 rfl w7.heap.size 86 i0 _ 3 32 Tryz.underlying82 hi hz0 hz1 hz2 rfl (by decide) _ _ _ rfl (hownA.alloc _) ⟨wr.heap.size, 0, none⟩ 1 1 [.string s, .int .i64 X1, .int .i64 X2] rfl rfl (three_cells wr X1 X2 s _) (three_oneCell X1 X2 s) (by unfold maxLen; omega) (by omega) (by simp; omega) ?_; intro v' w9 hownB hgrB _)
          have hG9 : w7.grownBy w9 none := gr_grown (gr_alloc hgq _) hgrB (fun kk h => .inr (hownA.lt kk h).1)
          have hown9 : CountsFrom w7.heap.size w9 v' (ss.take (k + 1)) (valS MM) (valS LL) := by
            unfold CountsFrom
            rw [HC2.out, show (ss.take (k + 1)).length = k + 1 by simp; omega]
            exact hownB
          go_wp2_with fail
          go_roundw
          case rel => exact ⟨k + 1, by omega, by go_num, hown9, hG9⟩
          case measure => simp [intOf]; omega
        · obtain rfl : k = ss.length := by omega
          have hkl : ¬ (ss.length : Int) < (ss.length : Int) := by omega
          rw [List.take_length] at hown
          rw [List.take_length]
          go_wp2_with fail
          go_ret2
          have hfin : CountsFrom (w.heap.size + 1) wr (.slice A8 ss.length c8) ss (valS MM) (valS LL) := ownsRow_low hown (by have := HS4.out; have := HBN.out; omega)
          have hpf := HP.out
          rw [← HMM.out, ← HLL.out] at hfin
          rw [← HLL.out] at hpf
          exact ⟨_, rfl, ss, hpf, HPW.out, hfin, gr_trans hG7 hgq⟩
end Go.Proofs.YtnapbnkbchaanaaGreatDoor
