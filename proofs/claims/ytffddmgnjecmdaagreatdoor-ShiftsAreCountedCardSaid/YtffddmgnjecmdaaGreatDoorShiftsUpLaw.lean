/- The walk over the law ShiftsAreCounted. Condition: asciiSpace is Go's own table, MaxLen holds a number. -/
import Derived.Test.YtffddmgnjecmdaaGreatDoorShiftsUpPlain
import Derived.Test.YtffddmgnjecmdaaGreatDoorShiftsFault
import Derived.Test.YtffddmgnjecmdaaGreatDoorStreamShifts
import Derived.Test.YtffddmgnjecmdaaGreatDoorRightTimes
import Derived.Test.YtffddmgnjecmdaaGreatDoorReady
import Derived.Test.YtffddmgnjecmdaaGreatDoorStart
namespace Go.Proofs.YtffddmgnjecmdaaGreatDoor
open Go.RowKit
set_option linter.unusedVariables false

theorem ccells_at (ks : List (List UInt8)) (f g : List UInt8 → Int) (k : Nat) (h : k < ks.length) : (ccells ks f g)[k * 3]? = some (encStr ks[k]) ∧ (ccells ks f g)[k * 3 + 1]? = some (.int .i64 (f ks[k])) ∧ (ccells ks f g)[k * 3 + 2]? = some (.int .i64 (g ks[k])) := by
  induction ks generalizing k with
  | nil => simp at h
  | cons p r ih =>
    have e : ccells (p :: r) f g = encStr p :: .int .i64 (f p) :: .int .i64 (g p) :: ccells r f g := rfl
    rw [e]
    cases k with
    | zero => simp
    | succ k =>
      have := ih k (by simpa using h)
      rw [show (k + 1) * 3 = k * 3 + 1 + 1 + 1 from by omega]
      simpa using this
theorem CountsFrom.at1 {base : Nat} {w : World} {gb c : Nat} {ks : List (List UInt8)} {f g : List UInt8 → Int} (h : CountsFrom base w (.slice (some ⟨gb, 0, none⟩) ks.length c) ks f g) (k : Nat) (hk : k < ks.length) :
    w.cell? ⟨gb, k * 3, none⟩ = some (encStr ks[k]) ∧ w.cell? ⟨gb, k * 3 + 1, none⟩ = some (.int .i64 (f ks[k])) ∧ w.cell? ⟨gb, k * 3 + 2, none⟩ = some (.int .i64 (g ks[k])) := by
  have hc := ccells_at ks f g k hk
  rw [World.ownsRow.cellAt h (k * 3) (by omega), World.ownsRow.cellAt h (k * 3 + 1) (by omega), World.ownsRow.cellAt h (k * 3 + 2) (by omega)]
  exact hc

theorem sum_take_map (f : List UInt8 → Int) (ks : List (List UInt8)) (k : Nat) (q : List UInt8) (h : ks[k]? = some q) : ((ks.take (k + 1)).map f).sum = ((ks.take k).map f).sum + f q := by
  have hk : k < ks.length := by
    rcases Nat.lt_or_ge k ks.length with h1 | h1
    · exact h1
    · rw [List.getElem?_eq_none h1] at h; cases h
  rw [List.getElem?_eq_getElem hk] at h
  injection h with h
  rw [List.take_succ_eq_append_getElem hk, h, List.map_append]
  have key : ∀ (l : List Int) (x : Int), (l ++ [x]).sum = l.sum + x := by
    intro l x
    induction l with
    | nil => simp
    | cons a r ih => simp only [List.cons_append, List.sum_cons, ih]; omega
  exact key _ _
theorem take_own (sh : List (Int × ByteArray)) (ts : List Int) (k : Nat) (t : Int) (h : ts[k]? = some t) : ownS sh (ts.take (k + 1)) = ownS sh (ts.take k) + if (whoS sh t).toList.isEmpty = false then 1 else 0 := by
  have hk : k < ts.length := by
    rcases Nat.lt_or_ge k ts.length with h1 | h1
    · exact h1
    · rw [List.getElem?_eq_none h1] at h; cases h
  rw [List.getElem?_eq_getElem hk] at h
  injection h with h
  rw [List.take_succ_eq_append_getElem hk, h, ownS_snoc]
set_option maxRecDepth 100000 in
set_option maxHeartbeats 4000000 in
theorem shiftsUpLaw (A : Option Addr) (n c : Nat) (w : World) (hin : In w A n) (hgl : Gl w.heap.size w) :
    Calls Tryz.prog 5 #[.slice A n c] w fun r w' => r = .returned (.bool true) ∧ Below w.heap.size w w' := by
  have hs0 := Str.start (c := c) hin
  have HGL := Lib.hid hgl
  clear hin hgl
  go_enter Tryz.func5, Tryz.ntmps5
  go_wp2_with fail
  have hG0 := World.grownBy_alloc w (.cells #[.slice A n c, .int .i64 0] 25) none
  have hlt0 := hs0.lt
  generalize w.alloc (.cells #[.slice A n c, .int .i64 0] 25) = W0 at *
  generalize hb : w.heap.size = b at *
  have HB := Lib.hid hb
  clear hb
  refine (rightTimes_in b 0 _ hs0 (by decide)).mono ?_
  rintro _ w1 ⟨v, ts, a, z, rfl, hv, hlen, hE, hz30, hs1, hg1⟩
  have hG1 : w.grownBy w1 none := gr_grown hG0 hg1 (fun g e => by injection e with e; exact .inr (by have := HB.out; omega))
  have O := timesE_ok hE
  have oa := O.a0
  have oz := O.ato
  have oe := O.to_
  have hv1 : IntsFrom (b + 1) w1 v ts := ownsRow_low hv (by omega)
  have hx := Blk.new w1 48 #[.int .i64 a, .int .i64 z]
  have hbw1 : b < w1.heap.size := by have := hg1.size; omega
  have HV := Lib.hid (IntsFrom.grown hv1 (World.grownBy_alloc w1 (.cells #[.int .i64 a, .int .i64 z] 48) none))
  have hs2 := hs1.alloc (.cells #[.int .i64 a, .int .i64 z] 48)
  have hG2 := gr_alloc hG1 (.cells #[.int .i64 a, .int .i64 z] 48)
  have HE := Lib.hid hE
  have HO := Lib.hid O
  have htb : timeB a z = true := by unfold timeB; simp; omega
  have HTB := Lib.hid htb
  clear hs0 hG0 hv hv1 hs1 hG1 hg1 O hE hlt0 htb
  go_wp2_with fail
  generalize w1.alloc (.cells #[.int .i64 a, .int .i64 z] 48) = W1 at *
  generalize w1.heap.size = X at *
  refine (shifts_in b _ _ hs2 (by decide)).mono ?_
  rintro _ w2 ⟨sv, sh, rfl, hsh, F, _, hs3, hg2⟩
  have hG3 : w.grownBy w2 none := gr_grown hG2 hg2 (fun g e => by injection e with e; exact .inr (by have := HB.out; omega))
  have HV2 := Lib.hid (IntsFrom.other HV.out hg2 (by omega))
  have hx2 := hx.grown hg2 (by simp; omega)
  have HSH := Lib.hid hsh
  have HF := Lib.hid F
  clear hs2 hG2 hg2 hx hsh F HV
  go_wp2_with fail
  refine (shiftsFault_few _ _ sh _ HSH.out HF.out).mono ?_
  rintro _ w3 ⟨rfl, hg3⟩
  have hG4 := gr_trans hG3 hg3
  have HV3 := Lib.hid (IntsFrom.grown HV2.out hg3)
  have HSH3 := Lib.hid (ShFrom.grown HSH.out hg3)
  have hx3 := hx2.grown hg3 (by simp)
  clear hG3 hg3 hx2 HV2 HSH
  by_cases hS : scanS none sh = 0
  case neg =>
    have hne : ¬ (scanS none sh = 0) := hS
    generalize scanS none sh = E at *
    go_wp2_with fail
    refine (ready_any b _ (HGL.out.quiet hG4)).mono ?_
    rintro _ w7 ⟨rfl, hg⟩
    go_wp2_with fail
    go_ret
    exact ⟨rfl, gr_below (gr_trans hG4 hg)⟩
  case pos =>
    rw [hS]
    have HS := Lib.hid hS
    have SO := Lib.hid (scanS_ok none sh hS).1
    clear hS
    obtain ⟨x0, x1⟩ := hx3.cells2
    go_wp2_with fail
    refine (counts_ok (b + 1) _ _ _ ts sh a z _ HV3.out HE.out HSH3.out HF.out HS.out).mono ?_
    rintro _ w4 ⟨u, ks, rfl, hperm, hu, hg4⟩
    have hG5 := gr_trans hG4 hg4
    have HV4 := Lib.hid (IntsFrom.grown HV3.out hg4)
    have HSH4 := Lib.hid (ShFrom.grown HSH3.out hg4)
    have hx4 := hx3.grown hg4 (by simp)
    have hmany := many_own sh ts a z HE.out hperm
    have hlb := longsTo_bd sh a z (by omega) (by omega) SO.out.mom sh.length
    have hnd := longsTo_nodup sh a z sh.length
    have hlong : (ks.map (valS (longsTo sh a z sh.length))).sum = sumS (longsTo sh a z sh.length) := by
      rw [sum_perm (hperm.map _), sumS_keys _ hnd]
    have hle := longs_le sh a z SO.out (by omega)
    have hfle := fair_le (longsTo sh a z sh.length) hnd (345686400000 * (sh.length : Int)) (by omega) hlb.1
    have hk6 : ks.length ≤ 6 := by
      have h1 := hperm.length_eq
      rw [List.length_map] at h1
      have h2 := hlb.2
      have h3 := HF.out.len
      omega
    have hvm : ∀ k, 0 ≤ valS (manyS sh ts) k ∧ valS (manyS sh ts) k ≤ 20 := fun k => by
      have h1 := manyS_count sh ts k
      have h2 := List.countP_le_length (p := fun t => decide ((whoS sh t).data.toList = k)) (l := ts)
      omega
    have hvl : ∀ k, 0 ≤ valS (longsTo sh a z sh.length) k ∧ valS (longsTo sh a z sh.length) k ≤ 345686400000 * 6 := fun k => by
      have h1 := valS_bd (B := 345686400000 * (sh.length : Int)) (by omega) hlb.1 k
      have h3 := HF.out.len
      omega
    obtain ⟨FA, hFA⟩ : ∃ FA, fairS (longsTo sh a z sh.length) = FA := ⟨_, rfl⟩
    have HFAIR : Hid (∀ W : World, ShFrom W1.heap.size W sv sh → Calls Tryz.prog 23 #[sv, .agg #[.int .i64 a, .int .i64 z]] W fun r w' => r = .returned (.tuple #[.int .i64 FA, .int .i64 0]) ∧ W.grownBy w' none) := fun W h => by
      rw [← hFA]; exact fairest_ok _ _ sh a z W h HF.out HS.out HTB.out oa oz oe
    rw [hFA] at hfle
    obtain ⟨SU, hSU⟩ : ∃ SU, sumS (longsTo sh a z sh.length) = SU := ⟨_, rfl⟩
    rw [hSU] at hle hfle hlong
    generalize valS (longsTo sh a z sh.length) = gL at *
    generalize valS (manyS sh ts) = gM at *
    obtain ⟨OW, hOW⟩ : ∃ OW, ownS sh ts = OW := ⟨_, rfl⟩
    have hob := ownS_le sh ts
    rw [hOW] at hmany hob
    have HOW := Lib.hid hOW
    obtain ⟨A5, c5, rfl, hu9, hA5⟩ := ownsRow_shape hu
    have HU := Lib.hid hu
    have HM := Lib.hid hmany
    have HLO := Lib.hid hlong
    have HVM := Lib.hid hvm
    have HVL := Lib.hid hvl
    obtain ⟨A6, c6, rfl, ht9, hA6⟩ := IntsFrom.shape HV4.out
    have HA6 := Lib.hid hA6
    obtain ⟨NK, hNK⟩ : ∃ NK, ks.length = NK := ⟨_, rfl⟩
    obtain ⟨NT, hNT⟩ : ∃ NT, ts.length = NT := ⟨_, rfl⟩
    have HNK := Lib.hid hNK
    have HNT := Lib.hid hNT
    have HAT : Hid (∀ W : World, w4.grownBy W none → ∀ k, k < NT → ∃ gg t, A6 = some ⟨gg, 0, none⟩ ∧ W.cell? ⟨gg, k, none⟩ = some (.int .i64 t) ∧ ts[k]? = some t ∧ a ≤ t ∧ t < z) := fun W hW k hk => by
      have hk' : k < ts.length := by rw [hNT]; exact hk
      obtain ⟨gg, e, _, _⟩ := hA6 (by omega)
      subst e
      have h1 := (IntsFrom.grown HV4.out hW).at_ k hk'
      have h2 := HO.out.mem _ (List.getElem_mem hk')
      exact ⟨gg, _, rfl, h1, List.getElem?_eq_getElem hk', h2.1, h2.2⟩
    have HAK : Hid (∀ W : World, w4.grownBy W none → ∀ k, k < NK → ∃ gg q, A5 = some ⟨gg, 0, none⟩ ∧ ks[k]? = some q ∧ W.cell? ⟨gg, k * 3, none⟩ = some (encStr q) ∧ W.cell? ⟨gg, k * 3 + 1, none⟩ = some (.int .i64 (gM q)) ∧ W.cell? ⟨gg, k * 3 + 2, none⟩ = some (.int .i64 (gL q))) := fun W hW k hk => by
      have hk' : k < ks.length := by rw [hNK]; exact hk
      obtain ⟨gg, e, _, _⟩ := hA5 (by omega)
      subst e
      have h0 : CountsFrom (w3.heap.size + 1) W (.slice (some ⟨gg, 0, none⟩) ks.length c5) ks gM gL := ownsRow_grown HU.out hW
      obtain ⟨h1, h2, h3⟩ := h0.at1 k hk'
      exact ⟨gg, _, rfl, List.getElem?_eq_getElem hk', h1, h2, h3⟩
    rw [hNK] at hu9 hk6
    rw [hNT] at ht9 hlen
    rw [hNK, hNT] 
    clear hG4 hg4 HV3 HSH3 hx3 x0 x1 hu hmany hlb hnd hlong hvm hvl hFA hSU hOW hA5 hA6 hperm hNK hNT
    obtain ⟨x0, x1⟩ := hx4.cells2
    go_wp2_with fail
    go_loopw [9, 10, 45] (fun m q i wr => ∃ (k : Nat) (M Lg : Int), k ≤ NK ∧ i = .int .i64 k ∧ m = .int .i64 M ∧ q = .int .i64 Lg ∧ 0 ≤ M ∧ M ≤ 20 * k ∧ 0 ≤ Lg ∧ Lg ≤ 2074118400000 * k ∧ Hid (M = ((ks.take k).map gM).sum) ∧ Hid (Lg = ((ks.take k).map gL).sum) ∧ w4.grownBy wr none) (fun _ _ i _ => NK - (intOf i).toNat)
    case atStart => exact ⟨0, 0, 0, by omega, rfl, rfl, rfl, by omega, by omega, by omega, by omega, rfl, rfl, gr_refl _ _⟩
    case round =>
      obtain ⟨k, M, Lg, hk, rfl, rfl, rfl, hM0, hM1, hL0, hL1, HM2, HL2, hgr⟩ := hrel
      by_cases hlt : k < NK
      · obtain ⟨gg, q, rfl, hkq, k0, k1, k2⟩ := HAK.out wr hgr k hlt
        have hlt2 : (k : Int) < (NK : Int) := by omega
        have HM3 : Hid (M + gM q = ((ks.take (k + 1)).map gM).sum) := by show _ = _; rw [sum_take_map gM ks k q hkq, HM2.out]
        have HL3 : Hid (Lg + gL q = ((ks.take (k + 1)).map gL).sum) := by show _ = _; rw [sum_take_map gL ks k q hkq, HL2.out]
        have hm := HVM.out q
        have hl := HVL.out q
        generalize gM q = mq at *
        generalize gL q = lq at *
        obtain ⟨hm0, hm1⟩ := hm
        obtain ⟨hl0, hl1⟩ := hl
        have hgn : w4.grownBy (wr.alloc (.cells #[encStr q, .int .i64 mq, .int .i64 lq] 58)) none := gr_alloc hgr _
        unfold encStr at k0 hgn
        clear hkq
        go_wp2_with fail
        go_roundw
        case rel => exact ⟨k + 1, M + mq, Lg + lq, by omega, by go_num, rfl, rfl, by omega, by omega, by omega, by omega, HM3, HL3, hgn⟩
        case measure => simp [intOf]; omega
      · have hlt2 : ¬ (k : Int) < (NK : Int) := by omega
        have hMO : M = OW := by
          rw [HM2.out, List.take_of_length_le (by rw [HNK.out]; omega)]
          exact HM.out
        have hLO : Lg = SU := by
          rw [HL2.out, List.take_of_length_le (by rw [HNK.out]; omega)]
          exact HLO.out
        subst hMO
        subst hLO
        clear HM2 HL2
        go_wp2_with fail
        go_loopw [11, 60] (fun o i wr => ∃ (j : Nat) (O : Int), j ≤ NT ∧ i = .int .i64 j ∧ o = .int .i64 O ∧ 0 ≤ O ∧ O ≤ j ∧ Hid (O = ownS sh (ts.take j)) ∧ w4.grownBy wr none) (fun _ i _ => NT - (intOf i).toNat)
        case atStart => exact ⟨0, 0, by omega, rfl, rfl, by omega, by omega, rfl, hgr⟩
        case round =>
          clear hgr
          obtain ⟨j, O, hj, rfl, rfl, hO0, hO1, HO2, hgr⟩ := hrel
          by_cases hjt : j < NT
          · obtain ⟨gg, t, rfl, k0, hjq, ta, tz⟩ := HAT.out wr hgr j hjt
            have hlt3 : (j : Int) < (NT : Int) := by omega
            have hstep := take_own sh ts j t hjq
            have hSW : ShFrom W1.heap.size wr sv sh := ShFrom.grown HSH4.out hgr
            have HWHO : Hid (∀ W : World, wr = W → Calls Tryz.prog 22 #[sv, .int .i64 t] W fun r w' => r = .returned (.tuple #[.string (whoS sh t), .bool (!(whoS sh t).toList.isEmpty), .int .i64 0]) ∧ W.grownBy w' none) := fun W hW => by
              subst hW
              exact who_ok _ _ sh t wr hSW HF.out HS.out (by omega) (by omega)
            generalize whoS sh t = who at *
            rw [← HO2.out] at hstep
            have HST := Lib.hid hstep
            clear hstep hjq hSW
            go_wp2_with fail
            refine (HWHO.out _ rfl).mono ?_
            rintro _ w6 ⟨rfl, hg6⟩
            have hG6 := gr_trans hgr hg6
            rcases hem : who.toList.isEmpty
            · have HS2 : Hid (O + 1 = ownS sh (ts.take (j + 1))) := by show _ = _; rw [HST.out, if_pos hem]
              clear hg6 hgr
              go_wp2_with fail
              go_roundw
              case rel => exact ⟨j + 1, O + 1, by omega, by go_num, rfl, by omega, by omega, HS2, hG6⟩
              case measure => simp [intOf]; omega
            · have HS2 : Hid (O = ownS sh (ts.take (j + 1))) := by show _ = _; rw [HST.out, if_neg (by rw [hem]; simp)]; omega
              clear hg6 hgr
              go_wp2_with fail
              go_roundw
              case rel => exact ⟨j + 1, O, by omega, by go_num, rfl, by omega, by omega, HS2, hG6⟩
              case measure => simp [intOf]; omega
          · have hlt3 : ¬ (j : Int) < (NT : Int) := by omega
            have hOO : O = M := by
              rw [HO2.out, List.take_of_length_le (by rw [HNT.out]; omega)]
              exact HOW.out
            subst hOO
            have hGr := gr_trans hG5 hgr
            have hxr := hx4.grown hgr (by simp)
            have hSW : ShFrom W1.heap.size wr sv sh := ShFrom.grown HSH4.out hgr
            have HSW := Lib.hid hSW
            obtain ⟨y0, y1⟩ := hxr.cells2
            clear HO2 hSW x0 x1
            go_wp2_with fail
            refine (HFAIR.out _ HSW.out).mono ?_
            rintro _ w6 ⟨rfl, hg6⟩
            have hG6 := gr_trans hGr hg6
            have hx6 := hxr.grown hg6 (by simp)
            clear y0 y1
            obtain ⟨y0, y1⟩ := hx6.cells2
            have hwz : IntKind.i64.wrap (z - a) = z - a := IntWalk.i64_in _ ⟨by omega, by omega⟩
            clear hGr hg6
            go_wp2_with fail
            refine (ready_any b _ (HGL.out.quiet hG6)).mono ?_
            rintro _ w7 ⟨rfl, hg⟩
            go_wp2_with fail
            go_ret
            exact ⟨rfl, gr_below (gr_trans hG6 hg)⟩
end Go.Proofs.YtffddmgnjecmdaaGreatDoor
