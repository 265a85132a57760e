/- The walks over the references CallFault, CallsFault and NearOf, and over call.CheckCalls, call.Distance and call.Near at all arguments. Condition: at most 1000 strings of ASCII of at most 100 bytes; the steps between two are told. -/
import Derived.Test.YtlodmkdhlmineaaGreatDoorNearW
import Derived.Test.YtlodmkdhlmineaaGreatDoorRefP
namespace Go.Proofs.YtlodmkdhlmineaaGreatDoor
open Go.RowKit
set_option linter.unusedVariables false
set_option linter.unusedSimpArgs false

def callE (s : ByteArray) : Int := if isCall s = true then 0 else 3
def allC (L : List ByteArray) : Bool := L.all isCall
def callsE (L : List ByteArray) : Int := if allC L = true then 0 else 3
theorem callE_0 {s : ByteArray} (h : isCall s = true) : callE s = 0 := by unfold callE; rw [if_pos h]
theorem callE_3 {s : ByteArray} (h : isCall s = false) : callE s = 3 := by unfold callE; rw [if_neg (by rw [h]; simp)]
def SmallS (L : List ByteArray) : Prop := L.length ≤ 1000 ∧ ∀ s ∈ L, s.size ≤ 100 ∧ Ascii s
set_option maxHeartbeats 1000000 in
theorem callFault_any (s : ByteArray) (w : World) (hs : s.size ≤ 1000) (ha : Ascii s) :
    Calls Tryz.prog 16 #[.string s] w fun e w' => e = .returned (.int .i64 (callE s)) ∧ w.grownBy w' none := by
  have HI := Lib.hid (refIsCall_any s w (by omega) ha)
  rw [show (partsOf s).isSome = isCall s from rfl] at HI
  clear hs ha
  cases hc : isCall s
  · rw [hc] at HI
    rw [callE_3 hc]
    clear hc
    go_enter Tryz.func16, Tryz.ntmps16
    go_wp2_with fail
    refine HI.out.mono ?_
    rintro _ w1 ⟨rfl, hg1⟩
    go_wp2_with fail
    go_ret
    exact ⟨rfl, hg1⟩
  · rw [hc] at HI
    rw [callE_0 hc]
    clear hc
    go_enter Tryz.func16, Tryz.ntmps16
    go_wp2_with fail
    refine HI.out.mono ?_
    rintro _ w1 ⟨rfl, hg1⟩
    go_wp2_with fail
    go_ret
    exact ⟨rfl, hg1⟩
theorem all_take {L : List ByteArray} {k : Nat} (h : k < L.length) (h1 : allC (L.take k) = true) (h2 : isCall L[k] = true) : allC (L.take (k + 1)) = true := by
  unfold allC at *
  rw [List.take_succ_eq_append_getElem h, List.all_append, h1, List.all_cons, h2]; rfl
theorem all_not {L : List ByteArray} {k : Nat} (h : k < L.length) (h2 : isCall L[k] = false) : allC L = false := by
  unfold allC
  rw [List.all_eq_false]
  exact ⟨L[k], List.getElem_mem h, by rw [h2]; simp⟩
set_option maxRecDepth 100000 in
set_option maxHeartbeats 4000000 in
theorem callsFault_any (base : Nat) (v : Value) (L : List ByteArray) (w : World) (hl : StrsFrom base w v L) (hn : SmallS L) :
    Calls Tryz.prog 17 #[v] w fun e w' => e = .returned (.int .i64 (callsE L)) ∧ w.grownBy w' none := by
  obtain ⟨A, ca, rfl, hla, hA⟩ := hl.shape
  obtain ⟨hn1, hn2⟩ := hn
  have HU := Lib.hid hl
  have HC := Lib.hid hn2
  have HA := Lib.hid hA
  have hn2i : ¬ (1000 : Int) < (L.length : Int) := by omega
  clear hl hn2 hA
  go_enter Tryz.func17, Tryz.ntmps17
  go_wp2_with fail
  go_loopw [11] (fun i wr => ∃ k : Nat, k ≤ L.length ∧ i = .int .i64 k ∧ Hid (allC (L.take k) = true) ∧ w.grownBy wr none) (fun i _ => L.length - (intOf i).toNat)
  case atStart => exact ⟨0, by omega, rfl, rfl, gr_refl _ _⟩
  case round =>
    obtain ⟨k, hk, rfl, HT, hgr⟩ := hrel
    by_cases hlt : k < L.length
    · obtain ⟨g, rfl, _, _⟩ := HA.out (by omega)
      have cx := (HU.out.grown hgr).at_ k hlt
      have hkl : (k : Int) < (L.length : Int) := by omega
      obtain ⟨q1, q2⟩ := HC.out L[k] (List.getElem_mem hlt)
      have HN := Lib.hid (callFault_any L[k] wr (by omega) q2)
      have HAT := Lib.hid (fun h => all_take hlt HT.out h)
      have HNT := Lib.hid (fun h => all_not hlt h)
      generalize L[k] = x at *
      cases hc : isCall x
      · rw [callE_3 hc] at HN
        have HE : Hid (callsE L = 3) := by show _ = _; unfold callsE; rw [if_neg (by rw [HNT.out hc]; simp)]
        clear hc q1 q2
        go_wp2_with fail
        refine HN.out.mono ?_
        rintro _ w1 ⟨rfl, hg1⟩
        go_wp2_with fail
        go_ret
        exact ⟨by rw [HE.out] <;> rfl, gr_trans hgr hg1⟩
      · rw [callE_0 hc] at HN
        have HT2 := Lib.hid (HAT.out hc)
        clear hc q1 q2
        go_wp2_with fail
        refine HN.out.mono ?_
        rintro _ w1 ⟨rfl, hg1⟩
        go_wp2_with fail
        go_roundw
        case rel => exact ⟨k + 1, by omega, by go_num, HT2, gr_trans hgr hg1⟩
        case measure => simp [intOf]; omega
    · have hkl : ¬ (k : Int) < (L.length : Int) := by omega
      have hfull : L.take k = L := List.take_of_length_le (by omega)
      rw [hfull] at HT
      have HE : Hid (callsE L = 0) := by show _ = _; unfold callsE; rw [if_pos HT.out]
      clear hfull
      go_wp2_with fail
      go_ret
      exact ⟨by rw [HE.out] <;> rfl, hgr⟩
set_option maxRecDepth 100000 in
set_option maxHeartbeats 4000000 in
theorem idxCalls (base : Nat) (v : Value) (l : List ByteArray) (w : World) (hl : StrsFrom base w v l) (hn : SmallS l) :
    Calls Tryz.prog 129 #[v, .func (.func 119) #[] #[]] w fun e w' => (∃ i : Int, e = .returned (.int .i64 i) ∧ ((i = -1 ∧ allC l = true) ∨ (0 ≤ i ∧ allC l = false))) ∧ w.grownBy w' none := by
  obtain ⟨A, ca, rfl, hla, hA⟩ := hl.shape
  obtain ⟨hn1, hn2⟩ := hn
  have HU := Lib.hid hl
  have HC := Lib.hid hn2
  have HA := Lib.hid hA
  clear hl hn2 hA
  go_enter Tryz.func129, Tryz.ntmps129
  go_wp2_with fail
  go_loopw [8] (fun i wr => ∃ k : Nat, k ≤ l.length ∧ i = .int .i64 k ∧ Hid (allC (l.take k) = true) ∧ w.grownBy wr none) (fun i _ => l.length - (intOf i).toNat)
  case atStart => exact ⟨0, by omega, rfl, rfl, gr_refl _ _⟩
  case round =>
    obtain ⟨k, hk, rfl, HT, hgr⟩ := hrel
    by_cases hlt : k < l.length
    · obtain ⟨g, rfl, _, _⟩ := HA.out (by omega)
      have cx := (HU.out.grown hgr).at_ k hlt
      have hkl : (k : Int) < (l.length : Int) := by omega
      obtain ⟨q1, q2⟩ := HC.out l[k] (List.getElem_mem hlt)
      have HN := Lib.hid (noCall_any l[k] wr (by omega) q2)
      have HAT := Lib.hid (fun h => all_take hlt HT.out h)
      have HNT := Lib.hid (fun h => all_not hlt h)
      generalize l[k] = x at *
      cases hc : isCall x
      · rw [hc] at HN
        have HE := Lib.hid (HNT.out hc)
        clear hc q1 q2
        go_wp2_with fail
        refine HN.out.mono ?_
        rintro _ w1 ⟨rfl, hg1⟩
        go_wp2_with fail
        go_ret
        exact ⟨⟨_, rfl, .inr ⟨by omega, HE.out⟩⟩, gr_trans hgr hg1⟩
      · rw [hc] at HN
        have HT2 := Lib.hid (HAT.out hc)
        clear hc q1 q2
        go_wp2_with fail
        refine HN.out.mono ?_
        rintro _ w1 ⟨rfl, hg1⟩
        go_wp2_with fail
        go_roundw
        case rel => exact ⟨k + 1, by omega, by go_num, HT2, gr_trans hgr hg1⟩
        case measure => simp [intOf]; omega
    · have hkl : ¬ (k : Int) < (l.length : Int) := by omega
      have hfull : l.take k = l := List.take_of_length_le (by omega)
      rw [hfull] at HT
      clear hfull
      go_wp2_with fail
      go_ret
      exact ⟨⟨_, rfl, .inl ⟨rfl, HT.out⟩⟩, hgr⟩
set_option maxHeartbeats 1000000 in
theorem checkCalls_any (base : Nat) (v : Value) (l : List ByteArray) (w : World) (hl : StrsFrom base w v l) (hn : SmallS l) :
    Calls Tryz.prog 58 #[v] w fun e w' => e = .returned (.int .i64 (callsE l)) ∧ w.grownBy w' none := by
  have HI := Lib.hid (fun W (h : StrsFrom base W v l) => idxCalls base v l W h hn)
  have HC : Hid (∀ W, StrsFrom base W v l → Calls Tryz.prog 118 #[v, .func (.func 119) #[] #[]] W fun e w' => e = .returned (.bool (!allC l)) ∧ W.grownBy w' none) := fun W h => by
    go_enter Tryz.func118, Tryz.ntmps118
    go_wp2_with fail
    refine (HI.out _ h).mono ?_
    rintro _ w1 ⟨⟨i, rfl, hi⟩, hg1⟩
    rcases hi with ⟨rfl, ha⟩ | ⟨hi, ha⟩
    · have HAA := Lib.hid ha
      clear ha
      go_wp2_with fail
      go_ret
      exact ⟨by rw [HAA.out] <;> rfl, hg1⟩
    · have HAA := Lib.hid ha
      clear ha
      go_wp2_with fail
      go_ret
      exact ⟨by rw [HAA.out] <;> rfl, hg1⟩
  have HL := Lib.hid hl
  obtain ⟨A, ca, rfl, hla, hA⟩ := hl.shape
  have hn2 : ¬ (1000 : Int) < (l.length : Int) := by have := hn.1; omega
  have HE : Hid (callsE l = if allC l = true then 0 else 3) := rfl
  clear hl hA hn
  generalize l.length = N at *
  cases hB : allC l
  · rw [hB] at HC HE
    clear hB
    go_enter Tryz.func58, Tryz.ntmps58
    go_wp2_with fail
    refine (HC.out _ HL.out).mono ?_
    rintro _ w1 ⟨rfl, hg1⟩
    go_wp2_with fail
    go_ret
    exact ⟨by rw [HE.out] <;> rfl, hg1⟩
  · rw [hB] at HC HE
    clear hB
    go_enter Tryz.func58, Tryz.ntmps58
    go_wp2_with fail
    refine (HC.out _ HL.out).mono ?_
    rintro _ w1 ⟨rfl, hg1⟩
    go_wp2_with fail
    go_ret
    exact ⟨by rw [HE.out] <;> rfl, hg1⟩
set_option maxRecDepth 100000 in
set_option maxHeartbeats 4000000 in
theorem nearOf_any (base : Nat) (s : ByteArray) (v : Value) (L : List ByteArray) (m : Nat) (w : World) (hl : StrsFrom base w v L) (hn : L.length ≤ 1000) (hm : m ≤ 14)
    (hsb : ∀ x ∈ L, ∀ W, Calls Tryz.prog 20 #[.string s, .string x] W fun e w' => e = .returned (.int .i64 (stepsL s.data.toList x.data.toList : Nat)) ∧ W.grownBy w' none) :
    Calls Tryz.prog 21 #[.string s, v, .int .i64 m] w fun e w' => ∃ u, e = .returned u ∧ StrsFrom w.heap.size w' u (flatTo (inB s L) (m + 1)) ∧ w.grownBy w' none := by
  obtain ⟨i0, hi, hz0, hz1, hz2⟩ := info_parts strInfo
  obtain ⟨A, ca, rfl, hla, hA⟩ := hl.shape
  have HU := Lib.hid hl
  have HA := Lib.hid hA
  have HSB := Lib.hid hsb
  obtain ⟨N, hN⟩ : ∃ N, L.length = N := ⟨_, rfl⟩
  have HNN := Lib.hid hN
  have HA2 : Hid (0 < N → ∃ g, A = some ⟨g, 0, none⟩) := fun h => by
    obtain ⟨g, e, _⟩ := HA.out (by rw [hN]; exact h)
    exact ⟨g, e⟩
  rw [hN] at hn hla ⊢
  clear hl hA hsb hN HA
  go_enter Tryz.func21, Tryz.ntmps21
  go_wp2_with fail
  go_loopw [7, 13] (fun o i wr => ∃ d : Nat, d ≤ m + 1 ∧ i = .int .i64 d ∧ Hid (StrsFrom w.heap.size wr o (flatTo (inB s L) d)) ∧ w.grownBy wr none) (fun _ i _ => m + 1 - (intOf i).toNat)
  case atStart => exact ⟨0, by omega, rfl, StrsFrom.nil _ _, gr_refl _ _⟩
  case round =>
    obtain ⟨d, hd, rfl, HO, hgr⟩ := hrel
    rename World => wo
    by_cases hld : d < m + 1
    · have hdi : (d : Int) < (m : Int) + 1 := by omega
      have HS0 : Hid (StrsFrom w.heap.size wo u7 (flatTo (inB s L) d ++ inB s (L.take 0) d)) := by
        rw [show inB s (L.take 0) d = [] from rfl, List.append_nil]; exact HO
      go_wp2_with fail
      go_loopw [7, 18] (fun o i wr => ∃ q : Nat, q ≤ N ∧ i = .int .i64 q ∧ Hid (StrsFrom w.heap.size wr o (flatTo (inB s L) d ++ inB s (L.take q) d)) ∧ w.grownBy wr none) (fun _ i _ => N - (intOf i).toNat)
      case atStart => exact ⟨0, by omega, rfl, HS0, hgr⟩
      case round =>
        obtain ⟨q, hq, rfl, HQ, hgq⟩ := hrel
        rename World => wx
        clear HS0 HO hgr
        by_cases hlq : q < N
        · have hqi : (q : Int) < (N : Int) := by omega
          have hql : q < L.length := by rw [HNN.out]; exact hlq
          obtain ⟨g, rfl⟩ := HA2.out (by omega)
          have cx : wx.cell? ⟨g, q, none⟩ = some (.string L[q]) := by
            have h := HU.out.grown hgq
            exact h.at_ q hql
          have HST := Lib.hid (HSB.out L[q] (List.getElem_mem hql))
          have hsn := inB_snoc (s := s) d hql
          generalize L[q] = x at *
          obtain ⟨D, hD⟩ : ∃ D, stepsL s.data.toList x.data.toList = D := ⟨_, rfl⟩
          rw [hD] at HST hsn
          have HSN := Lib.hid hsn
          have hlen : (flatTo (inB s L) d ++ inB s (L.take q) d).length ≤ 20000 := by
            have h1 := flatTo_len (fun e => inB_len s L e) d
            have h2 := inB_len s (L.take q) d
            have h3 : (L.take q).length ≤ 1000 := by rw [List.length_take]; omega
            have h4 : d * L.length ≤ 15 * 1000 := Nat.mul_le_mul (by omega) (by have := HNN.out; omega)
            rw [List.length_append]; omega
          obtain ⟨l1, hl1⟩ : ∃ l1, flatTo (inB s L) d ++ inB s (L.take q) d = l1 := ⟨_, rfl⟩
          rw [hl1] at HQ hlen
          have HL1 := Lib.hid hl1
          obtain ⟨A2, c2, rfl, hk9, _⟩ := HQ.out.shape
          clear hD hsn hl1
          go_wp2_with fail
          refine (HST.out _).mono ?_
          rintro _ w6 ⟨rfl, hg6⟩
          have hG6 := gr_trans hgq hg6
          have hown : w6.ownsRow w.heap.size 9 1 (.slice A2 l1.length c2) l1.length (l1.map Value.string) := HQ.out.grown hg6
          by_cases hde : D = d
          · subst hde
            have hsz6 := hG6.size
            have hrow : ∀ g, (Value.slice A2 l1.length c2).ownBlock = some g → w.heap.size ≤ g := fun g e => (hown.lt g e).1
            have HROW := Lib.hid hrow
            clear hrow
            go_wp2_with (at_builtin; refine wpList_append_own _ rfl _ _ 27 rfl w.heap.size 9 i0 _ 1 16 Tryz.underlying27 hi hz0 hz1 hz2 rfl (by decide) _ _ _ rfl (hown.alloc _) ⟨w6.heap.size, 0, none⟩ 1 1 [.string x] rfl rfl (cells_new _ _ _) (str_one _) (by unfold maxLen; omega) (by omega) (by simp; omega) ?_; intro v' w7 hownB hgrB _)
            have hG7 : w.grownBy w7 none := gr_grown (gr_alloc hG6 _) hgrB (fun g e => .inr (HROW.out g e))
            have hown7 : StrsFrom w.heap.size w7 v' (flatTo (inB s L) D ++ inB s (L.take (q + 1)) D) := by
              rw [HSN.out]
              simp only [if_true]
              rw [← List.append_assoc, HL1.out]
              unfold StrsFrom
              rw [List.map_append, List.length_append]
              exact hownB
            clear hown hgrB hownB
            go_wp2_with fail
            go_roundw
            case rel => exact ⟨q + 1, by omega, by go_num, hown7, hG7⟩
            case measure => simp [intOf]; omega
          · have hdb : ((D : Int) == (d : Int)) = false := by rw [beq_eq_false_iff_ne]; omega
            have HO7 : Hid (StrsFrom w.heap.size w6 (.slice A2 l1.length c2) (flatTo (inB s L) d ++ inB s (L.take (q + 1)) d)) := by
              rw [HSN.out, if_neg hde, List.append_nil, HL1.out]; exact hown
            clear hown
            go_wp2_with fail
            go_roundw
            case rel => exact ⟨q + 1, by omega, by go_num, HO7, hG6⟩
            case measure => simp [intOf]; omega
        · have hqi : ¬ (q : Int) < (N : Int) := by omega
          have hfull : L.take q = L := List.take_of_length_le (by rw [HNN.out]; omega)
          rw [hfull] at HQ
          have HQ2 : Hid (StrsFrom w.heap.size wx u7 (flatTo (inB s L) (d + 1))) := HQ
          clear hfull HQ
          go_wp2_with fail
          go_roundw
          case rel => exact ⟨d + 1, by omega, by go_num, HQ2, hgq⟩
          case measure => simp [intOf]; omega
    · have hdi : ¬ (d : Int) < (m : Int) + 1 := by omega
      obtain rfl : d = m + 1 := by omega
      go_wp2_with fail
      go_ret
      exact ⟨_, rfl, HO.out, hgr⟩
end Go.Proofs.YtlodmkdhlmineaaGreatDoor
