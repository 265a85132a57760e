/- The walk over key.lengths: the lengths of marks and gaps in turn. Condition: asciiSpace is Go's own table, MaxLen holds a number, the string has at most 500 bytes, units are small. -/
import Derived.Test.YtjhklpffmfdkbaaGreatDoorKeyWords
import Derived.Deep.DeepCutAuto
namespace Go.Proofs.YtjhklpffmfdkbaaGreatDoor
open Go.RowKit
set_option linter.unusedVariables false

/-- Lists behind one another, with g between. -/
def isp {α : Type} (g : List α) : List (List α) → List α
  | [] => []
  | x :: r => x ++ r.flatMap fun y => g ++ y
/-- .. and with g behind them, if there are any. -/
def ispP {α : Type} (g : List α) (l : List (List α)) : List α := if l = [] then [] else isp g l ++ g
theorem isp_snoc {α : Type} (g : List α) (l : List (List α)) (x : List α) : isp g (l ++ [x]) = ispP g l ++ x := by
  cases l with
  | nil => simp [isp, ispP]
  | cons y r => simp [isp, ispP, List.flatMap_append]
theorem ispP_nil {α : Type} (g : List α) : ispP g [] = [] := rfl
theorem ispP_some {α : Type} (g : List α) (l : List (List α)) (h : 0 < l.length) : ispP g l = isp g l ++ g := by
  unfold ispP
  rw [if_neg (by intro e; rw [e] at h; simp at h)]

def dl (unit : Int) (c : UInt8) : Int := if c = 45 then unit * 3 else unit
def cL (unit : Int) (c : List UInt8) : List Int := isp [unit] (c.map fun b => [dl unit b])
def wL (unit slow : Int) (p : List ByteArray) : List Int := isp [3 * slow] (p.map fun c => cL unit c.data.toList)
def sL (unit slow : Int) (ll : List (List ByteArray)) : List Int := isp [7 * slow] (ll.map (wL unit slow))

/-- Numbers in a slice, so many. -/
def IsL (base : Nat) (w : World) (v : Value) (n : Nat) (L : List Int) : Prop := w.ownsRow base 3 1 v n (L.map (Value.int .i64))
theorem IsL.app {base n : Nat} {w : World} {v : Value} {L : List Int} {x : Int} (h : w.ownsRow base 3 1 v (n + 1) (L.map (Value.int .i64) ++ [.int .i64 x])) : IsL base w v (n + 1) (L ++ [x]) := by
  unfold IsL
  rw [List.map_append]
  exact h
theorem IsL.low {base n : Nat} {w : World} {v : Value} {L : List Int} (h : IsL base w v n L) (gg : Nat) (e : v.ownBlock = some gg) : base ≤ gg := (World.ownsRow.lt h gg e).1
theorem IsL.len {base n : Nat} {w : World} {v : Value} {L : List Int} (h : IsL base w v n L) : L.length = n := by
  have := h.1
  simpa using this
theorem IsL.ints {base n : Nat} {w : World} {v : Value} {L : List Int} (h : IsL base w v n L) : IntsFrom base w v L := by
  unfold IntsFrom
  rw [h.len]
  exact h
theorem take_snocS (s : ByteArray) (k : Nat) (h : k < s.size) : s.data.toList.take (k + 1) = s.data.toList.take k ++ [s[k]] := by
  rw [List.take_succ_eq_append_getElem (by simpa using h)]; rfl
theorem codeOf_short (c : UInt8) : (codeOf c).length ≤ 6 := by
  have h : ∀ n : Fin 256, (codeOf (UInt8.ofNat n.val)).length ≤ 6 := by decide +kernel
  have := h ⟨c.toNat, c.toNat_lt⟩
  simpa using this

set_option maxRecDepth 100000 in
set_option maxHeartbeats 4000000 in
theorem lengths_any (b : Nat) (s : ByteArray) (unit slow : Int) (w : World) (hgl : Gl b w) (hs : s.size ≤ 500) (hu0 : 0 ≤ unit) (hu1 : unit ≤ 1000000) (hs0 : 0 ≤ slow) (hs1 : slow ≤ 1000000) :
    Calls Tryz.prog 62 #[.string s, .int .i64 unit, .int .i64 slow] w fun e w' => ∃ v, e = .returned v ∧ IntsFrom w.heap.size w' v (sL unit slow (codesOf s)) ∧ (sL unit slow (codesOf s)).length ≤ 4000000 ∧ w.grownBy w' none := by
  obtain ⟨i0, hi, hz0, hz1, hz2⟩ := info_parts intInfo
  go_enter Tryz.func62, Tryz.ntmps62
  go_wp2_with fail
  refine (keyWords_any b s _ hgl (by omega)).mono ?_
  rintro _ w1 ⟨v, rfl, hv, hg1⟩
  obtain ⟨A, c, rfl, hvl, hA⟩ := hv.shape
  have hll : (codesOf s).length = (wordsOf s).length := by unfold codesOf; simp
  obtain ⟨g, rfl, hg0, _⟩ := hA (by rw [hll]; exact wordsOf_pos s)
  have hfew := wordsOf_few s
  obtain ⟨N, hN⟩ : ∃ N, (codesOf s).length = N := ⟨_, rfl⟩
  rw [hN] at hv ⊢
  have HV := Lib.hid (show SsFrom w.heap.size w1 (.slice (some ⟨g, 0, none⟩) (codesOf s).length c) (codesOf s) by rw [hN]; exact hv)
  have hN5 : N ≤ 501 := by omega
  have HN := Lib.hid hN
  have HLL := Lib.hid hll
  clear hv hA hll hfew hN hgl hvl
  have hz1w := hg1.size
  go_wp2_with fail
  go_loopw [7, 17] (fun o i wr => ∃ k n : Nat, k ≤ N ∧ i = .int .i64 k ∧ n ≤ 7000 * k ∧ IsL w1.heap.size wr o n (sL unit slow ((codesOf s).take k)) ∧ w1.grownBy wr none) (fun _ i _ => N - (intOf i).toNat)
  case atStart => exact ⟨0, 0, by omega, rfl, by omega, World.ownsRow_nil _ _ _ _, gr_refl _ _⟩
  case round =>
    obtain ⟨k, n, hk, rfl, hn, ho, hgr⟩ := hrel
    obtain ⟨A2, c2, rfl, hk9, hA2⟩ := ownsRow_shape ho
    by_cases hlt : k < N
    · have hkN : k < (codesOf s).length := by rw [HN.out]; exact hlt
      obtain ⟨u, hcu1, hu⟩ := HV.out.at_ k hkN
      have hcu : wr.cell? ⟨g, k, none⟩ = some u := (World.cell?_of_block (hgr.block g (World.block_lt_of_cell? w1 ⟨g, k, none⟩ hcu1) (by simp))).trans hcu1
      have hkw : k < (wordsOf s).length := by rw [← HLL.out]; exact hkN
      have hsm := wordsOf_small s _ (List.getElem_mem hkw)
      have hck : (codesOf s)[k] = codesW (wordsOf s)[k] := by simp [codesOf]
      have hlk : ((codesOf s).take k).length = k := by rw [List.length_take]; omega
      have htk : sL unit slow ((codesOf s).take (k + 1)) = ispP [7 * slow] (((codesOf s).take k).map (wL unit slow)) ++ wL unit slow (codesW (wordsOf s)[k]) := by
        rw [List.take_succ_eq_append_getElem hkN, hck]
        unfold sL
        rw [List.map_append]
        exact isp_snoc _ _ _
      have hlk2 : (((codesOf s).take k).map (wL unit slow)).length = k := by rw [List.length_map]; exact hlk
      rw [hck] at hu
      obtain ⟨p, hp⟩ : ∃ p, (wordsOf s)[k] = p := ⟨_, rfl⟩
      rw [hp] at hsm htk hu
      obtain ⟨A3, c3, rfl, hu9, hA3⟩ := hu.shape
      have hm : (codesW p).length = p.size := by unfold codesW; simp
      obtain ⟨M, hM⟩ : ∃ M, (codesW p).length = M := ⟨_, rfl⟩
      rw [hM] at hA3 hcu
      clear hcu1
      have hM5 : M ≤ 500 := by omega
      have HU := Lib.hid hu
      have HM := Lib.hid hM
      have HT := Lib.hid htk
      have HA3 := Lib.hid hA3
      have HLK := Lib.hid hlk2
      have hlt2 : (k : Int) < (N : Int) := by omega
      have hzr := hgr.size
      clear hp htk hu hck hlk hlk2 hm hM hA2 hA3 hu9
      obtain ⟨L0, hL0⟩ : ∃ L0, ispP [7 * slow] (((codesOf s).take k).map (wL unit slow)) = L0 := ⟨_, rfl⟩
      have HL0 := Lib.hid hL0
      clear hL0
      go_upto_if 23 with fail
      go_cut [7] (fun s7 wq => ∃ n' : Nat, n' ≤ 7000 * k + 1 ∧ IsL w1.heap.size wq s7 n' L0 ∧ w1.grownBy wq none)
      case first =>
        by_cases hk0 : 0 < k
        · go_wp2_with (at_builtin; refine wpList_append_own _ rfl _ _ 22 rfl w1.heap.size 3 i0 _ 1 8 Tryz.underlying22 hi hz0 hz1 hz2 rfl (by decide) _ _ _ rfl (World.ownsRow.alloc ho _) ⟨wr.heap.size, 0, none⟩ 1 1 [.int .i64 (7 * slow)] rfl rfl (one_cell _ _ _) (one_oneCell _) (by unfold maxLen; omega) (by omega) (by simp; omega) ?_; intro v2 w2 h2_ hgw_ _)
          have ho2 := IsL.app h2_
          have hg2 : w1.grownBy w2 none := gr_grown (gr_alloc hgr _) hgw_ (fun gg e => .inr (ho.low gg e))
          clear h2_ hgw_
          go_wp2_with fail
          go_meet
          exact ⟨n + 1, by omega, by rw [← HL0.out, ispP_some _ _ (by rw [HLK.out]; exact hk0)]; exact ho2, hg2⟩
        · obtain rfl : k = 0 := by omega
          go_wp2_with fail
          go_meet
          exact ⟨n, by omega, by rw [← HL0.out]; exact ho, hgr⟩
      case rest =>
        obtain ⟨n1, hn1, ho1, hgc⟩ := hcut
        clear ho hgr hcu hzr
        go_wp2_with fail
        go_loopw [7, 31] (fun o i wr => ∃ k2 n2 : Nat, k2 ≤ M ∧ i = .int .i64 k2 ∧ n2 ≤ 7000 * k + 1 + 13 * k2 ∧ IsL w1.heap.size wr o n2 (L0 ++ isp [3 * slow] (((codesW p).take k2).map fun c => cL unit c.data.toList)) ∧ w1.grownBy wr none) (fun _ i _ => M - (intOf i).toNat)
        case atStart => exact ⟨0, n1, by omega, rfl, by omega, by show IsL _ _ _ _ (L0 ++ []); rw [List.append_nil]; exact ho1, hgc⟩
        case round =>
          clear ho1 hgc
          obtain ⟨k2, n2, hk2, rfl, hn2, ho, hgr⟩ := hrel
          obtain ⟨A4, c4, rfl, hk8, hA4⟩ := ownsRow_shape ho
          by_cases hlt3 : k2 < M
          · obtain ⟨g3, rfl, hg3, _⟩ := HA3.out (by omega)
            have hkM : k2 < (codesW p).length := by rw [HM.out]; exact hlt3
            have hat : wr.cell? ⟨g3, k2, none⟩ = some (.string (codesW p)[k2]) := by
              have h := HU.out.grown hgr
              exact h.at_ k2 hkM
            have hq : (codesW p)[k2] = codeS (p.data.toList[k2]'(by simpa [codesW] using hkM)) := by simp [codesW]
            have hqs : (codesW p)[k2].size ≤ 6 := by
              rw [hq]
              have := codeOf_short (p.data.toList[k2]'(by simpa [codesW] using hkM))
              rw [← codeS_data] at this
              simpa using this
            have htk : (((codesW p).take (k2 + 1)).map fun c => cL unit c.data.toList) = (((codesW p).take k2).map fun c => cL unit c.data.toList) ++ [cL unit (codesW p)[k2].data.toList] := by
              rw [List.take_succ_eq_append_getElem hkM, List.map_append]
              rfl
            have hlk : (((codesW p).take k2).map fun c => cL unit c.data.toList).length = k2 := by rw [List.length_map, List.length_take]; omega
            obtain ⟨q, hqq⟩ : ∃ q, (codesW p)[k2] = q := ⟨_, rfl⟩
            rw [hqq] at hat hqs htk
            obtain ⟨Z, hZ⟩ : ∃ Z, (((codesW p).take k2).map fun c => cL unit c.data.toList) = Z := ⟨_, rfl⟩
            rw [hZ] at htk hlk ho
            have HT2 := Lib.hid htk
            have HLK2 := Lib.hid hlk
            have hlt4 : (k2 : Int) < (M : Int) := by omega
            have hzr := hgr.size
            obtain ⟨L1, hL1⟩ : ∃ L1, L0 ++ ispP [3 * slow] Z = L1 := ⟨_, rfl⟩
            have HL1 := Lib.hid hL1
            clear hq hqq htk hlk hZ hA4 hL1
            go_upto_if 37 with fail
            go_cut [7] (fun s7 wq => ∃ n' : Nat, n' ≤ 7000 * k + 2 + 13 * k2 ∧ IsL w1.heap.size wq s7 n' L1 ∧ w1.grownBy wq none)
            case first =>
              by_cases hk0 : 0 < k2
              · go_wp2_with (at_builtin; refine wpList_append_own _ rfl _ _ 22 rfl w1.heap.size 3 i0 _ 1 8 Tryz.underlying22 hi hz0 hz1 hz2 rfl (by decide) _ _ _ rfl (World.ownsRow.alloc ho _) ⟨wr.heap.size, 0, none⟩ 1 1 [.int .i64 (3 * slow)] rfl rfl (one_cell _ _ _) (one_oneCell _) (by unfold maxLen; omega) (by omega) (by simp; omega) ?_; intro v2 w2 h2_ hgw_ _)
                have ho2 := IsL.app h2_
                have hg2 : w1.grownBy w2 none := gr_grown (gr_alloc hgr _) hgw_ (fun gg e => .inr (ho.low gg e))
                clear h2_ hgw_
                go_wp2_with fail
                go_meet
                exact ⟨n2 + 1, by omega, by rw [← HL1.out, ispP_some _ _ (by rw [HLK2.out]; exact hk0), ← List.append_assoc]; exact ho2, hg2⟩
              · obtain rfl : k2 = 0 := by omega
                go_wp2_with fail
                go_meet
                refine ⟨n2, by omega, ?_, hgr⟩
                have hZ0 : Z = [] := List.eq_nil_of_length_eq_zero HLK2.out
                rw [← HL1.out, hZ0]
                rw [hZ0] at ho
                exact ho
            case rest =>
              obtain ⟨n1', hn1', ho1, hgc⟩ := hcut
              clear ho hgr hat hzr
              go_wp2_with fail
              go_loopw [7, 45] (fun o i wr => ∃ k3 n3 : Nat, k3 ≤ q.size ∧ i = .int .i64 k3 ∧ n3 ≤ 7000 * k + 2 + 13 * k2 + 2 * k3 ∧ IsL w1.heap.size wr o n3 (L1 ++ isp [unit] ((q.data.toList.take k3).map fun b => [dl unit b])) ∧ w1.grownBy wr none) (fun _ i _ => q.size - (intOf i).toNat)
              case atStart => exact ⟨0, n1', by omega, rfl, by omega, by show IsL _ _ _ _ (L1 ++ []); rw [List.append_nil]; exact ho1, hgc⟩
              case round =>
                clear ho1 hgc
                obtain ⟨k3, n3, hk3, rfl, hn3, ho, hgr⟩ := hrel
                obtain ⟨A5, c5, rfl, hk7, hA5⟩ := ownsRow_shape ho
                by_cases hlt5 : k3 < q.size
                · have htk : ((q.data.toList.take (k3 + 1)).map fun b => [dl unit b]) = ((q.data.toList.take k3).map fun b => [dl unit b]) ++ [[dl unit q[k3]]] := by
                    rw [take_snocS q k3 hlt5, List.map_append]
                    rfl
                  have hlk : ((q.data.toList.take k3).map fun b => [dl unit b]).length = k3 := by
                    rw [List.length_map, List.length_take]
                    simp
                    omega
                  obtain ⟨ch, hch⟩ : ∃ ch, q[k3] = ch := ⟨_, rfl⟩
                  obtain ⟨Y, hY⟩ : ∃ Y, ((q.data.toList.take k3).map fun b => [dl unit b]) = Y := ⟨_, rfl⟩
                  rw [hY, hch] at htk
                  rw [hY] at hlk ho
                  have HT3 : Hid (∀ L : List Int, L = L1 ++ (ispP [unit] Y ++ [dl unit ch]) → L = L1 ++ isp [unit] ((q.data.toList.take (k3 + 1)).map fun b => [dl unit b])) := fun L hL => by
                    rw [hL, htk, isp_snoc]
                  have HLK3 := Lib.hid hlk
                  have hlt6 : (k3 : Int) < (q.size : Int) := by omega
                  have hzr := hgr.size
                  by_cases hk0 : 0 < k3
                  · have hPY : ispP [unit] Y = isp [unit] Y ++ [unit] := ispP_some _ _ (by rw [hlk]; exact hk0)
                    have HPY := Lib.hid hPY
                    by_cases h45 : ch = 45
                    · have hd : dl unit ch = unit * 3 := by unfold dl; rw [if_pos h45]
                      have HD := Lib.hid hd
                      have he : ((ch.toNat : Int) == 45) = true := by rw [h45]; rfl
                      have HC := Lib.hid h45
                      clear htk hlk hY hA5 hPY hd h45
                      skip
                      go_wp2_with (first | (at_builtin; refine wpList_append_own _ rfl _ _ 22 rfl w1.heap.size 3 i0 _ 1 8 Tryz.underlying22 hi hz0 hz1 hz2 rfl (by decide) _ _ _ rfl (World.ownsRow.alloc ho _) ⟨wr.heap.size, 0, none⟩ 1 1 [.int .i64 (unit)] rfl rfl (one_cell _ _ _) (one_oneCell _) (by unfold maxLen; omega) (by omega) (by simp; omega) ?_; intro v2 w2 h2_ hgw_ _; have ho2 := IsL.app h2_; have hg2 : w1.grownBy w2 none := gr_grown (gr_alloc hgr _) hgw_ (fun gg e => .inr (ho.low gg e)); clear h2_ hgw_; have hzzw2 := hg2.size) | (at_builtin; refine wpList_append_own _ rfl _ _ 22 rfl w1.heap.size 3 i0 _ 1 8 Tryz.underlying22 hi hz0 hz1 hz2 rfl (by decide) _ _ _ rfl (World.ownsRow.alloc ho2 _) ⟨w2.heap.size, 0, none⟩ 1 1 [.int .i64 (unit * 3)] rfl rfl (one_cell _ _ _) (one_oneCell _) (by unfold maxLen; omega) (by omega) (by simp; omega) ?_; intro v3 w3 h2_ hgw_ _; have ho3 := IsL.app h2_; have hg3' : w1.grownBy w3 none := gr_grown (gr_alloc hg2 _) hgw_ (fun gg e => .inr (ho2.low gg e)); clear h2_ hgw_; have hzzw3 := hg3'.size) | fail)
                      go_wp2_with fail
                      go_roundw
                      case rel => exact ⟨k3 + 1, n3 + 1 + 1, by omega, by go_num, by omega, by rw [← HT3.out _ (show (L1 ++ isp [unit] Y ++ [unit]) ++ [unit * 3] = _ by rw [HPY.out, HD.out]; simp)]; exact ho3, hg3'⟩
                      case measure => simp [intOf]; omega
                    · have hd : dl unit ch = unit := by unfold dl; rw [if_neg h45]
                      have HD := Lib.hid hd
                      have he : ((ch.toNat : Int) == 45) = false := by
                        rw [beq_eq_false_iff_ne]
                        intro e
                        exact h45 (UInt8.toNat_inj.1 (by show ch.toNat = 45; omega))
                      clear htk hlk hY hA5 hPY hd h45
                      skip
                      go_wp2_with (first | (at_builtin; refine wpList_append_own _ rfl _ _ 22 rfl w1.heap.size 3 i0 _ 1 8 Tryz.underlying22 hi hz0 hz1 hz2 rfl (by decide) _ _ _ rfl (World.ownsRow.alloc ho _) ⟨wr.heap.size, 0, none⟩ 1 1 [.int .i64 (unit)] rfl rfl (one_cell _ _ _) (one_oneCell _) (by unfold maxLen; omega) (by omega) (by simp; omega) ?_; intro v2 w2 h2_ hgw_ _; have ho2 := IsL.app h2_; have hg2 : w1.grownBy w2 none := gr_grown (gr_alloc hgr _) hgw_ (fun gg e => .inr (ho.low gg e)); clear h2_ hgw_; have hzzw2 := hg2.size) | (at_builtin; refine wpList_append_own _ rfl _ _ 22 rfl w1.heap.size 3 i0 _ 1 8 Tryz.underlying22 hi hz0 hz1 hz2 rfl (by decide) _ _ _ rfl (World.ownsRow.alloc ho2 _) ⟨w2.heap.size, 0, none⟩ 1 1 [.int .i64 (unit)] rfl rfl (one_cell _ _ _) (one_oneCell _) (by unfold maxLen; omega) (by omega) (by simp; omega) ?_; intro v3 w3 h2_ hgw_ _; have ho3 := IsL.app h2_; have hg3' : w1.grownBy w3 none := gr_grown (gr_alloc hg2 _) hgw_ (fun gg e => .inr (ho2.low gg e)); clear h2_ hgw_; have hzzw3 := hg3'.size) | fail)
                      go_wp2_with fail
                      go_roundw
                      case rel => exact ⟨k3 + 1, n3 + 1 + 1, by omega, by go_num, by omega, by rw [← HT3.out _ (show (L1 ++ isp [unit] Y ++ [unit]) ++ [unit] = _ by rw [HPY.out, HD.out]; simp)]; exact ho3, hg3'⟩
                      case measure => simp [intOf]; omega
                  · obtain rfl : k3 = 0 := by omega
                    have hY0 : Y = [] := List.eq_nil_of_length_eq_zero hlk
                    have HY0 := Lib.hid hY0
                    by_cases h45 : ch = 45
                    · have hd : dl unit ch = unit * 3 := by unfold dl; rw [if_pos h45]
                      have HD := Lib.hid hd
                      have he : ((ch.toNat : Int) == 45) = true := by rw [h45]; rfl
                      have HC := Lib.hid h45
                      clear htk hlk hY hA5 hd h45 hY0
                      go_wp2_with (at_builtin; refine wpList_append_own _ rfl _ _ 22 rfl w1.heap.size 3 i0 _ 1 8 Tryz.underlying22 hi hz0 hz1 hz2 rfl (by decide) _ _ _ rfl (World.ownsRow.alloc ho _) ⟨wr.heap.size, 0, none⟩ 1 1 [.int .i64 (unit * 3)] rfl rfl (one_cell _ _ _) (one_oneCell _) (by unfold maxLen; omega) (by omega) (by simp; omega) ?_; intro v3 w3 h2_ hgw_ _)
                      have ho3 := IsL.app h2_
                      have hg3' : w1.grownBy w3 none := gr_grown (gr_alloc hgr _) hgw_ (fun gg e => .inr (ho.low gg e))
                      clear h2_ hgw_
                      go_wp2_with fail
                      go_roundw
                      case rel => exact ⟨1, n3 + 1, by omega, by go_num, by omega, by rw [← HT3.out _ (show (L1 ++ isp [unit] Y) ++ [unit * 3] = _ by rw [HY0.out, HD.out]; simp [isp, ispP])]; exact ho3, hg3'⟩
                      case measure => simp [intOf]; omega
                    · have hd : dl unit ch = unit := by unfold dl; rw [if_neg h45]
                      have HD := Lib.hid hd
                      have he : ((ch.toNat : Int) == 45) = false := by
                        rw [beq_eq_false_iff_ne]
                        intro e
                        exact h45 (UInt8.toNat_inj.1 (by show ch.toNat = 45; omega))
                      clear htk hlk hY hA5 hd h45 hY0
                      go_wp2_with (at_builtin; refine wpList_append_own _ rfl _ _ 22 rfl w1.heap.size 3 i0 _ 1 8 Tryz.underlying22 hi hz0 hz1 hz2 rfl (by decide) _ _ _ rfl (World.ownsRow.alloc ho _) ⟨wr.heap.size, 0, none⟩ 1 1 [.int .i64 (unit)] rfl rfl (one_cell _ _ _) (one_oneCell _) (by unfold maxLen; omega) (by omega) (by simp; omega) ?_; intro v3 w3 h2_ hgw_ _)
                      have ho3 := IsL.app h2_
                      have hg3' : w1.grownBy w3 none := gr_grown (gr_alloc hgr _) hgw_ (fun gg e => .inr (ho.low gg e))
                      clear h2_ hgw_
                      go_wp2_with fail
                      go_roundw
                      case rel => exact ⟨1, n3 + 1, by omega, by go_num, by omega, by rw [← HT3.out _ (show (L1 ++ isp [unit] Y) ++ [unit] = _ by rw [HY0.out, HD.out]; simp [isp, ispP])]; exact ho3, hg3'⟩
                      case measure => simp [intOf]; omega
                · have hf : q.data.toList.take k3 = q.data.toList := List.take_of_length_le (by simp; omega)
                  rw [hf] at ho
                  have hlt6 : ¬ (k3 : Int) < (q.size : Int) := by omega
                  have HO := Lib.hid ho
                  clear hf ho hA5
                  go_wp2_with fail
                  go_roundw
                  case rel =>
                    refine ⟨k2 + 1, n3, by omega, by go_num, by omega, ?_, hgr⟩
                    rw [HT2.out, isp_snoc, ← List.append_assoc, HL1.out]
                    exact HO.out
                  case measure => simp [intOf]; omega
          · have hf : (codesW p).take k2 = codesW p := List.take_of_length_le (by rw [HM.out]; omega)
            rw [hf] at ho
            have hlt4 : ¬ (k2 : Int) < (M : Int) := by omega
            have HO := Lib.hid ho
            clear hf ho hA4
            go_wp2_with fail
            go_roundw
            case rel =>
              refine ⟨k + 1, n2, by omega, by go_num, by omega, ?_, hgr⟩
              rw [HT.out, HL0.out]
              exact HO.out
            case measure => simp [intOf]; omega
    · have hf : (codesOf s).take k = codesOf s := List.take_of_length_le (by rw [HN.out]; omega)
      rw [hf] at ho
      have hlt2 : ¬ (k : Int) < (N : Int) := by omega
      have HO := Lib.hid ho
      clear hf ho hA2
      go_wp2_with fail
      go_ret
      exact ⟨_, rfl, ownsRow_low HO.out.ints hz1w, by rw [HO.out.len]; omega, gr_trans hg1 hgr⟩
end Go.Proofs.YtjhklpffmfdkbaaGreatDoor
