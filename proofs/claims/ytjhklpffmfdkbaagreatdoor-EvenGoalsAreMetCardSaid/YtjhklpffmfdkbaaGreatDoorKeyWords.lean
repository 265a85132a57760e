/- The walk over key.words: the codes of the signs of words, in new memory. Condition: asciiSpace is Go's own table, MaxLen holds a number, the string has at most 10^6 bytes. -/
import Derived.Test.YtjhklpffmfdkbaaGreatDoorSaid
namespace Go.Proofs.YtjhklpffmfdkbaaGreatDoor
open Go.RowKit
set_option linter.unusedVariables false

theorem slcInfo : (Tryz.prog.info? 80).map (fun i => (i.zero, i.size, i.bytes)) = some (some (.slice none 0 0), 1, 24) := by kernel_rfl
theorem slc_one {base : Nat} {w : World} {v : Value} {l : List ByteArray} (h : StrsFrom base w v l) : ∀ u ∈ [v], u.oneCell' = true := by
  obtain ⟨A, c, rfl, _, _⟩ := h.shape
  intro u hu; simp at hu; subst hu; rfl

/-- Two slices over different types lie apart. -/
theorem own_apart {w : World} {b1 b2 s1 s2 n1 n2 : Nat} {e1 e2 : TypeId} {v1 v2 : Value} {x1 x2 : List Value} (h1 : w.ownsRow b1 e1 s1 v1 n1 x1) (h2 : w.ownsRow b2 e2 s2 v2 n2 x2) (he : e1 ≠ e2) : v1.ownBlock = none ∨ v1.ownBlock ≠ v2.ownBlock := by
  rcases h1.2 with ⟨rfl, _⟩ | ⟨g, cap, cur, rfl, _, hh, _⟩
  · exact .inl rfl
  · refine .inr fun e => ?_
    rcases h2.2 with ⟨rfl, _⟩ | ⟨g', cap', cur', rfl, _, hh', _⟩
    · cases e
    · simp only [Value.ownBlock, Option.some.injEq] at e
      subst e
      rw [hh] at hh'
      injection hh' with hh'
      injection hh' with _ h4
      exact he h4

/-- The lists of strings of a slice of slices. -/
def SsFrom (base : Nat) (w : World) (v : Value) (ll : List (List ByteArray)) : Prop :=
  ∃ vs : List Value, vs.length = ll.length ∧ w.ownsRow base 80 1 v ll.length vs ∧ ∀ (i : Nat) (u : Value) (l : List ByteArray), vs[i]? = some u → ll[i]? = some l → StrsFrom base w u l
theorem SsFrom.low {base base' : Nat} {w : World} {v : Value} {l : List (List ByteArray)} (h : SsFrom base w v l) (hb : base' ≤ base) : SsFrom base' w v l := by
  obtain ⟨vs, h1, h2, h3⟩ := h
  exact ⟨vs, h1, ownsRow_low h2 hb, fun i u x hu hx => (h3 i u x hu hx).low hb⟩
theorem SsFrom.grown {base : Nat} {w w' : World} {v : Value} {l : List (List ByteArray)} (h : SsFrom base w v l) (hg : w.grownBy w' none) : SsFrom base w' v l := by
  obtain ⟨vs, h1, h2, h3⟩ := h
  exact ⟨vs, h1, ownsRow_grown h2 hg, fun i u x hu hx => (h3 i u x hu hx).grown hg⟩
theorem SsFrom.nil (base : Nat) (w : World) : SsFrom base w (.slice none 0 0) [] := ⟨[], rfl, World.ownsRow_nil _ _ _ _, fun i u l hu => by simp at hu⟩
theorem SsFrom.shape {base : Nat} {w : World} {v : Value} {l : List (List ByteArray)} (h : SsFrom base w v l) :
    ∃ A c, v = .slice A l.length c ∧ l.length ≤ 9223372036854775807 ∧ (0 < l.length → ∃ g, A = some ⟨g, 0, none⟩ ∧ base ≤ g ∧ g < w.heap.size) := by
  obtain ⟨vs, h1, h2, h3⟩ := h
  exact ownsRow_shape h2
theorem SsFrom.at_ {base : Nat} {w : World} {g c : Nat} {l : List (List ByteArray)} (h : SsFrom base w (.slice (some ⟨g, 0, none⟩) l.length c) l) (k : Nat) (hk : k < l.length) : ∃ u, w.cell? ⟨g, k, none⟩ = some u ∧ StrsFrom base w u l[k] := by
  obtain ⟨vs, h1, h2, h3⟩ := h
  refine ⟨vs[k]'(by omega), ?_, h3 k _ _ (List.getElem?_eq_getElem _) (List.getElem?_eq_getElem hk)⟩
  rw [World.ownsRow.cellAt h2 k (by omega)]
  simp [h1, hk]

/-- The codes of the signs of the words. -/
def codesW (p : ByteArray) : List ByteArray := p.data.toList.map codeS
def codesOf (s : ByteArray) : List (List ByteArray) := (wordsOf s).map codesW
def SsPost (l : List (List ByteArray)) (w : World) (e : Ending) (w' : World) : Prop := ∃ v, e = .returned v ∧ SsFrom w.heap.size w' v l ∧ w.grownBy w' none

set_option maxRecDepth 100000 in
set_option maxHeartbeats 2000000 in
theorem keyWords_any (b : Nat) (s : ByteArray) (w : World) (hgl : Gl b w) (hs : s.size ≤ 1000000) :
    Calls Tryz.prog 94 #[.string s] w (SsPost (codesOf s) w) := by
  have HGL := Lib.hid hgl
  clear hgl
  obtain ⟨i0, hi, hz0, hz1, hz2⟩ := info_parts strInfo
  obtain ⟨j0, hj, hy0, hy1, hy2⟩ := info_parts slcInfo
  go_enter Tryz.func94, Tryz.ntmps94
  go_wp2_with fail
  refine (byBytes_any b _ HGL.out).mono ?_
  rintro _ w1 ⟨bm, rfl, hbm, hM, hg1⟩
  go_wp2_with fail
  refine (split_blank b s _ (HGL.out.quiet hg1) (by omega)).mono ?_
  rintro _ w2 ⟨v, rfl, hv, hg2⟩
  obtain ⟨A, c, rfl, hvl, hA⟩ := hv.shape
  obtain ⟨g, rfl, hg0, _⟩ := hA (wordsOf_pos s)
  have HM := Lib.hid (hM.quiet hg2)
  have HV := Lib.hid hv
  have HG := Lib.hid (gr_trans hg1 hg2)
  have hfew := wordsOf_few s
  have hwl : (wordsOf s).length ≤ 1000001 := by omega
  have hll : (codesOf s).length = (wordsOf s).length := by unfold codesOf; simp
  have HLL := Lib.hid hll
  clear hv hA hM hg1 hg2 hll hfew
  go_wp2_with fail
  go_loopw [4, 13] (fun o i wr => ∃ k : Nat, k ≤ (wordsOf s).length ∧ i = .int .i64 k ∧ SsFrom w2.heap.size wr o ((codesOf s).take k) ∧ w2.grownBy wr none) (fun _ i _ => (wordsOf s).length - (intOf i).toNat)
  case atStart => exact ⟨0, by omega, rfl, SsFrom.nil _ _, gr_refl _ _⟩
  case round =>
    obtain ⟨k, hk, rfl, ⟨vs, hvs, hown, hvv⟩, hgr⟩ := hrel
    have hlk : ((codesOf s).take k).length = k := by rw [List.length_take, HLL.out]; omega
    rw [hlk] at hvs hown
    obtain ⟨A2, c2, rfl, hk9, hA2⟩ := ownsRow_shape hown
    by_cases hlt : k < (wordsOf s).length
    · have hat := (HV.out.grown hgr).at_ k hlt
      have hsm := wordsOf_small s _ (List.getElem_mem hlt)
      have htk : (codesOf s).take (k + 1) = (codesOf s).take k ++ [codesW (wordsOf s)[k]] := by
        rw [List.take_succ_eq_append_getElem (by rw [HLL.out]; exact hlt)]
        simp [codesOf]
      obtain ⟨p, hp⟩ : ∃ p, (wordsOf s)[k] = p := ⟨_, rfl⟩
      rw [hp] at hat hsm htk
      have hlt2 : (k : Int) < ((wordsOf s).length : Int) := by omega
      have HP := Lib.hid hp
      have HT := Lib.hid htk
      have HO := Lib.hid hown
      have HVV := Lib.hid hvv
      have HVS := Lib.hid hvs
      have hcl : (codesW p).length = p.size := by unfold codesW; simp
      have HCL := Lib.hid hcl
      clear hp htk hown hvv hA2 hlk hvs hcl
      go_wp2_with fail
      generalize wr = wo at *
      go_loopw [7, 19] (fun l i wr => ∃ n : Nat, n ≤ p.size ∧ i = .int .i64 n ∧ StrsFrom wo.heap.size wr l ((codesW p).take n) ∧ wo.grownBy wr none) (fun _ i _ => p.size - (intOf i).toNat)
      case atStart => exact ⟨0, by omega, rfl, StrsFrom.nil _ _, gr_refl _ _⟩
      case round =>
        obtain ⟨n, hn, rfl, hl, hgq⟩ := hrel
        have hln : ((codesW p).take n).length = n := by rw [List.length_take, HCL.out]; omega
        have hl1 : wr.ownsRow wo.heap.size 9 1 u7 n (((codesW p).take n).map Value.string) := by
          have h := hl
          unfold StrsFrom at h
          rwa [hln] at h
        obtain ⟨A3, c3, rfl, hn9, hA3⟩ := ownsRow_shape hl1
        by_cases hlt3 : n < p.size
        · have hlt4 : (n : Int) < (p.size : Int) := by omega
          have htn : (codesW p).take (n + 1) = (codesW p).take n ++ [codeS p[n]] := by
            rw [List.take_succ_eq_append_getElem (by rw [HCL.out]; exact hlt3)]
            simp [codesW]
            rfl
          have hrun := (HM.out.quiet (gr_trans hgr hgq)).code p[n]
          have HTN := Lib.hid htn
          have HLN := Lib.hid hln
          have hzq := hgq.size
          have hrow : ∀ gg, (Value.slice A3 n c3).ownBlock = some gg → wo.heap.size ≤ gg := fun gg e => (hl1.lt gg e).1
          clear htn hln hl hA3
          go_wp2_with (at_builtin; refine wpList_append_own _ rfl _ _ 80 rfl wo.heap.size 9 i0 _ 1 16 Tryz.underlying80 hi hz0 hz1 hz2 rfl (by decide) _ _ _ rfl (hl1.alloc _) ⟨wr.heap.size, 0, none⟩ 1 1 [.string (codeS p[n])] rfl rfl (cells_new _ _ _) (str_one _) (by unfold maxLen; omega) (by omega) (by simp; omega) ?_; intro v' w6 hown2 hgrow2 _)
          have hG6 : wo.grownBy w6 none := gr_grown (gr_alloc hgq _) hgrow2 (fun gg e => .inr (hrow gg e))
          have hl6 : StrsFrom wo.heap.size w6 v' ((codesW p).take (n + 1)) := by
            unfold StrsFrom
            rw [HTN.out, List.map_append, List.length_append, HLN.out]
            exact hown2
          go_wp2_with fail
          go_roundw
          case rel => exact ⟨n + 1, by omega, by go_num, hl6, hG6⟩
          case measure => simp [intOf]; omega
        · have hlt4 : ¬ (n : Int) < (p.size : Int) := by omega
          have hf : (codesW p).take n = codesW p := List.take_of_length_le (by rw [HCL.out]; omega)
          rw [hf] at hl
          have HL := Lib.hid hl
          have hgw := gr_trans hgr hgq
          have hown3 : wr.ownsRow w2.heap.size 80 1 (.slice A2 k c2) k vs := ownsRow_grown HO.out hgq
          have hz2 := hgw.size
          have hzr := hgr.size
          have hone := slc_one hl
          have hrow : ∀ gg, (Value.slice A2 k c2).ownBlock = some gg → w2.heap.size ≤ gg := fun gg e => (hown3.lt gg e).1
          clear hf hl hl1 hln hA3
          go_wp2_with (at_builtin; refine wpList_append_own _ rfl _ _ 132 rfl w2.heap.size 80 j0 _ 1 24 Tryz.underlying132 hj hy0 hy1 hy2 rfl (by decide) _ _ _ rfl (hown3.alloc _) ⟨wr.heap.size, 0, none⟩ 1 1 [.slice A3 n c3] rfl rfl (cells_new _ _ _) hone (by unfold maxLen; omega) (by omega) (by simp; omega) ?_; intro v' w6 hown2 hgrow2 _)
          have hG6 : w2.grownBy w6 none := gr_grown (gr_alloc hgw _) hgrow2 (fun gg e => .inr (hrow gg e))
          have hS6 : SsFrom w2.heap.size w6 v' ((codesOf s).take (k + 1)) := by
            have hkeep : ∀ (u : Value) (l : List ByteArray), StrsFrom w2.heap.size wr u l → StrsFrom w2.heap.size w6 u l := fun u l h =>
              World.ownsRow.kept (World.ownsRow.alloc h _) hgrow2 (own_apart h hown3 (by decide))
            have hlen2 : ((codesOf s).take (k + 1)).length = k + 1 := by rw [List.length_take, HLL.out]; omega
            refine ⟨vs ++ [.slice A3 n c3], ?_, ?_, fun i u l hu hl => ?_⟩
            · rw [hlen2]; simp [HVS.out]
            · rw [hlen2]; exact hown2
            · rw [HT.out] at hl
              have hck : ((codesOf s).take k).length = k := by rw [List.length_take, HLL.out]; omega
              by_cases hik : i < k
              · rw [List.getElem?_append_left (by rw [HVS.out]; exact hik)] at hu
                rw [List.getElem?_append_left (by rw [hck]; exact hik)] at hl
                exact hkeep u l ((HVV.out i u l hu hl).grown hgq)
              · rw [List.getElem?_append_right (by rw [HVS.out]; omega)] at hu
                rw [List.getElem?_append_right (by rw [hck]; omega)] at hl
                rw [HVS.out] at hu
                rw [hck] at hl
                obtain rfl : i = k := by
                  have := (List.getElem?_eq_some_iff.1 hu).1
                  simp at this
                  omega
                simp at hu hl
                subst hu; subst hl
                exact hkeep _ _ (HL.out.low hzr)
          go_wp2_with fail
          go_roundw
          case rel => exact ⟨k + 1, by omega, by go_num, hS6, hG6⟩
          case measure => simp [intOf]; omega
    · have hlt2 : ¬ (k : Int) < ((wordsOf s).length : Int) := by omega
      have hf : (codesOf s).take k = codesOf s := List.take_of_length_le (by rw [HLL.out]; omega)
      rw [hf] at hvv
      have HO := Lib.hid hown
      have HVV := Lib.hid hvv
      have HVS := Lib.hid hvs
      clear hown hvv hA2 hf hvs hlk
      go_wp2_with fail
      go_ret
      have hz2 := HG.out.size
      have hkk : (codesOf s).length = k := by rw [HLL.out]; omega
      exact ⟨_, rfl, SsFrom.low (base := w2.heap.size) ⟨vs, by rw [hkk]; exact HVS.out, by rw [hkk]; exact HO.out, HVV.out⟩ hz2, gr_trans HG.out hgr⟩
end Go.Proofs.YtjhklpffmfdkbaaGreatDoor
