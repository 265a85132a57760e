/- The walks over key.elements and key.Apart: the codes of a text behind one another, and how many elements two texts are apart. Condition: strings of at most 10^4 bytes (the fault of key.Apart at all strings); asciiSpace is Go's own table, MaxLen holds a number. -/
import Derived.Test.YtlodmkdhlmineaaGreatDoorLevW
import Derived.Test.YtlodmkdhlmineaaGreatDoorCodeJ
import Derived.Test.YtlodmkdhlmineaaGreatDoorBld
namespace Go.Proofs.YtlodmkdhlmineaaGreatDoor
open Go.RowKit
set_option linter.unusedVariables false
set_option linter.unusedSimpArgs false

/-- The elements of the signs of a text. -/
def elL (l : List UInt8) : List UInt8 := l.flatMap codeOf
theorem elL_len (l : List UInt8) : (elL l).length ≤ 6 * l.length := by
  unfold elL
  induction l with
  | nil => simp
  | cons c l ih =>
    rw [List.flatMap_cons, List.length_append, List.length_cons]
    have := codeOf_short c
    omega
theorem elL_app (a b : List UInt8) : elL (a ++ b) = elL a ++ elL b := by unfold elL; rw [List.flatMap_append]
theorem codeOf_blank : codeOf 32 = [] := by decide +kernel
theorem elL_isp : ∀ ps : List (List UInt8), elL (isp [32] ps) = ps.flatMap elL
  | [] => by simp [isp, elL]
  | [p] => by simp [isp]
  | p :: q :: r => by
    rw [isp_cons, elL_app, elL_app, elL_isp (q :: r), show elL [32] = [] by unfold elL; rw [List.flatMap_cons, codeOf_blank]; rfl, List.nil_append, List.flatMap_cons, List.flatMap_cons, List.flatMap_cons]
/-- The elements of the first k words. -/
def elTo (s : ByteArray) (k : Nat) : List UInt8 := ((wordsOf s).take k).flatMap fun p => elL p.data.toList
theorem elTo_all (s : ByteArray) : elTo s (wordsOf s).length = elL s.data.toList := by
  unfold elTo
  rw [List.take_length, wordsOf_cut, List.flatMap_map]
  have h := elL_isp (cutW s.data.toList)
  rw [cutW_isp] at h
  rw [h]; rfl
theorem elTo_snoc {s : ByteArray} {k : Nat} (h : k < (wordsOf s).length) : elTo s (k + 1) = elTo s k ++ elL (wordsOf s)[k].data.toList := by
  unfold elTo
  rw [List.take_succ_eq_append_getElem h, List.flatMap_append]
  simp
theorem elTo_mono (s : ByteArray) {k n : Nat} (h : k ≤ n) : (elTo s k).length ≤ (elTo s n).length := by
  unfold elTo
  obtain ⟨d, rfl⟩ : ∃ d, n = k + d := ⟨n - k, by omega⟩
  rw [List.take_add, List.flatMap_append, List.length_append]
  omega
theorem elTo_len {s : ByteArray} {k : Nat} (h : k ≤ (wordsOf s).length) : (elTo s k).length ≤ 6 * s.size := by
  have h1 := elTo_mono s h
  rw [elTo_all] at h1
  have h2 := elL_len s.data.toList
  have h3 : s.data.toList.length = s.size := by simp
  omega
theorem elL_snoc {p : ByteArray} {q : Nat} (h : q < p.size) : elL (p.data.toList.take (q + 1)) = elL (p.data.toList.take q) ++ codeOf p[q] := by
  have h2 : q < p.data.toList.length := by simpa using h
  rw [List.take_succ_eq_append_getElem h2, elL_app]
  congr 1
  simp only [elL, List.flatMap_cons, List.flatMap_nil, List.append_nil]
  rfl
theorem elL_take_len (p : ByteArray) (q : Nat) : (elL (p.data.toList.take q)).length ≤ 6 * p.size := by
  have h1 := elL_len (p.data.toList.take q)
  have h2 : (p.data.toList.take q).length ≤ p.size := by rw [List.length_take]; simp; omega
  omega
theorem SsFrom.other {base b : Nat} {w w' : World} {v : Value} {l : List (List ByteArray)} (h : SsFrom base w v l) (hg : w.grownBy w' (some b)) (hb : b < base) : SsFrom base w' v l := by
  obtain ⟨vs, h1, h2, h3⟩ := h
  exact ⟨vs, h1, ownsRow_other h2 hg hb, fun i u l hu hl => (h3 i u l hu hl).other hg hb⟩
theorem Gb.some {a w w' : World} {b : Nat} {r : Option Nat} (h : Gb w w' b r) (ha : a.grownBy w (some b)) (hr : ∀ g, r = some g → a.heap.size ≤ g) : a.grownBy w' (some b) := by
  obtain ⟨w1, w2, h1, h2, h3⟩ := h
  exact gr_trans (gr_grown (gr_trans ha h1) h2 (fun g e => .inr (hr g e))) h3
set_option maxRecDepth 100000 in
set_option maxHeartbeats 4000000 in
theorem elements_any (b : Nat) (s : ByteArray) (w : World) (hgl : Gl b w) (hs : s.size ≤ 10000) (hne : elL s.data.toList ≠ []) :
    Calls Tryz.prog 85 #[.string s] w fun e w' => e = .returned (.string (strB (elL s.data.toList))) ∧ w.grownBy w' none := by
  have HGL := Lib.hid hgl
  have HW := Lib.hid (fun W (h : Gl b W) => keyWords_any b s W h (by omega))
  have hwp := wordsOf_pos s
  have HWS := Lib.hid (wordsOf_small s)
  have HALL := Lib.hid (elTo_all s)
  have HLEN := Lib.hid (fun k (h : k ≤ (wordsOf s).length) => elTo_len h)
  have HNE := Lib.hid hne
  have hll : (codesOf s).length = (wordsOf s).length := by unfold codesOf; simp
  have hG0 := World.grownBy_alloc w (.cells #[.pointer none, .slice none 0 0] 133) none
  have HB0 := Lib.hid (fun base => Bld.fresh w base)
  clear hgl hne
  go_enter Tryz.func85, Tryz.ntmps85
  go_wp2_with fail
  have hsz1 : (w.alloc (.cells #[.pointer none, .slice none 0 0] 133)).heap.size = w.heap.size + 1 := by simp
  generalize w.alloc (.cells #[.pointer none, .slice none 0 0] 133) = W1 at *
  obtain ⟨X, hX⟩ : ∃ X, w.heap.size = X := ⟨_, rfl⟩
  rw [hX] at HB0 hsz1 ⊢
  refine (HW.out _ (HGL.out.quiet hG0)).mono ?_
  rintro _ w2 ⟨v, rfl, hv, hg2⟩
  obtain ⟨A, c, rfl, hvl, hA⟩ := hv.shape
  obtain ⟨g, rfl, hgb, hgl2⟩ := hA (by omega)
  rw [hsz1] at hv
  have HV := Lib.hid hv
  have HB2 := Lib.hid ((HB0.out w2.heap.size).quiet hg2)
  have hG2 := gr_trans hG0 hg2
  obtain ⟨N, hN⟩ : ∃ N, (wordsOf s).length = N := ⟨_, rfl⟩
  have hNN : (codesOf s).length = N := by rw [hll]; exact hN
  have HN := Lib.hid hN
  have HNN := Lib.hid hNN
  have hgX : X + 1 ≤ g := by rw [← hsz1]; exact hgb
  have HAT : Hid (∀ k (hk : k < N), ∃ u, ∀ W : World, w2.grownBy W (some X) → W.cell? ⟨g, k, none⟩ = some u ∧ StrsFrom (X + 1) W u (codesW ((wordsOf s)[k]'(by rw [HN.out]; exact hk)))) := fun k hk => by
    obtain ⟨u, h1, h2⟩ := HV.out.at_ k (by rw [hNN]; exact hk)
    rw [codes_at s k (by rw [hNN]; exact hk) (by rw [hN]; exact hk)] at h2
    exact ⟨u, fun W hW => ⟨hW.cell h1 (by intro e; injection e with e; have e2 : g = X := e; omega), h2.other hW (by omega)⟩⟩
  have HX := Lib.hid hX
  rw [hNN] at hvl ⊢
  rw [hN] at HLEN hwp HALL
  clear hv hA hN hNN hll hX hG0 hg2
  go_wp2_with fail
  go_loopw [11] (fun i wr => ∃ k : Nat, k ≤ N ∧ i = .int .i64 k ∧ (∃ v, Bld wr w2.heap.size X v (elTo s k)) ∧ w2.grownBy wr (some X)) (fun i _ => N - (intOf i).toNat)
  case atStart => exact ⟨0, by omega, rfl, ⟨_, HB2.out⟩, gr_refl _ _⟩
  case round =>
    obtain ⟨k, hk, rfl, ⟨v, hB⟩, hgr⟩ := hrel
    rename World => wo
    by_cases hlt : k < N
    · have hkn : (k : Int) < (N : Int) := by omega
      have hkw : k < (wordsOf s).length := by rw [HN.out]; exact hlt
      obtain ⟨u, hu⟩ := HAT.out k hlt
      have hsn := elTo_snoc hkw
      have hpz : ((wordsOf s)[k]).size ≤ s.size := HWS.out _ (List.getElem_mem hkw)
      have hl1 := HLEN.out (k + 1) (by omega)
      generalize (wordsOf s)[k] = p at *
      rw [hsn] at hl1
      have HSN := Lib.hid hsn
      have HU := Lib.hid hu
      obtain ⟨hcu, hsu⟩ := hu wo hgr
      obtain ⟨A2, c2, rfl, hm2, hA2⟩ := hsu.shape
      have hcw := codesW_len p
      rw [hcw] at hcu HU hm2
      have hpl : elL (p.data.toList.take p.size) = elL p.data.toList := by
        congr 1
        exact List.take_of_length_le (by simp)
      have HPL := Lib.hid hpl
      have HA2 : Hid (0 < p.size → ∃ g, A2 = some ⟨g, 0, none⟩) := fun h => by
        obtain ⟨g, e, _⟩ := hA2 (by rw [hcw]; exact h)
        exact ⟨g, e⟩
      have HB := Lib.hid (show ∃ v, Bld wo w2.heap.size X v (elTo s k ++ elL (p.data.toList.take 0)) from ⟨v, by rw [List.take_zero, show elL [] = [] from rfl, List.append_nil]; exact hB⟩)
      have HCW : Hid (∀ q (h : q < p.size), (codesW p)[q]'(by rw [codesW_len]; exact h) = codeS p[q]) := fun q h => List.getElem_map codeS
      have hl0 : (elTo s k).length + (elL p.data.toList).length ≤ 60000 := by rw [List.length_append] at hl1; omega
      obtain ⟨M, hM⟩ : ∃ M, p.size = M := ⟨_, rfl⟩
      have HM := Lib.hid hM
      rw [hM] at hcu HU hm2 HA2 HPL
      clear hsn hsu hA2 hB hcw hpl hM hl1 hu
      go_wp2_with fail
      go_loopw [17] (fun i wr => ∃ q : Nat, q ≤ M ∧ i = .int .i64 q ∧ Hid (∃ v, Bld wr w2.heap.size X v (elTo s k ++ elL (p.data.toList.take q))) ∧ w2.grownBy wr (some X)) (fun i _ => M - (intOf i).toNat)
      case atStart => exact ⟨0, by omega, rfl, HB, hgr⟩
      case round =>
        obtain ⟨q, hq, rfl, HBQ, hgq⟩ := hrel
        rename World => wx
        by_cases hlq : q < M
        · have hqn : (q : Int) < (M : Int) := by omega
          obtain ⟨g2, rfl⟩ := HA2.out (by omega)
          have hqp : q < p.size := by rw [HM.out]; exact hlq
          have hsx := (HU.out wx hgq).2
          have cq : wx.cell? ⟨g2, q, none⟩ = some (.string (codeS p[q])) := by
            have e : (codesW p).length = M := by rw [codesW_len]; exact HM.out
            have h := StrsFrom.at_ (show StrsFrom (X + 1) wx (.slice (some ⟨g2, 0, none⟩) (codesW p).length c2) (codesW p) by rw [e]; exact hsx) q (by rw [e]; exact hlq)
            rw [h, HCW.out q hqp]
          obtain ⟨vq, hBq⟩ := HBQ.out
          have hlx : (elTo s k ++ elL (p.data.toList.take q)).length ≤ 1000000 := by
            have := elL_take_len p q
            have := elL_len p.data.toList
            rw [List.length_append]; omega
          have hcz := codeOf_short p[q]
          have HWR := Lib.hid (bld_writeString w2.heap.size X vq _ (codeS p[q]) wx hBq hlx (by show (codeOf p[q]).toArray.size ≤ 1000000; simp; omega) hgq.size)
          have HRW := Lib.hid (fun g e => (hBq.row.lt g e).1)
          have HSQ : Hid (elTo s k ++ elL (p.data.toList.take (q + 1)) = (elTo s k ++ elL (p.data.toList.take q)) ++ (codeS p[q]).data.toList) := by
            show _ = _
            rw [elL_snoc hqp, List.append_assoc]; rfl
          generalize codeS p[q] = y at *
          clear hBq hsx hcz hlx
          go_wp2_with fail
          refine HWR.out.mono ?_
          rintro _ w3 ⟨rfl, ⟨v3, hB3⟩, hGB⟩
          have hg3 := hGB.some hgq HRW.out
          clear hGB
          go_wp2_with fail
          go_roundw
          case rel => exact ⟨q + 1, by omega, by go_num, ⟨v3, by rw [HSQ.out]; exact hB3⟩, hg3⟩
          case measure => simp [intOf]; omega
        · have hqn : ¬ (q : Int) < (M : Int) := by omega
          obtain rfl : q = M := by omega
          have HB9 : Hid (∃ v, Bld wx w2.heap.size X v (elTo s (k + 1))) := by
            show ∃ v, _
            rw [HSN.out, ← HPL.out]; exact HBQ.out
          go_wp2_with fail
          go_roundw
          case rel => exact ⟨k + 1, by omega, by go_num, HB9.out, hgq⟩
          case measure => simp [intOf]; omega
    · have hkn : ¬ (k : Int) < (N : Int) := by omega
      obtain rfl : k = N := by omega
      rw [HALL.out] at hB
      have hl9 := elL_len s.data.toList
      have hsl : s.data.toList.length = s.size := by simp
      have HST := Lib.hid (bld_string w2.heap.size X v _ wo hB HNE.out (by omega))
      have HRW := Lib.hid (fun g e => (hB.row.lt g e).1)
      have hsz2 := hG2.size
      have hG3 : w.grownBy wo none := gr_grown hG2 hgr (fun g e => by injection e with e; exact .inr (by rw [HX.out]; omega))
      clear hB hl9 hsl
      go_wp2_with fail
      refine HST.out.mono ?_
      rintro _ w3 ⟨rfl, hg3⟩
      have hG4 : w.grownBy w3 none := gr_grown hG3 hg3 (fun g e => .inr (Nat.le_trans hsz2 (HRW.out g e)))
      go_wp2_with fail
      go_ret
      exact ⟨rfl, hG4⟩

/-- The fault of key.Apart. -/
def apE (a b : ByteArray) : Int := if saidE a = 0 then saidE b else saidE a
def apV (a b : ByteArray) : Int := if apE a b = 0 then (levL (elL a.data.toList) (elL b.data.toList) : Nat) else 0
theorem elL_ne {s : ByteArray} (h : saidE s = 0) : elL s.data.toList ≠ [] := by
  obtain ⟨_, h1, h2⟩ := saidE_zero h
  rw [← elTo_all]
  unfold elTo
  rw [List.take_length]
  have hp := wordsOf_pos s
  cases hw : wordsOf s with
  | nil => rw [hw] at hp; simp at hp
  | cons p r =>
    rw [hw] at h1 h2
    unfold fullB at h1
    rw [List.all_cons, Bool.and_eq_true] at h1 h2
    intro e
    rw [List.flatMap_cons] at e
    have e1 := (List.append_eq_nil_iff.1 e).1
    have h3 := h1.1
    have h4 := h2.1
    rw [Lib.toList_data] at h3
    unfold coded at h4
    cases hd : p.data.toList with
    | nil => rw [hd] at h3; cases h3
    | cons c q =>
      rw [hd] at h4 e1
      rw [List.all_cons, Bool.and_eq_true] at h4
      unfold elL at e1
      rw [List.flatMap_cons] at e1
      have e2 := (List.append_eq_nil_iff.1 e1).1
      have h5 := h4.1
      rw [e2] at h5
      cases h5
set_option maxRecDepth 100000 in
set_option maxHeartbeats 4000000 in
theorem apartE_any (b : Nat) (s t : ByteArray) (w : World) (hgl : Gl b w) (hs : s.size < 4294967281) (ht : t.size < 4294967281) :
    Calls Tryz.prog 35 #[.string s, .string t] w fun e w' => e = .returned (.tuple #[.int .i64 (apV s t), .int .i64 (apE s t)]) ∧ w.grownBy w' none := by
  have HGL := Lib.hid hgl
  have HS := Lib.hid (fun W (h : Gl b W) => checkSaid_any b s W h hs)
  have HT := Lib.hid (fun W (h : Gl b W) => checkSaid_any b t W h ht)
  have hB := Blk.new w 9 #[.string s, .string t]
  have hG0 := World.grownBy_alloc w (.cells #[.string s, .string t] 9) none
  have HB := Lib.hid hB
  clear hgl hB hs ht
  go_enter Tryz.func35, Tryz.ntmps35
  go_wp2_with fail
  generalize w.alloc (.cells #[.string s, .string t] 9) = W0 at *
  obtain ⟨X, hX⟩ : ∃ X, w.heap.size = X := ⟨_, rfl⟩
  rw [hX] at HB ⊢
  clear hX
  go_loopw [13] (fun i wr => ∃ k : Nat, k ≤ 2 ∧ i = .int .i64 k ∧ w.grownBy wr none ∧ W0.grownBy wr none ∧ Hid (1 ≤ k → saidE s = 0) ∧ Hid (2 ≤ k → saidE t = 0)) (fun i _ => 2 - (intOf i).toNat)
  case atStart => exact ⟨0, by omega, rfl, hG0, gr_refl _ _, fun h => absurd h (by omega), fun h => absurd h (by omega)⟩
  case round =>
    obtain ⟨k, hk, rfl, hgr, hgx, e1, e2⟩ := hrel
    have hb := HB.out.grown hgx (by simp)
    have c0 : wr.cell? ⟨X, 0, none⟩ = some (.string s) := hb.cell 0
    have c1 : wr.cell? ⟨X, 1, none⟩ = some (.string t) := hb.cell 1
    clear hb
    rcases (show k = 0 ∨ k = 1 ∨ k = 2 by omega) with rfl | rfl | rfl
    · by_cases h1 : saidE s = 0
      · rw [h1] at HS
        have H1 := Lib.hid h1
        clear h1
        go_wp2_with fail
        refine (HS.out _ (HGL.out.quiet hgr)).mono ?_
        rintro _ w1 ⟨rfl, hg1⟩
        go_wp2_with fail
        go_roundw
        case rel => exact ⟨1, by omega, rfl, gr_trans hgr hg1, gr_trans hgx hg1, fun _ => H1.out, fun h => absurd h (by omega)⟩
        case measure => simp [intOf]
      · have hE : apE s t = saidE s := by unfold apE; rw [if_neg h1]
        have hV : apV s t = 0 := by unfold apV; rw [hE, if_neg h1]
        have hbn : (saidE s != 0) = true := by rw [bne_iff_ne]; exact h1
        have HE := Lib.hid hE
        have HVV := Lib.hid hV
        clear hE hV h1 e1 e2
        generalize saidE s = E at *
        go_wp2_with fail
        refine (HS.out _ (HGL.out.quiet hgr)).mono ?_
        rintro _ w1 ⟨rfl, hg1⟩
        go_wp2_with fail
        go_ret2
        exact ⟨by rw [HE.out, HVV.out] <;> rfl, gr_trans hgr hg1⟩
    · by_cases h2 : saidE t = 0
      · rw [h2] at HT
        have H2 := Lib.hid h2
        clear h2
        go_wp2_with fail
        refine (HT.out _ (HGL.out.quiet hgr)).mono ?_
        rintro _ w1 ⟨rfl, hg1⟩
        go_wp2_with fail
        go_roundw
        case rel => exact ⟨2, by omega, rfl, gr_trans hgr hg1, gr_trans hgx hg1, fun _ => e1.out (by omega), fun _ => H2.out⟩
        case measure => simp [intOf]
      · have hE : apE s t = saidE t := by unfold apE; rw [if_pos (e1.out (by omega))]
        have hV : apV s t = 0 := by unfold apV; rw [hE, if_neg h2]
        have hbn : (saidE t != 0) = true := by rw [bne_iff_ne]; exact h2
        have HE := Lib.hid hE
        have HVV := Lib.hid hV
        clear hE hV h2 e1 e2
        generalize saidE t = E at *
        go_wp2_with fail
        refine (HT.out _ (HGL.out.quiet hgr)).mono ?_
        rintro _ w1 ⟨rfl, hg1⟩
        go_wp2_with fail
        go_ret2
        exact ⟨by rw [HE.out, HVV.out] <;> rfl, gr_trans hgr hg1⟩
    · have h1 := e1.out (by omega)
      have h2 := e2.out (by omega)
      have hE : apE s t = 0 := by unfold apE; rw [if_pos h1]; exact h2
      have hV : apV s t = (levL (elL s.data.toList) (elL t.data.toList) : Nat) := by unfold apV; rw [hE, if_pos rfl]
      have hs5 := (saidE_zero h1).1
      have ht5 := (saidE_zero h2).1
      have z1 := elL_len s.data.toList
      have z2 := elL_len t.data.toList
      have z3 : s.data.toList.length = s.size := by simp
      have z4 : t.data.toList.length = t.size := by simp
      have HA := Lib.hid (fun W (h : Gl b W) => elements_any b s W h (by omega) (elL_ne h1))
      have HB2 := Lib.hid (fun W (h : Gl b W) => elements_any b t W h (by omega) (elL_ne h2))
      have HLV := Lib.hid (fun W => lev_any (strB (elL s.data.toList)) (strB (elL t.data.toList)) W (by rw [strB_size]; omega) (by rw [strB_size]; omega))
      rw [strB_data, strB_data] at HLV
      have HE := Lib.hid hE
      have HVV := Lib.hid hV
      clear hE hV h1 h2 e1 e2 z1 z2 z3 z4 hs5 ht5
      generalize levL (elL s.data.toList) (elL t.data.toList) = V at *
      generalize strB (elL s.data.toList) = P at *
      generalize strB (elL t.data.toList) = Q at *
      go_wp2_with fail
      refine (HA.out _ (HGL.out.quiet hgr)).mono ?_
      rintro _ w1 ⟨rfl, hg1⟩
      have hG1 := gr_trans hgr hg1
      go_wp2_with fail
      refine (HB2.out _ (HGL.out.quiet hG1)).mono ?_
      rintro _ w2 ⟨rfl, hg2⟩
      have hG2 := gr_trans hG1 hg2
      go_wp2_with fail
      refine (HLV.out _).mono ?_
      rintro _ w3 ⟨rfl, hg3⟩
      go_wp2_with fail
      go_ret2
      exact ⟨by rw [HE.out, HVV.out] <;> rfl, gr_trans hG2 hg3⟩
end Go.Proofs.YtlodmkdhlmineaaGreatDoor
