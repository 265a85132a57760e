/- The walk over the reference's FairestOf. Condition: few shifts without error; a contest's time. -/
import Derived.Test.YtffddmgnjecmdaaDoorCountsRef
import Derived.Test.YtffddmgnjecmdaaDoorFairest
namespace Go.Proofs.YtffddmgnjecmdaaDoor
open Go.RowKit
set_option linter.unusedVariables false
set_option linter.unusedSimpArgs false

theorem ccells_of (ks : List (List UInt8)) (f g : List UInt8 → Int) (k : Nat) (h : k < ks.length) : (ccells ks f g)[k * 3]? = some (encStr ks[k]) ∧ (ccells ks f g)[k * 3 + 1]? = some (.int .i64 (f ks[k])) ∧ (ccells ks f g)[k * 3 + 2]? = some (.int .i64 (g ks[k])) := by
  induction ks generalizing k with
  | nil => simp at h
  | cons p r ih =>
    have e : ccells (p :: r) f g = encStr p :: .int .i64 (f p) :: .int .i64 (g p) :: ccells r f g := rfl
    rw [e]
    cases k with
    | zero => simp
    | succ k =>
      have := ih k (by simpa using h)
      rw [show (k + 1) * 3 = k * 3 + 1 + 1 + 1 from by omega]
      simpa using this
theorem CountsFrom.three {base : Nat} {w : World} {gb c : Nat} {ks : List (List UInt8)} {f g : List UInt8 → Int} (h : CountsFrom base w (.slice (some ⟨gb, 0, none⟩) ks.length c) ks f g) (k : Nat) (hk : k < ks.length) :
    w.cell? ⟨gb, k * 3, none⟩ = some (encStr ks[k]) ∧ w.cell? ⟨gb, k * 3 + 1, none⟩ = some (.int .i64 (f ks[k])) ∧ w.cell? ⟨gb, k * 3 + 2, none⟩ = some (.int .i64 (g ks[k])) := by
  have hc := ccells_of ks f g k hk
  rw [World.ownsRow.cellAt h (k * 3) (by omega), World.ownsRow.cellAt h (k * 3 + 1) (by omega), World.ownsRow.cellAt h (k * 3 + 2) (by omega)]
  exact hc
/-- The sum of the first so many. -/
def sumTo (f : List UInt8 → Int) (ks : List (List UInt8)) (k : Nat) : Int := ((ks.take k).map f).sum
theorem sum_append1 (l : List Int) (x : Int) : (l ++ [x]).sum = l.sum + x := by
  induction l with
  | nil => simp
  | cons a r ih => simp only [List.cons_append, List.sum_cons, ih]; omega
theorem sumTo_step (f : List UInt8 → Int) (ks : List (List UInt8)) (k : Nat) (h : k < ks.length) : sumTo f ks (k + 1) = sumTo f ks k + f ks[k] := by
  unfold sumTo
  rw [List.take_succ_eq_append_getElem h, List.map_append]
  exact sum_append1 _ _
theorem sumTo_bd (f : List UInt8 → Int) (ks : List (List UInt8)) (B : Int) (hB : 0 ≤ B) (h : ∀ q, 0 ≤ f q ∧ f q ≤ B) (k : Nat) : 0 ≤ sumTo f ks k ∧ sumTo f ks k ≤ B * (k : Int) := by
  unfold sumTo
  have hb : ∀ m : List (List UInt8), 0 ≤ (m.map f).sum ∧ (m.map f).sum ≤ B * (m.length : Int) := by
    intro m
    induction m with
    | nil => simp
    | cons q r ih =>
      have := h q
      simp only [List.map_cons, List.sum_cons, List.length_cons]
      have e : B * ((r.length : Int) + 1) = B * (r.length : Int) + B := by rw [Int.mul_add, Int.mul_one]
      have : ((r.length + 1 : Nat) : Int) = (r.length : Int) + 1 := rfl
      rw [this, e]
      omega
  have h1 := hb (ks.take k)
  have h2 : ((ks.take k).length : Int) ≤ (k : Int) := by simp; omega
  have h3 : B * ((ks.take k).length : Int) ≤ B * (k : Int) := Int.mul_le_mul_of_nonneg_left h2 hB
  omega
theorem fair_of (LL : List (List UInt8 × Int)) (ks : List (List UInt8)) (hn : (LL.map (·.1)).Nodup) (hp : ks.Perm (LL.map (·.1))) :
    sumTo (fun q => max 0 (valS LL q - sumTo (valS LL) ks ks.length / (ks.length : Int))) ks ks.length = fairS LL ∧ sumTo (valS LL) ks ks.length = sumS LL := by
  have hs : sumTo (valS LL) ks ks.length = sumS LL := by
    unfold sumTo
    rw [List.take_length, sum_perm (hp.map (valS LL)), sumS_keys LL hn]
  have hl : ks.length = LL.length := by rw [hp.length_eq, List.length_map]
  refine ⟨?_, hs⟩
  rw [hs]
  unfold sumTo fairS
  rw [List.take_length]
  by_cases h : LL = []
  · rw [if_pos h]
    have : ks = [] := List.eq_nil_of_length_eq_zero (by rw [hl, h]; rfl)
    rw [this]; rfl
  · rw [if_neg h, sum_perm (hp.map _), hl]

set_option maxRecDepth 100000 in
set_option maxHeartbeats 8000000 in
theorem refFair_any (base2 : Nat) (v2 : Value) (l : List (Int × ByteArray)) (a z : Int) (w : World) (hl : ShFrom base2 w v2 l) (F : ShFew l) (O : ShOk l) (ha : 0 ≤ a) (hz0 : 0 ≤ z) (ha1 : a ≤ 345686400000) (hz : z ≤ 345686400000) :
    Calls Tryd.prog 43 #[v2, .agg #[.int .i64 a, .int .i64 z]] w fun r w' =>
      r = .returned (.int .i64 (fairS (longsTo l a z l.length))) ∧ w.grownBy w' none := by
  have h6 := F.len
  have hG := World.grownBy_alloc w (.cells #[.int .i64 a, .int .i64 z] 60) none
  have hx := Blk.new w 60 #[.int .i64 a, .int .i64 z]
  obtain ⟨x0, x1⟩ := hx.cells2
  have HL1 := Lib.hid (hl.grown hG)
  have HC := Lib.hid (fun W h => refCounts_any 0 base2 (.slice none 0 0) v2 [] l a z W (World.ownsRow_nil _ _ _ _) (by simp) h F O ha hz0 ha1 hz)
  have hlb := longsTo_bd l a z ha hz O.mom l.length
  have hvl := fun q => valS_bd (B := 345686400000 * (l.length : Int)) (by omega) hlb.1 q
  have hwl := whosTo_len l a z l.length
  have hol : (onceB (whosTo l a z l.length)).length ≤ 6 := by
    have h1 := onceB_len (whosTo l a z l.length)
    omega
  have hnd := longsTo_nodup l a z l.length
  have hkp : (onceB (whosTo l a z l.length)).Perm ((longsTo l a z l.length).map (·.1)) := by
    rw [onceB_keys hnd (fun x => by rw [whosTo_mem, hasS_mem])]
    exact sortB_perm _
  have hfair := fair_of _ _ hnd hkp
  have hvb : ∀ q, 0 ≤ valS (longsTo l a z l.length) q ∧ valS (longsTo l a z l.length) q ≤ 2074118400000 := fun q => by have := hvl q; omega
  generalize onceB (whosTo l a z l.length) = KS at *
  generalize valS (manyS l []) = gM at *
  generalize hf : fairS (longsTo l a z l.length) = FA at *
  generalize hsu : sumS (longsTo l a z l.length) = SU at *
  generalize valS (longsTo l a z l.length) = gL at *
  have HF := Lib.hid hfair
  have HVB := Lib.hid hvb
  clear hl F O hlb hvl hwl hnd hkp hfair hf hsu hvb hx
  go_enter Tryd.func43, Tryd.ntmps43
  go_wp2_with fail
  generalize w.alloc (.cells #[.int .i64 a, .int .i64 z] 60) = W at *
  refine (HC.out _ HL1.out).mono ?_
  rintro _ w1 ⟨u, rfl, hu, hg1⟩
  have hG1 := gr_trans hG hg1
  obtain ⟨A, c, rfl, hlen, hA⟩ := ownsRow_shape hu
  have HU := Lib.hid hu
  obtain ⟨n, hn⟩ : ∃ n, KS.length = n := ⟨_, rfl⟩
  have HN := Lib.hid hn
  rw [hn] at hol hlen hA
  rw [hn]
  have HA := Lib.hid hA
  clear hA hn hu x0 x1 hG hg1
  go_wp2_with fail
  go_loopw [6, 17] (fun q i wr => ∃ k : Nat, k ≤ n ∧ i = .int .i64 k ∧ q = .int .i64 (sumTo gL KS k) ∧ w1.grownBy wr none) (fun _ i _ => n - (intOf i).toNat)
  case atStart => exact ⟨0, by omega, rfl, rfl, gr_refl _ _⟩
  case round =>
    obtain ⟨k, hk, rfl, rfl, hgr⟩ := hrel
    by_cases hlt : k < n
    · obtain ⟨g, rfl, _, _⟩ := HA.out (by omega)
      have hkl : (k : Int) < (n : Int) := by omega
      have hks : k < KS.length := by have := HN.out; omega
      obtain ⟨c0, c1, c2⟩ := CountsFrom.three (ownsRow_grown HU.out hgr) k hks
      have HS := Lib.hid (sumTo_step gL KS k hks)
      have hsb := sumTo_bd gL KS 2074118400000 (by omega) HVB.out k
      have hgb := HVB.out KS[k]
      obtain ⟨x, hx⟩ : ∃ x, gL KS[k] = x := ⟨_, rfl⟩
      obtain ⟨y, hy⟩ : ∃ x, gM KS[k] = x := ⟨_, rfl⟩
      obtain ⟨S, hS⟩ : ∃ x, sumTo gL KS k = x := ⟨_, rfl⟩
      rw [hx] at c2 HS hgb
      rw [hy] at c1
      rw [hS] at HS hsb ⊢
      unfold encStr at c0
      have hGn := gr_alloc hgr (.cells #[.string ⟨KS[k].toArray⟩, .int .i64 y, .int .i64 x] 80)
      generalize (⟨KS[k].toArray⟩ : ByteArray) = st at *
      clear hx hy hS
      go_wp2_with fail
      go_roundw
      case rel => exact ⟨k + 1, by omega, by go_num, by rw [HS.out], hGn⟩
      case measure => simp [intOf]; omega
    · have hkl : ¬ (k : Int) < (n : Int) := by omega
      obtain rfl : k = n := by omega
      have hsb := sumTo_bd gL KS 2074118400000 (by omega) HVB.out k
      obtain ⟨S, hS⟩ : ∃ x, sumTo gL KS k = x := ⟨_, rfl⟩
      rw [hS] at hsb ⊢
      obtain ⟨P, hP⟩ : ∃ P, S / (k : Int) = P := ⟨_, rfl⟩
      have HFE : Hid (sumTo (fun q => max 0 (gL q - P)) KS k = FA) := by
        show _ = _
        have := HF.out.1
        rw [HN.out, hS, hP] at this
        exact this
      have hP0 : 0 ≤ P := by rw [← hP]; exact Int.ediv_nonneg hsb.1 (by omega)
      have hP1 : P ≤ S := by rw [← hP]; exact Int.ediv_le_self _ hsb.1
      have hqt : 0 < k → IntKind.i64.wrap (S.tdiv (k : Int)) = P := fun h => by
        rw [Int.tdiv_eq_ediv_of_nonneg hsb.1, hP]
        exact IntWalk.i64_in _ ⟨by omega, by omega⟩
      have HQT := Lib.hid hqt
      clear hS hP hqt
      go_wp2_with fail
      generalize wr = wo at *
      have hGo := gr_trans hG1 hgr
      go_loopw [7, 28] (fun q i wr => ∃ j : Nat, j ≤ k ∧ i = .int .i64 j ∧ q = .int .i64 (sumTo (fun q => max 0 (gL q - P)) KS j) ∧ w1.grownBy wr none) (fun _ i _ => k - (intOf i).toNat)
      case atStart => exact ⟨0, by omega, rfl, rfl, hgr⟩
      case round =>
        obtain ⟨j, hj, rfl, rfl, hgj⟩ := hrel
        by_cases hlj : j < k
        · obtain ⟨g, rfl, _, _⟩ := HA.out (by omega)
          have hjl : (j : Int) < (k : Int) := by omega
          have hks : j < KS.length := by have := HN.out; omega
          obtain ⟨c0, c1, c2⟩ := CountsFrom.three (ownsRow_grown HU.out hgj) j hks
          have HS := Lib.hid (sumTo_step (fun q => max 0 (gL q - P)) KS j hks)
          have hsb2 := sumTo_bd (fun q => max 0 (gL q - P)) KS 2074118400000 (by omega) (fun q => by have := HVB.out q; omega) j
          have hgb := HVB.out KS[j]
          have e1 := HQT.out (by omega)
          have e2 : ¬ (k : Int) = 0 := by omega
          obtain ⟨x, hx⟩ : ∃ x, gL KS[j] = x := ⟨_, rfl⟩
          obtain ⟨y, hy⟩ : ∃ x, gM KS[j] = x := ⟨_, rfl⟩
          obtain ⟨M, hM⟩ : ∃ x, sumTo (fun q => max 0 (gL q - P)) KS j = x := ⟨_, rfl⟩
          rw [hx] at c2 hgb
          simp only [hx] at HS
          rw [hy] at c1
          rw [hM] at HS hsb2 ⊢
          unfold encStr at c0
          have hGn := gr_alloc hgj (.cells #[.string ⟨KS[j].toArray⟩, .int .i64 y, .int .i64 x] 80)
          generalize (⟨KS[j].toArray⟩ : ByteArray) = st at *
          clear hx hy hM
          go_wp2_with fail
          go_quiet (fail)
          go_wp2_with fail
          go_roundw
          case rel => exact ⟨j + 1, by omega, by go_num, by rw [HS.out], gr_drewN hGn _⟩
          case measure => simp [intOf]; omega
        · have hjl : ¬ (j : Int) < (k : Int) := by omega
          obtain rfl : j = k := by omega
          go_wp2_with fail
          go_ret
          exact ⟨by rw [HFE.out]; rfl, gr_trans hG1 hgj⟩
end Go.Proofs.YtffddmgnjecmdaaDoor
