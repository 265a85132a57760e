/- The walk over rate.Cheapest at right arguments: what is read off the tables. Condition: whole seconds, at most 400 of them. -/
import Derived.Test.YtlbhphfmckhimaaPlanWins
import Derived.Test.YtlbhphfmckhimaaTooLong
import Derived.Test.YtlbhphfmckhimaaRateAll
import Derived.Deep.AppendLies
import Derived.Deep.RegionWith
namespace Go.Proofs.Ytlbhphfmckhimaa
open Go.RowKit
set_option linter.unusedVariables false
set_option linter.unusedSimpArgs false

/-- No whole second. -/
def remM (x : Int) : Bool := x.tmod 1000 != 0
theorem remM_any (x : Int) (w : World) : Calls Try.prog 33 #[.int .i64 x] w fun r w' => r = .returned (.bool (remM x)) ∧ w = w' := by
  have hb : -1000 < x.tmod 1000 ∧ x.tmod 1000 < 1000 := by
    rcases Int.le_total 0 x with h | h
    · rw [Int.tmod_eq_emod_of_nonneg h]; omega
    · have := Int.tmod_eq_emod (a := x) (b := 1000)
      have h1 := Int.neg_tmod (a := -x) (b := 1000)
      rw [Int.neg_neg] at h1
      rw [h1, Int.tmod_eq_emod_of_nonneg (by omega)]
      omega
  have hw : IntKind.i64.wrap (x.tmod 1000) = x.tmod 1000 := by rw [IntKind.wrap_i64]; omega
  have HE : Hid (remM x = (x.tmod 1000 != 0)) := rfl
  go_enter Try.func33, Try.ntmps33
  go_wp2_with fail
  go_ret
  exact ⟨by rw [HE.out] <;> rfl, rfl⟩
/-- The first place of a number that is so; -1: there is none. -/
def IdxRem (l : List Int) (w : World) (e : Ending) (w' : World) : Prop := ∃ i : Int, e = .returned (.int .i64 i) ∧ (i = -1 ∧ l.any remM = false ∨ 0 ≤ i ∧ l.any remM = true) ∧ w = w'
set_option maxHeartbeats 1000000 in
theorem indexRem (base : Nat) (u : Value) (l : List Int) (w : World) (hu : IntsFrom base w u l) :
    Calls Try.prog 51 #[u, .func (.func 33) #[] #[]] w (IdxRem l w) := by
  obtain ⟨A, ca, rfl, hla, hA⟩ := hu.shape
  have HU := Lib.hid hu
  clear hu
  go_enter Try.func51, Try.ntmps51
  go_wp2_with fail
  go_loop [8] (fun i => ∃ k : Nat, k ≤ l.length ∧ i = .int .i64 k ∧ Hid ((l.take k).any remM = false)) (fun i => l.length - (intOf i).toNat)
  case atStart => exact ⟨0, by omega, rfl, by show List.any (List.take 0 l) _ = _; simp⟩
  case round =>
    obtain ⟨k, hk, rfl, HN⟩ := hrel
    by_cases hlt : k < l.length
    · obtain ⟨g, rfl, _, _⟩ := hA (by omega)
      have cx := HU.out.at_ k hlt
      have hkl : (k : Int) < (l.length : Int) := by omega
      have hall : l.any remM = false → remM l[k] = false := fun h => by
        have := List.any_eq_false.1 h l[k] (List.getElem_mem hlt)
        simpa using this
      have htk : (l.take (k + 1)).any remM = ((l.take k).any remM || remM l[k]) := by
        rw [List.take_succ_eq_append_getElem hlt, List.any_append]; simp
      have hyes : remM l[k] = true → l.any remM = true := fun h => List.any_eq_true.2 ⟨l[k], List.getElem_mem hlt, h⟩
      rw [HN.out] at htk
      generalize l[k] = x at *
      rcases hd : remM x
      · have HN2 : Hid ((l.take (k + 1)).any remM = false) := by show _ = _; rw [htk, hd]; rfl
        clear htk hyes hall
        go_wp2_with fail
        refine (remM_any x w).mono ?_
        rintro _ w1 ⟨rfl, rfl⟩
        rw [hd]
        go_wp2_with fail
        go_round
        case rel => exact ⟨k + 1, by omega, by go_num, HN2⟩
        case measure => simp [intOf]; omega
      · have HY := Lib.hid (hyes hd)
        clear htk hyes hall
        go_wp2_with fail
        refine (remM_any x w).mono ?_
        rintro _ w1 ⟨rfl, rfl⟩
        rw [hd]
        go_wp2_with fail
        go_ret
        exact ⟨k, rfl, .inr ⟨by omega, HY.out⟩, rfl⟩
    · have hkl : ¬ (k : Int) < (l.length : Int) := by omega
      have HN3 : Hid (l.any remM = false) := by
        show _ = _
        have := HN.out
        rwa [List.take_of_length_le (by omega)] at this
      go_wp2_with fail
      go_ret
      exact ⟨-1, rfl, .inl ⟨rfl, HN3.out⟩, rfl⟩
theorem hasRem (base : Nat) (u : Value) (l : List Int) (w : World) (hu : IntsFrom base w u l) :
    Calls Try.prog 32 #[u, .func (.func 33) #[] #[]] w fun r w' => r = .returned (.bool (l.any remM)) ∧ w = w' := by
  have HU := Lib.hid hu
  clear hu
  go_enter Try.func32, Try.ntmps32
  go_wp2_with fail
  refine (indexRem base u l _ HU.out).mono ?_
  rintro _ _ ⟨i, rfl, hi, rfl⟩
  rcases hi with ⟨rfl, h⟩ | ⟨h0, h⟩
  · have H := Lib.hid h
    clear h
    go_wp2_with fail
    go_ret
    exact ⟨ret_b (by rw [H.out]), rfl⟩
  · have H := Lib.hid h
    clear h
    go_wp2_with fail
    go_ret
    exact ⟨ret_b (by rw [H.out]), rfl⟩


/-- The contacts before each second. -/
def manyM (l : List Int) (a : Int) (k : Nat) : Int := cntLt l (a + 1000 * (k : Int))
theorem manyM_rise (l : List Int) (a : Int) (n : Nat) : Rise n (manyM l a) := fun x y hxy _ => by
  unfold manyM cntLt
  have : l.countP (fun z => decide (z < a + 1000 * (x : Int))) ≤ l.countP (fun z => decide (z < a + 1000 * (y : Int))) :=
    List.countP_mono_left fun z _ h => by
      simp only [decide_eq_true_eq] at h ⊢
      omega
  omega
theorem manyF_of {base : Nat} {w : World} {A : Option Addr} {c N : Nat} {M : Nat → Int} (h : IntsFrom base w (.slice A N c) ((List.range N).map M)) (hN : 0 < N) : ∃ gm, A = some ⟨gm, 0, none⟩ ∧ base ≤ gm ∧ ManyF w gm N M := by
  rcases h.2 with ⟨h1, h2⟩ | ⟨g, cap, cur, h1, h2, h3, h4, h5, h6, h7⟩
  · simp at h2
    omega
  · injection h1 with e1 e2 e3
    refine ⟨g, e1, h2, cur, h3, fun k hk => ?_⟩
    have hl : ((List.range N).map M).length = N := by simp
    have h8 : (cur.toList.take (((List.range N).map M).length * 1))[k]? = (((List.range N).map M).map (Value.int .i64))[k]? := by rw [h7]
    rw [hl, Nat.mul_one, List.getElem?_take_of_lt hk, Array.getElem?_toList] at h8
    rw [h8]
    simp [hk]
theorem ints_off {base b : Nat} {w w' : World} {v : Value} {l : List Int} (h : IntsFrom base w v l) (hg : w.grownBy w' (some b)) (hb : v.ownBlock ≠ some b) : IntsFrom base w' v l := by
  refine ⟨h.1, ?_⟩
  rcases h.2 with h0 | ⟨g, cap, cur, h1, h2, h3, h4⟩
  · exact .inl h0
  · refine .inr ⟨g, cap, cur, h1, h2, ?_, h4⟩
    rw [hg.block g (Array.getElem?_eq_some_iff.1 h3).1 (fun e => hb (by rw [h1]; exact e))]
    exact h3
theorem range_snocM (f : Nat → Int) (k : Nat) : (List.range (k + 1)).map f = (List.range k).map f ++ [f k] := by rw [List.range_succ, List.map_append]; rfl
def scaleW (a : Int) (l : List (Nat × Nat)) : List (Int × Int) := l.map fun p => (a + (p.1 : Int) * 1000, a + (p.2 : Int) * 1000)
theorem winW_bd {n L : Nat} : ∀ {l : List (Nat × Nat)} {t : Nat}, WinW n L t l → ∀ p ∈ l, p.1 ≤ n ∧ p.2 ≤ n
  | [], _, _, p, hp => by simp at hp
  | (x, y) :: r, t, h, p, hp => by
    obtain ⟨h1, h2, h3, h4⟩ := h
    rcases List.mem_cons.1 hp with rfl | hp
    · exact ⟨by simp only; omega, h3⟩
    · exact winW_bd h4 p hp
/-- The windows of which the first so many are scaled. -/
def mixW (a : Int) (W : List (Nat × Nat)) (k : Nat) : List (Int × Int) := (scaleW a W).take k ++ (winsI W).drop k
theorem mixW_len (a : Int) (W : List (Nat × Nat)) (k : Nat) (hk : k ≤ W.length) : (mixW a W k).length = W.length := by
  unfold mixW scaleW winsI
  simp
  omega
theorem mixW_at (a : Int) (W : List (Nat × Nat)) (k : Nat) (hk : k < W.length) : (mixW a W k)[k]'(by rw [mixW_len a W k (by omega)]; exact hk) = ((W[k].1 : Int), (W[k].2 : Int)) := by
  unfold mixW scaleW winsI
  have hm : min k W.length = k := by omega
  rw [List.getElem_append_right (by simp; omega)]
  simp [hm]
theorem mixW_set (a : Int) (W : List (Nat × Nat)) (k : Nat) (hk : k < W.length) : (mixW a W k).set k (a + (W[k].1 : Int) * 1000, a + (W[k].2 : Int) * 1000) = mixW a W (k + 1) := by
  unfold mixW
  have h1 : k < (scaleW a W).length := by simp [scaleW, hk]
  have h2 : k < (winsI W).length := by simp [winsI, hk]
  have h3 : ((scaleW a W).take k).length = k := by simp; omega
  rw [List.set_append_right _ _ (by omega), h3, Nat.sub_self, List.drop_eq_getElem_cons h2, List.set_cons_zero, List.take_succ_eq_append_getElem h1, List.append_assoc]
  simp [scaleW]
theorem wcells_setM (l : List (Int × Int)) (k : Nat) (x y : Int) : ((wcells l).set (k * 2) (.int .i64 x)).set (k * 2 + 1) (.int .i64 y) = wcells (l.set k (x, y)) := by
  induction l generalizing k with
  | nil => simp [wcells]
  | cons p r ih =>
    have e : wcells (p :: r) = .int .i64 p.1 :: .int .i64 p.2 :: wcells r := rfl
    cases k with
    | zero => rw [e]; rfl
    | succ k =>
      rw [e, show (k + 1) * 2 = k * 2 + 1 + 1 by omega]
      simp only [List.set_cons_succ]
      rw [ih k]; rfl
theorem wins_put {base g n c : Nat} {w : World} {l : List (Int × Int)} (h : w.ownsRow base 27 2 (.slice (some ⟨g, 0, none⟩) n c) n (wcells l)) (k : Nat) (x y : Int) :
    ((w.setCell ⟨g, k * 2, none⟩ (.int .i64 x)).setCell ⟨g, k * 2 + 1, none⟩ (.int .i64 y)).ownsRow base 27 2 (.slice (some ⟨g, 0, none⟩) n c) n (wcells (l.set k (x, y))) ∧ w.grownBy ((w.setCell ⟨g, k * 2, none⟩ (.int .i64 x)).setCell ⟨g, k * 2 + 1, none⟩ (.int .i64 y)) (some g) := by
  have h1 := World.ownsRow.stored h (k * 2) (.int .i64 x)
  have h2 := World.ownsRow.stored h1.1 (k * 2 + 1) (.int .i64 y)
  rw [wcells_setM] at h2
  exact ⟨h2.1, gr_trans h1.2 h2.2⟩
theorem cell_stay {w w' : World} {row : Option Nat} {g i : Nat} {v : Value} (h : w.cell? ⟨g, i, none⟩ = some v) (hg : w.grownBy w' row) (hr : some g ≠ row) : w'.cell? ⟨g, i, none⟩ = some v := by
  have hlt : g < w.heap.size := by
    rcases Nat.lt_or_ge g w.heap.size with h1 | h1
    · exact h1
    · have h2 : w.heap[g]? = none := Array.getElem?_eq_none h1
      simp [World.cell?, h2] at h
  rw [World.cell?_of_block (hg.block g hlt hr)]
  exact h
theorem cell_low {w : World} {g i : Nat} {v : Value} (h : w.cell? ⟨g, i, none⟩ = some v) : g < w.heap.size := by
  rcases Nat.lt_or_ge g w.heap.size with h1 | h1
  · exact h1
  · have h2 : w.heap[g]? = none := Array.getElem?_eq_none h1
    simp [World.cell?, h2] at h
theorem mixW_all (a : Int) (W : List (Nat × Nat)) : mixW a W W.length = scaleW a W := by
  unfold mixW
  rw [List.take_of_length_le (by simp [scaleW]), List.drop_eq_nil_of_le (by simp [winsI]), List.append_nil]
def CheapPost (n L need : Nat) (a : Int) (M : Nat → Int) (w : World) (r : Ending) (w' : World) : Prop :=
  (bstTo n L M need (n + 1 - need) = -1 ∧ r = .returned (.tuple #[.slice none 0 0, .int .i64 0, .bool false, .int .i64 0]) ∧ w.grownBy w' none) ∨
  ∃ (u : Value) (best : Nat), bstTo n L M need (n + 1 - need) = (best : Int) ∧ r = .returned (.tuple #[u, .int .i64 (outT n L M 0 best).1, .bool true, .int .i64 0]) ∧ WinsFrom w.heap.size w' u (scaleW a (winsT n L M (n + 2) 0 best)) ∧ w.grownBy w' none
set_option maxRecDepth 100000 in
set_option maxHeartbeats 16000000 in
theorem cheapest_ok (base : Nat) (v : Value) (l : List Int) (a z nd ls : Int) (n L need : Nat) (w : World) (hl : IntsFrom base w v l) (hE : needE l a z nd ls = 0) (hT : timesE l a z = 0)
    (hz : z = a + 1000 * (n : Int)) (hnd : nd = 1000 * (need : Int)) (hls : ls = 1000 * (L : Int)) (ha : remM a = false) (hn0 : 0 < n) (hn : n ≤ 400) (hL : 0 < L) (hL2 : L ≤ 86400) (hnn : need ≤ n) :
    Calls Try.prog 14 #[v, .agg #[.int .i64 a, .int .i64 z], .agg #[.int .i64 nd, .int .i64 ls]] w (CheapPost n L need a (manyM l a) w) := by
  have O := timesE_ok hT
  have ha0 := O.a0
  have hzt := O.to_
  have hll := O.len
  obtain ⟨i0, hi, hz0, hz1, hz2⟩ := info_parts intInfo
  have HO := Lib.hid O
  have hrem : [a, z, nd, ls].any remM = false := by
    have h1 : ∀ y : Int, 0 ≤ y → y % 1000 = 0 → remM y = false := fun y h0 h1 => by unfold remM; rw [Int.tmod_eq_emod_of_nonneg h0, h1]; rfl
    have h2 : a % 1000 = 0 := by unfold remM at ha; rw [Int.tmod_eq_emod_of_nonneg ha0] at ha; simpa using ha
    simp only [List.any_cons, List.any_nil, Bool.or_false]
    rw [ha, h1 z (by omega) (by omega), h1 nd (by omega) (by omega), h1 ls (by omega) (by omega)]
    rfl
  have HB1 := Lib.hid (show IntKind.i64.wrap (ls.tdiv 1000) = (L : Int) by rw [show ls.tdiv 1000 = (L : Int) by rw [Int.tdiv_eq_ediv_of_nonneg (by omega)]; omega]; rw [IntKind.wrap_i64]; omega)
  have HB2 := Lib.hid (show IntKind.i64.wrap (nd.tdiv 1000) = (need : Int) by rw [show nd.tdiv 1000 = (need : Int) by rw [Int.tdiv_eq_ediv_of_nonneg (by omega)]; omega]; rw [IntKind.wrap_i64]; omega)
  have HNF := Lib.hid (fun W (h : IntsFrom base W v l) => needFault_any base v l a z nd ls W h (by omega) (by omega))
  rw [hE] at HNF
  have hsub : IntKind.i64.wrap (z - a) = z - a := by rw [IntKind.wrap_i64]; omega
  have h400 : ¬ (400000 : Int) < z - a := by omega
  have HHR : Hid (∀ W g, Blk W g 3 #[.int .i64 a, .int .i64 z, .int .i64 nd, .int .i64 ls] → Calls Try.prog 32 #[.slice (some ⟨g, 0, none⟩) 4 4, .func (.func 33) #[] #[]] W fun r w' => r = .returned (.bool false) ∧ W = w') := fun W g h => by
    have h2 := hasRem 0 (.slice (some ⟨g, 0, none⟩) 4 4) [a, z, nd, ls] W ⟨by simp, .inr ⟨g, 4, _, rfl, Nat.zero_le _, h, Nat.le_refl _, by unfold maxLen; omega, by simp, rfl⟩⟩
    rw [hrem] at h2
    exact h2
  have hx := (Blk.new w 27 #[.int .i64 a, .int .i64 z]).alloc (.cells #[.int .i64 nd, .int .i64 ls] 32)
  have hy := Blk.new (w.alloc (.cells #[.int .i64 a, .int .i64 z] 27)) 32 #[.int .i64 nd, .int .i64 ls]
  rw [World.size_alloc] at hy
  have hG := gr_alloc (World.grownBy_alloc w (.cells #[.int .i64 a, .int .i64 z] 27) none) (.cells #[.int .i64 nd, .int .i64 ls] 32)
  have hl2 := hl.grown hG
  have hab : a ≤ 345686400000 := by omega
  have HVB : Hid (∀ g, v.ownBlock = some g → g < w.heap.size) := fun g e => (World.ownsRow.lt hl g e).2
  have HZ := Lib.hid hz
  have HND := Lib.hid hnd
  have HLS := Lib.hid hls
  clear hrem O hE hT hl hz hnd hls ha
  go_enter Try.func14, Try.ntmps14
  go_upto_region 1 with fail
  generalize (w.alloc (.cells #[.int .i64 a, .int .i64 z] 27)).alloc (.cells #[.int .i64 nd, .int .i64 ls] 32) = W2 at *
  obtain ⟨x0, x1⟩ := hx.cells2
  obtain ⟨y0, y1⟩ := hy.cells2
  go_wp2_with fail
  refine (HNF.out _ hl2).mono ?_
  rintro _ w3 ⟨rfl, hg3⟩
  have hG3 := gr_trans hG hg3
  have hl3 := hl2.grown hg3
  have hx3 := hx.grown hg3 (by simp)
  have hy3 := hy.grown hg3 (by simp)
  clear hG hg3 hl2 hx hy x0 x1 y0 y1 HNF
  obtain ⟨x0, x1⟩ := hx3.cells2
  obtain ⟨y0, y1⟩ := hy3.cells2
  go_wp2_with fail
  have hB4 := Blk.new w3 3 #[.int .i64 a, .int .i64 z, .int .i64 nd, .int .i64 ls]
  refine (HHR.out _ _ hB4).mono ?_
  rintro _ _ ⟨rfl, rfl⟩
  have hg4 := World.grownBy_alloc w3 (.cells #[.int .i64 a, .int .i64 z, .int .i64 nd, .int .i64 ls] 3) none
  have hG4 := gr_trans hG3 hg4
  have hl4 := hl3.grown hg4
  have hx4 := hx3.grown hg4 (by simp)
  have hy4 := hy3.grown hg4 (by simp)
  clear hB4 hG3 hg4 hl3 hx3 hy3 x0 x1 y0 y1 HHR
  generalize w3.alloc (.cells #[.int .i64 a, .int .i64 z, .int .i64 nd, .int .i64 ls] 3) = W4 at *
  obtain ⟨x0, x1⟩ := hx4.cells2
  obtain ⟨y0, y1⟩ := hy4.cells2
  have hdiv := HB1.out
  go_upto_region 9 with fail
  have hPB := Blk.new W4 71 #[.slice none 0 0, .int .i64 L, .slice none 0 0, .slice none 0 0]
  have hg5 := World.grownBy_alloc W4 (.cells #[.slice none 0 0, .int .i64 L, .slice none 0 0, .slice none 0 0] 71) none
  have hG5 := gr_trans hG4 hg5
  have hl5 := hl4.grown hg5
  have hx5 := hx4.grown hg5 (by simp)
  have hy5 := hy4.grown hg5 (by simp)
  have hs5 : (W4.alloc (.cells #[.slice none 0 0, .int .i64 L, .slice none 0 0, .slice none 0 0] 71)).heap.size = W4.heap.size + 1 := by simp
  have hlx := hx4.lt
  have hly := hy4.lt
  have HGW4 := Lib.hid hG4.size
  clear hG4 hg5 hl4 hx4 hy4 x0 x1 y0 y1 hdiv
  generalize W4.alloc (.cells #[.slice none 0 0, .int .i64 L, .slice none 0 0, .slice none 0 0] 71) = W5 at *
  obtain ⟨pB, hpB⟩ : ∃ p, W4.heap.size = p := ⟨_, rfl⟩
  rw [hpB] at hPB hs5 hlx hly ⊢
  have HPB := Lib.hid hpB
  clear hpB
  obtain ⟨x0, x1⟩ := hx5.cells2
  obtain ⟨y0, y1⟩ := hy5.cells2
  have hwp : w.heap.size ≤ pB := by have := hG5.size; have := HGW4.out; have := HPB.out; omega
  go_wp2_with fail
  go_loopw [12] (fun tv wr => ∃ (k : Nat) (tt : Int), k ≤ n + 1 ∧ tv = .int .i64 tt ∧ Hid (tt = a + 1000 * (k : Int)) ∧ 0 ≤ tt ∧ tt ≤ 345686401000 ∧ (∃ mv : Value, Blk wr pB 71 #[mv, .int .i64 L, .slice none 0 0, .slice none 0 0] ∧ IntsFrom (pB + 1) wr mv ((List.range k).map (manyM l a))) ∧ W5.grownBy wr (some pB)) (fun tv _ => (z + 1 - intOf tv).toNat)
  case atStart => exact ⟨0, a, by omega, rfl, (show a = a + 1000 * ((0 : Nat) : Int) by omega), ha0, by omega, ⟨_, hPB, IntsFrom.nil _ _⟩, gr_refl _ _⟩
  case round =>
    obtain ⟨k, tt, hk, rfl, HTT, ht0, ht1, ⟨mv, hPr, hmv⟩, hgr⟩ := hrel
    have hxr := hx5.grown hgr (by simp; omega)
    obtain ⟨x0, x1⟩ := hxr.cells2
    obtain ⟨A2, c2, rfl, hlen2, hsh⟩ := hmv.shape
    have hkl : ((List.range k).map (manyM l a)).length = k := by simp
    rw [hkl] at hPr hmv hsh hlen2
    by_cases hlt : k ≤ n
    · have htz : tt ≤ z := by have := HTT.out; have := HZ.out; omega
      have hwt : IntKind.i64.wrap (tt + 1000) = tt + 1000 := by rw [IntKind.wrap_i64]; omega
      have hlr := ints_off hl5 hgr (fun e => by have := HVB.out pB e; omega)
      obtain ⟨q, hq⟩ : ∃ q, cntLt l tt = q := ⟨_, rfl⟩
      have HQ := Lib.hid hq
      have HS : Hid ((List.range (k + 1)).map (manyM l a) = (List.range k).map (manyM l a) ++ [q]) := by
        show _ = _
        rw [range_snocM, ← hq]
        unfold manyM
        rw [HTT.out]
      have HTT2 : Hid (tt + 1000 = a + 1000 * ((k + 1 : Nat) : Int)) := by show _ = _; have := HTT.out; omega
      have hownA : wr.ownsRow (pB + 1) 3 1 (.slice A2 k c2) k (((List.range k).map (manyM l a)).map (Value.int .i64)) := by
        have h := hmv
        unfold IntsFrom at h
        rwa [hkl] at h
      have HOW := Lib.hid hownA
      have hszr := hgr.size
      have p0 := hPr.cell 0
      have hnb : some pB ≠ (Value.slice A2 k c2).ownBlock := fun e => by have := (hownA.lt pB e.symm).1; omega
      clear hsh hq hmv hkl
      go_upto_region 12 with fail
      have HBF := Lib.hid (before_any base v l tt wr.drew (show IntsFrom base _ v l from hlr) HO.out.sorted (by omega))
      refine wp_region_held_drew (S := fun _ => True) (by kernel_rfl) trivial (fun hHeld => ?_)
      refine wpAnyH_take (i := 0) (v := ?_) rfl (by kernel_rfl) (by kernel_rfl) (by kernel_rfl) (fun _ _ _ h => h) (Or.inl ⟨by kernel_rfl, ?_⟩) hHeld ?_
      rotate_left
      · intro w hSw
        (try dsimp only at hSw)
        go_simp
        (try with_reducible rfl)
      change wpAnyH _ _ _ _ _ _ _ (Act.put _ (some 55) _) _
      simp only [Act.put, List.setIfInBounds_toArray, List.set_cons_zero, List.set_cons_succ]
      refine wpAnyH_take (i := 1) (v := ?_) rfl (by kernel_rfl) (by kernel_rfl) (by kernel_rfl) (fun _ _ _ h => h) (Or.inl ⟨by kernel_rfl, ?_⟩) hHeld ?_
      rotate_left
      · intro w hSw
        (try dsimp only at hSw)
        go_simp
        (try with_reducible rfl)
      change wpAnyH _ _ _ _ _ _ _ (Act.put _ (some 56) _) _
      simp only [Act.put, List.setIfInBounds_toArray, List.set_cons_zero, List.set_cons_succ]
      refine wpAnyH_take (i := 2) (v := ?_) rfl (by kernel_rfl) (by kernel_rfl) (by kernel_rfl) (fun _ _ _ h => h) (Or.inl ⟨by kernel_rfl, ?_⟩) hHeld ?_
      rotate_left
      · intro w hSw
        (try dsimp only at hSw)
        go_simp
        (try with_reducible rfl)
      change wpAnyH _ _ _ _ _ _ _ (Act.put _ (some 57) _) _
      simp only [Act.put, List.setIfInBounds_toArray, List.set_cons_zero, List.set_cons_succ]
      refine wpAnyH_take (i := 3) (v := ?_) rfl (by kernel_rfl) (by kernel_rfl) (by kernel_rfl) (fun _ _ _ h => h) (Or.inl ⟨by kernel_rfl, ?_⟩) hHeld ?_
      rotate_left
      · intro w hSw
        (try dsimp only at hSw)
        go_simp
        (try with_reducible rfl)
      change wpAnyH _ _ _ _ _ _ _ (Act.put _ (some 58) _) _
      simp only [Act.put, List.setIfInBounds_toArray, List.set_cons_zero, List.set_cons_succ]
      refine wpAnyH_take (i := 5) (v := ?_) rfl (by kernel_rfl) (by kernel_rfl) (by kernel_rfl) (fun _ _ _ h => h) (Or.inl ⟨by kernel_rfl, ?_⟩) hHeld ?_
      rotate_left
      · intro w hSw
        (try dsimp only at hSw)
        go_simp
        (try with_reducible rfl)
      change wpAnyH _ _ _ _ _ _ _ (Act.put _ (some 60) _) _
      simp only [Act.put, List.setIfInBounds_toArray, List.set_cons_zero, List.set_cons_succ]
      refine wpAnyH_take (i := 6) (v := ?_) rfl (by kernel_rfl) (by kernel_rfl) (by kernel_rfl) (fun _ _ _ h => h) (Or.inl ⟨by kernel_rfl, ?_⟩) hHeld ?_
      rotate_left
      · intro w hSw
        (try dsimp only at hSw)
        go_simp
        (try with_reducible rfl)
      change wpAnyH _ _ _ _ _ _ _ (Act.put _ (some 61) _) _
      simp only [Act.put, List.setIfInBounds_toArray, List.set_cons_zero, List.set_cons_succ]
      refine wpAnyH_ready (rs := [4, 7]) (by kernel_rfl) (by simp) ?_
      refine AllReadyH.cons (o := _) rfl (fun K hK => ?_) (AllReadyH.cons (o := _) rfl (fun K hK => ?_) AllReadyH.nil)
      · (try have p0a := ((hPr.drewN (1 + mq)).alloc (.cells #[.int .i64 q] 3)).cell 0)
        go_simp
        refine hK.out _ _ trivial (fun hHeld4 => ?_)
        clear hK K
        (try simp only [Act.put, List.setIfInBounds_toArray, List.set_cons_zero, List.set_cons_succ])
        refine wpAnyH_ready (rs := [7]) (by kernel_rfl) (by simp) ?_
        refine AllReadyH.cons (o := _) rfl (fun K hK => ?_) AllReadyH.nil
        · go_simp
          (go_at_call 34; refine HBF.out.mono ?_; rintro _ _ ⟨rfl, mq, rfl⟩; rw [HQ.out])
          refine hK.out _ _ trivial (fun hHeld7 => ?_)
          clear hK K
          (try simp only [Act.put, List.setIfInBounds_toArray, List.set_cons_zero, List.set_cons_succ])
          refine wpAnyH_ready (rs := [8]) (by kernel_rfl) (by simp) ?_
          refine AllReadyH.cons (o := _) rfl (fun K hK => ?_) AllReadyH.nil
          · go_simp
            refine hK.out _ _ trivial (fun hHeld8 => ?_)
            clear hK K
            (try simp only [Act.put, List.setIfInBounds_toArray, List.set_cons_zero, List.set_cons_succ])
            refine wpAnyH_ready (rs := [9]) (by kernel_rfl) (by simp) ?_
            refine AllReadyH.cons (o := _) rfl (fun K hK => ?_) AllReadyH.nil
            · refine step_append_lies _ (by rfl) (.tmp 59) (.tmp 63) 22 (by rfl) (pB + 1) 3 i0 _ 1 8 Try.underlying22 hi hz0 hz1 hz2 rfl (by decide) _ k _ (by simp [Act.eval]) (World.ownsRow.alloc (show World.ownsRow _ (pB + 1) 3 1 _ k _ from HOW.out) _) ⟨_, 0, none⟩ 1 1 [.int .i64 q] (by simp [Act.eval]) rfl (one_cell _ q _) (one_oneCell q) (by decide) (by unfold maxLen; omega) (by omega) (by simp; omega) _ rfl ?_
              intro g cap w9 hownB hgrB hat hglt
              have hP9 := Blk.grown ((hPr.drewN (1 + mq)).alloc (.cells #[.int .i64 q] 3)) hgrB hnb
              have hf9 := hP9.free
              have hl9 := hP9.lt
              have c9 := hP9.cell 0
              refine hK.out _ _ trivial (fun hHeld9 => ?_)
              clear hK K
              (try simp only [Act.put, List.setIfInBounds_toArray, List.set_cons_zero, List.set_cons_succ])
              refine wpAnyH_take (i := 10) (v := ?_) rfl (by kernel_rfl) (by kernel_rfl) (by kernel_rfl) (fun _ _ _ h => h) (Or.inl ⟨by kernel_rfl, ?_⟩) hHeld9 ?_
              rotate_left
              · intro w hSw
                (try dsimp only at hSw)
                go_simp
                (try with_reducible rfl)
              change wpAnyH _ _ _ _ _ _ _ (Act.put _ (some 65) _) _
              simp only [Act.put, List.setIfInBounds_toArray, List.set_cons_zero, List.set_cons_succ]
              refine wpAnyH_take (i := 11) (v := ?_) rfl (by kernel_rfl) (by kernel_rfl) (by kernel_rfl) (fun _ _ _ h => h) (Or.inl ⟨by kernel_rfl, ?_⟩) hHeld9 ?_
              rotate_left
              · intro w hSw
                (try dsimp only at hSw)
                go_simp
                (try with_reducible rfl)
              change wpAnyH _ _ _ _ _ _ _ (Act.put _ (some 66) _) _
              simp only [Act.put, List.setIfInBounds_toArray, List.set_cons_zero, List.set_cons_succ]
              refine wpAnyH_ready (rs := [12]) (by kernel_rfl) (by simp) ?_
              refine AllReadyH.cons (o := _) rfl (fun K hK => ?_) AllReadyH.nil
              · go_simp
                refine hK.out _ _ trivial (fun hHeld12 => ?_)
                clear hK K
                (try simp only [Act.put, List.setIfInBounds_toArray, List.set_cons_zero, List.set_cons_succ])
                refine wpAnyH_done (by kernel_rfl) ?_ _
                have hm9 : IntsFrom (pB + 1) w9 (.slice (some ⟨g, 0, none⟩) (k + 1) cap) ((List.range (k + 1)).map (manyM l a)) := by
                  unfold IntsFrom
                  rw [HS.out, List.map_append, List.length_append]
                  simpa using hownB
                have hP10 := hP9.put 0 (.slice (some ⟨g, 0, none⟩) (k + 1) cap)
                simp only [List.setIfInBounds_toArray, List.set_cons_zero] at hP10
                have hgq : W5.grownBy w9 (some pB) := gr_grown (gr_alloc (gr_drewN hgr (1 + mq)) _) hgrB (fun kk h => .inr (by have := (HOW.out.lt kk h).1; omega))
                have hgp := gr_put (p := (⟨pB, 0, none⟩ : Addr)) hgq (.inl rfl) (.slice (some ⟨g, 0, none⟩) (k + 1) cap)
                have hgpp := gr_put (p := (⟨pB, 0, none⟩ : Addr)) (gr_refl w9 (some pB)) (.inl rfl) (.slice (some ⟨g, 0, none⟩) (k + 1) cap)
                have hm10 := ints_off hm9 hgpp (fun e => by have := (hownB.lt pB e).1; omega)
                go_wp2_with fail
                go_roundw
                case rel => exact ⟨k + 1, tt + 1000, by omega, by first | rfl | go_num, HTT2, by omega, by omega, ⟨_, hP10, hm10⟩, hgp⟩
                case measure => simp [intOf]; omega
      · go_simp
        (go_at_call 34; refine HBF.out.mono ?_; rintro _ _ ⟨rfl, mq, rfl⟩; rw [HQ.out])
        refine hK.out _ _ trivial (fun hHeld7 => ?_)
        clear hK K
        (try simp only [Act.put, List.setIfInBounds_toArray, List.set_cons_zero, List.set_cons_succ])
        refine wpAnyH_ready (rs := [4, 8]) (by kernel_rfl) (by simp) ?_
        refine AllReadyH.cons (o := _) rfl (fun K hK => ?_) (AllReadyH.cons (o := _) rfl (fun K hK => ?_) AllReadyH.nil)
        · (try have p0a := ((hPr.drewN (1 + mq)).alloc (.cells #[.int .i64 q] 3)).cell 0)
          go_simp
          refine hK.out _ _ trivial (fun hHeld4 => ?_)
          clear hK K
          (try simp only [Act.put, List.setIfInBounds_toArray, List.set_cons_zero, List.set_cons_succ])
          refine wpAnyH_ready (rs := [8]) (by kernel_rfl) (by simp) ?_
          refine AllReadyH.cons (o := _) rfl (fun K hK => ?_) AllReadyH.nil
          · go_simp
            refine hK.out _ _ trivial (fun hHeld8 => ?_)
            clear hK K
            (try simp only [Act.put, List.setIfInBounds_toArray, List.set_cons_zero, List.set_cons_succ])
            refine wpAnyH_ready (rs := [9]) (by kernel_rfl) (by simp) ?_
            refine AllReadyH.cons (o := _) rfl (fun K hK => ?_) AllReadyH.nil
            · refine step_append_lies _ (by rfl) (.tmp 59) (.tmp 63) 22 (by rfl) (pB + 1) 3 i0 _ 1 8 Try.underlying22 hi hz0 hz1 hz2 rfl (by decide) _ k _ (by simp [Act.eval]) (World.ownsRow.alloc (show World.ownsRow _ (pB + 1) 3 1 _ k _ from HOW.out) _) ⟨_, 0, none⟩ 1 1 [.int .i64 q] (by simp [Act.eval]) rfl (one_cell _ q _) (one_oneCell q) (by decide) (by unfold maxLen; omega) (by omega) (by simp; omega) _ rfl ?_
              intro g cap w9 hownB hgrB hat hglt
              have hP9 := Blk.grown ((hPr.drewN (1 + mq)).alloc (.cells #[.int .i64 q] 3)) hgrB hnb
              have hf9 := hP9.free
              have hl9 := hP9.lt
              have c9 := hP9.cell 0
              refine hK.out _ _ trivial (fun hHeld9 => ?_)
              clear hK K
              (try simp only [Act.put, List.setIfInBounds_toArray, List.set_cons_zero, List.set_cons_succ])
              refine wpAnyH_take (i := 10) (v := ?_) rfl (by kernel_rfl) (by kernel_rfl) (by kernel_rfl) (fun _ _ _ h => h) (Or.inl ⟨by kernel_rfl, ?_⟩) hHeld9 ?_
              rotate_left
              · intro w hSw
                (try dsimp only at hSw)
                go_simp
                (try with_reducible rfl)
              change wpAnyH _ _ _ _ _ _ _ (Act.put _ (some 65) _) _
              simp only [Act.put, List.setIfInBounds_toArray, List.set_cons_zero, List.set_cons_succ]
              refine wpAnyH_take (i := 11) (v := ?_) rfl (by kernel_rfl) (by kernel_rfl) (by kernel_rfl) (fun _ _ _ h => h) (Or.inl ⟨by kernel_rfl, ?_⟩) hHeld9 ?_
              rotate_left
              · intro w hSw
                (try dsimp only at hSw)
                go_simp
                (try with_reducible rfl)
              change wpAnyH _ _ _ _ _ _ _ (Act.put _ (some 66) _) _
              simp only [Act.put, List.setIfInBounds_toArray, List.set_cons_zero, List.set_cons_succ]
              refine wpAnyH_ready (rs := [12]) (by kernel_rfl) (by simp) ?_
              refine AllReadyH.cons (o := _) rfl (fun K hK => ?_) AllReadyH.nil
              · go_simp
                refine hK.out _ _ trivial (fun hHeld12 => ?_)
                clear hK K
                (try simp only [Act.put, List.setIfInBounds_toArray, List.set_cons_zero, List.set_cons_succ])
                refine wpAnyH_done (by kernel_rfl) ?_ _
                have hm9 : IntsFrom (pB + 1) w9 (.slice (some ⟨g, 0, none⟩) (k + 1) cap) ((List.range (k + 1)).map (manyM l a)) := by
                  unfold IntsFrom
                  rw [HS.out, List.map_append, List.length_append]
                  simpa using hownB
                have hP10 := hP9.put 0 (.slice (some ⟨g, 0, none⟩) (k + 1) cap)
                simp only [List.setIfInBounds_toArray, List.set_cons_zero] at hP10
                have hgq : W5.grownBy w9 (some pB) := gr_grown (gr_alloc (gr_drewN hgr (1 + mq)) _) hgrB (fun kk h => .inr (by have := (HOW.out.lt kk h).1; omega))
                have hgp := gr_put (p := (⟨pB, 0, none⟩ : Addr)) hgq (.inl rfl) (.slice (some ⟨g, 0, none⟩) (k + 1) cap)
                have hgpp := gr_put (p := (⟨pB, 0, none⟩ : Addr)) (gr_refl w9 (some pB)) (.inl rfl) (.slice (some ⟨g, 0, none⟩) (k + 1) cap)
                have hm10 := ints_off hm9 hgpp (fun e => by have := (hownB.lt pB e).1; omega)
                go_wp2_with fail
                go_roundw
                case rel => exact ⟨k + 1, tt + 1000, by omega, by first | rfl | go_num, HTT2, by omega, by omega, ⟨_, hP10, hm10⟩, hgp⟩
                case measure => simp [intOf]; omega
        · go_simp
          refine hK.out _ _ trivial (fun hHeld8 => ?_)
          clear hK K
          (try simp only [Act.put, List.setIfInBounds_toArray, List.set_cons_zero, List.set_cons_succ])
          refine wpAnyH_ready (rs := [4]) (by kernel_rfl) (by simp) ?_
          refine AllReadyH.cons (o := _) rfl (fun K hK => ?_) AllReadyH.nil
          · (try have p0a := ((hPr.drewN (1 + mq)).alloc (.cells #[.int .i64 q] 3)).cell 0)
            go_simp
            refine hK.out _ _ trivial (fun hHeld4 => ?_)
            clear hK K
            (try simp only [Act.put, List.setIfInBounds_toArray, List.set_cons_zero, List.set_cons_succ])
            refine wpAnyH_ready (rs := [9]) (by kernel_rfl) (by simp) ?_
            refine AllReadyH.cons (o := _) rfl (fun K hK => ?_) AllReadyH.nil
            · refine step_append_lies _ (by rfl) (.tmp 59) (.tmp 63) 22 (by rfl) (pB + 1) 3 i0 _ 1 8 Try.underlying22 hi hz0 hz1 hz2 rfl (by decide) _ k _ (by simp [Act.eval]) (World.ownsRow.alloc (show World.ownsRow _ (pB + 1) 3 1 _ k _ from HOW.out) _) ⟨_, 0, none⟩ 1 1 [.int .i64 q] (by simp [Act.eval]) rfl (one_cell _ q _) (one_oneCell q) (by decide) (by unfold maxLen; omega) (by omega) (by simp; omega) _ rfl ?_
              intro g cap w9 hownB hgrB hat hglt
              have hP9 := Blk.grown ((hPr.drewN (1 + mq)).alloc (.cells #[.int .i64 q] 3)) hgrB hnb
              have hf9 := hP9.free
              have hl9 := hP9.lt
              have c9 := hP9.cell 0
              refine hK.out _ _ trivial (fun hHeld9 => ?_)
              clear hK K
              (try simp only [Act.put, List.setIfInBounds_toArray, List.set_cons_zero, List.set_cons_succ])
              refine wpAnyH_take (i := 10) (v := ?_) rfl (by kernel_rfl) (by kernel_rfl) (by kernel_rfl) (fun _ _ _ h => h) (Or.inl ⟨by kernel_rfl, ?_⟩) hHeld9 ?_
              rotate_left
              · intro w hSw
                (try dsimp only at hSw)
                go_simp
                (try with_reducible rfl)
              change wpAnyH _ _ _ _ _ _ _ (Act.put _ (some 65) _) _
              simp only [Act.put, List.setIfInBounds_toArray, List.set_cons_zero, List.set_cons_succ]
              refine wpAnyH_take (i := 11) (v := ?_) rfl (by kernel_rfl) (by kernel_rfl) (by kernel_rfl) (fun _ _ _ h => h) (Or.inl ⟨by kernel_rfl, ?_⟩) hHeld9 ?_
              rotate_left
              · intro w hSw
                (try dsimp only at hSw)
                go_simp
                (try with_reducible rfl)
              change wpAnyH _ _ _ _ _ _ _ (Act.put _ (some 66) _) _
              simp only [Act.put, List.setIfInBounds_toArray, List.set_cons_zero, List.set_cons_succ]
              refine wpAnyH_ready (rs := [12]) (by kernel_rfl) (by simp) ?_
              refine AllReadyH.cons (o := _) rfl (fun K hK => ?_) AllReadyH.nil
              · go_simp
                refine hK.out _ _ trivial (fun hHeld12 => ?_)
                clear hK K
                (try simp only [Act.put, List.setIfInBounds_toArray, List.set_cons_zero, List.set_cons_succ])
                refine wpAnyH_done (by kernel_rfl) ?_ _
                have hm9 : IntsFrom (pB + 1) w9 (.slice (some ⟨g, 0, none⟩) (k + 1) cap) ((List.range (k + 1)).map (manyM l a)) := by
                  unfold IntsFrom
                  rw [HS.out, List.map_append, List.length_append]
                  simpa using hownB
                have hP10 := hP9.put 0 (.slice (some ⟨g, 0, none⟩) (k + 1) cap)
                simp only [List.setIfInBounds_toArray, List.set_cons_zero] at hP10
                have hgq : W5.grownBy w9 (some pB) := gr_grown (gr_alloc (gr_drewN hgr (1 + mq)) _) hgrB (fun kk h => .inr (by have := (HOW.out.lt kk h).1; omega))
                have hgp := gr_put (p := (⟨pB, 0, none⟩ : Addr)) hgq (.inl rfl) (.slice (some ⟨g, 0, none⟩) (k + 1) cap)
                have hgpp := gr_put (p := (⟨pB, 0, none⟩ : Addr)) (gr_refl w9 (some pB)) (.inl rfl) (.slice (some ⟨g, 0, none⟩) (k + 1) cap)
                have hm10 := ints_off hm9 hgpp (fun e => by have := (hownB.lt pB e).1; omega)
                go_wp2_with fail
                go_roundw
                case rel => exact ⟨k + 1, tt + 1000, by omega, by first | rfl | go_num, HTT2, by omega, by omega, ⟨_, hP10, hm10⟩, hgp⟩
                case measure => simp [intOf]; omega
    · have hk1 : k = n + 1 := by omega
      have htz : ¬ tt ≤ z := by have := HTT.out; have := HZ.out; omega
      subst hk1
      obtain ⟨gm, rfl, hgm, hmF⟩ := manyF_of (M := manyM l a) hmv (by omega)
      have hpm : pB ≠ gm := by omega
      have hMb : ∀ j, j < n + 1 → 0 ≤ manyM l a j ∧ manyM l a j ≤ 2000 := fun j _ => by
        have := cntLt_bd l (a + 1000 * (j : Int))
        unfold manyM
        omega
      have HFI := Lib.hid (fill_ok pB gm c2 (n + 1) n L (manyM l a) wr hPr hmF hpm rfl (by omega) hL (by omega) (manyM_rise l a n) hMb)
      have HMB := Lib.hid hMb
      clear hsh hmv hkl hMb hlen2
      go_wp2_with fail
      refine HFI.out.mono ?_
      rintro _ w6 ⟨rfl, gO, gI, S, hP6, hTO, hTI, hg6⟩
      have hPA : PlanAt w6 pB gm c2 gO gI (n + 1) n L S (manyM l a) := ⟨hP6, hmF.grown hg6 (by simp; exact fun e => hpm e.symm), hTO, hTI⟩
      have hgr6 := gr_trans hgr hg6
      have hx6 := hx5.grown hgr6 (by simp; omega)
      have hy6 := hy5.grown hgr6 (by simp; omega)
      clear hP6 hTO hTI hg6 hgr hPr hmF HFI hxr x0 x1
      obtain ⟨x0, x1⟩ := hx6.cells2
      obtain ⟨y0, y1⟩ := hy6.cells2
      have hdiv2 := HB2.out
      have HLG := Lib.hid (long_ok pB gm (n + 1) c2 n w6 (hPA.pl.cell 0) rfl (by omega))
      obtain ⟨g0, k0, k1⟩ := hPA.tbo.at_ 0 (Nat.le_refl _) (by omega)
      have KK : Hid (∀ q, q < n + 1 → w6.cell? ⟨g0, q * 2, none⟩ = some (.int .i64 (outT n L (manyM l a) 0 q).1)) := fun q hq => (k1 q hq).1
      have p2 := hPA.pl.cell 2
      clear k1
      go_wp2_with fail
      go_loopw [13, 14] (fun bv lv wr => ∃ (j : Nat) (b : Int), j ≤ n + 1 - need ∧ lv = .int .i64 ((need + j : Nat) : Int) ∧ bv = .int .i64 b ∧ -1 ≤ b ∧ b ≤ n ∧ Hid (bstTo n L (manyM l a) need j = b) ∧ wr = w6) (fun _ lv _ => n + 1 - (intOf lv).toNat)
      case atStart => exact ⟨0, -1, by omega, rfl, rfl, by omega, by omega, rfl, rfl⟩
      case round =>
        obtain ⟨j, b, hj, rfl, rfl, hb0, hb1, HBT, rfl⟩ := hrel
        obtain ⟨lf, hlf⟩ : ∃ lf, need + j = lf := ⟨_, rfl⟩
        have HLF := Lib.hid hlf
        by_cases hjn : lf ≤ n
        · have hjni : (lf : Int) ≤ (n : Int) := by omega
          have hlN : (lf : Int) < (n : Int) + 1 := by omega
          have hlN2 : lf < n + 1 := by omega
          have kl := KK.out lf hlN2
          obtain ⟨c, hc⟩ : ∃ c, (outT n L (manyM l a) 0 lf).1 = c := ⟨_, rfl⟩
          rw [hc] at kl
          have hst : bstTo n L (manyM l a) need (j + 1) = if c ≤ 2000 ∧ (b < 0 ∨ c < (outT n L (manyM l a) 0 b.toNat).1) then (lf : Int) else b := by
            show bstStep n L (manyM l a) (bstTo n L (manyM l a) need j) (need + j) = _
            unfold bstStep
            rw [HBT.out, hlf, hc]
          have hj1 : j + 1 ≤ n + 1 - need := by omega
          have hl1 : lf + 1 = need + (j + 1) := by omega
          have HJ1 := Lib.hid hl1
          rw [hlf]
          by_cases hcc : c ≤ 2000
          · by_cases hbn : b < 0
            · have HST : Hid (bstTo n L (manyM l a) need (j + 1) = (lf : Int)) := by show _ = _; rw [hst, if_pos ⟨hcc, .inl hbn⟩]
              clear hst hc hl1 hlf
              go_wp2_with fail
              refine HLG.out.mono ?_
              rintro _ _ ⟨rfl, rfl⟩
              go_wp2_with fail
              go_roundw
              case rel => exact ⟨j + 1, lf, hj1, by rw [← HJ1.out]; first | rfl | go_num, rfl, by omega, by omega, HST, trivial⟩
              case measure => simp [intOf]; omega
            · obtain ⟨bn, rfl⟩ : ∃ bn : Nat, b = bn := ⟨b.toNat, by omega⟩
              have hbN : bn < n + 1 := by omega
              have hbNi : (bn : Int) < (n : Int) + 1 := by omega
              have kb := KK.out bn hbN
              rw [Int.toNat_natCast] at hst
              obtain ⟨cb, hcb⟩ : ∃ c, (outT n L (manyM l a) 0 bn).1 = c := ⟨_, rfl⟩
              rw [hcb] at kb hst
              by_cases hcl : c < cb
              · have HST : Hid (bstTo n L (manyM l a) need (j + 1) = (lf : Int)) := by show _ = _; rw [hst, if_pos ⟨hcc, .inr hcl⟩]
                clear hst hc hcb hl1 hlf
                go_wp2_with fail
                refine HLG.out.mono ?_
                rintro _ _ ⟨rfl, rfl⟩
                go_wp2_with fail
                go_roundw
                case rel => exact ⟨j + 1, lf, hj1, by rw [← HJ1.out]; first | rfl | go_num, rfl, by omega, by omega, HST, trivial⟩
                case measure => simp [intOf]; omega
              · have HST : Hid (bstTo n L (manyM l a) need (j + 1) = (bn : Int)) := by show _ = _; rw [hst, if_neg (by omega)]
                clear hst hc hcb hl1 hlf
                go_wp2_with fail
                refine HLG.out.mono ?_
                rintro _ _ ⟨rfl, rfl⟩
                go_wp2_with fail
                go_roundw
                case rel => exact ⟨j + 1, bn, hj1, by rw [← HJ1.out]; first | rfl | go_num, rfl, by omega, by omega, HST, trivial⟩
                case measure => simp [intOf]; omega
          · have HST : Hid (bstTo n L (manyM l a) need (j + 1) = b) := by show _ = _; rw [hst, if_neg (by omega)]
            clear hst hc hl1 hlf
            go_wp2_with fail
            refine HLG.out.mono ?_
            rintro _ _ ⟨rfl, rfl⟩
            go_wp2_with fail
            go_roundw
            case rel => exact ⟨j + 1, b, hj1, by rw [← HJ1.out]; first | rfl | go_num, rfl, by omega, by omega, HST, trivial⟩
            case measure => simp [intOf]; omega
        · have hjni : ¬ (lf : Int) ≤ (n : Int) := by omega
          have hje : j = n + 1 - need := by omega
          rw [hje] at HBT
          rw [hlf]
          clear hlf hje
          go_wp2_with fail
          refine HLG.out.mono ?_
          rintro _ _ ⟨rfl, rfl⟩
          by_cases hbn : b < 0
          · obtain rfl : b = -1 := by omega
            have hGF := gr_grown hG5 hgr6 (fun g e => .inr (by injection e with e; omega))
            go_wp2_with fail
            refine bodyPost_ret (v := .tuple #[.slice none 0 0, .int .i64 0, .bool false, .int .i64 0]) (by simp [results, Try.results14, go_sem]) rfl ?_
            exact .inl ⟨HBT.out, rfl, hGF⟩
          · obtain ⟨bn, rfl⟩ : ∃ bn : Nat, b = bn := ⟨b.toNat, by omega⟩
            have hcan : Can n L (manyM l a) 0 bn := by
              rcases bstTo_ok (n := n) (L := L) (M := manyM l a) need (n + 1 - need) with ⟨h1, _⟩ | ⟨j', h1, h2, h3, _⟩
              · have := HBT.out; omega
              · have h4 : bn = need + j' := by have := HBT.out; omega
                rw [h4]
                exact can_of (Nat.zero_le _) h3
            have HWI := Lib.hid (windows_ok pB gm c2 gO gI (n + 1) n L bn S (manyM l a) _ hPA rfl (by omega) hL (by omega) (manyM_rise l a n) HMB.out hcan (by omega))
            clear hcan
            go_wp2_with fail
            refine HWI.out.mono ?_
            rintro _ w7 ⟨u, rfl, hu, hg7⟩
            have hG6 : w.grownBy wr none := gr_grown hG5 hgr6 (fun g e => .inr (by injection e with e; omega))
            have hG7 := gr_trans hG6 hg7
            have hx7 := hx6.grown hg7 (by simp)
            have hPA7 := hPA.grown hg7
            have hs6 := hG6.size
            have hwok := winsT_ok (M := manyM l a) hL (manyM_rise l a n) (n + 2) 0 bn (by
              rcases bstTo_ok (n := n) (L := L) (M := manyM l a) need (n + 1 - need) with ⟨h1, _⟩ | ⟨j', h1, h2, h3, _⟩
              · have := HBT.out; omega
              · have h4 : bn = need + j' := by have := HBT.out; omega
                rw [h4]
                exact can_of (Nat.zero_le _) h3) (by omega) (by omega)
            have HWB := Lib.hid (winW_bd hwok.1)
            obtain ⟨Wl, hWl⟩ : ∃ W, winsT n L (manyM l a) (n + 2) 0 bn = W := ⟨_, rfl⟩
            rw [hWl] at hu HWB
            have HWL := Lib.hid hWl
            have hmix0 : mixW a Wl 0 = winsI Wl := by unfold mixW; simp
            rw [← hmix0] at hu
            have hu0 : WinsFrom wr.heap.size w7 u (mixW a Wl 0) := hu
            have hxlt := hx6.lt
            clear hwok hWl hmix0 hu hPA hx6 hy6 hG6
            have HU := Lib.hid hu0
            obtain ⟨A3, c3, rfl, hlen3, hsh3⟩ := hu0.shape
            have hml : (mixW a Wl 0).length = Wl.length := mixW_len a Wl 0 (by omega)
            rw [hml] at hsh3 hlen3
            have HSH := Lib.hid hsh3
            have HML := Lib.hid hml
            obtain ⟨B6, hB6⟩ : ∃ B, wr.heap.size = B := ⟨_, rfl⟩
            rw [hB6] at HU HSH hxlt hs6
            have HB6 := Lib.hid hB6
            clear hu0 hsh3 hB6
            go_wp2_with fail
            rw [HML.out] at HU
            have HU0 : Hid (w7.ownsRow B6 27 2 (.slice A3 Wl.length c3) Wl.length (wcells (mixW a Wl 0))) := by
              have h := HU.out
              unfold WinsFrom at h
              rw [HML.out] at h
              exact h
            go_loopw [116] (fun iv wz => ∃ k : Nat, k ≤ Wl.length ∧ iv = .int .i64 k ∧ Hid (wz.ownsRow B6 27 2 (.slice A3 Wl.length c3) Wl.length (wcells (mixW a Wl k))) ∧ w7.grownBy wz (Value.slice A3 Wl.length c3).ownBlock) (fun iv _ => Wl.length - (intOf iv).toNat)
            case atStart => exact ⟨0, by omega, rfl, HU0, gr_refl _ _⟩
            case round =>
              rename World => wz
              obtain ⟨k, hk, rfl, HR, hgz⟩ := hrel
              have hxz := hx7.grown hgz (fun e => by have := (HR.out.lt w.heap.size e.symm).1; omega)
              obtain ⟨x0, x1⟩ := hxz.cells2
              by_cases hlt : k < Wl.length
              · obtain ⟨g3, rfl, hg30, hg31⟩ := HSH.out (by omega)
                have hkl : (k : Int) < (Wl.length : Int) := by omega
                have hml := mixW_len a Wl k (by omega)
                have hat := mixW_at a Wl k hlt
                have hwc := wcells_at (mixW a Wl k) k (by omega)
                rw [hat] at hwc
                have c0 := World.ownsRow.cellAt HR.out (k * 2) (by omega)
                have c1 := World.ownsRow.cellAt HR.out (k * 2 + 1) (by omega)
                rw [hwc.1] at c0
                rw [hwc.2] at c1
                have hbd := HWB.out Wl[k] (List.getElem_mem hlt)
                have hset := mixW_set a Wl k hlt
                generalize Wl[k].1 = f1 at *
                generalize Wl[k].2 = f2 at *
                have m1 : IntKind.i64.wrap ((f1 : Int) * 1000) = (f1 : Int) * 1000 := by rw [IntKind.wrap_i64]; omega
                have m2 : IntKind.i64.wrap ((f2 : Int) * 1000) = (f2 : Int) * 1000 := by rw [IntKind.wrap_i64]; omega
                have m3 : IntKind.i64.wrap (a + (f1 : Int) * 1000) = a + (f1 : Int) * 1000 := by rw [IntKind.wrap_i64]; omega
                have m4 : IntKind.i64.wrap (a + (f2 : Int) * 1000) = a + (f2 : Int) * 1000 := by rw [IntKind.wrap_i64]; omega
                have hfz := World.ownsRow.frozenAt HR.out
                go_upto_region 27 with fail
                have hX := Blk.new wz 27 #[.int .i64 f1, .int .i64 f2]
                have hgX := World.grownBy_alloc wz (.cells #[.int .i64 f1, .int .i64 f2] 27) none
                have HR2 := Lib.hid (World.ownsRow.alloc HR.out (.cells #[.int .i64 f1, .int .i64 f2] 27))
                have hxy := hxz.alloc (.cells #[.int .i64 f1, .int .i64 f2] 27)
                clear hxz x0 x1 c0 c1 hfz
                generalize wz.alloc (.cells #[.int .i64 f1, .int .i64 f2] 27) = wy at *
                generalize wz.heap.size = gz at *
                obtain ⟨x0, x1⟩ := hxy.cells2
                obtain ⟨u0, u1⟩ := hX.cells2
                have hfz := World.ownsRow.frozenAt HR2.out
                have c0 := World.ownsRow.cellAt HR2.out (k * 2) (by omega)
                have c1 := World.ownsRow.cellAt HR2.out (k * 2 + 1) (by omega)
                rw [hwc.1] at c0
                rw [hwc.2] at c1
                go_wp2_with fail
                have hP := wins_put HR2.out k (a + (f1 : Int) * 1000) (a + (f2 : Int) * 1000)
                rw [hset] at hP
                have hgE := gr_trans (gr_trans hgz (gr_weak hgX (some g3))) hP.2
                clear hset hwc hat hml
                go_roundw
                case rel => exact ⟨k + 1, by omega, by go_num, hP.1, hgE⟩
                case measure => simp [intOf]; omega
              · obtain rfl : k = Wl.length := by omega
                have hkl : ¬ (Wl.length : Int) < (Wl.length : Int) := by omega
                have hne : ∀ g, g < B6 → some g ≠ (Value.slice A3 Wl.length c3).ownBlock := fun g h e => by have := (HR.out.lt g e.symm).1; omega
                have hB6s := HB6.out
                have hb0 := cell_low p2
                have hb1 := cell_low k0
                have hb2 := cell_low (KK.out bn (by omega))
                have p2' : wz.cell? ⟨pB, 2, none⟩ = some (.slice (some ⟨gO, 0, none⟩) (n + 1) (n + 1)) := cell_stay (cell_stay p2 hg7 (by simp)) hgz (hne _ (by omega))
                have k0' := cell_stay (cell_stay k0 hg7 (by simp)) hgz (hne _ (by omega))
                have kb' := cell_stay (cell_stay (KK.out bn (by omega)) hg7 (by simp)) hgz (hne _ (by omega))
                clear x0 x1 p2 k0 KK
                obtain ⟨x0, x1⟩ := hxz.cells2
                have HFP : Hid (CheapPost n L need a (manyM l a) w (.returned (.tuple #[.slice A3 Wl.length c3, .int .i64 (outT n L (manyM l a) 0 bn).1, .bool true, .int .i64 0])) wz.drew) := by
                  refine .inr ⟨_, bn, HBT.out, rfl, ?_, gr_drew (gr_grown hG7 hgz (fun g e => .inr (by have := (HR.out.lt g e).1; omega)))⟩
                  have h := HR.out
                  rw [mixW_all] at h
                  rw [HWL.out]
                  show World.ownsRow _ _ _ 2 _ (scaleW a Wl).length _
                  rw [show (scaleW a Wl).length = Wl.length by simp [scaleW]]
                  exact ownsRow_low h (by omega)
                obtain ⟨Q, hQ⟩ : ∃ q, (outT n L (manyM l a) 0 bn).1 = q := ⟨_, rfl⟩
                rw [hQ] at kb' HFP
                have hn1 : (0 : Int) < (n : Int) + 1 := by omega
                have hn2 : 0 < n + 1 := by omega
                have hn3 : (bn : Int) < (n : Int) + 1 := by omega
                have hn4 : bn < n + 1 := by omega
                have hn5 : (0 : Int) ≤ (bn : Int) := by omega
                have hn6 : IntKind.i64.wrap (bn : Int) = (bn : Int) := by rw [IntKind.wrap_i64]; omega
                have hn7 : IntKind.i64.wrap (0 : Int) = 0 := by decide
                clear hQ
                go_wp2_with fail
                refine wp_region_held_drew (S := fun W => W.cell? ⟨pB, 2, none⟩ = some (.slice (some ⟨gO, 0, none⟩) (n + 1) (n + 1)) ∧ W.cell? ⟨gO, 0, none⟩ = some (.slice (some ⟨g0, 0, none⟩) (n + 1) (n + 1)) ∧ W.cell? ⟨g0, bn * 2, none⟩ = some (.int .i64 Q)) (by kernel_rfl) ⟨p2', k0', kb'⟩ (fun hHeld => ?_)
                refine wpAnyH_take (i := 0) (v := ?_) rfl (by kernel_rfl) (by kernel_rfl) (by kernel_rfl) (fun _ _ _ h => h) (Or.inl ⟨by kernel_rfl, ?_⟩) hHeld ?_
                rotate_left
                · intro w hSw
                  (try dsimp only at hSw)
                  obtain ⟨hS0, hS1, hS2⟩ := hSw
                  go_simp
                  (try with_reducible rfl)
                change wpAnyH _ _ _ _ _ _ _ (Act.put _ (some 138) _) _
                simp only [Act.put, List.setIfInBounds_toArray, List.set_cons_zero, List.set_cons_succ]
                refine wpAnyH_take (i := 1) (v := ?_) rfl (by kernel_rfl) (by kernel_rfl) (by kernel_rfl) (fun _ _ _ h => h) (Or.inl ⟨by kernel_rfl, ?_⟩) hHeld ?_
                rotate_left
                · intro w hSw
                  (try dsimp only at hSw)
                  obtain ⟨hS0, hS1, hS2⟩ := hSw
                  go_simp
                  (try with_reducible rfl)
                change wpAnyH _ _ _ _ _ _ _ (Act.put _ (some 139) _) _
                simp only [Act.put, List.setIfInBounds_toArray, List.set_cons_zero, List.set_cons_succ]
                refine wpAnyH_take (i := 2) (v := ?_) rfl (by kernel_rfl) (by kernel_rfl) (by kernel_rfl) (fun _ _ _ h => h) (Or.inl ⟨by kernel_rfl, ?_⟩) hHeld ?_
                rotate_left
                · intro w hSw
                  (try dsimp only at hSw)
                  obtain ⟨hS0, hS1, hS2⟩ := hSw
                  go_simp
                  (try with_reducible rfl)
                change wpAnyH _ _ _ _ _ _ _ (Act.put _ (some 140) _) _
                simp only [Act.put, List.setIfInBounds_toArray, List.set_cons_zero, List.set_cons_succ]
                refine wpAnyH_take (i := 3) (v := ?_) rfl (by kernel_rfl) (by kernel_rfl) (by kernel_rfl) (fun _ _ _ h => h) (Or.inl ⟨by kernel_rfl, ?_⟩) hHeld ?_
                rotate_left
                · intro w hSw
                  (try dsimp only at hSw)
                  obtain ⟨hS0, hS1, hS2⟩ := hSw
                  go_simp
                  (try with_reducible rfl)
                change wpAnyH _ _ _ _ _ _ _ (Act.put _ (some 141) _) _
                simp only [Act.put, List.setIfInBounds_toArray, List.set_cons_zero, List.set_cons_succ]
                refine wpAnyH_take (i := 4) (v := ?_) rfl (by kernel_rfl) (by kernel_rfl) (by kernel_rfl) (fun _ _ _ h => h) (Or.inl ⟨by kernel_rfl, ?_⟩) hHeld ?_
                rotate_left
                · intro w hSw
                  (try dsimp only at hSw)
                  obtain ⟨hS0, hS1, hS2⟩ := hSw
                  go_simp
                  (try with_reducible rfl)
                change wpAnyH _ _ _ _ _ _ _ (Act.put _ (some 142) _) _
                simp only [Act.put, List.setIfInBounds_toArray, List.set_cons_zero, List.set_cons_succ]
                refine wpAnyH_take (i := 5) (v := ?_) rfl (by kernel_rfl) (by kernel_rfl) (by kernel_rfl) (fun _ _ _ h => h) (Or.inl ⟨by kernel_rfl, ?_⟩) hHeld ?_
                rotate_left
                · intro w hSw
                  (try dsimp only at hSw)
                  obtain ⟨hS0, hS1, hS2⟩ := hSw
                  go_simp
                  (try with_reducible rfl)
                change wpAnyH _ _ _ _ _ _ _ (Act.put _ (some 143) _) _
                simp only [Act.put, List.setIfInBounds_toArray, List.set_cons_zero, List.set_cons_succ]
                refine wpAnyH_take (i := 6) (v := ?_) rfl (by kernel_rfl) (by kernel_rfl) (by kernel_rfl) (fun _ _ _ h => h) (Or.inl ⟨by kernel_rfl, ?_⟩) hHeld ?_
                rotate_left
                · intro w hSw
                  (try dsimp only at hSw)
                  obtain ⟨hS0, hS1, hS2⟩ := hSw
                  go_simp
                  (try with_reducible rfl)
                change wpAnyH _ _ _ _ _ _ _ (Act.put _ (some 144) _) _
                simp only [Act.put, List.setIfInBounds_toArray, List.set_cons_zero, List.set_cons_succ]
                refine wpAnyH_take (i := 7) (v := ?_) rfl (by kernel_rfl) (by kernel_rfl) (by kernel_rfl) (fun _ _ _ h => h) (Or.inl ⟨by kernel_rfl, ?_⟩) hHeld ?_
                rotate_left
                · intro w hSw
                  (try dsimp only at hSw)
                  obtain ⟨hS0, hS1, hS2⟩ := hSw
                  go_simp
                  (try with_reducible rfl)
                change wpAnyH _ _ _ _ _ _ _ (Act.put _ (some 145) _) _
                simp only [Act.put, List.setIfInBounds_toArray, List.set_cons_zero, List.set_cons_succ]
                refine wpAnyH_take (i := 8) (v := ?_) rfl (by kernel_rfl) (by kernel_rfl) (by kernel_rfl) (fun _ _ _ h => h) (Or.inl ⟨by kernel_rfl, ?_⟩) hHeld ?_
                rotate_left
                · intro w hSw
                  (try dsimp only at hSw)
                  obtain ⟨hS0, hS1, hS2⟩ := hSw
                  go_simp
                  (try with_reducible rfl)
                change wpAnyH _ _ _ _ _ _ _ (Act.put _ (some 146) _) _
                simp only [Act.put, List.setIfInBounds_toArray, List.set_cons_zero, List.set_cons_succ]
                refine wpAnyH_take (i := 9) (v := ?_) rfl (by kernel_rfl) (by kernel_rfl) (by kernel_rfl) (fun _ _ _ h => h) (Or.inl ⟨by kernel_rfl, ?_⟩) hHeld ?_
                rotate_left
                · intro w hSw
                  (try dsimp only at hSw)
                  obtain ⟨hS0, hS1, hS2⟩ := hSw
                  go_simp
                  (try with_reducible rfl)
                change wpAnyH _ _ _ _ _ _ _ (Act.put _ (some 147) _) _
                simp only [Act.put, List.setIfInBounds_toArray, List.set_cons_zero, List.set_cons_succ]
                refine wpAnyH_take (i := 10) (v := ?_) rfl (by kernel_rfl) (by kernel_rfl) (by kernel_rfl) (fun _ _ _ h => h) (Or.inl ⟨by kernel_rfl, ?_⟩) hHeld ?_
                rotate_left
                · intro w hSw
                  (try dsimp only at hSw)
                  obtain ⟨hS0, hS1, hS2⟩ := hSw
                  go_simp
                  (try with_reducible rfl)
                change wpAnyH _ _ _ _ _ _ _ (Act.put _ (some 148) _) _
                simp only [Act.put, List.setIfInBounds_toArray, List.set_cons_zero, List.set_cons_succ]
                refine wpAnyH_take (i := 11) (v := ?_) rfl (by kernel_rfl) (by kernel_rfl) (by kernel_rfl) (fun _ _ _ h => h) (Or.inl ⟨by kernel_rfl, ?_⟩) hHeld ?_
                rotate_left
                · intro w hSw
                  (try dsimp only at hSw)
                  obtain ⟨hS0, hS1, hS2⟩ := hSw
                  go_simp
                  (try with_reducible rfl)
                change wpAnyH _ _ _ _ _ _ _ (Act.put _ (some 6) _) _
                simp only [Act.put, List.setIfInBounds_toArray, List.set_cons_zero, List.set_cons_succ]
                refine wpAnyH_take (i := 12) (v := ?_) rfl (by kernel_rfl) (by kernel_rfl) (by kernel_rfl) (fun _ _ _ h => h) (Or.inl ⟨by kernel_rfl, ?_⟩) hHeld ?_
                rotate_left
                · intro w hSw
                  (try dsimp only at hSw)
                  obtain ⟨hS0, hS1, hS2⟩ := hSw
                  go_simp
                  (try with_reducible rfl)
                change wpAnyH _ _ _ _ _ _ _ (Act.put _ (some 7) _) _
                simp only [Act.put, List.setIfInBounds_toArray, List.set_cons_zero, List.set_cons_succ]
                refine wpAnyH_take (i := 13) (v := ?_) rfl (by kernel_rfl) (by kernel_rfl) (by kernel_rfl) (fun _ _ _ h => h) (Or.inl ⟨by kernel_rfl, ?_⟩) hHeld ?_
                rotate_left
                · intro w hSw
                  (try dsimp only at hSw)
                  obtain ⟨hS0, hS1, hS2⟩ := hSw
                  go_simp
                  (try with_reducible rfl)
                change wpAnyH _ _ _ _ _ _ _ (Act.put _ (some 8) _) _
                simp only [Act.put, List.setIfInBounds_toArray, List.set_cons_zero, List.set_cons_succ]
                refine wpAnyH_take (i := 14) (v := ?_) rfl (by kernel_rfl) (by kernel_rfl) (by kernel_rfl) (fun _ _ _ h => h) (Or.inl ⟨by kernel_rfl, ?_⟩) hHeld ?_
                rotate_left
                · intro w hSw
                  (try dsimp only at hSw)
                  obtain ⟨hS0, hS1, hS2⟩ := hSw
                  go_simp
                  (try with_reducible rfl)
                change wpAnyH _ _ _ _ _ _ _ (Act.put _ (some 9) _) _
                simp only [Act.put, List.setIfInBounds_toArray, List.set_cons_zero, List.set_cons_succ]
                refine wpAnyH_done (by kernel_rfl) ?_ _
                go_wp2_with fail
                refine bodyPost_ret (v := .tuple #[.slice A3 Wl.length c3, .int .i64 Q, .bool true, .int .i64 0]) (by simp [results, Try.results14, go_sem]) rfl ?_
                exact HFP.out
end Go.Proofs.Ytlbhphfmckhimaa
