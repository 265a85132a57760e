/- The reference's keys: CodesOf, codeOf, KeyedOf, at what can be said. Condition: MaxLen holds a number. -/
import Derived.Test.YtcimnlcmpfagnaaDoorKeyB
import Derived.Test.YtcimnlcmpfagnaaDoorCutPlain
import Derived.Lib.OthersKept
namespace Go.Proofs.YtcimnlcmpfagnaaDoor
open Go.RowKit
set_option linter.unusedVariables false
set_option linter.unusedSimpArgs false

def wl40 : List ByteArray := codeT.map fun p => ⟨p.2.toArray⟩
theorem wl40_len : wl40.length = 40 := by decide
theorem wl40_at (k : Nat) (h : k < codeT.length) (h2 : k < wl40.length) : wl40[k] = ⟨codeT[k].2.toArray⟩ := List.getElem_map _
def refOK (s : ByteArray) : Bool := decide (s.size < 100000) && decide (Lib.splitK [32] 0 (Lib.countB s blankS) s.data.toList = codeT.map (·.2))
theorem refOK_is {s : ByteArray} (h : refOK s = true) : s.size < 100000 ∧ wordsOf s = wl40 := by
  unfold refOK at h
  rw [Bool.and_eq_true, decide_eq_true_eq, decide_eq_true_eq] at h
  refine ⟨h.1, ?_⟩
  have h2 := Lib.splitB_data blankS 0 (Lib.countB s blankS) s
  have h3 : (wordsOf s).map (·.data.toList) = wl40.map (·.data.toList) := by
    show (Lib.splitB blankS 0 (Lib.countB s blankS) s).map (·.data.toList) = _
    rw [h2]
    show Lib.splitK [32] 0 (Lib.countB s blankS) s.data.toList = _
    rw [h.2]
    unfold wl40
    rw [List.map_map]
    rfl
  have inj : ∀ (l m : List ByteArray), l.map (·.data.toList) = m.map (·.data.toList) → l = m := by
    intro l
    induction l with
    | nil => intro m hm; cases m with
      | nil => rfl
      | cons a r => simp at hm
    | cons a r ih => intro m hm; cases m with
      | nil => simp at hm
      | cons b q =>
        simp only [List.map_cons, List.cons.injEq] at hm
        rw [ih q hm.2]
        congr 1
        cases a; cases b; congr 1; exact Array.toList_inj.1 hm.1
  exact inj _ _ h3
theorem split_codes (b : Nat) (s : ByteArray) (w : World) (hgl : Gl b w) (h : refOK s = true) :
    Calls Tryd.prog 67 #[.string s, .string ⟨#[32]⟩] w (StrsPost wl40 w) := by
  obtain ⟨h1, h2⟩ := refOK_is h
  rw [← h2]
  exact split_blank b s w hgl (by omega)
def codesS : ByteArray := ⟨#[46, 45, 32, 45, 46, 46, 46, 32, 45, 46, 45, 46, 32, 45, 46, 46, 32, 46, 32, 46, 46, 45, 46, 32, 45, 45, 46, 32, 46, 46, 46, 46, 32, 46, 46, 32, 46, 45, 45, 45, 32, 45, 46, 45, 32, 46, 45, 46, 46, 32, 45, 45, 32, 45, 46, 32, 45, 45, 45, 32, 46, 45, 45, 46, 32, 45, 45, 46, 45, 32, 46, 45, 46, 32, 46, 46, 46, 32, 45, 32, 46, 46, 45, 32, 46, 46, 46, 45, 32, 46, 45, 45, 32, 45, 46, 46, 45, 32, 45, 46, 45, 45, 32, 45, 45, 46, 46, 32, 45, 45, 45, 45, 45, 32, 46, 45, 45, 45, 45, 32, 46, 46, 45, 45, 45, 32, 46, 46, 46, 45, 45, 32, 46, 46, 46, 46, 45, 32, 46, 46, 46, 46, 46, 32, 45, 46, 46, 46, 46, 32, 45, 45, 46, 46, 46, 32, 45, 45, 45, 46, 46, 32, 45, 45, 45, 45, 46, 32, 45, 46, 46, 45, 46, 32, 46, 46, 45, 45, 46, 46, 32, 45, 46, 46, 46, 45, 32, 46, 45, 46, 45, 46]⟩
theorem codesS_ok : refOK codesS = true := by decide +kernel
def signL : List UInt8 := codeT.map (·.1)
theorem sign_cut : ∀ k : Fin 40, (ByteArray.mk #[97, 98, 99, 100, 101, 102, 103, 104, 105, 106, 107, 108, 109, 110, 111, 112, 113, 114, 115, 116, 117, 118, 119, 120, 121, 122, 48, 49, 50, 51, 52, 53, 54, 55, 56, 57, 47, 63, 61, 43]).extract k.val (k.val + 1) = ⟨#[(codeT[k.val]'(by rw [codeT_len]; exact k.isLt)).1]⟩ := by decide +kernel

set_option maxRecDepth 100000 in
set_option maxHeartbeats 2000000 in
theorem refCodes_any (b : Nat) (w : World) (hgl : Gl b w) :
    Calls Tryd.prog 31 #[] w (SgnPost codeT w) := by
  have HGL := Lib.hid hgl
  clear hgl
  obtain ⟨i0, hi, hz0, hz1, hz2⟩ := info_parts sgnInfo
  go_enter Tryd.func31, Tryd.ntmps31
  go_wp2_with fail
  refine (split_codes b codesS _ HGL.out codesS_ok).mono ?_
  rintro _ w1 ⟨v, rfl, hv, hG1⟩
  obtain ⟨A1, c1, rfl, hl9, hA1⟩ := hv.shape
  obtain ⟨g1, rfl, hg1, hg2⟩ := hA1 (by rw [wl40_len]; omega)
  have HV := Lib.hid hv
  obtain ⟨N, hN⟩ : ∃ N, wl40.length = N := ⟨_, rfl⟩
  have hN40 : N = 40 := by rw [← hN]; exact wl40_len
  rw [hN]
  have HN := Lib.hid hN
  clear hv hA1 hN
  go_wp2_with fail
  go_loopw [1, 6] (fun o i wr => ∃ k : Nat, k ≤ 40 ∧ i = .int .i64 k ∧ SgnFrom w1.heap.size wr o (codeT.take k) ∧ w1.grownBy wr none) (fun _ i _ => 41 - (intOf i).toNat)
  case atStart => exact ⟨0, by omega, rfl, SgnFrom.nil _ _, gr_refl _ _⟩
  case round =>
    obtain ⟨k, hk, rfl, hown, hgr⟩ := hrel
    have hlen : (codeT.take k).length = k := by rw [List.length_take, codeT_len]; omega
    have hown1 : wr.ownsRow w1.heap.size 56 2 u1 k (wdCells (codeT.take k)) := by
      have h := hown
      unfold SgnFrom at h
      rwa [hlen] at h
    clear hown
    obtain ⟨A2, c2, rfl, hk9, hA2⟩ := ownsRow_shape hown1
    by_cases hlt : k < 40
    · have hkl : k < codeT.length := by rw [codeT_len]; exact hlt
      have hkw : k < wl40.length := by rw [wl40_len]; exact hlt
      have htk : codeT.take (k + 1) = codeT.take k ++ [(codeT[k].1, codeT[k].2)] := List.take_succ_eq_append_getElem hkl
      have hcut0 := sign_cut ⟨k, hlt⟩
      have hat : wr.cell? ⟨g1, k, none⟩ = some (.string wl40[k]) := by
        have h := StrsFrom.grown HV.out hgr
        exact h.at_ k hkw
      rw [wl40_at k hkl hkw] at hat
      obtain ⟨x, hx⟩ : ∃ x, codeT[k].1 = x := ⟨_, rfl⟩
      obtain ⟨y, hy⟩ : ∃ y, codeT[k].2 = y := ⟨_, rfl⟩
      have hcut : (ByteArray.mk #[97, 98, 99, 100, 101, 102, 103, 104, 105, 106, 107, 108, 109, 110, 111, 112, 113, 114, 115, 116, 117, 118, 119, 120, 121, 122, 48, 49, 50, 51, 52, 53, 54, 55, 56, 57, 47, 63, 61, 43]).extract k (k + 1) = ⟨#[x]⟩ := by rw [← hx]; exact hcut0
      clear hcut0
      rw [hx] at htk
      rw [hy] at htk hat
      have hkN : (k : Int) < (N : Int) := by omega
      have HT := Lib.hid htk
      have hk1 : IntKind.i64.wrap ((k : Int) + 1) = (k : Int) + 1 := IntWalk.i64_in _ ⟨by omega, by omega⟩
      have hk2 : ((k : Int) + 1).toNat = k + 1 := by omega
      have hk3 : (k : Int) ≤ (k : Int) + 1 := by omega
      have hk4 : (k : Int) + 1 ≤ 40 := by omega
      have hk5 : (0 : Int) ≤ (k : Int) + 1 := by omega
      clear htk hx hy hA2 hlen
      go_wp2_with (at_builtin; go_loud (refine wpList_append_own _ rfl _ _ 54 rfl w1.heap.size 56 i0 _ 2 32 Tryd.underlying54 hi hz0 hz1 hz2 rfl (by decide) _ _ _ rfl (World.ownsRow.alloc hown1 _) ⟨_, 0, none⟩ 1 1 [.string ⟨#[x]⟩, .string ⟨y.toArray⟩] rfl rfl (cells_new _ _ _) (two_one _ _) (by unfold maxLen; omega) (by omega) (by have := hgr.size; simp; omega) ?_; intro v2 w2 h2_ hgw_ _))
      have hg2 : w1.grownBy w2 none := gr_grown (gr_alloc hgr _) hgw_ (fun gg e => .inr (hown1.lt gg e).1)
      have hw9 : SgnFrom w1.heap.size w2 v2 (codeT.take (k + 1)) := by
        unfold SgnFrom
        rw [HT.out, wdCells_snoc, show (codeT.take k ++ [(x, y)]).length = k + 1 by simp [codeT_len]; omega]
        exact h2_
      go_wp2_with fail
      go_roundw
      case rel => exact ⟨k + 1, by omega, by go_num, hw9, hg2⟩
      case measure => simp [intOf]; omega
    · have hf : codeT.take k = codeT := List.take_of_length_le (by rw [codeT_len]; omega)
      have HF := Lib.hid hf
      have hj0 : ¬ (k : Int) < (N : Int) := by omega
      have HO := Lib.hid hown1
      clear hf hown1 hlen hA2
      go_wp2_with fail
      go_ret
      refine ⟨_, rfl, ?_, gr_trans hG1 hgr⟩
      have h := HO.out
      rw [HF.out] at h
      obtain rfl : k = 40 := by omega
      unfold SgnFrom
      rw [codeT_len]
      exact ownsRow_low h hG1.size

theorem sign_at (c : UInt8) (h : codeOf c ≠ []) : ∃ k, ∃ hk : k < codeT.length, Lib.indexByte signL c = (k : Int) ∧ codeT[k].2 = codeOf c := by
  have H : ∀ n : Fin 256, codeOf (UInt8.ofNat n.val) ≠ [] → 0 ≤ Lib.indexByte signL (UInt8.ofNat n.val) ∧ Lib.indexByte signL (UInt8.ofNat n.val) < 40 ∧ (codeT.getD (Lib.indexByte signL (UInt8.ofNat n.val)).toNat (0, [])).2 = codeOf (UInt8.ofNat n.val) := by decide +kernel
  have := H ⟨c.toNat, c.toNat_lt⟩
  simp only [UInt8.ofNat_toNat] at this
  obtain ⟨h1, h2, h3⟩ := this h
  obtain ⟨k, hk⟩ := Int.eq_ofNat_of_zero_le h1
  rw [hk] at h2 h3
  have hkl : k < codeT.length := by rw [codeT_len]; omega
  refine ⟨k, hkl, hk, ?_⟩
  rw [List.getD_eq_getElem?_getD] at h3
  simpa [hkl] using h3
theorem index_sign (x : UInt8) (w : World) : Calls Tryd.prog 124 #[.string ⟨#[97, 98, 99, 100, 101, 102, 103, 104, 105, 106, 107, 108, 109, 110, 111, 112, 113, 114, 115, 116, 117, 118, 119, 120, 121, 122, 48, 49, 50, 51, 52, 53, 54, 55, 56, 57, 47, 63, 61, 43]⟩, .int .u8 x.toNat] w fun e w' => e = .returned (.int .i64 (Lib.indexByte signL x)) ∧ w = w' :=
  (Tryd.strings_IndexByte _ _ w).mono fun e w' ⟨he, hw⟩ => ⟨by
    rw [he]
    have : ((x.toNat : Int)).toNat.toUInt8 = x := by simp
    rw [this]
    rfl, hw.symm⟩
set_option maxRecDepth 100000 in
set_option maxHeartbeats 2000000 in
theorem refCode_any (b : Nat) (c : UInt8) (w : World) (hgl : Gl b w) (hc : codeOf c ≠ []) :
    Calls Tryd.prog 81 #[.int .u8 (c.toNat : Int)] w fun e w' => e = .returned (.string (codeS c)) ∧ w.grownBy w' none := by
  obtain ⟨k, hk, hik, hck⟩ := sign_at c hc
  have HGL := Lib.hid hgl
  have HIK := Lib.hid hik
  have HCK := Lib.hid hck
  have HC := Lib.hid hc
  clear hgl hik hck hc
  go_enter Tryd.func81, Tryd.ntmps81
  go_wp2_with fail
  refine (refCodes_any b _ HGL.out).mono ?_
  rintro _ w1 ⟨v, rfl, hv, hG1⟩
  obtain ⟨A1, c1, rfl, hl9, hA1⟩ := hv.shape
  obtain ⟨g1, rfl, hg1, hg2⟩ := hA1 (by rw [codeT_len]; omega)
  obtain ⟨c0, c2⟩ := hv.at1 k hk
  rw [HCK.out] at c2
  have hkN : (k : Int) < (codeT.length : Int) := by omega
  go_wp2_with fail
  refine (index_sign c _).mono ?_
  rintro _ _ ⟨rfl, rfl⟩
  rw [HIK.out]
  go_wp2_with fail
  go_ret
  exact ⟨rfl, hG1⟩

/-! ### KeyedOf -/
def keyStep (unit : Int) (st : List Int × Int) (e : UInt8) : List Int × Int := ((if st.1 = [] then [] else st.1 ++ [st.2]) ++ [if e = 46 then unit else 3 * unit], unit)
def signStep (unit slow : Int) (st : List Int × Int) (c : UInt8) : List Int × Int := if c = 32 then (st.1, 7 * slow) else (((codeOf c).foldl (keyStep unit) st).1, 3 * slow)
def keyedL (s : List UInt8) (unit slow : Int) : List Int := (s.foldl (signStep unit slow) ([], 0)).1
theorem keyStep_len (unit : Int) (st : List Int × Int) (e : UInt8) : (keyStep unit st e).1.length ≤ st.1.length + 2 := by
  unfold keyStep
  split <;> simp_all
theorem take_foldl {α β : Type} (f : α → β → α) (a : α) (l : List β) (k : Nat) (h : k < l.length) : (l.take (k + 1)).foldl f a = f ((l.take k).foldl f a) l[k] := by
  rw [List.take_succ_eq_append_getElem h, List.foldl_append]; rfl
theorem codeOf_dash (c : UInt8) : ∀ e ∈ codeOf c, e = 46 ∨ e = 45 := by
  have h : ∀ n : Fin 256, ∀ e ∈ codeOf (UInt8.ofNat n.val), e = 46 ∨ e = 45 := by decide +kernel
  have := h ⟨c.toNat, c.toNat_lt⟩
  simpa using this
theorem own_ne_iter {w : World} {base : Nat} {e : TypeId} {size : Nat} {v : Value} {n : Nat} {xs : List Value} (h : w.ownsRow base e size v n xs) {k : Nat} {s : ByteArray} {p : Nat} (hk : w.heap[k]? = some (.stringIter s p)) : v.ownBlock = none ∨ v.ownBlock ≠ some k := by
  rcases h.2 with ⟨rfl, _⟩ | ⟨g, cap, cur, rfl, _, hb, _⟩
  · exact .inl rfl
  · refine .inr fun e1 => ?_
    have : g = k := by simpa [Value.ownBlock] using e1
    subst this
    rw [hk] at hb
    cases hb
theorem gr_iterAt {a w : World} (h : a.grownBy w none) {k : Nat} (hk : a.heap.size ≤ k) (s : ByteArray) (p : Nat) : a.grownBy (w.iterAt k s p) none :=
  gr_grown h ⟨rfl, rfl, rfl, by rw [Lib.iterAt_size]; exact Nat.le_refl _, fun i hi hne => Lib.iterAt_other w k i s p (fun e => hne (by rw [e]))⟩ (fun g e => by injection e with e; exact .inr (by omega))
theorem gr_iter1 (w : World) (k : Nat) (s : ByteArray) (p : Nat) : w.grownBy (w.iterAt k s p) (some k) :=
  ⟨rfl, rfl, rfl, by rw [Lib.iterAt_size]; exact Nat.le_refl _, fun i hi hne => Lib.iterAt_other w k i s p (fun e => hne (by rw [e]))⟩

theorem iter_kept {w w' : World} {row : Option Nat} {k p : Nat} {s : ByteArray} (h : w.heap[k]? = some (.stringIter s p)) (hg : w.grownBy w' row) (hr : row ≠ some k) : w'.heap[k]? = some (.stringIter s p) :=
  (hg.block k (Array.getElem?_eq_some_iff.1 h).1 (fun e => hr e.symm)).trans h
theorem own_iter {w : World} {base : Nat} {e : TypeId} {size : Nat} {v : Value} {n : Nat} {xs : List Value} (h : w.ownsRow base e size v n xs) {k : Nat} {s : ByteArray} {p : Nat} (hk : w.heap[k]? = some (.stringIter s p)) : v.ownBlock ≠ some k := by
  rcases own_ne_iter h hk with h1 | h1
  · rw [h1]; simp
  · exact h1
set_option maxRecDepth 100000 in
set_option maxHeartbeats 4000000 in
theorem keyedOf_any (b : Nat) (s : ByteArray) (unit slow : Int) (w : World) (hgl : Gl b w) (hs : s.size ≤ 500) (hc : ∀ c ∈ s.data.toList, c = 32 ∨ codeOf c ≠ []) (hu0 : 0 ≤ unit) (hu1 : unit ≤ 1000000) (hs0 : 0 ≤ slow) (hs1 : slow ≤ 1000000) :
    Calls Tryd.prog 27 #[.string s, .int .i64 unit, .int .i64 slow] w fun e w' => ∃ v, e = .returned v ∧ IntsFrom w.heap.size w' v (keyedL s.data.toList unit slow) ∧ w.grownBy w' none := by
  obtain ⟨i0, hi, hz0, hz1, hz2⟩ := info_parts intInfo
  have HGL := Lib.hid hgl
  have HC := Lib.hid hc
  clear hgl hc
  go_enter Tryd.func27, Tryd.ntmps27
  go_wp2_with fail
  go_loopw [7, 8, 14] (fun o gp i wr => ∃ (k n : Nat) (L : List Int) (G : Int), k ≤ s.size ∧ i = .int .i64 k ∧ n ≤ 12 * k ∧ gp = .int .i64 G ∧ 0 ≤ G ∧ G ≤ 7000000 ∧ Hid ((s.data.toList.take k).foldl (signStep unit slow) ([], 0) = (L, G)) ∧ IsL w.heap.size wr o n L ∧ w.grownBy wr none) (fun _ _ i _ => s.size - (intOf i).toNat)
  case atStart => exact ⟨0, 0, [], 0, by omega, rfl, by omega, rfl, by omega, by omega, rfl, World.ownsRow_nil _ _ _ _, gr_refl _ _⟩
  case round =>
    obtain ⟨k, n, L, G, hk, rfl, hn, rfl, hG0, hG1, HF, hown, hgr⟩ := hrel
    obtain ⟨A2, c2, rfl, hk9, hA2⟩ := ownsRow_shape hown
    by_cases hlt : k < s.size
    · have hlt2 : (k : Int) < (s.size : Int) := by omega
      have hkl : k < s.data.toList.length := by rw [← size_len']; exact hlt
      have hsk : s.data.toList[k] = s[k] := rfl
      have hmem := HC.out _ (List.getElem_mem hkl)
      have hst := take_foldl (signStep unit slow) ([], 0) s.data.toList k hkl
      rw [HF.out, hsk] at hst
      rw [hsk] at hmem
      have hzr := hgr.size
      obtain ⟨c, hcc⟩ : ∃ c, s[k] = c := ⟨_, rfl⟩
      rw [hcc] at hst hmem
      have HCC := Lib.hid hcc
      by_cases h32 : c = 32
      · subst h32
        have HS : Hid ((s.data.toList.take (k + 1)).foldl (signStep unit slow) ([], 0) = (L, 7 * slow)) := by show _ = _; rw [hst]; unfold signStep; rw [if_pos rfl]
        have hc32 : (s[k].toNat : Int) = 32 := by rw [hcc]; rfl
        clear hst hmem hsk hcc
        go_wp2_with fail
        go_roundw
        case rel => exact ⟨k + 1, n, L, 7 * slow, by omega, by go_num, by omega, by go_num, by omega, by omega, HS, hown, hgr⟩
        case measure => simp [intOf]; omega
      · have hcode : codeOf c ≠ [] := hmem.resolve_left h32
        have HS : Hid ((s.data.toList.take (k + 1)).foldl (signStep unit slow) ([], 0) = (((codeOf c).foldl (keyStep unit) (L, G)).1, 3 * slow)) := by show _ = _; rw [hst]; unfold signStep; rw [if_neg h32]
        have hc32 : ¬ (s[k].toNat : Int) = 32 := by
          rw [hcc]
          intro e
          exact h32 (UInt8.toNat_inj.1 (by have : c.toNat = 32 := by omega
                                           rw [this]; rfl))
        clear hst hmem hsk hcc h32
        go_wp2_with fail
        rw [HCC.out]
        refine (refCode_any b c _ (HGL.out.quiet hgr) hcode).mono ?_
        rintro _ w2 ⟨rfl, hg2⟩
        have hgr2 := gr_trans hgr hg2
        have hown2 : IsL w.heap.size w2 (.slice A2 n c2) n L := ownsRow_grown hown hg2
        have hsz2 := hgr2.size
        have hcl := codeOf_short c
        have HD := Lib.hid (codeOf_dash c)
        have hit0 := World.iter_heap w2 (codeS c) 0
        have hgi : w2.grownBy (w2.iter (codeS c) 0) none := World.grownBy_alloc w2 _ none
        have hown3 : IsL w.heap.size (w2.iter (codeS c) 0) (.slice A2 n c2) n L := ownsRow_grown hown2 hgi
        have hgr3 := gr_trans hgr2 hgi
        have hcs : (codeS c).size = (codeOf c).length := by rw [size_len', codeS_data]
        generalize hC : codeOf c = C at *
        clear hown hgr hg2 hgr2 hown2 hgi hA2 hzr
        go_wp2_with fail
        generalize w2.iter (codeS c) 0 = W3 at *
        go_loopw [7, 8] (fun o gp wr => ∃ (p m : Nat) (L2 : List Int) (G2 : Int), p ≤ (codeS c).size ∧ m ≤ 12 * k + 2 * p ∧ gp = .int .i64 G2 ∧ 0 ≤ G2 ∧ G2 ≤ 7000000 ∧ Hid ((C.take p).foldl (keyStep unit) (L, G) = (L2, G2)) ∧ wr.heap[w2.heap.size]? = some (.stringIter (codeS c) p) ∧ IsL w.heap.size wr o m L2 ∧ w.grownBy wr none) (fun _ _ wr => (codeS c).size - wr.iterPos w2.heap.size)
        case atStart => exact ⟨0, n, L, G, by omega, by omega, rfl, hG0, hG1, rfl, hit0, hown3, hgr3⟩
        case round =>
          obtain ⟨p, m, L2, G2, hp, hm, rfl, hH0, hH1, HL2, hit, hwn, hgw⟩ := hrel
          clear hown3 hgr3 hit0
          obtain ⟨A4, c4, rfl, hm9, hA4⟩ := ownsRow_shape hwn
          by_cases hlp : p < (codeS c).size
          · have hpc : p < C.length := by omega
            have hce : (codeS c)[p] = C[p] := by
              have h1 : (codeS c)[p] = (codeS c).data.toList[p]'(by rw [← size_len']; exact hlp) := rfl
              rw [h1]
              simp [codeS_data, hC]
            have hst2 := take_foldl (keyStep unit) (L, G) C p hpc
            rw [HL2.out] at hst2
            obtain ⟨e, he⟩ : ∃ e, C[p] = e := ⟨_, rfl⟩
            have hdash := HD.out e (by rw [← he]; exact List.getElem_mem hpc)
            rw [he] at hst2 hce
            have h128 : ((codeS c)[p]'hlp).toNat < 128 := by rw [hce]; rcases hdash with rfl | rfl <;> decide
            have hnext : ∀ ty, (Instr.next (.pointer (some ⟨w2.heap.size, 0, none⟩)) true ty).run Tryd.prog wr = _ := fun ty => Lib.run_next_ascii_at wr w2.heap.size (codeS c) p ty hit hlp h128
            simp only [hce] at hnext
            have hit1 := Lib.iterAt_heap wr w2.heap.size (codeS c) p (p + 1) hit
            have hwn1 : IsL w.heap.size (wr.iterAt w2.heap.size (codeS c) (p + 1)) (.slice A4 m c4) m L2 := World.ownsRow.kept hwn (gr_iter1 wr w2.heap.size (codeS c) (p + 1)) (own_ne_iter hwn hit)
            have hgw1 := gr_iterAt hgw hsz2 (codeS c) (p + 1)
            have hmu : wr.iterPos w2.heap.size = p := by simp [World.iterPos, hit]
            have HMU := Lib.hid hmu
            have hL2 := IsL.len hwn
            have HST := Lib.hid hst2
            have HLL := Lib.hid hL2
            generalize wr.iterAt w2.heap.size (codeS c) (p + 1) = W1 at *
            clear hwn hgw hit hst2 he hce h128 hmu hL2 hpc
            go_upto_if 33 with fail
            go_cut [7] (fun s7 wq => ∃ (m' : Nat) (L3 : List Int), m' ≤ 12 * k + 2 * p + 1 ∧ Hid (L3 = if L2 = [] then [] else L2 ++ [G2]) ∧ wq.heap[w2.heap.size]? = some (.stringIter (codeS c) (p + 1)) ∧ IsL w.heap.size wq s7 m' L3 ∧ w.grownBy wq none)
            case first =>
              by_cases hz : m = 0
              · have hL0 : L2 = [] := List.length_eq_zero_iff.1 (by rw [HLL.out]; exact hz)
                subst hz
                have HLN : Hid (L2 = if L2 = [] then [] else L2 ++ [G2]) := by show _ = _; rw [if_pos hL0]; exact hL0
                clear hL0
                go_wp2_with fail
                go_meet
                exact ⟨0, L2, by omega, HLN, hit1, hwn1, hgw1⟩
              · have hL0 : ¬ L2 = [] := fun e => hz (by rw [← HLL.out, e]; rfl)
                have hm0 : (0 : Int) < (m : Int) := by omega
                have HLN : Hid (L2 ++ [G2] = if L2 = [] then [] else L2 ++ [G2]) := by show _ = _; rw [if_neg hL0]
                clear hL0
                go_wp2_with (at_builtin; refine wpList_append_own _ rfl _ _ 22 rfl w.heap.size 3 i0 _ 1 8 Tryd.underlying22 hi hz0 hz1 hz2 rfl (by decide) _ _ _ rfl (World.ownsRow.alloc hwn1 _) ⟨W1.heap.size, 0, none⟩ 1 1 [.int .i64 G2] rfl rfl (one_cell _ _ _) (one_oneCell _) (by unfold maxLen; omega) (by omega) (by have := hgw1.size; simp; omega) ?_; intro v2 w5 h2_ hgw_ _)
                have ho2 := IsL.app h2_
                have hg2 : w.grownBy w5 none := gr_grown (gr_alloc hgw1 _) hgw_ (fun gg e => .inr (hwn1.low gg e))
                have hi5 := iter_kept (iter_kept hit1 (World.grownBy_alloc W1 (.cells #[.int .i64 G2] 3) none) (by simp)) hgw_ (own_iter hwn1 hit1)
                clear h2_ hgw_
                go_wp2_with fail
                go_meet
                exact ⟨m + 1, L2 ++ [G2], by omega, HLN, hi5, ho2, hg2⟩
            case rest =>
              obtain ⟨m3, L3, hm3, HL3, hit3, hwn3, hgw3⟩ := hcut
              obtain ⟨A5, c5, rfl, hm8, hA5⟩ := ownsRow_shape hwn3
              clear hwn1 hgw1 hit1 hA4 hA5
              rcases hdash with rfl | rfl
              · have HL4 : Hid ((C.take (p + 1)).foldl (keyStep unit) (L, G) = (L3 ++ [unit], unit)) := by
                  show _ = _
                  rw [HST.out, HL3.out]; rfl
                go_wp2_with (at_builtin; refine wpList_append_own _ rfl _ _ 22 rfl w.heap.size 3 i0 _ 1 8 Tryd.underlying22 hi hz0 hz1 hz2 rfl (by decide) _ _ _ rfl (World.ownsRow.alloc hwn3 _) ⟨_, 0, none⟩ 1 1 [.int .i64 unit] rfl rfl (one_cell _ _ _) (one_oneCell _) (by unfold maxLen; omega) (by omega) (by have := hgw3.size; simp; omega) ?_; intro v2 w5 h2_ hgw_ _)
                have ho2 := IsL.app h2_
                have hg2 : w.grownBy w5 none := gr_grown (gr_alloc hgw3 _) hgw_ (fun gg e => .inr (hwn3.low gg e))
                have hi5 := iter_kept (iter_kept hit3 (World.grownBy_alloc _ (.cells #[.int .i64 unit] 3) none) (by simp)) hgw_ (own_iter hwn3 hit3)
                clear h2_ hgw_
                go_wp2_with fail
                go_roundw
                case rel => exact ⟨p + 1, m3 + 1, L3 ++ [unit], unit, by omega, by omega, rfl, by omega, by omega, HL4, hi5, ho2, hg2⟩
                case measure =>
                  have h1 : w5.iterPos w2.heap.size = p + 1 := by simp [World.iterPos, hi5]
                  rw [HMU.out, h1]; omega
              · have HL4 : Hid ((C.take (p + 1)).foldl (keyStep unit) (L, G) = (L3 ++ [3 * unit], unit)) := by
                  show _ = _
                  rw [HST.out, HL3.out]; rfl
                go_wp2_with (at_builtin; refine wpList_append_own _ rfl _ _ 22 rfl w.heap.size 3 i0 _ 1 8 Tryd.underlying22 hi hz0 hz1 hz2 rfl (by decide) _ _ _ rfl (World.ownsRow.alloc hwn3 _) ⟨_, 0, none⟩ 1 1 [.int .i64 (3 * unit)] rfl rfl (one_cell _ _ _) (one_oneCell _) (by unfold maxLen; omega) (by omega) (by have := hgw3.size; simp; omega) ?_; intro v2 w5 h2_ hgw_ _)
                have ho2 := IsL.app h2_
                have hg2 : w.grownBy w5 none := gr_grown (gr_alloc hgw3 _) hgw_ (fun gg e => .inr (hwn3.low gg e))
                have hi5 := iter_kept (iter_kept hit3 (World.grownBy_alloc _ (.cells #[.int .i64 (3 * unit)] 3) none) (by simp)) hgw_ (own_iter hwn3 hit3)
                clear h2_ hgw_
                go_wp2_with fail
                go_roundw
                case rel => exact ⟨p + 1, m3 + 1, L3 ++ [3 * unit], unit, by omega, by omega, rfl, by omega, by omega, HL4, hi5, ho2, hg2⟩
                case measure =>
                  have h1 : w5.iterPos w2.heap.size = p + 1 := by simp [World.iterPos, hi5]
                  rw [HMU.out, h1]; omega
          · have hnext : ∀ ty, (Instr.next (.pointer (some ⟨w2.heap.size, 0, none⟩)) true ty).run Tryd.prog wr = _ := fun ty => Lib.run_next_end_at wr w2.heap.size (codeS c) p ty hit hlp
            have hfull : C.take p = C := List.take_of_length_le (by omega)
            have HL2' := HL2.out
            rw [hfull] at HL2'
            have HS3 : Hid ((s.data.toList.take (k + 1)).foldl (signStep unit slow) ([], 0) = (L2, 3 * slow)) := by show _ = _; rw [HS.out, HL2']
            have HW := Lib.hid hwn
            clear hfull HL2' hwn
            go_wp2_with fail
            go_roundw
            case rel => exact ⟨k + 1, m, L2, 3 * slow, by omega, by go_num, by omega, by go_num, by omega, by omega, HS3, HW.out, hgw⟩
            case measure => simp [intOf]; omega
    · have hlt2 : ¬ (k : Int) < (s.size : Int) := by omega
      have hf := HF.out
      rw [List.take_of_length_le (by rw [← size_len']; omega)] at hf
      have HE : Hid (keyedL s.data.toList unit slow = L) := by show _ = _; unfold keyedL; rw [hf]
      have HO := Lib.hid hown
      clear hf hown
      go_wp2_with fail
      go_ret
      exact ⟨_, rfl, by rw [HE.out]; exact IsL.ints HO.out, hgr⟩
end Go.Proofs.YtcimnlcmpfagnaaDoor
