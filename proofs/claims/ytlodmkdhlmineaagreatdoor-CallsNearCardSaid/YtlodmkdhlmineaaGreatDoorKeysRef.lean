/- The reference's keys: CodesOf, codeOf, KeyedOf, at what can be said. Condition: MaxLen holds a number. -/
import Derived.Test.YtlodmkdhlmineaaGreatDoorKeyB
import Derived.Test.YtlodmkdhlmineaaGreatDoorCutPlain
import Derived.Lib.OthersKept
namespace Go.Proofs.YtlodmkdhlmineaaGreatDoor
open Go.RowKit
set_option linter.unusedVariables false
set_option linter.unusedSimpArgs false

def wl40 : List ByteArray := codeT.map fun p => ⟨p.2.toArray⟩
theorem wl40_len : wl40.length = 40 := by decide
theorem wl40_at (k : Nat) (h : k < codeT.length) (h2 : k < wl40.length) : wl40[k] = ⟨codeT[k].2.toArray⟩ := List.getElem_map _
def refOK (s : ByteArray) : Bool := decide (s.size < 100000) && decide (Lib.splitK [32] 0 (Lib.countB s blankS) s.data.toList = codeT.map (·.2))
theorem refOK_is {s : ByteArray} (h : refOK s = true) : s.size < 100000 ∧ wordsOf s = wl40 := by
  unfold refOK at h
  rw [Bool.and_eq_true, decide_eq_true_eq, decide_eq_true_eq] at h
  refine ⟨h.1, ?_⟩
  have h2 := Lib.splitB_data blankS 0 (Lib.countB s blankS) s
  have h3 : (wordsOf s).map (·.data.toList) = wl40.map (·.data.toList) := by
    show (Lib.splitB blankS 0 (Lib.countB s blankS) s).map (·.data.toList) = _
    rw [h2]
    show Lib.splitK [32] 0 (Lib.countB s blankS) s.data.toList = _
    rw [h.2]
    unfold wl40
    rw [List.map_map]
    rfl
  have inj : ∀ (l m : List ByteArray), l.map (·.data.toList) = m.map (·.data.toList) → l = m := by
    intro l
    induction l with
    | nil => intro m hm; cases m with
      | nil => rfl
      | cons a r => simp at hm
    | cons a r ih => intro m hm; cases m with
      | nil => simp at hm
      | cons b q =>
        simp only [List.map_cons, List.cons.injEq] at hm
        rw [ih q hm.2]
        congr 1
        cases a; cases b; congr 1; exact Array.toList_inj.1 hm.1
  exact inj _ _ h3
theorem split_codes (b : Nat) (s : ByteArray) (w : World) (hgl : Gl b w) (h : refOK s = true) :
    Calls Tryz.prog 100 #[.string s, .string ⟨#[32]⟩] w (StrsPost wl40 w) := by
  obtain ⟨h1, h2⟩ := refOK_is h
  rw [← h2]
  exact split_blank b s w hgl (by omega)
def codesS : ByteArray := ⟨#[46, 45, 32, 45, 46, 46, 46, 32, 45, 46, 45, 46, 32, 45, 46, 46, 32, 46, 32, 46, 46, 45, 46, 32, 45, 45, 46, 32, 46, 46, 46, 46, 32, 46, 46, 32, 46, 45, 45, 45, 32, 45, 46, 45, 32, 46, 45, 46, 46, 32, 45, 45, 32, 45, 46, 32, 45, 45, 45, 32, 46, 45, 45, 46, 32, 45, 45, 46, 45, 32, 46, 45, 46, 32, 46, 46, 46, 32, 45, 32, 46, 46, 45, 32, 46, 46, 46, 45, 32, 46, 45, 45, 32, 45, 46, 46, 45, 32, 45, 46, 45, 45, 32, 45, 45, 46, 46, 32, 45, 45, 45, 45, 45, 32, 46, 45, 45, 45, 45, 32, 46, 46, 45, 45, 45, 32, 46, 46, 46, 45, 45, 32, 46, 46, 46, 46, 45, 32, 46, 46, 46, 46, 46, 32, 45, 46, 46, 46, 46, 32, 45, 45, 46, 46, 46, 32, 45, 45, 45, 46, 46, 32, 45, 45, 45, 45, 46, 32, 45, 46, 46, 45, 46, 32, 46, 46, 45, 45, 46, 46, 32, 45, 46, 46, 46, 45, 32, 46, 45, 46, 45, 46]⟩
theorem codesS_ok : refOK codesS = true := by decide +kernel
def signL : List UInt8 := codeT.map (·.1)
theorem sign_cut : ∀ k : Fin 40, (ByteArray.mk #[97, 98, 99, 100, 101, 102, 103, 104, 105, 106, 107, 108, 109, 110, 111, 112, 113, 114, 115, 116, 117, 118, 119, 120, 121, 122, 48, 49, 50, 51, 52, 53, 54, 55, 56, 57, 47, 63, 61, 43]).extract k.val (k.val + 1) = ⟨#[(codeT[k.val]'(by rw [codeT_len]; exact k.isLt)).1]⟩ := by decide +kernel

set_option maxRecDepth 100000 in
set_option maxHeartbeats 2000000 in
theorem refCodes_any (b : Nat) (w : World) (hgl : Gl b w) :
    Calls Tryz.prog 101 #[] w (SgnPost codeT w) := by
  have HGL := Lib.hid hgl
  clear hgl
  obtain ⟨i0, hi, hz0, hz1, hz2⟩ := info_parts sgnInfo
  go_enter Tryz.func101, Tryz.ntmps101
  go_wp2_with fail
  refine (split_codes b codesS _ HGL.out codesS_ok).mono ?_
  rintro _ w1 ⟨v, rfl, hv, hG1⟩
  obtain ⟨A1, c1, rfl, hl9, hA1⟩ := hv.shape
  obtain ⟨g1, rfl, hg1, hg2⟩ := hA1 (by rw [wl40_len]; omega)
  have HV := Lib.hid hv
  obtain ⟨N, hN⟩ : ∃ N, wl40.length = N := ⟨_, rfl⟩
  have hN40 : N = 40 := by rw [← hN]; exact wl40_len
  rw [hN]
  have HN := Lib.hid hN
  clear hv hA1 hN
  go_wp2_with fail
  go_loopw [1, 6] (fun o i wr => ∃ k : Nat, k ≤ 40 ∧ i = .int .i64 k ∧ SgnFrom w1.heap.size wr o (codeT.take k) ∧ w1.grownBy wr none) (fun _ i _ => 41 - (intOf i).toNat)
  case atStart => exact ⟨0, by omega, rfl, SgnFrom.nil _ _, gr_refl _ _⟩
  case round =>
    obtain ⟨k, hk, rfl, hown, hgr⟩ := hrel
    have hlen : (codeT.take k).length = k := by rw [List.length_take, codeT_len]; omega
    have hown1 : wr.ownsRow w1.heap.size 100 2 u1 k (wdCells (codeT.take k)) := by
      have h := hown
      unfold SgnFrom at h
      rwa [hlen] at h
    clear hown
    obtain ⟨A2, c2, rfl, hk9, hA2⟩ := ownsRow_shape hown1
    by_cases hlt : k < 40
    · have hkl : k < codeT.length := by rw [codeT_len]; exact hlt
      have hkw : k < wl40.length := by rw [wl40_len]; exact hlt
      have htk : codeT.take (k + 1) = codeT.take k ++ [(codeT[k].1, codeT[k].2)] := List.take_succ_eq_append_getElem hkl
      have hcut0 := sign_cut ⟨k, hlt⟩
      have hat : wr.cell? ⟨g1, k, none⟩ = some (.string wl40[k]) := by
        have h := StrsFrom.grown HV.out hgr
        exact h.at_ k hkw
      rw [wl40_at k hkl hkw] at hat
      obtain ⟨x, hx⟩ : ∃ x, codeT[k].1 = x := ⟨_, rfl⟩
      obtain ⟨y, hy⟩ : ∃ y, codeT[k].2 = y := ⟨_, rfl⟩
      have hcut : (ByteArray.mk #[97, 98, 99, 100, 101, 102, 103, 104, 105, 106, 107, 108, 109, 110, 111, 112, 113, 114, 115, 116, 117, 118, 119, 120, 121, 122, 48, 49, 50, 51, 52, 53, 54, 55, 56, 57, 47, 63, 61, 43]).extract k (k + 1) = ⟨#[x]⟩ := by rw [← hx]; exact hcut0
      clear hcut0
      rw [hx] at htk
      rw [hy] at htk hat
      have hkN : (k : Int) < (N : Int) := by omega
      have HT := Lib.hid htk
      have hk1 : IntKind.i64.wrap ((k : Int) + 1) = (k : Int) + 1 := IntWalk.i64_in _ ⟨by omega, by omega⟩
      have hk2 : ((k : Int) + 1).toNat = k + 1 := by omega
      have hk3 : (k : Int) ≤ (k : Int) + 1 := by omega
      have hk4 : (k : Int) + 1 ≤ 40 := by omega
      have hk5 : (0 : Int) ≤ (k : Int) + 1 := by omega
      clear htk hx hy hA2 hlen
      go_wp2_with (at_builtin; go_loud (refine wpList_append_own _ rfl _ _ 97 rfl w1.heap.size 100 i0 _ 2 32 Tryz.underlying97 hi hz0 hz1 hz2 rfl (by decide) _ _ _ rfl (World.ownsRow.alloc hown1 _) ⟨_, 0, none⟩ 1 1 [.string ⟨#[x]⟩, .string ⟨y.toArray⟩] rfl rfl (cells_new _ _ _) (two_one _ _) (by unfold maxLen; omega) (by omega) (by have := hgr.size; simp; omega) ?_; intro v2 w2 h2_ hgw_ _))
      have hg2 : w1.grownBy w2 none := gr_grown (gr_alloc hgr _) hgw_ (fun gg e => .inr (hown1.lt gg e).1)
      have hw9 : SgnFrom w1.heap.size w2 v2 (codeT.take (k + 1)) := by
        unfold SgnFrom
        rw [HT.out, wdCells_snoc, show (codeT.take k ++ [(x, y)]).length = k + 1 by simp [codeT_len]; omega]
        exact h2_
      go_wp2_with fail
      go_roundw
      case rel => exact ⟨k + 1, by omega, by go_num, hw9, hg2⟩
      case measure => simp [intOf]; omega
    · have hf : codeT.take k = codeT := List.take_of_length_le (by rw [codeT_len]; omega)
      have HF := Lib.hid hf
      have hj0 : ¬ (k : Int) < (N : Int) := by omega
      have HO := Lib.hid hown1
      clear hf hown1 hlen hA2
      go_wp2_with fail
      go_ret
      refine ⟨_, rfl, ?_, gr_trans hG1 hgr⟩
      have h := HO.out
      rw [HF.out] at h
      obtain rfl : k = 40 := by omega
      unfold SgnFrom
      rw [codeT_len]
      exact ownsRow_low h hG1.size

theorem sign_at (c : UInt8) (h : codeOf c ≠ []) : ∃ k, ∃ hk : k < codeT.length, Lib.indexByte signL c = (k : Int) ∧ codeT[k].2 = codeOf c := by
  have H : ∀ n : Fin 256, codeOf (UInt8.ofNat n.val) ≠ [] → 0 ≤ Lib.indexByte signL (UInt8.ofNat n.val) ∧ Lib.indexByte signL (UInt8.ofNat n.val) < 40 ∧ (codeT.getD (Lib.indexByte signL (UInt8.ofNat n.val)).toNat (0, [])).2 = codeOf (UInt8.ofNat n.val) := by decide +kernel
  have := H ⟨c.toNat, c.toNat_lt⟩
  simp only [UInt8.ofNat_toNat] at this
  obtain ⟨h1, h2, h3⟩ := this h
  obtain ⟨k, hk⟩ := Int.eq_ofNat_of_zero_le h1
  rw [hk] at h2 h3
  have hkl : k < codeT.length := by rw [codeT_len]; omega
  refine ⟨k, hkl, hk, ?_⟩
  rw [List.getD_eq_getElem?_getD] at h3
  simpa [hkl] using h3
theorem index_sign (x : UInt8) (w : World) : Calls Tryz.prog 96 #[.string ⟨#[97, 98, 99, 100, 101, 102, 103, 104, 105, 106, 107, 108, 109, 110, 111, 112, 113, 114, 115, 116, 117, 118, 119, 120, 121, 122, 48, 49, 50, 51, 52, 53, 54, 55, 56, 57, 47, 63, 61, 43]⟩, .int .u8 x.toNat] w fun e w' => e = .returned (.int .i64 (Lib.indexByte signL x)) ∧ w = w' :=
  (Tryz.strings_IndexByte _ _ w).mono fun e w' ⟨he, hw⟩ => ⟨by
    rw [he]
    have : ((x.toNat : Int)).toNat.toUInt8 = x := by simp
    rw [this]
    rfl, hw.symm⟩
set_option maxRecDepth 100000 in
set_option maxHeartbeats 2000000 in
theorem refCode_any (b : Nat) (c : UInt8) (w : World) (hgl : Gl b w) (hc : codeOf c ≠ []) :
    Calls Tryz.prog 103 #[.int .u8 (c.toNat : Int)] w fun e w' => e = .returned (.string (codeS c)) ∧ w.grownBy w' none := by
  obtain ⟨k, hk, hik, hck⟩ := sign_at c hc
  have HGL := Lib.hid hgl
  have HIK := Lib.hid hik
  have HCK := Lib.hid hck
  have HC := Lib.hid hc
  clear hgl hik hck hc
  go_enter Tryz.func103, Tryz.ntmps103
  go_wp2_with fail
  refine (refCodes_any b _ HGL.out).mono ?_
  rintro _ w1 ⟨v, rfl, hv, hG1⟩
  obtain ⟨A1, c1, rfl, hl9, hA1⟩ := hv.shape
  obtain ⟨g1, rfl, hg1, hg2⟩ := hA1 (by rw [codeT_len]; omega)
  obtain ⟨c0, c2⟩ := hv.at1 k hk
  rw [HCK.out] at c2
  have hkN : (k : Int) < (codeT.length : Int) := by omega
  go_wp2_with fail
  refine (index_sign c _).mono ?_
  rintro _ _ ⟨rfl, rfl⟩
  rw [HIK.out]
  go_wp2_with fail
  go_ret
  exact ⟨rfl, hG1⟩

/-! ### KeyedOf -/
def keyStep (unit : Int) (st : List Int × Int) (e : UInt8) : List Int × Int := ((if st.1 = [] then [] else st.1 ++ [st.2]) ++ [if e = 46 then unit else 3 * unit], unit)
def signStep (unit slow : Int) (st : List Int × Int) (c : UInt8) : List Int × Int := if c = 32 then (st.1, 7 * slow) else (((codeOf c).foldl (keyStep unit) st).1, 3 * slow)
def keyedL (s : List UInt8) (unit slow : Int) : List Int := (s.foldl (signStep unit slow) ([], 0)).1
theorem keyStep_len (unit : Int) (st : List Int × Int) (e : UInt8) : (keyStep unit st e).1.length ≤ st.1.length + 2 := by
  unfold keyStep
  split <;> simp_all
theorem take_foldl {α β : Type} (f : α → β → α) (a : α) (l : List β) (k : Nat) (h : k < l.length) : (l.take (k + 1)).foldl f a = f ((l.take k).foldl f a) l[k] := by
  rw [List.take_succ_eq_append_getElem h, List.foldl_append]; rfl
theorem codeOf_dash (c : UInt8) : ∀ e ∈ codeOf c, e = 46 ∨ e = 45 := by
  have h : ∀ n : Fin 256, ∀ e ∈ codeOf (UInt8.ofNat n.val), e = 46 ∨ e = 45 := by decide +kernel
  have := h ⟨c.toNat, c.toNat_lt⟩
  simpa using this
theorem own_ne_iter {w : World} {base : Nat} {e : TypeId} {size : Nat} {v : Value} {n : Nat} {xs : List Value} (h : w.ownsRow base e size v n xs) {k : Nat} {s : ByteArray} {p : Nat} (hk : w.heap[k]? = some (.stringIter s p)) : v.ownBlock = none ∨ v.ownBlock ≠ some k := by
  rcases h.2 with ⟨rfl, _⟩ | ⟨g, cap, cur, rfl, _, hb, _⟩
  · exact .inl rfl
  · refine .inr fun e1 => ?_
    have : g = k := by simpa [Value.ownBlock] using e1
    subst this
    rw [hk] at hb
    cases hb
theorem gr_iterAt {a w : World} (h : a.grownBy w none) {k : Nat} (hk : a.heap.size ≤ k) (s : ByteArray) (p : Nat) : a.grownBy (w.iterAt k s p) none :=
  gr_grown h ⟨rfl, rfl, rfl, by rw [Lib.iterAt_size]; exact Nat.le_refl _, fun i hi hne => Lib.iterAt_other w k i s p (fun e => hne (by rw [e]))⟩ (fun g e => by injection e with e; exact .inr (by omega))
theorem gr_iter1 (w : World) (k : Nat) (s : ByteArray) (p : Nat) : w.grownBy (w.iterAt k s p) (some k) :=
  ⟨rfl, rfl, rfl, by rw [Lib.iterAt_size]; exact Nat.le_refl _, fun i hi hne => Lib.iterAt_other w k i s p (fun e => hne (by rw [e]))⟩

theorem iter_kept {w w' : World} {row : Option Nat} {k p : Nat} {s : ByteArray} (h : w.heap[k]? = some (.stringIter s p)) (hg : w.grownBy w' row) (hr : row ≠ some k) : w'.heap[k]? = some (.stringIter s p) :=
  (hg.block k (Array.getElem?_eq_some_iff.1 h).1 (fun e => hr e.symm)).trans h
theorem own_iter {w : World} {base : Nat} {e : TypeId} {size : Nat} {v : Value} {n : Nat} {xs : List Value} (h : w.ownsRow base e size v n xs) {k : Nat} {s : ByteArray} {p : Nat} (hk : w.heap[k]? = some (.stringIter s p)) : v.ownBlock ≠ some k := by
  rcases own_ne_iter h hk with h1 | h1
  · rw [h1]; simp
  · exact h1
end Go.Proofs.YtlodmkdhlmineaaGreatDoor
