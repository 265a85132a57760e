/- A map from codes to signs that the program has made, as a list of pairs of which the last one counts; the walks over key.byCodes and key.signOf. Condition: asciiSpace is Go's own table. -/
import Derived.Test.YtlodmkdhlmineaaGreatDoorKeyA
import Derived.Test.YtlodmkdhlmineaaGreatDoorHearPlain
import Derived.Maps.OwnSet
namespace Go.Proofs.YtlodmkdhlmineaaGreatDoor
open Go.RowKit
set_option linter.unusedVariables false
set_option linter.unusedSimpArgs false

def valC (l : List (UInt8 × List UInt8)) (k : List UInt8) : List UInt8 := l.foldl (fun acc p => if p.2 = k then [p.1] else acc) []
def hasC (l : List (UInt8 × List UInt8)) (k : List UInt8) : Bool := l.any fun p => decide (p.2 = k)
theorem valC_snoc (l : List (UInt8 × List UInt8)) (x : UInt8) (y k : List UInt8) : valC (l ++ [(x, y)]) k = if y = k then [x] else valC l k := by simp [valC]
theorem hasC_snoc (l : List (UInt8 × List UInt8)) (x : UInt8) (y k : List UInt8) : hasC (l ++ [(x, y)]) k = (hasC l k || decide (y = k)) := by simp [hasC]
theorem valC_codes : codeT.all (fun p => decide (valC codeT p.2 = [p.1]) && decide (signOfL p.2 = [p.1])) = true := by decide +kernel
theorem signOfL_is (k : List UInt8) : signOfL k = if hasC codeT k then valC codeT k else [42] := by
  by_cases h : hasC codeT k = true
  · rw [if_pos h]
    unfold hasC at h
    rw [List.any_eq_true] at h
    obtain ⟨p, hp, he⟩ := h
    rw [decide_eq_true_eq] at he
    have := List.all_eq_true.1 valC_codes p hp
    rw [Bool.and_eq_true, decide_eq_true_eq, decide_eq_true_eq, he] at this
    rw [this.1, this.2]
  · rw [if_neg h]
    unfold hasC at h
    rw [Bool.not_eq_true, List.any_eq_false] at h
    unfold signOfL
    rw [List.find?_eq_none.2 h]

def MapC (w : World) (bm n : Nat) (l : List (UInt8 × List UInt8)) : Prop :=
  ∃ D : DataW Unit, w.ownsMap Tryz.prog 9 (plainElem Tryz.prog 9) bm n D ∧ Maps.IsMap D ∧ (∀ k, D.atKey (.string k) (.lit (.string [])) = .lit (.string (valC l k))) ∧ ∀ k, Maps.has D (.string k) = hasC l k
theorem strKC : Maps.Keyed Tryz.prog 9 := Maps.string_keyed Tryz.underlying9
theorem str_keyC (s : ByteArray) (h : s.size ≤ 1000000) : keyOf Tryz.prog 9 (.string s) = some (.string s.data.toList) :=
  WideMaps.keyOf_string_mk Tryz.underlying9 (by unfold maxLen; omega)
theorem MapC.lt {w : World} {bm n : Nat} {l : List (UInt8 × List UInt8)} (h : MapC w bm n l) : bm < w.heap.size := by obtain ⟨D, h1, _⟩ := h; exact h1.lt
theorem MapC.made (w : World) : MapC (w.alloc (.map #[] 0)) w.heap.size 0 [] := ⟨_, World.ownsMap_made w _ _ _, Maps.isMap_empty, fun k => rfl, fun k => rfl⟩
theorem MapC.kept {w w' : World} {bm n : Nat} {l : List (UInt8 × List UInt8)} (h : MapC w bm n l) {row : Option Nat} (hg : w.grownBy w' row) (hr : some bm ≠ row) : MapC w' bm n l := by
  obtain ⟨D, h1, h2⟩ := h
  exact ⟨D, h1.kept hg hr, h2⟩
theorem MapC.quiet {w w' : World} {bm n : Nat} {l : List (UInt8 × List UInt8)} (h : MapC w bm n l) (hg : w.grownBy w' none) : MapC w' bm n l := h.kept hg (by simp)
theorem MapC.look {w : World} {bm n : Nat} {l : List (UInt8 × List UInt8)} (h : MapC w bm n l) (s : ByteArray) (hs : s.size ≤ 1000000) :
    (Instr.lookup 154 (.map (some bm)) (.string s) true).run Tryz.prog w = .ok (.tuple #[.string ⟨(valC l s.data.toList).toArray⟩, .bool (hasC l s.data.toList)]) w := by
  obtain ⟨D, h1, h2, h3, h4⟩ := h
  obtain ⟨v, ps, hrun, hv⟩ := h1.look_ok strKC Tryz.underlying154 (z := .string ⟨#[]⟩) (by kernel_rfl) (plainElem_string Tryz.underlying9 (by decide)) (str_keyC s hs)
  rw [show (⟨#[]⟩ : ByteArray).data.toList = [] from rfl, h3] at hv
  obtain ⟨t, rfl, ht, _⟩ := plainElem_string_inv Tryz.underlying9 hv
  simp only [Prod.mk.injEq, DataW.lit.injEq, Lit.string.injEq] at ht
  rw [ht.1, ← h4]
  exact hrun
theorem MapC.put {w : World} {bm n : Nat} {l : List (UInt8 × List UInt8)} (h : MapC w bm n l) (hn : n ≤ 1000000) (x : UInt8) (y : List UInt8) (hy : y.length ≤ 1000000) :
    ∃ w', (Instr.mapUpdate 154 (.map (some bm)) (.string ⟨y.toArray⟩) (.string ⟨#[x]⟩)).run Tryz.prog w = .ok () w' ∧ MapC w' bm (n + 1) (l ++ [(x, y)]) ∧ w.grownBy w' (some bm) := by
  obtain ⟨D, h1, h2, h3, h4⟩ := h
  obtain ⟨w', hrun, ho, hg⟩ := h1.update strKC Tryz.underlying154 (by unfold maxLen; omega) (str_keyC ⟨y.toArray⟩ (by show y.toArray.size ≤ _; simp; omega)) (plainElem_string (s := ⟨#[x]⟩) Tryz.underlying9 (by unfold maxLen; show (1 : Nat) ≤ _; omega))
  refine ⟨w', hrun, ⟨_, ho, h2.put _ _, fun k => ?_, fun k => ?_⟩, hg⟩
  · rw [valC_snoc]
    by_cases e : y = k
    · subst e
      rw [if_pos rfl]
      exact Maps.atKey_put_same h2 (k := .string y) (by trivial) _ _
    · rw [if_neg e]
      refine (Maps.atKey_put_other (by intro h; injection h with h; exact e h.symm) _ _).trans (h3 k)
  · rw [hasC_snoc]
    by_cases e : y = k
    · subst e
      refine (Maps.has_put_same h2 (k := .string y) (by trivial) _).trans ?_
      simp
    · refine (Maps.has_put_other (by intro h; injection h with h; exact e h.symm) _).trans ?_
      rw [h4 k]
      simp [e]

set_option maxRecDepth 100000 in
set_option maxHeartbeats 2000000 in
theorem byCodes_any (b : Nat) (w : World) (hgl : Gl b w) :
    Calls Tryz.prog 132 #[] w fun e w' => ∃ bm, e = .returned (.map (some bm)) ∧ w.heap.size ≤ bm ∧ MapC w' bm 40 codeT ∧ w.grownBy w' none := by
  have HGL := Lib.hid hgl
  clear hgl
  have hmm := @run_makeMap Tryz.prog
  go_enter Tryz.func132, Tryz.ntmps132
  go_wp2_with fail
  clear hmm
  have hM0 := MapC.made w
  have hlt0 := hM0.lt
  refine (codes_any b _ (HGL.out.quiet (World.grownBy_alloc w _ none))).mono ?_
  rintro _ w1 ⟨v, rfl, hv, hg1⟩
  have hM1 := hM0.quiet hg1
  have hG1 := gr_trans (World.grownBy_alloc w (.map #[] 0) none) hg1
  obtain ⟨A, c, hve, hvl, hvA⟩ := hv.shape
  subst hve
  obtain ⟨g, hAg, hg0, _⟩ := hvA (by rw [codeT_len]; decide)
  subst hAg
  rw [codeT_len] at hv ⊢
  have hgm : w.heap.size < g := by simp at hg0; omega
  have HV := Lib.hid (show SgnFrom (w.alloc (.map #[] 0)).heap.size w1 (.slice (some ⟨g, 0, none⟩) codeT.length c) codeT by rw [codeT_len]; exact hv)
  have hsz1 := hg1.size
  clear hv hvl hvA hM0 hg1
  go_wp2_with fail
  go_loopw [7] (fun i wr => ∃ k : Nat, k ≤ 40 ∧ i = .int .i64 k ∧ MapC wr w.heap.size k (codeT.take k) ∧ w1.grownBy wr (some w.heap.size)) (fun i _ => 40 - (intOf i).toNat)
  case atStart => exact ⟨0, by omega, rfl, hM1, gr_refl _ _⟩
  case round =>
    obtain ⟨k, hk, rfl, hM, hgr⟩ := hrel
    by_cases hlt : k < 40
    · have hkl : k < codeT.length := by rw [codeT_len]; exact hlt
      have hat1 := (SgnFrom.other HV.out hgr (by simp)).at1 k hkl
      have hsh := codeT_short codeT[k] (List.getElem_mem hkl)
      have htk : codeT.take (k + 1) = codeT.take k ++ [(codeT[k].1, codeT[k].2)] := by
        rw [List.take_succ_eq_append_getElem hkl]
      obtain ⟨x, hx⟩ : ∃ x, codeT[k].1 = x := ⟨_, rfl⟩
      obtain ⟨y, hy⟩ : ∃ y, codeT[k].2 = y := ⟨_, rfl⟩
      rw [hx, hy] at hat1 htk
      rw [hy] at hsh
      obtain ⟨q1, q2⟩ := hat1
      have HT := Lib.hid htk
      have hlt2 : (k : Int) < 40 := by omega
      have hzr := hgr.size
      have hMlt := hM.lt
      clear htk hx hy hM1
      go_wp2_with fail
      have hB := Blk.new wr 100 #[.string ⟨#[x]⟩, .string ⟨y.toArray⟩]
      have hMA := hM.quiet (World.grownBy_alloc wr (.cells #[.string ⟨#[x]⟩, .string ⟨y.toArray⟩] 100) none)
      have hGA := gr_alloc hgr (.cells #[.string ⟨#[x]⟩, .string ⟨y.toArray⟩] 100)
      have hBl : wr.heap.size < (wr.alloc (.cells #[.string ⟨#[x]⟩, .string ⟨y.toArray⟩] 100)).heap.size := hB.lt
      generalize wr.alloc (.cells #[.string ⟨#[x]⟩, .string ⟨y.toArray⟩] 100) = W at *
      have b0 : W.cell? ⟨wr.heap.size, 0, none⟩ = some (.string ⟨#[x]⟩) := hB.cell 0
      have b1 : W.cell? ⟨wr.heap.size, 1, none⟩ = some (.string ⟨y.toArray⟩) := hB.cell 1
      obtain ⟨w9, hrun, hM9, hg9⟩ := MapC.put (w := W) hMA (by omega) x y (by omega)
      go_wp2_with fail
      rw [hrun]
      simp only [Result.andThen]
      go_wp2_with fail
      go_roundw
      case rel => exact ⟨k + 1, by omega, by go_num, by rw [HT.out]; exact hM9, gr_grown hGA hg9 (fun g e => .inl e)⟩
      case measure => simp [intOf]; omega
    · have hf : codeT.take k = codeT := List.take_of_length_le (by rw [codeT_len]; omega)
      rw [hf] at hM
      obtain rfl : k = 40 := by omega
      clear hf hM1
      go_wp2_with fail
      go_ret
      exact ⟨_, rfl, Nat.le_refl _, hM, gr_grown hG1 hgr (fun g e => by injection e with e; exact .inr (by omega))⟩

set_option maxHeartbeats 1000000 in
theorem signOf_s (bm n : Nat) (s : ByteArray) (w : World) (hM : MapC w bm n codeT) (hs : s.size ≤ 1000000) :
    Calls Tryz.prog 134 #[.map (some bm), .string s] w fun e w' => e = .returned (.string ⟨(signOfL s.data.toList).toArray⟩) ∧ w = w' := by
  have hrun := hM.look s hs
  have HS : Hid (signOfL s.data.toList = if hasC codeT s.data.toList then valC codeT s.data.toList else [42]) := signOfL_is _
  generalize hasC codeT s.data.toList = B at *
  generalize valC codeT s.data.toList = V at *
  generalize signOfL s.data.toList = R at *
  cases B
  · go_enter Tryz.func134, Tryz.ntmps134
    go_wp2_with fail
    go_ret
    exact ⟨by rw [HS.out]; rfl, rfl⟩
  · go_enter Tryz.func134, Tryz.ntmps134
    go_wp2_with fail
    go_ret
    exact ⟨by rw [HS.out]; rfl, rfl⟩
theorem signOf_any (bm n : Nat) (l : List UInt8) (w : World) (hM : MapC w bm n codeT) (hs : l.length ≤ 1000000) :
    Calls Tryz.prog 134 #[.map (some bm), .string ⟨l.toArray⟩] w fun e w' => e = .returned (.string ⟨(signOfL l).toArray⟩) ∧ w = w' :=
  signOf_s bm n ⟨l.toArray⟩ w hM (by show l.toArray.size ≤ _; simpa using hs)
end Go.Proofs.YtlodmkdhlmineaaGreatDoor
