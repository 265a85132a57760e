/- The walk over the reference StepsBetween: the steps between two strings, by a closure with a map of what is known. Condition: strings of at most 14 bytes. -/
import Derived.Test.YtlodmkdhlmineaaGreatDoorStepsRev
import Derived.Test.YtlodmkdhlmineaaGreatDoorByCodes
import Derived.WideKeyPair
import Derived.WalkArith
import Derived.Deep.RegionHeld
import Derived.Deep.DeepCutAuto
namespace Go.Proofs.YtlodmkdhlmineaaGreatDoor
open Go.RowKit
set_option linter.unusedVariables false
set_option linter.unusedSimpArgs false

theorem btwLaid : laidOutB Tryz.prog = true := by kernel_rfl
theorem pairArr : Go.WideMaps.ArrKey Tryz.prog 78 3 2 := ⟨Tryz.underlying78, by kernel_rfl, by kernel_rfl, by kernel_rfl⟩
theorem pairLaw : Maps.Keyed Tryz.prog 78 := Maps.Keyed.of_law (deep_law_laid btwLaid (m := 2) (by omega) (of_decide_eq_true (by kernel_rfl)) (by kernel_rfl) (by rw [Tryz.underlying78]))
def kLit (i k : Nat) : Lit := .string (keyBytes [.int .i64 i, .int .i64 k])
theorem pairKey (i k : Nat) (hi : i ≤ 100) (hk : k ≤ 100) : keyOf Tryz.prog 78 (.agg #[.int .i64 (i : Int), .int .i64 (k : Int)]) = some (kLit i k) :=
  Go.WideMaps.keyOf_pair pairArr Tryz.underlying3 ⟨Tryz.prog.types.size - 1, by have : 0 < Tryz.prog.types.size := of_decide_eq_true (by kernel_rfl); omega⟩ (WalkArith.wf_i64 ⟨by omega, by omega⟩) (WalkArith.wf_i64 ⟨by omega, by omega⟩)
theorem pair_inj {i k i' k' : Nat} (hi : i ≤ 100) (hk : k ≤ 100) (hi' : i' ≤ 100) (hk' : k' ≤ 100) (h : kLit i k = kLit i' k') : i = i' ∧ k = k' := by
  have h1 := pairLaw.inj (pairKey i k hi hk) (by rw [h]; exact pairKey i' k' hi' hk')
  simp only [Value.agg.injEq, Array.mk.injEq, List.cons.injEq, Value.int.injEq] at h1
  omega
/-- A map that holds right numbers alone. -/
def MapM (a b : List UInt8) (W : World) (bm n : Nat) : Prop :=
  ∃ D : DataW Unit, W.ownsMap Tryz.prog 78 (plainElem Tryz.prog 3) bm n D ∧ Maps.IsMap D ∧ ∀ i k, i ≤ 100 → k ≤ 100 → Maps.has D (kLit i k) = true → D.atKey (kLit i k) (.lit (.int .i64 0)) = .lit (.int .i64 (sfx a b i k : Nat))
theorem MapM.made (a b : List UInt8) (w : World) : MapM a b (w.alloc (.map #[] 0)) w.heap.size 0 := ⟨_, World.ownsMap_made w _ _ _, Maps.isMap_empty, fun i k _ _ h => by cases h⟩
theorem MapM.kept {a b : List UInt8} {w w' : World} {bm n : Nat} (h : MapM a b w bm n) {row : Option Nat} (hg : w.grownBy w' row) (hr : some bm ≠ row) : MapM a b w' bm n := by
  obtain ⟨D, h1, h2⟩ := h
  exact ⟨D, h1.kept hg hr, h2⟩
theorem MapM.more {a b : List UInt8} {w : World} {bm n n' : Nat} (h : MapM a b w bm n) (hn : n ≤ n') : MapM a b w bm n' := by
  obtain ⟨D, ⟨es, cl, h1, h2, h3, h4⟩, h5⟩ := h
  exact ⟨D, ⟨es, cl, h1, h2, Nat.le_trans h3 hn, h4⟩, h5⟩
theorem MapM.look {a b : List UInt8} {w : World} {bm n : Nat} (h : MapM a b w bm n) (i k : Nat) (hi : i ≤ 100) (hk : k ≤ 100) :
    (∃ v : Int, (Instr.lookup 76 (.map (some bm)) (.agg #[.int .i64 (i : Int), .int .i64 (k : Int)]) true).run Tryz.prog w = .ok (.tuple #[.int .i64 v, .bool false]) w) ∨
    (Instr.lookup 76 (.map (some bm)) (.agg #[.int .i64 (i : Int), .int .i64 (k : Int)]) true).run Tryz.prog w = .ok (.tuple #[.int .i64 (sfx a b i k : Nat), .bool true]) w := by
  obtain ⟨D, h1, h2, h3⟩ := h
  obtain ⟨v, ps, hrun, hv⟩ := h1.look_ok pairLaw Tryz.underlying76 (z := .int .i64 0) (by kernel_rfl) (plainElem_int Tryz.underlying3 (by decide)) (pairKey i k hi hk)
  obtain ⟨c, rfl, hc, _⟩ := plainElem_int_inv Tryz.underlying3 hv
  cases hh : Maps.has D (kLit i k)
  · rw [hh] at hrun
    exact .inl ⟨c, hrun⟩
  · rw [hh] at hrun
    rw [h3 i k hi hk hh] at hc
    simp only [Prod.mk.injEq, DataW.lit.injEq, Lit.int.injEq] at hc
    have e : c = (sfx a b i k : Nat) := by first | exact hc.1.2.symm | exact hc.1.2
    rw [e] at hrun
    exact .inr hrun
theorem MapM.put {a b : List UInt8} {w : World} {bm n : Nat} (h : MapM a b w bm n) (hn : n < maxLen) (i k : Nat) (hi : i ≤ 100) (hk : k ≤ 100) (hs : sfx a b i k ≤ 1000) :
    ∃ w', (Instr.mapUpdate 76 (.map (some bm)) (.agg #[.int .i64 (i : Int), .int .i64 (k : Int)]) (.int .i64 (sfx a b i k : Nat))).run Tryz.prog w = .ok () w' ∧ MapM a b w' bm (n + 1) ∧ w.grownBy w' (some bm) := by
  obtain ⟨D, h1, h2, h3⟩ := h
  obtain ⟨w', hrun, ho, hg⟩ := h1.update pairLaw Tryz.underlying76 hn (pairKey i k hi hk) (plainElem_int (a := ((sfx a b i k : Nat) : Int)) Tryz.underlying3 (WalkArith.wf_i64 ⟨by omega, by omega⟩))
  refine ⟨w', hrun, ⟨_, ho, h2.put _ _, fun i' k' hi' hk' hh => ?_⟩, hg⟩
  by_cases e : i = i' ∧ k = k'
  · obtain ⟨rfl, rfl⟩ := e
    exact Maps.atKey_put_same h2 (k := kLit i k) (by trivial) _ _
  · have hne : kLit i' k' ≠ kLit i k := fun e2 => e (by obtain ⟨h4, h5⟩ := pair_inj hi' hk' hi hk e2; exact ⟨h4.symm, h5.symm⟩)
    rw [Maps.has_put_other hne] at hh
    exact (Maps.atKey_put_other hne _ _).trans (h3 i' k' hi' hk' hh)

/-- The closure's variables, and the map. -/
structure Mem (a b : ByteArray) (x2 x3 x5 x6 bm n : Nat) (F : Value) (W : World) : Prop where
  ca : W.cell? ⟨x2, 0, none⟩ = some (.string a)
  cb : W.cell? ⟨x3, 0, none⟩ = some (.string b)
  cm : W.cell? ⟨x5, 0, none⟩ = some (.map (some bm))
  cf : W.cell? ⟨x6, 0, none⟩ = some F
  mp : MapM a.data.toList b.data.toList W bm n
theorem Mem.drew {a b : ByteArray} {x2 x3 x5 x6 bm n : Nat} {F : Value} {W : World} (h : Mem a b x2 x3 x5 x6 bm n F W) : Mem a b x2 x3 x5 x6 bm n F W.drew := ⟨h.ca, h.cb, h.cm, h.cf, h.mp.kept (gr_drew (gr_refl W none)) (by simp)⟩
theorem Mem.more {a b : ByteArray} {x2 x3 x5 x6 bm n n' : Nat} {F : Value} {W : World} (h : Mem a b x2 x3 x5 x6 bm n F W) (hn : n ≤ n') : Mem a b x2 x3 x5 x6 bm n' F W := ⟨h.ca, h.cb, h.cm, h.cf, h.mp.more hn⟩
theorem Mem.turned {a b : ByteArray} {x2 x3 x5 x6 bm n n' : Nat} {F : Value} {W W' : World} (h : Mem a b x2 x3 x5 x6 bm n F W) (hg : W.grownBy W' (some bm)) (h2 : x2 ≠ bm) (h3 : x3 ≠ bm) (h5 : x5 ≠ bm) (h6 : x6 ≠ bm) (hm : MapM a.data.toList b.data.toList W' bm n') : Mem a b x2 x3 x5 x6 bm n' F W' :=
  ⟨hg.cell h.ca (by intro e; injection e with e; exact h2 e), hg.cell h.cb (by intro e; injection e with e; exact h3 e), hg.cell h.cm (by intro e; injection e with e; exact h5 e), hg.cell h.cf (by intro e; injection e with e; exact h6 e), hm⟩
theorem sfx_le (a b : List UInt8) (i k : Nat) : sfx a b i k ≤ a.length + b.length := by
  unfold sfx
  have := osa_le a.reverse b.reverse (a.length - i) (b.length - k)
  omega
theorem ite_iff {p q : Prop} [Decidable p] [Decidable q] (h : p ↔ q) (x y : Nat) : (if p then x else y) = if q then x else y := by
  by_cases hp : p
  · rw [if_pos hp, if_pos (h.1 hp)]
  · rw [if_neg hp, if_neg (fun e => hp (h.2 e))]
/-- How many numbers are noted at most. -/
def tM (d : Nat) : Nat := 4 ^ d
theorem tM_pos (d : Nat) : 1 ≤ tM d := Nat.one_le_pow _ _ (by decide)
theorem tM_step {d : Nat} (h : 2 ≤ d) : tM d = 4 * tM (d - 1) ∧ tM (d - 1) = 4 * tM (d - 2) := by
  obtain ⟨e, rfl⟩ : ∃ e, d = e + 2 := ⟨d - 2, by omega⟩
  unfold tM
  refine ⟨?_, ?_⟩
  · rw [show e + 2 - 1 = e + 1 by omega, show e + 2 = (e + 1) + 1 by omega, Nat.pow_succ]; omega
  · rw [show e + 2 - 1 = e + 1 by omega, show e + 2 - 2 = e by omega, Nat.pow_succ]; omega
theorem tM_mono {d e : Nat} (h : d ≤ e) : tM d ≤ tM e := Nat.pow_le_pow_right (by decide) h
theorem tM_28 : tM 28 ≤ 100000000000000000 := by decide +kernel
def BtwPost (a b : ByteArray) (x2 x3 x5 x6 bm n i k d : Nat) (F : Value) (w : World) (e : Ending) (w' : World) : Prop := e = .returned (.int .i64 (sfx a.data.toList b.data.toList i k : Nat)) ∧ Mem a b x2 x3 x5 x6 bm (n + tM d) F w' ∧ w.grownBy w' (some bm)
set_option maxRecDepth 100000 in
set_option maxHeartbeats 8000000 in
theorem btw_any (a b : ByteArray) (x2 x3 x5 x6 bm : Nat) (h2 : x2 ≠ bm) (h3 : x3 ≠ bm) (h5 : x5 ≠ bm) (h6 : x6 ≠ bm) (ha : a.size ≤ 14) (hb : b.size ≤ 14) : ∀ (d i k n : Nat) (w : World), i ≤ a.size → k ≤ b.size → (a.size - i) + (b.size - k) = d → n + tM d ≤ 1000000000000000000 →
    Mem a b x2 x3 x5 x6 bm n (.func (.func 64) #[] #[.pointer (some ⟨x2, 0, none⟩), .pointer (some ⟨x3, 0, none⟩), .pointer (some ⟨x5, 0, none⟩), .pointer (some ⟨x6, 0, none⟩)]) w →
    Calls Tryz.prog 64 #[.int .i64 (i : Int), .int .i64 (k : Int), .pointer (some ⟨x2, 0, none⟩), .pointer (some ⟨x3, 0, none⟩), .pointer (some ⟨x5, 0, none⟩), .pointer (some ⟨x6, 0, none⟩)] w
      (BtwPost a b x2 x3 x5 x6 bm n i k d (.func (.func 64) #[] #[.pointer (some ⟨x2, 0, none⟩), .pointer (some ⟨x3, 0, none⟩), .pointer (some ⟨x5, 0, none⟩), .pointer (some ⟨x6, 0, none⟩)]) w) := fun d => by
  induction d using Nat.strongRecOn with
  | ind d ih =>
    intro i k n w hi hk hd hn hm
    obtain ⟨F, hF⟩ : ∃ F : Value, (Value.func (.func 64) #[] #[.pointer (some ⟨x2, 0, none⟩), .pointer (some ⟨x3, 0, none⟩), .pointer (some ⟨x5, 0, none⟩), .pointer (some ⟨x6, 0, none⟩)]) = F := ⟨_, rfl⟩
    rw [hF] at ih hm ⊢
    have hla : a.data.toList.length = a.size := by simp
    have hlb : b.data.toList.length = b.size := by simp
    have HPOST : Hid (∀ e w', (e = .returned (.int .i64 (sfx a.data.toList b.data.toList i k : Nat)) ∧ Mem a b x2 x3 x5 x6 bm (n + tM d) F w' ∧ w.grownBy w' (some bm)) → BtwPost a b x2 x3 x5 x6 bm n i k d F w e w') := fun e w' h => h
    have htp := tM_pos d
    have c2 := hm.ca
    have c3 := hm.cb
    have c5 := hm.cm
    have c6 := hm.cf
    rw [← hF] at c6
    have hsb := sfx_le a.data.toList b.data.toList i k
    by_cases hia : i = a.size
    · have hib : ((i : Int) == (a.size : Int)) = true := by rw [beq_iff_eq]; omega
      have HE := Lib.hid (sfx_end a.data.toList b.data.toList i k (.inl (by omega)) (by omega) (by omega))
      have HIA := Lib.hid hia
      have HM := Lib.hid hm
      clear ih hia hF hm hd c6
      go_enter Tryz.func64, Tryz.ntmps64
      go_wp2_with fail
      go_ret
      exact HPOST.out _ _ ⟨ret_of (by have := HE.out; have := HIA.out; omega), HM.out.more (by omega), gr_refl _ _⟩
    · have hib : ((i : Int) == (a.size : Int)) = false := by rw [beq_eq_false_iff_ne]; omega
      by_cases hkb0 : k = b.size
      · have hkb : ((k : Int) == (b.size : Int)) = true := by rw [beq_iff_eq]; omega
        have HE := Lib.hid (sfx_end a.data.toList b.data.toList i k (.inr (by omega)) (by omega) (by omega))
        have HIA := Lib.hid hkb0
        have HM := Lib.hid hm
        clear ih hia hF hm hd hkb0 c6
        go_enter Tryz.func64, Tryz.ntmps64
        go_wp2_with fail
        go_ret
        exact HPOST.out _ _ ⟨ret_of (by have := HE.out; have := HIA.out; omega), HM.out.more (by omega), gr_refl _ _⟩
      · have hkb : ((k : Int) == (b.size : Int)) = false := by rw [beq_eq_false_iff_ne]; omega
        have hil : i < a.size := by omega
        have hkl : k < b.size := by omega
        rcases hm.mp.look i k (by omega) (by omega) with ⟨v, hlk⟩ | hlk
        · -- not known yet
          have hd2 : 2 ≤ d := by omega
          obtain ⟨t1, t2⟩ := tM_step hd2
          have t3 := tM_pos (d - 2)
          have t28 := tM_28
          have t4 := tM_mono (show d ≤ 28 by omega)
          have hst := sfx_step a.data.toList b.data.toList (i := i) (k := k) (by omega) (by omega)
          have H1 : Hid (∀ n' W, Mem a b x2 x3 x5 x6 bm n' F W → n' + tM (d - 1) ≤ 1000000000000000000 → Calls Tryz.prog 64 #[.int .i64 ((i : Int) + 1), .int .i64 (k : Int), .pointer (some ⟨x2, 0, none⟩), .pointer (some ⟨x3, 0, none⟩), .pointer (some ⟨x5, 0, none⟩), .pointer (some ⟨x6, 0, none⟩)] W fun e w' => e = .returned (.int .i64 (sfx a.data.toList b.data.toList (i + 1) k : Nat)) ∧ Mem a b x2 x3 x5 x6 bm (n' + tM (d - 1)) F w' ∧ W.grownBy w' (some bm)) := fun n' W hW hn' => ih (d - 1) (by omega) (i + 1) k n' W (by omega) (by omega) (by omega) hn' hW
          have H2 : Hid (∀ n' W, Mem a b x2 x3 x5 x6 bm n' F W → n' + tM (d - 1) ≤ 1000000000000000000 → Calls Tryz.prog 64 #[.int .i64 (i : Int), .int .i64 ((k : Int) + 1), .pointer (some ⟨x2, 0, none⟩), .pointer (some ⟨x3, 0, none⟩), .pointer (some ⟨x5, 0, none⟩), .pointer (some ⟨x6, 0, none⟩)] W fun e w' => e = .returned (.int .i64 (sfx a.data.toList b.data.toList i (k + 1) : Nat)) ∧ Mem a b x2 x3 x5 x6 bm (n' + tM (d - 1)) F w' ∧ W.grownBy w' (some bm)) := fun n' W hW hn' => ih (d - 1) (by omega) i (k + 1) n' W (by omega) (by omega) (by omega) hn' hW
          have H3 : Hid (∀ n' W, Mem a b x2 x3 x5 x6 bm n' F W → n' + tM (d - 2) ≤ 1000000000000000000 → Calls Tryz.prog 64 #[.int .i64 ((i : Int) + 1), .int .i64 ((k : Int) + 1), .pointer (some ⟨x2, 0, none⟩), .pointer (some ⟨x3, 0, none⟩), .pointer (some ⟨x5, 0, none⟩), .pointer (some ⟨x6, 0, none⟩)] W fun e w' => e = .returned (.int .i64 (sfx a.data.toList b.data.toList (i + 1) (k + 1) : Nat)) ∧ Mem a b x2 x3 x5 x6 bm (n' + tM (d - 2)) F w' ∧ W.grownBy w' (some bm)) := fun n' W hW hn' => ih (d - 2) (by omega) (i + 1) (k + 1) n' W (by omega) (by omega) (by omega) hn' hW
          have H4 : Hid (i + 1 < a.size → k + 1 < b.size → ∀ n' W, Mem a b x2 x3 x5 x6 bm n' F W → n' + tM (d - 2) ≤ 1000000000000000000 → Calls Tryz.prog 64 #[.int .i64 ((i : Int) + 2), .int .i64 ((k : Int) + 2), .pointer (some ⟨x2, 0, none⟩), .pointer (some ⟨x3, 0, none⟩), .pointer (some ⟨x5, 0, none⟩), .pointer (some ⟨x6, 0, none⟩)] W fun e w' => e = .returned (.int .i64 (sfx a.data.toList b.data.toList (i + 2) (k + 2) : Nat)) ∧ Mem a b x2 x3 x5 x6 bm (n' + tM (d - 2)) F w' ∧ W.grownBy w' (some bm)) := fun e1 e2 n' W hW hn' => by
            have h5 := tM_mono (show d - 4 ≤ d - 2 by omega)
            exact Calls.mono (ih (d - 4) (by omega) (i + 2) (k + 2) n' W (by omega) (by omega) (by omega) (by omega) hW) fun e w' ⟨q1, q2, q3⟩ => ⟨q1, q2.more (by omega), q3⟩
          have HF := Lib.hid hF
          have hbv : ∀ i k, sfx a.data.toList b.data.toList i k ≤ 28 := fun i k => by
            have := sfx_le a.data.toList b.data.toList i k
            omega
          have b1 := hbv (i + 1) k
          have b2 := hbv i (k + 1)
          have b3 := hbv (i + 1) (k + 1)
          have b4 := hbv (i + 2) (k + 2)
          have hca : a.data.toList.getD i 0 = a[i] := by rw [List.getD_eq_getElem?_getD, List.getElem?_eq_getElem (by omega)]; rfl
          have hcb : b.data.toList.getD k 0 = b[k] := by rw [List.getD_eq_getElem?_getD, List.getElem?_eq_getElem (by omega)]; rfl
          rw [hla, hlb, hca, hcb] at hst
          have HPUT : Hid (∀ W n', MapM a.data.toList b.data.toList W bm n' → n' < 1000000000000000001 → ∃ w', (Instr.mapUpdate 76 (.map (some bm)) (.agg #[.int .i64 (i : Int), .int .i64 (k : Int)]) (.int .i64 (sfx a.data.toList b.data.toList i k : Nat))).run Tryz.prog W = .ok () w' ∧ MapM a.data.toList b.data.toList w' bm (n' + 1) ∧ W.grownBy w' (some bm)) := fun W n' h hn' => h.put (by unfold maxLen; omega) i k (by omega) (by omega) (by have := hbv i k; omega)
          obtain ⟨A1, hA1⟩ : ∃ x, sfx a.data.toList b.data.toList (i + 1) k = x := ⟨_, rfl⟩
          obtain ⟨A2, hA2⟩ : ∃ x, sfx a.data.toList b.data.toList i (k + 1) = x := ⟨_, rfl⟩
          obtain ⟨A3, hA3⟩ : ∃ x, sfx a.data.toList b.data.toList (i + 1) (k + 1) = x := ⟨_, rfl⟩
          obtain ⟨A4, hA4⟩ : ∃ x, sfx a.data.toList b.data.toList (i + 2) (k + 2) = x := ⟨_, rfl⟩
          obtain ⟨V, hV⟩ : ∃ x, sfx a.data.toList b.data.toList i k = x := ⟨_, rfl⟩
          rw [hA1] at H1 b1 hst
          rw [hA2] at H2 b2 hst
          rw [hA3] at H3 b3 hst
          rw [hA4] at H4 b4 hst
          rw [hV] at hst HPUT HPOST
          have HST := Lib.hid hst
          obtain ⟨T1, hT1⟩ : ∃ x, tM (d - 1) = x := ⟨_, rfl⟩
          obtain ⟨T2, hT2⟩ : ∃ x, tM (d - 2) = x := ⟨_, rfl⟩
          obtain ⟨T, hT⟩ : ∃ x, tM d = x := ⟨_, rfl⟩
          rw [hT1] at H1 H2 t1 t2
          rw [hT2] at H3 H4 t2 t3
          rw [hT] at t1 t4 htp hn HPOST
          have hii : (i : Int) < (a.size : Int) := by omega
          have hki : (k : Int) < (b.size : Int) := by omega
          have hi0 : (0 : Int) ≤ (i : Int) := by omega
          have hk0 : (0 : Int) ≤ (k : Int) := by omega
          have hiw : IntKind.i64.wrap (i : Int) = (i : Int) := IntWalk.i64_in _ ⟨by omega, by omega⟩
          have hkw : IntKind.i64.wrap (k : Int) = (k : Int) := IntWalk.i64_in _ ⟨by omega, by omega⟩
          have hiw1 : IntKind.i64.wrap ((i : Int) + 1) = (i : Int) + 1 := IntWalk.i64_in _ ⟨by omega, by omega⟩
          have hkw1 : IntKind.i64.wrap ((k : Int) + 1) = (k : Int) + 1 := IntWalk.i64_in _ ⟨by omega, by omega⟩
          have hAw1 : IntKind.i64.wrap ((A1 : Int) + 1) = (A1 : Int) + 1 := IntWalk.i64_in _ ⟨by omega, by omega⟩
          have hAw2 : IntKind.i64.wrap ((A2 : Int) + 1) = (A2 : Int) + 1 := IntWalk.i64_in _ ⟨by omega, by omega⟩
          have hAw3 : IntKind.i64.wrap ((A3 : Int) + 1) = (A3 : Int) + 1 := IntWalk.i64_in _ ⟨by omega, by omega⟩
          have hAw4 : IntKind.i64.wrap ((A4 : Int) + 1) = (A4 : Int) + 1 := IntWalk.i64_in _ ⟨by omega, by omega⟩
          clear ih hia hkb0 hF hd hst hca hcb hbv hA1 hA2 hA3 hA4 hV hT1 hT2 hT hla hlb hsb t28 t4
          go_enter Tryz.func64, Tryz.ntmps64
          go_upto_region 6 with fail
          go_cut [11] (fun s wq => ∃ m : Nat, s = .int .i64 m ∧ m = min (min A1 A2) A3 + 1 ∧ Mem a b x2 x3 x5 x6 bm (n + 2 * T1 + T2) F wq ∧ w.grownBy wq (some bm))
          case first =>
            as_aux_lemma =>
              refine wp_region_held_drew (S := fun W => W.cell? ⟨x6, 0, none⟩ = some (.func (.func 64) #[] #[.pointer (some ⟨x2, 0, none⟩), .pointer (some ⟨x3, 0, none⟩), .pointer (some ⟨x5, 0, none⟩), .pointer (some ⟨x6, 0, none⟩)])) (by kernel_rfl) c6 (fun hHeld => ?_)
              refine wpAnyH_take (i := 0) (v := ?_) rfl (by kernel_rfl) (by kernel_rfl) (by kernel_rfl) (fun _ _ _ h => h) (Or.inl ⟨by kernel_rfl, ?_⟩) hHeld ?_
              rotate_left
              · intro w hSw
                (try dsimp only at hSw)
                go_simp
                (try with_reducible rfl)
              change wpAnyH _ _ _ _ _ _ _ (Act.put _ (some 41) _) _
              simp only [Act.put, List.setIfInBounds_toArray, List.set_cons_zero, List.set_cons_succ]
              refine wpAnyH_take (i := 1) (v := ?_) rfl (by kernel_rfl) (by kernel_rfl) (by kernel_rfl) (fun _ _ _ h => h) (Or.inl ⟨by kernel_rfl, ?_⟩) hHeld ?_
              rotate_left
              · intro w hSw
                (try dsimp only at hSw)
                go_simp
                (try with_reducible rfl)
              change wpAnyH _ _ _ _ _ _ _ (Act.put _ (some 42) _) _
              simp only [Act.put, List.setIfInBounds_toArray, List.set_cons_zero, List.set_cons_succ]
              refine wpAnyH_take (i := 2) (v := ?_) rfl (by kernel_rfl) (by kernel_rfl) (by kernel_rfl) (fun _ _ _ h => h) (Or.inl ⟨by kernel_rfl, ?_⟩) hHeld ?_
              rotate_left
              · intro w hSw
                (try dsimp only at hSw)
                go_simp
                (try with_reducible rfl)
              change wpAnyH _ _ _ _ _ _ _ (Act.put _ (some 43) _) _
              simp only [Act.put, List.setIfInBounds_toArray, List.set_cons_zero, List.set_cons_succ]
              refine wpAnyH_take (i := 3) (v := ?_) rfl (by kernel_rfl) (by kernel_rfl) (by kernel_rfl) (fun _ _ _ h => h) (Or.inl ⟨by kernel_rfl, ?_⟩) hHeld ?_
              rotate_left
              · intro w hSw
                (try dsimp only at hSw)
                go_simp
                (try with_reducible rfl)
              change wpAnyH _ _ _ _ _ _ _ (Act.put _ (some 44) _) _
              simp only [Act.put, List.setIfInBounds_toArray, List.set_cons_zero, List.set_cons_succ]
              refine wpAnyH_take (i := 5) (v := ?_) rfl (by kernel_rfl) (by kernel_rfl) (by kernel_rfl) (fun _ _ _ h => h) (Or.inl ⟨by kernel_rfl, ?_⟩) hHeld ?_
              rotate_left
              · intro w hSw
                (try dsimp only at hSw)
                go_simp
                (try with_reducible rfl)
              change wpAnyH _ _ _ _ _ _ _ (Act.put _ (some 46) _) _
              simp only [Act.put, List.setIfInBounds_toArray, List.set_cons_zero, List.set_cons_succ]
              refine wpAnyH_take (i := 6) (v := ?_) rfl (by kernel_rfl) (by kernel_rfl) (by kernel_rfl) (fun _ _ _ h => h) (Or.inl ⟨by kernel_rfl, ?_⟩) hHeld ?_
              rotate_left
              · intro w hSw
                (try dsimp only at hSw)
                go_simp
                (try with_reducible rfl)
              change wpAnyH _ _ _ _ _ _ _ (Act.put _ (some 47) _) _
              simp only [Act.put, List.setIfInBounds_toArray, List.set_cons_zero, List.set_cons_succ]
              refine wpAnyH_take (i := 7) (v := ?_) rfl (by kernel_rfl) (by kernel_rfl) (by kernel_rfl) (fun _ _ _ h => h) (Or.inl ⟨by kernel_rfl, ?_⟩) hHeld ?_
              rotate_left
              · intro w hSw
                (try dsimp only at hSw)
                go_simp
                (try with_reducible rfl)
              change wpAnyH _ _ _ _ _ _ _ (Act.put _ (some 48) _) _
              simp only [Act.put, List.setIfInBounds_toArray, List.set_cons_zero, List.set_cons_succ]
              refine wpAnyH_take (i := 8) (v := ?_) rfl (by kernel_rfl) (by kernel_rfl) (by kernel_rfl) (fun _ _ _ h => h) (Or.inl ⟨by kernel_rfl, ?_⟩) hHeld ?_
              rotate_left
              · intro w hSw
                (try dsimp only at hSw)
                go_simp
                (try with_reducible rfl)
              change wpAnyH _ _ _ _ _ _ _ (Act.put _ (some 49) _) _
              simp only [Act.put, List.setIfInBounds_toArray, List.set_cons_zero, List.set_cons_succ]
              refine wpAnyH_take (i := 10) (v := ?_) rfl (by kernel_rfl) (by kernel_rfl) (by kernel_rfl) (fun _ _ _ h => h) (Or.inl ⟨by kernel_rfl, ?_⟩) hHeld ?_
              rotate_left
              · intro w hSw
                (try dsimp only at hSw)
                go_simp
                (try with_reducible rfl)
              change wpAnyH _ _ _ _ _ _ _ (Act.put _ (some 51) _) _
              simp only [Act.put, List.setIfInBounds_toArray, List.set_cons_zero, List.set_cons_succ]
              refine wpAnyH_take (i := 11) (v := ?_) rfl (by kernel_rfl) (by kernel_rfl) (by kernel_rfl) (fun _ _ _ h => h) (Or.inl ⟨by kernel_rfl, ?_⟩) hHeld ?_
              rotate_left
              · intro w hSw
                (try dsimp only at hSw)
                go_simp
                (try with_reducible rfl)
              change wpAnyH _ _ _ _ _ _ _ (Act.put _ (some 52) _) _
              simp only [Act.put, List.setIfInBounds_toArray, List.set_cons_zero, List.set_cons_succ]
              refine wpAnyH_take (i := 12) (v := ?_) rfl (by kernel_rfl) (by kernel_rfl) (by kernel_rfl) (fun _ _ _ h => h) (Or.inl ⟨by kernel_rfl, ?_⟩) hHeld ?_
              rotate_left
              · intro w hSw
                (try dsimp only at hSw)
                go_simp
                (try with_reducible rfl)
              change wpAnyH _ _ _ _ _ _ _ (Act.put _ (some 53) _) _
              simp only [Act.put, List.setIfInBounds_toArray, List.set_cons_zero, List.set_cons_succ]
              refine wpAnyH_take (i := 13) (v := ?_) rfl (by kernel_rfl) (by kernel_rfl) (by kernel_rfl) (fun _ _ _ h => h) (Or.inl ⟨by kernel_rfl, ?_⟩) hHeld ?_
              rotate_left
              · intro w hSw
                (try dsimp only at hSw)
                go_simp
                (try with_reducible rfl)
              change wpAnyH _ _ _ _ _ _ _ (Act.put _ (some 54) _) _
              simp only [Act.put, List.setIfInBounds_toArray, List.set_cons_zero, List.set_cons_succ]
              refine wpAnyH_take (i := 14) (v := ?_) rfl (by kernel_rfl) (by kernel_rfl) (by kernel_rfl) (fun _ _ _ h => h) (Or.inl ⟨by kernel_rfl, ?_⟩) hHeld ?_
              rotate_left
              · intro w hSw
                (try dsimp only at hSw)
                go_simp
                (try with_reducible rfl)
              change wpAnyH _ _ _ _ _ _ _ (Act.put _ (some 55) _) _
              simp only [Act.put, List.setIfInBounds_toArray, List.set_cons_zero, List.set_cons_succ]
              refine wpAnyH_ready (rs := [4]) (by kernel_rfl) (by simp) ?_
              refine AllReadyH.cons (o := _) rfl (fun K hK => ?_) AllReadyH.nil
              go_simp
              ((go_at_call 64; refine (H1.out _ _ hm.drew (by omega)).mono ?_; rintro _ wN4 ⟨rfl, hm4, hg4⟩))
              refine hK.out _ _ (by have h := hm4.cf; rw [← HF.out] at h; exact h) (fun hHeld4 => ?_)
              clear hK K
              (try simp only [Act.put, List.setIfInBounds_toArray, List.set_cons_zero, List.set_cons_succ])
              refine wpAnyH_ready (rs := [9]) (by kernel_rfl) (by simp) ?_
              refine AllReadyH.cons (o := _) rfl (fun K hK => ?_) AllReadyH.nil
              go_simp
              ((go_at_call 64; refine (H2.out _ _ hm4 (by omega)).mono ?_; rintro _ wN9 ⟨rfl, hm9, hg9⟩))
              refine hK.out _ _ (by have h := hm9.cf; rw [← HF.out] at h; exact h) (fun hHeld9 => ?_)
              clear hK K
              (try simp only [Act.put, List.setIfInBounds_toArray, List.set_cons_zero, List.set_cons_succ])
              refine wpAnyH_ready (rs := [15]) (by kernel_rfl) (by simp) ?_
              refine AllReadyH.cons (o := _) rfl (fun K hK => ?_) AllReadyH.nil
              go_simp
              ((go_at_call 64; refine (H3.out _ _ hm9 (by omega)).mono ?_; rintro _ wN15 ⟨rfl, hm15, hg15⟩))
              refine hK.out _ _ (by have h := hm15.cf; rw [← HF.out] at h; exact h) (fun hHeld15 => ?_)
              clear hK K
              (try simp only [Act.put, List.setIfInBounds_toArray, List.set_cons_zero, List.set_cons_succ])
              refine wpAnyH_take (i := 16) (v := ?_) rfl (by kernel_rfl) (by kernel_rfl) (by kernel_rfl) (fun _ _ _ h => h) (Or.inl ⟨by kernel_rfl, ?_⟩) hHeld15 ?_
              rotate_left
              · intro w hSw
                (try dsimp only at hSw)
                go_simp
                (try with_reducible rfl)
              change wpAnyH _ _ _ _ _ _ _ (Act.put _ (some 57) _) _
              simp only [Act.put, List.setIfInBounds_toArray, List.set_cons_zero, List.set_cons_succ]
              refine wpAnyH_take (i := 17) (v := ?_) rfl (by kernel_rfl) (by kernel_rfl) (by kernel_rfl) (fun _ _ _ h => h) (Or.inl ⟨by kernel_rfl, ?_⟩) hHeld15 ?_
              rotate_left
              · intro w hSw
                (try dsimp only at hSw)
                go_simp
                (try with_reducible rfl)
              change wpAnyH _ _ _ _ _ _ _ (Act.put _ (some 58) _) _
              simp only [Act.put, List.setIfInBounds_toArray, List.set_cons_zero, List.set_cons_succ]
              refine wpAnyH_take (i := 18) (v := ?_) rfl (by kernel_rfl) (by kernel_rfl) (by kernel_rfl) (fun _ _ _ h => h) (Or.inl ⟨by kernel_rfl, ?_⟩) hHeld15 ?_
              rotate_left
              · intro w hSw
                (try dsimp only at hSw)
                go_simp
                (try with_reducible rfl)
              change wpAnyH _ _ _ _ _ _ _ (Act.put _ (some 11) _) _
              simp only [Act.put, List.setIfInBounds_toArray, List.set_cons_zero, List.set_cons_succ]
              refine wpAnyH_done (by kernel_rfl) ?_ _
              go_wp2_with fail
              all_goals go_meet
              all_goals exact ⟨min (min A1 A2) A3 + 1, by (first | rfl | (congr 1; omega)), rfl, Mem.more hm15 (by omega), gr_trans (gr_drew (gr_refl _ _)) (gr_trans hg4 (gr_trans hg9 hg15))⟩
          case rest =>
            as_aux_lemma =>
              obtain ⟨m, rfl, hm0, hmq, hgq⟩ := hcut
              rename World => wq
              clear hm c2 c3 c5 c6 hlk hiw1 hkw1
              have c2 := hmq.ca
              have c3 := hmq.cb
              have HM0 := Lib.hid hm0
              have hmb : m ≤ 100 := by omega
              obtain ⟨EQ, hEQ⟩ : ∃ e, ((a[i].toNat : Int) == (b[k].toNat : Int)) = e := ⟨_, rfl⟩
              have HEQ : Hid (EQ = true ↔ a[i] = b[k]) := by
                show _ ↔ _
                rw [← hEQ, beq_iff_eq]
                constructor
                · intro h; exact UInt8.toNat_inj.1 (by omega)
                · intro h; rw [h]
              clear hm0
              go_upto_region 7 with fail
              go_cut [65] (fun s wx => s = .bool EQ ∧ Mem a b x2 x3 x5 x6 bm (n + 2 * T1 + T2) F wx ∧ w.grownBy wx (some bm))
              case first =>
                as_aux_lemma =>
                  refine wp_region_held_drew (S := fun W => W.cell? ⟨x2, 0, none⟩ = some (.string a) ∧ W.cell? ⟨x3, 0, none⟩ = some (.string b)) (by kernel_rfl) ⟨c2, c3⟩ (fun hHeld => ?_)
                  refine wpAnyH_take (i := 0) (v := ?_) rfl (by kernel_rfl) (by kernel_rfl) (by kernel_rfl) (fun _ _ _ h => h) (Or.inl ⟨by kernel_rfl, ?_⟩) hHeld ?_
                  rotate_left
                  · intro w hSw
                    (try dsimp only at hSw)
                    obtain ⟨hS0, hS1⟩ := hSw
                    go_simp
                    (try with_reducible rfl)
                  change wpAnyH _ _ _ _ _ _ _ (Act.put _ (some 59) _) _
                  simp only [Act.put, List.setIfInBounds_toArray, List.set_cons_zero, List.set_cons_succ]
                  refine wpAnyH_take (i := 1) (v := ?_) rfl (by kernel_rfl) (by kernel_rfl) (by kernel_rfl) (fun _ _ _ h => h) (Or.inl ⟨by kernel_rfl, ?_⟩) hHeld ?_
                  rotate_left
                  · intro w hSw
                    (try dsimp only at hSw)
                    obtain ⟨hS0, hS1⟩ := hSw
                    go_simp
                    (try with_reducible rfl)
                  change wpAnyH _ _ _ _ _ _ _ (Act.put _ (some 60) _) _
                  simp only [Act.put, List.setIfInBounds_toArray, List.set_cons_zero, List.set_cons_succ]
                  refine wpAnyH_take (i := 2) (v := ?_) rfl (by kernel_rfl) (by kernel_rfl) (by kernel_rfl) (fun _ _ _ h => h) (Or.inl ⟨by kernel_rfl, ?_⟩) hHeld ?_
                  rotate_left
                  · intro w hSw
                    (try dsimp only at hSw)
                    obtain ⟨hS0, hS1⟩ := hSw
                    go_simp
                    (try with_reducible rfl)
                  change wpAnyH _ _ _ _ _ _ _ (Act.put _ (some 61) _) _
                  simp only [Act.put, List.setIfInBounds_toArray, List.set_cons_zero, List.set_cons_succ]
                  refine wpAnyH_take (i := 3) (v := ?_) rfl (by kernel_rfl) (by kernel_rfl) (by kernel_rfl) (fun _ _ _ h => h) (Or.inl ⟨by kernel_rfl, ?_⟩) hHeld ?_
                  rotate_left
                  · intro w hSw
                    (try dsimp only at hSw)
                    obtain ⟨hS0, hS1⟩ := hSw
                    go_simp
                    (try with_reducible rfl)
                  change wpAnyH _ _ _ _ _ _ _ (Act.put _ (some 62) _) _
                  simp only [Act.put, List.setIfInBounds_toArray, List.set_cons_zero, List.set_cons_succ]
                  refine wpAnyH_take (i := 4) (v := ?_) rfl (by kernel_rfl) (by kernel_rfl) (by kernel_rfl) (fun _ _ _ h => h) (Or.inl ⟨by kernel_rfl, ?_⟩) hHeld ?_
                  rotate_left
                  · intro w hSw
                    (try dsimp only at hSw)
                    obtain ⟨hS0, hS1⟩ := hSw
                    go_simp
                    (try with_reducible rfl)
                  change wpAnyH _ _ _ _ _ _ _ (Act.put _ (some 63) _) _
                  simp only [Act.put, List.setIfInBounds_toArray, List.set_cons_zero, List.set_cons_succ]
                  refine wpAnyH_take (i := 5) (v := ?_) rfl (by kernel_rfl) (by kernel_rfl) (by kernel_rfl) (fun _ _ _ h => h) (Or.inl ⟨by kernel_rfl, ?_⟩) hHeld ?_
                  rotate_left
                  · intro w hSw
                    (try dsimp only at hSw)
                    obtain ⟨hS0, hS1⟩ := hSw
                    go_simp
                    (try with_reducible rfl)
                  change wpAnyH _ _ _ _ _ _ _ (Act.put _ (some 64) _) _
                  simp only [Act.put, List.setIfInBounds_toArray, List.set_cons_zero, List.set_cons_succ]
                  refine wpAnyH_take (i := 6) (v := ?_) rfl (by kernel_rfl) (by kernel_rfl) (by kernel_rfl) (fun _ _ _ h => h) (Or.inl ⟨by kernel_rfl, ?_⟩) hHeld ?_
                  rotate_left
                  · intro w hSw
                    (try dsimp only at hSw)
                    obtain ⟨hS0, hS1⟩ := hSw
                    go_simp
                    (try with_reducible rfl)
                  change wpAnyH _ _ _ _ _ _ _ (Act.put _ (some 65) _) _
                  simp only [Act.put, List.setIfInBounds_toArray, List.set_cons_zero, List.set_cons_succ]
                  refine wpAnyH_done (by kernel_rfl) ?_ _
                  go_wp2_with fail
                  go_meet
                  exact ⟨rfl, hmq.drew, gr_drew hgq⟩
              case rest =>
                as_aux_lemma =>
                  obtain ⟨rfl, hm7, hg7⟩ := hcut
                  rename World => w7
                  clear hEQ c2 c3 hmq hgq
                  go_upto_if 65 with fail
                  go_cut [11] (fun s wx => ∃ m1 : Nat, s = .int .i64 m1 ∧ Hid (m1 = if EQ = true then min m A3 else m) ∧ Mem a b x2 x3 x5 x6 bm (n + 2 * T1 + 2 * T2) F wx ∧ w.grownBy wx (some bm))
                  case first =>
                    as_aux_lemma =>
                      cases EQ
                      · go_wp2_with fail
                        go_meet
                        exact ⟨m, rfl, rfl, hm7.more (by omega), hg7⟩
                      · have c6 := hm7.cf
                        rw [← HF.out] at c6
                        go_wp2_with fail
                        refine (H3.out _ _ hm7 (by omega)).mono ?_
                        rintro _ w8 ⟨rfl, hm8, hg8⟩
                        go_wp2_with fail
                        all_goals go_meet
                        all_goals exact ⟨min m A3, by first | rfl | (congr 1; omega) | (congr 1; split <;> omega), rfl, hm8.more (by omega), gr_trans hg7 hg8⟩
                  case rest =>
                    as_aux_lemma =>
                      obtain ⟨m1, rfl, hm1, hm8, hg8⟩ := hcut
                      rename World => w8
                      clear hm7 hg7
                      have c2 := hm8.ca
                      have c3 := hm8.cb
                      have hmb1 : m1 ≤ 100 := by have := hm1.out; split at this <;> omega
                      obtain ⟨X, hX⟩ : ∃ e, decide (i + 1 < a.size ∧ k + 1 < b.size ∧ a[i] = b.data.toList.getD (k + 1) 0 ∧ a.data.toList.getD (i + 1) 0 = b[k]) = e := ⟨_, rfl⟩
                      have HX := Lib.hid hX
                      obtain ⟨I1, hI1⟩ : ∃ x, i + 1 = x := ⟨_, rfl⟩
                      obtain ⟨K1, hK1⟩ : ∃ x, k + 1 = x := ⟨_, rfl⟩
                      have hI1w : IntKind.i64.wrap ((i : Int) + 1) = (I1 : Int) := by rw [show (i : Int) + 1 = (I1 : Int) by omega]; exact IntWalk.i64_in _ ⟨by omega, by omega⟩
                      have hK1w : IntKind.i64.wrap ((k : Int) + 1) = (K1 : Int) := by rw [show (k : Int) + 1 = (K1 : Int) by omega]; exact IntWalk.i64_in _ ⟨by omega, by omega⟩
                      have hI1w2 : IntKind.i64.wrap (I1 : Int) = (I1 : Int) := IntWalk.i64_in _ ⟨by omega, by omega⟩
                      have hK1w2 : IntKind.i64.wrap (K1 : Int) = (K1 : Int) := IntWalk.i64_in _ ⟨by omega, by omega⟩
                      have hI10 : (0 : Int) ≤ (I1 : Int) := by omega
                      have hK10 : (0 : Int) ≤ (K1 : Int) := by omega
                      rw [hI1, hK1] at hX
                      have HI1 := Lib.hid hI1
                      have HK1 := Lib.hid hK1
                      clear hI1 hK1
                      go_upto_region 9 with fail
                      go_cut [105] (fun s wx => s = .bool X ∧ Mem a b x2 x3 x5 x6 bm (n + 2 * T1 + 2 * T2) F wx ∧ w.grownBy wx (some bm))
                      case first =>
                        as_aux_lemma =>
                          by_cases e1 : I1 < a.size
                          · have e1i : (I1 : Int) < (a.size : Int) := by omega
                            have hc1 : a.data.toList.getD I1 0 = a[I1] := by rw [List.getD_eq_getElem?_getD, List.getElem?_eq_getElem (by simpa using e1)]; rfl
                            by_cases e2 : K1 < b.size
                            · have e2i : (K1 : Int) < (b.size : Int) := by omega
                              have hc2 : b.data.toList.getD K1 0 = b[K1] := by rw [List.getD_eq_getElem?_getD, List.getElem?_eq_getElem (by simpa using e2)]; rfl
                              rw [hc1, hc2] at hX
                              by_cases e3 : a[i] = b[K1]
                              · have e3i : ((a[i].toNat : Int) == (b[K1].toNat : Int)) = true := by rw [e3]; simp
                                by_cases e4 : a[I1] = b[k]
                                · have e4i : ((a[I1].toNat : Int) == (b[k].toNat : Int)) = true := by rw [e4]; simp
                                  obtain rfl : X = true := by rw [← hX]; exact decide_eq_true ⟨e1, e2, e3, e4⟩
                                  clear hX e3 e4 hc1 hc2
                                  refine wp_region_held_drew (S := fun W => W.cell? ⟨x2, 0, none⟩ = some (.string a) ∧ W.cell? ⟨x3, 0, none⟩ = some (.string b)) (by kernel_rfl) ⟨c2, c3⟩ (fun hHeld => ?_)
                                  refine wpAnyH_take (i := 0) (v := ?_) rfl (by kernel_rfl) (by kernel_rfl) (by kernel_rfl) (fun _ _ _ h => h) (Or.inl ⟨by kernel_rfl, ?_⟩) hHeld ?_
                                  rotate_left
                                  · intro w hSw
                                    (try dsimp only at hSw)
                                    obtain ⟨hS0, hS1⟩ := hSw
                                    go_simp
                                    (try with_reducible rfl)
                                  change wpAnyH _ _ _ _ _ _ _ (Act.put _ (some 74) _) _
                                  simp only [Act.put, List.setIfInBounds_toArray, List.set_cons_zero, List.set_cons_succ]
                                  refine wpAnyH_take (i := 1) (v := ?_) rfl (by kernel_rfl) (by kernel_rfl) (by kernel_rfl) (fun _ _ _ h => h) (Or.inl ⟨by kernel_rfl, ?_⟩) hHeld ?_
                                  rotate_left
                                  · intro w hSw
                                    (try dsimp only at hSw)
                                    obtain ⟨hS0, hS1⟩ := hSw
                                    go_simp
                                    (try with_reducible rfl)
                                  change wpAnyH _ _ _ _ _ _ _ (Act.put _ (some 75) _) _
                                  simp only [Act.put, List.setIfInBounds_toArray, List.set_cons_zero, List.set_cons_succ]
                                  refine wpAnyH_take (i := 2) (v := ?_) rfl (by kernel_rfl) (by kernel_rfl) (by kernel_rfl) (fun _ _ _ h => h) (Or.inl ⟨by kernel_rfl, ?_⟩) hHeld ?_
                                  rotate_left
                                  · intro w hSw
                                    (try dsimp only at hSw)
                                    obtain ⟨hS0, hS1⟩ := hSw
                                    go_simp
                                    (try with_reducible rfl)
                                  change wpAnyH _ _ _ _ _ _ _ (Act.put _ (some 76) _) _
                                  simp only [Act.put, List.setIfInBounds_toArray, List.set_cons_zero, List.set_cons_succ]
                                  refine wpAnyH_take (i := 3) (v := ?_) rfl (by kernel_rfl) (by kernel_rfl) (by kernel_rfl) (fun _ _ _ h => h) (Or.inl ⟨by kernel_rfl, ?_⟩) hHeld ?_
                                  rotate_left
                                  · intro w hSw
                                    (try dsimp only at hSw)
                                    obtain ⟨hS0, hS1⟩ := hSw
                                    go_simp
                                    (try with_reducible rfl)
                                  change wpAnyH _ _ _ _ _ _ _ (Act.put _ (some 77) _) _
                                  simp only [Act.put, List.setIfInBounds_toArray, List.set_cons_zero, List.set_cons_succ]
                                  refine wpAnyH_take (i := 4) (v := ?_) rfl (by kernel_rfl) (by kernel_rfl) (by kernel_rfl) (fun _ _ _ h => h) (Or.inl ⟨by kernel_rfl, ?_⟩) hHeld ?_
                                  rotate_left
                                  · intro w hSw
                                    (try dsimp only at hSw)
                                    obtain ⟨hS0, hS1⟩ := hSw
                                    go_simp
                                    (try with_reducible rfl)
                                  change wpAnyH _ _ _ _ _ _ _ (Act.put _ (some 78) _) _
                                  simp only [Act.put, List.setIfInBounds_toArray, List.set_cons_zero, List.set_cons_succ]
                                  refine wpAnyH_take (i := 5) (v := ?_) rfl (by kernel_rfl) (by kernel_rfl) (by kernel_rfl) (fun _ _ _ h => h) (Or.inl ⟨by kernel_rfl, ?_⟩) hHeld ?_
                                  rotate_left
                                  · intro w hSw
                                    (try dsimp only at hSw)
                                    obtain ⟨hS0, hS1⟩ := hSw
                                    go_simp
                                    (try with_reducible rfl)
                                  change wpAnyH _ _ _ _ _ _ _ (Act.put _ (some 79) _) _
                                  simp only [Act.put, List.setIfInBounds_toArray, List.set_cons_zero, List.set_cons_succ]
                                  refine wpAnyH_take (i := 6) (v := ?_) rfl (by kernel_rfl) (by kernel_rfl) (by kernel_rfl) (fun _ _ _ h => h) (Or.inl ⟨by kernel_rfl, ?_⟩) hHeld ?_
                                  rotate_left
                                  · intro w hSw
                                    (try dsimp only at hSw)
                                    obtain ⟨hS0, hS1⟩ := hSw
                                    go_simp
                                    (try with_reducible rfl)
                                  change wpAnyH _ _ _ _ _ _ _ (Act.put _ (some 80) _) _
                                  simp only [Act.put, List.setIfInBounds_toArray, List.set_cons_zero, List.set_cons_succ]
                                  refine wpAnyH_take (i := 7) (v := ?_) rfl (by kernel_rfl) (by kernel_rfl) (by kernel_rfl) (fun _ _ _ h => h) (Or.inl ⟨by kernel_rfl, ?_⟩) hHeld ?_
                                  rotate_left
                                  · intro w hSw
                                    (try dsimp only at hSw)
                                    obtain ⟨hS0, hS1⟩ := hSw
                                    go_simp
                                    (try with_reducible rfl)
                                  change wpAnyH _ _ _ _ _ _ _ (Act.put _ (some 81) _) _
                                  simp only [Act.put, List.setIfInBounds_toArray, List.set_cons_zero, List.set_cons_succ]
                                  refine wpAnyH_take (i := 8) (v := ?_) rfl (by kernel_rfl) (by kernel_rfl) (by kernel_rfl) (fun _ _ _ h => h) (Or.inl ⟨by kernel_rfl, ?_⟩) hHeld ?_
                                  rotate_left
                                  · intro w hSw
                                    (try dsimp only at hSw)
                                    obtain ⟨hS0, hS1⟩ := hSw
                                    go_simp
                                    (try with_reducible rfl)
                                  change wpAnyH _ _ _ _ _ _ _ (Act.put _ (some 82) _) _
                                  simp only [Act.put, List.setIfInBounds_toArray, List.set_cons_zero, List.set_cons_succ]
                                  refine wpAnyH_take (i := 9) (v := ?_) rfl (by kernel_rfl) (by kernel_rfl) (by kernel_rfl) (fun _ _ _ h => h) (Or.inl ⟨by kernel_rfl, ?_⟩) hHeld ?_
                                  rotate_left
                                  · intro w hSw
                                    (try dsimp only at hSw)
                                    obtain ⟨hS0, hS1⟩ := hSw
                                    go_simp
                                    (try with_reducible rfl)
                                  change wpAnyH _ _ _ _ _ _ _ (Act.put _ (some 83) _) _
                                  simp only [Act.put, List.setIfInBounds_toArray, List.set_cons_zero, List.set_cons_succ]
                                  refine wpAnyH_take (i := 10) (v := ?_) rfl (by kernel_rfl) (by kernel_rfl) (by kernel_rfl) (fun _ _ _ h => h) (Or.inl ⟨by kernel_rfl, ?_⟩) hHeld ?_
                                  rotate_left
                                  · intro w hSw
                                    (try dsimp only at hSw)
                                    obtain ⟨hS0, hS1⟩ := hSw
                                    go_simp
                                    (try with_reducible rfl)
                                  change wpAnyH _ _ _ _ _ _ _ (Act.put _ (some 84) _) _
                                  simp only [Act.put, List.setIfInBounds_toArray, List.set_cons_zero, List.set_cons_succ]
                                  refine wpAnyH_take (i := 11) (v := ?_) rfl (by kernel_rfl) (by kernel_rfl) (by kernel_rfl) (fun _ _ _ h => h) (Or.inl ⟨by kernel_rfl, ?_⟩) hHeld ?_
                                  rotate_left
                                  · intro w hSw
                                    (try dsimp only at hSw)
                                    obtain ⟨hS0, hS1⟩ := hSw
                                    go_simp
                                    (try with_reducible rfl)
                                  change wpAnyH _ _ _ _ _ _ _ (Act.put _ (some 85) _) _
                                  simp only [Act.put, List.setIfInBounds_toArray, List.set_cons_zero, List.set_cons_succ]
                                  refine wpAnyH_take (i := 12) (v := ?_) rfl (by kernel_rfl) (by kernel_rfl) (by kernel_rfl) (fun _ _ _ h => h) (Or.inl ⟨by kernel_rfl, ?_⟩) hHeld ?_
                                  rotate_left
                                  · intro w hSw
                                    (try dsimp only at hSw)
                                    obtain ⟨hS0, hS1⟩ := hSw
                                    go_simp
                                    (try with_reducible rfl)
                                  change wpAnyH _ _ _ _ _ _ _ (Act.put _ (some 86) _) _
                                  simp only [Act.put, List.setIfInBounds_toArray, List.set_cons_zero, List.set_cons_succ]
                                  refine wpAnyH_take (i := 13) (v := ?_) rfl (by kernel_rfl) (by kernel_rfl) (by kernel_rfl) (fun _ _ _ h => h) (Or.inl ⟨by kernel_rfl, ?_⟩) hHeld ?_
                                  rotate_left
                                  · intro w hSw
                                    (try dsimp only at hSw)
                                    obtain ⟨hS0, hS1⟩ := hSw
                                    go_simp
                                    (try with_reducible rfl)
                                  change wpAnyH _ _ _ _ _ _ _ (Act.put _ (some 87) _) _
                                  simp only [Act.put, List.setIfInBounds_toArray, List.set_cons_zero, List.set_cons_succ]
                                  refine wpAnyH_take (i := 14) (v := ?_) rfl (by kernel_rfl) (by kernel_rfl) (by kernel_rfl) (fun _ _ _ h => h) (Or.inl ⟨by kernel_rfl, ?_⟩) hHeld ?_
                                  rotate_left
                                  · intro w hSw
                                    (try dsimp only at hSw)
                                    obtain ⟨hS0, hS1⟩ := hSw
                                    go_simp
                                    (try with_reducible rfl)
                                  change wpAnyH _ _ _ _ _ _ _ (Act.put _ (some 88) _) _
                                  simp only [Act.put, List.setIfInBounds_toArray, List.set_cons_zero, List.set_cons_succ]
                                  refine wpAnyH_take (i := 15) (v := ?_) rfl (by kernel_rfl) (by kernel_rfl) (by kernel_rfl) (fun _ _ _ h => h) (Or.inl ⟨by kernel_rfl, ?_⟩) hHeld ?_
                                  rotate_left
                                  · intro w hSw
                                    (try dsimp only at hSw)
                                    obtain ⟨hS0, hS1⟩ := hSw
                                    go_simp
                                    (try with_reducible rfl)
                                  change wpAnyH _ _ _ _ _ _ _ (Act.put _ (some 89) _) _
                                  simp only [Act.put, List.setIfInBounds_toArray, List.set_cons_zero, List.set_cons_succ]
                                  refine wpAnyH_take (i := 16) (v := ?_) rfl (by kernel_rfl) (by kernel_rfl) (by kernel_rfl) (fun _ _ _ h => h) (Or.inl ⟨by kernel_rfl, ?_⟩) hHeld ?_
                                  rotate_left
                                  · intro w hSw
                                    (try dsimp only at hSw)
                                    obtain ⟨hS0, hS1⟩ := hSw
                                    go_simp
                                    (try with_reducible rfl)
                                  change wpAnyH _ _ _ _ _ _ _ (Act.put _ (some 90) _) _
                                  simp only [Act.put, List.setIfInBounds_toArray, List.set_cons_zero, List.set_cons_succ]
                                  refine wpAnyH_take (i := 17) (v := ?_) rfl (by kernel_rfl) (by kernel_rfl) (by kernel_rfl) (fun _ _ _ h => h) (Or.inl ⟨by kernel_rfl, ?_⟩) hHeld ?_
                                  rotate_left
                                  · intro w hSw
                                    (try dsimp only at hSw)
                                    obtain ⟨hS0, hS1⟩ := hSw
                                    go_simp
                                    (try with_reducible rfl)
                                  change wpAnyH _ _ _ _ _ _ _ (Act.put _ (some 91) _) _
                                  simp only [Act.put, List.setIfInBounds_toArray, List.set_cons_zero, List.set_cons_succ]
                                  refine wpAnyH_take (i := 18) (v := ?_) rfl (by kernel_rfl) (by kernel_rfl) (by kernel_rfl) (fun _ _ _ h => h) (Or.inl ⟨by kernel_rfl, ?_⟩) hHeld ?_
                                  rotate_left
                                  · intro w hSw
                                    (try dsimp only at hSw)
                                    obtain ⟨hS0, hS1⟩ := hSw
                                    go_simp
                                    (try with_reducible rfl)
                                  change wpAnyH _ _ _ _ _ _ _ (Act.put _ (some 92) _) _
                                  simp only [Act.put, List.setIfInBounds_toArray, List.set_cons_zero, List.set_cons_succ]
                                  refine wpAnyH_take (i := 19) (v := ?_) rfl (by kernel_rfl) (by kernel_rfl) (by kernel_rfl) (fun _ _ _ h => h) (Or.inl ⟨by kernel_rfl, ?_⟩) hHeld ?_
                                  rotate_left
                                  · intro w hSw
                                    (try dsimp only at hSw)
                                    obtain ⟨hS0, hS1⟩ := hSw
                                    go_simp
                                    (try with_reducible rfl)
                                  change wpAnyH _ _ _ _ _ _ _ (Act.put _ (some 93) _) _
                                  simp only [Act.put, List.setIfInBounds_toArray, List.set_cons_zero, List.set_cons_succ]
                                  refine wpAnyH_take (i := 20) (v := ?_) rfl (by kernel_rfl) (by kernel_rfl) (by kernel_rfl) (fun _ _ _ h => h) (Or.inl ⟨by kernel_rfl, ?_⟩) hHeld ?_
                                  rotate_left
                                  · intro w hSw
                                    (try dsimp only at hSw)
                                    obtain ⟨hS0, hS1⟩ := hSw
                                    go_simp
                                    (try with_reducible rfl)
                                  change wpAnyH _ _ _ _ _ _ _ (Act.put _ (some 94) _) _
                                  simp only [Act.put, List.setIfInBounds_toArray, List.set_cons_zero, List.set_cons_succ]
                                  refine wpAnyH_take (i := 21) (v := ?_) rfl (by kernel_rfl) (by kernel_rfl) (by kernel_rfl) (fun _ _ _ h => h) (Or.inl ⟨by kernel_rfl, ?_⟩) hHeld ?_
                                  rotate_left
                                  · intro w hSw
                                    (try dsimp only at hSw)
                                    obtain ⟨hS0, hS1⟩ := hSw
                                    go_simp
                                    (try with_reducible rfl)
                                  change wpAnyH _ _ _ _ _ _ _ (Act.put _ (some 95) _) _
                                  simp only [Act.put, List.setIfInBounds_toArray, List.set_cons_zero, List.set_cons_succ]
                                  refine wpAnyH_take (i := 22) (v := ?_) rfl (by kernel_rfl) (by kernel_rfl) (by kernel_rfl) (fun _ _ _ h => h) (Or.inl ⟨by kernel_rfl, ?_⟩) hHeld ?_
                                  rotate_left
                                  · intro w hSw
                                    (try dsimp only at hSw)
                                    obtain ⟨hS0, hS1⟩ := hSw
                                    go_simp
                                    (try with_reducible rfl)
                                  change wpAnyH _ _ _ _ _ _ _ (Act.put _ (some 96) _) _
                                  simp only [Act.put, List.setIfInBounds_toArray, List.set_cons_zero, List.set_cons_succ]
                                  refine wpAnyH_take (i := 23) (v := ?_) rfl (by kernel_rfl) (by kernel_rfl) (by kernel_rfl) (fun _ _ _ h => h) (Or.inl ⟨by kernel_rfl, ?_⟩) hHeld ?_
                                  rotate_left
                                  · intro w hSw
                                    (try dsimp only at hSw)
                                    obtain ⟨hS0, hS1⟩ := hSw
                                    go_simp
                                    (try with_reducible rfl)
                                  change wpAnyH _ _ _ _ _ _ _ (Act.put _ (some 97) _) _
                                  simp only [Act.put, List.setIfInBounds_toArray, List.set_cons_zero, List.set_cons_succ]
                                  refine wpAnyH_take (i := 24) (v := ?_) rfl (by kernel_rfl) (by kernel_rfl) (by kernel_rfl) (fun _ _ _ h => h) (Or.inl ⟨by kernel_rfl, ?_⟩) hHeld ?_
                                  rotate_left
                                  · intro w hSw
                                    (try dsimp only at hSw)
                                    obtain ⟨hS0, hS1⟩ := hSw
                                    go_simp
                                    (try with_reducible rfl)
                                  change wpAnyH _ _ _ _ _ _ _ (Act.put _ (some 98) _) _
                                  simp only [Act.put, List.setIfInBounds_toArray, List.set_cons_zero, List.set_cons_succ]
                                  refine wpAnyH_take (i := 25) (v := ?_) rfl (by kernel_rfl) (by kernel_rfl) (by kernel_rfl) (fun _ _ _ h => h) (Or.inl ⟨by kernel_rfl, ?_⟩) hHeld ?_
                                  rotate_left
                                  · intro w hSw
                                    (try dsimp only at hSw)
                                    obtain ⟨hS0, hS1⟩ := hSw
                                    go_simp
                                    (try with_reducible rfl)
                                  change wpAnyH _ _ _ _ _ _ _ (Act.put _ (some 99) _) _
                                  simp only [Act.put, List.setIfInBounds_toArray, List.set_cons_zero, List.set_cons_succ]
                                  refine wpAnyH_take (i := 26) (v := ?_) rfl (by kernel_rfl) (by kernel_rfl) (by kernel_rfl) (fun _ _ _ h => h) (Or.inl ⟨by kernel_rfl, ?_⟩) hHeld ?_
                                  rotate_left
                                  · intro w hSw
                                    (try dsimp only at hSw)
                                    obtain ⟨hS0, hS1⟩ := hSw
                                    go_simp
                                    (try with_reducible rfl)
                                  change wpAnyH _ _ _ _ _ _ _ (Act.put _ (some 100) _) _
                                  simp only [Act.put, List.setIfInBounds_toArray, List.set_cons_zero, List.set_cons_succ]
                                  refine wpAnyH_take (i := 27) (v := ?_) rfl (by kernel_rfl) (by kernel_rfl) (by kernel_rfl) (fun _ _ _ h => h) (Or.inl ⟨by kernel_rfl, ?_⟩) hHeld ?_
                                  rotate_left
                                  · intro w hSw
                                    (try dsimp only at hSw)
                                    obtain ⟨hS0, hS1⟩ := hSw
                                    go_simp
                                    (try with_reducible rfl)
                                  change wpAnyH _ _ _ _ _ _ _ (Act.put _ (some 101) _) _
                                  simp only [Act.put, List.setIfInBounds_toArray, List.set_cons_zero, List.set_cons_succ]
                                  refine wpAnyH_take (i := 28) (v := ?_) rfl (by kernel_rfl) (by kernel_rfl) (by kernel_rfl) (fun _ _ _ h => h) (Or.inl ⟨by kernel_rfl, ?_⟩) hHeld ?_
                                  rotate_left
                                  · intro w hSw
                                    (try dsimp only at hSw)
                                    obtain ⟨hS0, hS1⟩ := hSw
                                    go_simp
                                    (try with_reducible rfl)
                                  change wpAnyH _ _ _ _ _ _ _ (Act.put _ (some 102) _) _
                                  simp only [Act.put, List.setIfInBounds_toArray, List.set_cons_zero, List.set_cons_succ]
                                  refine wpAnyH_take (i := 29) (v := ?_) rfl (by kernel_rfl) (by kernel_rfl) (by kernel_rfl) (fun _ _ _ h => h) (Or.inl ⟨by kernel_rfl, ?_⟩) hHeld ?_
                                  rotate_left
                                  · intro w hSw
                                    (try dsimp only at hSw)
                                    obtain ⟨hS0, hS1⟩ := hSw
                                    go_simp
                                    (try with_reducible rfl)
                                  change wpAnyH _ _ _ _ _ _ _ (Act.put _ (some 103) _) _
                                  simp only [Act.put, List.setIfInBounds_toArray, List.set_cons_zero, List.set_cons_succ]
                                  refine wpAnyH_take (i := 30) (v := ?_) rfl (by kernel_rfl) (by kernel_rfl) (by kernel_rfl) (fun _ _ _ h => h) (Or.inl ⟨by kernel_rfl, ?_⟩) hHeld ?_
                                  rotate_left
                                  · intro w hSw
                                    (try dsimp only at hSw)
                                    obtain ⟨hS0, hS1⟩ := hSw
                                    go_simp
                                    (try with_reducible rfl)
                                  change wpAnyH _ _ _ _ _ _ _ (Act.put _ (some 104) _) _
                                  simp only [Act.put, List.setIfInBounds_toArray, List.set_cons_zero, List.set_cons_succ]
                                  refine wpAnyH_take (i := 31) (v := ?_) rfl (by kernel_rfl) (by kernel_rfl) (by kernel_rfl) (fun _ _ _ h => h) (Or.inl ⟨by kernel_rfl, ?_⟩) hHeld ?_
                                  rotate_left
                                  · intro w hSw
                                    (try dsimp only at hSw)
                                    obtain ⟨hS0, hS1⟩ := hSw
                                    go_simp
                                    (try with_reducible rfl)
                                  change wpAnyH _ _ _ _ _ _ _ (Act.put _ (some 105) _) _
                                  simp only [Act.put, List.setIfInBounds_toArray, List.set_cons_zero, List.set_cons_succ]
                                  refine wpAnyH_done (by kernel_rfl) ?_ _
                                  go_wp2_with fail
                                  go_meet
                                  exact ⟨rfl, hm8.drew, gr_drew hg8⟩
                                · have e4i : ((a[I1].toNat : Int) == (b[k].toNat : Int)) = false := by
                                    rw [beq_eq_false_iff_ne]; intro e; exact e4 (UInt8.toNat_inj.1 (by omega))
                                  obtain rfl : X = false := by rw [← hX]; exact decide_eq_false (fun h => e4 h.2.2.2)
                                  clear hX e3 e4 hc1 hc2
                                  refine wp_region_held_drew (S := fun W => W.cell? ⟨x2, 0, none⟩ = some (.string a) ∧ W.cell? ⟨x3, 0, none⟩ = some (.string b)) (by kernel_rfl) ⟨c2, c3⟩ (fun hHeld => ?_)
                                  refine wpAnyH_take (i := 0) (v := ?_) rfl (by kernel_rfl) (by kernel_rfl) (by kernel_rfl) (fun _ _ _ h => h) (Or.inl ⟨by kernel_rfl, ?_⟩) hHeld ?_
                                  rotate_left
                                  · intro w hSw
                                    (try dsimp only at hSw)
                                    obtain ⟨hS0, hS1⟩ := hSw
                                    go_simp
                                    (try with_reducible rfl)
                                  change wpAnyH _ _ _ _ _ _ _ (Act.put _ (some 74) _) _
                                  simp only [Act.put, List.setIfInBounds_toArray, List.set_cons_zero, List.set_cons_succ]
                                  refine wpAnyH_take (i := 1) (v := ?_) rfl (by kernel_rfl) (by kernel_rfl) (by kernel_rfl) (fun _ _ _ h => h) (Or.inl ⟨by kernel_rfl, ?_⟩) hHeld ?_
                                  rotate_left
                                  · intro w hSw
                                    (try dsimp only at hSw)
                                    obtain ⟨hS0, hS1⟩ := hSw
                                    go_simp
                                    (try with_reducible rfl)
                                  change wpAnyH _ _ _ _ _ _ _ (Act.put _ (some 75) _) _
                                  simp only [Act.put, List.setIfInBounds_toArray, List.set_cons_zero, List.set_cons_succ]
                                  refine wpAnyH_take (i := 2) (v := ?_) rfl (by kernel_rfl) (by kernel_rfl) (by kernel_rfl) (fun _ _ _ h => h) (Or.inl ⟨by kernel_rfl, ?_⟩) hHeld ?_
                                  rotate_left
                                  · intro w hSw
                                    (try dsimp only at hSw)
                                    obtain ⟨hS0, hS1⟩ := hSw
                                    go_simp
                                    (try with_reducible rfl)
                                  change wpAnyH _ _ _ _ _ _ _ (Act.put _ (some 76) _) _
                                  simp only [Act.put, List.setIfInBounds_toArray, List.set_cons_zero, List.set_cons_succ]
                                  refine wpAnyH_take (i := 3) (v := ?_) rfl (by kernel_rfl) (by kernel_rfl) (by kernel_rfl) (fun _ _ _ h => h) (Or.inl ⟨by kernel_rfl, ?_⟩) hHeld ?_
                                  rotate_left
                                  · intro w hSw
                                    (try dsimp only at hSw)
                                    obtain ⟨hS0, hS1⟩ := hSw
                                    go_simp
                                    (try with_reducible rfl)
                                  change wpAnyH _ _ _ _ _ _ _ (Act.put _ (some 77) _) _
                                  simp only [Act.put, List.setIfInBounds_toArray, List.set_cons_zero, List.set_cons_succ]
                                  refine wpAnyH_take (i := 4) (v := ?_) rfl (by kernel_rfl) (by kernel_rfl) (by kernel_rfl) (fun _ _ _ h => h) (Or.inl ⟨by kernel_rfl, ?_⟩) hHeld ?_
                                  rotate_left
                                  · intro w hSw
                                    (try dsimp only at hSw)
                                    obtain ⟨hS0, hS1⟩ := hSw
                                    go_simp
                                    (try with_reducible rfl)
                                  change wpAnyH _ _ _ _ _ _ _ (Act.put _ (some 78) _) _
                                  simp only [Act.put, List.setIfInBounds_toArray, List.set_cons_zero, List.set_cons_succ]
                                  refine wpAnyH_take (i := 5) (v := ?_) rfl (by kernel_rfl) (by kernel_rfl) (by kernel_rfl) (fun _ _ _ h => h) (Or.inl ⟨by kernel_rfl, ?_⟩) hHeld ?_
                                  rotate_left
                                  · intro w hSw
                                    (try dsimp only at hSw)
                                    obtain ⟨hS0, hS1⟩ := hSw
                                    go_simp
                                    (try with_reducible rfl)
                                  change wpAnyH _ _ _ _ _ _ _ (Act.put _ (some 79) _) _
                                  simp only [Act.put, List.setIfInBounds_toArray, List.set_cons_zero, List.set_cons_succ]
                                  refine wpAnyH_take (i := 6) (v := ?_) rfl (by kernel_rfl) (by kernel_rfl) (by kernel_rfl) (fun _ _ _ h => h) (Or.inl ⟨by kernel_rfl, ?_⟩) hHeld ?_
                                  rotate_left
                                  · intro w hSw
                                    (try dsimp only at hSw)
                                    obtain ⟨hS0, hS1⟩ := hSw
                                    go_simp
                                    (try with_reducible rfl)
                                  change wpAnyH _ _ _ _ _ _ _ (Act.put _ (some 80) _) _
                                  simp only [Act.put, List.setIfInBounds_toArray, List.set_cons_zero, List.set_cons_succ]
                                  refine wpAnyH_take (i := 7) (v := ?_) rfl (by kernel_rfl) (by kernel_rfl) (by kernel_rfl) (fun _ _ _ h => h) (Or.inl ⟨by kernel_rfl, ?_⟩) hHeld ?_
                                  rotate_left
                                  · intro w hSw
                                    (try dsimp only at hSw)
                                    obtain ⟨hS0, hS1⟩ := hSw
                                    go_simp
                                    (try with_reducible rfl)
                                  change wpAnyH _ _ _ _ _ _ _ (Act.put _ (some 81) _) _
                                  simp only [Act.put, List.setIfInBounds_toArray, List.set_cons_zero, List.set_cons_succ]
                                  refine wpAnyH_take (i := 8) (v := ?_) rfl (by kernel_rfl) (by kernel_rfl) (by kernel_rfl) (fun _ _ _ h => h) (Or.inl ⟨by kernel_rfl, ?_⟩) hHeld ?_
                                  rotate_left
                                  · intro w hSw
                                    (try dsimp only at hSw)
                                    obtain ⟨hS0, hS1⟩ := hSw
                                    go_simp
                                    (try with_reducible rfl)
                                  change wpAnyH _ _ _ _ _ _ _ (Act.put _ (some 82) _) _
                                  simp only [Act.put, List.setIfInBounds_toArray, List.set_cons_zero, List.set_cons_succ]
                                  refine wpAnyH_take (i := 9) (v := ?_) rfl (by kernel_rfl) (by kernel_rfl) (by kernel_rfl) (fun _ _ _ h => h) (Or.inl ⟨by kernel_rfl, ?_⟩) hHeld ?_
                                  rotate_left
                                  · intro w hSw
                                    (try dsimp only at hSw)
                                    obtain ⟨hS0, hS1⟩ := hSw
                                    go_simp
                                    (try with_reducible rfl)
                                  change wpAnyH _ _ _ _ _ _ _ (Act.put _ (some 83) _) _
                                  simp only [Act.put, List.setIfInBounds_toArray, List.set_cons_zero, List.set_cons_succ]
                                  refine wpAnyH_take (i := 10) (v := ?_) rfl (by kernel_rfl) (by kernel_rfl) (by kernel_rfl) (fun _ _ _ h => h) (Or.inl ⟨by kernel_rfl, ?_⟩) hHeld ?_
                                  rotate_left
                                  · intro w hSw
                                    (try dsimp only at hSw)
                                    obtain ⟨hS0, hS1⟩ := hSw
                                    go_simp
                                    (try with_reducible rfl)
                                  change wpAnyH _ _ _ _ _ _ _ (Act.put _ (some 84) _) _
                                  simp only [Act.put, List.setIfInBounds_toArray, List.set_cons_zero, List.set_cons_succ]
                                  refine wpAnyH_take (i := 11) (v := ?_) rfl (by kernel_rfl) (by kernel_rfl) (by kernel_rfl) (fun _ _ _ h => h) (Or.inl ⟨by kernel_rfl, ?_⟩) hHeld ?_
                                  rotate_left
                                  · intro w hSw
                                    (try dsimp only at hSw)
                                    obtain ⟨hS0, hS1⟩ := hSw
                                    go_simp
                                    (try with_reducible rfl)
                                  change wpAnyH _ _ _ _ _ _ _ (Act.put _ (some 85) _) _
                                  simp only [Act.put, List.setIfInBounds_toArray, List.set_cons_zero, List.set_cons_succ]
                                  refine wpAnyH_take (i := 12) (v := ?_) rfl (by kernel_rfl) (by kernel_rfl) (by kernel_rfl) (fun _ _ _ h => h) (Or.inl ⟨by kernel_rfl, ?_⟩) hHeld ?_
                                  rotate_left
                                  · intro w hSw
                                    (try dsimp only at hSw)
                                    obtain ⟨hS0, hS1⟩ := hSw
                                    go_simp
                                    (try with_reducible rfl)
                                  change wpAnyH _ _ _ _ _ _ _ (Act.put _ (some 86) _) _
                                  simp only [Act.put, List.setIfInBounds_toArray, List.set_cons_zero, List.set_cons_succ]
                                  refine wpAnyH_take (i := 13) (v := ?_) rfl (by kernel_rfl) (by kernel_rfl) (by kernel_rfl) (fun _ _ _ h => h) (Or.inl ⟨by kernel_rfl, ?_⟩) hHeld ?_
                                  rotate_left
                                  · intro w hSw
                                    (try dsimp only at hSw)
                                    obtain ⟨hS0, hS1⟩ := hSw
                                    go_simp
                                    (try with_reducible rfl)
                                  change wpAnyH _ _ _ _ _ _ _ (Act.put _ (some 87) _) _
                                  simp only [Act.put, List.setIfInBounds_toArray, List.set_cons_zero, List.set_cons_succ]
                                  refine wpAnyH_take (i := 14) (v := ?_) rfl (by kernel_rfl) (by kernel_rfl) (by kernel_rfl) (fun _ _ _ h => h) (Or.inl ⟨by kernel_rfl, ?_⟩) hHeld ?_
                                  rotate_left
                                  · intro w hSw
                                    (try dsimp only at hSw)
                                    obtain ⟨hS0, hS1⟩ := hSw
                                    go_simp
                                    (try with_reducible rfl)
                                  change wpAnyH _ _ _ _ _ _ _ (Act.put _ (some 88) _) _
                                  simp only [Act.put, List.setIfInBounds_toArray, List.set_cons_zero, List.set_cons_succ]
                                  refine wpAnyH_take (i := 15) (v := ?_) rfl (by kernel_rfl) (by kernel_rfl) (by kernel_rfl) (fun _ _ _ h => h) (Or.inl ⟨by kernel_rfl, ?_⟩) hHeld ?_
                                  rotate_left
                                  · intro w hSw
                                    (try dsimp only at hSw)
                                    obtain ⟨hS0, hS1⟩ := hSw
                                    go_simp
                                    (try with_reducible rfl)
                                  change wpAnyH _ _ _ _ _ _ _ (Act.put _ (some 89) _) _
                                  simp only [Act.put, List.setIfInBounds_toArray, List.set_cons_zero, List.set_cons_succ]
                                  refine wpAnyH_take (i := 16) (v := ?_) rfl (by kernel_rfl) (by kernel_rfl) (by kernel_rfl) (fun _ _ _ h => h) (Or.inl ⟨by kernel_rfl, ?_⟩) hHeld ?_
                                  rotate_left
                                  · intro w hSw
                                    (try dsimp only at hSw)
                                    obtain ⟨hS0, hS1⟩ := hSw
                                    go_simp
                                    (try with_reducible rfl)
                                  change wpAnyH _ _ _ _ _ _ _ (Act.put _ (some 90) _) _
                                  simp only [Act.put, List.setIfInBounds_toArray, List.set_cons_zero, List.set_cons_succ]
                                  refine wpAnyH_take (i := 17) (v := ?_) rfl (by kernel_rfl) (by kernel_rfl) (by kernel_rfl) (fun _ _ _ h => h) (Or.inl ⟨by kernel_rfl, ?_⟩) hHeld ?_
                                  rotate_left
                                  · intro w hSw
                                    (try dsimp only at hSw)
                                    obtain ⟨hS0, hS1⟩ := hSw
                                    go_simp
                                    (try with_reducible rfl)
                                  change wpAnyH _ _ _ _ _ _ _ (Act.put _ (some 91) _) _
                                  simp only [Act.put, List.setIfInBounds_toArray, List.set_cons_zero, List.set_cons_succ]
                                  refine wpAnyH_take (i := 18) (v := ?_) rfl (by kernel_rfl) (by kernel_rfl) (by kernel_rfl) (fun _ _ _ h => h) (Or.inl ⟨by kernel_rfl, ?_⟩) hHeld ?_
                                  rotate_left
                                  · intro w hSw
                                    (try dsimp only at hSw)
                                    obtain ⟨hS0, hS1⟩ := hSw
                                    go_simp
                                    (try with_reducible rfl)
                                  change wpAnyH _ _ _ _ _ _ _ (Act.put _ (some 92) _) _
                                  simp only [Act.put, List.setIfInBounds_toArray, List.set_cons_zero, List.set_cons_succ]
                                  refine wpAnyH_take (i := 19) (v := ?_) rfl (by kernel_rfl) (by kernel_rfl) (by kernel_rfl) (fun _ _ _ h => h) (Or.inl ⟨by kernel_rfl, ?_⟩) hHeld ?_
                                  rotate_left
                                  · intro w hSw
                                    (try dsimp only at hSw)
                                    obtain ⟨hS0, hS1⟩ := hSw
                                    go_simp
                                    (try with_reducible rfl)
                                  change wpAnyH _ _ _ _ _ _ _ (Act.put _ (some 93) _) _
                                  simp only [Act.put, List.setIfInBounds_toArray, List.set_cons_zero, List.set_cons_succ]
                                  refine wpAnyH_take (i := 20) (v := ?_) rfl (by kernel_rfl) (by kernel_rfl) (by kernel_rfl) (fun _ _ _ h => h) (Or.inl ⟨by kernel_rfl, ?_⟩) hHeld ?_
                                  rotate_left
                                  · intro w hSw
                                    (try dsimp only at hSw)
                                    obtain ⟨hS0, hS1⟩ := hSw
                                    go_simp
                                    (try with_reducible rfl)
                                  change wpAnyH _ _ _ _ _ _ _ (Act.put _ (some 94) _) _
                                  simp only [Act.put, List.setIfInBounds_toArray, List.set_cons_zero, List.set_cons_succ]
                                  refine wpAnyH_take (i := 21) (v := ?_) rfl (by kernel_rfl) (by kernel_rfl) (by kernel_rfl) (fun _ _ _ h => h) (Or.inl ⟨by kernel_rfl, ?_⟩) hHeld ?_
                                  rotate_left
                                  · intro w hSw
                                    (try dsimp only at hSw)
                                    obtain ⟨hS0, hS1⟩ := hSw
                                    go_simp
                                    (try with_reducible rfl)
                                  change wpAnyH _ _ _ _ _ _ _ (Act.put _ (some 95) _) _
                                  simp only [Act.put, List.setIfInBounds_toArray, List.set_cons_zero, List.set_cons_succ]
                                  refine wpAnyH_take (i := 22) (v := ?_) rfl (by kernel_rfl) (by kernel_rfl) (by kernel_rfl) (fun _ _ _ h => h) (Or.inl ⟨by kernel_rfl, ?_⟩) hHeld ?_
                                  rotate_left
                                  · intro w hSw
                                    (try dsimp only at hSw)
                                    obtain ⟨hS0, hS1⟩ := hSw
                                    go_simp
                                    (try with_reducible rfl)
                                  change wpAnyH _ _ _ _ _ _ _ (Act.put _ (some 96) _) _
                                  simp only [Act.put, List.setIfInBounds_toArray, List.set_cons_zero, List.set_cons_succ]
                                  refine wpAnyH_take (i := 23) (v := ?_) rfl (by kernel_rfl) (by kernel_rfl) (by kernel_rfl) (fun _ _ _ h => h) (Or.inl ⟨by kernel_rfl, ?_⟩) hHeld ?_
                                  rotate_left
                                  · intro w hSw
                                    (try dsimp only at hSw)
                                    obtain ⟨hS0, hS1⟩ := hSw
                                    go_simp
                                    (try with_reducible rfl)
                                  change wpAnyH _ _ _ _ _ _ _ (Act.put _ (some 97) _) _
                                  simp only [Act.put, List.setIfInBounds_toArray, List.set_cons_zero, List.set_cons_succ]
                                  refine wpAnyH_take (i := 24) (v := ?_) rfl (by kernel_rfl) (by kernel_rfl) (by kernel_rfl) (fun _ _ _ h => h) (Or.inl ⟨by kernel_rfl, ?_⟩) hHeld ?_
                                  rotate_left
                                  · intro w hSw
                                    (try dsimp only at hSw)
                                    obtain ⟨hS0, hS1⟩ := hSw
                                    go_simp
                                    (try with_reducible rfl)
                                  change wpAnyH _ _ _ _ _ _ _ (Act.put _ (some 98) _) _
                                  simp only [Act.put, List.setIfInBounds_toArray, List.set_cons_zero, List.set_cons_succ]
                                  refine wpAnyH_take (i := 25) (v := ?_) rfl (by kernel_rfl) (by kernel_rfl) (by kernel_rfl) (fun _ _ _ h => h) (Or.inl ⟨by kernel_rfl, ?_⟩) hHeld ?_
                                  rotate_left
                                  · intro w hSw
                                    (try dsimp only at hSw)
                                    obtain ⟨hS0, hS1⟩ := hSw
                                    go_simp
                                    (try with_reducible rfl)
                                  change wpAnyH _ _ _ _ _ _ _ (Act.put _ (some 99) _) _
                                  simp only [Act.put, List.setIfInBounds_toArray, List.set_cons_zero, List.set_cons_succ]
                                  refine wpAnyH_take (i := 26) (v := ?_) rfl (by kernel_rfl) (by kernel_rfl) (by kernel_rfl) (fun _ _ _ h => h) (Or.inl ⟨by kernel_rfl, ?_⟩) hHeld ?_
                                  rotate_left
                                  · intro w hSw
                                    (try dsimp only at hSw)
                                    obtain ⟨hS0, hS1⟩ := hSw
                                    go_simp
                                    (try with_reducible rfl)
                                  change wpAnyH _ _ _ _ _ _ _ (Act.put _ (some 100) _) _
                                  simp only [Act.put, List.setIfInBounds_toArray, List.set_cons_zero, List.set_cons_succ]
                                  refine wpAnyH_take (i := 27) (v := ?_) rfl (by kernel_rfl) (by kernel_rfl) (by kernel_rfl) (fun _ _ _ h => h) (Or.inl ⟨by kernel_rfl, ?_⟩) hHeld ?_
                                  rotate_left
                                  · intro w hSw
                                    (try dsimp only at hSw)
                                    obtain ⟨hS0, hS1⟩ := hSw
                                    go_simp
                                    (try with_reducible rfl)
                                  change wpAnyH _ _ _ _ _ _ _ (Act.put _ (some 101) _) _
                                  simp only [Act.put, List.setIfInBounds_toArray, List.set_cons_zero, List.set_cons_succ]
                                  refine wpAnyH_take (i := 28) (v := ?_) rfl (by kernel_rfl) (by kernel_rfl) (by kernel_rfl) (fun _ _ _ h => h) (Or.inl ⟨by kernel_rfl, ?_⟩) hHeld ?_
                                  rotate_left
                                  · intro w hSw
                                    (try dsimp only at hSw)
                                    obtain ⟨hS0, hS1⟩ := hSw
                                    go_simp
                                    (try with_reducible rfl)
                                  change wpAnyH _ _ _ _ _ _ _ (Act.put _ (some 102) _) _
                                  simp only [Act.put, List.setIfInBounds_toArray, List.set_cons_zero, List.set_cons_succ]
                                  refine wpAnyH_take (i := 29) (v := ?_) rfl (by kernel_rfl) (by kernel_rfl) (by kernel_rfl) (fun _ _ _ h => h) (Or.inl ⟨by kernel_rfl, ?_⟩) hHeld ?_
                                  rotate_left
                                  · intro w hSw
                                    (try dsimp only at hSw)
                                    obtain ⟨hS0, hS1⟩ := hSw
                                    go_simp
                                    (try with_reducible rfl)
                                  change wpAnyH _ _ _ _ _ _ _ (Act.put _ (some 103) _) _
                                  simp only [Act.put, List.setIfInBounds_toArray, List.set_cons_zero, List.set_cons_succ]
                                  refine wpAnyH_take (i := 30) (v := ?_) rfl (by kernel_rfl) (by kernel_rfl) (by kernel_rfl) (fun _ _ _ h => h) (Or.inl ⟨by kernel_rfl, ?_⟩) hHeld ?_
                                  rotate_left
                                  · intro w hSw
                                    (try dsimp only at hSw)
                                    obtain ⟨hS0, hS1⟩ := hSw
                                    go_simp
                                    (try with_reducible rfl)
                                  change wpAnyH _ _ _ _ _ _ _ (Act.put _ (some 104) _) _
                                  simp only [Act.put, List.setIfInBounds_toArray, List.set_cons_zero, List.set_cons_succ]
                                  refine wpAnyH_take (i := 31) (v := ?_) rfl (by kernel_rfl) (by kernel_rfl) (by kernel_rfl) (fun _ _ _ h => h) (Or.inl ⟨by kernel_rfl, ?_⟩) hHeld ?_
                                  rotate_left
                                  · intro w hSw
                                    (try dsimp only at hSw)
                                    obtain ⟨hS0, hS1⟩ := hSw
                                    go_simp
                                    (try with_reducible rfl)
                                  change wpAnyH _ _ _ _ _ _ _ (Act.put _ (some 105) _) _
                                  simp only [Act.put, List.setIfInBounds_toArray, List.set_cons_zero, List.set_cons_succ]
                                  refine wpAnyH_done (by kernel_rfl) ?_ _
                                  go_wp2_with fail
                                  go_meet
                                  exact ⟨rfl, hm8.drew, gr_drew hg8⟩
                              · have e3i : ((a[i].toNat : Int) == (b[K1].toNat : Int)) = false := by
                                  rw [beq_eq_false_iff_ne]; intro e; exact e3 (UInt8.toNat_inj.1 (by omega))
                                obtain rfl : X = false := by rw [← hX]; exact decide_eq_false (fun h => e3 h.2.2.1)
                                clear hX e3 hc1 hc2
                                refine wp_region_held_drew (S := fun W => W.cell? ⟨x2, 0, none⟩ = some (.string a) ∧ W.cell? ⟨x3, 0, none⟩ = some (.string b)) (by kernel_rfl) ⟨c2, c3⟩ (fun hHeld => ?_)
                                refine wpAnyH_take (i := 0) (v := ?_) rfl (by kernel_rfl) (by kernel_rfl) (by kernel_rfl) (fun _ _ _ h => h) (Or.inl ⟨by kernel_rfl, ?_⟩) hHeld ?_
                                rotate_left
                                · intro w hSw
                                  (try dsimp only at hSw)
                                  obtain ⟨hS0, hS1⟩ := hSw
                                  go_simp
                                  (try with_reducible rfl)
                                change wpAnyH _ _ _ _ _ _ _ (Act.put _ (some 74) _) _
                                simp only [Act.put, List.setIfInBounds_toArray, List.set_cons_zero, List.set_cons_succ]
                                refine wpAnyH_take (i := 1) (v := ?_) rfl (by kernel_rfl) (by kernel_rfl) (by kernel_rfl) (fun _ _ _ h => h) (Or.inl ⟨by kernel_rfl, ?_⟩) hHeld ?_
                                rotate_left
                                · intro w hSw
                                  (try dsimp only at hSw)
                                  obtain ⟨hS0, hS1⟩ := hSw
                                  go_simp
                                  (try with_reducible rfl)
                                change wpAnyH _ _ _ _ _ _ _ (Act.put _ (some 75) _) _
                                simp only [Act.put, List.setIfInBounds_toArray, List.set_cons_zero, List.set_cons_succ]
                                refine wpAnyH_take (i := 2) (v := ?_) rfl (by kernel_rfl) (by kernel_rfl) (by kernel_rfl) (fun _ _ _ h => h) (Or.inl ⟨by kernel_rfl, ?_⟩) hHeld ?_
                                rotate_left
                                · intro w hSw
                                  (try dsimp only at hSw)
                                  obtain ⟨hS0, hS1⟩ := hSw
                                  go_simp
                                  (try with_reducible rfl)
                                change wpAnyH _ _ _ _ _ _ _ (Act.put _ (some 76) _) _
                                simp only [Act.put, List.setIfInBounds_toArray, List.set_cons_zero, List.set_cons_succ]
                                refine wpAnyH_take (i := 3) (v := ?_) rfl (by kernel_rfl) (by kernel_rfl) (by kernel_rfl) (fun _ _ _ h => h) (Or.inl ⟨by kernel_rfl, ?_⟩) hHeld ?_
                                rotate_left
                                · intro w hSw
                                  (try dsimp only at hSw)
                                  obtain ⟨hS0, hS1⟩ := hSw
                                  go_simp
                                  (try with_reducible rfl)
                                change wpAnyH _ _ _ _ _ _ _ (Act.put _ (some 77) _) _
                                simp only [Act.put, List.setIfInBounds_toArray, List.set_cons_zero, List.set_cons_succ]
                                refine wpAnyH_take (i := 4) (v := ?_) rfl (by kernel_rfl) (by kernel_rfl) (by kernel_rfl) (fun _ _ _ h => h) (Or.inl ⟨by kernel_rfl, ?_⟩) hHeld ?_
                                rotate_left
                                · intro w hSw
                                  (try dsimp only at hSw)
                                  obtain ⟨hS0, hS1⟩ := hSw
                                  go_simp
                                  (try with_reducible rfl)
                                change wpAnyH _ _ _ _ _ _ _ (Act.put _ (some 78) _) _
                                simp only [Act.put, List.setIfInBounds_toArray, List.set_cons_zero, List.set_cons_succ]
                                refine wpAnyH_take (i := 5) (v := ?_) rfl (by kernel_rfl) (by kernel_rfl) (by kernel_rfl) (fun _ _ _ h => h) (Or.inl ⟨by kernel_rfl, ?_⟩) hHeld ?_
                                rotate_left
                                · intro w hSw
                                  (try dsimp only at hSw)
                                  obtain ⟨hS0, hS1⟩ := hSw
                                  go_simp
                                  (try with_reducible rfl)
                                change wpAnyH _ _ _ _ _ _ _ (Act.put _ (some 79) _) _
                                simp only [Act.put, List.setIfInBounds_toArray, List.set_cons_zero, List.set_cons_succ]
                                refine wpAnyH_take (i := 6) (v := ?_) rfl (by kernel_rfl) (by kernel_rfl) (by kernel_rfl) (fun _ _ _ h => h) (Or.inl ⟨by kernel_rfl, ?_⟩) hHeld ?_
                                rotate_left
                                · intro w hSw
                                  (try dsimp only at hSw)
                                  obtain ⟨hS0, hS1⟩ := hSw
                                  go_simp
                                  (try with_reducible rfl)
                                change wpAnyH _ _ _ _ _ _ _ (Act.put _ (some 80) _) _
                                simp only [Act.put, List.setIfInBounds_toArray, List.set_cons_zero, List.set_cons_succ]
                                refine wpAnyH_take (i := 7) (v := ?_) rfl (by kernel_rfl) (by kernel_rfl) (by kernel_rfl) (fun _ _ _ h => h) (Or.inl ⟨by kernel_rfl, ?_⟩) hHeld ?_
                                rotate_left
                                · intro w hSw
                                  (try dsimp only at hSw)
                                  obtain ⟨hS0, hS1⟩ := hSw
                                  go_simp
                                  (try with_reducible rfl)
                                change wpAnyH _ _ _ _ _ _ _ (Act.put _ (some 81) _) _
                                simp only [Act.put, List.setIfInBounds_toArray, List.set_cons_zero, List.set_cons_succ]
                                refine wpAnyH_take (i := 8) (v := ?_) rfl (by kernel_rfl) (by kernel_rfl) (by kernel_rfl) (fun _ _ _ h => h) (Or.inl ⟨by kernel_rfl, ?_⟩) hHeld ?_
                                rotate_left
                                · intro w hSw
                                  (try dsimp only at hSw)
                                  obtain ⟨hS0, hS1⟩ := hSw
                                  go_simp
                                  (try with_reducible rfl)
                                change wpAnyH _ _ _ _ _ _ _ (Act.put _ (some 82) _) _
                                simp only [Act.put, List.setIfInBounds_toArray, List.set_cons_zero, List.set_cons_succ]
                                refine wpAnyH_take (i := 9) (v := ?_) rfl (by kernel_rfl) (by kernel_rfl) (by kernel_rfl) (fun _ _ _ h => h) (Or.inl ⟨by kernel_rfl, ?_⟩) hHeld ?_
                                rotate_left
                                · intro w hSw
                                  (try dsimp only at hSw)
                                  obtain ⟨hS0, hS1⟩ := hSw
                                  go_simp
                                  (try with_reducible rfl)
                                change wpAnyH _ _ _ _ _ _ _ (Act.put _ (some 83) _) _
                                simp only [Act.put, List.setIfInBounds_toArray, List.set_cons_zero, List.set_cons_succ]
                                refine wpAnyH_take (i := 10) (v := ?_) rfl (by kernel_rfl) (by kernel_rfl) (by kernel_rfl) (fun _ _ _ h => h) (Or.inl ⟨by kernel_rfl, ?_⟩) hHeld ?_
                                rotate_left
                                · intro w hSw
                                  (try dsimp only at hSw)
                                  obtain ⟨hS0, hS1⟩ := hSw
                                  go_simp
                                  (try with_reducible rfl)
                                change wpAnyH _ _ _ _ _ _ _ (Act.put _ (some 84) _) _
                                simp only [Act.put, List.setIfInBounds_toArray, List.set_cons_zero, List.set_cons_succ]
                                refine wpAnyH_take (i := 11) (v := ?_) rfl (by kernel_rfl) (by kernel_rfl) (by kernel_rfl) (fun _ _ _ h => h) (Or.inl ⟨by kernel_rfl, ?_⟩) hHeld ?_
                                rotate_left
                                · intro w hSw
                                  (try dsimp only at hSw)
                                  obtain ⟨hS0, hS1⟩ := hSw
                                  go_simp
                                  (try with_reducible rfl)
                                change wpAnyH _ _ _ _ _ _ _ (Act.put _ (some 85) _) _
                                simp only [Act.put, List.setIfInBounds_toArray, List.set_cons_zero, List.set_cons_succ]
                                refine wpAnyH_take (i := 12) (v := ?_) rfl (by kernel_rfl) (by kernel_rfl) (by kernel_rfl) (fun _ _ _ h => h) (Or.inl ⟨by kernel_rfl, ?_⟩) hHeld ?_
                                rotate_left
                                · intro w hSw
                                  (try dsimp only at hSw)
                                  obtain ⟨hS0, hS1⟩ := hSw
                                  go_simp
                                  (try with_reducible rfl)
                                change wpAnyH _ _ _ _ _ _ _ (Act.put _ (some 86) _) _
                                simp only [Act.put, List.setIfInBounds_toArray, List.set_cons_zero, List.set_cons_succ]
                                refine wpAnyH_take (i := 13) (v := ?_) rfl (by kernel_rfl) (by kernel_rfl) (by kernel_rfl) (fun _ _ _ h => h) (Or.inl ⟨by kernel_rfl, ?_⟩) hHeld ?_
                                rotate_left
                                · intro w hSw
                                  (try dsimp only at hSw)
                                  obtain ⟨hS0, hS1⟩ := hSw
                                  go_simp
                                  (try with_reducible rfl)
                                change wpAnyH _ _ _ _ _ _ _ (Act.put _ (some 87) _) _
                                simp only [Act.put, List.setIfInBounds_toArray, List.set_cons_zero, List.set_cons_succ]
                                refine wpAnyH_take (i := 14) (v := ?_) rfl (by kernel_rfl) (by kernel_rfl) (by kernel_rfl) (fun _ _ _ h => h) (Or.inl ⟨by kernel_rfl, ?_⟩) hHeld ?_
                                rotate_left
                                · intro w hSw
                                  (try dsimp only at hSw)
                                  obtain ⟨hS0, hS1⟩ := hSw
                                  go_simp
                                  (try with_reducible rfl)
                                change wpAnyH _ _ _ _ _ _ _ (Act.put _ (some 88) _) _
                                simp only [Act.put, List.setIfInBounds_toArray, List.set_cons_zero, List.set_cons_succ]
                                refine wpAnyH_take (i := 15) (v := ?_) rfl (by kernel_rfl) (by kernel_rfl) (by kernel_rfl) (fun _ _ _ h => h) (Or.inl ⟨by kernel_rfl, ?_⟩) hHeld ?_
                                rotate_left
                                · intro w hSw
                                  (try dsimp only at hSw)
                                  obtain ⟨hS0, hS1⟩ := hSw
                                  go_simp
                                  (try with_reducible rfl)
                                change wpAnyH _ _ _ _ _ _ _ (Act.put _ (some 89) _) _
                                simp only [Act.put, List.setIfInBounds_toArray, List.set_cons_zero, List.set_cons_succ]
                                refine wpAnyH_take (i := 16) (v := ?_) rfl (by kernel_rfl) (by kernel_rfl) (by kernel_rfl) (fun _ _ _ h => h) (Or.inl ⟨by kernel_rfl, ?_⟩) hHeld ?_
                                rotate_left
                                · intro w hSw
                                  (try dsimp only at hSw)
                                  obtain ⟨hS0, hS1⟩ := hSw
                                  go_simp
                                  (try with_reducible rfl)
                                change wpAnyH _ _ _ _ _ _ _ (Act.put _ (some 90) _) _
                                simp only [Act.put, List.setIfInBounds_toArray, List.set_cons_zero, List.set_cons_succ]
                                refine wpAnyH_take (i := 17) (v := ?_) rfl (by kernel_rfl) (by kernel_rfl) (by kernel_rfl) (fun _ _ _ h => h) (Or.inl ⟨by kernel_rfl, ?_⟩) hHeld ?_
                                rotate_left
                                · intro w hSw
                                  (try dsimp only at hSw)
                                  obtain ⟨hS0, hS1⟩ := hSw
                                  go_simp
                                  (try with_reducible rfl)
                                change wpAnyH _ _ _ _ _ _ _ (Act.put _ (some 91) _) _
                                simp only [Act.put, List.setIfInBounds_toArray, List.set_cons_zero, List.set_cons_succ]
                                refine wpAnyH_take (i := 18) (v := ?_) rfl (by kernel_rfl) (by kernel_rfl) (by kernel_rfl) (fun _ _ _ h => h) (Or.inl ⟨by kernel_rfl, ?_⟩) hHeld ?_
                                rotate_left
                                · intro w hSw
                                  (try dsimp only at hSw)
                                  obtain ⟨hS0, hS1⟩ := hSw
                                  go_simp
                                  (try with_reducible rfl)
                                change wpAnyH _ _ _ _ _ _ _ (Act.put _ (some 92) _) _
                                simp only [Act.put, List.setIfInBounds_toArray, List.set_cons_zero, List.set_cons_succ]
                                refine wpAnyH_take (i := 19) (v := ?_) rfl (by kernel_rfl) (by kernel_rfl) (by kernel_rfl) (fun _ _ _ h => h) (Or.inl ⟨by kernel_rfl, ?_⟩) hHeld ?_
                                rotate_left
                                · intro w hSw
                                  (try dsimp only at hSw)
                                  obtain ⟨hS0, hS1⟩ := hSw
                                  go_simp
                                  (try with_reducible rfl)
                                change wpAnyH _ _ _ _ _ _ _ (Act.put _ (some 93) _) _
                                simp only [Act.put, List.setIfInBounds_toArray, List.set_cons_zero, List.set_cons_succ]
                                refine wpAnyH_take (i := 20) (v := ?_) rfl (by kernel_rfl) (by kernel_rfl) (by kernel_rfl) (fun _ _ _ h => h) (Or.inl ⟨by kernel_rfl, ?_⟩) hHeld ?_
                                rotate_left
                                · intro w hSw
                                  (try dsimp only at hSw)
                                  obtain ⟨hS0, hS1⟩ := hSw
                                  go_simp
                                  (try with_reducible rfl)
                                change wpAnyH _ _ _ _ _ _ _ (Act.put _ (some 94) _) _
                                simp only [Act.put, List.setIfInBounds_toArray, List.set_cons_zero, List.set_cons_succ]
                                refine wpAnyH_take (i := 21) (v := ?_) rfl (by kernel_rfl) (by kernel_rfl) (by kernel_rfl) (fun _ _ _ h => h) (Or.inl ⟨by kernel_rfl, ?_⟩) hHeld ?_
                                rotate_left
                                · intro w hSw
                                  (try dsimp only at hSw)
                                  obtain ⟨hS0, hS1⟩ := hSw
                                  go_simp
                                  (try with_reducible rfl)
                                change wpAnyH _ _ _ _ _ _ _ (Act.put _ (some 95) _) _
                                simp only [Act.put, List.setIfInBounds_toArray, List.set_cons_zero, List.set_cons_succ]
                                refine wpAnyH_take (i := 22) (v := ?_) rfl (by kernel_rfl) (by kernel_rfl) (by kernel_rfl) (fun _ _ _ h => h) (Or.inl ⟨by kernel_rfl, ?_⟩) hHeld ?_
                                rotate_left
                                · intro w hSw
                                  (try dsimp only at hSw)
                                  obtain ⟨hS0, hS1⟩ := hSw
                                  go_simp
                                  (try with_reducible rfl)
                                change wpAnyH _ _ _ _ _ _ _ (Act.put _ (some 96) _) _
                                simp only [Act.put, List.setIfInBounds_toArray, List.set_cons_zero, List.set_cons_succ]
                                refine wpAnyH_take (i := 23) (v := undef) rfl (by kernel_rfl) (by kernel_rfl) (by kernel_rfl) (fun _ _ _ h => h) (Or.inr ⟨by kernel_rfl, rfl⟩) hHeld ?_
                                change wpAnyH _ _ _ _ _ _ _ (Act.put _ (some 97) _) _
                                simp only [Act.put, List.setIfInBounds_toArray, List.set_cons_zero, List.set_cons_succ]
                                refine wpAnyH_take (i := 24) (v := undef) rfl (by kernel_rfl) (by kernel_rfl) (by kernel_rfl) (fun _ _ _ h => h) (Or.inr ⟨by kernel_rfl, rfl⟩) hHeld ?_
                                change wpAnyH _ _ _ _ _ _ _ (Act.put _ (some 98) _) _
                                simp only [Act.put, List.setIfInBounds_toArray, List.set_cons_zero, List.set_cons_succ]
                                refine wpAnyH_take (i := 25) (v := undef) rfl (by kernel_rfl) (by kernel_rfl) (by kernel_rfl) (fun _ _ _ h => h) (Or.inr ⟨by kernel_rfl, rfl⟩) hHeld ?_
                                change wpAnyH _ _ _ _ _ _ _ (Act.put _ (some 99) _) _
                                simp only [Act.put, List.setIfInBounds_toArray, List.set_cons_zero, List.set_cons_succ]
                                refine wpAnyH_take (i := 26) (v := undef) rfl (by kernel_rfl) (by kernel_rfl) (by kernel_rfl) (fun _ _ _ h => h) (Or.inr ⟨by kernel_rfl, rfl⟩) hHeld ?_
                                change wpAnyH _ _ _ _ _ _ _ (Act.put _ (some 100) _) _
                                simp only [Act.put, List.setIfInBounds_toArray, List.set_cons_zero, List.set_cons_succ]
                                refine wpAnyH_take (i := 27) (v := undef) rfl (by kernel_rfl) (by kernel_rfl) (by kernel_rfl) (fun _ _ _ h => h) (Or.inr ⟨by kernel_rfl, rfl⟩) hHeld ?_
                                change wpAnyH _ _ _ _ _ _ _ (Act.put _ (some 101) _) _
                                simp only [Act.put, List.setIfInBounds_toArray, List.set_cons_zero, List.set_cons_succ]
                                refine wpAnyH_take (i := 28) (v := undef) rfl (by kernel_rfl) (by kernel_rfl) (by kernel_rfl) (fun _ _ _ h => h) (Or.inr ⟨by kernel_rfl, rfl⟩) hHeld ?_
                                change wpAnyH _ _ _ _ _ _ _ (Act.put _ (some 102) _) _
                                simp only [Act.put, List.setIfInBounds_toArray, List.set_cons_zero, List.set_cons_succ]
                                refine wpAnyH_take (i := 29) (v := undef) rfl (by kernel_rfl) (by kernel_rfl) (by kernel_rfl) (fun _ _ _ h => h) (Or.inr ⟨by kernel_rfl, rfl⟩) hHeld ?_
                                change wpAnyH _ _ _ _ _ _ _ (Act.put _ (some 103) _) _
                                simp only [Act.put, List.setIfInBounds_toArray, List.set_cons_zero, List.set_cons_succ]
                                refine wpAnyH_take (i := 30) (v := undef) rfl (by kernel_rfl) (by kernel_rfl) (by kernel_rfl) (fun _ _ _ h => h) (Or.inr ⟨by kernel_rfl, rfl⟩) hHeld ?_
                                change wpAnyH _ _ _ _ _ _ _ (Act.put _ (some 104) _) _
                                simp only [Act.put, List.setIfInBounds_toArray, List.set_cons_zero, List.set_cons_succ]
                                refine wpAnyH_take (i := 31) (v := ?_) rfl (by kernel_rfl) (by kernel_rfl) (by kernel_rfl) (fun _ _ _ h => h) (Or.inl ⟨by kernel_rfl, ?_⟩) hHeld ?_
                                rotate_left
                                · intro w hSw
                                  (try dsimp only at hSw)
                                  obtain ⟨hS0, hS1⟩ := hSw
                                  go_simp
                                  (try with_reducible rfl)
                                change wpAnyH _ _ _ _ _ _ _ (Act.put _ (some 105) _) _
                                simp only [Act.put, List.setIfInBounds_toArray, List.set_cons_zero, List.set_cons_succ]
                                refine wpAnyH_done (by kernel_rfl) ?_ _
                                go_wp2_with fail
                                go_meet
                                exact ⟨rfl, hm8.drew, gr_drew hg8⟩
                            · have e2i : ¬ (K1 : Int) < (b.size : Int) := by omega
                              obtain rfl : X = false := by rw [← hX]; exact decide_eq_false (fun h => e2 h.2.1)
                              clear hX hc1
                              refine wp_region_held_drew (S := fun W => W.cell? ⟨x2, 0, none⟩ = some (.string a) ∧ W.cell? ⟨x3, 0, none⟩ = some (.string b)) (by kernel_rfl) ⟨c2, c3⟩ (fun hHeld => ?_)
                              refine wpAnyH_take (i := 0) (v := ?_) rfl (by kernel_rfl) (by kernel_rfl) (by kernel_rfl) (fun _ _ _ h => h) (Or.inl ⟨by kernel_rfl, ?_⟩) hHeld ?_
                              rotate_left
                              · intro w hSw
                                (try dsimp only at hSw)
                                obtain ⟨hS0, hS1⟩ := hSw
                                go_simp
                                (try with_reducible rfl)
                              change wpAnyH _ _ _ _ _ _ _ (Act.put _ (some 74) _) _
                              simp only [Act.put, List.setIfInBounds_toArray, List.set_cons_zero, List.set_cons_succ]
                              refine wpAnyH_take (i := 1) (v := ?_) rfl (by kernel_rfl) (by kernel_rfl) (by kernel_rfl) (fun _ _ _ h => h) (Or.inl ⟨by kernel_rfl, ?_⟩) hHeld ?_
                              rotate_left
                              · intro w hSw
                                (try dsimp only at hSw)
                                obtain ⟨hS0, hS1⟩ := hSw
                                go_simp
                                (try with_reducible rfl)
                              change wpAnyH _ _ _ _ _ _ _ (Act.put _ (some 75) _) _
                              simp only [Act.put, List.setIfInBounds_toArray, List.set_cons_zero, List.set_cons_succ]
                              refine wpAnyH_take (i := 2) (v := ?_) rfl (by kernel_rfl) (by kernel_rfl) (by kernel_rfl) (fun _ _ _ h => h) (Or.inl ⟨by kernel_rfl, ?_⟩) hHeld ?_
                              rotate_left
                              · intro w hSw
                                (try dsimp only at hSw)
                                obtain ⟨hS0, hS1⟩ := hSw
                                go_simp
                                (try with_reducible rfl)
                              change wpAnyH _ _ _ _ _ _ _ (Act.put _ (some 76) _) _
                              simp only [Act.put, List.setIfInBounds_toArray, List.set_cons_zero, List.set_cons_succ]
                              refine wpAnyH_take (i := 3) (v := ?_) rfl (by kernel_rfl) (by kernel_rfl) (by kernel_rfl) (fun _ _ _ h => h) (Or.inl ⟨by kernel_rfl, ?_⟩) hHeld ?_
                              rotate_left
                              · intro w hSw
                                (try dsimp only at hSw)
                                obtain ⟨hS0, hS1⟩ := hSw
                                go_simp
                                (try with_reducible rfl)
                              change wpAnyH _ _ _ _ _ _ _ (Act.put _ (some 77) _) _
                              simp only [Act.put, List.setIfInBounds_toArray, List.set_cons_zero, List.set_cons_succ]
                              refine wpAnyH_take (i := 4) (v := ?_) rfl (by kernel_rfl) (by kernel_rfl) (by kernel_rfl) (fun _ _ _ h => h) (Or.inl ⟨by kernel_rfl, ?_⟩) hHeld ?_
                              rotate_left
                              · intro w hSw
                                (try dsimp only at hSw)
                                obtain ⟨hS0, hS1⟩ := hSw
                                go_simp
                                (try with_reducible rfl)
                              change wpAnyH _ _ _ _ _ _ _ (Act.put _ (some 78) _) _
                              simp only [Act.put, List.setIfInBounds_toArray, List.set_cons_zero, List.set_cons_succ]
                              refine wpAnyH_take (i := 5) (v := ?_) rfl (by kernel_rfl) (by kernel_rfl) (by kernel_rfl) (fun _ _ _ h => h) (Or.inl ⟨by kernel_rfl, ?_⟩) hHeld ?_
                              rotate_left
                              · intro w hSw
                                (try dsimp only at hSw)
                                obtain ⟨hS0, hS1⟩ := hSw
                                go_simp
                                (try with_reducible rfl)
                              change wpAnyH _ _ _ _ _ _ _ (Act.put _ (some 79) _) _
                              simp only [Act.put, List.setIfInBounds_toArray, List.set_cons_zero, List.set_cons_succ]
                              refine wpAnyH_take (i := 6) (v := ?_) rfl (by kernel_rfl) (by kernel_rfl) (by kernel_rfl) (fun _ _ _ h => h) (Or.inl ⟨by kernel_rfl, ?_⟩) hHeld ?_
                              rotate_left
                              · intro w hSw
                                (try dsimp only at hSw)
                                obtain ⟨hS0, hS1⟩ := hSw
                                go_simp
                                (try with_reducible rfl)
                              change wpAnyH _ _ _ _ _ _ _ (Act.put _ (some 80) _) _
                              simp only [Act.put, List.setIfInBounds_toArray, List.set_cons_zero, List.set_cons_succ]
                              refine wpAnyH_take (i := 7) (v := ?_) rfl (by kernel_rfl) (by kernel_rfl) (by kernel_rfl) (fun _ _ _ h => h) (Or.inl ⟨by kernel_rfl, ?_⟩) hHeld ?_
                              rotate_left
                              · intro w hSw
                                (try dsimp only at hSw)
                                obtain ⟨hS0, hS1⟩ := hSw
                                go_simp
                                (try with_reducible rfl)
                              change wpAnyH _ _ _ _ _ _ _ (Act.put _ (some 81) _) _
                              simp only [Act.put, List.setIfInBounds_toArray, List.set_cons_zero, List.set_cons_succ]
                              refine wpAnyH_take (i := 8) (v := ?_) rfl (by kernel_rfl) (by kernel_rfl) (by kernel_rfl) (fun _ _ _ h => h) (Or.inl ⟨by kernel_rfl, ?_⟩) hHeld ?_
                              rotate_left
                              · intro w hSw
                                (try dsimp only at hSw)
                                obtain ⟨hS0, hS1⟩ := hSw
                                go_simp
                                (try with_reducible rfl)
                              change wpAnyH _ _ _ _ _ _ _ (Act.put _ (some 82) _) _
                              simp only [Act.put, List.setIfInBounds_toArray, List.set_cons_zero, List.set_cons_succ]
                              refine wpAnyH_take (i := 9) (v := ?_) rfl (by kernel_rfl) (by kernel_rfl) (by kernel_rfl) (fun _ _ _ h => h) (Or.inl ⟨by kernel_rfl, ?_⟩) hHeld ?_
                              rotate_left
                              · intro w hSw
                                (try dsimp only at hSw)
                                obtain ⟨hS0, hS1⟩ := hSw
                                go_simp
                                (try with_reducible rfl)
                              change wpAnyH _ _ _ _ _ _ _ (Act.put _ (some 83) _) _
                              simp only [Act.put, List.setIfInBounds_toArray, List.set_cons_zero, List.set_cons_succ]
                              refine wpAnyH_take (i := 10) (v := ?_) rfl (by kernel_rfl) (by kernel_rfl) (by kernel_rfl) (fun _ _ _ h => h) (Or.inl ⟨by kernel_rfl, ?_⟩) hHeld ?_
                              rotate_left
                              · intro w hSw
                                (try dsimp only at hSw)
                                obtain ⟨hS0, hS1⟩ := hSw
                                go_simp
                                (try with_reducible rfl)
                              change wpAnyH _ _ _ _ _ _ _ (Act.put _ (some 84) _) _
                              simp only [Act.put, List.setIfInBounds_toArray, List.set_cons_zero, List.set_cons_succ]
                              refine wpAnyH_take (i := 11) (v := ?_) rfl (by kernel_rfl) (by kernel_rfl) (by kernel_rfl) (fun _ _ _ h => h) (Or.inl ⟨by kernel_rfl, ?_⟩) hHeld ?_
                              rotate_left
                              · intro w hSw
                                (try dsimp only at hSw)
                                obtain ⟨hS0, hS1⟩ := hSw
                                go_simp
                                (try with_reducible rfl)
                              change wpAnyH _ _ _ _ _ _ _ (Act.put _ (some 85) _) _
                              simp only [Act.put, List.setIfInBounds_toArray, List.set_cons_zero, List.set_cons_succ]
                              refine wpAnyH_take (i := 12) (v := ?_) rfl (by kernel_rfl) (by kernel_rfl) (by kernel_rfl) (fun _ _ _ h => h) (Or.inl ⟨by kernel_rfl, ?_⟩) hHeld ?_
                              rotate_left
                              · intro w hSw
                                (try dsimp only at hSw)
                                obtain ⟨hS0, hS1⟩ := hSw
                                go_simp
                                (try with_reducible rfl)
                              change wpAnyH _ _ _ _ _ _ _ (Act.put _ (some 86) _) _
                              simp only [Act.put, List.setIfInBounds_toArray, List.set_cons_zero, List.set_cons_succ]
                              refine wpAnyH_take (i := 13) (v := undef) rfl (by kernel_rfl) (by kernel_rfl) (by kernel_rfl) (fun _ _ _ h => h) (Or.inr ⟨by kernel_rfl, rfl⟩) hHeld ?_
                              change wpAnyH _ _ _ _ _ _ _ (Act.put _ (some 87) _) _
                              simp only [Act.put, List.setIfInBounds_toArray, List.set_cons_zero, List.set_cons_succ]
                              refine wpAnyH_take (i := 14) (v := undef) rfl (by kernel_rfl) (by kernel_rfl) (by kernel_rfl) (fun _ _ _ h => h) (Or.inr ⟨by kernel_rfl, rfl⟩) hHeld ?_
                              change wpAnyH _ _ _ _ _ _ _ (Act.put _ (some 88) _) _
                              simp only [Act.put, List.setIfInBounds_toArray, List.set_cons_zero, List.set_cons_succ]
                              refine wpAnyH_take (i := 15) (v := undef) rfl (by kernel_rfl) (by kernel_rfl) (by kernel_rfl) (fun _ _ _ h => h) (Or.inr ⟨by kernel_rfl, rfl⟩) hHeld ?_
                              change wpAnyH _ _ _ _ _ _ _ (Act.put _ (some 89) _) _
                              simp only [Act.put, List.setIfInBounds_toArray, List.set_cons_zero, List.set_cons_succ]
                              refine wpAnyH_take (i := 16) (v := undef) rfl (by kernel_rfl) (by kernel_rfl) (by kernel_rfl) (fun _ _ _ h => h) (Or.inr ⟨by kernel_rfl, rfl⟩) hHeld ?_
                              change wpAnyH _ _ _ _ _ _ _ (Act.put _ (some 90) _) _
                              simp only [Act.put, List.setIfInBounds_toArray, List.set_cons_zero, List.set_cons_succ]
                              refine wpAnyH_take (i := 17) (v := undef) rfl (by kernel_rfl) (by kernel_rfl) (by kernel_rfl) (fun _ _ _ h => h) (Or.inr ⟨by kernel_rfl, rfl⟩) hHeld ?_
                              change wpAnyH _ _ _ _ _ _ _ (Act.put _ (some 91) _) _
                              simp only [Act.put, List.setIfInBounds_toArray, List.set_cons_zero, List.set_cons_succ]
                              refine wpAnyH_take (i := 18) (v := undef) rfl (by kernel_rfl) (by kernel_rfl) (by kernel_rfl) (fun _ _ _ h => h) (Or.inr ⟨by kernel_rfl, rfl⟩) hHeld ?_
                              change wpAnyH _ _ _ _ _ _ _ (Act.put _ (some 92) _) _
                              simp only [Act.put, List.setIfInBounds_toArray, List.set_cons_zero, List.set_cons_succ]
                              refine wpAnyH_take (i := 19) (v := undef) rfl (by kernel_rfl) (by kernel_rfl) (by kernel_rfl) (fun _ _ _ h => h) (Or.inr ⟨by kernel_rfl, rfl⟩) hHeld ?_
                              change wpAnyH _ _ _ _ _ _ _ (Act.put _ (some 93) _) _
                              simp only [Act.put, List.setIfInBounds_toArray, List.set_cons_zero, List.set_cons_succ]
                              refine wpAnyH_take (i := 20) (v := undef) rfl (by kernel_rfl) (by kernel_rfl) (by kernel_rfl) (fun _ _ _ h => h) (Or.inr ⟨by kernel_rfl, rfl⟩) hHeld ?_
                              change wpAnyH _ _ _ _ _ _ _ (Act.put _ (some 94) _) _
                              simp only [Act.put, List.setIfInBounds_toArray, List.set_cons_zero, List.set_cons_succ]
                              refine wpAnyH_take (i := 21) (v := ?_) rfl (by kernel_rfl) (by kernel_rfl) (by kernel_rfl) (fun _ _ _ h => h) (Or.inl ⟨by kernel_rfl, ?_⟩) hHeld ?_
                              rotate_left
                              · intro w hSw
                                (try dsimp only at hSw)
                                obtain ⟨hS0, hS1⟩ := hSw
                                go_simp
                                (try with_reducible rfl)
                              change wpAnyH _ _ _ _ _ _ _ (Act.put _ (some 95) _) _
                              simp only [Act.put, List.setIfInBounds_toArray, List.set_cons_zero, List.set_cons_succ]
                              refine wpAnyH_take (i := 22) (v := ?_) rfl (by kernel_rfl) (by kernel_rfl) (by kernel_rfl) (fun _ _ _ h => h) (Or.inl ⟨by kernel_rfl, ?_⟩) hHeld ?_
                              rotate_left
                              · intro w hSw
                                (try dsimp only at hSw)
                                obtain ⟨hS0, hS1⟩ := hSw
                                go_simp
                                (try with_reducible rfl)
                              change wpAnyH _ _ _ _ _ _ _ (Act.put _ (some 96) _) _
                              simp only [Act.put, List.setIfInBounds_toArray, List.set_cons_zero, List.set_cons_succ]
                              refine wpAnyH_take (i := 23) (v := undef) rfl (by kernel_rfl) (by kernel_rfl) (by kernel_rfl) (fun _ _ _ h => h) (Or.inr ⟨by kernel_rfl, rfl⟩) hHeld ?_
                              change wpAnyH _ _ _ _ _ _ _ (Act.put _ (some 97) _) _
                              simp only [Act.put, List.setIfInBounds_toArray, List.set_cons_zero, List.set_cons_succ]
                              refine wpAnyH_take (i := 24) (v := undef) rfl (by kernel_rfl) (by kernel_rfl) (by kernel_rfl) (fun _ _ _ h => h) (Or.inr ⟨by kernel_rfl, rfl⟩) hHeld ?_
                              change wpAnyH _ _ _ _ _ _ _ (Act.put _ (some 98) _) _
                              simp only [Act.put, List.setIfInBounds_toArray, List.set_cons_zero, List.set_cons_succ]
                              refine wpAnyH_take (i := 25) (v := undef) rfl (by kernel_rfl) (by kernel_rfl) (by kernel_rfl) (fun _ _ _ h => h) (Or.inr ⟨by kernel_rfl, rfl⟩) hHeld ?_
                              change wpAnyH _ _ _ _ _ _ _ (Act.put _ (some 99) _) _
                              simp only [Act.put, List.setIfInBounds_toArray, List.set_cons_zero, List.set_cons_succ]
                              refine wpAnyH_take (i := 26) (v := undef) rfl (by kernel_rfl) (by kernel_rfl) (by kernel_rfl) (fun _ _ _ h => h) (Or.inr ⟨by kernel_rfl, rfl⟩) hHeld ?_
                              change wpAnyH _ _ _ _ _ _ _ (Act.put _ (some 100) _) _
                              simp only [Act.put, List.setIfInBounds_toArray, List.set_cons_zero, List.set_cons_succ]
                              refine wpAnyH_take (i := 27) (v := undef) rfl (by kernel_rfl) (by kernel_rfl) (by kernel_rfl) (fun _ _ _ h => h) (Or.inr ⟨by kernel_rfl, rfl⟩) hHeld ?_
                              change wpAnyH _ _ _ _ _ _ _ (Act.put _ (some 101) _) _
                              simp only [Act.put, List.setIfInBounds_toArray, List.set_cons_zero, List.set_cons_succ]
                              refine wpAnyH_take (i := 28) (v := undef) rfl (by kernel_rfl) (by kernel_rfl) (by kernel_rfl) (fun _ _ _ h => h) (Or.inr ⟨by kernel_rfl, rfl⟩) hHeld ?_
                              change wpAnyH _ _ _ _ _ _ _ (Act.put _ (some 102) _) _
                              simp only [Act.put, List.setIfInBounds_toArray, List.set_cons_zero, List.set_cons_succ]
                              refine wpAnyH_take (i := 29) (v := undef) rfl (by kernel_rfl) (by kernel_rfl) (by kernel_rfl) (fun _ _ _ h => h) (Or.inr ⟨by kernel_rfl, rfl⟩) hHeld ?_
                              change wpAnyH _ _ _ _ _ _ _ (Act.put _ (some 103) _) _
                              simp only [Act.put, List.setIfInBounds_toArray, List.set_cons_zero, List.set_cons_succ]
                              refine wpAnyH_take (i := 30) (v := undef) rfl (by kernel_rfl) (by kernel_rfl) (by kernel_rfl) (fun _ _ _ h => h) (Or.inr ⟨by kernel_rfl, rfl⟩) hHeld ?_
                              change wpAnyH _ _ _ _ _ _ _ (Act.put _ (some 104) _) _
                              simp only [Act.put, List.setIfInBounds_toArray, List.set_cons_zero, List.set_cons_succ]
                              refine wpAnyH_take (i := 31) (v := ?_) rfl (by kernel_rfl) (by kernel_rfl) (by kernel_rfl) (fun _ _ _ h => h) (Or.inl ⟨by kernel_rfl, ?_⟩) hHeld ?_
                              rotate_left
                              · intro w hSw
                                (try dsimp only at hSw)
                                obtain ⟨hS0, hS1⟩ := hSw
                                go_simp
                                (try with_reducible rfl)
                              change wpAnyH _ _ _ _ _ _ _ (Act.put _ (some 105) _) _
                              simp only [Act.put, List.setIfInBounds_toArray, List.set_cons_zero, List.set_cons_succ]
                              refine wpAnyH_done (by kernel_rfl) ?_ _
                              go_wp2_with fail
                              go_meet
                              exact ⟨rfl, hm8.drew, gr_drew hg8⟩
                          · have e1i : ¬ (I1 : Int) < (a.size : Int) := by omega
                            obtain rfl : X = false := by rw [← hX]; exact decide_eq_false (fun h => e1 h.1)
                            clear hX
                            refine wp_region_held_drew (S := fun W => W.cell? ⟨x2, 0, none⟩ = some (.string a) ∧ W.cell? ⟨x3, 0, none⟩ = some (.string b)) (by kernel_rfl) ⟨c2, c3⟩ (fun hHeld => ?_)
                            refine wpAnyH_take (i := 0) (v := ?_) rfl (by kernel_rfl) (by kernel_rfl) (by kernel_rfl) (fun _ _ _ h => h) (Or.inl ⟨by kernel_rfl, ?_⟩) hHeld ?_
                            rotate_left
                            · intro w hSw
                              (try dsimp only at hSw)
                              obtain ⟨hS0, hS1⟩ := hSw
                              go_simp
                              (try with_reducible rfl)
                            change wpAnyH _ _ _ _ _ _ _ (Act.put _ (some 74) _) _
                            simp only [Act.put, List.setIfInBounds_toArray, List.set_cons_zero, List.set_cons_succ]
                            refine wpAnyH_take (i := 1) (v := ?_) rfl (by kernel_rfl) (by kernel_rfl) (by kernel_rfl) (fun _ _ _ h => h) (Or.inl ⟨by kernel_rfl, ?_⟩) hHeld ?_
                            rotate_left
                            · intro w hSw
                              (try dsimp only at hSw)
                              obtain ⟨hS0, hS1⟩ := hSw
                              go_simp
                              (try with_reducible rfl)
                            change wpAnyH _ _ _ _ _ _ _ (Act.put _ (some 75) _) _
                            simp only [Act.put, List.setIfInBounds_toArray, List.set_cons_zero, List.set_cons_succ]
                            refine wpAnyH_take (i := 2) (v := ?_) rfl (by kernel_rfl) (by kernel_rfl) (by kernel_rfl) (fun _ _ _ h => h) (Or.inl ⟨by kernel_rfl, ?_⟩) hHeld ?_
                            rotate_left
                            · intro w hSw
                              (try dsimp only at hSw)
                              obtain ⟨hS0, hS1⟩ := hSw
                              go_simp
                              (try with_reducible rfl)
                            change wpAnyH _ _ _ _ _ _ _ (Act.put _ (some 76) _) _
                            simp only [Act.put, List.setIfInBounds_toArray, List.set_cons_zero, List.set_cons_succ]
                            refine wpAnyH_take (i := 3) (v := ?_) rfl (by kernel_rfl) (by kernel_rfl) (by kernel_rfl) (fun _ _ _ h => h) (Or.inl ⟨by kernel_rfl, ?_⟩) hHeld ?_
                            rotate_left
                            · intro w hSw
                              (try dsimp only at hSw)
                              obtain ⟨hS0, hS1⟩ := hSw
                              go_simp
                              (try with_reducible rfl)
                            change wpAnyH _ _ _ _ _ _ _ (Act.put _ (some 77) _) _
                            simp only [Act.put, List.setIfInBounds_toArray, List.set_cons_zero, List.set_cons_succ]
                            refine wpAnyH_take (i := 4) (v := ?_) rfl (by kernel_rfl) (by kernel_rfl) (by kernel_rfl) (fun _ _ _ h => h) (Or.inl ⟨by kernel_rfl, ?_⟩) hHeld ?_
                            rotate_left
                            · intro w hSw
                              (try dsimp only at hSw)
                              obtain ⟨hS0, hS1⟩ := hSw
                              go_simp
                              (try with_reducible rfl)
                            change wpAnyH _ _ _ _ _ _ _ (Act.put _ (some 78) _) _
                            simp only [Act.put, List.setIfInBounds_toArray, List.set_cons_zero, List.set_cons_succ]
                            refine wpAnyH_take (i := 5) (v := ?_) rfl (by kernel_rfl) (by kernel_rfl) (by kernel_rfl) (fun _ _ _ h => h) (Or.inl ⟨by kernel_rfl, ?_⟩) hHeld ?_
                            rotate_left
                            · intro w hSw
                              (try dsimp only at hSw)
                              obtain ⟨hS0, hS1⟩ := hSw
                              go_simp
                              (try with_reducible rfl)
                            change wpAnyH _ _ _ _ _ _ _ (Act.put _ (some 79) _) _
                            simp only [Act.put, List.setIfInBounds_toArray, List.set_cons_zero, List.set_cons_succ]
                            refine wpAnyH_take (i := 6) (v := undef) rfl (by kernel_rfl) (by kernel_rfl) (by kernel_rfl) (fun _ _ _ h => h) (Or.inr ⟨by kernel_rfl, rfl⟩) hHeld ?_
                            change wpAnyH _ _ _ _ _ _ _ (Act.put _ (some 80) _) _
                            simp only [Act.put, List.setIfInBounds_toArray, List.set_cons_zero, List.set_cons_succ]
                            refine wpAnyH_take (i := 7) (v := undef) rfl (by kernel_rfl) (by kernel_rfl) (by kernel_rfl) (fun _ _ _ h => h) (Or.inr ⟨by kernel_rfl, rfl⟩) hHeld ?_
                            change wpAnyH _ _ _ _ _ _ _ (Act.put _ (some 81) _) _
                            simp only [Act.put, List.setIfInBounds_toArray, List.set_cons_zero, List.set_cons_succ]
                            refine wpAnyH_take (i := 8) (v := undef) rfl (by kernel_rfl) (by kernel_rfl) (by kernel_rfl) (fun _ _ _ h => h) (Or.inr ⟨by kernel_rfl, rfl⟩) hHeld ?_
                            change wpAnyH _ _ _ _ _ _ _ (Act.put _ (some 82) _) _
                            simp only [Act.put, List.setIfInBounds_toArray, List.set_cons_zero, List.set_cons_succ]
                            refine wpAnyH_take (i := 9) (v := undef) rfl (by kernel_rfl) (by kernel_rfl) (by kernel_rfl) (fun _ _ _ h => h) (Or.inr ⟨by kernel_rfl, rfl⟩) hHeld ?_
                            change wpAnyH _ _ _ _ _ _ _ (Act.put _ (some 83) _) _
                            simp only [Act.put, List.setIfInBounds_toArray, List.set_cons_zero, List.set_cons_succ]
                            refine wpAnyH_take (i := 10) (v := undef) rfl (by kernel_rfl) (by kernel_rfl) (by kernel_rfl) (fun _ _ _ h => h) (Or.inr ⟨by kernel_rfl, rfl⟩) hHeld ?_
                            change wpAnyH _ _ _ _ _ _ _ (Act.put _ (some 84) _) _
                            simp only [Act.put, List.setIfInBounds_toArray, List.set_cons_zero, List.set_cons_succ]
                            refine wpAnyH_take (i := 11) (v := ?_) rfl (by kernel_rfl) (by kernel_rfl) (by kernel_rfl) (fun _ _ _ h => h) (Or.inl ⟨by kernel_rfl, ?_⟩) hHeld ?_
                            rotate_left
                            · intro w hSw
                              (try dsimp only at hSw)
                              obtain ⟨hS0, hS1⟩ := hSw
                              go_simp
                              (try with_reducible rfl)
                            change wpAnyH _ _ _ _ _ _ _ (Act.put _ (some 85) _) _
                            simp only [Act.put, List.setIfInBounds_toArray, List.set_cons_zero, List.set_cons_succ]
                            refine wpAnyH_take (i := 12) (v := ?_) rfl (by kernel_rfl) (by kernel_rfl) (by kernel_rfl) (fun _ _ _ h => h) (Or.inl ⟨by kernel_rfl, ?_⟩) hHeld ?_
                            rotate_left
                            · intro w hSw
                              (try dsimp only at hSw)
                              obtain ⟨hS0, hS1⟩ := hSw
                              go_simp
                              (try with_reducible rfl)
                            change wpAnyH _ _ _ _ _ _ _ (Act.put _ (some 86) _) _
                            simp only [Act.put, List.setIfInBounds_toArray, List.set_cons_zero, List.set_cons_succ]
                            refine wpAnyH_take (i := 13) (v := undef) rfl (by kernel_rfl) (by kernel_rfl) (by kernel_rfl) (fun _ _ _ h => h) (Or.inr ⟨by kernel_rfl, rfl⟩) hHeld ?_
                            change wpAnyH _ _ _ _ _ _ _ (Act.put _ (some 87) _) _
                            simp only [Act.put, List.setIfInBounds_toArray, List.set_cons_zero, List.set_cons_succ]
                            refine wpAnyH_take (i := 14) (v := undef) rfl (by kernel_rfl) (by kernel_rfl) (by kernel_rfl) (fun _ _ _ h => h) (Or.inr ⟨by kernel_rfl, rfl⟩) hHeld ?_
                            change wpAnyH _ _ _ _ _ _ _ (Act.put _ (some 88) _) _
                            simp only [Act.put, List.setIfInBounds_toArray, List.set_cons_zero, List.set_cons_succ]
                            refine wpAnyH_take (i := 15) (v := undef) rfl (by kernel_rfl) (by kernel_rfl) (by kernel_rfl) (fun _ _ _ h => h) (Or.inr ⟨by kernel_rfl, rfl⟩) hHeld ?_
                            change wpAnyH _ _ _ _ _ _ _ (Act.put _ (some 89) _) _
                            simp only [Act.put, List.setIfInBounds_toArray, List.set_cons_zero, List.set_cons_succ]
                            refine wpAnyH_take (i := 16) (v := undef) rfl (by kernel_rfl) (by kernel_rfl) (by kernel_rfl) (fun _ _ _ h => h) (Or.inr ⟨by kernel_rfl, rfl⟩) hHeld ?_
                            change wpAnyH _ _ _ _ _ _ _ (Act.put _ (some 90) _) _
                            simp only [Act.put, List.setIfInBounds_toArray, List.set_cons_zero, List.set_cons_succ]
                            refine wpAnyH_take (i := 17) (v := undef) rfl (by kernel_rfl) (by kernel_rfl) (by kernel_rfl) (fun _ _ _ h => h) (Or.inr ⟨by kernel_rfl, rfl⟩) hHeld ?_
                            change wpAnyH _ _ _ _ _ _ _ (Act.put _ (some 91) _) _
                            simp only [Act.put, List.setIfInBounds_toArray, List.set_cons_zero, List.set_cons_succ]
                            refine wpAnyH_take (i := 18) (v := undef) rfl (by kernel_rfl) (by kernel_rfl) (by kernel_rfl) (fun _ _ _ h => h) (Or.inr ⟨by kernel_rfl, rfl⟩) hHeld ?_
                            change wpAnyH _ _ _ _ _ _ _ (Act.put _ (some 92) _) _
                            simp only [Act.put, List.setIfInBounds_toArray, List.set_cons_zero, List.set_cons_succ]
                            refine wpAnyH_take (i := 19) (v := undef) rfl (by kernel_rfl) (by kernel_rfl) (by kernel_rfl) (fun _ _ _ h => h) (Or.inr ⟨by kernel_rfl, rfl⟩) hHeld ?_
                            change wpAnyH _ _ _ _ _ _ _ (Act.put _ (some 93) _) _
                            simp only [Act.put, List.setIfInBounds_toArray, List.set_cons_zero, List.set_cons_succ]
                            refine wpAnyH_take (i := 20) (v := undef) rfl (by kernel_rfl) (by kernel_rfl) (by kernel_rfl) (fun _ _ _ h => h) (Or.inr ⟨by kernel_rfl, rfl⟩) hHeld ?_
                            change wpAnyH _ _ _ _ _ _ _ (Act.put _ (some 94) _) _
                            simp only [Act.put, List.setIfInBounds_toArray, List.set_cons_zero, List.set_cons_succ]
                            refine wpAnyH_take (i := 21) (v := ?_) rfl (by kernel_rfl) (by kernel_rfl) (by kernel_rfl) (fun _ _ _ h => h) (Or.inl ⟨by kernel_rfl, ?_⟩) hHeld ?_
                            rotate_left
                            · intro w hSw
                              (try dsimp only at hSw)
                              obtain ⟨hS0, hS1⟩ := hSw
                              go_simp
                              (try with_reducible rfl)
                            change wpAnyH _ _ _ _ _ _ _ (Act.put _ (some 95) _) _
                            simp only [Act.put, List.setIfInBounds_toArray, List.set_cons_zero, List.set_cons_succ]
                            refine wpAnyH_take (i := 22) (v := ?_) rfl (by kernel_rfl) (by kernel_rfl) (by kernel_rfl) (fun _ _ _ h => h) (Or.inl ⟨by kernel_rfl, ?_⟩) hHeld ?_
                            rotate_left
                            · intro w hSw
                              (try dsimp only at hSw)
                              obtain ⟨hS0, hS1⟩ := hSw
                              go_simp
                              (try with_reducible rfl)
                            change wpAnyH _ _ _ _ _ _ _ (Act.put _ (some 96) _) _
                            simp only [Act.put, List.setIfInBounds_toArray, List.set_cons_zero, List.set_cons_succ]
                            refine wpAnyH_take (i := 23) (v := undef) rfl (by kernel_rfl) (by kernel_rfl) (by kernel_rfl) (fun _ _ _ h => h) (Or.inr ⟨by kernel_rfl, rfl⟩) hHeld ?_
                            change wpAnyH _ _ _ _ _ _ _ (Act.put _ (some 97) _) _
                            simp only [Act.put, List.setIfInBounds_toArray, List.set_cons_zero, List.set_cons_succ]
                            refine wpAnyH_take (i := 24) (v := undef) rfl (by kernel_rfl) (by kernel_rfl) (by kernel_rfl) (fun _ _ _ h => h) (Or.inr ⟨by kernel_rfl, rfl⟩) hHeld ?_
                            change wpAnyH _ _ _ _ _ _ _ (Act.put _ (some 98) _) _
                            simp only [Act.put, List.setIfInBounds_toArray, List.set_cons_zero, List.set_cons_succ]
                            refine wpAnyH_take (i := 25) (v := undef) rfl (by kernel_rfl) (by kernel_rfl) (by kernel_rfl) (fun _ _ _ h => h) (Or.inr ⟨by kernel_rfl, rfl⟩) hHeld ?_
                            change wpAnyH _ _ _ _ _ _ _ (Act.put _ (some 99) _) _
                            simp only [Act.put, List.setIfInBounds_toArray, List.set_cons_zero, List.set_cons_succ]
                            refine wpAnyH_take (i := 26) (v := undef) rfl (by kernel_rfl) (by kernel_rfl) (by kernel_rfl) (fun _ _ _ h => h) (Or.inr ⟨by kernel_rfl, rfl⟩) hHeld ?_
                            change wpAnyH _ _ _ _ _ _ _ (Act.put _ (some 100) _) _
                            simp only [Act.put, List.setIfInBounds_toArray, List.set_cons_zero, List.set_cons_succ]
                            refine wpAnyH_take (i := 27) (v := undef) rfl (by kernel_rfl) (by kernel_rfl) (by kernel_rfl) (fun _ _ _ h => h) (Or.inr ⟨by kernel_rfl, rfl⟩) hHeld ?_
                            change wpAnyH _ _ _ _ _ _ _ (Act.put _ (some 101) _) _
                            simp only [Act.put, List.setIfInBounds_toArray, List.set_cons_zero, List.set_cons_succ]
                            refine wpAnyH_take (i := 28) (v := undef) rfl (by kernel_rfl) (by kernel_rfl) (by kernel_rfl) (fun _ _ _ h => h) (Or.inr ⟨by kernel_rfl, rfl⟩) hHeld ?_
                            change wpAnyH _ _ _ _ _ _ _ (Act.put _ (some 102) _) _
                            simp only [Act.put, List.setIfInBounds_toArray, List.set_cons_zero, List.set_cons_succ]
                            refine wpAnyH_take (i := 29) (v := undef) rfl (by kernel_rfl) (by kernel_rfl) (by kernel_rfl) (fun _ _ _ h => h) (Or.inr ⟨by kernel_rfl, rfl⟩) hHeld ?_
                            change wpAnyH _ _ _ _ _ _ _ (Act.put _ (some 103) _) _
                            simp only [Act.put, List.setIfInBounds_toArray, List.set_cons_zero, List.set_cons_succ]
                            refine wpAnyH_take (i := 30) (v := undef) rfl (by kernel_rfl) (by kernel_rfl) (by kernel_rfl) (fun _ _ _ h => h) (Or.inr ⟨by kernel_rfl, rfl⟩) hHeld ?_
                            change wpAnyH _ _ _ _ _ _ _ (Act.put _ (some 104) _) _
                            simp only [Act.put, List.setIfInBounds_toArray, List.set_cons_zero, List.set_cons_succ]
                            refine wpAnyH_take (i := 31) (v := ?_) rfl (by kernel_rfl) (by kernel_rfl) (by kernel_rfl) (fun _ _ _ h => h) (Or.inl ⟨by kernel_rfl, ?_⟩) hHeld ?_
                            rotate_left
                            · intro w hSw
                              (try dsimp only at hSw)
                              obtain ⟨hS0, hS1⟩ := hSw
                              go_simp
                              (try with_reducible rfl)
                            change wpAnyH _ _ _ _ _ _ _ (Act.put _ (some 105) _) _
                            simp only [Act.put, List.setIfInBounds_toArray, List.set_cons_zero, List.set_cons_succ]
                            refine wpAnyH_done (by kernel_rfl) ?_ _
                            go_wp2_with fail
                            go_meet
                            exact ⟨rfl, hm8.drew, gr_drew hg8⟩
                      case rest =>
                        as_aux_lemma =>
                          obtain ⟨rfl, hm9, hg9⟩ := hcut
                          rename World => w9
                          clear hX c2 c3 hm8 hg8 hI1w hK1w hI1w2 hK1w2 hI10 hK10
                          go_upto_if 105 with fail
                          go_cut [11] (fun s wx => ∃ m2 : Nat, s = .int .i64 m2 ∧ Hid (m2 = if X = true then min m1 (A4 + 1) else m1) ∧ Mem a b x2 x3 x5 x6 bm (n + 2 * T1 + 3 * T2) F wx ∧ w.grownBy wx (some bm))
                          case first =>
                            as_aux_lemma =>
                              cases X
                              · go_wp2_with fail
                                go_meet
                                exact ⟨m1, rfl, rfl, hm9.more (by omega), hg9⟩
                              · obtain ⟨p1, p2, _⟩ := of_decide_eq_true HX.out
                                have H5 := Lib.hid (H4.out p1 p2)
                                have c6 := hm9.cf
                                rw [← HF.out] at c6
                                clear H4
                                go_wp2_with fail
                                refine (H5.out _ _ hm9 (by omega)).mono ?_
                                rintro _ w10 ⟨rfl, hm10, hg10⟩
                                go_wp2_with fail
                                all_goals go_meet
                                all_goals exact ⟨min m1 (A4 + 1), by first | rfl | (congr 1; omega) | (congr 1; split <;> omega), rfl, hm10.more (by omega), gr_trans hg9 hg10⟩
                          case rest =>
                            as_aux_lemma =>
                              obtain ⟨m2, rfl, hm2, hm10, hg10⟩ := hcut
                              rename World => w10
                              have hV2 : m2 = V := by
                                have q1 := hm2.out
                                have q2 := hm1.out
                                have q3 := HM0.out
                                have q4 := HST.out
                                simp only [] at q4
                                have hXp : X = true ↔ (i + 1 < a.size ∧ k + 1 < b.size ∧ a[i] = b.data.toList.getD (k + 1) 0 ∧ a.data.toList.getD (i + 1) 0 = b[k]) := by rw [← HX.out, decide_eq_true_eq]
                                have q1' := q1.trans (ite_iff hXp _ _)
                                have q2' := q2.trans (ite_iff HEQ.out _ _)
                                rw [q1', q4, q2', q3]
                              subst hV2
                              obtain ⟨w11, hrun, hmm, hg11⟩ := HPUT.out w10 _ hm10.mp (by omega)
                              have c5 := hm10.cm
                              clear hm9 hg9 H1 H2 H3 H4 HPUT
                              go_wp2_with fail
                              go_ret
                              exact HPOST.out _ _ ⟨rfl, (hm10.turned hg11 h2 h3 h5 h6 hmm).more (by omega), gr_trans hg10 hg11⟩
        · -- known
          have HM := Lib.hid hm
          clear ih hia hF hm hd hkb0 c6
          generalize sfx a.data.toList b.data.toList i k = S at *
          go_enter Tryz.func64, Tryz.ntmps64
          go_wp2_with fail
          go_ret
          exact HPOST.out _ _ ⟨rfl, HM.out.more (by omega), gr_refl _ _⟩
end Go.Proofs.YtlodmkdhlmineaaGreatDoor
