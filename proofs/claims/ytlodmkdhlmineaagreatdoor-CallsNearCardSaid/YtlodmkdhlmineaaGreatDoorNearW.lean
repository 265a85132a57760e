/- The walk over call.Near at right arguments: the calls at no step, at one step, and so on. Condition: at most 1000 calls, each a call sign of ASCII of at most 100 bytes; at most 14 steps. -/
import Derived.Test.YtlodmkdhlmineaaGreatDoorIsCall
import Derived.Test.YtlodmkdhlmineaaGreatDoorConcatS
import Derived.Deep.RegionWith
namespace Go.Proofs.YtlodmkdhlmineaaGreatDoor
open Go.RowKit
set_option linter.unusedVariables false
set_option linter.unusedSimpArgs false

/-- The calls that are so many steps away. -/
def inB (s : ByteArray) (L : List ByteArray) (d : Nat) : List ByteArray := L.filter fun c => decide (stepsL s.data.toList c.data.toList = d)
theorem inB_len (s : ByteArray) (L : List ByteArray) (d : Nat) : (inB s L d).length ≤ L.length := List.length_filter_le _ _
theorem inB_snoc {s : ByteArray} {L : List ByteArray} {k : Nat} (d : Nat) (h : k < L.length) : inB s (L.take (k + 1)) d = inB s (L.take k) d ++ (if stepsL s.data.toList L[k].data.toList = d then [L[k]] else []) := by
  unfold inB
  rw [List.take_succ_eq_append_getElem h, List.filter_append]
  congr 1
  by_cases hh : stepsL s.data.toList L[k].data.toList = d
  · rw [if_pos hh, List.filter_cons_of_pos (by rw [decide_eq_true_eq]; exact hh), List.filter_nil]
  · rw [if_neg hh, List.filter_cons_of_neg (by rw [decide_eq_true_eq]; exact hh), List.filter_nil]
theorem flatTo_len {ls : Nat → List ByteArray} {m : Nat} (h : ∀ d, (ls d).length ≤ m) : ∀ n, (flatTo ls n).length ≤ n * m
  | 0 => Nat.zero_le _
  | n + 1 => by
    show (flatTo ls n ++ ls n).length ≤ _
    rw [List.length_append, Nat.succ_mul]
    have := flatTo_len h n
    have := h n
    omega
theorem near_mem {s x : ByteArray} {L : List ByteArray} {m : Nat} : x ∈ flatTo (inB s L) (m + 1) ↔ x ∈ L ∧ stepsL s.data.toList x.data.toList ≤ m := by
  rw [flatTo_mem]
  unfold inB
  constructor
  · rintro ⟨d, h1, h2⟩
    obtain ⟨h3, h4⟩ := List.mem_filter.1 h2
    rw [decide_eq_true_eq] at h4
    exact ⟨h3, by omega⟩
  · rintro ⟨h1, h2⟩
    exact ⟨_, by omega, List.mem_filter.2 ⟨h1, decide_eq_true rfl⟩⟩
theorem rows_apart {base : Nat} {w : World} {v1 v2 : Value} {l1 l2 : List ByteArray} (h1 : StrsFrom base w v1 l1) (h2 : StrsFrom base w v2 l2) (e1 : l1 = [] → v1 = .slice none 0 0) (e2 : l2 = [] → v2 = .slice none 0 0) (hd : ∀ x ∈ l1, x ∉ l2) : v1.ownBlock = none ∨ v1.ownBlock ≠ v2.ownBlock := by
  cases l1 with
  | nil => rw [e1 rfl]; exact .inl rfl
  | cons x l1 =>
    cases l2 with
    | nil =>
      rw [e2 rfl]
      cases v1.ownBlock with
      | none => exact .inl rfl
      | some g => exact .inr (by intro e; cases e)
    | cons y l2 =>
      obtain ⟨A1, c1, rfl, _, r1⟩ := h1.shape
      obtain ⟨A2, c2, rfl, _, r2⟩ := h2.shape
      obtain ⟨g1, rfl, _⟩ := r1 (by simp)
      obtain ⟨g2, rfl, _⟩ := r2 (by simp)
      refine .inr fun e => ?_
      have e' : some g1 = some g2 := e
      injection e' with e'
      subst e'
      have a1 := h1.at_ 0 (by simp)
      have a2 := h2.at_ 0 (by simp)
      rw [a1] at a2
      injection a2 with a2
      injection a2 with a2
      have a3 : x = y := a2
      exact hd x (by simp) (by rw [a3]; simp)
def RowsN (base : Nat) (w : World) (vs : Nat → Value) (s : ByteArray) (L : List ByteArray) (M : Nat) : Prop := ∀ d, d < M → StrsFrom base w (vs d) (inB s L d) ∧ (inB s L d = [] → vs d = .slice none 0 0)
/-- The values as a row. -/
def rowV (vs : Nat → Value) (M : Nat) : Array Value := ((List.range M).map vs).toArray
theorem rowV_at {vs : Nat → Value} {M k : Nat} (h : k < M) : (rowV vs M)[k]? = some (vs k) := rowsCell h
def updV (vs : Nat → Value) (d : Nat) (v : Value) : Nat → Value := fun e => if e = d then v else vs e
theorem updV_row (vs : Nat → Value) (M d : Nat) (v : Value) : (rowV vs M).setIfInBounds d v = rowV (updV vs d v) M := by
  unfold rowV
  apply Array.ext
  · simp
  · intro i h1 h2
    simp [updV, Array.getElem_setIfInBounds]
    by_cases h : d = i
    · subst h; simp
    · simp [h, Ne.symm h]
theorem inB_apart (s : ByteArray) (L : List ByteArray) {d e : Nat} (h : d ≠ e) : ∀ x ∈ inB s L d, x ∉ inB s L e := by
  intro x h1 h2
  have a1 := (List.mem_filter.1 h1).2
  have a2 := (List.mem_filter.1 h2).2
  rw [decide_eq_true_eq] at a1 a2
  omega
theorem RowsN.next {base M k d : Nat} {w w' : World} {vs : Nat → Value} {s : ByteArray} {L : List ByteArray} {v : Value} (h : RowsN base w vs s (L.take k) M) (hk : k < L.length) (hd : d < M) (hs : stepsL s.data.toList L[k].data.toList = d)
    (hv : StrsFrom base w' v (inB s (L.take k) d ++ [L[k]])) (hg : w.grownBy w' (vs d).ownBlock) : RowsN base w' (updV vs d v) s (L.take (k + 1)) M := by
  intro e he
  rw [inB_snoc e hk]
  unfold updV
  by_cases hed : e = d
  · subst hed
    rw [if_pos rfl, if_pos hs]
    exact ⟨hv, fun h => by simp at h⟩
  · rw [if_neg hed, if_neg (by omega), List.append_nil]
    obtain ⟨h1, h2⟩ := h e he
    obtain ⟨h3, h4⟩ := h d hd
    exact ⟨World.ownsRow.kept h1 hg (rows_apart h1 h3 h2 h4 (inB_apart s _ hed)), h2⟩
theorem RowsN.skip {base M k : Nat} {w w' : World} {vs : Nat → Value} {s : ByteArray} {L : List ByteArray} (h : RowsN base w vs s (L.take k) M) (hk : k < L.length) (hs : M ≤ stepsL s.data.toList L[k].data.toList) (hg : w.grownBy w' none) : RowsN base w' vs s (L.take (k + 1)) M := by
  intro e he
  rw [inB_snoc e hk, if_neg (by omega), List.append_nil]
  exact ⟨(h e he).1.grown hg, (h e he).2⟩
theorem RowsN.grown {base M : Nat} {w w' : World} {vs : Nat → Value} {s : ByteArray} {L : List ByteArray} (h : RowsN base w vs s L M) (hg : w.grownBy w' none) : RowsN base w' vs s L M := fun d hd => ⟨(h d hd).1.grown hg, (h d hd).2⟩
theorem RowsN.other {base M b : Nat} {w w' : World} {vs : Nat → Value} {s : ByteArray} {L : List ByteArray} (h : RowsN base w vs s L M) (hg : w.grownBy w' (some b)) (hb : b < base) : RowsN base w' vs s L M := fun d hd => ⟨(h d hd).1.other hg hb, (h d hd).2⟩
theorem RowsN.start (base : Nat) (w : World) (s : ByteArray) (L : List ByteArray) (M : Nat) : RowsN base w (fun _ => .slice none 0 0) s (L.take 0) M := fun d hd => ⟨StrsFrom.nil _ _, fun _ => rfl⟩
theorem strsInfo : (Tryz.prog.info? 27).map (fun i => (i.zero, i.size, i.bytes)) = some (some (.slice none 0 0), 1, 24) := by kernel_rfl
theorem made_strs (M : Nat) : madeCells (Value.slice none 0 0).cells M = rowV (fun _ => Value.slice none 0 0) M := by
  unfold rowV
  apply Array.ext
  · simp [madeCells]
  · intro i h1 h2
    simp [madeCells, Value.cells, Nat.mod_one]
def NearPost (s : ByteArray) (L : List ByteArray) (m : Nat) (w : World) (e : Ending) (w' : World) : Prop := ∃ v, e = .returned (.tuple #[v, .int .i64 0]) ∧ StrsFrom w.heap.size w' v (flatTo (inB s L) (m + 1)) ∧ w.grownBy w' none
set_option maxRecDepth 100000 in
set_option maxHeartbeats 4000000 in
theorem near_ok (base : Nat) (s : ByteArray) (v : Value) (L : List ByteArray) (m : Nat) (w : World) (hl : StrsFrom base w v L) (hn : L.length ≤ 1000) (hs : s.size ≤ 100) (ha : Ascii s) (hc : isCall s = true) (hcs : ∀ s ∈ L, s.size ≤ 100 ∧ Ascii s ∧ isCall s = true) (hm : m ≤ 14) :
    Calls Tryz.prog 13 #[.string s, v, .int .i64 m] w (NearPost s L m w) := by
  have HI := Lib.hid (isCall_any s w (by omega) ha)
  rw [hc] at HI
  have HCK := Lib.hid (fun W (h : StrsFrom base W v L) => checkCalls_ok base v L W h hn hcs)
  have HCS := Lib.hid hcs
  obtain ⟨i1, hi1, hz3, hz4, hz5⟩ := info_parts strsInfo
  have hM1 : ((m + 1 : Nat) : Int) = (m : Int) + 1 := by push_cast; rfl
  have hmk : ∀ W : World, (Instr.makeSlice 71 (.int .i64 ((m : Int) + 1)) (.int .i64 ((m : Int) + 1))).run Tryz.prog W = .ok (.slice (some ⟨W.heap.size, 0, none⟩) (m + 1) (m + 1)) (W.alloc (.cells (rowV (fun _ => Value.slice none 0 0) (m + 1)) 27)) := fun W => by
    have h := run_make (P := Tryz.prog) W 71 27 i1 _ Tryz.underlying71 hi1 hz3 .i64 .i64 ((m : Int) + 1) ((m : Int) + 1) (by omega) (by omega) (by rw [hz5]; omega) (by omega)
    rw [h, hz4]
    have e : ((m : Int) + 1).toNat = m + 1 := by omega
    rw [e]
    rw [made_strs, Nat.mul_one]
  have HMK := Lib.hid hmk
  obtain ⟨i0, hi, hz0, hz1, hz2⟩ := info_parts strInfo
  have HL := Lib.hid hl
  obtain ⟨A, ca, rfl, hla, hA⟩ := hl.shape
  have HA := Lib.hid hA
  have hm0 : ¬ (m : Int) < 0 := by omega
  have hm14 : ¬ (14 : Int) < (m : Int) := by omega
  have hST := Lib.hid (fun c (hcc : c.size ≤ 100) W => steps_any s c W hs hcc)
  obtain ⟨N, hN⟩ : ∃ N, L.length = N := ⟨_, rfl⟩
  have HNN := Lib.hid hN
  rw [hN] at hn hla HCK ⊢
  have HA2 : Hid (0 < N → ∃ g, A = some ⟨g, 0, none⟩ ∧ base ≤ g ∧ g < w.heap.size) := by rw [← hN]; exact HA.out
  clear hl hA hs ha hc hcs hN hi1 hz3 hz4 hz5 hmk
  go_enter Tryz.func13, Tryz.ntmps13
  go_wp2_with fail
  refine HI.out.mono ?_
  rintro _ w1 ⟨rfl, hg1⟩
  go_wp2_with fail
  refine (HCK.out _ (by have h := HL.out.grown hg1; rw [HNN.out] at h; exact h)).mono ?_
  rintro _ w2 ⟨rfl, hg2⟩
  have hG2 := gr_trans hg1 hg2
  have hmk := HMK.out w2
  have hB0 := Blk.new w2 27 (rowV (fun _ => Value.slice none 0 0) (m + 1))
  have hGA := World.grownBy_alloc w2 (.cells (rowV (fun _ => Value.slice none 0 0) (m + 1)) 27) none
  have hszX := hG2.size
  have HL2 : Hid (StrsFrom base w2 (.slice A N ca) L) := by
    have h := HL.out.grown hG2
    rw [HNN.out] at h
    exact h
  have HR0 := RowsN.start (w2.heap.size + 1) (w2.alloc (.cells (rowV (fun _ => Value.slice none 0 0) (m + 1)) 27)) s L (m + 1)
  clear hg1 hg2
  go_wp2_with fail
  generalize w2.alloc (.cells (rowV (fun _ => Value.slice none 0 0) (m + 1)) 27) = w3 at *
  obtain ⟨X, hX⟩ : ∃ X, w2.heap.size = X := ⟨_, rfl⟩
  rw [hX] at hB0 HR0 hszX ⊢
  have HX := Lib.hid hX
  clear hX hmk
  go_loopw [32] (fun i wr => ∃ (k : Nat) (vs : Nat → Value), k ≤ N ∧ i = .int .i64 k ∧ Blk wr X 27 (rowV vs (m + 1)) ∧ Hid (RowsN (X + 1) wr vs s (L.take k) (m + 1)) ∧ w2.grownBy wr none) (fun i _ => N - (intOf i).toNat)
  case atStart => exact ⟨0, _, by omega, rfl, hB0, HR0, hGA⟩
  case round =>
    obtain ⟨k, vs, hk, rfl, hbl, HRN, hgr⟩ := hrel
    clear hB0 HR0 hGA
    rename World => wo
    by_cases hlt : k < N
    · have hki : (k : Int) < (N : Int) := by omega
      have hkl : k < L.length := by rw [HNN.out]; exact hlt
      obtain ⟨g, rfl, _, _⟩ := HA2.out (by omega)
      have cx : wo.cell? ⟨g, k, none⟩ = some (.string L[k]) := by
        have h := HL2.out.grown hgr
        rw [← HNN.out] at h
        exact h.at_ k hkl
      have HSC := Lib.hid (fun W => hST.out L[k] (HCS.out _ (List.getElem_mem hkl)).1 W)
      have HNX := Lib.hid (fun (w' w'' : World) v d (h1 : RowsN (X + 1) w' vs s (L.take k) (m + 1)) (h2 : d < m + 1) (h3 : stepsL s.data.toList L[k].data.toList = d) h4 h5 => RowsN.next (w := w') (w' := w'') (v := v) h1 hkl h2 h3 h4 h5)
      have HSK := Lib.hid (fun (w' w'' : World) (h1 : RowsN (X + 1) w' vs s (L.take k) (m + 1)) (h2 : m + 1 ≤ stepsL s.data.toList L[k].data.toList) h3 => RowsN.skip (w := w') (w' := w'') h1 hkl h2 h3)
      generalize L[k] = c at *
      obtain ⟨D, hD⟩ : ∃ D, stepsL s.data.toList c.data.toList = D := ⟨_, rfl⟩
      rw [hD] at HSC HSK
      have HD := Lib.hid hD
      clear hD hST
      go_wp2_with fail
      refine (HSC.out _).mono ?_
      rintro _ w6 ⟨rfl, hg6⟩
      have hG6 := gr_trans hgr hg6
      have hbl6 := hbl.grown hg6 (by simp)
      have HR6 := Lib.hid (HRN.out.grown hg6)
      clear hbl hgr HRN cx hg6
      by_cases hle : D ≤ m
      · have hlei : (D : Int) ≤ (m : Int) := by omega
        have hDm : D < m + 1 := by omega
        have hDmi : (D : Int) < (m : Int) + 1 := by omega
        have hD0 : (0 : Int) ≤ (D : Int) := by omega
        have hDw : IntKind.i64.wrap (D : Int) = (D : Int) := IntWalk.i64_in _ ⟨by omega, by omega⟩
        obtain ⟨hrow, hnil⟩ := HR6.out D hDm
        obtain ⟨A2, c2, hve, hl2, _⟩ := hrow.shape
        have cd := hbl6.cell D
        rw [rowV_at hDm, hve] at cd
        have hlen : (inB s (L.take k) D).length ≤ 1000 := by
          have h1 := inB_len s (L.take k) D
          have h2 : (L.take k).length ≤ k := by rw [List.length_take]; omega
          omega
        have hrowD : w6.ownsRow (X + 1) 9 1 (.slice A2 (inB s (L.take k) D).length c2) (inB s (L.take k) D).length ((inB s (L.take k) D).map Value.string) := by
          have h := hrow
          rw [hve] at h
          exact h
        have hown : ∀ kk, (Value.slice A2 (inB s (L.take k) D).length c2).ownBlock = some kk → X + 1 ≤ kk := fun kk h => (hrowD.lt kk h).1
        have HNX2 : Hid (∀ (w'' : World) v, StrsFrom (X + 1) w'' v (inB s (L.take k) D ++ [c]) → w6.grownBy w'' (Value.slice A2 (inB s (L.take k) D).length c2).ownBlock → RowsN (X + 1) w'' (updV vs D v) s (L.take (k + 1)) (m + 1)) := fun w'' v h4 h5 => HNX.out w6 w'' v D HR6.out hDm HD.out h4 (by rw [hve]; exact h5)
        have CD : Hid (∀ W : World, Blk W X 27 (rowV vs (m + 1)) → W.cell? ⟨X, D, none⟩ = some (.slice A2 (inB s (L.take k) D).length c2)) := fun W hW => by
          have h := hW.cell D
          rw [rowV_at hDm, hve] at h
          exact h
        have hszo := hbl6.lt
        generalize inB s (L.take k) D = l1 at *
        have HOW := Lib.hid hown
        have HB6 := Lib.hid hbl6
        clear hrow hnil hve HR6 HNX HSK hl2 hown
        go_wp2_with (at_builtin; refine wpList_append_own _ rfl _ _ 27 rfl (X + 1) 9 i0 _ 1 16 Tryz.underlying27 hi hz0 hz1 hz2 rfl (by decide) _ _ _ rfl (hrowD.alloc _) ⟨w6.heap.size, 0, none⟩ 1 1 [.string c] rfl rfl (cells_new _ _ _) (str_one _) (by unfold maxLen; omega) (by omega) (by simp; omega) ?_; intro v' w7 hownB hgrB0 _; obtain ⟨ao, n', cap, hvv⟩ : ∃ ao n' cap, v' = .slice ao n' cap := hownB.2.elim (fun h => ⟨_, _, _, h.1⟩) (fun ⟨g, cap, cur, hv, _⟩ => ⟨_, _, _, hv⟩); subst hvv; have hgrB : w6.grownBy w7 (Value.slice A2 l1.length c2).ownBlock := gr_trans (World.grownBy_alloc w6 _ _) hgrB0; have hB7 := HB6.out.grown hgrB (fun e => by have := HOW.out X e.symm; omega); have f7 := hB7.free D; have d7 := CD.out _ hB7; clear hgrB0)
        have HB7 := Lib.hid hB7
        have HOB := Lib.hid hownB
        have HGB := Lib.hid hgrB
        clear hB7 hownB hgrB
        go_wp2_with fail
        have hR7 := HNX2.out w7 _ (by unfold StrsFrom; rw [List.map_append, List.length_append]; exact HOB.out) HGB.out
        have hp7 : w7.grownBy (w7.setCell ⟨X, D, none⟩ (.slice ao n' cap)) (some X) := gr_put (p := (⟨X, D, none⟩ : Addr)) (gr_refl w7 (some X)) (.inl rfl) _
        have hR8 := hR7.other hp7 (by omega)
        have hB8 := HB7.out.put D (.slice ao n' cap)
        rw [updV_row] at hB8
        have hG8 : w2.grownBy (w7.setCell ⟨X, D, none⟩ (.slice ao n' cap)) none := gr_put (p := (⟨X, D, none⟩ : Addr)) (gr_grown hG6 HGB.out (fun g e => .inr (by have := HOW.out g e; have := HX.out; omega))) (.inr (by rw [HX.out]; exact Nat.le_refl _)) _
        go_roundw
        case rel => exact ⟨k + 1, _, by omega, by go_num, hB8, hR8, hG8⟩
        case measure => simp [intOf]; omega
      · have hlei : ¬ (D : Int) ≤ (m : Int) := by omega
        have HR7 := Lib.hid (HSK.out w6 w6 HR6.out (by omega) (gr_refl _ _))
        clear HR6
        go_wp2_with fail
        go_roundw
        case rel => exact ⟨k + 1, vs, by omega, by go_num, hbl6, HR7, hG6⟩
        case measure => simp [intOf]; omega
    · have hki : ¬ (k : Int) < (N : Int) := by omega
      have hfull : L.take k = L := List.take_of_length_le (by rw [HNN.out]; omega)
      rw [hfull] at HRN
      have hG9 := gr_trans hG2 hgr
      have hz9 := hG9.size
      have HCC := Lib.hid (concatS_any (X + 1) X (m + 1) (m + 1) vs (inB s L) wo (fun d hd => (HRN.out d hd).1) hbl (by omega) (by
        have h1 := flatTo_len (fun d => inB_len s L d) (m + 1)
        have h2 : (m + 1) * L.length ≤ 15 * 1000 := Nat.mul_le_mul (by omega) (by have := HNN.out; omega)
        omega))
      clear hfull hbl
      go_wp2_with fail
      refine HCC.out.mono ?_
      rintro _ w8 ⟨v8, rfl, hv8, hg8⟩
      go_wp2_with fail
      go_ret2
      exact ⟨_, rfl, hv8.low hz9, gr_trans hG9 hg8⟩
end Go.Proofs.YtlodmkdhlmineaaGreatDoor
