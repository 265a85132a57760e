/- A map from strings to bools that the program has made, as a list of its keys; the walk over place.Squares: the squares, each once, in order. Condition: a short list of short texts. -/
import Derived.Test.YtbaocnbppefciaaGreatMapS
import Derived.Test.YtbaocnbppefciaaGreatSortedS
import Derived.Test.YtbaocnbppefciaaGreatIsLoc
import Derived.Test.YtbaocnbppefciaaGreatKeyB
namespace Go.Proofs.YtbaocnbppefciaaGreat
open Go.RowKit
set_option linter.unusedVariables false
set_option linter.unusedSimpArgs false

def insK (l : List (List UInt8)) (k : List UInt8) : List (List UInt8) := if k ∈ l then l else l ++ [k]
theorem insK_mem (l : List (List UInt8)) (k j : List UInt8) : j ∈ insK l k ↔ j ∈ l ∨ k = j := by
  unfold insK
  split
  · rename_i h
    constructor
    · exact .inl
    · rintro (h' | rfl)
      · exact h'
      · exact h
  · simp [eq_comm]
theorem insK_nodup {l : List (List UInt8)} (h : l.Nodup) (k : List UInt8) : (insK l k).Nodup := by
  unfold insK
  split
  · exact h
  · rename_i hk
    rw [List.nodup_append]
    refine ⟨h, by simp, fun a ha b hb => ?_⟩
    rw [List.mem_singleton.1 hb]
    rintro rfl
    exact hk ha
theorem insK_len (l : List (List UInt8)) (k : List UInt8) : (insK l k).length ≤ l.length + 1 := by
  unfold insK
  split <;> simp

/-- Block bm is a map with just these keys. -/
def MapK (w : World) (bm n : Nat) (l : List (List UInt8)) : Prop :=
  ∃ D : DataW Unit, w.ownsMap Tryz.prog 9 (plainElem Tryz.prog 4) bm n D ∧ Maps.Tidy D ∧ (∀ k, Maps.has D (.string k) = decide (k ∈ l)) ∧ Maps.size D = l.length ∧ l.Nodup
theorem MapK.lt {w : World} {bm n : Nat} {l : List (List UInt8)} (h : MapK w bm n l) : bm < w.heap.size := by obtain ⟨D, h1, _⟩ := h; exact h1.lt
theorem MapK.made (w : World) : MapK (w.alloc (.map #[] 0)) w.heap.size 0 [] :=
  ⟨_, World.ownsMap_made w _ _ _, Maps.tidy_empty, fun c => rfl, rfl, by simp⟩
theorem MapK.kept {w w' : World} {bm n : Nat} {l : List (List UInt8)} (h : MapK w bm n l) {row : Option Nat} (hg : w.grownBy w' row) (hr : some bm ≠ row) : MapK w' bm n l := by
  obtain ⟨D, h1, h2⟩ := h
  exact ⟨D, h1.kept hg hr, h2⟩
theorem MapK.quiet {w w' : World} {bm n : Nat} {l : List (List UInt8)} (h : MapK w bm n l) (hg : w.grownBy w' none) : MapK w' bm n l := h.kept hg (by simp)
theorem MapK.put {w : World} {bm n : Nat} {l : List (List UInt8)} (h : MapK w bm n l) (hn : n ≤ 1000000) (s : ByteArray) (hs : s.size ≤ 1000000) :
    ∃ w', (Instr.mapUpdate 78 (.map (some bm)) (.string s) (.bool true)).run Tryz.prog w = .ok () w' ∧ MapK w' bm (n + 1) (insK l s.data.toList) ∧ w.grownBy w' (some bm) := by
  obtain ⟨D, h1, h2, h4, h5, h6⟩ := h
  obtain ⟨w', hrun, ho, hg⟩ := h1.update strK Tryz.underlying78 (by unfold maxLen; omega) (str_key s hs) (plainElem_bool Tryz.underlying4 true)
  refine ⟨w', hrun, ⟨_, ho, h2.put (by trivial) _, fun c => ?_, ?_, insK_nodup h6 _⟩, hg⟩
  · by_cases e : s.data.toList = c
    · subst e
      rw [Maps.has_put_same h2.isMap (k := .string s.data.toList) (by trivial)]
      symm
      rw [decide_eq_true_eq, insK_mem]
      exact .inr rfl
    · rw [Maps.has_put_other (by intro h; injection h with h; exact e h.symm), h4 c]
      rw [decide_eq_decide, insK_mem]
      exact ⟨.inl, fun h => h.resolve_right e⟩
  · rw [Maps.size_put h2, h4, h5]
    unfold insK
    by_cases hh : s.data.toList ∈ l <;> simp [hh]
theorem wpList_mapK (w : World) {ops : Array Oper} {rest : List Oper} {o : Oper} {a : Act} {Q : Exit → Act → World → Prop} (hg : o.guard = none) (m x v : Operand) (hop : o.op = Op.mapUpdate 78 m x v)
    (bm n : Nat) (l : List (List UInt8)) (s : ByteArray) (hm : a.eval m = .map (some bm)) (hx : a.eval x = .string s) (hv : a.eval v = .bool true) (h : MapK w bm n l) (hn : n ≤ 1000000) (hs : s.size ≤ 1000000)
    (hK : ∀ w', MapK w' bm (n + 1) (insK l s.data.toList) → w.grownBy w' (some bm) → wpList Tryz.prog ops Q rest (a.put o.dst undef) w') :
    wpList Tryz.prog ops Q (o :: rest) a w := by
  refine wpList_plain hg fun K' hK' => ?_
  obtain ⟨w', hrun, h1, h2⟩ := h.put hn s hs
  unfold Oper.wp
  simp [execOp, hop, hm, hx, hv, hrun, Result.andThen]
  exact hK' _ _ (hK w' h1 h2)

theorem keysB_any (bm : Nat) (w : World) : Calls Tryz.prog 54 #[.map (some bm)] w fun e w' => e = .returned (.func (.func 67) #[] #[.pointer (some ⟨w.heap.size, 0, none⟩)]) ∧ w' = w.alloc (.cells #[.map (some bm)] 78) :=
  (callsIn_wide (n := 5)).1 (Tryz.maps_Keys_54 (some bm) w)
theorem keysB_perm {D : DataW Unit} {w : World} {bm n : Nat} {l : List (List UInt8)} (h : w.ownsMap Tryz.prog 9 (plainElem Tryz.prog 4) bm n D) (h4 : ∀ k, Maps.has D (.string k) = decide (k ∈ l)) (h6 : l.Nodup) : l.Perm (strKeys D) := by
  obtain ⟨es, rfl, hp, _⟩ := h.entries strK
  obtain ⟨es', he, hk⟩ := h.keysOf
  injection he with he
  subst he
  refine perm_strKeys hp (fun p hp' => ?_) h6 (fun x => by rw [h4, decide_eq_true_eq])
  obtain ⟨v, hv⟩ := hk p hp'
  obtain ⟨x, _, hx, _⟩ := Maps.keyOf_str Tryz.underlying9 hv
  exact ⟨x, hx⟩
theorem sortedB_any (bm n : Nat) (l : List (List UInt8)) (w : World) (h : MapK w bm n l) (hl : l.length ≤ 1000000) :
    Calls Tryz.prog 53 #[.func (.func 67) #[] #[.pointer (some ⟨w.heap.size, 0, none⟩)]] (w.alloc (.cells #[.map (some bm)] 78)) fun e w' =>
      ∃ (v : Value) (ss : List (List UInt8)), e = .returned v ∧ ss.Perm l ∧ ss.Pairwise (· ≤ ·) ∧ w'.ownsRow w.heap.size 9 1 v ss.length (ss.map encStr) ∧ w.grownBy w' none := by
  obtain ⟨D, h1, h3, h4, h5, h6⟩ := h
  refine ((callsIn_wide (n := 5)).1 (Tryz.slices_Sorted_keys_53_54 bm n D _ w h1 (by rw [h5]; unfold maxLen; omega) (by rw [h5]; omega))).mono ?_
  rintro e w' ⟨v, ss, rfl, hp, hrow, _, hb⟩
  refine ⟨v, ss.mergeSort (fun x y => decide (x ≤ y)), rfl, ((List.mergeSort_perm _ _).trans hp).trans (keysB_perm h1 h4 h6).symm, ?_, ?_, gr_trans (World.grownBy_alloc w _ none) (gr_of_below hb)⟩
  · exact (List.pairwise_mergeSort (le := fun x y : List UInt8 => decide (x ≤ y)) (by intro a b c h1 h2; simp only [decide_eq_true_eq] at *; exact List.le_trans h1 h2) (by intro a b; simp only [Bool.or_eq_true, decide_eq_true_eq]; exact List.le_total a b) ss).imp (by intro a b h; simpa using h)
  · rw [List.length_mergeSort]
    exact ownsRow_low hrow (by simp)

/-- May a text stand in a square. -/
def sqB (t : ByteArray) : Bool := locB t && decide (4 ≤ t.size)
/-- The squares of the first so many. -/
def sqTo (l : List ByteArray) : Nat → List (List UInt8)
  | 0 => []
  | k + 1 => insK (sqTo l k) ((l.getD k default).extract 0 4).data.toList
theorem sqTo_len (l : List ByteArray) (k : Nat) : (sqTo l k).length ≤ k := by
  induction k with
  | zero => exact Nat.le_refl _
  | succ k ih => unfold sqTo; have := insK_len (sqTo l k) ((l.getD k default).extract 0 4).data.toList; omega
def SqPost (l : List ByteArray) (w : World) (e : Ending) (w' : World) : Prop :=
  (∃ (v : Value) (ss : List (List UInt8)), (l.all sqB) = true ∧ e = .returned (.tuple #[v, .int .i64 0]) ∧ ss.Perm (sqTo l l.length) ∧ ss.Pairwise (· ≤ ·) ∧ w'.ownsRow w.heap.size 9 1 v ss.length (ss.map encStr) ∧ w.grownBy w' none) ∨
  ((l.all sqB) = false ∧ e = .returned (.tuple #[.slice none 0 0, .int .i64 3]) ∧ w.grownBy w' none)
theorem allSq_take {l : List ByteArray} (k : Nat) (hk : k < l.length) : ((l.take (k + 1)).all sqB) = (((l.take k).all sqB) && sqB l[k]) := by
  rw [List.take_succ_eq_append_getElem hk, List.all_append]
  simp

set_option maxRecDepth 100000 in
set_option maxHeartbeats 8000000 in
theorem squares_few (base : Nat) (v : Value) (l : List ByteArray) (w : World) (hl : StrsFrom base w v l) (hn : l.length ≤ 2000) (hall : ∀ t ∈ l, t.size ≤ 13 ∧ Ascii t) :
    Calls Tryz.prog 26 #[v] w (SqPost l w) := by
  obtain ⟨A, c, rfl, hlen, hA⟩ := hl.shape
  have HL := Lib.hid hl
  have HALL := Lib.hid hall
  have HAS := Lib.hid hA
  have hn2 : ¬ (2000 < (l.length : Int)) := by omega
  clear hl hall hA
  have hmm := @run_makeMap Tryz.prog
  go_enter Tryz.func26, Tryz.ntmps26
  go_wp2_with fail
  have hM0 := MapK.made w
  have hG0 := World.grownBy_alloc w (.map #[] 0) none
  go_loopw [13] (fun i wr => ∃ k : Nat, k ≤ l.length ∧ i = .int .i64 k ∧ ((l.take k).all sqB) = true ∧ MapK wr w.heap.size k (sqTo l k) ∧ w.grownBy wr none) (fun i _ => l.length - (intOf i).toNat)
  case atStart => exact ⟨0, by omega, rfl, by simp, hM0, hG0⟩
  case round =>
    obtain ⟨k, hk, rfl, hall, hM, hgr⟩ := hrel
    by_cases hlt : k < l.length
    · obtain ⟨g, rfl, hg0, hg1⟩ := HAS.out (by omega)
      have hkl : (k : Int) < (l.length : Int) := by omega
      have cx := (HL.out.grown hgr).at_ k hlt
      have hm := HALL.out l[k] (List.getElem_mem hlt)
      have hst := allSq_take k hlt
      have hsq : sqTo l (k + 1) = insK (sqTo l k) (l[k].extract 0 4).data.toList := by
        show insK (sqTo l k) ((l.getD k default).extract 0 4).data.toList = _
        rw [List.getD_eq_getElem?_getD, List.getElem?_eq_getElem hlt]; rfl
      have HNO : Hid (sqB l[k] = false → l.all sqB = false) := fun h => by
        rw [List.all_eq_false]
        exact ⟨l[k], List.getElem_mem hlt, by rw [h]; decide⟩
      generalize l[k] = s at *
      have HI := Lib.hid (fun W => isLocator_any s W (by omega) hm.2)
      have hsz := hm.1
      have HST := Lib.hid hst
      have HSQ := Lib.hid hsq
      have hMl := sqTo_len l k
      have HAT := Lib.hid hall
      have hbm := hM.lt
      clear hm hst hsq hall
      cases hb : locB s with
      | false =>
        have HNO2 := Lib.hid (HNO.out (by unfold sqB; rw [hb]; rfl))
        rw [hb] at HI
        clear hb
        go_wp2_with fail
        refine (HI.out _).mono ?_
        rintro _ w1 ⟨rfl, hg⟩
        go_wp2_with fail
        go_ret2
        exact .inr ⟨HNO2.out, rfl, gr_trans hgr hg⟩
      | true =>
        rw [hb] at HI
        by_cases h4 : s.size < 4
        · have HNO2 := Lib.hid (HNO.out (by unfold sqB; rw [hb]; simp; omega))
          have h4i : (s.size : Int) < 4 := by omega
          clear hb
          go_wp2_with fail
          refine (HI.out _).mono ?_
          rintro _ w1 ⟨rfl, hg⟩
          go_wp2_with fail
          go_ret2
          exact .inr ⟨HNO2.out, rfl, gr_trans hgr hg⟩
        · have HYES : Hid (sqB s = true) := by show _ = _; unfold sqB; rw [hb]; simp; omega
          have h4i : ¬ (s.size : Int) < 4 := by omega
          have h4j : (4 : Int) ≤ (s.size : Int) := by omega
          clear hb
          go_wp2_with fail
          refine (HI.out _).mono ?_
          rintro _ w1 ⟨rfl, hg⟩
          have hM1 := hM.quiet hg
          have hg1' := gr_trans hgr hg
          go_wp2_with (refine wpList_mapK _ rfl _ _ _ rfl _ _ _ _ rfl rfl rfl hM1 (by omega) (by simp; omega) ?_; intro w2 hM2 hg2)
          go_roundw
          case rel => exact ⟨k + 1, by omega, by go_num, by rw [HST.out, HAT.out, HYES.out]; rfl, by rw [HSQ.out]; exact hM2, gr_grown hg1' hg2 (fun gg e => by injection e with e; exact .inr (by omega))⟩
          case measure => simp [intOf]; omega
    · obtain rfl : k = l.length := by omega
      have hkl : ¬ ((l.length : Int) < (l.length : Int)) := by omega
      have HAT : Hid (l.all sqB = true) := by show _ = _; have h := hall; rwa [List.take_length] at h
      have hMl := sqTo_len l l.length
      have hwr := hgr.size
      clear hall
      go_wp2_with fail
      refine (keysB_any _ _).mono ?_
      rintro _ _ ⟨rfl, rfl⟩
      go_wp2_with fail
      refine (sortedB_any _ _ _ _ hM (by omega)).mono ?_
      rintro _ w2 ⟨u, ss, rfl, hp, hs, hrow, hg⟩
      have HP := Lib.hid hp
      have HS := Lib.hid hs
      have HROW : Hid (w2.ownsRow w.heap.size 9 1 u ss.length (ss.map encStr)) := ownsRow_low hrow hwr
      clear hp hs hrow
      go_wp2_with fail
      go_ret2
      exact .inl ⟨u, ss, HAT.out, rfl, HP.out, HS.out, HROW.out, gr_trans hgr hg⟩
end Go.Proofs.YtbaocnbppefciaaGreat
