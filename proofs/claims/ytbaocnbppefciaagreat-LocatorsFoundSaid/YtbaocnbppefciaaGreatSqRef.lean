/- The walks over the reference's SquaresFault and SquaresOf. Condition: few short strings of ASCII. -/
import Derived.Test.YtbaocnbppefciaaGreatSquares
import Derived.Test.YtbaocnbppefciaaGreatOnce
import Derived.Test.YtbaocnbppefciaaGreatOncePlain
import Derived.Test.YtbaocnbppefciaaGreatLocRight
namespace Go.Proofs.YtbaocnbppefciaaGreat
open Go.RowKit
set_option linter.unusedVariables false
set_option linter.unusedSimpArgs false

theorem sqB_two {s : ByteArray} (h : locB s = true) : sqB s = !decide (s.size = 2) := by
  unfold sqB
  rw [h, Bool.true_and]
  have hz : s.size = 2 ∨ s.size = 4 ∨ s.size = 6 := by
    unfold locB at h
    simp only [Bool.and_eq_true, Bool.or_eq_true, decide_eq_true_eq] at h
    omega
  rcases hz with h | h | h <;> rw [h] <;> rfl
theorem sqB_no {s : ByteArray} (h : locB s = false) : sqB s = false := by unfold sqB; rw [h]; rfl
theorem sqClosure (s : ByteArray) (w : World) (hs : s.size ≤ 13) (ha : Ascii s) :
    Calls Tryz.prog 56 #[.string s] w fun r w' => r = .returned (.bool (!sqB s)) ∧ w.grownBy w' none := by
  have HI := Lib.hid (fun W => locatorRight_any s W (by omega) ha)
  clear ha
  cases h : locB s
  · rw [sqB_no h]
    rw [h] at HI
    clear h
    go_enter Tryz.func56, Tryz.ntmps56
    go_wp2_with fail
    refine (HI.out _).mono ?_
    rintro _ w1 ⟨rfl, hg1⟩
    go_wp2_with fail
    go_ret
    exact ⟨rfl, hg1⟩
  · rw [sqB_two h]
    rw [h] at HI
    clear h
    go_enter Tryz.func56, Tryz.ntmps56
    go_wp2_with fail
    refine (HI.out _).mono ?_
    rintro _ w1 ⟨rfl, hg1⟩
    go_wp2_with fail
    go_ret
    refine ⟨?_, hg1⟩
    by_cases h2 : s.size = 2
    · simp [h2]
    · have : ¬ (s.size : Int) = 2 := by omega
      simp [h2, this]
set_option maxHeartbeats 2000000 in
theorem idxSq (base : Nat) (v : Value) (l : List ByteArray) (w : World) (hl : StrsFrom base w v l) (hn : l.length ≤ 2000) (hall : ∀ t ∈ l, t.size ≤ 13 ∧ Ascii t) :
    Calls Tryz.prog 68 #[v, .func (.func 56) #[] #[]] w fun e w' => (∃ i : Int, e = .returned (.int .i64 i) ∧ ((i = -1 ∧ l.all sqB = true) ∨ (0 ≤ i ∧ l.all sqB = false))) ∧ w.grownBy w' none := by
  obtain ⟨A, c, rfl, hlen, hA⟩ := hl.shape
  have HL := Lib.hid hl
  have HALL := Lib.hid hall
  have HAS := Lib.hid hA
  clear hl hall hA
  go_enter Tryz.func68, Tryz.ntmps68
  go_wp2_with fail
  go_loopw [8] (fun i wr => ∃ k : Nat, k ≤ l.length ∧ i = .int .i64 k ∧ Hid ((l.take k).all sqB = true) ∧ w.grownBy wr none) (fun i _ => l.length - (intOf i).toNat)
  case atStart => exact ⟨0, by omega, rfl, by simp [Hid], gr_refl _ _⟩
  case round =>
    obtain ⟨k, hk, rfl, HT, hgr⟩ := hrel
    by_cases hlt : k < l.length
    · obtain ⟨g, rfl, hg0, hg1⟩ := HAS.out (by omega)
      have hkl : (k : Int) < (l.length : Int) := by omega
      have cx := (HL.out.grown hgr).at_ k hlt
      have hm := HALL.out l[k] (List.getElem_mem hlt)
      have HST := Lib.hid (allSq_take k hlt)
      have HNO : Hid (sqB l[k] = false → l.all sqB = false) := fun h => by
        rw [List.all_eq_false]
        exact ⟨l[k], List.getElem_mem hlt, by rw [h]; decide⟩
      generalize l[k] = s at *
      have HI := Lib.hid (fun W => sqClosure s W hm.1 hm.2)
      clear hm
      cases hb : sqB s
      · have HNO2 := Lib.hid (HNO.out hb)
        rw [hb] at HI
        clear hb HNO
        go_wp2_with fail
        refine (HI.out _).mono ?_
        rintro _ w1 ⟨rfl, hg⟩
        go_wp2_with fail
        go_ret
        exact ⟨⟨_, rfl, .inr ⟨by omega, HNO2.out⟩⟩, gr_trans hgr hg⟩
      · have HT2 : Hid ((l.take (k + 1)).all sqB = true) := by show _ = _; rw [HST.out, HT.out, hb]; rfl
        rw [hb] at HI
        clear hb HNO
        go_wp2_with fail
        refine (HI.out _).mono ?_
        rintro _ w1 ⟨rfl, hg⟩
        go_wp2_with fail
        go_roundw
        case rel => exact ⟨k + 1, by omega, by go_num, HT2, gr_trans hgr hg⟩
        case measure => simp [intOf]; omega
    · have hkl : ¬ (k : Int) < (l.length : Int) := by omega
      have hfull : l.take k = l := List.take_of_length_le (by omega)
      rw [hfull] at HT
      clear hfull
      go_wp2_with fail
      go_ret
      exact ⟨⟨_, rfl, .inl ⟨rfl, List.all_eq_true.1 HT.out⟩⟩, hgr⟩
set_option maxHeartbeats 1000000 in
theorem squaresFault_any (base : Nat) (v : Value) (l : List ByteArray) (w : World) (hl : StrsFrom base w v l) (hn : l.length ≤ 2000) (hall : ∀ t ∈ l, t.size ≤ 13 ∧ Ascii t) :
    Calls Tryz.prog 27 #[v] w fun e w' => e = .returned (.int .i64 (if l.all sqB then 0 else 3)) ∧ w.grownBy w' none := by
  have HI := Lib.hid (fun W (h : StrsFrom base W v l) => idxSq base v l W h hn hall)
  have HC : Hid (∀ W, StrsFrom base W v l → Calls Tryz.prog 55 #[v, .func (.func 56) #[] #[]] W fun e w' => e = .returned (.bool (!(l.all sqB))) ∧ W.grownBy w' none) := fun W h => by
    go_enter Tryz.func55, Tryz.ntmps55
    go_wp2_with fail
    refine (HI.out _ h).mono ?_
    rintro _ w1 ⟨⟨i, rfl, hi⟩, hg1⟩
    rcases hi with ⟨rfl, ha⟩ | ⟨hi, ha⟩
    · have HAA := Lib.hid ha
      clear ha
      go_wp2_with fail
      go_ret
      exact ⟨by rw [HAA.out] <;> rfl, hg1⟩
    · have HAA := Lib.hid ha
      clear ha
      go_wp2_with fail
      go_ret
      exact ⟨by rw [HAA.out] <;> rfl, hg1⟩
  have HL := Lib.hid hl
  obtain ⟨A, ca, rfl, hla, hA⟩ := hl.shape
  have hn2 : ¬ (2000 : Int) < (l.length : Int) := by omega
  clear hl hA hn hall
  generalize l.length = N at *
  cases hB : l.all sqB
  · rw [hB] at HC
    clear hB
    go_enter Tryz.func27, Tryz.ntmps27
    go_wp2_with fail
    refine (HC.out _ HL.out).mono ?_
    rintro _ w1 ⟨rfl, hg1⟩
    go_wp2_with fail
    go_ret
    exact ⟨rfl, hg1⟩
  · rw [hB] at HC
    clear hB
    go_enter Tryz.func27, Tryz.ntmps27
    go_wp2_with fail
    refine (HC.out _ HL.out).mono ?_
    rintro _ w1 ⟨rfl, hg1⟩
    go_wp2_with fail
    go_ret
    exact ⟨rfl, hg1⟩

def cutL (l : List ByteArray) : List (List UInt8) := l.map fun s => (s.extract 0 4).data.toList
theorem sqTo_mem (l : List ByteArray) (k : Nat) (hk : k ≤ l.length) (x : List UInt8) : x ∈ sqTo l k ↔ x ∈ cutL (l.take k) := by
  induction k with
  | zero => simp [sqTo, cutL]
  | succ k ih =>
    have hlt : k < l.length := by omega
    unfold sqTo
    rw [insK_mem, ih (by omega), List.take_succ_eq_append_getElem hlt]
    simp only [cutL, List.map_append, List.mem_append, List.map_cons, List.map_nil, List.mem_singleton]
    rw [List.getD_eq_getElem?_getD, List.getElem?_eq_getElem hlt]
    constructor
    · rintro (h | h)
      · exact .inl h
      · exact .inr h.symm
    · rintro (h | h)
      · exact .inl h
      · exact .inr h.symm
theorem sqTo_nodup (l : List ByteArray) (k : Nat) : (sqTo l k).Nodup := by
  induction k with
  | zero => exact List.nodup_nil
  | succ k ih => unfold sqTo; exact insK_nodup ih _
/-- In order and each once: what the program hands out is what the reference makes. -/
theorem sq_same {l : List ByteArray} {ss : List (List UInt8)} (hp : ss.Perm (sqTo l l.length)) (hs : ss.Pairwise (· ≤ ·)) : ss = onceB (cutL l) := by
  rw [onceB_keys (sqTo_nodup l l.length) (fun x => by rw [sqTo_mem l l.length (Nat.le_refl _) x, List.take_length])]
  exact sorted_one hs (sortB_sorted _) (hp.trans (sortB_perm _).symm)
set_option maxRecDepth 100000 in
set_option maxHeartbeats 2000000 in
theorem squaresOf_any (base : Nat) (v : Value) (l : List ByteArray) (w : World) (hl : StrsFrom base w v l) (hn : l.length ≤ 1000) (hall : ∀ t ∈ l, 4 ≤ t.size ∧ t.size ≤ 13) :
    Calls Tryz.prog 29 #[v] w fun e w' => ∃ u, e = .returned u ∧ NamesFrom w.heap.size w' u (onceB (cutL l)) ∧ w.grownBy w' none := by
  obtain ⟨i0, hi, hz0, hz1, hz2⟩ := info_parts strInfo
  obtain ⟨A, c, rfl, hlen, hA⟩ := hl.shape
  have HL := Lib.hid hl
  have HALL := Lib.hid hall
  have HAS := Lib.hid hA
  clear hl hall hA
  go_enter Tryz.func29, Tryz.ntmps29
  go_wp2_with fail
  go_loopw [3, 8] (fun o i wr => ∃ k : Nat, k ≤ l.length ∧ i = .int .i64 k ∧ NamesFrom w.heap.size wr o (cutL (l.take k)) ∧ w.grownBy wr none) (fun _ i _ => l.length - (intOf i).toNat)
  case atStart => exact ⟨0, by omega, rfl, NamesFrom.nil _ _, gr_refl _ _⟩
  case round =>
    obtain ⟨k, hk, rfl, hown, hgr⟩ := hrel
    by_cases hlt : k < l.length
    · obtain ⟨g, rfl, hg0, hg1⟩ := HAS.out (by omega)
      have hkl : (k : Int) < (l.length : Int) := by omega
      have cx := (HL.out.grown hgr).at_ k hlt
      have hm := HALL.out l[k] (List.getElem_mem hlt)
      have HT : Hid (cutL (l.take (k + 1)) = cutL (l.take k) ++ [(l[k].extract 0 4).data.toList]) := by
        show _ = _
        unfold cutL
        rw [List.take_succ_eq_append_getElem hlt, List.map_append]
        rfl
      have hlk : (cutL (l.take k)).length = k := by unfold cutL; rw [List.length_map, List.length_take]; omega
      have h4 : (4 : Int) ≤ (l[k].size : Int) := by omega
      obtain ⟨A2, c2, rfl, hlen2, hsh⟩ := hown.shape
      have hszr := hgr.size
      generalize l[k] = s at *
      generalize cutL (l.take k) = X at *
      have hl1 : X.length ≤ 1000 := by omega
      clear hsh hm hlk
      have hownA : wr.ownsRow w.heap.size 9 1 (.slice A2 X.length c2) X.length (X.map encStr) := hown
      go_wp2_with (at_builtin; refine wpList_append_own _ rfl _ _ 31 rfl w.heap.size 9 i0 _ 1 16 Tryz.underlying31 hi hz0 hz1 hz2 rfl (by decide) _ _ _ rfl (hownA.alloc _) ⟨wr.heap.size, 0, none⟩ 1 1 [.string (s.extract 0 4)] rfl rfl (cells_new _ _ _) (str_one _) (by unfold maxLen; omega) (by omega) (by simp; omega) ?_; intro v' w8 hownB hgrB _)
      have hG8 : w.grownBy w8 none := gr_grown (gr_alloc hgr _) hgrB (fun kk h => .inr (hownA.lt kk h).1)
      have hown8 : NamesFrom w.heap.size w8 v' (cutL (l.take (k + 1))) := by
        unfold NamesFrom
        rw [HT.out, List.map_append, List.length_append]
        exact hownB
      go_wp2_with fail
      go_roundw
      case rel => exact ⟨k + 1, by omega, by go_num, hown8, hG8⟩
      case measure => simp [intOf]; omega
    · have hkl : ¬ (k : Int) < (l.length : Int) := by omega
      have hfull : l.take k = l := List.take_of_length_le (by omega)
      rw [hfull] at hown
      clear hfull
      go_wp2_with fail
      refine (once_any _ _ _ _ hown (by unfold cutL; rw [List.length_map]; exact hn)).mono ?_
      rintro _ w9 ⟨u, rfl, hu, hg9⟩
      have HU := Lib.hid (hu.lowTo (by have := hgr.size; omega) : NamesFrom w.heap.size w9 u (onceB (cutL l)))
      go_wp2_with fail
      go_ret
      exact ⟨_, rfl, HU.out, gr_trans hgr hg9⟩
end Go.Proofs.YtbaocnbppefciaaGreat
