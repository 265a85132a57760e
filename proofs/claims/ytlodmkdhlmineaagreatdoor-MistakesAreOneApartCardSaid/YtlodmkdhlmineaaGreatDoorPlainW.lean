/- The walk over key.Plain: codes read. Condition: a string of a size that fits in memory; asciiSpace is Go's own table. -/
import Derived.Test.YtlodmkdhlmineaaGreatDoorCodeJ
import Derived.Test.YtlodmkdhlmineaaGreatDoorKeyName
import Derived.Test.YtlodmkdhlmineaaGreatDoorSaying
namespace Go.Proofs.YtlodmkdhlmineaaGreatDoor
open Go.RowKit
set_option linter.unusedVariables false
set_option linter.unusedSimpArgs false

def isElB (l : List UInt8) : Bool := !l.isEmpty && l.all fun x => decide (x = 46 ∨ x = 45)
theorem trim_el (l : List UInt8) : Lib.trimS l [46, 45] = [] ↔ (l.all fun x => decide (x = 46 ∨ x = 45)) = true := by
  rw [trimS_nil, List.all_eq_true, List.all_eq_true]
  constructor
  · intro h x hx
    have := h x hx
    simpa using this
  · intro h x hx
    have := h x hx
    simpa using this
set_option maxHeartbeats 1000000 in
theorem isElements_any (s : ByteArray) (w : World) (hs : s.size ≤ 1000000000) :
    Calls Tryz.prog 88 #[.string s] w fun e w' => e = .returned (.bool (isElB s.data.toList)) ∧ w.grownBy w' none := by
  have HT : Hid (∀ W, Calls Tryz.prog 60 #[.string s, .string ⟨#[46, 45]⟩] W fun e w' => e = .returned (.string ⟨(Lib.trimS s.data.toList [46, 45]).toArray⟩) ∧ W.grownBy w' none) := fun W => trim_any s ⟨#[46, 45]⟩ W (by omega) (by decide) (by decide +kernel)
  cases he : s.toList.isEmpty
  · have hb : isElB s.data.toList = decide (Lib.trimS s.data.toList [46, 45] = []) := by
      unfold isElB
      rw [Lib.toList_data] at he
      rw [he]
      show (true && _) = _
      rw [Bool.true_and, Bool.eq_iff_iff, decide_eq_true_eq, trim_el]
    have HB := Lib.hid hb
    clear hb
    generalize Lib.trimS s.data.toList [46, 45] = T at *
    cases T with
    | nil =>
      have HB2 : Hid (isElB s.data.toList = true) := by show _ = _; rw [HB.out]; rfl
      go_enter Tryz.func88, Tryz.ntmps88
      go_wp2_with fail
      refine (HT.out _).mono ?_
      rintro _ w1 ⟨rfl, hg1⟩
      go_wp2_with fail
      go_ret
      exact ⟨ret_bool HB2.out.symm, hg1⟩
    | cons a r =>
      have HB2 : Hid (isElB s.data.toList = false) := by show _ = _; rw [HB.out]; rfl
      have hne : ((⟨(a :: r).toArray⟩ : ByteArray).toList.isEmpty) = false := by rw [Lib.toList_data]; rfl
      obtain ⟨t, ht⟩ : ∃ t : ByteArray, (⟨(a :: r).toArray⟩ : ByteArray) = t := ⟨_, rfl⟩
      rw [ht] at hne HT
      clear ht
      go_enter Tryz.func88, Tryz.ntmps88
      go_wp2_with fail
      refine (HT.out _).mono ?_
      rintro _ w1 ⟨rfl, hg1⟩
      go_wp2_with fail
      go_ret
      exact ⟨ret_bool HB2.out.symm, hg1⟩
  · have HB2 : Hid (isElB s.data.toList = false) := by
      show _ = _
      unfold isElB
      rw [Lib.toList_data] at he
      rw [he]; rfl
    go_enter Tryz.func88, Tryz.ntmps88
    go_wp2_with fail
    go_ret
    exact ⟨ret_bool HB2.out.symm, gr_refl _ _⟩
theorem codeOK_is (c : ByteArray) : codeOK c.data.toList = (isElB c.data.toList && decide (c.size ≤ 10)) := by
  have h : c.data.toList.length = c.size := by simp
  rw [Bool.eq_iff_iff]
  unfold codeOK isElB
  simp only [Bool.and_eq_true, decide_eq_true_eq, Bool.not_eq_true', h]
  have he : c.data.toList.isEmpty = false ↔ 1 ≤ c.size := by
    rw [← h]
    cases c.data.toList <;> simp
  rw [he]
  constructor
  · rintro ⟨⟨a, b⟩, d⟩; exact ⟨⟨a, d⟩, b⟩
  · rintro ⟨⟨a, d⟩, b⟩; exact ⟨⟨a, b⟩, d⟩

def plainK (s : ByteArray) : List UInt8 := if plainE s = 0 then plainT s else []
def plnLL (s : ByteArray) : List ByteArray := (wdsOf s).map fun w => strB (rdW w)
theorem plnLL_len (s : ByteArray) : (plnLL s).length = (piecesOf slashS s).length := by unfold plnLL wdsOf; simp
theorem join_plain (s : ByteArray) : joinB ⟨#[32]⟩ (plnLL s) = strB (plainT s) := by
  unfold joinB plnLL plainT
  rw [List.map_map]; rfl
theorem rdW_snoc (w : List ByteArray) (q : Nat) (h : q < w.length) : rdW (w.take (q + 1)) = rdW (w.take q) ++ signOfL (w[q]).data.toList := by
  unfold rdW
  rw [List.take_succ_eq_append_getElem h, List.flatMap_append]
  simp
theorem rdW_len (w : List ByteArray) : (rdW w).length = w.length := by
  induction w with
  | nil => rfl
  | cons c r ih => simp only [rdW, List.flatMap_cons, List.length_append, List.length_cons, signOfL_len] at ih ⊢; omega
theorem plainOK_not {s : ByteArray} {k q : Nat} (hk : k < (wdsOf s).length) (hq : q < (wdsOf s)[k].length) (h : codeOK ((wdsOf s)[k][q]).data.toList = false) : plainOK s = false := by
  unfold plainOK
  rw [List.all_eq_false]
  refine ⟨(wdsOf s)[k], List.getElem_mem hk, ?_⟩
  rw [Bool.not_eq_true, List.all_eq_false]
  exact ⟨_, List.getElem_mem hq, by rw [h]; decide⟩
theorem plainOK_yes {s : ByteArray} (h : ∀ k (hk : k < (wdsOf s).length), ((wdsOf s)[k].all fun c => codeOK c.data.toList) = true) : plainOK s = true := by
  unfold plainOK
  rw [List.all_eq_true]
  intro w hw
  obtain ⟨k, hk, rfl⟩ := List.mem_iff_getElem.1 hw
  exact h k hk
theorem all_snoc {l : List ByteArray} {q : Nat} (hq : q < l.length) (h : ((l.take q).all fun c => codeOK c.data.toList) = true) (h1 : codeOK (l[q]).data.toList = true) : ((l.take (q + 1)).all fun c => codeOK c.data.toList) = true := by
  rw [List.take_succ_eq_append_getElem hq, List.all_append, h]
  simp [h1]
theorem pieces_small (sep s : ByteArray) : ∀ p ∈ piecesOf sep s, p.size ≤ s.size := splitB_small sep _ s
theorem plainT_len {s : ByteArray} (h : s.size ≤ 5000) : (plainT s).length ≤ 100000000 := by
  unfold plainT
  have h1 := isp_len_le [32] 5001 ((wdsOf s).map rdW) (fun p hp => by
    obtain ⟨w, hw, rfl⟩ := List.mem_map.1 hp
    rw [rdW_len]
    unfold wdsOf at hw
    obtain ⟨x, hx, rfl⟩ := List.mem_map.1 hw
    have a := pieces_few blankS x (by decide)
    have c := pieces_small slashS s x hx
    omega)
  have h2 : ((wdsOf s).map rdW).length ≤ 5001 := by
    rw [List.length_map]
    unfold wdsOf
    rw [List.length_map]
    have := pieces_few slashS s (by decide)
    omega
  have h3 : ((wdsOf s).map rdW).length * (5001 + [(32 : UInt8)].length) ≤ 5001 * (5001 + 1) := Nat.mul_le_mul h2 (by simp)
  omega
end Go.Proofs.YtlodmkdhlmineaaGreatDoor
