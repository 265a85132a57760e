/- slices.SortFunc at the signs with their codes, with the closure of key.Split: the signs in the order of their bytes. Condition: they lie in memory that the call owns. -/
import Derived.Test.YtlodmkdhlmineaaGreatDoorWaysPlain
import Derived.Test.YtlodmkdhlmineaaGreatDoorSortSg
import Derived.Test.YtlodmkdhlmineaaGreatDoorShelf
namespace Go.Proofs.YtlodmkdhlmineaaGreatDoor
open Go.RowKit Go.Sort Go.Shelf
set_option linter.unusedVariables false
set_option linter.unusedSimpArgs false

abbrev SgnN := UInt8 × List UInt8
def encSg (p : SgnN) : List Value := [.string ⟨#[p.1]⟩, .string ⟨p.2.toArray⟩]
def cmpSg (x y : SgnN) : Int := Lib.compareBytes [x.1] [y.1]

set_option maxHeartbeats 1000000 in
theorem sgClosure (x y : SgnN) (W : World) : Calls Tryz.prog 90 #[.agg #[.string ⟨#[x.1]⟩, .string ⟨x.2.toArray⟩], .agg #[.string ⟨#[y.1]⟩, .string ⟨y.2.toArray⟩]] W fun e w' => e = .returned (.int .i64 (cmpSg x y)) ∧ ∃ q os', w' = grow (W.drewN q) os' := by
  have HC := Lib.hid (fun W => Tryz.strings_Compare ⟨#[x.1]⟩ ⟨#[y.1]⟩ W)
  obtain ⟨a, sa⟩ := x
  obtain ⟨b, sb⟩ := y
  obtain ⟨ta, hta⟩ : ∃ t : ByteArray, ⟨#[a]⟩ = t := ⟨_, rfl⟩
  obtain ⟨tb, htb⟩ : ∃ t : ByteArray, ⟨#[b]⟩ = t := ⟨_, rfl⟩
  simp only at HC ⊢
  rw [hta, htb] at HC ⊢
  clear hta htb
  go_enter Tryz.func90, Tryz.ntmps90
  go_wp2_with fail
  refine (HC.out _).mono ?_
  rintro _ _ ⟨rfl, rfl⟩
  go_wp2_with fail
  go_ret
  exact ⟨rfl, 0, _, by rw [alloc_eq_grow, alloc_eq_grow, grow_grow]; rfl⟩
theorem sg_lt (x y : SgnN) : cmpSg x y < 0 ↔ x.1.toNat < y.1.toNat := by
  unfold cmpSg
  simp only [Lib.compareBytes]
  by_cases h1 : x.1 < y.1
  · have h2 : x.1.toNat < y.1.toNat := h1
    simp [h1, h2]
  · have h2 : ¬ x.1.toNat < y.1.toNat := h1
    by_cases h3 : y.1 < x.1
    · simp [h1, h2, h3]
    · simp [h1, h2, h3]
theorem sgSWO : SWO (ltOf cmpSg) := by
  refine ⟨fun x => ?_, fun x y z h1 h2 => ?_, fun x y z h1 h2 => ?_⟩
  · unfold ltOf
    rw [decide_eq_false_iff_not, sg_lt]
    omega
  · unfold ltOf at *
    rw [decide_eq_true_eq, sg_lt] at *
    omega
  · unfold ltOf at *
    rw [decide_eq_false_iff_not, sg_lt] at *
    omega
theorem flat_sg (l : List SgnN) : flatK encSg 2 l.toArray = (wdCells l).toArray := by
  have hsz := wdCells_len l
  apply Array.ext
  · simp [hsz]
  · intro i h1 h2
    have h1' : i < l.length * 2 := by simpa using h1
    have h3 : i / 2 < l.length := by omega
    have hc := wdCells_at l (i / 2) h3
    have hg := get_flatK encSg 2 l.toArray i (by simpa using h1')
    rw [getElem!_pos _ i h1, getElem!_pos l.toArray (i / 2) (by simpa using h3)] at hg
    rw [hg]
    simp only [List.getElem_toArray]
    rcases (by omega : i % 2 = 0 ∨ i % 2 = 1) with h | h
    · have e : i = i / 2 * 2 := by omega
      have := hc.1
      rw [← e, List.getElem?_eq_getElem (by omega)] at this
      rw [h]
      injection this with this
      rw [this]
      rfl
    · have e : i = i / 2 * 2 + 1 := by omega
      have := hc.2
      rw [← e, List.getElem?_eq_getElem (by omega)] at this
      rw [h]
      injection this with this
      rw [this]
      rfl
theorem heap_sortedSg {w : World} {g n : Nat} {os : Array Obj} {cur : Array Value} {e : TypeId} {fr : Nat × Nat} (d : Array Value) (hb : w.heap[g]? = some (.cells cur e fr)) :
    (grow (putRow id (Sort.ahead w n) g 0 d) os).heap[g]? = some (.cells (putCells id 0 d cur) e fr) := by
  have hg : g < w.heap.size := (Array.getElem?_eq_some_iff.1 hb).1
  rw [heap_grow_old _ _ (by simpa using hg)]
  simp [putRow, mapBlock, Sort.ahead, Array.getElem?_modify, hb, onCells]
theorem grownBy_sortedSg {w : World} {g n : Nat} {os : Array Obj} (d : Array Value) : w.grownBy (grow (putRow id (Sort.ahead w n) g 0 d) os) (some g) := by
  refine ⟨rfl, rfl, rfl, by simp, fun k hk hne => ?_⟩
  rw [heap_grow_old _ _ (by simpa using hk)]
  have : g ≠ k := fun e => hne (by rw [e])
  simp [putRow, mapBlock, Sort.ahead, Array.getElem?_modify, this]
theorem take_putCellsSg (cur : Array Value) (ts : List Value) (h : ts.length ≤ cur.size) : (putCells id 0 ts.toArray cur).toList.take ts.length = ts := by
  apply List.ext_getElem?
  intro j
  by_cases hj : j < ts.length
  · rw [List.getElem?_take_of_lt hj, Array.getElem?_toList]
    simp [putCells, hj, show j < cur.size by omega]
  · rw [List.getElem?_take_eq_none (by omega), List.getElem?_eq_none (by omega)]

/-- The signs in order. -/
theorem sortSg_own (base : Nat) (g c : Nat) (w : World) (hl : SgnFrom base w (.slice (some ⟨g, 0, none⟩) codeT.length c) codeT) :
    Calls Tryz.prog 89 #[.slice (some ⟨g, 0, none⟩) codeT.length c, .func (.func 90) #[] #[]] w fun r w' =>
      r = .returned (.tuple #[]) ∧ SgnFrom base w' (.slice (some ⟨g, 0, none⟩) codeT.length c) signT ∧ w.grownBy w' (some g) := by
  have hl2 : w.ownsRow base 100 2 (.slice (some ⟨g, 0, none⟩) codeT.length c) codeT.length (wdCells codeT) := hl
  rcases hl.2 with ⟨h0, _⟩ | ⟨g', cap, cur, h0, hb, hg, hnc, hm, hs, ht⟩
  · cases h0
  · injection h0 with e1 _ e3
    injection e1 with e1
    injection e1 with e1
    subst e1; subst e3
    have hlt : g < w.heap.size := (Array.getElem?_eq_some_iff.1 hg).1
    have hH : HoldsK encSg 2 w g 0 codeT.toArray := by
      unfold HoldsK
      rw [flat_sg]
      intro j hj
      have hwl := wdCells_len codeT
      have hj' : j < codeT.length * 2 := by simpa [hwl] using hj
      have hf := World.ownsRow.frozenAt hl2 j
      refine ⟨?_, by simpa using hf⟩
      have hc := World.ownsRow.cellAt hl2 j (by omega)
      rw [Nat.zero_add, hc, List.getElem?_eq_getElem (by omega), getElem!_pos _ j hj]
      simp
    have eg : ∀ args w, (callFunc 90 args).run Tryz.prog w = .ok (.enter 90 args) w := enters_of Tryz.func90 (by kernel_rfl) rfl
    have hcon := AnyQ.slices_SortFunc Tryz.sortSgn 2 Tryz.isAgg100 Tryz.sizeOf100 encSg (fun _ => rfl) (fun x v hv => by simp [encSg] at hv; rcases hv with rfl | rfl <;> rfl) cmpSg sgSWO 90 #[] g 0 c codeT.toArray w eg
      (fun _ _ _ _ x y => sgClosure x y _) hH hlt (by rw [List.size_toArray, codeT_len]; decide)
    refine Calls.mono hcon ?_
    rintro r w' ⟨rfl, d', n, os, hp, hso, rfl⟩
    obtain ⟨hp1, -, hp3⟩ := hp
    have hds : d'.size = codeT.length := by simpa using hp1
    have hperm : d'.toList.Perm codeT := by
      have h1 : (d'.extract 0 codeT.toArray.size) = d' := by rw [show codeT.toArray.size = d'.size by simp [hds]]; simp
      have h2 : (codeT.toArray.extract 0 codeT.toArray.size) = codeT.toArray := by simp
      rw [h1, h2] at hp3
      exact hp3
    have hpw : d'.toList.Pairwise (fun x y => x.1.toNat ≤ y.1.toNat) := by
      rw [List.pairwise_iff_getElem]
      intro i j hi hj hij
      have hj' : j < d'.size := by simpa using hj
      have hi' : i < d'.size := by simpa using hi
      have := hso i j (Nat.zero_le _) hij (by simpa [hds] using hj')
      rw [getElem!_pos d' j hj', getElem!_pos d' i hi'] at this
      unfold ltOf at this
      rw [decide_eq_false_iff_not, sg_lt] at this
      have h2 : d'.toList[i].1.toNat ≤ d'.toList[j].1.toNat := by simpa using this
      exact h2
    have hinj : ∀ p ∈ codeT, ∀ q ∈ codeT, p.1.toNat = q.1.toNat → p = q := by decide +kernel
    have heq : d'.toList = signT := List.Perm.eq_of_pairwise (le := fun x y : SgnN => x.1.toNat ≤ y.1.toNat) (fun a b ha hb h1 h2 => hinj a (hperm.subset ha) b (signT_perm.subset hb) (by omega)) hpw (signT_sorted.imp (fun h => Nat.le_of_lt h)) (hperm.trans signT_perm.symm)
    refine ⟨rfl, ?_, grownBy_sortedSg _⟩
    have hwl := wdCells_len signT
    have hfl : flatK encSg 2 d' = (wdCells signT).toArray := by
      have := flat_sg d'.toList
      rw [← heq]
      simpa using this
    have hll : signT.length = codeT.length := by rw [signT_len, codeT_len]
    unfold SgnFrom
    rw [hll]
    refine ⟨by rw [hwl, hll], .inr ⟨g, c, _, rfl, hb, heap_sortedSg _ hg, by omega, hm, by simp [putCells, hs], ?_⟩⟩
    rw [hfl, ← hll, ← hwl]
    exact take_putCellsSg cur _ (by rw [hwl, hll, hs]; omega)
end Go.Proofs.YtlodmkdhlmineaaGreatDoor
