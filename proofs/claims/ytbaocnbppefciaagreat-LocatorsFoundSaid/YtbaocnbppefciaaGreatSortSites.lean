/- slices.SortFunc at few sites, with the closure of Beside: the same sites, in order. Condition: at most 12 sites in their ranges. -/
import Derived.Test.YtbaocnbppefciaaGreatWay
import Derived.Test.YtbaocnbppefciaaGreatSortSite
import Derived.Test.YtbaocnbppefciaaGreatShelf
namespace Go.Proofs.YtbaocnbppefciaaGreat
open Go.RowKit Go.Sort Go.Shelf
set_option linter.unusedVariables false
set_option linter.unusedSimpArgs false

/-- A site whose numbers lie within bounds. -/
abbrev SiteN := {p : Int × Int // (-648000 ≤ p.1 ∧ p.1 ≤ 648000) ∧ (-648000 ≤ p.2 ∧ p.2 ≤ 648000)}
instance : Inhabited SiteN := ⟨⟨(0, 0), by decide⟩⟩
def encSite (p : SiteN) : List Value := [.int .i64 p.1.1, .int .i64 p.1.2]
def cmpSite (x y : SiteN) : Int := if x.1.1 = y.1.1 then x.1.2 - y.1.2 else x.1.1 - y.1.1
def siteL (l : List SiteN) : List (Int × Int) := l.map (·.1)

set_option maxHeartbeats 1000000 in
theorem besClosure (x y : SiteN) (W : World) : Calls Tryz.prog 43 #[.agg #[.int .i64 x.1.1, .int .i64 x.1.2], .agg #[.int .i64 y.1.1, .int .i64 y.1.2]] W fun e w' => e = .returned (.int .i64 (cmpSite x y)) ∧ ∃ q os', w' = grow (W.drewN q) os' := by
  obtain ⟨⟨a, b⟩, ⟨ha, hb⟩, hc, hd⟩ := x
  obtain ⟨⟨p, q⟩, ⟨hp, hq⟩, hr, hs⟩ := y
  simp only at ha hb hc hd hp hq hr hs ⊢
  unfold cmpSite
  simp only
  by_cases h : a = p
  · rw [if_pos h]
    subst h
    go_enter Tryz.func43, Tryz.ntmps43
    go_wp2_with fail
    go_ret
    exact ⟨rfl, 0, _, by rw [alloc_eq_grow, alloc_eq_grow, grow_grow]; rfl⟩
  · rw [if_neg h]
    go_enter Tryz.func43, Tryz.ntmps43
    go_wp2_with fail
    go_ret
    exact ⟨rfl, 0, _, by rw [alloc_eq_grow, alloc_eq_grow, grow_grow]; rfl⟩
theorem cmp_lt (x y : SiteN) : cmpSite x y < 0 ↔ x.1.1 < y.1.1 ∨ (x.1.1 = y.1.1 ∧ x.1.2 < y.1.2) := by
  unfold cmpSite
  by_cases h : x.1.1 = y.1.1
  · rw [if_pos h]; constructor
    · intro h1; right; exact ⟨h, by omega⟩
    · rintro (h1 | ⟨_, h1⟩) <;> omega
  · rw [if_neg h]; constructor
    · intro h1; left; omega
    · rintro (h1 | ⟨h1, _⟩)
      · omega
      · exact absurd h1 h
theorem cmpSWO : SWO (ltOf cmpSite) := by
  refine ⟨fun x => ?_, fun x y z h1 h2 => ?_, fun x y z h1 h2 => ?_⟩
  · simp [ltOf, cmpSite]
  · unfold ltOf at *
    rw [decide_eq_true_eq, cmp_lt] at *
    omega
  · unfold ltOf at *
    rw [decide_eq_false_iff_not, cmp_lt] at *
    omega
theorem flat_sites (l : List SiteN) : flatK encSite 2 l.toArray = (wcells (siteL l)).toArray := by
  have hsz : (wcells (siteL l)).length = l.length * 2 := by rw [wcells_len]; simp [siteL]
  apply Array.ext
  · simp [hsz]
  · intro i h1 h2
    have h1' : i < l.length * 2 := by simpa using h1
    have h3 : i / 2 < l.length := by omega
    have h4 : i / 2 < (siteL l).length := by simpa [siteL] using h3
    have hc := wcells_at (siteL l) (i / 2) h4
    have hs : (siteL l)[i / 2] = l[i / 2].1 := by simp [siteL]
    rw [hs] at hc
    have hg := get_flatK encSite 2 l.toArray i (by simpa using h1')
    rw [getElem!_pos _ i h1, getElem!_pos l.toArray (i / 2) (by simpa using h3)] at hg
    rw [hg]
    simp only [List.getElem_toArray]
    rcases (by omega : i % 2 = 0 ∨ i % 2 = 1) with h | h
    · have e : i = i / 2 * 2 := by omega
      have := hc.1
      rw [← e, List.getElem?_eq_getElem (by omega)] at this
      rw [h]
      injection this with this
      rw [this]
      rfl
    · have e : i = i / 2 * 2 + 1 := by omega
      have := hc.2
      rw [← e, List.getElem?_eq_getElem (by omega)] at this
      rw [h]
      injection this with this
      rw [this]
      rfl
theorem heap_sortedK {w : World} {g n : Nat} {os : Array Obj} {cur : Array Value} {e : TypeId} {fr : Nat × Nat} (d : Array Value) (hb : w.heap[g]? = some (.cells cur e fr)) :
    (grow (putRow id (Sort.ahead w n) g 0 d) os).heap[g]? = some (.cells (putCells id 0 d cur) e fr) := by
  have hg : g < w.heap.size := (Array.getElem?_eq_some_iff.1 hb).1
  rw [heap_grow_old _ _ (by simpa using hg)]
  simp [putRow, mapBlock, Sort.ahead, Array.getElem?_modify, hb, onCells]
theorem grownBy_sortedK {w : World} {g n : Nat} {os : Array Obj} (d : Array Value) : w.grownBy (grow (putRow id (Sort.ahead w n) g 0 d) os) (some g) := by
  refine ⟨rfl, rfl, rfl, by simp, fun k hk hne => ?_⟩
  rw [heap_grow_old _ _ (by simpa using hk)]
  have : g ≠ k := fun e => hne (by rw [e])
  simp [putRow, mapBlock, Sort.ahead, Array.getElem?_modify, this]
theorem take_putCellsK (cur : Array Value) (ts : List Value) (h : ts.length ≤ cur.size) : (putCells id 0 ts.toArray cur).toList.take ts.length = ts := by
  apply List.ext_getElem?
  intro j
  by_cases hj : j < ts.length
  · rw [List.getElem?_take_of_lt hj, Array.getElem?_toList]
    simp [putCells, hj, show j < cur.size by omega]
  · rw [List.getElem?_take_eq_none (by omega), List.getElem?_eq_none (by omega)]

/-- The sites in order. -/
theorem sortSites_own (base : Nat) (g c : Nat) (l : List SiteN) (w : World) (hl : Sites base w (.slice (some ⟨g, 0, none⟩) l.length c) (siteL l)) (hn : l.length ≤ 12) :
    Calls Tryz.prog 42 #[.slice (some ⟨g, 0, none⟩) l.length c, .func (.func 43) #[] #[]] w fun r w' =>
      r = .returned (.tuple #[]) ∧ ∃ l' : List SiteN, l'.Perm l ∧ l'.Pairwise (fun x y => ¬ cmpSite y x < 0) ∧ Sites base w' (.slice (some ⟨g, 0, none⟩) l.length c) (siteL l') ∧ w.grownBy w' (some g) := by
  have hsl : (siteL l).length = l.length := by simp [siteL]
  have hl2 : w.ownsRow base 27 2 (.slice (some ⟨g, 0, none⟩) l.length c) l.length (wcells (siteL l)) := by
    have h := hl
    unfold Sites at h
    rwa [hsl] at h
  rcases hl.2 with ⟨h0, _⟩ | ⟨g', cap, cur, h0, hb, hg, hnc, hm, hs, ht⟩
  · cases h0
  · injection h0 with e1 _ e3
    injection e1 with e1
    injection e1 with e1
    subst e1; subst e3
    have hlt : g < w.heap.size := (Array.getElem?_eq_some_iff.1 hg).1
    have hH : HoldsK encSite 2 w g 0 l.toArray := by
      unfold HoldsK
      rw [flat_sites]
      intro j hj
      have hwl := wcells_len (siteL l)
      rw [hsl] at hwl
      have hj' : j < l.length * 2 := by simpa [hwl] using hj
      have hf := World.ownsRow.frozenAt hl2 j
      refine ⟨?_, by simpa using hf⟩
      have hc := World.ownsRow.cellAt hl2 j (by omega)
      rw [Nat.zero_add, hc, List.getElem?_eq_getElem (by omega), getElem!_pos _ j hj]
      simp
    have eg : ∀ args w, (callFunc 43 args).run Tryz.prog w = .ok (.enter 43 args) w := enters_of Tryz.func43 (by kernel_rfl) rfl
    have hcon := AnyQ.slices_SortFunc_small_sorted Tryz.sortSite 2 Tryz.isAgg27 Tryz.sizeOf27 encSite (fun _ => rfl) (fun x v hv => by simp [encSite] at hv; rcases hv with rfl | rfl <;> rfl) cmpSite 43 #[] cmpSWO g 0 c l.toArray w eg
      (fun _ _ _ _ x y => besClosure x y _) hH hlt (by simpa using hn) (fun n W h => (Tryz.bits_Len n W (by omega) (by omega)).mono fun _ _ ⟨he, hw⟩ => ⟨⟨_, he⟩, hw⟩)
    refine Calls.mono hcon ?_
    rintro r w' ⟨rfl, d', n, os, hp, hso, rfl⟩
    obtain ⟨hp1, -, hp3⟩ := hp
    have hds : d'.size = l.length := by simpa using hp1
    refine ⟨rfl, d'.toList, ?_, ?_, ?_, grownBy_sortedK _⟩
    · have h1 : (d'.extract 0 l.toArray.size) = d' := by rw [show l.toArray.size = d'.size by simp [hds]]; simp
      have h2 : (l.toArray.extract 0 l.toArray.size) = l.toArray := by simp
      rw [h1, h2] at hp3
      exact hp3
    · rw [List.pairwise_iff_getElem]
      intro i j hi hj hij
      have hj' : j < d'.size := by simpa using hj
      have hi' : i < d'.size := by simpa using hi
      have := hso i j (Nat.zero_le _) hij (by simpa [hds] using hj')
      rw [getElem!_pos d' j hj', getElem!_pos d' i hi'] at this
      simpa [ltOf] using this
    · have hsl' : (siteL d'.toList).length = l.length := by simp [siteL, hds]
      have hwl := wcells_len (siteL d'.toList)
      rw [hsl'] at hwl
      have hfl : flatK encSite 2 d' = (wcells (siteL d'.toList)).toArray := by
        have := flat_sites d'.toList
        simpa using this
      unfold Sites
      rw [hsl']
      refine ⟨by simp [hwl], .inr ⟨g, c, _, rfl, hb, heap_sortedK _ hg, by omega, hm, by simp [putCells, hs], ?_⟩⟩
      rw [hfl, ← hwl]
      exact take_putCellsK cur _ (by rw [hwl, hs]; omega)
end Go.Proofs.YtbaocnbppefciaaGreat
