/- Plain law: the reference's way of those beside a locator: a step from the middle has the signs of the step from the low corner. Condition: the low corner lies on the lines of its level. -/
import Derived.Test.YtbaocnbppefciaaGreatBeside
namespace Go.Proofs.YtbaocnbppefciaaGreat
open Go.RowKit
set_option linter.unusedVariables false
set_option linter.unusedSimpArgs false

theorem leS_anti {p q : Int × Int} (h1 : leS p q) (h2 : leS q p) : p = q := by
  unfold leS at *
  obtain ⟨a, b⟩ := p
  obtain ⟨c, d⟩ := q
  simp only at h1 h2
  rw [Prod.mk.injEq]
  omega
theorem sites_one {a b : List (Int × Int)} (ha : a.Pairwise leS) (hb : b.Pairwise leS) (h : a.Perm b) : a = b :=
  List.Perm.eq_of_pairwise (le := leS) (fun x y _ _ h1 h2 => leS_anti h1 h2) ha hb h
/-- Within the world, on the lines of the level. -/
def OnLines (m : Nat) (p : Int × Int) : Prop := (-324000 ≤ p.1 ∧ p.1 ≤ 323999) ∧ (-648000 ≤ p.2 ∧ p.2 ≤ 647999) ∧ Lined m p.1 p.2
theorem low_lines (x : Nat → Int) (m : Nat) (hm0 : 0 < m) (hm : m ≤ 3) (h : LocOk x m) : OnLines m (lowNo x m, lowEa x m) := by
  have hb := low_bd x m hm h m (Nat.le_refl _)
  have hb2 := hb.2.2 hm0
  obtain ⟨-, -, -, -, w0, w1, g0, g1, -⟩ := lv_bd (m - 1) (by omega)
  exact ⟨⟨hb.2.1, by simp only; omega⟩, ⟨hb.1, by simp only; omega⟩, low_lined x m hm0 hm⟩
theorem lines_mid {m : Nat} (hm0 : 0 < m) (hm : m ≤ 3) {p : Int × Int} (h : OnLines m p) :
    p.1 + lvHigh (m - 1) / 2 ≤ 324000 ∧ p.2 + lvWide (m - 1) / 2 ≤ 647999 ∧ locL (p.1 + lvHigh (m - 1) / 2) (p.2 + lvWide (m - 1) / 2) m = locL p.1 p.2 m := by
  obtain ⟨⟨n0, n1⟩, ⟨e0, e1⟩, hl⟩ := h
  obtain ⟨h1, h2⟩ := low_own p.1 p.2 m hm0 hm n0 n1 e0 e1 hl
  obtain ⟨-, -, -, -, w0, w1, g0, g1, -⟩ := lv_bd (m - 1) (by omega)
  refine ⟨?_, ?_, locL_same p.1 p.2 _ _ m hm n0 (by omega) e0 e1 hm0 (by rw [h2]; omega) (by rw [h2]; omega) (by rw [h1]; omega) (by rw [h1]; omega)⟩
  · unfold Lined at hl
    clear h1 h2
    rcases (by omega : m = 1 ∨ m = 2 ∨ m = 3) with rfl | rfl | rfl <;> simp [lvHigh, lvWide] at hl ⊢ <;> omega
  · unfold Lined at hl
    clear h1 h2
    rcases (by omega : m = 1 ∨ m = 2 ∨ m = 3) with rfl | rfl | rfl <;> simp [lvHigh, lvWide] at hl ⊢ <;> omega
theorem mid_in {m : Nat} (hm0 : 0 < m) (hm : m ≤ 3) {n e : Int} (h : OnLines m (n, e)) {s : Int} (hs : s = -lvHigh (m - 1) ∨ s = 0 ∨ s = lvHigh (m - 1)) :
    outB (n + lvHigh (m - 1) / 2 + s) (-324000) 324000 = outB (n + s) (-324000) 323999 := by
  have hh : (-324000 ≤ n + lvHigh (m - 1) / 2 + s ∧ n + lvHigh (m - 1) / 2 + s ≤ 324000) ↔ (-324000 ≤ n + s ∧ n + s ≤ 323999) := by
    obtain ⟨⟨n0, n1⟩, ⟨e0, e1⟩, hl⟩ := h
    unfold Lined at hl
    simp only at hl n0 n1
    rcases (by omega : m = 1 ∨ m = 2 ∨ m = 3) with rfl | rfl | rfl <;> simp [lvHigh, lvWide] at hl hs ⊢ <;> omega
  by_cases h1 : -324000 ≤ n + s ∧ n + s ≤ 323999
  · rw [outB_no h1.1 h1.2, outB_no (hh.2 h1).1 (hh.2 h1).2]
  · have h2 : ¬ _ := fun x => h1 (hh.1 x)
    rw [outB_yes (by omega), outB_yes (by omega)]
theorem mid_around {m : Nat} (hm0 : 0 < m) (hm : m ≤ 3) {n e : Int} (h : OnLines m (n, e)) {s : Int} (hs : s = -lvWide (m - 1) ∨ s = 0 ∨ s = lvWide (m - 1)) :
    aroundI (e + lvWide (m - 1) / 2 + s) = aroundI (e + s) + lvWide (m - 1) / 2 := by
  obtain ⟨⟨n0, n1⟩, ⟨e0, e1⟩, hl⟩ := h
  unfold Lined at hl
  unfold aroundI
  simp only at hl e0 e1
  rcases (by omega : m = 1 ∨ m = 2 ∨ m = 3) with rfl | rfl | rfl <;> simp [lvHigh, lvWide] at hl hs ⊢ <;> omega
theorem besP_lines {m : Nat} (hm0 : 0 < m) (hm : m ≤ 3) {n e : Int} (h : OnLines m (n, e)) {k : Nat} (hb : besB n (lvHigh (m - 1)) k = true) : OnLines m (besP n e (lvHigh (m - 1)) (lvWide (m - 1)) k) := by
  refine ⟨?_, ?_, lined_step hm0 hm h.2.2 k⟩
  · simp only [besB, Bool.and_eq_true, decide_eq_true_eq] at hb
    exact ⟨hb.2.1, hb.2.2⟩
  · exact aroundI_bd _
theorem besTo_lines {m : Nat} (hm0 : 0 < m) (hm : m ≤ 3) {n e : Int} (h : OnLines m (n, e)) (k : Nat) : ∀ p ∈ besTo n e (lvHigh (m - 1)) (lvWide (m - 1)) k, OnLines m p := by
  intro p hp
  obtain ⟨j, _, hb, rfl⟩ := (besTo_mem _ _ _ _ _ p).1 hp
  exact besP_lines hm0 hm h hb
/-- The signs of those beside, in the reference's order. -/
def besR (m : Nat) (n e : Int) (k : Nat) : List ByteArray := (besTo n e (lvHigh (m - 1)) (lvWide (m - 1)) k).map fun p => strOfNums (locL p.1 p.2 m)
end Go.Proofs.YtbaocnbppefciaaGreat
