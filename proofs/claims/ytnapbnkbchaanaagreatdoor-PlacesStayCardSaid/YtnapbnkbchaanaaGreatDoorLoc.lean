/- The walks over locators in package place: levels, IsLocator, area, middle, locator. Condition: strings of bytes. -/
import Derived.Test.YtnapbnkbchaanaaGreatDoorLocPlain
import Derived.Test.YtnapbnkbchaanaaGreatDoorSky0
import Derived.Test.YtnapbnkbchaanaaGreatDoorStream
import Derived.Test.YtnapbnkbchaanaaGreatDoorInts
import Derived.Laws.BytesArg
import Derived.Deep.AppendLies
import Derived.Deep.RegionHeld3
import Derived.Deep.RegionHeldLaw
namespace Go.Proofs.YtnapbnkbchaanaaGreatDoor
open Go.RowKit
set_option linter.unusedVariables false
set_option linter.unusedSimpArgs false

def lvCells : Array Value := #[.int .i64 18, .int .u8 97, .int .i64 72000, .int .i64 36000, .int .i64 10, .int .u8 48, .int .i64 7200, .int .i64 3600, .int .i64 24, .int .u8 97, .int .i64 300, .int .i64 150]
set_option maxHeartbeats 400000 in
theorem levels_any (w : World) : Calls Tryz.prog 152 #[] w fun e w' => e = .returned (.slice (some ⟨w.heap.size, 0, none⟩) 3 3) ∧ w' = w.alloc (.cells lvCells 189) := by
  go_enter Tryz.func152, Tryz.ntmps152
  go_wp2_with fail
  go_ret
  exact ⟨rfl, rfl⟩
theorem lv_cells {w : World} {g : Nat} (h : Blk w g 189 lvCells) (j : Nat) (hj : j < 3) :
    w.cell? ⟨g, j * 4, none⟩ = some (.int .i64 (lvMany j)) ∧ w.cell? ⟨g, j * 4 + 1, none⟩ = some (.int .u8 (lvFirst j)) ∧ w.cell? ⟨g, j * 4 + 2, none⟩ = some (.int .i64 (lvWide j)) ∧ w.cell? ⟨g, j * 4 + 3, none⟩ = some (.int .i64 (lvHigh j)) := by
  rw [h.cell, h.cell, h.cell, h.cell]
  rcases (by omega : j = 0 ∨ j = 1 ∨ j = 2) with rfl | rfl | rfl <;> exact ⟨rfl, rfl, rfl, rfl⟩
theorem Blk.cells4 {w : World} {g : Nat} {t : TypeId} {a0 a1 a2 a3 : Value} (h : Blk w g t #[a0, a1, a2, a3]) : w.cell? ⟨g, 0, none⟩ = some a0 ∧ w.cell? ⟨g, 1, none⟩ = some a1 ∧ w.cell? ⟨g, 2, none⟩ = some a2 ∧ w.cell? ⟨g, 3, none⟩ = some a3 := ⟨h.cell 0, h.cell 1, h.cell 2, h.cell 3⟩

/-- The bytes of a slice, that lies in a block from base on. -/
def BytesFrom (base : Nat) (w : World) (v : Value) (l : List Int) : Prop := w.ownsRow base 5 1 v l.length (l.map (Value.int .u8))
theorem byteInfo : (Tryz.prog.info? 5).map (fun i => (i.zero, i.size, i.bytes)) = some (some (.int .u8 0), 1, 1) := by kernel_rfl
theorem two_bytes (w : World) (x y : Int) (t : TypeId) : ∀ j u, ([Value.int .u8 x, .int .u8 y])[j]? = some u → (w.alloc (.cells #[.int .u8 x, .int .u8 y] t)).cell? ((⟨w.heap.size, 0, none⟩ : Addr).add j) = some u := by
  intro j u hu
  have hb := (Blk.new w t #[.int .u8 x, .int .u8 y]).cell j
  have hadd : (⟨w.heap.size, 0, none⟩ : Addr).add j = ⟨w.heap.size, j, none⟩ := by unfold Addr.add; split <;> simp_all
  rw [hadd, hb]
  simpa using hu
theorem two_byteCell (x y : Int) : ∀ u ∈ [Value.int .u8 x, .int .u8 y], u.oneCell' = true := by
  intro u hu; simp at hu; rcases hu with rfl | rfl <;> rfl

end Go.Proofs.YtnapbnkbchaanaaGreatDoor
