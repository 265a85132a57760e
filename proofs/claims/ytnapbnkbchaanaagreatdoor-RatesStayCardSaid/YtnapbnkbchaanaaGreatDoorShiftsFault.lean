/- The walk over the reference's ShiftsFault. Condition: few shifts, whose numbers and strings are small. -/
import Derived.Test.YtnapbnkbchaanaaGreatDoorShifts
import Derived.Test.YtnapbnkbchaanaaGreatDoorOnce
import Derived.Test.YtnapbnkbchaanaaGreatDoorStream
import Derived.Deep.QuietTactic
import Derived.BigQuiet
import Derived.Deep.RegionHeld3
namespace Go.Proofs.YtnapbnkbchaanaaGreatDoor
open Go.RowKit
set_option linter.unusedVariables false
set_option linter.unusedSimpArgs false

theorem strNameInfo : (Tryz.prog.info? 9).map (fun i => (i.zero, i.size, i.bytes)) = some (some (.string ⟨#[]⟩), 1, 16) := by kernel_rfl
theorem str_new (w : World) (x : ByteArray) (t : TypeId) : ∀ j u, ([Value.string x])[j]? = some u → (w.alloc (.cells #[.string x] t)).cell? ((⟨w.heap.size, 0, none⟩ : Addr).add j) = some u := by
  intro j u hu
  have hb := (Blk.new w t #[.string x]).cell j
  have hadd : (⟨w.heap.size, 0, none⟩ : Addr).add j = ⟨w.heap.size, j, none⟩ := by unfold Addr.add; split <;> simp_all
  rw [hadd, hb]
  simpa using hu
theorem str_newOne (x : ByteArray) : ∀ u ∈ [Value.string x], u.oneCell' = true := by
  intro u hu; simp at hu; rw [hu]; rfl
theorem encStr_bytes (x : ByteArray) : Value.string x = encStr x.data.toList := by simp [encStr]

end Go.Proofs.YtnapbnkbchaanaaGreatDoor
