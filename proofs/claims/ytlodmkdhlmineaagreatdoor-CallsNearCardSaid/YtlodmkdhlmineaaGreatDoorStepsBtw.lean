/- The walk over the reference StepsBetween: as many steps as the plain law says. Condition: strings of at most 14 bytes. -/
import Derived.Test.YtlodmkdhlmineaaGreatDoorBetween
import Derived.Laws.EntriesVeiled
namespace Go.Proofs.YtlodmkdhlmineaaGreatDoor
open Go.RowKit
set_option linter.unusedVariables false
set_option linter.unusedSimpArgs false
set_option maxRecDepth 100000 in
set_option maxHeartbeats 1000000 in
theorem between_any (a b : ByteArray) (w : World) (ha : a.size ≤ 14) (hb : b.size ≤ 14) :
    Calls Tryz.prog 20 #[.string a, .string b] w fun e w' => e = .returned (.int .i64 (stepsL a.data.toList b.data.toList : Nat)) ∧ w.grownBy w' none := by
  have hmm := @run_makeMap Tryz.prog
  have hB2 := (Blk.new w 9 #[.string a]).alloc (.cells #[.string b] 9)
  have hB3 := Blk.new (w.alloc (.cells #[.string a] 9)) 9 #[.string b]
  have hsz1 : (w.alloc (.cells #[.string a] 9)).heap.size = w.heap.size + 1 := by simp
  have hsz2 : ((w.alloc (.cells #[.string a] 9)).alloc (.cells #[.string b] 9)).heap.size = w.heap.size + 2 := by simp
  have hG2 := gr_alloc (World.grownBy_alloc w (.cells #[.string a] 9) none) (.cells #[.string b] 9)
  rw [hsz1] at hB3
  clear hsz1
  go_enter Tryz.func20, Tryz.ntmps20
  go_upto_region 1 with fail
  generalize (w.alloc (.cells #[.string a] 9)).alloc (.cells #[.string b] 9) = W2 at *
  obtain ⟨X, hX⟩ : ∃ X, w.heap.size = X := ⟨_, rfl⟩
  rw [hX] at hB2 hB3 hsz2 ⊢
  have HX := Lib.hid hX
  clear hX
  have hMm := MapM.made a.data.toList b.data.toList W2
  rw [hsz2] at hMm
  have hM4 := hMm.kept (World.grownBy_alloc (W2.alloc (.map #[] 0)) (.cells #[.map (some (X + 2))] 76) none) (by simp)
  have hB5 := Blk.new (W2.alloc (.map #[] 0)) 76 #[.map (some (X + 2))]
  have hs3 : (W2.alloc (.map #[] 0)).heap.size = X + 2 + 1 := by rw [World.size_alloc, hsz2]
  rw [hs3] at hB5
  have hs4 : ((W2.alloc (.map #[] 0)).alloc (.cells #[.map (some (X + 2))] 76)).heap.size = X + 2 + 1 + 1 := by rw [World.size_alloc, hs3]
  have hB24 := (hB2.alloc (.map #[] 0)).alloc (.cells #[.map (some (X + 2))] 76)
  have hB34 := (hB3.alloc (.map #[] 0)).alloc (.cells #[.map (some (X + 2))] 76)
  have hG4 := gr_alloc (gr_alloc hG2 (.map #[] 0)) (.cells #[.map (some (X + 2))] 76)
  clear hMm hB2 hB3 hG2 hs3
  go_upto_region 2 with fail
  generalize (W2.alloc (.map #[] 0)).alloc (.cells #[.map (some (X + 2))] 76) = W4 at *
  have hB6 := Blk.new W4 52 #[.nilFunc]
  rw [hs4] at hB6
  have hB25 := hB24.alloc (.cells #[.nilFunc] 52)
  have hB35 := hB34.alloc (.cells #[.nilFunc] 52)
  have hB55 := hB5.alloc (.cells #[.nilFunc] 52)
  have hM5 := hM4.kept (World.grownBy_alloc W4 (.cells #[.nilFunc] 52) none) (by simp)
  have hG5 := gr_alloc hG4 (.cells #[.nilFunc] 52)
  clear hB24 hB34 hB5 hM4 hG4 hsz2
  go_upto_region 3 with fail
  generalize W4.alloc (.cells #[.nilFunc] 52) = W5 at *
  have d6 : W5.cell? ⟨X + 2 + 1 + 1, 0, none⟩ = some .nilFunc := hB6.cell 0
  have f6 := hB6.free 0
  have hp := gr_put (p := (⟨X + 2 + 1 + 1, 0, none⟩ : Addr)) (gr_refl W5 (some (X + 2 + 1 + 1))) (.inl rfl) (.func (.func 64) #[] #[.pointer (some ⟨X, 0, none⟩), .pointer (some ⟨X + 1, 0, none⟩), .pointer (some ⟨X + 2 + 1, 0, none⟩), .pointer (some ⟨X + 2 + 1 + 1, 0, none⟩)])
  have hB7 := hB6.put 0 (.func (.func 64) #[] #[.pointer (some ⟨X, 0, none⟩), .pointer (some ⟨X + 1, 0, none⟩), .pointer (some ⟨X + 2 + 1, 0, none⟩), .pointer (some ⟨X + 2 + 1 + 1, 0, none⟩)])
  simp only [List.setIfInBounds_toArray, List.set_cons_zero] at hB7
  have hMEM : Mem a b X (X + 1) (X + 2 + 1) (X + 2 + 1 + 1) (X + 2) 0 (.func (.func 64) #[] #[.pointer (some ⟨X, 0, none⟩), .pointer (some ⟨X + 1, 0, none⟩), .pointer (some ⟨X + 2 + 1, 0, none⟩), .pointer (some ⟨X + 2 + 1 + 1, 0, none⟩)]) (W5.setCell ⟨X + 2 + 1 + 1, 0, none⟩ (.func (.func 64) #[] #[.pointer (some ⟨X, 0, none⟩), .pointer (some ⟨X + 1, 0, none⟩), .pointer (some ⟨X + 2 + 1, 0, none⟩), .pointer (some ⟨X + 2 + 1 + 1, 0, none⟩)])) :=
    ⟨(hB25.grown hp (by intro e; injection e with e; omega)).cell 0, (hB35.grown hp (by intro e; injection e with e; omega)).cell 0, (hB55.grown hp (by intro e; injection e with e; omega)).cell 0, hB7.cell 0, hM5.kept hp (by intro e; injection e with e; omega)⟩
  have hG6 : w.grownBy (W5.setCell ⟨X + 2 + 1 + 1, 0, none⟩ (.func (.func 64) #[] #[.pointer (some ⟨X, 0, none⟩), .pointer (some ⟨X + 1, 0, none⟩), .pointer (some ⟨X + 2 + 1, 0, none⟩), .pointer (some ⟨X + 2 + 1 + 1, 0, none⟩)])) none := gr_put (p := (⟨X + 2 + 1 + 1, 0, none⟩ : Addr)) hG5 (.inr (by rw [HX.out]; show X ≤ X + 2 + 1 + 1; omega)) _
  clear hB25 hB35 hB55 hB6 hM5 hG5 hp hB7 hs4 hmm
  go_upto_region 4 with fail
  generalize W5.setCell ⟨X + 2 + 1 + 1, 0, none⟩ (.func (.func 64) #[] #[.pointer (some ⟨X, 0, none⟩), .pointer (some ⟨X + 1, 0, none⟩), .pointer (some ⟨X + 2 + 1, 0, none⟩), .pointer (some ⟨X + 2 + 1 + 1, 0, none⟩)]) = W6 at *
  have c6 := hMEM.cf
  have HCALL := Lib.hid (btw_any a b X (X + 1) (X + 2 + 1) (X + 2 + 1 + 1) (X + 2) (by omega) (by omega) (by omega) (by omega) ha hb _ 0 0 0 W6 (Nat.zero_le _) (Nat.zero_le _) rfl (by
    have h1 := tM_mono (show (a.size - 0) + (b.size - 0) ≤ 28 by omega)
    have h2 := tM_28
    omega) hMEM)
  unfold BtwPost at HCALL
  rw [sfx_00] at HCALL
  clear hMEM d6 f6
  go_wp2_with fail
  refine HCALL.out.mono ?_
  rintro _ w7 ⟨rfl, _, hg7⟩
  go_wp2_with fail
  go_ret
  exact ⟨rfl, gr_grown hG6 hg7 (fun g e => by injection e with e; exact .inr (by have := HX.out; omega))⟩
end Go.Proofs.YtlodmkdhlmineaaGreatDoor
