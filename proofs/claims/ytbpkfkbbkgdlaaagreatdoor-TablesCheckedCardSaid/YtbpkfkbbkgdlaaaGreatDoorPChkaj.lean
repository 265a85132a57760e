/- The walks over the reference's counts and leads. Condition: a list of entities lies in memory. -/
import Derived.Test.YtbpkfkbbkgdlaaaGreatDoorPChkah
import Derived.Test.YtbpkfkbbkgdlaaaGreatDoorPChkai
namespace Go.Proofs.YtbpkfkbbkgdlaaaGreatDoor
open Go.RowKit
set_option linter.unusedVariables false
set_option linter.unusedSimpArgs false

/-- Whether a prefix counts at a moment. -/
def cntB (l : List Ent) (x : Pfx) (t : Int) : Bool := hasB x.a x.z t && hasB (entD l x.ent).a (entD l x.ent).z t
theorem cntB_tm (l : List Ent) (x : Pfx) (t : Int) : hasB (tmA l x) (tmZ l x) t = cntB l x t := by
 unfold cntB tmA tmZ hasB
 rw [← Bool.decide_and, decide_eq_decide]
 omega
set_option maxRecDepth 100000 in
set_option maxHeartbeats 4000000 in
theorem counts_any (base : Nat) (u : Value) (l : List Ent) (B N : ByteArray) (xa xz Z t : Int) (H : Bool) (w : World) (hl : EntsFrom base w u l) (hbig : l.length ≤ 1000000) :
 Calls Tryz.prog 69 #[u, .agg #[.string B, .string N, .int .i64 xa, .int .i64 xz, .bool H, .int .i64 Z], .int .i64 t] w fun r w' => r = .returned (.bool (cntB l ⟨B, N, xa, xz, H, Z⟩ t)) ∧ w.grownBy w' none := by
 have hB := Blk.new w 72 #[.string B, .string N, .int .i64 xa, .int .i64 xz, .bool H, .int .i64 Z]
 have hg0 := World.grownBy_alloc w (.cells #[.string B, .string N, .int .i64 xa, .int .i64 xz, .bool H, .int .i64 Z] 72) none
 have hEA := entityOf_any base u l N _ (hl.grown hg0) hbig
 rw [show (entOf l N).getD entZ = entD l N from rfl] at hEA
 have hR : cntB l ⟨B, N, xa, xz, H, Z⟩ t = (hasB xa xz t && hasB (entD l N).a (entD l N).z t) := rfl
 obtain ⟨e, he⟩ : ∃ e, entD l N = e := ⟨_, rfl⟩
 rw [he] at hEA hR
 rw [show entAgg e = .agg #[.string e.key, .int .i64 e.cont, .int .i64 e.zone, .int .i64 e.a, .int .i64 e.z] from rfl] at hEA
 generalize (entOf l N).isSome = FS at *
 generalize e.key = EK at *
 generalize e.cont = EC at *
 generalize e.zone = EZ at *
 generalize e.a = ea at *
 generalize e.z = ez at *
 obtain ⟨R, hRR⟩ : ∃ R, cntB l ⟨B, N, xa, xz, H, Z⟩ t = R := ⟨_, rfl⟩
 rw [hRR] at hR ⊢
 have HEA := Lib.hid hEA
 have HI1 := Lib.hid (fun W => inside_any xa xz t W)
 have HI2 := Lib.hid (fun W => inside_any ea ez t W)
 generalize hasB xa xz t = b1 at *
 generalize hasB ea ez t = b2 at *
 have HR := Lib.hid hR
 clear hEA he hR hRR hl
 go_enter Tryz.func69, Tryz.ntmps69
 go_upto_region 1 with fail
 generalize w.alloc (.cells #[.string B, .string N, .int .i64 xa, .int .i64 xz, .bool H, .int .i64 Z] 72) = w1 at *
 have k1 := hB.cell 1
 simp only [List.getElem?_toArray, List.getElem?_cons_zero, List.getElem?_cons_succ] at k1
 go_wp2_with fail
 refine HEA.out.mono ?_
 rintro _ w2 ⟨rfl, hg2⟩
 have hX := Blk.new w2 77 #[.string EK, .int .i64 EC, .int .i64 EZ, .int .i64 ea, .int .i64 ez]
 have hB3 := (hB.grown hg2 (by simp)).alloc (.cells #[.string EK, .int .i64 EC, .int .i64 EZ, .int .i64 ea, .int .i64 ez] 77)
 have hg3 := gr_alloc (gr_trans hg0 hg2) (.cells #[.string EK, .int .i64 EC, .int .i64 EZ, .int .i64 ea, .int .i64 ez] 77)
 clear k1
 go_upto_region 2 with fail
 generalize w2.alloc (.cells #[.string EK, .int .i64 EC, .int .i64 EZ, .int .i64 ea, .int .i64 ez] 77) = w3 at *
 have k2 := Blk.cell hB3 2
 have k3 := Blk.cell hB3 3
 simp only [List.getElem?_toArray, List.getElem?_cons_zero, List.getElem?_cons_succ] at k2 k3
 go_wp2_with fail
 refine (HI1.out _).mono ?_
 rintro _ w4 ⟨rfl, hg4⟩
 have hX4 := Blk.grown hX hg4 (by simp)
 have x3 := Blk.cell hX4 3
 have x4 := Blk.cell hX4 4
 simp only [List.getElem?_toArray, List.getElem?_cons_zero, List.getElem?_cons_succ] at x3 x4
 cases b1
 ·go_wp2_with fail
  go_ret
  exact ⟨ret_b (by rw [HR.out]; rfl), gr_trans hg3 hg4⟩
 ·go_wp2_with fail
  refine (HI2.out _).mono ?_
  rintro _ w5 ⟨rfl, hg5⟩
  go_wp2_with fail
  go_ret
  exact ⟨ret_b (by rw [HR.out]; rfl), gr_trans (gr_trans hg3 hg4) hg5⟩
set_option maxRecDepth 100000 in
set_option maxHeartbeats 4000000 in
theorem leads_any (base : Nat) (u : Value) (l : List Ent) (B N : ByteArray) (xa xz Z : Int) (H : Bool) (w : World) (hl : EntsFrom base w u l) (hbig : l.length ≤ 1000000) :
 Calls Tryz.prog 70 #[u, .agg #[.string B, .string N, .int .i64 xa, .int .i64 xz, .bool H, .int .i64 Z]] w fun r w' => r = .returned (.agg #[.string (entD l N).key, .int .i64 (entD l N).cont, .int .i64 (fndZ l ⟨B, N, xa, xz, H, Z⟩)]) ∧ w.grownBy w' none := by
 have hB := (Blk.new w 72 #[.string B, .string N, .int .i64 xa, .int .i64 xz, .bool H, .int .i64 Z]).alloc (.cells #[.string ⟨#[]⟩, .int .i64 0, .int .i64 0] 38)
 have hR := Blk.new (w.alloc (.cells #[.string B, .string N, .int .i64 xa, .int .i64 xz, .bool H, .int .i64 Z] 72)) 38 #[.string ⟨#[]⟩, .int .i64 0, .int .i64 0]
 rw [World.size_alloc] at hR
 have hg0 := gr_alloc (World.grownBy_alloc w (.cells #[.string B, .string N, .int .i64 xa, .int .i64 xz, .bool H, .int .i64 Z] 72) none) (.cells #[.string ⟨#[]⟩, .int .i64 0, .int .i64 0] 38)
 have hEA := entityOf_any base u l N _ (hl.grown hg0) hbig
 rw [show (entOf l N).getD entZ = entD l N from rfl] at hEA
 have hZ : fndZ l ⟨B, N, xa, xz, H, Z⟩ = if Z ≠ 0 then Z else (entD l N).zone := rfl
 obtain ⟨e, he⟩ : ∃ e, entD l N = e := ⟨_, rfl⟩
 rw [he] at hEA hZ ⊢
 rw [show entAgg e = .agg #[.string e.key, .int .i64 e.cont, .int .i64 e.zone, .int .i64 e.a, .int .i64 e.z] from rfl] at hEA
 generalize (entOf l N).isSome = FS at *
 generalize e.key = EK at *
 generalize e.cont = EC at *
 generalize e.zone = EZ at *
 generalize e.a = ea at *
 generalize e.z = ez at *
 obtain ⟨R, hRR⟩ : ∃ R, fndZ l ⟨B, N, xa, xz, H, Z⟩ = R := ⟨_, rfl⟩
 rw [hRR] at hZ ⊢
 have HEA := Lib.hid hEA
 have HZ := Lib.hid hZ
 clear hEA he hZ hRR hl
 go_enter Tryz.func70, Tryz.ntmps70
 go_upto_region 1 with fail
 generalize (w.alloc (.cells #[.string B, .string N, .int .i64 xa, .int .i64 xz, .bool H, .int .i64 Z] 72)).alloc (.cells #[.string ⟨#[]⟩, .int .i64 0, .int .i64 0] 38) = w1 at *
 obtain ⟨gX, hgX⟩ : ∃ x, w.heap.size = x := ⟨_, rfl⟩
 rw [hgX] at hB hR ⊢
 obtain ⟨gR, hgR⟩ : ∃ x, gX + 1 = x := ⟨_, rfl⟩
 rw [hgR] at hR ⊢
 have HW : Hid (w.heap.size ≤ gR) := by show _ ≤ _; omega
 clear hgR hgX
 have k1 := hB.cell 1
 simp only [List.getElem?_toArray, List.getElem?_cons_zero, List.getElem?_cons_succ] at k1
 go_wp2_with fail
 refine HEA.out.mono ?_
 rintro _ w2 ⟨rfl, hg2⟩
 have hX := Blk.new w2 77 #[.string EK, .int .i64 EC, .int .i64 EZ, .int .i64 ea, .int .i64 ez]
 have hB3 := (hB.grown hg2 (by simp)).alloc (.cells #[.string EK, .int .i64 EC, .int .i64 EZ, .int .i64 ea, .int .i64 ez] 77)
 have hR3 := (hR.grown hg2 (by simp)).alloc (.cells #[.string EK, .int .i64 EC, .int .i64 EZ, .int .i64 ea, .int .i64 ez] 77)
 have hg3 := gr_alloc (gr_trans hg0 hg2) (.cells #[.string EK, .int .i64 EC, .int .i64 EZ, .int .i64 ea, .int .i64 ez] 77)
 clear k1
 go_upto_region 2 with fail
 generalize w2.alloc (.cells #[.string EK, .int .i64 EC, .int .i64 EZ, .int .i64 ea, .int .i64 ez] 77) = w3 at *
 generalize w2.heap.size = gE at *
 have k5 := Blk.cell hB3 5
 have x0 := Blk.cell hX 0
 have x1 := Blk.cell hX 1
 have x2 := Blk.cell hX 2
 have r0 := Blk.cell hR3 0
 have r1 := Blk.cell hR3 1
 have r2 := Blk.cell hR3 2
 have rf := Blk.free hR3
 simp only [List.getElem?_toArray, List.getElem?_cons_zero, List.getElem?_cons_succ] at k5 x0 x1 x2 r0 r1 r2
 have hfin : ∀ V : Int, (∃ e0 : (((w3.setCell ⟨gR, 0, none⟩ (.string EK)).setCell ⟨gR, 1, none⟩ (.int .i64 EC)).setCell ⟨gR, 2, none⟩ (.int .i64 V)).cell? ⟨gR, 0, none⟩ = some (.string EK), ∃ e1 : (((w3.setCell ⟨gR, 0, none⟩ (.string EK)).setCell ⟨gR, 1, none⟩ (.int .i64 EC)).setCell ⟨gR, 2, none⟩ (.int .i64 V)).cell? ⟨gR, 1, none⟩ = some (.int .i64 EC), (((w3.setCell ⟨gR, 0, none⟩ (.string EK)).setCell ⟨gR, 1, none⟩ (.int .i64 EC)).setCell ⟨gR, 2, none⟩ (.int .i64 V)).cell? ⟨gR, 2, none⟩ = some (.int .i64 V)) := fun V => by
  have hf := ((Blk.put hR3 0 (.string EK)).put 1 (.int .i64 EC)).put 2 (.int .i64 V)
  simp only [List.setIfInBounds_toArray, List.set_cons_zero, List.set_cons_succ] at hf
  exact ⟨hf.cell 0, hf.cell 1, hf.cell 2⟩
 have HF := Lib.hid hfin
 clear hfin
 by_cases hz : Z = 0
 ·have hzb : (Z == 0) = true := by simpa using hz
  have hV : EZ = R := by have := HZ.out; rw [if_neg (by simpa using hz)] at this; exact this.symm
  subst hV
  go_wp2_with fail
  obtain ⟨e0, e1, e2⟩ := HF.out EZ
  refine bodyPost_ret (v := .agg #[.string EK, .int .i64 EC, .int .i64 EZ]) (by simp [results, Tryz.results70, go_sem, e0, e1, e2]) rfl ?_
  exact ⟨rfl, gr_put (p := ⟨gR, 2, none⟩) (gr_put (p := ⟨gR, 1, none⟩) (gr_put (p := ⟨gR, 0, none⟩) hg3 (.inr HW.out) (.string EK)) (.inr HW.out) (.int .i64 EC)) (.inr HW.out) (.int .i64 EZ)⟩
 ·have hzb : (Z == 0) = false := by simpa using hz
  have hV : Z = R := by have := HZ.out; rw [if_pos hz] at this; exact this.symm
  subst hV
  go_wp2_with fail
  obtain ⟨e0, e1, e2⟩ := HF.out Z
  refine bodyPost_ret (v := .agg #[.string EK, .int .i64 EC, .int .i64 Z]) (by simp [results, Tryz.results70, go_sem, e0, e1, e2]) rfl ?_
  exact ⟨rfl, gr_put (p := ⟨gR, 2, none⟩) (gr_put (p := ⟨gR, 1, none⟩) (gr_put (p := ⟨gR, 0, none⟩) hg3 (.inr HW.out) (.string EK)) (.inr HW.out) (.int .i64 EC)) (.inr HW.out) (.int .i64 Z)⟩
end Go.Proofs.YtbpkfkbbkgdlaaaGreatDoor
