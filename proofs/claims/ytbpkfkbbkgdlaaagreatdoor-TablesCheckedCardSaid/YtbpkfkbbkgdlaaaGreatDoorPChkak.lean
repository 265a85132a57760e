/- The walk over the reference's longest. Condition: a table lies in memory. -/
import Derived.Test.YtbpkfkbbkgdlaaaGreatDoorPChkaj
import Derived.Test.YtbpkfkbbkgdlaaaGreatDoorPChkaa
namespace Go.Proofs.YtbpkfkbbkgdlaaaGreatDoor
open Go.RowKit
set_option linter.unusedVariables false
set_option linter.unusedSimpArgs false

/-- Whether a prefix, that is not left out, begins a place and counts. -/
def lngB (l : List Ent) (place : ByteArray) (t but : Int) (k : Nat) (x : Pfx) : Bool := decide ((k : Int) ≠ but) && (!x.whole && (cntB l x t && Lib.hasPrefix place.data.toList x.beg.data.toList))
def begN (p : List Pfx) (b : Int) : Nat := match p[b.toNat]? with | none => 0 | some y => y.beg.size
/-- The reference's longest, over so many prefixes. -/
def lngTo (l : List Ent) (p : List Pfx) (place : ByteArray) (t but : Int) : Nat → Int
 | 0 => -1
 | k + 1 => match p[k]? with
   | none => lngTo l p place t but k
   | some x => if lngB l place t but k x && (decide (lngTo l p place t but k < 0) || decide (begN p (lngTo l p place t but k) < x.beg.size)) then (k : Int) else lngTo l p place t but k
theorem lngTo_bd (l : List Ent) (p : List Pfx) (place : ByteArray) (t but : Int) : ∀ k : Nat, -1 ≤ lngTo l p place t but k ∧ lngTo l p place t but k < k
 | 0 => by unfold lngTo; omega
 | k + 1 => by
   have ih := lngTo_bd l p place t but k
   unfold lngTo
   split
   ·omega
   ·split <;> omega
theorem lngTo_step (l : List Ent) (p : List Pfx) (place : ByteArray) (t but : Int) (k : Nat) (h : k < p.length) : lngTo l p place t but (k + 1) = if lngB l place t but k p[k] && (decide (lngTo l p place t but k < 0) || decide (begN p (lngTo l p place t but k) < p[k].beg.size)) then (k : Int) else lngTo l p place t but k := by
 show (match p[k]? with | none => _ | some x => _) = _
 rw [List.getElem?_eq_getElem h]
set_option maxRecDepth 100000 in
set_option maxHeartbeats 16000000 in
theorem refLongest_any (base : Nat) (u v : Value) (l : List Ent) (p : List Pfx) (place : ByteArray) (t but : Int) (w : World) (hl : EntsFrom base w u l) (hbig : l.length ≤ 1000000) (hp : PfxsFrom base w v p) (hpb : p.length ≤ 1000000) (hsm : ∀ x ∈ p, PfxSm x) :
 Calls Tryz.prog 72 #[u, v, .string place, .int .i64 t, .int .i64 but] w fun r w' => r = .returned (.int .i64 (lngTo l p place t but p.length)) ∧ w.grownBy w' none := by
 obtain ⟨A, c, rfl, hlen, hA⟩ := hp.shape
 have HP := Lib.hid hp
 have HL := Lib.hid hl
 have HA := Lib.hid hA
 clear hp hl hA
 go_enter Tryz.func72, Tryz.ntmps72
 go_wp2_with fail
 go_loopw [11, 16] (fun bv iv wr => ∃ (k : Nat) (b : Int), k ≤ p.length ∧ iv = .int .i64 k ∧ bv = .int .i64 b ∧ Hid (lngTo l p place t but k = b) ∧ w.grownBy wr none) (fun _ iv _ => p.length - (intOf iv).toNat)
 case atStart => exact ⟨0, -1, by omega, rfl, rfl, rfl, gr_refl _ _⟩
 case round =>
  obtain ⟨k, b, hk, rfl, rfl, HB, hg⟩ := hrel
  by_cases hlt : k < p.length
  ·have hki : (k : Int) < (p.length : Int) := by omega
   obtain ⟨g, rfl, _, hgl⟩ := HA.out (by omega)
   obtain ⟨q0, q1, q2, q3, q4, q5⟩ := (HP.out.grown hg).at_ k hlt
   have hst := lngTo_step l p place t but k hlt
   rw [HB.out] at hst
   have hbd := lngTo_bd l p place t but k
   rw [HB.out] at hbd
   obtain ⟨s1, s2, _⟩ := hsm _ (List.getElem_mem hlt)
   have HBC : Hid (∀ n : Nat, b = n → ∃ Y : ByteArray, begN p b = Y.size ∧ Y.size ≤ 1000000000 ∧ n < p.length ∧ wr.cell? ⟨g, n * 6, none⟩ = some (.string Y)) := fun n hn => by
    have hnl : n < p.length := by omega
    refine ⟨p[n].beg, ?_, (hsm _ (List.getElem_mem hnl)).1, hnl, ((HP.out.grown hg).at_ n hnl).1⟩
    unfold begN
    rw [hn, Int.toNat_natCast, List.getElem?_eq_getElem hnl]
   have hlb : lngB l place t but k p[k] = (decide ((k : Int) ≠ but) && (!p[k].whole && (cntB l p[k] t && Lib.hasPrefix place.data.toList p[k].beg.data.toList))) := rfl
   rw [hlb] at hst
   have HCN : Hid (∀ W, w.grownBy W none → Calls Tryz.prog 69 #[u, .agg #[.string p[k].beg, .string p[k].ent, .int .i64 p[k].a, .int .i64 p[k].z, .bool p[k].whole, .int .i64 p[k].zone], .int .i64 t] W fun r w' => r = .returned (.bool (cntB l p[k] t)) ∧ W.grownBy w' none) := fun W hW => counts_any base u l p[k].beg p[k].ent p[k].a p[k].z p[k].zone t p[k].whole W (HL.out.grown hW) hbig
   have HHP : Hid (∀ W, Calls Tryz.prog 123 #[.string place, .string p[k].beg] W fun e w' => e = .returned (.bool (Lib.hasPrefix place.data.toList p[k].beg.data.toList)) ∧ W = w') := fun W => (Tryz.strings_HasPrefix place p[k].beg W).mono fun e w' ⟨h1, h2⟩ => ⟨h1, h2.symm⟩
   generalize cntB l p[k] t = CB at *
   generalize Lib.hasPrefix place.data.toList p[k].beg.data.toList = PB at *
   generalize p[k].beg = B at *
   generalize p[k].ent = N at *
   generalize p[k].a = xa at *
   generalize p[k].z = xz at *
   generalize p[k].whole = H at *
   generalize p[k].zone = Z at *
   generalize begN p b = BN at *
   obtain ⟨R, hR⟩ : ∃ R, ((decide ((k : Int) ≠ but) && (!H && (CB && PB))) && (decide (b < 0) || decide (BN < B.size))) = R := ⟨_, rfl⟩
   rw [hR] at hst
   have HST := Lib.hid hst
   have HR := Lib.hid hR
   have hgs := hg.size
   have hglr : g < wr.heap.size := by omega
   have hB := Blk.new wr 72 #[.string B, .string N, .int .i64 xa, .int .i64 xz, .bool H, .int .i64 Z]
   have hgA := World.grownBy_alloc wr (.cells #[.string B, .string N, .int .i64 xa, .int .i64 xz, .bool H, .int .i64 Z] 72) none
   have hg1 := gr_trans hg hgA
   clear hst hR hlb
   go_upto_region 5 with fail
   generalize wr.alloc (.cells #[.string B, .string N, .int .i64 xa, .int .i64 xz, .bool H, .int .i64 Z] 72) = w1 at *
   generalize wr.heap.size = gX at *
   clear q0 q1 q2 q3 q4 q5
   go_cut [56] (fun s wq => s = .bool R ∧ w1.grownBy wq none)
   case first =>
    as_aux_lemma =>
     have KX : Hid (∀ V : World, w1.grownBy V none → (V.cell? ⟨gX, 0, none⟩ = some (.string B) ∧ V.cell? ⟨gX, 1, none⟩ = some (.string N) ∧ V.cell? ⟨gX, 2, none⟩ = some (.int .i64 xa) ∧ V.cell? ⟨gX, 3, none⟩ = some (.int .i64 xz) ∧ V.cell? ⟨gX, 4, none⟩ = some (.bool H) ∧ V.cell? ⟨gX, 5, none⟩ = some (.int .i64 Z))) := fun V hV =>
      ⟨(hB.grown hV (by simp)).cell 0, (hB.grown hV (by simp)).cell 1, (hB.grown hV (by simp)).cell 2, (hB.grown hV (by simp)).cell 3, (hB.grown hV (by simp)).cell 4, (hB.grown hV (by simp)).cell 5⟩
     by_cases hkb : (k : Int) = but
     ·have f1 : ((k : Int) != but) = false := by simpa using hkb
      have hRf : R = false := by rw [← HR.out]; simp [hkb]
      subst hRf
      clear hkb
      go_wp2_with fail
      refine wp_region_held_drew (S := fun V => V.cell? ⟨gX, 0, none⟩ = some (.string B) ∧ V.cell? ⟨gX, 1, none⟩ = some (.string N) ∧ V.cell? ⟨gX, 2, none⟩ = some (.int .i64 xa) ∧ V.cell? ⟨gX, 3, none⟩ = some (.int .i64 xz) ∧ V.cell? ⟨gX, 4, none⟩ = some (.bool H) ∧ V.cell? ⟨gX, 5, none⟩ = some (.int .i64 Z)) (by kernel_rfl) (KX.out _ (gr_drew (gr_refl _ _))) (fun hHeld => ?_)
      refine wpAnyH_take (i := 0) (v := ?_) rfl (by kernel_rfl) (by kernel_rfl) (by kernel_rfl) (fun _ _ _ h => h) (Or.inl ⟨by kernel_rfl, ?_⟩) hHeld ?_
      rotate_left
      ·intro w hSw
       (try dsimp only at hSw)
       obtain ⟨hS0, hS1, hS2, hS3, hS4, hS5⟩ := hSw
       go_simp
       (try with_reducible rfl)
      change wpAnyH _ _ _ _ _ _ _ (Act.put _ (some 21) _) _
      simp only [Act.put, ssA, ssZ, ssS]
      refine wpAnyH_take (i := 1) (v := ?_) rfl (by kernel_rfl) (by kernel_rfl) (by kernel_rfl) (fun _ _ _ h => h) (Or.inl ⟨by kernel_rfl, ?_⟩) hHeld ?_
      rotate_left
      ·intro w hSw
       (try dsimp only at hSw)
       obtain ⟨hS0, hS1, hS2, hS3, hS4, hS5⟩ := hSw
       go_simp
       (try with_reducible rfl)
      change wpAnyH _ _ _ _ _ _ _ (Act.put _ (some 22) _) _
      simp only [Act.put, ssA, ssZ, ssS]
      refine wpAnyH_take (i := 2) (v := ?_) rfl (by kernel_rfl) (by kernel_rfl) (by kernel_rfl) (fun _ _ _ h => h) (Or.inl ⟨by kernel_rfl, ?_⟩) hHeld ?_
      rotate_left
      ·intro w hSw
       (try dsimp only at hSw)
       obtain ⟨hS0, hS1, hS2, hS3, hS4, hS5⟩ := hSw
       go_simp
       (try with_reducible rfl)
      change wpAnyH _ _ _ _ _ _ _ (Act.put _ (some 23) _) _
      simp only [Act.put, ssA, ssZ, ssS]
      refine wpAnyH_take (i := 3) (v := ?_) rfl (by kernel_rfl) (by kernel_rfl) (by kernel_rfl) (fun _ _ _ h => h) (Or.inl ⟨by kernel_rfl, ?_⟩) hHeld ?_
      rotate_left
      ·intro w hSw
       (try dsimp only at hSw)
       obtain ⟨hS0, hS1, hS2, hS3, hS4, hS5⟩ := hSw
       go_simp
       (try with_reducible rfl)
      change wpAnyH _ _ _ _ _ _ _ (Act.put _ (some 24) _) _
      simp only [Act.put, ssA, ssZ, ssS]
      refine wpAnyH_take (i := 4) (v := undef) rfl (by kernel_rfl) (by kernel_rfl) (by kernel_rfl) (fun _ _ _ h => h) (Or.inr ⟨by kernel_rfl, rfl⟩) hHeld ?_
      change wpAnyH _ _ _ _ _ _ _ (Act.put _ (some 25) _) _
      simp only [Act.put, ssA, ssZ, ssS]
      refine wpAnyH_take (i := 5) (v := undef) rfl (by kernel_rfl) (by kernel_rfl) (by kernel_rfl) (fun _ _ _ h => h) (Or.inr ⟨by kernel_rfl, rfl⟩) hHeld ?_
      change wpAnyH _ _ _ _ _ _ _ (Act.put _ (some 26) _) _
      simp only [Act.put, ssA, ssZ, ssS]
      refine wpAnyH_take (i := 6) (v := undef) rfl (by kernel_rfl) (by kernel_rfl) (by kernel_rfl) (fun _ _ _ h => h) (Or.inr ⟨by kernel_rfl, rfl⟩) hHeld ?_
      change wpAnyH _ _ _ _ _ _ _ (Act.put _ (some 27) _) _
      simp only [Act.put, ssA, ssZ, ssS]
      refine wpAnyH_take (i := 7) (v := ?_) rfl (by kernel_rfl) (by kernel_rfl) (by kernel_rfl) (fun _ _ _ h => h) (Or.inl ⟨by kernel_rfl, ?_⟩) hHeld ?_
      rotate_left
      ·intro w hSw
       (try dsimp only at hSw)
       obtain ⟨hS0, hS1, hS2, hS3, hS4, hS5⟩ := hSw
       go_simp
       (try with_reducible rfl)
      change wpAnyH _ _ _ _ _ _ _ (Act.put _ (some 28) _) _
      simp only [Act.put, ssA, ssZ, ssS]
      refine wpAnyH_take (i := 8) (v := ?_) rfl (by kernel_rfl) (by kernel_rfl) (by kernel_rfl) (fun _ _ _ h => h) (Or.inl ⟨by kernel_rfl, ?_⟩) hHeld ?_
      rotate_left
      ·intro w hSw
       (try dsimp only at hSw)
       obtain ⟨hS0, hS1, hS2, hS3, hS4, hS5⟩ := hSw
       go_simp
       (try with_reducible rfl)
      change wpAnyH _ _ _ _ _ _ _ (Act.put _ (some 29) _) _
      simp only [Act.put, ssA, ssZ, ssS]
      refine wpAnyH_take (i := 9) (v := undef) rfl (by kernel_rfl) (by kernel_rfl) (by kernel_rfl) (fun _ _ _ h => h) (Or.inr ⟨by kernel_rfl, rfl⟩) hHeld ?_
      change wpAnyH _ _ _ _ _ _ _ (Act.put _ (some 30) _) _
      simp only [Act.put, ssA, ssZ, ssS]
      refine wpAnyH_take (i := 10) (v := undef) rfl (by kernel_rfl) (by kernel_rfl) (by kernel_rfl) (fun _ _ _ h => h) (Or.inr ⟨by kernel_rfl, rfl⟩) hHeld ?_
      change wpAnyH _ _ _ _ _ _ _ (Act.put _ (some 31) _) _
      simp only [Act.put, ssA, ssZ, ssS]
      refine wpAnyH_take (i := 11) (v := undef) rfl (by kernel_rfl) (by kernel_rfl) (by kernel_rfl) (fun _ _ _ h => h) (Or.inr ⟨by kernel_rfl, rfl⟩) hHeld ?_
      change wpAnyH _ _ _ _ _ _ _ (Act.put _ (some 32) _) _
      simp only [Act.put, ssA, ssZ, ssS]
      refine wpAnyH_take (i := 12) (v := undef) rfl (by kernel_rfl) (by kernel_rfl) (by kernel_rfl) (fun _ _ _ h => h) (Or.inr ⟨by kernel_rfl, rfl⟩) hHeld ?_
      change wpAnyH _ _ _ _ _ _ _ (Act.put _ (some 33) _) _
      simp only [Act.put, ssA, ssZ, ssS]
      refine wpAnyH_take (i := 13) (v := ?_) rfl (by kernel_rfl) (by kernel_rfl) (by kernel_rfl) (fun _ _ _ h => h) (Or.inl ⟨by kernel_rfl, ?_⟩) hHeld ?_
      rotate_left
      ·intro w hSw
       (try dsimp only at hSw)
       obtain ⟨hS0, hS1, hS2, hS3, hS4, hS5⟩ := hSw
       go_simp
       (try with_reducible rfl)
      change wpAnyH _ _ _ _ _ _ _ (Act.put _ (some 34) _) _
      simp only [Act.put, ssA, ssZ, ssS]
      refine wpAnyH_take (i := 14) (v := ?_) rfl (by kernel_rfl) (by kernel_rfl) (by kernel_rfl) (fun _ _ _ h => h) (Or.inl ⟨by kernel_rfl, ?_⟩) hHeld ?_
      rotate_left
      ·intro w hSw
       (try dsimp only at hSw)
       obtain ⟨hS0, hS1, hS2, hS3, hS4, hS5⟩ := hSw
       go_simp
       (try with_reducible rfl)
      change wpAnyH _ _ _ _ _ _ _ (Act.put _ (some 35) _) _
      simp only [Act.put, ssA, ssZ, ssS]
      refine wpAnyH_take (i := 15) (v := undef) rfl (by kernel_rfl) (by kernel_rfl) (by kernel_rfl) (fun _ _ _ h => h) (Or.inr ⟨by kernel_rfl, rfl⟩) hHeld ?_
      change wpAnyH _ _ _ _ _ _ _ (Act.put _ (some 36) _) _
      simp only [Act.put, ssA, ssZ, ssS]
      refine wpAnyH_take (i := 16) (v := undef) rfl (by kernel_rfl) (by kernel_rfl) (by kernel_rfl) (fun _ _ _ h => h) (Or.inr ⟨by kernel_rfl, rfl⟩) hHeld ?_
      change wpAnyH _ _ _ _ _ _ _ (Act.put _ (some 37) _) _
      simp only [Act.put, ssA, ssZ, ssS]
      refine wpAnyH_take (i := 17) (v := undef) rfl (by kernel_rfl) (by kernel_rfl) (by kernel_rfl) (fun _ _ _ h => h) (Or.inr ⟨by kernel_rfl, rfl⟩) hHeld ?_
      change wpAnyH _ _ _ _ _ _ _ (Act.put _ (some 38) _) _
      simp only [Act.put, ssA, ssZ, ssS]
      refine wpAnyH_take (i := 18) (v := undef) rfl (by kernel_rfl) (by kernel_rfl) (by kernel_rfl) (fun _ _ _ h => h) (Or.inr ⟨by kernel_rfl, rfl⟩) hHeld ?_
      change wpAnyH _ _ _ _ _ _ _ (Act.put _ (some 39) _) _
      simp only [Act.put, ssA, ssZ, ssS]
      refine wpAnyH_take (i := 19) (v := ?_) rfl (by kernel_rfl) (by kernel_rfl) (by kernel_rfl) (fun _ _ _ h => h) (Or.inl ⟨by kernel_rfl, ?_⟩) hHeld ?_
      rotate_left
      ·intro w hSw
       (try dsimp only at hSw)
       obtain ⟨hS0, hS1, hS2, hS3, hS4, hS5⟩ := hSw
       go_simp
       (try with_reducible rfl)
      change wpAnyH _ _ _ _ _ _ _ (Act.put _ (some 40) _) _
      simp only [Act.put, ssA, ssZ, ssS]
      refine wpAnyH_take (i := 20) (v := ?_) rfl (by kernel_rfl) (by kernel_rfl) (by kernel_rfl) (fun _ _ _ h => h) (Or.inl ⟨by kernel_rfl, ?_⟩) hHeld ?_
      rotate_left
      ·intro w hSw
       (try dsimp only at hSw)
       obtain ⟨hS0, hS1, hS2, hS3, hS4, hS5⟩ := hSw
       go_simp
       (try with_reducible rfl)
      change wpAnyH _ _ _ _ _ _ _ (Act.put _ (some 41) _) _
      simp only [Act.put, ssA, ssZ, ssS]
      refine wpAnyH_take (i := 21) (v := undef) rfl (by kernel_rfl) (by kernel_rfl) (by kernel_rfl) (fun _ _ _ h => h) (Or.inr ⟨by kernel_rfl, rfl⟩) hHeld ?_
      change wpAnyH _ _ _ _ _ _ _ (Act.put _ (some 42) _) _
      simp only [Act.put, ssA, ssZ, ssS]
      refine wpAnyH_take (i := 22) (v := undef) rfl (by kernel_rfl) (by kernel_rfl) (by kernel_rfl) (fun _ _ _ h => h) (Or.inr ⟨by kernel_rfl, rfl⟩) hHeld ?_
      change wpAnyH _ _ _ _ _ _ _ (Act.put _ (some 43) _) _
      simp only [Act.put, ssA, ssZ, ssS]
      refine wpAnyH_take (i := 23) (v := undef) rfl (by kernel_rfl) (by kernel_rfl) (by kernel_rfl) (fun _ _ _ h => h) (Or.inr ⟨by kernel_rfl, rfl⟩) hHeld ?_
      change wpAnyH _ _ _ _ _ _ _ (Act.put _ (some 44) _) _
      simp only [Act.put, ssA, ssZ, ssS]
      refine wpAnyH_take (i := 24) (v := undef) rfl (by kernel_rfl) (by kernel_rfl) (by kernel_rfl) (fun _ _ _ h => h) (Or.inr ⟨by kernel_rfl, rfl⟩) hHeld ?_
      change wpAnyH _ _ _ _ _ _ _ (Act.put _ (some 45) _) _
      simp only [Act.put, ssA, ssZ, ssS]
      refine wpAnyH_take (i := 25) (v := undef) rfl (by kernel_rfl) (by kernel_rfl) (by kernel_rfl) (fun _ _ _ h => h) (Or.inr ⟨by kernel_rfl, rfl⟩) hHeld ?_
      change wpAnyH _ _ _ _ _ _ _ (Act.put _ (some 46) _) _
      simp only [Act.put, ssA, ssZ, ssS]
      refine wpAnyH_take (i := 26) (v := undef) rfl (by kernel_rfl) (by kernel_rfl) (by kernel_rfl) (fun _ _ _ h => h) (Or.inr ⟨by kernel_rfl, rfl⟩) hHeld ?_
      change wpAnyH _ _ _ _ _ _ _ (Act.put _ (some 47) _) _
      simp only [Act.put, ssA, ssZ, ssS]
      refine wpAnyH_take (i := 27) (v := undef) rfl (by kernel_rfl) (by kernel_rfl) (by kernel_rfl) (fun _ _ _ h => h) (Or.inr ⟨by kernel_rfl, rfl⟩) hHeld ?_
      change wpAnyH _ _ _ _ _ _ _ (Act.put _ (some 48) _) _
      simp only [Act.put, ssA, ssZ, ssS]
      refine wpAnyH_take (i := 28) (v := undef) rfl (by kernel_rfl) (by kernel_rfl) (by kernel_rfl) (fun _ _ _ h => h) (Or.inr ⟨by kernel_rfl, rfl⟩) hHeld ?_
      change wpAnyH _ _ _ _ _ _ _ (Act.put _ (some 49) _) _
      simp only [Act.put, ssA, ssZ, ssS]
      refine wpAnyH_take (i := 29) (v := undef) rfl (by kernel_rfl) (by kernel_rfl) (by kernel_rfl) (fun _ _ _ h => h) (Or.inr ⟨by kernel_rfl, rfl⟩) hHeld ?_
      change wpAnyH _ _ _ _ _ _ _ (Act.put _ (some 50) _) _
      simp only [Act.put, ssA, ssZ, ssS]
      refine wpAnyH_take (i := 30) (v := undef) rfl (by kernel_rfl) (by kernel_rfl) (by kernel_rfl) (fun _ _ _ h => h) (Or.inr ⟨by kernel_rfl, rfl⟩) hHeld ?_
      change wpAnyH _ _ _ _ _ _ _ (Act.put _ (some 51) _) _
      simp only [Act.put, ssA, ssZ, ssS]
      refine wpAnyH_take (i := 31) (v := undef) rfl (by kernel_rfl) (by kernel_rfl) (by kernel_rfl) (fun _ _ _ h => h) (Or.inr ⟨by kernel_rfl, rfl⟩) hHeld ?_
      change wpAnyH _ _ _ _ _ _ _ (Act.put _ (some 52) _) _
      simp only [Act.put, ssA, ssZ, ssS]
      refine wpAnyH_take (i := 32) (v := undef) rfl (by kernel_rfl) (by kernel_rfl) (by kernel_rfl) (fun _ _ _ h => h) (Or.inr ⟨by kernel_rfl, rfl⟩) hHeld ?_
      change wpAnyH _ _ _ _ _ _ _ (Act.put _ (some 53) _) _
      simp only [Act.put, ssA, ssZ, ssS]
      refine wpAnyH_take (i := 33) (v := undef) rfl (by kernel_rfl) (by kernel_rfl) (by kernel_rfl) (fun _ _ _ h => h) (Or.inr ⟨by kernel_rfl, rfl⟩) hHeld ?_
      change wpAnyH _ _ _ _ _ _ _ (Act.put _ (some 54) _) _
      simp only [Act.put, ssA, ssZ, ssS]
      refine wpAnyH_take (i := 34) (v := undef) rfl (by kernel_rfl) (by kernel_rfl) (by kernel_rfl) (fun _ _ _ h => h) (Or.inr ⟨by kernel_rfl, rfl⟩) hHeld ?_
      change wpAnyH _ _ _ _ _ _ _ (Act.put _ (some 55) _) _
      simp only [Act.put, ssA, ssZ, ssS]
      refine wpAnyH_take (i := 35) (v := ?_) rfl (by kernel_rfl) (by kernel_rfl) (by kernel_rfl) (fun _ _ _ h => h) (Or.inl ⟨by kernel_rfl, ?_⟩) hHeld ?_
      rotate_left
      ·intro w hSw
       (try dsimp only at hSw)
       obtain ⟨hS0, hS1, hS2, hS3, hS4, hS5⟩ := hSw
       go_simp
       (try with_reducible rfl)
      change wpAnyH _ _ _ _ _ _ _ (Act.put _ (some 56) _) _
      simp only [Act.put, ssA, ssZ, ssS]
      refine wpAnyH_done (by kernel_rfl) ?_ _
      go_wp2_with fail
      go_meet
      exact ⟨rfl, gr_drew (gr_refl _ _)⟩
     ·have f1 : ((k : Int) != but) = true := by simpa using hkb
      cases H
      ·cases CB
       ·have hRf : R = false := by rw [← HR.out]; simp
        subst hRf
        clear hkb
        go_wp2_with fail
        refine wp_region_held_drew (S := fun V => V.cell? ⟨gX, 0, none⟩ = some (.string B) ∧ V.cell? ⟨gX, 1, none⟩ = some (.string N) ∧ V.cell? ⟨gX, 2, none⟩ = some (.int .i64 xa) ∧ V.cell? ⟨gX, 3, none⟩ = some (.int .i64 xz) ∧ V.cell? ⟨gX, 4, none⟩ = some (.bool false) ∧ V.cell? ⟨gX, 5, none⟩ = some (.int .i64 Z)) (by kernel_rfl) (KX.out _ (gr_drew (gr_refl _ _))) (fun hHeld => ?_)
        refine wpAnyH_take (i := 0) (v := ?_) rfl (by kernel_rfl) (by kernel_rfl) (by kernel_rfl) (fun _ _ _ h => h) (Or.inl ⟨by kernel_rfl, ?_⟩) hHeld ?_
        rotate_left
        ·intro w hSw
         (try dsimp only at hSw)
         obtain ⟨hS0, hS1, hS2, hS3, hS4, hS5⟩ := hSw
         go_simp
         (try with_reducible rfl)
        change wpAnyH _ _ _ _ _ _ _ (Act.put _ (some 21) _) _
        simp only [Act.put, ssA, ssZ, ssS]
        refine wpAnyH_take (i := 1) (v := ?_) rfl (by kernel_rfl) (by kernel_rfl) (by kernel_rfl) (fun _ _ _ h => h) (Or.inl ⟨by kernel_rfl, ?_⟩) hHeld ?_
        rotate_left
        ·intro w hSw
         (try dsimp only at hSw)
         obtain ⟨hS0, hS1, hS2, hS3, hS4, hS5⟩ := hSw
         go_simp
         (try with_reducible rfl)
        change wpAnyH _ _ _ _ _ _ _ (Act.put _ (some 22) _) _
        simp only [Act.put, ssA, ssZ, ssS]
        refine wpAnyH_take (i := 2) (v := ?_) rfl (by kernel_rfl) (by kernel_rfl) (by kernel_rfl) (fun _ _ _ h => h) (Or.inl ⟨by kernel_rfl, ?_⟩) hHeld ?_
        rotate_left
        ·intro w hSw
         (try dsimp only at hSw)
         obtain ⟨hS0, hS1, hS2, hS3, hS4, hS5⟩ := hSw
         go_simp
         (try with_reducible rfl)
        change wpAnyH _ _ _ _ _ _ _ (Act.put _ (some 23) _) _
        simp only [Act.put, ssA, ssZ, ssS]
        refine wpAnyH_take (i := 3) (v := ?_) rfl (by kernel_rfl) (by kernel_rfl) (by kernel_rfl) (fun _ _ _ h => h) (Or.inl ⟨by kernel_rfl, ?_⟩) hHeld ?_
        rotate_left
        ·intro w hSw
         (try dsimp only at hSw)
         obtain ⟨hS0, hS1, hS2, hS3, hS4, hS5⟩ := hSw
         go_simp
         (try with_reducible rfl)
        change wpAnyH _ _ _ _ _ _ _ (Act.put _ (some 24) _) _
        simp only [Act.put, ssA, ssZ, ssS]
        refine wpAnyH_take (i := 4) (v := ?_) rfl (by kernel_rfl) (by kernel_rfl) (by kernel_rfl) (fun _ _ _ h => h) (Or.inl ⟨by kernel_rfl, ?_⟩) hHeld ?_
        rotate_left
        ·intro w hSw
         (try dsimp only at hSw)
         obtain ⟨hS0, hS1, hS2, hS3, hS4, hS5⟩ := hSw
         go_simp
         (try with_reducible rfl)
        change wpAnyH _ _ _ _ _ _ _ (Act.put _ (some 25) _) _
        simp only [Act.put, ssA, ssZ, ssS]
        refine wpAnyH_take (i := 5) (v := ?_) rfl (by kernel_rfl) (by kernel_rfl) (by kernel_rfl) (fun _ _ _ h => h) (Or.inl ⟨by kernel_rfl, ?_⟩) hHeld ?_
        rotate_left
        ·intro w hSw
         (try dsimp only at hSw)
         obtain ⟨hS0, hS1, hS2, hS3, hS4, hS5⟩ := hSw
         go_simp
         (try with_reducible rfl)
        change wpAnyH _ _ _ _ _ _ _ (Act.put _ (some 26) _) _
        simp only [Act.put, ssA, ssZ, ssS]
        refine wpAnyH_take (i := 6) (v := ?_) rfl (by kernel_rfl) (by kernel_rfl) (by kernel_rfl) (fun _ _ _ h => h) (Or.inl ⟨by kernel_rfl, ?_⟩) hHeld ?_
        rotate_left
        ·intro w hSw
         (try dsimp only at hSw)
         obtain ⟨hS0, hS1, hS2, hS3, hS4, hS5⟩ := hSw
         go_simp
         (try with_reducible rfl)
        change wpAnyH _ _ _ _ _ _ _ (Act.put _ (some 27) _) _
        simp only [Act.put, ssA, ssZ, ssS]
        refine wpAnyH_take (i := 7) (v := ?_) rfl (by kernel_rfl) (by kernel_rfl) (by kernel_rfl) (fun _ _ _ h => h) (Or.inl ⟨by kernel_rfl, ?_⟩) hHeld ?_
        rotate_left
        ·intro w hSw
         (try dsimp only at hSw)
         obtain ⟨hS0, hS1, hS2, hS3, hS4, hS5⟩ := hSw
         go_simp
         (try with_reducible rfl)
        change wpAnyH _ _ _ _ _ _ _ (Act.put _ (some 28) _) _
        simp only [Act.put, ssA, ssZ, ssS]
        refine wpAnyH_take (i := 8) (v := ?_) rfl (by kernel_rfl) (by kernel_rfl) (by kernel_rfl) (fun _ _ _ h => h) (Or.inl ⟨by kernel_rfl, ?_⟩) hHeld ?_
        rotate_left
        ·intro w hSw
         (try dsimp only at hSw)
         obtain ⟨hS0, hS1, hS2, hS3, hS4, hS5⟩ := hSw
         go_simp
         (try with_reducible rfl)
        change wpAnyH _ _ _ _ _ _ _ (Act.put _ (some 29) _) _
        simp only [Act.put, ssA, ssZ, ssS]
        refine wpAnyH_take (i := 9) (v := ?_) rfl (by kernel_rfl) (by kernel_rfl) (by kernel_rfl) (fun _ _ _ h => h) (Or.inl ⟨by kernel_rfl, ?_⟩) hHeld ?_
        rotate_left
        ·intro w hSw
         (try dsimp only at hSw)
         obtain ⟨hS0, hS1, hS2, hS3, hS4, hS5⟩ := hSw
         go_simp
         (try with_reducible rfl)
        change wpAnyH _ _ _ _ _ _ _ (Act.put _ (some 30) _) _
        simp only [Act.put, ssA, ssZ, ssS]
        refine wpAnyH_take (i := 10) (v := ?_) rfl (by kernel_rfl) (by kernel_rfl) (by kernel_rfl) (fun _ _ _ h => h) (Or.inl ⟨by kernel_rfl, ?_⟩) hHeld ?_
        rotate_left
        ·intro w hSw
         (try dsimp only at hSw)
         obtain ⟨hS0, hS1, hS2, hS3, hS4, hS5⟩ := hSw
         go_simp
         (try with_reducible rfl)
        change wpAnyH _ _ _ _ _ _ _ (Act.put _ (some 31) _) _
        simp only [Act.put, ssA, ssZ, ssS]
        refine wpAnyH_take (i := 11) (v := ?_) rfl (by kernel_rfl) (by kernel_rfl) (by kernel_rfl) (fun _ _ _ h => h) (Or.inl ⟨by kernel_rfl, ?_⟩) hHeld ?_
        rotate_left
        ·intro w hSw
         (try dsimp only at hSw)
         obtain ⟨hS0, hS1, hS2, hS3, hS4, hS5⟩ := hSw
         go_simp
         (try with_reducible rfl)
        change wpAnyH _ _ _ _ _ _ _ (Act.put _ (some 32) _) _
        simp only [Act.put, ssA, ssZ, ssS]
        refine wpAnyH_ready (rs := [12]) (by kernel_rfl) (by simp) ?_
        refine AllReadyH.cons (o := _) rfl (fun K hK => ?_) AllReadyH.nil
        go_simp
        (go_at_call 69; refine (HCN.out _ (gr_drew hg1)).mono ?_; rintro _ wC ⟨rfl, hgC⟩; have hgC2 := gr_trans (gr_drew (gr_refl w1 none)) hgC)
        refine hK.out _ _ (KX.out _ hgC2) (fun hHeld12 => ?_)
        clear hK K
        (try simp only [Act.put, ssA, ssZ, ssS])
        refine wpAnyH_take (i := 13) (v := ?_) rfl (by kernel_rfl) (by kernel_rfl) (by kernel_rfl) (fun _ _ _ h => h) (Or.inl ⟨by kernel_rfl, ?_⟩) hHeld12 ?_
        rotate_left
        ·intro w hSw
         (try dsimp only at hSw)
         obtain ⟨hS0, hS1, hS2, hS3, hS4, hS5⟩ := hSw
         go_simp
         (try with_reducible rfl)
        change wpAnyH _ _ _ _ _ _ _ (Act.put _ (some 34) _) _
        simp only [Act.put, ssA, ssZ, ssS]
        refine wpAnyH_take (i := 14) (v := ?_) rfl (by kernel_rfl) (by kernel_rfl) (by kernel_rfl) (fun _ _ _ h => h) (Or.inl ⟨by kernel_rfl, ?_⟩) hHeld12 ?_
        rotate_left
        ·intro w hSw
         (try dsimp only at hSw)
         obtain ⟨hS0, hS1, hS2, hS3, hS4, hS5⟩ := hSw
         go_simp
         (try with_reducible rfl)
        change wpAnyH _ _ _ _ _ _ _ (Act.put _ (some 35) _) _
        simp only [Act.put, ssA, ssZ, ssS]
        refine wpAnyH_take (i := 15) (v := undef) rfl (by kernel_rfl) (by kernel_rfl) (by kernel_rfl) (fun _ _ _ h => h) (Or.inr ⟨by kernel_rfl, rfl⟩) hHeld12 ?_
        change wpAnyH _ _ _ _ _ _ _ (Act.put _ (some 36) _) _
        simp only [Act.put, ssA, ssZ, ssS]
        refine wpAnyH_take (i := 16) (v := undef) rfl (by kernel_rfl) (by kernel_rfl) (by kernel_rfl) (fun _ _ _ h => h) (Or.inr ⟨by kernel_rfl, rfl⟩) hHeld12 ?_
        change wpAnyH _ _ _ _ _ _ _ (Act.put _ (some 37) _) _
        simp only [Act.put, ssA, ssZ, ssS]
        refine wpAnyH_take (i := 17) (v := undef) rfl (by kernel_rfl) (by kernel_rfl) (by kernel_rfl) (fun _ _ _ h => h) (Or.inr ⟨by kernel_rfl, rfl⟩) hHeld12 ?_
        change wpAnyH _ _ _ _ _ _ _ (Act.put _ (some 38) _) _
        simp only [Act.put, ssA, ssZ, ssS]
        refine wpAnyH_take (i := 18) (v := undef) rfl (by kernel_rfl) (by kernel_rfl) (by kernel_rfl) (fun _ _ _ h => h) (Or.inr ⟨by kernel_rfl, rfl⟩) hHeld12 ?_
        change wpAnyH _ _ _ _ _ _ _ (Act.put _ (some 39) _) _
        simp only [Act.put, ssA, ssZ, ssS]
        refine wpAnyH_take (i := 19) (v := ?_) rfl (by kernel_rfl) (by kernel_rfl) (by kernel_rfl) (fun _ _ _ h => h) (Or.inl ⟨by kernel_rfl, ?_⟩) hHeld12 ?_
        rotate_left
        ·intro w hSw
         (try dsimp only at hSw)
         obtain ⟨hS0, hS1, hS2, hS3, hS4, hS5⟩ := hSw
         go_simp
         (try with_reducible rfl)
        change wpAnyH _ _ _ _ _ _ _ (Act.put _ (some 40) _) _
        simp only [Act.put, ssA, ssZ, ssS]
        refine wpAnyH_take (i := 20) (v := ?_) rfl (by kernel_rfl) (by kernel_rfl) (by kernel_rfl) (fun _ _ _ h => h) (Or.inl ⟨by kernel_rfl, ?_⟩) hHeld12 ?_
        rotate_left
        ·intro w hSw
         (try dsimp only at hSw)
         obtain ⟨hS0, hS1, hS2, hS3, hS4, hS5⟩ := hSw
         go_simp
         (try with_reducible rfl)
        change wpAnyH _ _ _ _ _ _ _ (Act.put _ (some 41) _) _
        simp only [Act.put, ssA, ssZ, ssS]
        refine wpAnyH_take (i := 21) (v := undef) rfl (by kernel_rfl) (by kernel_rfl) (by kernel_rfl) (fun _ _ _ h => h) (Or.inr ⟨by kernel_rfl, rfl⟩) hHeld12 ?_
        change wpAnyH _ _ _ _ _ _ _ (Act.put _ (some 42) _) _
        simp only [Act.put, ssA, ssZ, ssS]
        refine wpAnyH_take (i := 22) (v := undef) rfl (by kernel_rfl) (by kernel_rfl) (by kernel_rfl) (fun _ _ _ h => h) (Or.inr ⟨by kernel_rfl, rfl⟩) hHeld12 ?_
        change wpAnyH _ _ _ _ _ _ _ (Act.put _ (some 43) _) _
        simp only [Act.put, ssA, ssZ, ssS]
        refine wpAnyH_take (i := 23) (v := undef) rfl (by kernel_rfl) (by kernel_rfl) (by kernel_rfl) (fun _ _ _ h => h) (Or.inr ⟨by kernel_rfl, rfl⟩) hHeld12 ?_
        change wpAnyH _ _ _ _ _ _ _ (Act.put _ (some 44) _) _
        simp only [Act.put, ssA, ssZ, ssS]
        refine wpAnyH_take (i := 24) (v := undef) rfl (by kernel_rfl) (by kernel_rfl) (by kernel_rfl) (fun _ _ _ h => h) (Or.inr ⟨by kernel_rfl, rfl⟩) hHeld12 ?_
        change wpAnyH _ _ _ _ _ _ _ (Act.put _ (some 45) _) _
        simp only [Act.put, ssA, ssZ, ssS]
        refine wpAnyH_take (i := 25) (v := undef) rfl (by kernel_rfl) (by kernel_rfl) (by kernel_rfl) (fun _ _ _ h => h) (Or.inr ⟨by kernel_rfl, rfl⟩) hHeld12 ?_
        change wpAnyH _ _ _ _ _ _ _ (Act.put _ (some 46) _) _
        simp only [Act.put, ssA, ssZ, ssS]
        refine wpAnyH_take (i := 26) (v := undef) rfl (by kernel_rfl) (by kernel_rfl) (by kernel_rfl) (fun _ _ _ h => h) (Or.inr ⟨by kernel_rfl, rfl⟩) hHeld12 ?_
        change wpAnyH _ _ _ _ _ _ _ (Act.put _ (some 47) _) _
        simp only [Act.put, ssA, ssZ, ssS]
        refine wpAnyH_take (i := 27) (v := undef) rfl (by kernel_rfl) (by kernel_rfl) (by kernel_rfl) (fun _ _ _ h => h) (Or.inr ⟨by kernel_rfl, rfl⟩) hHeld12 ?_
        change wpAnyH _ _ _ _ _ _ _ (Act.put _ (some 48) _) _
        simp only [Act.put, ssA, ssZ, ssS]
        refine wpAnyH_take (i := 28) (v := undef) rfl (by kernel_rfl) (by kernel_rfl) (by kernel_rfl) (fun _ _ _ h => h) (Or.inr ⟨by kernel_rfl, rfl⟩) hHeld12 ?_
        change wpAnyH _ _ _ _ _ _ _ (Act.put _ (some 49) _) _
        simp only [Act.put, ssA, ssZ, ssS]
        refine wpAnyH_take (i := 29) (v := undef) rfl (by kernel_rfl) (by kernel_rfl) (by kernel_rfl) (fun _ _ _ h => h) (Or.inr ⟨by kernel_rfl, rfl⟩) hHeld12 ?_
        change wpAnyH _ _ _ _ _ _ _ (Act.put _ (some 50) _) _
        simp only [Act.put, ssA, ssZ, ssS]
        refine wpAnyH_take (i := 30) (v := undef) rfl (by kernel_rfl) (by kernel_rfl) (by kernel_rfl) (fun _ _ _ h => h) (Or.inr ⟨by kernel_rfl, rfl⟩) hHeld12 ?_
        change wpAnyH _ _ _ _ _ _ _ (Act.put _ (some 51) _) _
        simp only [Act.put, ssA, ssZ, ssS]
        refine wpAnyH_take (i := 31) (v := undef) rfl (by kernel_rfl) (by kernel_rfl) (by kernel_rfl) (fun _ _ _ h => h) (Or.inr ⟨by kernel_rfl, rfl⟩) hHeld12 ?_
        change wpAnyH _ _ _ _ _ _ _ (Act.put _ (some 52) _) _
        simp only [Act.put, ssA, ssZ, ssS]
        refine wpAnyH_take (i := 32) (v := undef) rfl (by kernel_rfl) (by kernel_rfl) (by kernel_rfl) (fun _ _ _ h => h) (Or.inr ⟨by kernel_rfl, rfl⟩) hHeld12 ?_
        change wpAnyH _ _ _ _ _ _ _ (Act.put _ (some 53) _) _
        simp only [Act.put, ssA, ssZ, ssS]
        refine wpAnyH_take (i := 33) (v := undef) rfl (by kernel_rfl) (by kernel_rfl) (by kernel_rfl) (fun _ _ _ h => h) (Or.inr ⟨by kernel_rfl, rfl⟩) hHeld12 ?_
        change wpAnyH _ _ _ _ _ _ _ (Act.put _ (some 54) _) _
        simp only [Act.put, ssA, ssZ, ssS]
        refine wpAnyH_take (i := 34) (v := undef) rfl (by kernel_rfl) (by kernel_rfl) (by kernel_rfl) (fun _ _ _ h => h) (Or.inr ⟨by kernel_rfl, rfl⟩) hHeld12 ?_
        change wpAnyH _ _ _ _ _ _ _ (Act.put _ (some 55) _) _
        simp only [Act.put, ssA, ssZ, ssS]
        refine wpAnyH_take (i := 35) (v := ?_) rfl (by kernel_rfl) (by kernel_rfl) (by kernel_rfl) (fun _ _ _ h => h) (Or.inl ⟨by kernel_rfl, ?_⟩) hHeld12 ?_
        rotate_left
        ·intro w hSw
         (try dsimp only at hSw)
         obtain ⟨hS0, hS1, hS2, hS3, hS4, hS5⟩ := hSw
         go_simp
         (try with_reducible rfl)
        change wpAnyH _ _ _ _ _ _ _ (Act.put _ (some 56) _) _
        simp only [Act.put, ssA, ssZ, ssS]
        refine wpAnyH_done (by kernel_rfl) ?_ _
        go_wp2_with fail
        go_meet
        exact ⟨rfl, hgC2⟩
       ·cases PB
        ·have hRf : R = false := by rw [← HR.out]; simp
         subst hRf
         clear hkb
         go_wp2_with fail
         refine wp_region_held_drew (S := fun V => V.cell? ⟨gX, 0, none⟩ = some (.string B) ∧ V.cell? ⟨gX, 1, none⟩ = some (.string N) ∧ V.cell? ⟨gX, 2, none⟩ = some (.int .i64 xa) ∧ V.cell? ⟨gX, 3, none⟩ = some (.int .i64 xz) ∧ V.cell? ⟨gX, 4, none⟩ = some (.bool false) ∧ V.cell? ⟨gX, 5, none⟩ = some (.int .i64 Z)) (by kernel_rfl) (KX.out _ (gr_drew (gr_refl _ _))) (fun hHeld => ?_)
         refine wpAnyH_take (i := 0) (v := ?_) rfl (by kernel_rfl) (by kernel_rfl) (by kernel_rfl) (fun _ _ _ h => h) (Or.inl ⟨by kernel_rfl, ?_⟩) hHeld ?_
         rotate_left
         ·intro w hSw
          (try dsimp only at hSw)
          obtain ⟨hS0, hS1, hS2, hS3, hS4, hS5⟩ := hSw
          go_simp
          (try with_reducible rfl)
         change wpAnyH _ _ _ _ _ _ _ (Act.put _ (some 21) _) _
         simp only [Act.put, ssA, ssZ, ssS]
         refine wpAnyH_take (i := 1) (v := ?_) rfl (by kernel_rfl) (by kernel_rfl) (by kernel_rfl) (fun _ _ _ h => h) (Or.inl ⟨by kernel_rfl, ?_⟩) hHeld ?_
         rotate_left
         ·intro w hSw
          (try dsimp only at hSw)
          obtain ⟨hS0, hS1, hS2, hS3, hS4, hS5⟩ := hSw
          go_simp
          (try with_reducible rfl)
         change wpAnyH _ _ _ _ _ _ _ (Act.put _ (some 22) _) _
         simp only [Act.put, ssA, ssZ, ssS]
         refine wpAnyH_take (i := 2) (v := ?_) rfl (by kernel_rfl) (by kernel_rfl) (by kernel_rfl) (fun _ _ _ h => h) (Or.inl ⟨by kernel_rfl, ?_⟩) hHeld ?_
         rotate_left
         ·intro w hSw
          (try dsimp only at hSw)
          obtain ⟨hS0, hS1, hS2, hS3, hS4, hS5⟩ := hSw
          go_simp
          (try with_reducible rfl)
         change wpAnyH _ _ _ _ _ _ _ (Act.put _ (some 23) _) _
         simp only [Act.put, ssA, ssZ, ssS]
         refine wpAnyH_take (i := 3) (v := ?_) rfl (by kernel_rfl) (by kernel_rfl) (by kernel_rfl) (fun _ _ _ h => h) (Or.inl ⟨by kernel_rfl, ?_⟩) hHeld ?_
         rotate_left
         ·intro w hSw
          (try dsimp only at hSw)
          obtain ⟨hS0, hS1, hS2, hS3, hS4, hS5⟩ := hSw
          go_simp
          (try with_reducible rfl)
         change wpAnyH _ _ _ _ _ _ _ (Act.put _ (some 24) _) _
         simp only [Act.put, ssA, ssZ, ssS]
         refine wpAnyH_take (i := 4) (v := ?_) rfl (by kernel_rfl) (by kernel_rfl) (by kernel_rfl) (fun _ _ _ h => h) (Or.inl ⟨by kernel_rfl, ?_⟩) hHeld ?_
         rotate_left
         ·intro w hSw
          (try dsimp only at hSw)
          obtain ⟨hS0, hS1, hS2, hS3, hS4, hS5⟩ := hSw
          go_simp
          (try with_reducible rfl)
         change wpAnyH _ _ _ _ _ _ _ (Act.put _ (some 25) _) _
         simp only [Act.put, ssA, ssZ, ssS]
         refine wpAnyH_take (i := 5) (v := ?_) rfl (by kernel_rfl) (by kernel_rfl) (by kernel_rfl) (fun _ _ _ h => h) (Or.inl ⟨by kernel_rfl, ?_⟩) hHeld ?_
         rotate_left
         ·intro w hSw
          (try dsimp only at hSw)
          obtain ⟨hS0, hS1, hS2, hS3, hS4, hS5⟩ := hSw
          go_simp
          (try with_reducible rfl)
         change wpAnyH _ _ _ _ _ _ _ (Act.put _ (some 26) _) _
         simp only [Act.put, ssA, ssZ, ssS]
         refine wpAnyH_take (i := 6) (v := ?_) rfl (by kernel_rfl) (by kernel_rfl) (by kernel_rfl) (fun _ _ _ h => h) (Or.inl ⟨by kernel_rfl, ?_⟩) hHeld ?_
         rotate_left
         ·intro w hSw
          (try dsimp only at hSw)
          obtain ⟨hS0, hS1, hS2, hS3, hS4, hS5⟩ := hSw
          go_simp
          (try with_reducible rfl)
         change wpAnyH _ _ _ _ _ _ _ (Act.put _ (some 27) _) _
         simp only [Act.put, ssA, ssZ, ssS]
         refine wpAnyH_take (i := 7) (v := ?_) rfl (by kernel_rfl) (by kernel_rfl) (by kernel_rfl) (fun _ _ _ h => h) (Or.inl ⟨by kernel_rfl, ?_⟩) hHeld ?_
         rotate_left
         ·intro w hSw
          (try dsimp only at hSw)
          obtain ⟨hS0, hS1, hS2, hS3, hS4, hS5⟩ := hSw
          go_simp
          (try with_reducible rfl)
         change wpAnyH _ _ _ _ _ _ _ (Act.put _ (some 28) _) _
         simp only [Act.put, ssA, ssZ, ssS]
         refine wpAnyH_take (i := 8) (v := ?_) rfl (by kernel_rfl) (by kernel_rfl) (by kernel_rfl) (fun _ _ _ h => h) (Or.inl ⟨by kernel_rfl, ?_⟩) hHeld ?_
         rotate_left
         ·intro w hSw
          (try dsimp only at hSw)
          obtain ⟨hS0, hS1, hS2, hS3, hS4, hS5⟩ := hSw
          go_simp
          (try with_reducible rfl)
         change wpAnyH _ _ _ _ _ _ _ (Act.put _ (some 29) _) _
         simp only [Act.put, ssA, ssZ, ssS]
         refine wpAnyH_take (i := 9) (v := ?_) rfl (by kernel_rfl) (by kernel_rfl) (by kernel_rfl) (fun _ _ _ h => h) (Or.inl ⟨by kernel_rfl, ?_⟩) hHeld ?_
         rotate_left
         ·intro w hSw
          (try dsimp only at hSw)
          obtain ⟨hS0, hS1, hS2, hS3, hS4, hS5⟩ := hSw
          go_simp
          (try with_reducible rfl)
         change wpAnyH _ _ _ _ _ _ _ (Act.put _ (some 30) _) _
         simp only [Act.put, ssA, ssZ, ssS]
         refine wpAnyH_take (i := 10) (v := ?_) rfl (by kernel_rfl) (by kernel_rfl) (by kernel_rfl) (fun _ _ _ h => h) (Or.inl ⟨by kernel_rfl, ?_⟩) hHeld ?_
         rotate_left
         ·intro w hSw
          (try dsimp only at hSw)
          obtain ⟨hS0, hS1, hS2, hS3, hS4, hS5⟩ := hSw
          go_simp
          (try with_reducible rfl)
         change wpAnyH _ _ _ _ _ _ _ (Act.put _ (some 31) _) _
         simp only [Act.put, ssA, ssZ, ssS]
         refine wpAnyH_take (i := 11) (v := ?_) rfl (by kernel_rfl) (by kernel_rfl) (by kernel_rfl) (fun _ _ _ h => h) (Or.inl ⟨by kernel_rfl, ?_⟩) hHeld ?_
         rotate_left
         ·intro w hSw
          (try dsimp only at hSw)
          obtain ⟨hS0, hS1, hS2, hS3, hS4, hS5⟩ := hSw
          go_simp
          (try with_reducible rfl)
         change wpAnyH _ _ _ _ _ _ _ (Act.put _ (some 32) _) _
         simp only [Act.put, ssA, ssZ, ssS]
         refine wpAnyH_ready (rs := [12]) (by kernel_rfl) (by simp) ?_
         refine AllReadyH.cons (o := _) rfl (fun K hK => ?_) AllReadyH.nil
         go_simp
         (go_at_call 69; refine (HCN.out _ (gr_drew hg1)).mono ?_; rintro _ wC ⟨rfl, hgC⟩; have hgC2 := gr_trans (gr_drew (gr_refl w1 none)) hgC)
         refine hK.out _ _ (KX.out _ hgC2) (fun hHeld12 => ?_)
         clear hK K
         (try simp only [Act.put, ssA, ssZ, ssS])
         refine wpAnyH_take (i := 13) (v := ?_) rfl (by kernel_rfl) (by kernel_rfl) (by kernel_rfl) (fun _ _ _ h => h) (Or.inl ⟨by kernel_rfl, ?_⟩) hHeld12 ?_
         rotate_left
         ·intro w hSw
          (try dsimp only at hSw)
          obtain ⟨hS0, hS1, hS2, hS3, hS4, hS5⟩ := hSw
          go_simp
          (try with_reducible rfl)
         change wpAnyH _ _ _ _ _ _ _ (Act.put _ (some 34) _) _
         simp only [Act.put, ssA, ssZ, ssS]
         refine wpAnyH_take (i := 14) (v := ?_) rfl (by kernel_rfl) (by kernel_rfl) (by kernel_rfl) (fun _ _ _ h => h) (Or.inl ⟨by kernel_rfl, ?_⟩) hHeld12 ?_
         rotate_left
         ·intro w hSw
          (try dsimp only at hSw)
          obtain ⟨hS0, hS1, hS2, hS3, hS4, hS5⟩ := hSw
          go_simp
          (try with_reducible rfl)
         change wpAnyH _ _ _ _ _ _ _ (Act.put _ (some 35) _) _
         simp only [Act.put, ssA, ssZ, ssS]
         refine wpAnyH_take (i := 15) (v := ?_) rfl (by kernel_rfl) (by kernel_rfl) (by kernel_rfl) (fun _ _ _ h => h) (Or.inl ⟨by kernel_rfl, ?_⟩) hHeld12 ?_
         rotate_left
         ·intro w hSw
          (try dsimp only at hSw)
          obtain ⟨hS0, hS1, hS2, hS3, hS4, hS5⟩ := hSw
          go_simp
          (try with_reducible rfl)
         change wpAnyH _ _ _ _ _ _ _ (Act.put _ (some 36) _) _
         simp only [Act.put, ssA, ssZ, ssS]
         refine wpAnyH_take (i := 16) (v := ?_) rfl (by kernel_rfl) (by kernel_rfl) (by kernel_rfl) (fun _ _ _ h => h) (Or.inl ⟨by kernel_rfl, ?_⟩) hHeld12 ?_
         rotate_left
         ·intro w hSw
          (try dsimp only at hSw)
          obtain ⟨hS0, hS1, hS2, hS3, hS4, hS5⟩ := hSw
          go_simp
          (try with_reducible rfl)
         change wpAnyH _ _ _ _ _ _ _ (Act.put _ (some 37) _) _
         simp only [Act.put, ssA, ssZ, ssS]
         refine wpAnyH_take (i := 17) (v := ?_) rfl (by kernel_rfl) (by kernel_rfl) (by kernel_rfl) (fun _ _ _ h => h) (Or.inl ⟨by kernel_rfl, ?_⟩) hHeld12 ?_
         rotate_left
         ·intro w hSw
          (try dsimp only at hSw)
          obtain ⟨hS0, hS1, hS2, hS3, hS4, hS5⟩ := hSw
          go_simp
          (try with_reducible rfl)
         change wpAnyH _ _ _ _ _ _ _ (Act.put _ (some 38) _) _
         simp only [Act.put, ssA, ssZ, ssS]
         refine wpAnyH_ready (rs := [18]) (by kernel_rfl) (by simp) ?_
         refine AllReadyH.cons (o := _) rfl (fun K hK => ?_) AllReadyH.nil
         go_simp
         (go_at_call 123; refine (HHP.out _).mono ?_; rintro _ _ ⟨rfl, rfl⟩)
         refine hK.out _ _ (KX.out _ hgC2) (fun hHeld18 => ?_)
         clear hK K
         (try simp only [Act.put, ssA, ssZ, ssS])
         refine wpAnyH_take (i := 19) (v := ?_) rfl (by kernel_rfl) (by kernel_rfl) (by kernel_rfl) (fun _ _ _ h => h) (Or.inl ⟨by kernel_rfl, ?_⟩) hHeld18 ?_
         rotate_left
         ·intro w hSw
          (try dsimp only at hSw)
          obtain ⟨hS0, hS1, hS2, hS3, hS4, hS5⟩ := hSw
          go_simp
          (try with_reducible rfl)
         change wpAnyH _ _ _ _ _ _ _ (Act.put _ (some 40) _) _
         simp only [Act.put, ssA, ssZ, ssS]
         refine wpAnyH_take (i := 20) (v := ?_) rfl (by kernel_rfl) (by kernel_rfl) (by kernel_rfl) (fun _ _ _ h => h) (Or.inl ⟨by kernel_rfl, ?_⟩) hHeld18 ?_
         rotate_left
         ·intro w hSw
          (try dsimp only at hSw)
          obtain ⟨hS0, hS1, hS2, hS3, hS4, hS5⟩ := hSw
          go_simp
          (try with_reducible rfl)
         change wpAnyH _ _ _ _ _ _ _ (Act.put _ (some 41) _) _
         simp only [Act.put, ssA, ssZ, ssS]
         refine wpAnyH_take (i := 21) (v := undef) rfl (by kernel_rfl) (by kernel_rfl) (by kernel_rfl) (fun _ _ _ h => h) (Or.inr ⟨by kernel_rfl, rfl⟩) hHeld18 ?_
         change wpAnyH _ _ _ _ _ _ _ (Act.put _ (some 42) _) _
         simp only [Act.put, ssA, ssZ, ssS]
         refine wpAnyH_take (i := 22) (v := undef) rfl (by kernel_rfl) (by kernel_rfl) (by kernel_rfl) (fun _ _ _ h => h) (Or.inr ⟨by kernel_rfl, rfl⟩) hHeld18 ?_
         change wpAnyH _ _ _ _ _ _ _ (Act.put _ (some 43) _) _
         simp only [Act.put, ssA, ssZ, ssS]
         refine wpAnyH_take (i := 23) (v := undef) rfl (by kernel_rfl) (by kernel_rfl) (by kernel_rfl) (fun _ _ _ h => h) (Or.inr ⟨by kernel_rfl, rfl⟩) hHeld18 ?_
         change wpAnyH _ _ _ _ _ _ _ (Act.put _ (some 44) _) _
         simp only [Act.put, ssA, ssZ, ssS]
         refine wpAnyH_take (i := 24) (v := undef) rfl (by kernel_rfl) (by kernel_rfl) (by kernel_rfl) (fun _ _ _ h => h) (Or.inr ⟨by kernel_rfl, rfl⟩) hHeld18 ?_
         change wpAnyH _ _ _ _ _ _ _ (Act.put _ (some 45) _) _
         simp only [Act.put, ssA, ssZ, ssS]
         refine wpAnyH_take (i := 25) (v := undef) rfl (by kernel_rfl) (by kernel_rfl) (by kernel_rfl) (fun _ _ _ h => h) (Or.inr ⟨by kernel_rfl, rfl⟩) hHeld18 ?_
         change wpAnyH _ _ _ _ _ _ _ (Act.put _ (some 46) _) _
         simp only [Act.put, ssA, ssZ, ssS]
         refine wpAnyH_take (i := 26) (v := undef) rfl (by kernel_rfl) (by kernel_rfl) (by kernel_rfl) (fun _ _ _ h => h) (Or.inr ⟨by kernel_rfl, rfl⟩) hHeld18 ?_
         change wpAnyH _ _ _ _ _ _ _ (Act.put _ (some 47) _) _
         simp only [Act.put, ssA, ssZ, ssS]
         refine wpAnyH_take (i := 27) (v := undef) rfl (by kernel_rfl) (by kernel_rfl) (by kernel_rfl) (fun _ _ _ h => h) (Or.inr ⟨by kernel_rfl, rfl⟩) hHeld18 ?_
         change wpAnyH _ _ _ _ _ _ _ (Act.put _ (some 48) _) _
         simp only [Act.put, ssA, ssZ, ssS]
         refine wpAnyH_take (i := 28) (v := undef) rfl (by kernel_rfl) (by kernel_rfl) (by kernel_rfl) (fun _ _ _ h => h) (Or.inr ⟨by kernel_rfl, rfl⟩) hHeld18 ?_
         change wpAnyH _ _ _ _ _ _ _ (Act.put _ (some 49) _) _
         simp only [Act.put, ssA, ssZ, ssS]
         refine wpAnyH_take (i := 29) (v := undef) rfl (by kernel_rfl) (by kernel_rfl) (by kernel_rfl) (fun _ _ _ h => h) (Or.inr ⟨by kernel_rfl, rfl⟩) hHeld18 ?_
         change wpAnyH _ _ _ _ _ _ _ (Act.put _ (some 50) _) _
         simp only [Act.put, ssA, ssZ, ssS]
         refine wpAnyH_take (i := 30) (v := undef) rfl (by kernel_rfl) (by kernel_rfl) (by kernel_rfl) (fun _ _ _ h => h) (Or.inr ⟨by kernel_rfl, rfl⟩) hHeld18 ?_
         change wpAnyH _ _ _ _ _ _ _ (Act.put _ (some 51) _) _
         simp only [Act.put, ssA, ssZ, ssS]
         refine wpAnyH_take (i := 31) (v := undef) rfl (by kernel_rfl) (by kernel_rfl) (by kernel_rfl) (fun _ _ _ h => h) (Or.inr ⟨by kernel_rfl, rfl⟩) hHeld18 ?_
         change wpAnyH _ _ _ _ _ _ _ (Act.put _ (some 52) _) _
         simp only [Act.put, ssA, ssZ, ssS]
         refine wpAnyH_take (i := 32) (v := undef) rfl (by kernel_rfl) (by kernel_rfl) (by kernel_rfl) (fun _ _ _ h => h) (Or.inr ⟨by kernel_rfl, rfl⟩) hHeld18 ?_
         change wpAnyH _ _ _ _ _ _ _ (Act.put _ (some 53) _) _
         simp only [Act.put, ssA, ssZ, ssS]
         refine wpAnyH_take (i := 33) (v := undef) rfl (by kernel_rfl) (by kernel_rfl) (by kernel_rfl) (fun _ _ _ h => h) (Or.inr ⟨by kernel_rfl, rfl⟩) hHeld18 ?_
         change wpAnyH _ _ _ _ _ _ _ (Act.put _ (some 54) _) _
         simp only [Act.put, ssA, ssZ, ssS]
         refine wpAnyH_take (i := 34) (v := undef) rfl (by kernel_rfl) (by kernel_rfl) (by kernel_rfl) (fun _ _ _ h => h) (Or.inr ⟨by kernel_rfl, rfl⟩) hHeld18 ?_
         change wpAnyH _ _ _ _ _ _ _ (Act.put _ (some 55) _) _
         simp only [Act.put, ssA, ssZ, ssS]
         refine wpAnyH_take (i := 35) (v := ?_) rfl (by kernel_rfl) (by kernel_rfl) (by kernel_rfl) (fun _ _ _ h => h) (Or.inl ⟨by kernel_rfl, ?_⟩) hHeld18 ?_
         rotate_left
         ·intro w hSw
          (try dsimp only at hSw)
          obtain ⟨hS0, hS1, hS2, hS3, hS4, hS5⟩ := hSw
          go_simp
          (try with_reducible rfl)
         change wpAnyH _ _ _ _ _ _ _ (Act.put _ (some 56) _) _
         simp only [Act.put, ssA, ssZ, ssS]
         refine wpAnyH_done (by kernel_rfl) ?_ _
         go_wp2_with fail
         go_meet
         exact ⟨rfl, hgC2⟩
        ·by_cases hb0 : b < 0
         ·have f2 : decide (b < 0) = true := by simpa using hb0
          have hRf : R = true := by rw [← HR.out, f2]; simp [hkb]
          subst hRf
          clear hkb
          go_wp2_with fail
          refine wp_region_held_drew (S := fun V => V.cell? ⟨gX, 0, none⟩ = some (.string B) ∧ V.cell? ⟨gX, 1, none⟩ = some (.string N) ∧ V.cell? ⟨gX, 2, none⟩ = some (.int .i64 xa) ∧ V.cell? ⟨gX, 3, none⟩ = some (.int .i64 xz) ∧ V.cell? ⟨gX, 4, none⟩ = some (.bool false) ∧ V.cell? ⟨gX, 5, none⟩ = some (.int .i64 Z)) (by kernel_rfl) (KX.out _ (gr_drew (gr_refl _ _))) (fun hHeld => ?_)
          refine wpAnyH_take (i := 0) (v := ?_) rfl (by kernel_rfl) (by kernel_rfl) (by kernel_rfl) (fun _ _ _ h => h) (Or.inl ⟨by kernel_rfl, ?_⟩) hHeld ?_
          rotate_left
          ·intro w hSw
           (try dsimp only at hSw)
           obtain ⟨hS0, hS1, hS2, hS3, hS4, hS5⟩ := hSw
           go_simp
           (try with_reducible rfl)
          change wpAnyH _ _ _ _ _ _ _ (Act.put _ (some 21) _) _
          simp only [Act.put, ssA, ssZ, ssS]
          refine wpAnyH_take (i := 1) (v := ?_) rfl (by kernel_rfl) (by kernel_rfl) (by kernel_rfl) (fun _ _ _ h => h) (Or.inl ⟨by kernel_rfl, ?_⟩) hHeld ?_
          rotate_left
          ·intro w hSw
           (try dsimp only at hSw)
           obtain ⟨hS0, hS1, hS2, hS3, hS4, hS5⟩ := hSw
           go_simp
           (try with_reducible rfl)
          change wpAnyH _ _ _ _ _ _ _ (Act.put _ (some 22) _) _
          simp only [Act.put, ssA, ssZ, ssS]
          refine wpAnyH_take (i := 2) (v := ?_) rfl (by kernel_rfl) (by kernel_rfl) (by kernel_rfl) (fun _ _ _ h => h) (Or.inl ⟨by kernel_rfl, ?_⟩) hHeld ?_
          rotate_left
          ·intro w hSw
           (try dsimp only at hSw)
           obtain ⟨hS0, hS1, hS2, hS3, hS4, hS5⟩ := hSw
           go_simp
           (try with_reducible rfl)
          change wpAnyH _ _ _ _ _ _ _ (Act.put _ (some 23) _) _
          simp only [Act.put, ssA, ssZ, ssS]
          refine wpAnyH_take (i := 3) (v := ?_) rfl (by kernel_rfl) (by kernel_rfl) (by kernel_rfl) (fun _ _ _ h => h) (Or.inl ⟨by kernel_rfl, ?_⟩) hHeld ?_
          rotate_left
          ·intro w hSw
           (try dsimp only at hSw)
           obtain ⟨hS0, hS1, hS2, hS3, hS4, hS5⟩ := hSw
           go_simp
           (try with_reducible rfl)
          change wpAnyH _ _ _ _ _ _ _ (Act.put _ (some 24) _) _
          simp only [Act.put, ssA, ssZ, ssS]
          refine wpAnyH_take (i := 4) (v := ?_) rfl (by kernel_rfl) (by kernel_rfl) (by kernel_rfl) (fun _ _ _ h => h) (Or.inl ⟨by kernel_rfl, ?_⟩) hHeld ?_
          rotate_left
          ·intro w hSw
           (try dsimp only at hSw)
           obtain ⟨hS0, hS1, hS2, hS3, hS4, hS5⟩ := hSw
           go_simp
           (try with_reducible rfl)
          change wpAnyH _ _ _ _ _ _ _ (Act.put _ (some 25) _) _
          simp only [Act.put, ssA, ssZ, ssS]
          refine wpAnyH_take (i := 5) (v := ?_) rfl (by kernel_rfl) (by kernel_rfl) (by kernel_rfl) (fun _ _ _ h => h) (Or.inl ⟨by kernel_rfl, ?_⟩) hHeld ?_
          rotate_left
          ·intro w hSw
           (try dsimp only at hSw)
           obtain ⟨hS0, hS1, hS2, hS3, hS4, hS5⟩ := hSw
           go_simp
           (try with_reducible rfl)
          change wpAnyH _ _ _ _ _ _ _ (Act.put _ (some 26) _) _
          simp only [Act.put, ssA, ssZ, ssS]
          refine wpAnyH_take (i := 6) (v := ?_) rfl (by kernel_rfl) (by kernel_rfl) (by kernel_rfl) (fun _ _ _ h => h) (Or.inl ⟨by kernel_rfl, ?_⟩) hHeld ?_
          rotate_left
          ·intro w hSw
           (try dsimp only at hSw)
           obtain ⟨hS0, hS1, hS2, hS3, hS4, hS5⟩ := hSw
           go_simp
           (try with_reducible rfl)
          change wpAnyH _ _ _ _ _ _ _ (Act.put _ (some 27) _) _
          simp only [Act.put, ssA, ssZ, ssS]
          refine wpAnyH_take (i := 7) (v := ?_) rfl (by kernel_rfl) (by kernel_rfl) (by kernel_rfl) (fun _ _ _ h => h) (Or.inl ⟨by kernel_rfl, ?_⟩) hHeld ?_
          rotate_left
          ·intro w hSw
           (try dsimp only at hSw)
           obtain ⟨hS0, hS1, hS2, hS3, hS4, hS5⟩ := hSw
           go_simp
           (try with_reducible rfl)
          change wpAnyH _ _ _ _ _ _ _ (Act.put _ (some 28) _) _
          simp only [Act.put, ssA, ssZ, ssS]
          refine wpAnyH_take (i := 8) (v := ?_) rfl (by kernel_rfl) (by kernel_rfl) (by kernel_rfl) (fun _ _ _ h => h) (Or.inl ⟨by kernel_rfl, ?_⟩) hHeld ?_
          rotate_left
          ·intro w hSw
           (try dsimp only at hSw)
           obtain ⟨hS0, hS1, hS2, hS3, hS4, hS5⟩ := hSw
           go_simp
           (try with_reducible rfl)
          change wpAnyH _ _ _ _ _ _ _ (Act.put _ (some 29) _) _
          simp only [Act.put, ssA, ssZ, ssS]
          refine wpAnyH_take (i := 9) (v := ?_) rfl (by kernel_rfl) (by kernel_rfl) (by kernel_rfl) (fun _ _ _ h => h) (Or.inl ⟨by kernel_rfl, ?_⟩) hHeld ?_
          rotate_left
          ·intro w hSw
           (try dsimp only at hSw)
           obtain ⟨hS0, hS1, hS2, hS3, hS4, hS5⟩ := hSw
           go_simp
           (try with_reducible rfl)
          change wpAnyH _ _ _ _ _ _ _ (Act.put _ (some 30) _) _
          simp only [Act.put, ssA, ssZ, ssS]
          refine wpAnyH_take (i := 10) (v := ?_) rfl (by kernel_rfl) (by kernel_rfl) (by kernel_rfl) (fun _ _ _ h => h) (Or.inl ⟨by kernel_rfl, ?_⟩) hHeld ?_
          rotate_left
          ·intro w hSw
           (try dsimp only at hSw)
           obtain ⟨hS0, hS1, hS2, hS3, hS4, hS5⟩ := hSw
           go_simp
           (try with_reducible rfl)
          change wpAnyH _ _ _ _ _ _ _ (Act.put _ (some 31) _) _
          simp only [Act.put, ssA, ssZ, ssS]
          refine wpAnyH_take (i := 11) (v := ?_) rfl (by kernel_rfl) (by kernel_rfl) (by kernel_rfl) (fun _ _ _ h => h) (Or.inl ⟨by kernel_rfl, ?_⟩) hHeld ?_
          rotate_left
          ·intro w hSw
           (try dsimp only at hSw)
           obtain ⟨hS0, hS1, hS2, hS3, hS4, hS5⟩ := hSw
           go_simp
           (try with_reducible rfl)
          change wpAnyH _ _ _ _ _ _ _ (Act.put _ (some 32) _) _
          simp only [Act.put, ssA, ssZ, ssS]
          refine wpAnyH_ready (rs := [12]) (by kernel_rfl) (by simp) ?_
          refine AllReadyH.cons (o := _) rfl (fun K hK => ?_) AllReadyH.nil
          go_simp
          (go_at_call 69; refine (HCN.out _ (gr_drew hg1)).mono ?_; rintro _ wC ⟨rfl, hgC⟩; have hgC2 := gr_trans (gr_drew (gr_refl w1 none)) hgC)
          refine hK.out _ _ (KX.out _ hgC2) (fun hHeld12 => ?_)
          clear hK K
          (try simp only [Act.put, ssA, ssZ, ssS])
          refine wpAnyH_take (i := 13) (v := ?_) rfl (by kernel_rfl) (by kernel_rfl) (by kernel_rfl) (fun _ _ _ h => h) (Or.inl ⟨by kernel_rfl, ?_⟩) hHeld12 ?_
          rotate_left
          ·intro w hSw
           (try dsimp only at hSw)
           obtain ⟨hS0, hS1, hS2, hS3, hS4, hS5⟩ := hSw
           go_simp
           (try with_reducible rfl)
          change wpAnyH _ _ _ _ _ _ _ (Act.put _ (some 34) _) _
          simp only [Act.put, ssA, ssZ, ssS]
          refine wpAnyH_take (i := 14) (v := ?_) rfl (by kernel_rfl) (by kernel_rfl) (by kernel_rfl) (fun _ _ _ h => h) (Or.inl ⟨by kernel_rfl, ?_⟩) hHeld12 ?_
          rotate_left
          ·intro w hSw
           (try dsimp only at hSw)
           obtain ⟨hS0, hS1, hS2, hS3, hS4, hS5⟩ := hSw
           go_simp
           (try with_reducible rfl)
          change wpAnyH _ _ _ _ _ _ _ (Act.put _ (some 35) _) _
          simp only [Act.put, ssA, ssZ, ssS]
          refine wpAnyH_take (i := 15) (v := ?_) rfl (by kernel_rfl) (by kernel_rfl) (by kernel_rfl) (fun _ _ _ h => h) (Or.inl ⟨by kernel_rfl, ?_⟩) hHeld12 ?_
          rotate_left
          ·intro w hSw
           (try dsimp only at hSw)
           obtain ⟨hS0, hS1, hS2, hS3, hS4, hS5⟩ := hSw
           go_simp
           (try with_reducible rfl)
          change wpAnyH _ _ _ _ _ _ _ (Act.put _ (some 36) _) _
          simp only [Act.put, ssA, ssZ, ssS]
          refine wpAnyH_take (i := 16) (v := ?_) rfl (by kernel_rfl) (by kernel_rfl) (by kernel_rfl) (fun _ _ _ h => h) (Or.inl ⟨by kernel_rfl, ?_⟩) hHeld12 ?_
          rotate_left
          ·intro w hSw
           (try dsimp only at hSw)
           obtain ⟨hS0, hS1, hS2, hS3, hS4, hS5⟩ := hSw
           go_simp
           (try with_reducible rfl)
          change wpAnyH _ _ _ _ _ _ _ (Act.put _ (some 37) _) _
          simp only [Act.put, ssA, ssZ, ssS]
          refine wpAnyH_take (i := 17) (v := ?_) rfl (by kernel_rfl) (by kernel_rfl) (by kernel_rfl) (fun _ _ _ h => h) (Or.inl ⟨by kernel_rfl, ?_⟩) hHeld12 ?_
          rotate_left
          ·intro w hSw
           (try dsimp only at hSw)
           obtain ⟨hS0, hS1, hS2, hS3, hS4, hS5⟩ := hSw
           go_simp
           (try with_reducible rfl)
          change wpAnyH _ _ _ _ _ _ _ (Act.put _ (some 38) _) _
          simp only [Act.put, ssA, ssZ, ssS]
          refine wpAnyH_ready (rs := [18]) (by kernel_rfl) (by simp) ?_
          refine AllReadyH.cons (o := _) rfl (fun K hK => ?_) AllReadyH.nil
          go_simp
          (go_at_call 123; refine (HHP.out _).mono ?_; rintro _ _ ⟨rfl, rfl⟩)
          refine hK.out _ _ (KX.out _ hgC2) (fun hHeld18 => ?_)
          clear hK K
          (try simp only [Act.put, ssA, ssZ, ssS])
          refine wpAnyH_take (i := 19) (v := ?_) rfl (by kernel_rfl) (by kernel_rfl) (by kernel_rfl) (fun _ _ _ h => h) (Or.inl ⟨by kernel_rfl, ?_⟩) hHeld18 ?_
          rotate_left
          ·intro w hSw
           (try dsimp only at hSw)
           obtain ⟨hS0, hS1, hS2, hS3, hS4, hS5⟩ := hSw
           go_simp
           (try with_reducible rfl)
          change wpAnyH _ _ _ _ _ _ _ (Act.put _ (some 40) _) _
          simp only [Act.put, ssA, ssZ, ssS]
          refine wpAnyH_take (i := 20) (v := ?_) rfl (by kernel_rfl) (by kernel_rfl) (by kernel_rfl) (fun _ _ _ h => h) (Or.inl ⟨by kernel_rfl, ?_⟩) hHeld18 ?_
          rotate_left
          ·intro w hSw
           (try dsimp only at hSw)
           obtain ⟨hS0, hS1, hS2, hS3, hS4, hS5⟩ := hSw
           go_simp
           (try with_reducible rfl)
          change wpAnyH _ _ _ _ _ _ _ (Act.put _ (some 41) _) _
          simp only [Act.put, ssA, ssZ, ssS]
          refine wpAnyH_take (i := 21) (v := ?_) rfl (by kernel_rfl) (by kernel_rfl) (by kernel_rfl) (fun _ _ _ h => h) (Or.inl ⟨by kernel_rfl, ?_⟩) hHeld18 ?_
          rotate_left
          ·intro w hSw
           (try dsimp only at hSw)
           obtain ⟨hS0, hS1, hS2, hS3, hS4, hS5⟩ := hSw
           go_simp
           (try with_reducible rfl)
          change wpAnyH _ _ _ _ _ _ _ (Act.put _ (some 42) _) _
          simp only [Act.put, ssA, ssZ, ssS]
          refine wpAnyH_take (i := 22) (v := ?_) rfl (by kernel_rfl) (by kernel_rfl) (by kernel_rfl) (fun _ _ _ h => h) (Or.inl ⟨by kernel_rfl, ?_⟩) hHeld18 ?_
          rotate_left
          ·intro w hSw
           (try dsimp only at hSw)
           obtain ⟨hS0, hS1, hS2, hS3, hS4, hS5⟩ := hSw
           go_simp
           (try with_reducible rfl)
          change wpAnyH _ _ _ _ _ _ _ (Act.put _ (some 43) _) _
          simp only [Act.put, ssA, ssZ, ssS]
          refine wpAnyH_take (i := 23) (v := ?_) rfl (by kernel_rfl) (by kernel_rfl) (by kernel_rfl) (fun _ _ _ h => h) (Or.inl ⟨by kernel_rfl, ?_⟩) hHeld18 ?_
          rotate_left
          ·intro w hSw
           (try dsimp only at hSw)
           obtain ⟨hS0, hS1, hS2, hS3, hS4, hS5⟩ := hSw
           go_simp
           (try with_reducible rfl)
          change wpAnyH _ _ _ _ _ _ _ (Act.put _ (some 44) _) _
          simp only [Act.put, ssA, ssZ, ssS]
          refine wpAnyH_take (i := 24) (v := undef) rfl (by kernel_rfl) (by kernel_rfl) (by kernel_rfl) (fun _ _ _ h => h) (Or.inr ⟨by kernel_rfl, rfl⟩) hHeld18 ?_
          change wpAnyH _ _ _ _ _ _ _ (Act.put _ (some 45) _) _
          simp only [Act.put, ssA, ssZ, ssS]
          refine wpAnyH_take (i := 25) (v := undef) rfl (by kernel_rfl) (by kernel_rfl) (by kernel_rfl) (fun _ _ _ h => h) (Or.inr ⟨by kernel_rfl, rfl⟩) hHeld18 ?_
          change wpAnyH _ _ _ _ _ _ _ (Act.put _ (some 46) _) _
          simp only [Act.put, ssA, ssZ, ssS]
          refine wpAnyH_take (i := 26) (v := undef) rfl (by kernel_rfl) (by kernel_rfl) (by kernel_rfl) (fun _ _ _ h => h) (Or.inr ⟨by kernel_rfl, rfl⟩) hHeld18 ?_
          change wpAnyH _ _ _ _ _ _ _ (Act.put _ (some 47) _) _
          simp only [Act.put, ssA, ssZ, ssS]
          refine wpAnyH_take (i := 27) (v := undef) rfl (by kernel_rfl) (by kernel_rfl) (by kernel_rfl) (fun _ _ _ h => h) (Or.inr ⟨by kernel_rfl, rfl⟩) hHeld18 ?_
          change wpAnyH _ _ _ _ _ _ _ (Act.put _ (some 48) _) _
          simp only [Act.put, ssA, ssZ, ssS]
          refine wpAnyH_take (i := 28) (v := undef) rfl (by kernel_rfl) (by kernel_rfl) (by kernel_rfl) (fun _ _ _ h => h) (Or.inr ⟨by kernel_rfl, rfl⟩) hHeld18 ?_
          change wpAnyH _ _ _ _ _ _ _ (Act.put _ (some 49) _) _
          simp only [Act.put, ssA, ssZ, ssS]
          refine wpAnyH_take (i := 29) (v := undef) rfl (by kernel_rfl) (by kernel_rfl) (by kernel_rfl) (fun _ _ _ h => h) (Or.inr ⟨by kernel_rfl, rfl⟩) hHeld18 ?_
          change wpAnyH _ _ _ _ _ _ _ (Act.put _ (some 50) _) _
          simp only [Act.put, ssA, ssZ, ssS]
          refine wpAnyH_take (i := 30) (v := undef) rfl (by kernel_rfl) (by kernel_rfl) (by kernel_rfl) (fun _ _ _ h => h) (Or.inr ⟨by kernel_rfl, rfl⟩) hHeld18 ?_
          change wpAnyH _ _ _ _ _ _ _ (Act.put _ (some 51) _) _
          simp only [Act.put, ssA, ssZ, ssS]
          refine wpAnyH_take (i := 31) (v := undef) rfl (by kernel_rfl) (by kernel_rfl) (by kernel_rfl) (fun _ _ _ h => h) (Or.inr ⟨by kernel_rfl, rfl⟩) hHeld18 ?_
          change wpAnyH _ _ _ _ _ _ _ (Act.put _ (some 52) _) _
          simp only [Act.put, ssA, ssZ, ssS]
          refine wpAnyH_take (i := 32) (v := undef) rfl (by kernel_rfl) (by kernel_rfl) (by kernel_rfl) (fun _ _ _ h => h) (Or.inr ⟨by kernel_rfl, rfl⟩) hHeld18 ?_
          change wpAnyH _ _ _ _ _ _ _ (Act.put _ (some 53) _) _
          simp only [Act.put, ssA, ssZ, ssS]
          refine wpAnyH_take (i := 33) (v := undef) rfl (by kernel_rfl) (by kernel_rfl) (by kernel_rfl) (fun _ _ _ h => h) (Or.inr ⟨by kernel_rfl, rfl⟩) hHeld18 ?_
          change wpAnyH _ _ _ _ _ _ _ (Act.put _ (some 54) _) _
          simp only [Act.put, ssA, ssZ, ssS]
          refine wpAnyH_take (i := 34) (v := ?_) rfl (by kernel_rfl) (by kernel_rfl) (by kernel_rfl) (fun _ _ _ h => h) (Or.inl ⟨by kernel_rfl, ?_⟩) hHeld18 ?_
          rotate_left
          ·intro w hSw
           (try dsimp only at hSw)
           obtain ⟨hS0, hS1, hS2, hS3, hS4, hS5⟩ := hSw
           go_simp
           (try with_reducible rfl)
          change wpAnyH _ _ _ _ _ _ _ (Act.put _ (some 55) _) _
          simp only [Act.put, ssA, ssZ, ssS]
          refine wpAnyH_take (i := 35) (v := ?_) rfl (by kernel_rfl) (by kernel_rfl) (by kernel_rfl) (fun _ _ _ h => h) (Or.inl ⟨by kernel_rfl, ?_⟩) hHeld18 ?_
          rotate_left
          ·intro w hSw
           (try dsimp only at hSw)
           obtain ⟨hS0, hS1, hS2, hS3, hS4, hS5⟩ := hSw
           go_simp
           (try with_reducible rfl)
          change wpAnyH _ _ _ _ _ _ _ (Act.put _ (some 56) _) _
          simp only [Act.put, ssA, ssZ, ssS]
          refine wpAnyH_done (by kernel_rfl) ?_ _
          go_wp2_with fail
          go_meet
          exact ⟨rfl, hgC2⟩
         ·obtain ⟨n, rfl⟩ : ∃ n : Nat, b = n := ⟨b.toNat, by omega⟩
          obtain ⟨Y, hY, hY2, hnl, cy⟩ := HBC.out n rfl
          have f2 : decide ((n : Int) < 0) = false := by rw [decide_eq_false_iff_not]; exact hb0
          have cy1 := hgA.cell cy (by simp)
          have n0 : (0 : Int) ≤ (n : Int) := by omega
          have n1 : (n : Int) < (p.length : Int) := by omega
          have n2 : IntKind.i64.wrap (n : Int) = (n : Int) := by rw [IntKind.wrap_i64]; omega
          have KY : Hid (∀ V : World, w1.grownBy V none → (V.cell? ⟨gX, 0, none⟩ = some (.string B) ∧ V.cell? ⟨gX, 1, none⟩ = some (.string N) ∧ V.cell? ⟨gX, 2, none⟩ = some (.int .i64 xa) ∧ V.cell? ⟨gX, 3, none⟩ = some (.int .i64 xz) ∧ V.cell? ⟨gX, 4, none⟩ = some (.bool false) ∧ V.cell? ⟨gX, 5, none⟩ = some (.int .i64 Z) ∧ V.cell? ⟨g, n * 6, none⟩ = some (.string Y))) := fun V hV =>
           ⟨(hB.grown hV (by simp)).cell 0, (hB.grown hV (by simp)).cell 1, (hB.grown hV (by simp)).cell 2, (hB.grown hV (by simp)).cell 3, (hB.grown hV (by simp)).cell 4, (hB.grown hV (by simp)).cell 5, hV.cell cy1 (by simp)⟩
          have hRe : R = decide (Y.size < B.size) := by
           rw [← HR.out, f2, hY]
           simp [hkb]
          subst hRe
          clear hkb hb0 hY cy HR
          go_wp2_with fail
          refine wp_region_held_drew (S := fun V => V.cell? ⟨gX, 0, none⟩ = some (.string B) ∧ V.cell? ⟨gX, 1, none⟩ = some (.string N) ∧ V.cell? ⟨gX, 2, none⟩ = some (.int .i64 xa) ∧ V.cell? ⟨gX, 3, none⟩ = some (.int .i64 xz) ∧ V.cell? ⟨gX, 4, none⟩ = some (.bool false) ∧ V.cell? ⟨gX, 5, none⟩ = some (.int .i64 Z) ∧ V.cell? ⟨g, n * 6, none⟩ = some (.string Y)) (by kernel_rfl) (KY.out _ (gr_drew (gr_refl _ _))) (fun hHeld => ?_)
          refine wpAnyH_take (i := 0) (v := ?_) rfl (by kernel_rfl) (by kernel_rfl) (by kernel_rfl) (fun _ _ _ h => h) (Or.inl ⟨by kernel_rfl, ?_⟩) hHeld ?_
          rotate_left
          ·intro w hSw
           (try dsimp only at hSw)
           obtain ⟨hS0, hS1, hS2, hS3, hS4, hS5, hS6⟩ := hSw
           go_simp
           (try with_reducible rfl)
          change wpAnyH _ _ _ _ _ _ _ (Act.put _ (some 21) _) _
          simp only [Act.put, ssA, ssZ, ssS]
          refine wpAnyH_take (i := 1) (v := ?_) rfl (by kernel_rfl) (by kernel_rfl) (by kernel_rfl) (fun _ _ _ h => h) (Or.inl ⟨by kernel_rfl, ?_⟩) hHeld ?_
          rotate_left
          ·intro w hSw
           (try dsimp only at hSw)
           obtain ⟨hS0, hS1, hS2, hS3, hS4, hS5, hS6⟩ := hSw
           go_simp
           (try with_reducible rfl)
          change wpAnyH _ _ _ _ _ _ _ (Act.put _ (some 22) _) _
          simp only [Act.put, ssA, ssZ, ssS]
          refine wpAnyH_take (i := 2) (v := ?_) rfl (by kernel_rfl) (by kernel_rfl) (by kernel_rfl) (fun _ _ _ h => h) (Or.inl ⟨by kernel_rfl, ?_⟩) hHeld ?_
          rotate_left
          ·intro w hSw
           (try dsimp only at hSw)
           obtain ⟨hS0, hS1, hS2, hS3, hS4, hS5, hS6⟩ := hSw
           go_simp
           (try with_reducible rfl)
          change wpAnyH _ _ _ _ _ _ _ (Act.put _ (some 23) _) _
          simp only [Act.put, ssA, ssZ, ssS]
          refine wpAnyH_take (i := 3) (v := ?_) rfl (by kernel_rfl) (by kernel_rfl) (by kernel_rfl) (fun _ _ _ h => h) (Or.inl ⟨by kernel_rfl, ?_⟩) hHeld ?_
          rotate_left
          ·intro w hSw
           (try dsimp only at hSw)
           obtain ⟨hS0, hS1, hS2, hS3, hS4, hS5, hS6⟩ := hSw
           go_simp
           (try with_reducible rfl)
          change wpAnyH _ _ _ _ _ _ _ (Act.put _ (some 24) _) _
          simp only [Act.put, ssA, ssZ, ssS]
          refine wpAnyH_take (i := 4) (v := ?_) rfl (by kernel_rfl) (by kernel_rfl) (by kernel_rfl) (fun _ _ _ h => h) (Or.inl ⟨by kernel_rfl, ?_⟩) hHeld ?_
          rotate_left
          ·intro w hSw
           (try dsimp only at hSw)
           obtain ⟨hS0, hS1, hS2, hS3, hS4, hS5, hS6⟩ := hSw
           go_simp
           (try with_reducible rfl)
          change wpAnyH _ _ _ _ _ _ _ (Act.put _ (some 25) _) _
          simp only [Act.put, ssA, ssZ, ssS]
          refine wpAnyH_take (i := 5) (v := ?_) rfl (by kernel_rfl) (by kernel_rfl) (by kernel_rfl) (fun _ _ _ h => h) (Or.inl ⟨by kernel_rfl, ?_⟩) hHeld ?_
          rotate_left
          ·intro w hSw
           (try dsimp only at hSw)
           obtain ⟨hS0, hS1, hS2, hS3, hS4, hS5, hS6⟩ := hSw
           go_simp
           (try with_reducible rfl)
          change wpAnyH _ _ _ _ _ _ _ (Act.put _ (some 26) _) _
          simp only [Act.put, ssA, ssZ, ssS]
          refine wpAnyH_take (i := 6) (v := ?_) rfl (by kernel_rfl) (by kernel_rfl) (by kernel_rfl) (fun _ _ _ h => h) (Or.inl ⟨by kernel_rfl, ?_⟩) hHeld ?_
          rotate_left
          ·intro w hSw
           (try dsimp only at hSw)
           obtain ⟨hS0, hS1, hS2, hS3, hS4, hS5, hS6⟩ := hSw
           go_simp
           (try with_reducible rfl)
          change wpAnyH _ _ _ _ _ _ _ (Act.put _ (some 27) _) _
          simp only [Act.put, ssA, ssZ, ssS]
          refine wpAnyH_take (i := 7) (v := ?_) rfl (by kernel_rfl) (by kernel_rfl) (by kernel_rfl) (fun _ _ _ h => h) (Or.inl ⟨by kernel_rfl, ?_⟩) hHeld ?_
          rotate_left
          ·intro w hSw
           (try dsimp only at hSw)
           obtain ⟨hS0, hS1, hS2, hS3, hS4, hS5, hS6⟩ := hSw
           go_simp
           (try with_reducible rfl)
          change wpAnyH _ _ _ _ _ _ _ (Act.put _ (some 28) _) _
          simp only [Act.put, ssA, ssZ, ssS]
          refine wpAnyH_take (i := 8) (v := ?_) rfl (by kernel_rfl) (by kernel_rfl) (by kernel_rfl) (fun _ _ _ h => h) (Or.inl ⟨by kernel_rfl, ?_⟩) hHeld ?_
          rotate_left
          ·intro w hSw
           (try dsimp only at hSw)
           obtain ⟨hS0, hS1, hS2, hS3, hS4, hS5, hS6⟩ := hSw
           go_simp
           (try with_reducible rfl)
          change wpAnyH _ _ _ _ _ _ _ (Act.put _ (some 29) _) _
          simp only [Act.put, ssA, ssZ, ssS]
          refine wpAnyH_take (i := 9) (v := ?_) rfl (by kernel_rfl) (by kernel_rfl) (by kernel_rfl) (fun _ _ _ h => h) (Or.inl ⟨by kernel_rfl, ?_⟩) hHeld ?_
          rotate_left
          ·intro w hSw
           (try dsimp only at hSw)
           obtain ⟨hS0, hS1, hS2, hS3, hS4, hS5, hS6⟩ := hSw
           go_simp
           (try with_reducible rfl)
          change wpAnyH _ _ _ _ _ _ _ (Act.put _ (some 30) _) _
          simp only [Act.put, ssA, ssZ, ssS]
          refine wpAnyH_take (i := 10) (v := ?_) rfl (by kernel_rfl) (by kernel_rfl) (by kernel_rfl) (fun _ _ _ h => h) (Or.inl ⟨by kernel_rfl, ?_⟩) hHeld ?_
          rotate_left
          ·intro w hSw
           (try dsimp only at hSw)
           obtain ⟨hS0, hS1, hS2, hS3, hS4, hS5, hS6⟩ := hSw
           go_simp
           (try with_reducible rfl)
          change wpAnyH _ _ _ _ _ _ _ (Act.put _ (some 31) _) _
          simp only [Act.put, ssA, ssZ, ssS]
          refine wpAnyH_take (i := 11) (v := ?_) rfl (by kernel_rfl) (by kernel_rfl) (by kernel_rfl) (fun _ _ _ h => h) (Or.inl ⟨by kernel_rfl, ?_⟩) hHeld ?_
          rotate_left
          ·intro w hSw
           (try dsimp only at hSw)
           obtain ⟨hS0, hS1, hS2, hS3, hS4, hS5, hS6⟩ := hSw
           go_simp
           (try with_reducible rfl)
          change wpAnyH _ _ _ _ _ _ _ (Act.put _ (some 32) _) _
          simp only [Act.put, ssA, ssZ, ssS]
          refine wpAnyH_ready (rs := [12]) (by kernel_rfl) (by simp) ?_
          refine AllReadyH.cons (o := _) rfl (fun K hK => ?_) AllReadyH.nil
          go_simp
          (go_at_call 69; refine (HCN.out _ (gr_drew hg1)).mono ?_; rintro _ wC ⟨rfl, hgC⟩; have hgC2 := gr_trans (gr_drew (gr_refl w1 none)) hgC)
          refine hK.out _ _ (KY.out _ hgC2) (fun hHeld12 => ?_)
          clear hK K
          (try simp only [Act.put, ssA, ssZ, ssS])
          refine wpAnyH_take (i := 13) (v := ?_) rfl (by kernel_rfl) (by kernel_rfl) (by kernel_rfl) (fun _ _ _ h => h) (Or.inl ⟨by kernel_rfl, ?_⟩) hHeld12 ?_
          rotate_left
          ·intro w hSw
           (try dsimp only at hSw)
           obtain ⟨hS0, hS1, hS2, hS3, hS4, hS5, hS6⟩ := hSw
           go_simp
           (try with_reducible rfl)
          change wpAnyH _ _ _ _ _ _ _ (Act.put _ (some 34) _) _
          simp only [Act.put, ssA, ssZ, ssS]
          refine wpAnyH_take (i := 14) (v := ?_) rfl (by kernel_rfl) (by kernel_rfl) (by kernel_rfl) (fun _ _ _ h => h) (Or.inl ⟨by kernel_rfl, ?_⟩) hHeld12 ?_
          rotate_left
          ·intro w hSw
           (try dsimp only at hSw)
           obtain ⟨hS0, hS1, hS2, hS3, hS4, hS5, hS6⟩ := hSw
           go_simp
           (try with_reducible rfl)
          change wpAnyH _ _ _ _ _ _ _ (Act.put _ (some 35) _) _
          simp only [Act.put, ssA, ssZ, ssS]
          refine wpAnyH_take (i := 15) (v := ?_) rfl (by kernel_rfl) (by kernel_rfl) (by kernel_rfl) (fun _ _ _ h => h) (Or.inl ⟨by kernel_rfl, ?_⟩) hHeld12 ?_
          rotate_left
          ·intro w hSw
           (try dsimp only at hSw)
           obtain ⟨hS0, hS1, hS2, hS3, hS4, hS5, hS6⟩ := hSw
           go_simp
           (try with_reducible rfl)
          change wpAnyH _ _ _ _ _ _ _ (Act.put _ (some 36) _) _
          simp only [Act.put, ssA, ssZ, ssS]
          refine wpAnyH_take (i := 16) (v := ?_) rfl (by kernel_rfl) (by kernel_rfl) (by kernel_rfl) (fun _ _ _ h => h) (Or.inl ⟨by kernel_rfl, ?_⟩) hHeld12 ?_
          rotate_left
          ·intro w hSw
           (try dsimp only at hSw)
           obtain ⟨hS0, hS1, hS2, hS3, hS4, hS5, hS6⟩ := hSw
           go_simp
           (try with_reducible rfl)
          change wpAnyH _ _ _ _ _ _ _ (Act.put _ (some 37) _) _
          simp only [Act.put, ssA, ssZ, ssS]
          refine wpAnyH_take (i := 17) (v := ?_) rfl (by kernel_rfl) (by kernel_rfl) (by kernel_rfl) (fun _ _ _ h => h) (Or.inl ⟨by kernel_rfl, ?_⟩) hHeld12 ?_
          rotate_left
          ·intro w hSw
           (try dsimp only at hSw)
           obtain ⟨hS0, hS1, hS2, hS3, hS4, hS5, hS6⟩ := hSw
           go_simp
           (try with_reducible rfl)
          change wpAnyH _ _ _ _ _ _ _ (Act.put _ (some 38) _) _
          simp only [Act.put, ssA, ssZ, ssS]
          refine wpAnyH_ready (rs := [18]) (by kernel_rfl) (by simp) ?_
          refine AllReadyH.cons (o := _) rfl (fun K hK => ?_) AllReadyH.nil
          go_simp
          (go_at_call 123; refine (HHP.out _).mono ?_; rintro _ _ ⟨rfl, rfl⟩)
          refine hK.out _ _ (KY.out _ hgC2) (fun hHeld18 => ?_)
          clear hK K
          (try simp only [Act.put, ssA, ssZ, ssS])
          refine wpAnyH_take (i := 19) (v := ?_) rfl (by kernel_rfl) (by kernel_rfl) (by kernel_rfl) (fun _ _ _ h => h) (Or.inl ⟨by kernel_rfl, ?_⟩) hHeld18 ?_
          rotate_left
          ·intro w hSw
           (try dsimp only at hSw)
           obtain ⟨hS0, hS1, hS2, hS3, hS4, hS5, hS6⟩ := hSw
           go_simp
           (try with_reducible rfl)
          change wpAnyH _ _ _ _ _ _ _ (Act.put _ (some 40) _) _
          simp only [Act.put, ssA, ssZ, ssS]
          refine wpAnyH_take (i := 20) (v := ?_) rfl (by kernel_rfl) (by kernel_rfl) (by kernel_rfl) (fun _ _ _ h => h) (Or.inl ⟨by kernel_rfl, ?_⟩) hHeld18 ?_
          rotate_left
          ·intro w hSw
           (try dsimp only at hSw)
           obtain ⟨hS0, hS1, hS2, hS3, hS4, hS5, hS6⟩ := hSw
           go_simp
           (try with_reducible rfl)
          change wpAnyH _ _ _ _ _ _ _ (Act.put _ (some 41) _) _
          simp only [Act.put, ssA, ssZ, ssS]
          refine wpAnyH_take (i := 21) (v := ?_) rfl (by kernel_rfl) (by kernel_rfl) (by kernel_rfl) (fun _ _ _ h => h) (Or.inl ⟨by kernel_rfl, ?_⟩) hHeld18 ?_
          rotate_left
          ·intro w hSw
           (try dsimp only at hSw)
           obtain ⟨hS0, hS1, hS2, hS3, hS4, hS5, hS6⟩ := hSw
           go_simp
           (try with_reducible rfl)
          change wpAnyH _ _ _ _ _ _ _ (Act.put _ (some 42) _) _
          simp only [Act.put, ssA, ssZ, ssS]
          refine wpAnyH_take (i := 22) (v := ?_) rfl (by kernel_rfl) (by kernel_rfl) (by kernel_rfl) (fun _ _ _ h => h) (Or.inl ⟨by kernel_rfl, ?_⟩) hHeld18 ?_
          rotate_left
          ·intro w hSw
           (try dsimp only at hSw)
           obtain ⟨hS0, hS1, hS2, hS3, hS4, hS5, hS6⟩ := hSw
           go_simp
           (try with_reducible rfl)
          change wpAnyH _ _ _ _ _ _ _ (Act.put _ (some 43) _) _
          simp only [Act.put, ssA, ssZ, ssS]
          refine wpAnyH_take (i := 23) (v := ?_) rfl (by kernel_rfl) (by kernel_rfl) (by kernel_rfl) (fun _ _ _ h => h) (Or.inl ⟨by kernel_rfl, ?_⟩) hHeld18 ?_
          rotate_left
          ·intro w hSw
           (try dsimp only at hSw)
           obtain ⟨hS0, hS1, hS2, hS3, hS4, hS5, hS6⟩ := hSw
           go_simp
           (try with_reducible rfl)
          change wpAnyH _ _ _ _ _ _ _ (Act.put _ (some 44) _) _
          simp only [Act.put, ssA, ssZ, ssS]
          refine wpAnyH_take (i := 24) (v := ?_) rfl (by kernel_rfl) (by kernel_rfl) (by kernel_rfl) (fun _ _ _ h => h) (Or.inl ⟨by kernel_rfl, ?_⟩) hHeld18 ?_
          rotate_left
          ·intro w hSw
           (try dsimp only at hSw)
           obtain ⟨hS0, hS1, hS2, hS3, hS4, hS5, hS6⟩ := hSw
           go_simp
           (try with_reducible rfl)
          change wpAnyH _ _ _ _ _ _ _ (Act.put _ (some 45) _) _
          simp only [Act.put, ssA, ssZ, ssS]
          refine wpAnyH_take (i := 25) (v := ?_) rfl (by kernel_rfl) (by kernel_rfl) (by kernel_rfl) (fun _ _ _ h => h) (Or.inl ⟨by kernel_rfl, ?_⟩) hHeld18 ?_
          rotate_left
          ·intro w hSw
           (try dsimp only at hSw)
           obtain ⟨hS0, hS1, hS2, hS3, hS4, hS5, hS6⟩ := hSw
           go_simp
           (try with_reducible rfl)
          change wpAnyH _ _ _ _ _ _ _ (Act.put _ (some 46) _) _
          simp only [Act.put, ssA, ssZ, ssS]
          refine wpAnyH_take (i := 26) (v := ?_) rfl (by kernel_rfl) (by kernel_rfl) (by kernel_rfl) (fun _ _ _ h => h) (Or.inl ⟨by kernel_rfl, ?_⟩) hHeld18 ?_
          rotate_left
          ·intro w hSw
           (try dsimp only at hSw)
           obtain ⟨hS0, hS1, hS2, hS3, hS4, hS5, hS6⟩ := hSw
           go_simp
           (try with_reducible rfl)
          change wpAnyH _ _ _ _ _ _ _ (Act.put _ (some 47) _) _
          simp only [Act.put, ssA, ssZ, ssS]
          refine wpAnyH_take (i := 27) (v := ?_) rfl (by kernel_rfl) (by kernel_rfl) (by kernel_rfl) (fun _ _ _ h => h) (Or.inl ⟨by kernel_rfl, ?_⟩) hHeld18 ?_
          rotate_left
          ·intro w hSw
           (try dsimp only at hSw)
           obtain ⟨hS0, hS1, hS2, hS3, hS4, hS5, hS6⟩ := hSw
           go_simp
           (try with_reducible rfl)
          change wpAnyH _ _ _ _ _ _ _ (Act.put _ (some 48) _) _
          simp only [Act.put, ssA, ssZ, ssS]
          refine wpAnyH_take (i := 28) (v := ?_) rfl (by kernel_rfl) (by kernel_rfl) (by kernel_rfl) (fun _ _ _ h => h) (Or.inl ⟨by kernel_rfl, ?_⟩) hHeld18 ?_
          rotate_left
          ·intro w hSw
           (try dsimp only at hSw)
           obtain ⟨hS0, hS1, hS2, hS3, hS4, hS5, hS6⟩ := hSw
           go_simp
           (try with_reducible rfl)
          change wpAnyH _ _ _ _ _ _ _ (Act.put _ (some 49) _) _
          simp only [Act.put, ssA, ssZ, ssS]
          refine wpAnyH_take (i := 29) (v := ?_) rfl (by kernel_rfl) (by kernel_rfl) (by kernel_rfl) (fun _ _ _ h => h) (Or.inl ⟨by kernel_rfl, ?_⟩) hHeld18 ?_
          rotate_left
          ·intro w hSw
           (try dsimp only at hSw)
           obtain ⟨hS0, hS1, hS2, hS3, hS4, hS5, hS6⟩ := hSw
           go_simp
           (try with_reducible rfl)
          change wpAnyH _ _ _ _ _ _ _ (Act.put _ (some 50) _) _
          simp only [Act.put, ssA, ssZ, ssS]
          refine wpAnyH_take (i := 30) (v := ?_) rfl (by kernel_rfl) (by kernel_rfl) (by kernel_rfl) (fun _ _ _ h => h) (Or.inl ⟨by kernel_rfl, ?_⟩) hHeld18 ?_
          rotate_left
          ·intro w hSw
           (try dsimp only at hSw)
           obtain ⟨hS0, hS1, hS2, hS3, hS4, hS5, hS6⟩ := hSw
           go_simp
           (try with_reducible rfl)
          change wpAnyH _ _ _ _ _ _ _ (Act.put _ (some 51) _) _
          simp only [Act.put, ssA, ssZ, ssS]
          refine wpAnyH_take (i := 31) (v := ?_) rfl (by kernel_rfl) (by kernel_rfl) (by kernel_rfl) (fun _ _ _ h => h) (Or.inl ⟨by kernel_rfl, ?_⟩) hHeld18 ?_
          rotate_left
          ·intro w hSw
           (try dsimp only at hSw)
           obtain ⟨hS0, hS1, hS2, hS3, hS4, hS5, hS6⟩ := hSw
           go_simp
           (try with_reducible rfl)
          change wpAnyH _ _ _ _ _ _ _ (Act.put _ (some 52) _) _
          simp only [Act.put, ssA, ssZ, ssS]
          refine wpAnyH_take (i := 32) (v := ?_) rfl (by kernel_rfl) (by kernel_rfl) (by kernel_rfl) (fun _ _ _ h => h) (Or.inl ⟨by kernel_rfl, ?_⟩) hHeld18 ?_
          rotate_left
          ·intro w hSw
           (try dsimp only at hSw)
           obtain ⟨hS0, hS1, hS2, hS3, hS4, hS5, hS6⟩ := hSw
           go_simp
           (try with_reducible rfl)
          change wpAnyH _ _ _ _ _ _ _ (Act.put _ (some 53) _) _
          simp only [Act.put, ssA, ssZ, ssS]
          refine wpAnyH_take (i := 33) (v := ?_) rfl (by kernel_rfl) (by kernel_rfl) (by kernel_rfl) (fun _ _ _ h => h) (Or.inl ⟨by kernel_rfl, ?_⟩) hHeld18 ?_
          rotate_left
          ·intro w hSw
           (try dsimp only at hSw)
           obtain ⟨hS0, hS1, hS2, hS3, hS4, hS5, hS6⟩ := hSw
           go_simp
           (try with_reducible rfl)
          change wpAnyH _ _ _ _ _ _ _ (Act.put _ (some 54) _) _
          simp only [Act.put, ssA, ssZ, ssS]
          refine wpAnyH_take (i := 34) (v := ?_) rfl (by kernel_rfl) (by kernel_rfl) (by kernel_rfl) (fun _ _ _ h => h) (Or.inl ⟨by kernel_rfl, ?_⟩) hHeld18 ?_
          rotate_left
          ·intro w hSw
           (try dsimp only at hSw)
           obtain ⟨hS0, hS1, hS2, hS3, hS4, hS5, hS6⟩ := hSw
           go_simp
           (try with_reducible rfl)
          change wpAnyH _ _ _ _ _ _ _ (Act.put _ (some 55) _) _
          simp only [Act.put, ssA, ssZ, ssS]
          refine wpAnyH_take (i := 35) (v := ?_) rfl (by kernel_rfl) (by kernel_rfl) (by kernel_rfl) (fun _ _ _ h => h) (Or.inl ⟨by kernel_rfl, ?_⟩) hHeld18 ?_
          rotate_left
          ·intro w hSw
           (try dsimp only at hSw)
           obtain ⟨hS0, hS1, hS2, hS3, hS4, hS5, hS6⟩ := hSw
           go_simp
           (try with_reducible rfl)
          change wpAnyH _ _ _ _ _ _ _ (Act.put _ (some 56) _) _
          simp only [Act.put, ssA, ssZ, ssS]
          refine wpAnyH_done (by kernel_rfl) ?_ _
          go_wp2_with fail
          go_meet
          exact ⟨rfl, hgC2⟩
      ·have hRf : R = false := by rw [← HR.out]; simp
       subst hRf
       clear hkb
       go_wp2_with fail
       refine wp_region_held_drew (S := fun V => V.cell? ⟨gX, 0, none⟩ = some (.string B) ∧ V.cell? ⟨gX, 1, none⟩ = some (.string N) ∧ V.cell? ⟨gX, 2, none⟩ = some (.int .i64 xa) ∧ V.cell? ⟨gX, 3, none⟩ = some (.int .i64 xz) ∧ V.cell? ⟨gX, 4, none⟩ = some (.bool true) ∧ V.cell? ⟨gX, 5, none⟩ = some (.int .i64 Z)) (by kernel_rfl) (KX.out _ (gr_drew (gr_refl _ _))) (fun hHeld => ?_)
       refine wpAnyH_take (i := 0) (v := ?_) rfl (by kernel_rfl) (by kernel_rfl) (by kernel_rfl) (fun _ _ _ h => h) (Or.inl ⟨by kernel_rfl, ?_⟩) hHeld ?_
       rotate_left
       ·intro w hSw
        (try dsimp only at hSw)
        obtain ⟨hS0, hS1, hS2, hS3, hS4, hS5⟩ := hSw
        go_simp
        (try with_reducible rfl)
       change wpAnyH _ _ _ _ _ _ _ (Act.put _ (some 21) _) _
       simp only [Act.put, ssA, ssZ, ssS]
       refine wpAnyH_take (i := 1) (v := ?_) rfl (by kernel_rfl) (by kernel_rfl) (by kernel_rfl) (fun _ _ _ h => h) (Or.inl ⟨by kernel_rfl, ?_⟩) hHeld ?_
       rotate_left
       ·intro w hSw
        (try dsimp only at hSw)
        obtain ⟨hS0, hS1, hS2, hS3, hS4, hS5⟩ := hSw
        go_simp
        (try with_reducible rfl)
       change wpAnyH _ _ _ _ _ _ _ (Act.put _ (some 22) _) _
       simp only [Act.put, ssA, ssZ, ssS]
       refine wpAnyH_take (i := 2) (v := ?_) rfl (by kernel_rfl) (by kernel_rfl) (by kernel_rfl) (fun _ _ _ h => h) (Or.inl ⟨by kernel_rfl, ?_⟩) hHeld ?_
       rotate_left
       ·intro w hSw
        (try dsimp only at hSw)
        obtain ⟨hS0, hS1, hS2, hS3, hS4, hS5⟩ := hSw
        go_simp
        (try with_reducible rfl)
       change wpAnyH _ _ _ _ _ _ _ (Act.put _ (some 23) _) _
       simp only [Act.put, ssA, ssZ, ssS]
       refine wpAnyH_take (i := 3) (v := ?_) rfl (by kernel_rfl) (by kernel_rfl) (by kernel_rfl) (fun _ _ _ h => h) (Or.inl ⟨by kernel_rfl, ?_⟩) hHeld ?_
       rotate_left
       ·intro w hSw
        (try dsimp only at hSw)
        obtain ⟨hS0, hS1, hS2, hS3, hS4, hS5⟩ := hSw
        go_simp
        (try with_reducible rfl)
       change wpAnyH _ _ _ _ _ _ _ (Act.put _ (some 24) _) _
       simp only [Act.put, ssA, ssZ, ssS]
       refine wpAnyH_take (i := 4) (v := ?_) rfl (by kernel_rfl) (by kernel_rfl) (by kernel_rfl) (fun _ _ _ h => h) (Or.inl ⟨by kernel_rfl, ?_⟩) hHeld ?_
       rotate_left
       ·intro w hSw
        (try dsimp only at hSw)
        obtain ⟨hS0, hS1, hS2, hS3, hS4, hS5⟩ := hSw
        go_simp
        (try with_reducible rfl)
       change wpAnyH _ _ _ _ _ _ _ (Act.put _ (some 25) _) _
       simp only [Act.put, ssA, ssZ, ssS]
       refine wpAnyH_take (i := 5) (v := ?_) rfl (by kernel_rfl) (by kernel_rfl) (by kernel_rfl) (fun _ _ _ h => h) (Or.inl ⟨by kernel_rfl, ?_⟩) hHeld ?_
       rotate_left
       ·intro w hSw
        (try dsimp only at hSw)
        obtain ⟨hS0, hS1, hS2, hS3, hS4, hS5⟩ := hSw
        go_simp
        (try with_reducible rfl)
       change wpAnyH _ _ _ _ _ _ _ (Act.put _ (some 26) _) _
       simp only [Act.put, ssA, ssZ, ssS]
       refine wpAnyH_take (i := 6) (v := ?_) rfl (by kernel_rfl) (by kernel_rfl) (by kernel_rfl) (fun _ _ _ h => h) (Or.inl ⟨by kernel_rfl, ?_⟩) hHeld ?_
       rotate_left
       ·intro w hSw
        (try dsimp only at hSw)
        obtain ⟨hS0, hS1, hS2, hS3, hS4, hS5⟩ := hSw
        go_simp
        (try with_reducible rfl)
       change wpAnyH _ _ _ _ _ _ _ (Act.put _ (some 27) _) _
       simp only [Act.put, ssA, ssZ, ssS]
       refine wpAnyH_take (i := 7) (v := ?_) rfl (by kernel_rfl) (by kernel_rfl) (by kernel_rfl) (fun _ _ _ h => h) (Or.inl ⟨by kernel_rfl, ?_⟩) hHeld ?_
       rotate_left
       ·intro w hSw
        (try dsimp only at hSw)
        obtain ⟨hS0, hS1, hS2, hS3, hS4, hS5⟩ := hSw
        go_simp
        (try with_reducible rfl)
       change wpAnyH _ _ _ _ _ _ _ (Act.put _ (some 28) _) _
       simp only [Act.put, ssA, ssZ, ssS]
       refine wpAnyH_take (i := 8) (v := ?_) rfl (by kernel_rfl) (by kernel_rfl) (by kernel_rfl) (fun _ _ _ h => h) (Or.inl ⟨by kernel_rfl, ?_⟩) hHeld ?_
       rotate_left
       ·intro w hSw
        (try dsimp only at hSw)
        obtain ⟨hS0, hS1, hS2, hS3, hS4, hS5⟩ := hSw
        go_simp
        (try with_reducible rfl)
       change wpAnyH _ _ _ _ _ _ _ (Act.put _ (some 29) _) _
       simp only [Act.put, ssA, ssZ, ssS]
       refine wpAnyH_take (i := 9) (v := undef) rfl (by kernel_rfl) (by kernel_rfl) (by kernel_rfl) (fun _ _ _ h => h) (Or.inr ⟨by kernel_rfl, rfl⟩) hHeld ?_
       change wpAnyH _ _ _ _ _ _ _ (Act.put _ (some 30) _) _
       simp only [Act.put, ssA, ssZ, ssS]
       refine wpAnyH_take (i := 10) (v := undef) rfl (by kernel_rfl) (by kernel_rfl) (by kernel_rfl) (fun _ _ _ h => h) (Or.inr ⟨by kernel_rfl, rfl⟩) hHeld ?_
       change wpAnyH _ _ _ _ _ _ _ (Act.put _ (some 31) _) _
       simp only [Act.put, ssA, ssZ, ssS]
       refine wpAnyH_take (i := 11) (v := undef) rfl (by kernel_rfl) (by kernel_rfl) (by kernel_rfl) (fun _ _ _ h => h) (Or.inr ⟨by kernel_rfl, rfl⟩) hHeld ?_
       change wpAnyH _ _ _ _ _ _ _ (Act.put _ (some 32) _) _
       simp only [Act.put, ssA, ssZ, ssS]
       refine wpAnyH_take (i := 12) (v := undef) rfl (by kernel_rfl) (by kernel_rfl) (by kernel_rfl) (fun _ _ _ h => h) (Or.inr ⟨by kernel_rfl, rfl⟩) hHeld ?_
       change wpAnyH _ _ _ _ _ _ _ (Act.put _ (some 33) _) _
       simp only [Act.put, ssA, ssZ, ssS]
       refine wpAnyH_take (i := 13) (v := ?_) rfl (by kernel_rfl) (by kernel_rfl) (by kernel_rfl) (fun _ _ _ h => h) (Or.inl ⟨by kernel_rfl, ?_⟩) hHeld ?_
       rotate_left
       ·intro w hSw
        (try dsimp only at hSw)
        obtain ⟨hS0, hS1, hS2, hS3, hS4, hS5⟩ := hSw
        go_simp
        (try with_reducible rfl)
       change wpAnyH _ _ _ _ _ _ _ (Act.put _ (some 34) _) _
       simp only [Act.put, ssA, ssZ, ssS]
       refine wpAnyH_take (i := 14) (v := ?_) rfl (by kernel_rfl) (by kernel_rfl) (by kernel_rfl) (fun _ _ _ h => h) (Or.inl ⟨by kernel_rfl, ?_⟩) hHeld ?_
       rotate_left
       ·intro w hSw
        (try dsimp only at hSw)
        obtain ⟨hS0, hS1, hS2, hS3, hS4, hS5⟩ := hSw
        go_simp
        (try with_reducible rfl)
       change wpAnyH _ _ _ _ _ _ _ (Act.put _ (some 35) _) _
       simp only [Act.put, ssA, ssZ, ssS]
       refine wpAnyH_take (i := 15) (v := undef) rfl (by kernel_rfl) (by kernel_rfl) (by kernel_rfl) (fun _ _ _ h => h) (Or.inr ⟨by kernel_rfl, rfl⟩) hHeld ?_
       change wpAnyH _ _ _ _ _ _ _ (Act.put _ (some 36) _) _
       simp only [Act.put, ssA, ssZ, ssS]
       refine wpAnyH_take (i := 16) (v := undef) rfl (by kernel_rfl) (by kernel_rfl) (by kernel_rfl) (fun _ _ _ h => h) (Or.inr ⟨by kernel_rfl, rfl⟩) hHeld ?_
       change wpAnyH _ _ _ _ _ _ _ (Act.put _ (some 37) _) _
       simp only [Act.put, ssA, ssZ, ssS]
       refine wpAnyH_take (i := 17) (v := undef) rfl (by kernel_rfl) (by kernel_rfl) (by kernel_rfl) (fun _ _ _ h => h) (Or.inr ⟨by kernel_rfl, rfl⟩) hHeld ?_
       change wpAnyH _ _ _ _ _ _ _ (Act.put _ (some 38) _) _
       simp only [Act.put, ssA, ssZ, ssS]
       refine wpAnyH_take (i := 18) (v := undef) rfl (by kernel_rfl) (by kernel_rfl) (by kernel_rfl) (fun _ _ _ h => h) (Or.inr ⟨by kernel_rfl, rfl⟩) hHeld ?_
       change wpAnyH _ _ _ _ _ _ _ (Act.put _ (some 39) _) _
       simp only [Act.put, ssA, ssZ, ssS]
       refine wpAnyH_take (i := 19) (v := ?_) rfl (by kernel_rfl) (by kernel_rfl) (by kernel_rfl) (fun _ _ _ h => h) (Or.inl ⟨by kernel_rfl, ?_⟩) hHeld ?_
       rotate_left
       ·intro w hSw
        (try dsimp only at hSw)
        obtain ⟨hS0, hS1, hS2, hS3, hS4, hS5⟩ := hSw
        go_simp
        (try with_reducible rfl)
       change wpAnyH _ _ _ _ _ _ _ (Act.put _ (some 40) _) _
       simp only [Act.put, ssA, ssZ, ssS]
       refine wpAnyH_take (i := 20) (v := ?_) rfl (by kernel_rfl) (by kernel_rfl) (by kernel_rfl) (fun _ _ _ h => h) (Or.inl ⟨by kernel_rfl, ?_⟩) hHeld ?_
       rotate_left
       ·intro w hSw
        (try dsimp only at hSw)
        obtain ⟨hS0, hS1, hS2, hS3, hS4, hS5⟩ := hSw
        go_simp
        (try with_reducible rfl)
       change wpAnyH _ _ _ _ _ _ _ (Act.put _ (some 41) _) _
       simp only [Act.put, ssA, ssZ, ssS]
       refine wpAnyH_take (i := 21) (v := undef) rfl (by kernel_rfl) (by kernel_rfl) (by kernel_rfl) (fun _ _ _ h => h) (Or.inr ⟨by kernel_rfl, rfl⟩) hHeld ?_
       change wpAnyH _ _ _ _ _ _ _ (Act.put _ (some 42) _) _
       simp only [Act.put, ssA, ssZ, ssS]
       refine wpAnyH_take (i := 22) (v := undef) rfl (by kernel_rfl) (by kernel_rfl) (by kernel_rfl) (fun _ _ _ h => h) (Or.inr ⟨by kernel_rfl, rfl⟩) hHeld ?_
       change wpAnyH _ _ _ _ _ _ _ (Act.put _ (some 43) _) _
       simp only [Act.put, ssA, ssZ, ssS]
       refine wpAnyH_take (i := 23) (v := undef) rfl (by kernel_rfl) (by kernel_rfl) (by kernel_rfl) (fun _ _ _ h => h) (Or.inr ⟨by kernel_rfl, rfl⟩) hHeld ?_
       change wpAnyH _ _ _ _ _ _ _ (Act.put _ (some 44) _) _
       simp only [Act.put, ssA, ssZ, ssS]
       refine wpAnyH_take (i := 24) (v := undef) rfl (by kernel_rfl) (by kernel_rfl) (by kernel_rfl) (fun _ _ _ h => h) (Or.inr ⟨by kernel_rfl, rfl⟩) hHeld ?_
       change wpAnyH _ _ _ _ _ _ _ (Act.put _ (some 45) _) _
       simp only [Act.put, ssA, ssZ, ssS]
       refine wpAnyH_take (i := 25) (v := undef) rfl (by kernel_rfl) (by kernel_rfl) (by kernel_rfl) (fun _ _ _ h => h) (Or.inr ⟨by kernel_rfl, rfl⟩) hHeld ?_
       change wpAnyH _ _ _ _ _ _ _ (Act.put _ (some 46) _) _
       simp only [Act.put, ssA, ssZ, ssS]
       refine wpAnyH_take (i := 26) (v := undef) rfl (by kernel_rfl) (by kernel_rfl) (by kernel_rfl) (fun _ _ _ h => h) (Or.inr ⟨by kernel_rfl, rfl⟩) hHeld ?_
       change wpAnyH _ _ _ _ _ _ _ (Act.put _ (some 47) _) _
       simp only [Act.put, ssA, ssZ, ssS]
       refine wpAnyH_take (i := 27) (v := undef) rfl (by kernel_rfl) (by kernel_rfl) (by kernel_rfl) (fun _ _ _ h => h) (Or.inr ⟨by kernel_rfl, rfl⟩) hHeld ?_
       change wpAnyH _ _ _ _ _ _ _ (Act.put _ (some 48) _) _
       simp only [Act.put, ssA, ssZ, ssS]
       refine wpAnyH_take (i := 28) (v := undef) rfl (by kernel_rfl) (by kernel_rfl) (by kernel_rfl) (fun _ _ _ h => h) (Or.inr ⟨by kernel_rfl, rfl⟩) hHeld ?_
       change wpAnyH _ _ _ _ _ _ _ (Act.put _ (some 49) _) _
       simp only [Act.put, ssA, ssZ, ssS]
       refine wpAnyH_take (i := 29) (v := undef) rfl (by kernel_rfl) (by kernel_rfl) (by kernel_rfl) (fun _ _ _ h => h) (Or.inr ⟨by kernel_rfl, rfl⟩) hHeld ?_
       change wpAnyH _ _ _ _ _ _ _ (Act.put _ (some 50) _) _
       simp only [Act.put, ssA, ssZ, ssS]
       refine wpAnyH_take (i := 30) (v := undef) rfl (by kernel_rfl) (by kernel_rfl) (by kernel_rfl) (fun _ _ _ h => h) (Or.inr ⟨by kernel_rfl, rfl⟩) hHeld ?_
       change wpAnyH _ _ _ _ _ _ _ (Act.put _ (some 51) _) _
       simp only [Act.put, ssA, ssZ, ssS]
       refine wpAnyH_take (i := 31) (v := undef) rfl (by kernel_rfl) (by kernel_rfl) (by kernel_rfl) (fun _ _ _ h => h) (Or.inr ⟨by kernel_rfl, rfl⟩) hHeld ?_
       change wpAnyH _ _ _ _ _ _ _ (Act.put _ (some 52) _) _
       simp only [Act.put, ssA, ssZ, ssS]
       refine wpAnyH_take (i := 32) (v := undef) rfl (by kernel_rfl) (by kernel_rfl) (by kernel_rfl) (fun _ _ _ h => h) (Or.inr ⟨by kernel_rfl, rfl⟩) hHeld ?_
       change wpAnyH _ _ _ _ _ _ _ (Act.put _ (some 53) _) _
       simp only [Act.put, ssA, ssZ, ssS]
       refine wpAnyH_take (i := 33) (v := undef) rfl (by kernel_rfl) (by kernel_rfl) (by kernel_rfl) (fun _ _ _ h => h) (Or.inr ⟨by kernel_rfl, rfl⟩) hHeld ?_
       change wpAnyH _ _ _ _ _ _ _ (Act.put _ (some 54) _) _
       simp only [Act.put, ssA, ssZ, ssS]
       refine wpAnyH_take (i := 34) (v := undef) rfl (by kernel_rfl) (by kernel_rfl) (by kernel_rfl) (fun _ _ _ h => h) (Or.inr ⟨by kernel_rfl, rfl⟩) hHeld ?_
       change wpAnyH _ _ _ _ _ _ _ (Act.put _ (some 55) _) _
       simp only [Act.put, ssA, ssZ, ssS]
       refine wpAnyH_take (i := 35) (v := ?_) rfl (by kernel_rfl) (by kernel_rfl) (by kernel_rfl) (fun _ _ _ h => h) (Or.inl ⟨by kernel_rfl, ?_⟩) hHeld ?_
       rotate_left
       ·intro w hSw
        (try dsimp only at hSw)
        obtain ⟨hS0, hS1, hS2, hS3, hS4, hS5⟩ := hSw
        go_simp
        (try with_reducible rfl)
       change wpAnyH _ _ _ _ _ _ _ (Act.put _ (some 56) _) _
       simp only [Act.put, ssA, ssZ, ssS]
       refine wpAnyH_done (by kernel_rfl) ?_ _
       go_wp2_with fail
       go_meet
       exact ⟨rfl, gr_drew (gr_refl _ _)⟩
   case rest =>
    as_aux_lemma =>
     obtain ⟨rfl, hg2⟩ := hcut
     rename World => w2
     cases R
     ·have HN : Hid (lngTo l p place t but (k + 1) = b) := by show _ = _; rw [HST.out, if_neg (by simp)]
      go_wp2_with fail
      go_roundw
      case rel => exact ⟨k + 1, b, by omega, by go_num, rfl, HN, gr_trans hg1 hg2⟩
      case measure => simp [intOf]; omega
     ·have HN : Hid (lngTo l p place t but (k + 1) = (k : Int)) := by show _ = _; rw [HST.out, if_pos rfl]
      go_wp2_with fail
      go_roundw
      case rel => exact ⟨k + 1, k, by omega, by go_num, rfl, HN, gr_trans hg1 hg2⟩
      case measure => simp [intOf]; omega
  ·obtain rfl : k = p.length := by omega
   have hkl : ¬ (p.length : Int) < (p.length : Int) := by omega
   go_wp2_with fail
   go_ret
   exact ⟨ret_of HB.out.symm, hg⟩
end Go.Proofs.YtbpkfkbbkgdlaaaGreatDoor
