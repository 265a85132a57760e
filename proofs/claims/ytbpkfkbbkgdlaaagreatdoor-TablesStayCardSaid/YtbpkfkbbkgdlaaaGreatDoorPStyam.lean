/- The walk over a table's needless: nothing would be otherwise without a prefix. Condition: a right table with its maps lies in memory, and a row of as many truths. The walks over call.Tidy and call.Overlaps: what is left out, told exactly. Condition: lists of parts of a size. The walks over the stream's CallOf and RightCall: a string of ASCII, at most 30 bytes; a call sign. Condition: the stream has handed out at most 10^10 numbers. slices.Grow at nil and slices.Concat at slices of strings: the lists behind one another, in new memory. Condition: at most 10^6 strings in all. The walk over call.Near at right arguments: the calls at no step, at one step, and so on. Condition: at most 1000 calls, each a call sign of ASCII of at most 100 bytes; at most 14 steps. The walks over the references CallFault, CallsFault and NearOf, and over call.CheckCalls, call.Distance and call.Near at all arguments. Condition: at most 1000 strings of ASCII of at most 100 bytes; the steps between two are told. The walks over call.Distance and call.Near at all arguments, and over the stream's CallList and PatternOf. Condition: strings of ASCII of at most 100 bytes, at most 1000 of them; the stream has handed out at most 10^9 numbers. -/
import Derived.Test.YtbpkfkbbkgdlaaaGreatDoorPStyak
import Derived.Test.YtbpkfkbbkgdlaaaGreatDoorPStyal
import Derived.Deep.RegionHeld
import Derived.Test.YtbpkfkbbkgdlaaaGreatDoorPStyad
import Derived.Deep.AppendLies
import Derived.Test.YtbpkfkbbkgdlaaaGreatDoorPStyag
import Derived.Test.YtbpkfkbbkgdlaaaGreatDoorPStyah
import Derived.Lib.AppendZeros
import Derived.Laws.AppendOwnNone
import Derived.Deep.RegionWith
namespace Go.Proofs.YtbpkfkbbkgdlaaaGreatDoor
open Go.RowKit
set_option linter.unusedVariables false
set_option linter.unusedSimpArgs false

theorem neqFnd (a b : ByteArray) (c d e f : Int) (w : World) : (binOp .neq 38 (.agg #[.string a, .int .i64 c, .int .i64 e]) (.agg #[.string b, .int .i64 d, .int .i64 f])).run Tryz.prog w = .ok (.bool (!(decide (a = b) && (c == d && e == f)))) w := by
 by_cases h1 : a = b
 ·subst h1
  by_cases h2 : c = d
  ·subst h2
   by_cases h3 : e = f
   ·subst h3
    go_simp
   ·have h3' : (e == f) = false := by rw [beq_eq_false_iff_ne]; exact h3
    go_simp
  ·have h2' : (c == d) = false := by rw [beq_eq_false_iff_ne]; exact h2
   go_simp
 ·have h1' := str_no h1
  go_simp
theorem all_step {α : Type} (f : α → Bool) (E : List α) (k : Nat) (h : k < E.length) : (E.drop k).all f = (f E[k] && (E.drop (k + 1)).all f) := by
 rw [List.drop_eq_getElem_cons h, List.all_cons]
set_option maxRecDepth 100000 in
set_option maxHeartbeats 16000000 in
theorem needless_ok (base base2 gT bB bW : Nat) (u v : Value) (l : List Ent) (p : List Pfx) (i : Nat) (base4 : Nat) (gv : Value) (gone : List Bool) (w : World) (hT : TabFull base base2 gT bB bW u v l p w) (hR : TabRight l p) (hi : i < p.length) (hgv : BoolsFrom base4 w gv gone) (hgl : gone.length = p.length) :
 Calls Tryz.prog 82 #[.pointer (some ⟨gT, 0, none⟩), .int .i64 i, gv] w fun r w' => r = .returned (.bool (needX l p gone i p[i])) ∧ w.grownBy w' none := by
 have hO := hR.ok
 have hlen := hO.len
 obtain ⟨Ag, cg, rfl, _, _⟩ := hgv.shape
 obtain ⟨LG, hLG⟩ : ∃ LG, gone.length = LG := ⟨_, rfl⟩
 obtain ⟨PA, cp, hv, _, hPA⟩ := hT.at_.pl.shape
 obtain ⟨gp, rfl, _, hgpl⟩ := hPA (by omega)
 have hat := (show PfxsFrom base w (.slice (some ⟨gp, 0, none⟩) p.length cp) p from hv ▸ hT.at_.pl).at_ i hi
 have cP := hT.at_.cv
 rw [hv] at cP
 have c0 := hat.1
 clear hat hPA
 have hbs := hR.beg _ (List.getElem_mem hi)
 have HT := Lib.hid hT
 have HRT := Lib.hid hR
 have HGV := Lib.hid hgv
 obtain ⟨X, hX⟩ : ∃ X, p[i] = X := ⟨_, rfl⟩
 have HII : Hid (∀ W, w.grownBy W none → Calls Tryz.prog 135 #[.pointer (some ⟨gT, 0, none⟩), .int .i64 i] W fun r w' => r = .returned (.bool (decide (tmZ l X ≤ tmA l X))) ∧ W.grownBy w' none) := fun W hW => by rw [← hX]; exact isIdle_ok base gT u v l p i W (hT.at_.grown hW) hO hi
 have HTM : Hid (∀ W, w.grownBy W none → Calls Tryz.prog 114 #[.pointer (some ⟨gT, 0, none⟩), .int .i64 i] W fun r w' => r = .returned (.agg #[.int .i64 (tmA l X), .int .i64 (tmZ l X)]) ∧ W.grownBy w' none) := fun W hW => by rw [← hX]; exact time_ok base gT u v l p i W (hT.at_.grown hW) hO hi
 have HFD : Hid (∀ (n : Nat) (hn : n < p.length) W, w.grownBy W none → Calls Tryz.prog 103 #[.pointer (some ⟨gT, 0, none⟩), .int .i64 n] W fun r w' => r = .returned (.agg #[.string (fndX l p[n]).1, .int .i64 (fndX l p[n]).2.1, .int .i64 (fndX l p[n]).2.2]) ∧ W.grownBy w' none) := fun n hn W hW => foundX_ok base gT u v l p n W (hT.at_.grown hW) hO hn
 have HFI : Hid (∀ W, w.grownBy W none → Calls Tryz.prog 103 #[.pointer (some ⟨gT, 0, none⟩), .int .i64 i] W fun r w' => r = .returned (.agg #[.string (fndX l X).1, .int .i64 (fndX l X).2.1, .int .i64 (fndX l X).2.2]) ∧ W.grownBy w' none) := fun W hW => by rw [← hX]; exact foundX_ok base gT u v l p i W (hT.at_.grown hW) hO hi
 rw [hX] at c0 hbs ⊢
 have HND : Hid (needX l p gone i X = (decide (tmZ l X ≤ tmA l X) || (edgL l p (nearL p X.beg (min 4 X.beg.size)) (tmA l X) (tmZ l X)).all fun t => sameB l p (lngP l p t X.beg (butB (i : Int) gone)) X)) := rfl
 have hnlen : (nearL p X.beg (min 4 X.beg.size)).length ≤ 8000 := Nat.le_trans (nearL_len p X.beg _) (Nat.mul_le_mul (Nat.min_le_left 4 _) hlen)
 have hnlt : ∀ j ∈ nearL p X.beg (min 4 X.beg.size), j < p.length := fun j hj => by obtain ⟨_, _, h, _⟩ := nearL_mem.1 hj; exact h
 have hedl : (edgL l p (nearL p X.beg (min 4 X.beg.size)) (tmA l X) (tmZ l X)).length ≤ 100000 := by
  have h1 := Lib.compact_length_le (sortI (tmA l X :: edgI l p (nearL p X.beg (min 4 X.beg.size)) (tmA l X) (tmZ l X)))
  rw [sortI_len, List.length_cons] at h1
  have h2 := edgI_len l p (tmA l X) (tmZ l X) (nearL p X.beg (min 4 X.beg.size))
  have h4 : (edgL l p (nearL p X.beg (min 4 X.beg.size)) (tmA l X) (tmZ l X)).length ≤ (edgI l p (nearL p X.beg (min 4 X.beg.size)) (tmA l X) (tmZ l X)).length + 1 := h1
  omega
 have HNR : Hid (∀ W, w.grownBy W none → Calls Tryz.prog 65 #[.pointer (some ⟨gT, 0, none⟩), .string X.beg] W fun r w' => ∃ z, r = .returned z ∧ IntsFrom W.heap.size w' z (natI (nearL p X.beg (min 4 X.beg.size))) ∧ W.grownBy w' none) := fun W hW => tnear_ok base base2 gT bB bW u v l p X.beg W (hT.grown hW) hlen (by omega)
 have HED : Hid (∀ W b3 z, w.grownBy W none → IntsFrom b3 W z (natI (nearL p X.beg (min 4 X.beg.size))) → Calls Tryz.prog 63 #[.pointer (some ⟨gT, 0, none⟩), z, .int .i64 (tmA l X), .int .i64 (tmZ l X)] W fun r w' => ∃ y, r = .returned y ∧ IntsFrom W.heap.size w' y (edgL l p (nearL p X.beg (min 4 X.beg.size)) (tmA l X) (tmZ l X)) ∧ W.grownBy w' none) := fun W b3 z hW hz => edges_ok base b3 gT u v z l p _ _ _ W (hT.at_.grown hW) hO hz hnlt (by omega)
 have HLB : Hid (∀ W gi gg t, w.grownBy W none → W.cell? ⟨gi, 0, none⟩ = some (.int .i64 i) → W.cell? ⟨gg, 0, none⟩ = some (.slice Ag gone.length cg) → Calls Tryz.prog 104 #[.pointer (some ⟨gT, 0, none⟩), .string X.beg, .int .i64 t, .func (.func 136) #[] #[.pointer (some ⟨gi, 0, none⟩), .pointer (some ⟨gg, 0, none⟩)]] W fun r w' => r = .returned (.int .i64 (lngP l p t X.beg (butB i gone))) ∧ W.grownBy w' none) := fun W gi gg t hW h1 h2 => longest_but base base2 gT bB bW u v l p X.beg t W (hT.grown hW) hO (by omega) base4 gi gg i _ gone h1 h2 (hgv.grown hW) (by omega)
 have HLP : Hid (∀ t, (lngP l p t X.beg (butB i gone) = -1 ∧ sameB l p (lngP l p t X.beg (butB i gone)) X = false) ∨ ∃ (k : Nat) (h : k < p.length), lngP l p t X.beg (butB i gone) = k ∧ sameB l p (lngP l p t X.beg (butB i gone)) X = decide (fndX l p[k] = fndX l X)) := fun t => by
  rcases lngP_best l p t X.beg (butB i gone) hR.size with ⟨h1, _⟩ | ⟨k, h1, ⟨hk, _⟩, _⟩
  ·refine .inl ⟨h1, ?_⟩
   unfold sameB
   rw [h1]
   rfl
  ·refine .inr ⟨k, hk, h1, ?_⟩
   unfold sameB
   rw [h1, Int.toNat_natCast, List.getElem?_eq_getElem hk]
   simp
 generalize needX l p gone i X = ANS at *
 generalize hFX : fndX l X = FX at *
 obtain ⟨fs, fc, fz⟩ := FX
 generalize tmA l X = TA at *
 generalize tmZ l X = TZ at *
 generalize X.beg = B at *
 generalize hjl : nearL p B (min 4 B.size) = JS at *
 generalize edgL l p JS TA TZ = ED at *
 rw [hLG] at HLB HGV ⊢
 have HJL := Lib.hid hjl
 clear hT hgv hR hO hX hFX hjl hnlt hv
 have hB0 := Blk.new w 3 #[.int .i64 i]
 have hG0 := World.grownBy_alloc w (.cells #[.int .i64 i] 3) none
 have hB1 := hB0.alloc (.cells #[.slice Ag LG cg] 134)
 have hB2 := Blk.new (w.alloc (.cells #[.int .i64 i] 3)) 134 #[.slice Ag LG cg]
 have hG1 := gr_alloc hG0 (.cells #[.slice Ag LG cg] 134)
 simp only [World.size_alloc] at hB2
 go_enter Tryz.func82, Tryz.ntmps82
 go_upto_region 1 with fail
 generalize (w.alloc (.cells #[.int .i64 i] 3)).alloc (.cells #[.slice Ag LG cg] 134) = w0 at *
 obtain ⟨gi, hgi⟩ : ∃ x, w.heap.size = x := ⟨_, rfl⟩
 rw [hgi] at hB1 hB2 ⊢
 obtain ⟨gg, hgg⟩ : ∃ x, gi + 1 = x := ⟨_, rfl⟩
 rw [hgg] at hB2
 (try rw [hgg])
 have HCI : Hid (∀ V, w0.grownBy V none → V.cell? ⟨gi, 0, none⟩ = some (.int .i64 i) ∧ V.cell? ⟨gg, 0, none⟩ = some (.slice Ag LG cg) ∧ V.cell? ⟨gT, 1, none⟩ = some (.slice (some ⟨gp, 0, none⟩) p.length cp) ∧ V.cell? ⟨gp, i * 6, none⟩ = some (.string B)) := fun V hV =>
  ⟨((hB1.grown hV (by simp)).cell 0).trans rfl, ((hB2.grown hV (by simp)).cell 0).trans rfl, hV.cell (hG1.cell cP (by simp)) (by simp), hV.cell (hG1.cell c0 (by simp)) (by simp)⟩
 have HGI := Lib.hid hgi
 have HGG := Lib.hid hgg
 have c00 := (HCI.out _ (gr_refl _ _)).1
 clear hB0 hB1 hB2 hG0 cP c0 hgi hgg
 go_wp2_with fail
 refine (HII.out _ hG1).mono ?_
 rintro _ w1 ⟨rfl, hg1⟩
 have hG2 := gr_trans hG1 hg1
 clear c00
 have c01 := (HCI.out _ hg1).1
 by_cases hid : TZ ≤ TA
 ·have hdi : decide (TZ ≤ TA) = true := decide_eq_true hid
  have HA : Hid (ANS = true) := by show _ = _; rw [HND.out, hdi]; rfl
  clear HND
  go_wp2_with fail
  go_ret
  exact ⟨by rw [HA.out]; rfl, hG2⟩
 ·have hdi : decide (TZ ≤ TA) = false := decide_eq_false hid
  have HA : Hid (ANS = ED.all fun t => sameB l p (lngP l p t B (butB i gone)) X) := by show _ = _; rw [HND.out, hdi]; rfl
  clear HND
  go_wp2_with fail
  refine (HTM.out _ hG2).mono ?_
  rintro _ w2 ⟨rfl, hg2⟩
  have hG3 := gr_alloc (gr_trans hG2 hg2) (.cells #[.int .i64 TA, .int .i64 TZ] 70)
  have hg3 := gr_alloc (gr_trans hg1 hg2) (.cells #[.int .i64 TA, .int .i64 TZ] 70)
  have hX := Blk.new w2 70 #[.int .i64 TA, .int .i64 TZ]
  clear hG2 hg1 hg2
  go_upto_region 5 with fail
  generalize w2.alloc (.cells #[.int .i64 TA, .int .i64 TZ] 70) = w3 at *
  generalize w2.heap.size = gX at *
  have HKX : Hid (∀ V, w3.grownBy V none → V.cell? ⟨gi, 0, none⟩ = some (.int .i64 i) ∧ V.cell? ⟨gT, 1, none⟩ = some (.slice (some ⟨gp, 0, none⟩) p.length cp) ∧ V.cell? ⟨gp, i * 6, none⟩ = some (.string B) ∧ V.cell? ⟨gX, 0, none⟩ = some (.int .i64 TA) ∧ V.cell? ⟨gX, 1, none⟩ = some (.int .i64 TZ) ∧ w3.grownBy V none) := fun V hV => by
   obtain ⟨q0, q1, q2, q3⟩ := HCI.out V (gr_trans hg3 hV)
   exact ⟨q0, q2, q3, ((hX.grown hV (by simp)).cell 0).trans rfl, ((hX.grown hV (by simp)).cell 1).trans rfl, hV⟩
  have hii : (i : Int) < (p.length : Int) := by omega
  have hi0 : (0 : Int) ≤ (i : Int) := by omega
  clear hX
  refine wp_region_held_drew (S := fun V => V.cell? ⟨gi, 0, none⟩ = some (.int .i64 i) ∧ V.cell? ⟨gT, 1, none⟩ = some (.slice (some ⟨gp, 0, none⟩) p.length cp) ∧ V.cell? ⟨gp, i * 6, none⟩ = some (.string B) ∧ V.cell? ⟨gX, 0, none⟩ = some (.int .i64 TA) ∧ V.cell? ⟨gX, 1, none⟩ = some (.int .i64 TZ) ∧ w3.grownBy V none) (by kernel_rfl) (HKX.out _ (gr_drew (gr_refl _ _))) (fun hHeld => ?_)
  refine wpAnyH_take (i := 0) (v := ?_) rfl (by kernel_rfl) (by kernel_rfl) (by kernel_rfl) (fun _ _ _ h => h) (Or.inl ⟨by kernel_rfl, ?_⟩) hHeld ?_
  rotate_left
  ·intro w hSw
   (try dsimp only at hSw)
   obtain ⟨hS0, hS1, hS2, hS3, hS4, hS5⟩ := hSw
   go_simp
   (try with_reducible rfl)
  change wpAnyH _ _ _ _ _ _ _ (Act.put _ (some 19) _) _
  simp only [Act.put, ssA, ssZ, ssS]
  refine wpAnyH_take (i := 1) (v := ?_) rfl (by kernel_rfl) (by kernel_rfl) (by kernel_rfl) (fun _ _ _ h => h) (Or.inl ⟨by kernel_rfl, ?_⟩) hHeld ?_
  rotate_left
  ·intro w hSw
   (try dsimp only at hSw)
   obtain ⟨hS0, hS1, hS2, hS3, hS4, hS5⟩ := hSw
   go_simp
   (try with_reducible rfl)
  change wpAnyH _ _ _ _ _ _ _ (Act.put _ (some 20) _) _
  simp only [Act.put, ssA, ssZ, ssS]
  refine wpAnyH_take (i := 2) (v := ?_) rfl (by kernel_rfl) (by kernel_rfl) (by kernel_rfl) (fun _ _ _ h => h) (Or.inl ⟨by kernel_rfl, ?_⟩) hHeld ?_
  rotate_left
  ·intro w hSw
   (try dsimp only at hSw)
   obtain ⟨hS0, hS1, hS2, hS3, hS4, hS5⟩ := hSw
   go_simp
   (try with_reducible rfl)
  change wpAnyH _ _ _ _ _ _ _ (Act.put _ (some 21) _) _
  simp only [Act.put, ssA, ssZ, ssS]
  refine wpAnyH_take (i := 3) (v := ?_) rfl (by kernel_rfl) (by kernel_rfl) (by kernel_rfl) (fun _ _ _ h => h) (Or.inl ⟨by kernel_rfl, ?_⟩) hHeld ?_
  rotate_left
  ·intro w hSw
   (try dsimp only at hSw)
   obtain ⟨hS0, hS1, hS2, hS3, hS4, hS5⟩ := hSw
   go_simp
   (try with_reducible rfl)
  change wpAnyH _ _ _ _ _ _ _ (Act.put _ (some 22) _) _
  simp only [Act.put, ssA, ssZ, ssS]
  refine wpAnyH_take (i := 4) (v := ?_) rfl (by kernel_rfl) (by kernel_rfl) (by kernel_rfl) (fun _ _ _ h => h) (Or.inl ⟨by kernel_rfl, ?_⟩) hHeld ?_
  rotate_left
  ·intro w hSw
   (try dsimp only at hSw)
   obtain ⟨hS0, hS1, hS2, hS3, hS4, hS5⟩ := hSw
   go_simp
   (try with_reducible rfl)
  change wpAnyH _ _ _ _ _ _ _ (Act.put _ (some 23) _) _
  simp only [Act.put, ssA, ssZ, ssS]
  refine wpAnyH_take (i := 5) (v := ?_) rfl (by kernel_rfl) (by kernel_rfl) (by kernel_rfl) (fun _ _ _ h => h) (Or.inl ⟨by kernel_rfl, ?_⟩) hHeld ?_
  rotate_left
  ·intro w hSw
   (try dsimp only at hSw)
   obtain ⟨hS0, hS1, hS2, hS3, hS4, hS5⟩ := hSw
   go_simp
   (try with_reducible rfl)
  change wpAnyH _ _ _ _ _ _ _ (Act.put _ (some 24) _) _
  simp only [Act.put, ssA, ssZ, ssS]
  refine wpAnyH_take (i := 6) (v := ?_) rfl (by kernel_rfl) (by kernel_rfl) (by kernel_rfl) (fun _ _ _ h => h) (Or.inl ⟨by kernel_rfl, ?_⟩) hHeld ?_
  rotate_left
  ·intro w hSw
   (try dsimp only at hSw)
   obtain ⟨hS0, hS1, hS2, hS3, hS4, hS5⟩ := hSw
   go_simp
   (try with_reducible rfl)
  change wpAnyH _ _ _ _ _ _ _ (Act.put _ (some 25) _) _
  simp only [Act.put, ssA, ssZ, ssS]
  refine wpAnyH_take (i := 7) (v := ?_) rfl (by kernel_rfl) (by kernel_rfl) (by kernel_rfl) (fun _ _ _ h => h) (Or.inl ⟨by kernel_rfl, ?_⟩) hHeld ?_
  rotate_left
  ·intro w hSw
   (try dsimp only at hSw)
   obtain ⟨hS0, hS1, hS2, hS3, hS4, hS5⟩ := hSw
   go_simp
   (try with_reducible rfl)
  change wpAnyH _ _ _ _ _ _ _ (Act.put _ (some 26) _) _
  simp only [Act.put, ssA, ssZ, ssS]
  refine wpAnyH_take (i := 8) (v := ?_) rfl (by kernel_rfl) (by kernel_rfl) (by kernel_rfl) (fun _ _ _ h => h) (Or.inl ⟨by kernel_rfl, ?_⟩) hHeld ?_
  rotate_left
  ·intro w hSw
   (try dsimp only at hSw)
   obtain ⟨hS0, hS1, hS2, hS3, hS4, hS5⟩ := hSw
   go_simp
   (try with_reducible rfl)
  change wpAnyH _ _ _ _ _ _ _ (Act.put _ (some 27) _) _
  simp only [Act.put, ssA, ssZ, ssS]
  refine wpAnyH_take (i := 9) (v := ?_) rfl (by kernel_rfl) (by kernel_rfl) (by kernel_rfl) (fun _ _ _ h => h) (Or.inl ⟨by kernel_rfl, ?_⟩) hHeld ?_
  rotate_left
  ·intro w hSw
   (try dsimp only at hSw)
   obtain ⟨hS0, hS1, hS2, hS3, hS4, hS5⟩ := hSw
   go_simp
   (try with_reducible rfl)
  change wpAnyH _ _ _ _ _ _ _ (Act.put _ (some 28) _) _
  simp only [Act.put, ssA, ssZ, ssS]
  refine wpAnyH_take (i := 11) (v := ?_) rfl (by kernel_rfl) (by kernel_rfl) (by kernel_rfl) (fun _ _ _ h => h) (Or.inl ⟨by kernel_rfl, ?_⟩) hHeld ?_
  rotate_left
  ·intro w hSw
   (try dsimp only at hSw)
   obtain ⟨hS0, hS1, hS2, hS3, hS4, hS5⟩ := hSw
   go_simp
   (try with_reducible rfl)
  change wpAnyH _ _ _ _ _ _ _ (Act.put _ (some 30) _) _
  simp only [Act.put, ssA, ssZ, ssS]
  refine wpAnyH_take (i := 12) (v := ?_) rfl (by kernel_rfl) (by kernel_rfl) (by kernel_rfl) (fun _ _ _ h => h) (Or.inl ⟨by kernel_rfl, ?_⟩) hHeld ?_
  rotate_left
  ·intro w hSw
   (try dsimp only at hSw)
   obtain ⟨hS0, hS1, hS2, hS3, hS4, hS5⟩ := hSw
   go_simp
   (try with_reducible rfl)
  change wpAnyH _ _ _ _ _ _ _ (Act.put _ (some 31) _) _
  simp only [Act.put, ssA, ssZ, ssS]
  refine wpAnyH_take (i := 13) (v := ?_) rfl (by kernel_rfl) (by kernel_rfl) (by kernel_rfl) (fun _ _ _ h => h) (Or.inl ⟨by kernel_rfl, ?_⟩) hHeld ?_
  rotate_left
  ·intro w hSw
   (try dsimp only at hSw)
   obtain ⟨hS0, hS1, hS2, hS3, hS4, hS5⟩ := hSw
   go_simp
   (try with_reducible rfl)
  change wpAnyH _ _ _ _ _ _ _ (Act.put _ (some 32) _) _
  simp only [Act.put, ssA, ssZ, ssS]
  refine wpAnyH_take (i := 14) (v := ?_) rfl (by kernel_rfl) (by kernel_rfl) (by kernel_rfl) (fun _ _ _ h => h) (Or.inl ⟨by kernel_rfl, ?_⟩) hHeld ?_
  rotate_left
  ·intro w hSw
   (try dsimp only at hSw)
   obtain ⟨hS0, hS1, hS2, hS3, hS4, hS5⟩ := hSw
   go_simp
   (try with_reducible rfl)
  change wpAnyH _ _ _ _ _ _ _ (Act.put _ (some 33) _) _
  simp only [Act.put, ssA, ssZ, ssS]
  refine wpAnyH_take (i := 17) (v := ?_) rfl (by kernel_rfl) (by kernel_rfl) (by kernel_rfl) (fun _ _ _ h => h) (Or.inl ⟨by kernel_rfl, ?_⟩) hHeld ?_
  rotate_left
  ·intro w hSw
   (try dsimp only at hSw)
   obtain ⟨hS0, hS1, hS2, hS3, hS4, hS5⟩ := hSw
   go_simp
   (try with_reducible rfl)
  change wpAnyH _ _ _ _ _ _ _ (Act.put _ (some 36) _) _
  simp only [Act.put, ssA, ssZ, ssS]
  refine wpAnyH_ready (rs := [10]) (by kernel_rfl) (by simp) ?_
  refine AllReadyH.cons (o := _) rfl (fun K hK => ?_) AllReadyH.nil
  go_simp
  (go_at_call 65; refine (HNR.out _ (gr_trans hG3 (gr_drew (gr_refl _ _)))).mono ?_; rintro _ wa ⟨z, rfl, hz, hga⟩; have hg4 : w3.grownBy wa none := gr_trans (gr_drew (gr_refl w3 none)) hga)
  refine hK.out _ _ (HKX.out _ hg4) (fun hHeld10 => ?_)
  clear hK K
  (try simp only [Act.put, ssA, ssZ, ssS])
  refine wpAnyH_ready (rs := [15]) (by kernel_rfl) (by simp) ?_
  refine AllReadyH.cons (o := _) rfl (fun K hK => ?_) AllReadyH.nil
  go_simp
  (go_at_call 63; refine (HED.out _ _ _ (gr_trans hG3 hg4) hz).mono ?_; rintro _ wb ⟨y, rfl, hy, hgb⟩; have hg5 := gr_trans hg4 hgb; obtain ⟨Ae, ce, rfl, hel, hEA⟩ := hy.shape)
  refine hK.out _ _ (HKX.out _ hg5) (fun hHeld15 => ?_)
  clear hK K
  (try simp only [Act.put, ssA, ssZ, ssS])
  refine wpAnyH_take (i := 16) (v := ?_) rfl (by kernel_rfl) (by kernel_rfl) (by kernel_rfl) (fun _ _ _ h => h) (Or.inl ⟨by kernel_rfl, ?_⟩) hHeld15 ?_
  rotate_left
  ·intro w hSw
   (try dsimp only at hSw)
   obtain ⟨hS0, hS1, hS2, hS3, hS4, hS5⟩ := hSw
   go_simp
   (try with_reducible rfl)
  change wpAnyH _ _ _ _ _ _ _ (Act.put _ (some 35) _) _
  simp only [Act.put, ssA, ssZ, ssS]
  refine wpAnyH_done (by kernel_rfl) ?_ _
  have hG5 := gr_trans hG3 hg5
  have HEA := Lib.hid hEA
  have HEY := Lib.hid hy
  have hg35 := gr_trans hg3 hg5
  clear hz hga hg4 hgb hEA hy
  go_wp2_with fail
  go_loopw [36] (fun kv wr => ∃ k : Nat, k ≤ ED.length ∧ kv = .int .i64 k ∧ Hid (ANS = (ED.drop k).all fun t => sameB l p (lngP l p t B (butB i gone)) X) ∧ wb.grownBy wr none) (fun kv _ => ED.length - (intOf kv).toNat)
  case atStart => exact ⟨0, by omega, rfl, HA.out, gr_refl _ _⟩
  case round =>
   obtain ⟨k, hk, rfl, HN, hgr⟩ := hrel
   by_cases hlt : k < ED.length
   ·have hki : (k : Int) < (ED.length : Int) := by omega
    obtain ⟨ge, rfl, _, hgel⟩ := HEA.out (by omega)
    have hat := IntsFrom.at_ (HEY.out.grown hgr) k hlt
    have hst : ANS = (sameB l p (lngP l p ED[k] B (butB i gone)) X && (ED.drop (k + 1)).all fun t => sameB l p (lngP l p t B (butB i gone)) X) := by
     have h := HN.out
     rwa [all_step _ ED k hlt] at h
    have hlp := HLP.out ED[k]
    have HLBT : Hid (∀ W, wr.grownBy W none → Calls Tryz.prog 104 #[.pointer (some ⟨gT, 0, none⟩), .string B, .int .i64 ED[k], .func (.func 136) #[] #[.pointer (some ⟨gi, 0, none⟩), .pointer (some ⟨gg, 0, none⟩)]] W fun r w' => r = .returned (.int .i64 (lngP l p ED[k] B (butB i gone))) ∧ W.grownBy w' none) := fun W hW => by
     have hh := HCI.out W (gr_trans hg35 (gr_trans hgr hW))
     exact HLB.out W gi gg _ (gr_trans hG5 (gr_trans hgr hW)) hh.1 hh.2.1
    generalize ED[k] = T at *
    generalize lngP l p T B (butB i gone) = KK at *
    have HST := Lib.hid hst
    have HLPK := Lib.hid hlp
    have HKR : Hid (∀ V, wr.grownBy V none → V.cell? ⟨gi, 0, none⟩ = some (.int .i64 i) ∧ V.cell? ⟨gT, 1, none⟩ = some (.slice (some ⟨gp, 0, none⟩) p.length cp) ∧ V.cell? ⟨gp, i * 6, none⟩ = some (.string B) ∧ wr.grownBy V none) := fun V hV => by
     obtain ⟨q0, q1, q2, q3⟩ := HCI.out V (gr_trans hg35 (gr_trans hgr hV))
     exact ⟨q0, q2, q3, hV⟩
    clear hst hlp
    go_upto_region 8 with fail
    refine wp_region_held_drew (S := fun V => V.cell? ⟨gi, 0, none⟩ = some (.int .i64 i) ∧ V.cell? ⟨gT, 1, none⟩ = some (.slice (some ⟨gp, 0, none⟩) p.length cp) ∧ V.cell? ⟨gp, i * 6, none⟩ = some (.string B) ∧ wr.grownBy V none) (by kernel_rfl) (HKR.out _ (gr_drew (gr_refl _ _))) (fun hHeld => ?_)
    refine wpAnyH_take (i := 0) (v := ?_) rfl (by kernel_rfl) (by kernel_rfl) (by kernel_rfl) (fun _ _ _ h => h) (Or.inl ⟨by kernel_rfl, ?_⟩) hHeld ?_
    rotate_left
    ·intro w hSw
     (try dsimp only at hSw)
     obtain ⟨hS0, hS1, hS2, hS3⟩ := hSw
     go_simp
     (try with_reducible rfl)
    change wpAnyH _ _ _ _ _ _ _ (Act.put _ (some 40) _) _
    simp only [Act.put, ssA, ssZ, ssS]
    refine wpAnyH_take (i := 1) (v := ?_) rfl (by kernel_rfl) (by kernel_rfl) (by kernel_rfl) (fun _ _ _ h => h) (Or.inl ⟨by kernel_rfl, ?_⟩) hHeld ?_
    rotate_left
    ·intro w hSw
     (try dsimp only at hSw)
     obtain ⟨hS0, hS1, hS2, hS3⟩ := hSw
     go_simp
     (try with_reducible rfl)
    change wpAnyH _ _ _ _ _ _ _ (Act.put _ (some 41) _) _
    simp only [Act.put, ssA, ssZ, ssS]
    refine wpAnyH_take (i := 2) (v := ?_) rfl (by kernel_rfl) (by kernel_rfl) (by kernel_rfl) (fun _ _ _ h => h) (Or.inl ⟨by kernel_rfl, ?_⟩) hHeld ?_
    rotate_left
    ·intro w hSw
     (try dsimp only at hSw)
     obtain ⟨hS0, hS1, hS2, hS3⟩ := hSw
     go_simp
     (try with_reducible rfl)
    change wpAnyH _ _ _ _ _ _ _ (Act.put _ (some 42) _) _
    simp only [Act.put, ssA, ssZ, ssS]
    refine wpAnyH_take (i := 3) (v := ?_) rfl (by kernel_rfl) (by kernel_rfl) (by kernel_rfl) (fun _ _ _ h => h) (Or.inl ⟨by kernel_rfl, ?_⟩) hHeld ?_
    rotate_left
    ·intro w hSw
     (try dsimp only at hSw)
     obtain ⟨hS0, hS1, hS2, hS3⟩ := hSw
     go_simp
     (try with_reducible rfl)
    change wpAnyH _ _ _ _ _ _ _ (Act.put _ (some 43) _) _
    simp only [Act.put, ssA, ssZ, ssS]
    refine wpAnyH_take (i := 4) (v := ?_) rfl (by kernel_rfl) (by kernel_rfl) (by kernel_rfl) (fun _ _ _ h => h) (Or.inl ⟨by kernel_rfl, ?_⟩) hHeld ?_
    rotate_left
    ·intro w hSw
     (try dsimp only at hSw)
     obtain ⟨hS0, hS1, hS2, hS3⟩ := hSw
     go_simp
     (try with_reducible rfl)
    change wpAnyH _ _ _ _ _ _ _ (Act.put _ (some 44) _) _
    simp only [Act.put, ssA, ssZ, ssS]
    refine wpAnyH_take (i := 5) (v := ?_) rfl (by kernel_rfl) (by kernel_rfl) (by kernel_rfl) (fun _ _ _ h => h) (Or.inl ⟨by kernel_rfl, ?_⟩) hHeld ?_
    rotate_left
    ·intro w hSw
     (try dsimp only at hSw)
     obtain ⟨hS0, hS1, hS2, hS3⟩ := hSw
     go_simp
     (try with_reducible rfl)
    change wpAnyH _ _ _ _ _ _ _ (Act.put _ (some 45) _) _
    simp only [Act.put, ssA, ssZ, ssS]
    refine wpAnyH_take (i := 6) (v := ?_) rfl (by kernel_rfl) (by kernel_rfl) (by kernel_rfl) (fun _ _ _ h => h) (Or.inl ⟨by kernel_rfl, ?_⟩) hHeld ?_
    rotate_left
    ·intro w hSw
     (try dsimp only at hSw)
     obtain ⟨hS0, hS1, hS2, hS3⟩ := hSw
     go_simp
     (try with_reducible rfl)
    change wpAnyH _ _ _ _ _ _ _ (Act.put _ (some 46) _) _
    simp only [Act.put, ssA, ssZ, ssS]
    refine wpAnyH_take (i := 7) (v := ?_) rfl (by kernel_rfl) (by kernel_rfl) (by kernel_rfl) (fun _ _ _ h => h) (Or.inl ⟨by kernel_rfl, ?_⟩) hHeld ?_
    rotate_left
    ·intro w hSw
     (try dsimp only at hSw)
     obtain ⟨hS0, hS1, hS2, hS3⟩ := hSw
     go_simp
     (try with_reducible rfl)
    change wpAnyH _ _ _ _ _ _ _ (Act.put _ (some 47) _) _
    simp only [Act.put, ssA, ssZ, ssS]
    refine wpAnyH_take (i := 8) (v := ?_) rfl (by kernel_rfl) (by kernel_rfl) (by kernel_rfl) (fun _ _ _ h => h) (Or.inl ⟨by kernel_rfl, ?_⟩) hHeld ?_
    rotate_left
    ·intro w hSw
     (try dsimp only at hSw)
     obtain ⟨hS0, hS1, hS2, hS3⟩ := hSw
     go_simp
     (try with_reducible rfl)
    change wpAnyH _ _ _ _ _ _ _ (Act.put _ (some 48) _) _
    simp only [Act.put, ssA, ssZ, ssS]
    refine wpAnyH_take (i := 9) (v := ?_) rfl (by kernel_rfl) (by kernel_rfl) (by kernel_rfl) (fun _ _ _ h => h) (Or.inl ⟨by kernel_rfl, ?_⟩) hHeld ?_
    rotate_left
    ·intro w hSw
     (try dsimp only at hSw)
     obtain ⟨hS0, hS1, hS2, hS3⟩ := hSw
     go_simp
     (try with_reducible rfl)
    change wpAnyH _ _ _ _ _ _ _ (Act.put _ (some 49) _) _
    simp only [Act.put, ssA, ssZ, ssS]
    refine wpAnyH_take (i := 10) (v := ?_) rfl (by kernel_rfl) (by kernel_rfl) (by kernel_rfl) (fun _ _ _ h => h) (Or.inl ⟨by kernel_rfl, ?_⟩) hHeld ?_
    rotate_left
    ·intro w hSw
     (try dsimp only at hSw)
     obtain ⟨hS0, hS1, hS2, hS3⟩ := hSw
     go_simp
     (try with_reducible rfl)
    change wpAnyH _ _ _ _ _ _ _ (Act.put _ (some 50) _) _
    simp only [Act.put, ssA, ssZ, ssS]
    refine wpAnyH_ready (rs := [11]) (by kernel_rfl) (by simp) ?_
    refine AllReadyH.cons (o := _) rfl (fun K hK => ?_) AllReadyH.nil
    go_simp
    (go_at_call 104; refine (HLBT.out _ (gr_drew (gr_refl _ _))).mono ?_; rintro _ wc ⟨rfl, hgc⟩; have hgrc : wr.grownBy wc none := gr_trans (gr_drew (gr_refl wr none)) hgc)
    refine hK.out _ _ (HKR.out _ hgrc) (fun hHeld11 => ?_)
    clear hK K
    (try simp only [Act.put, ssA, ssZ, ssS])
    refine wpAnyH_take (i := 12) (v := ?_) rfl (by kernel_rfl) (by kernel_rfl) (by kernel_rfl) (fun _ _ _ h => h) (Or.inl ⟨by kernel_rfl, ?_⟩) hHeld11 ?_
    rotate_left
    ·intro w hSw
     (try dsimp only at hSw)
     obtain ⟨hS0, hS1, hS2, hS3⟩ := hSw
     go_simp
     (try with_reducible rfl)
    change wpAnyH _ _ _ _ _ _ _ (Act.put _ (some 11) _) _
    simp only [Act.put, ssA, ssZ, ssS]
    refine wpAnyH_done (by kernel_rfl) ?_ _
    clear hat hgc
    go_upto_region 9 with fail
    rcases HLPK.out with ⟨rfl, hs⟩ | ⟨K, hK, rfl, hs⟩
    ·have HANS : Hid (ANS = false) := by show _ = _; rw [HST.out, hs]; rfl
     clear hs
     refine wp_region_held_drew (S := fun _ => True) (by kernel_rfl) trivial (fun hHeld => ?_)
     refine wpAnyH_take (i := 0) (v := ?_) rfl (by kernel_rfl) (by kernel_rfl) (by kernel_rfl) (fun _ _ _ h => h) (Or.inl ⟨by kernel_rfl, ?_⟩) hHeld ?_
     rotate_left
     ·intro w hSw
      (try dsimp only at hSw)
      go_simp
      (try with_reducible rfl)
     change wpAnyH _ _ _ _ _ _ _ (Act.put _ (some 52) _) _
     simp only [Act.put, ssA, ssZ, ssS]
     refine wpAnyH_take (i := 1) (v := ?_) rfl (by kernel_rfl) (by kernel_rfl) (by kernel_rfl) (fun _ _ _ h => h) (Or.inl ⟨by kernel_rfl, ?_⟩) hHeld ?_
     rotate_left
     ·intro w hSw
      (try dsimp only at hSw)
      go_simp
      (try with_reducible rfl)
     change wpAnyH _ _ _ _ _ _ _ (Act.put _ (some 53) _) _
     simp only [Act.put, ssA, ssZ, ssS]
     refine wpAnyH_take (i := 2) (v := ?_) rfl (by kernel_rfl) (by kernel_rfl) (by kernel_rfl) (fun _ _ _ h => h) (Or.inl ⟨by kernel_rfl, ?_⟩) hHeld ?_
     rotate_left
     ·intro w hSw
      (try dsimp only at hSw)
      go_simp
      (try with_reducible rfl)
     change wpAnyH _ _ _ _ _ _ _ (Act.put _ (some 54) _) _
     simp only [Act.put, ssA, ssZ, ssS]
     refine wpAnyH_take (i := 3) (v := undef) rfl (by kernel_rfl) (by kernel_rfl) (by kernel_rfl) (fun _ _ _ h => h) (Or.inr ⟨by kernel_rfl, rfl⟩) hHeld ?_
     change wpAnyH _ _ _ _ _ _ _ (Act.put _ (some 55) _) _
     simp only [Act.put, ssA, ssZ, ssS]
     refine wpAnyH_take (i := 4) (v := undef) rfl (by kernel_rfl) (by kernel_rfl) (by kernel_rfl) (fun _ _ _ h => h) (Or.inr ⟨by kernel_rfl, rfl⟩) hHeld ?_
     change wpAnyH _ _ _ _ _ _ _ (Act.put _ (some 56) _) _
     simp only [Act.put, ssA, ssZ, ssS]
     refine wpAnyH_take (i := 5) (v := undef) rfl (by kernel_rfl) (by kernel_rfl) (by kernel_rfl) (fun _ _ _ h => h) (Or.inr ⟨by kernel_rfl, rfl⟩) hHeld ?_
     change wpAnyH _ _ _ _ _ _ _ (Act.put _ (some 57) _) _
     simp only [Act.put, ssA, ssZ, ssS]
     refine wpAnyH_take (i := 6) (v := undef) rfl (by kernel_rfl) (by kernel_rfl) (by kernel_rfl) (fun _ _ _ h => h) (Or.inr ⟨by kernel_rfl, rfl⟩) hHeld ?_
     change wpAnyH _ _ _ _ _ _ _ (Act.put _ (some 58) _) _
     simp only [Act.put, ssA, ssZ, ssS]
     refine wpAnyH_take (i := 7) (v := undef) rfl (by kernel_rfl) (by kernel_rfl) (by kernel_rfl) (fun _ _ _ h => h) (Or.inr ⟨by kernel_rfl, rfl⟩) hHeld ?_
     change wpAnyH _ _ _ _ _ _ _ (Act.put _ (some 59) _) _
     simp only [Act.put, ssA, ssZ, ssS]
     refine wpAnyH_take (i := 8) (v := undef) rfl (by kernel_rfl) (by kernel_rfl) (by kernel_rfl) (fun _ _ _ h => h) (Or.inr ⟨by kernel_rfl, rfl⟩) hHeld ?_
     change wpAnyH _ _ _ _ _ _ _ (Act.put _ (some 60) _) _
     simp only [Act.put, ssA, ssZ, ssS]
     refine wpAnyH_take (i := 9) (v := undef) rfl (by kernel_rfl) (by kernel_rfl) (by kernel_rfl) (fun _ _ _ h => h) (Or.inr ⟨by kernel_rfl, rfl⟩) hHeld ?_
     change wpAnyH _ _ _ _ _ _ _ (Act.put _ (some 61) _) _
     simp only [Act.put, ssA, ssZ, ssS]
     refine wpAnyH_take (i := 10) (v := ?_) rfl (by kernel_rfl) (by kernel_rfl) (by kernel_rfl) (fun _ _ _ h => h) (Or.inl ⟨by kernel_rfl, ?_⟩) hHeld ?_
     rotate_left
     ·intro w hSw
      (try dsimp only at hSw)
      go_simp
      (try with_reducible rfl)
     change wpAnyH _ _ _ _ _ _ _ (Act.put _ (some 62) _) _
     simp only [Act.put, ssA, ssZ, ssS]
     refine wpAnyH_done (by kernel_rfl) ?_ _
     go_wp2_with fail
     go_ret
     exact ⟨by rw [HANS.out]; rfl, gr_trans (gr_trans hG5 hgr) (gr_drew hgrc)⟩
    ·have hK0 : decide ((K : Int) < 0) = false := by rw [decide_eq_false_iff_not]; omega
     have hK1 : ¬ (K : Int) < 0 := by omega
     have HFK := Lib.hid (HFD.out K hK)
     obtain ⟨FY, hFY⟩ : ∃ FY, fndX l p[K] = FY := ⟨_, rfl⟩
     rw [hFY] at hs HFK
     obtain ⟨ys, yc, yz⟩ := FY
     obtain ⟨EQ, hEQ⟩ : ∃ EQ, (decide (ys = fs) && (yc == fc && yz == fz)) = EQ := ⟨_, rfl⟩
     have hsE : decide ((ys, yc, yz) = (fs, fc, fz)) = EQ := by
      rw [← hEQ]
      simp only [Prod.mk.injEq, Bool.decide_and]
      rfl
     rw [hsE] at hs
     have HS := Lib.hid hs
     have HNQ : Hid (∀ W, (binOp .neq 38 (.agg #[.string ys, .int .i64 yc, .int .i64 yz]) (.agg #[.string fs, .int .i64 fc, .int .i64 fz])).run Tryz.prog W = .ok (.bool (!EQ)) W) := fun W => by rw [neqFnd, hEQ]
     have HGC : Hid (∀ V, wc.grownBy V none → w.grownBy V none) := fun V hV => gr_trans (gr_trans hG5 hgr) (gr_trans hgrc hV)
     have HKC : Hid (∀ V, wc.grownBy V none → V.cell? ⟨gi, 0, none⟩ = some (.int .i64 i) ∧ wc.grownBy V none) := fun V hV => ⟨(HKR.out V (gr_trans hgrc hV)).1, hV⟩
     clear hs hsE hEQ hFY
     have hneq := HNQ.out
     refine wp_region_held_drew (S := fun V => V.cell? ⟨gi, 0, none⟩ = some (.int .i64 i) ∧ wc.grownBy V none) (by kernel_rfl) (HKC.out _ (gr_drew (gr_refl _ _))) (fun hHeld => ?_)
     refine wpAnyH_take (i := 0) (v := ?_) rfl (by kernel_rfl) (by kernel_rfl) (by kernel_rfl) (fun _ _ _ h => h) (Or.inl ⟨by kernel_rfl, ?_⟩) hHeld ?_
     rotate_left
     ·intro w hSw
      (try dsimp only at hSw)
      obtain ⟨hS0, hS1⟩ := hSw
      go_simp
      (try with_reducible rfl)
     change wpAnyH _ _ _ _ _ _ _ (Act.put _ (some 52) _) _
     simp only [Act.put, ssA, ssZ, ssS]
     refine wpAnyH_take (i := 1) (v := ?_) rfl (by kernel_rfl) (by kernel_rfl) (by kernel_rfl) (fun _ _ _ h => h) (Or.inl ⟨by kernel_rfl, ?_⟩) hHeld ?_
     rotate_left
     ·intro w hSw
      (try dsimp only at hSw)
      obtain ⟨hS0, hS1⟩ := hSw
      go_simp
      (try with_reducible rfl)
     change wpAnyH _ _ _ _ _ _ _ (Act.put _ (some 53) _) _
     simp only [Act.put, ssA, ssZ, ssS]
     refine wpAnyH_take (i := 2) (v := ?_) rfl (by kernel_rfl) (by kernel_rfl) (by kernel_rfl) (fun _ _ _ h => h) (Or.inl ⟨by kernel_rfl, ?_⟩) hHeld ?_
     rotate_left
     ·intro w hSw
      (try dsimp only at hSw)
      obtain ⟨hS0, hS1⟩ := hSw
      go_simp
      (try with_reducible rfl)
     change wpAnyH _ _ _ _ _ _ _ (Act.put _ (some 54) _) _
     simp only [Act.put, ssA, ssZ, ssS]
     refine wpAnyH_take (i := 3) (v := ?_) rfl (by kernel_rfl) (by kernel_rfl) (by kernel_rfl) (fun _ _ _ h => h) (Or.inl ⟨by kernel_rfl, ?_⟩) hHeld ?_
     rotate_left
     ·intro w hSw
      (try dsimp only at hSw)
      obtain ⟨hS0, hS1⟩ := hSw
      go_simp
      (try with_reducible rfl)
     change wpAnyH _ _ _ _ _ _ _ (Act.put _ (some 55) _) _
     simp only [Act.put, ssA, ssZ, ssS]
     refine wpAnyH_take (i := 4) (v := ?_) rfl (by kernel_rfl) (by kernel_rfl) (by kernel_rfl) (fun _ _ _ h => h) (Or.inl ⟨by kernel_rfl, ?_⟩) hHeld ?_
     rotate_left
     ·intro w hSw
      (try dsimp only at hSw)
      obtain ⟨hS0, hS1⟩ := hSw
      go_simp
      (try with_reducible rfl)
     change wpAnyH _ _ _ _ _ _ _ (Act.put _ (some 56) _) _
     simp only [Act.put, ssA, ssZ, ssS]
     refine wpAnyH_take (i := 6) (v := ?_) rfl (by kernel_rfl) (by kernel_rfl) (by kernel_rfl) (fun _ _ _ h => h) (Or.inl ⟨by kernel_rfl, ?_⟩) hHeld ?_
     rotate_left
     ·intro w hSw
      (try dsimp only at hSw)
      obtain ⟨hS0, hS1⟩ := hSw
      go_simp
      (try with_reducible rfl)
     change wpAnyH _ _ _ _ _ _ _ (Act.put _ (some 58) _) _
     simp only [Act.put, ssA, ssZ, ssS]
     refine wpAnyH_take (i := 7) (v := ?_) rfl (by kernel_rfl) (by kernel_rfl) (by kernel_rfl) (fun _ _ _ h => h) (Or.inl ⟨by kernel_rfl, ?_⟩) hHeld ?_
     rotate_left
     ·intro w hSw
      (try dsimp only at hSw)
      obtain ⟨hS0, hS1⟩ := hSw
      go_simp
      (try with_reducible rfl)
     change wpAnyH _ _ _ _ _ _ _ (Act.put _ (some 59) _) _
     simp only [Act.put, ssA, ssZ, ssS]
     refine wpAnyH_ready (rs := [5]) (by kernel_rfl) (by simp) ?_
     refine AllReadyH.cons (o := _) rfl (fun K hK => ?_) AllReadyH.nil
     go_simp
     (go_at_call 103; refine (HFK.out _ (HGC.out _ (gr_drew (gr_refl _ _)))).mono ?_; rintro _ wd ⟨rfl, hgd⟩; have hgcd : wc.grownBy wd none := gr_trans (gr_drew (gr_refl wc none)) hgd)
     refine hK.out _ _ (HKC.out _ hgcd) (fun hHeld5 => ?_)
     clear hK K
     (try simp only [Act.put, ssA, ssZ, ssS])
     refine wpAnyH_ready (rs := [8]) (by kernel_rfl) (by simp) ?_
     refine AllReadyH.cons (o := _) rfl (fun K hK => ?_) AllReadyH.nil
     go_simp
     (go_at_call 103; refine (HFI.out _ (HGC.out _ hgcd)).mono ?_; rintro _ we ⟨rfl, hge⟩; have hgce : wc.grownBy we none := gr_trans hgcd hge)
     refine hK.out _ _ (HKC.out _ hgce) (fun hHeld8 => ?_)
     clear hK K
     (try simp only [Act.put, ssA, ssZ, ssS])
     refine wpAnyH_take (i := 9) (v := ?_) rfl (by kernel_rfl) (by kernel_rfl) (by kernel_rfl) (fun _ _ _ h => h) (Or.inl ⟨by kernel_rfl, ?_⟩) hHeld8 ?_
     rotate_left
     ·intro w hSw
      (try dsimp only at hSw)
      obtain ⟨hS0, hS1⟩ := hSw
      go_simp
      (try with_reducible rfl)
     change wpAnyH _ _ _ _ _ _ _ (Act.put _ (some 61) _) _
     simp only [Act.put, ssA, ssZ, ssS]
     refine wpAnyH_take (i := 10) (v := ?_) rfl (by kernel_rfl) (by kernel_rfl) (by kernel_rfl) (fun _ _ _ h => h) (Or.inl ⟨by kernel_rfl, ?_⟩) hHeld8 ?_
     rotate_left
     ·intro w hSw
      (try dsimp only at hSw)
      obtain ⟨hS0, hS1⟩ := hSw
      go_simp
      (try with_reducible rfl)
     change wpAnyH _ _ _ _ _ _ _ (Act.put _ (some 62) _) _
     simp only [Act.put, ssA, ssZ, ssS]
     refine wpAnyH_done (by kernel_rfl) ?_ _
     have hgrE := gr_trans hgr (gr_trans hgrc hgce)
     cases EQ
     ·have HANS : Hid (ANS = false) := by show _ = _; rw [HST.out, HS.out]; rfl
      go_wp2_with fail
      go_ret
      exact ⟨by rw [HANS.out]; rfl, gr_trans hG5 hgrE⟩
     ·have HNEW : Hid (ANS = (ED.drop (k + 1)).all fun t => sameB l p (lngP l p t B (butB i gone)) X) := by show _ = _; rw [HST.out, HS.out, Bool.true_and]
      go_wp2_with fail
      go_roundw
      case rel => exact ⟨k + 1, by omega, by go_num, HNEW, hgrE⟩
      case measure => simp [intOf]; omega
   ·have hkl : ¬ (k : Int) < (ED.length : Int) := by omega
    have HANS : Hid (ANS = true) := by show _ = _; rw [HN.out, List.drop_eq_nil_of_le (by omega)]; rfl
    go_wp2_with fail
    go_ret
    exact ⟨by rw [HANS.out]; rfl, gr_trans hG5 hgr⟩
end Go.Proofs.YtbpkfkbbkgdlaaaGreatDoor

namespace Go.Proofs.YtbpkfkbbkgdlaaaGreatDoor
open Go.RowKit
set_option linter.unusedVariables false
set_option linter.unusedSimpArgs false

theorem boolInfo : (Tryz.prog.info? 4).map (fun i => (i.zero, i.size, i.bytes)) = some (some (.bool false), 1, 1) := by kernel_rfl
theorem pfxInfo2 : (Tryz.prog.info? 72).map (fun i => (i.zero, i.size, i.bytes)) = some (some (.agg #[.string ⟨#[]⟩, .string ⟨#[]⟩, .int .i64 0, .int .i64 0, .bool false, .int .i64 0]), 6, 64) := by kernel_rfl
theorem pfx_ones2 (a b : ByteArray) (c d : Int) (h : Bool) (z : Int) : ∀ u ∈ [Value.string a, .string b, .int .i64 c, .int .i64 d, .bool h, .int .i64 z], u.oneCell' = true := by
 intro u hu; simp at hu; rcases hu with rfl | rfl | rfl | rfl | rfl | rfl <;> rfl
theorem PfxsFrom.nil (base : Nat) (w : World) : PfxsFrom base w (.slice none 0 0) [] := World.ownsRow_nil _ _ _ _
theorem bools_made {base : Nat} {w : World} {v : Value} {n : Nat} (h : w.ownsRow base 4 1 v n (madeCells #[Value.bool false] (n * 1)).toList) : BoolsFrom base w v (List.replicate n false) := by
 unfold BoolsFrom
 rw [Nat.mul_one, toList_madeCells_one] at h
 rw [List.length_replicate, List.map_replicate]
 exact h
theorem BoolsFrom.stored {base : Nat} {w : World} {g n c : Nat} {l : List Bool} (h : BoolsFrom base w (.slice (some ⟨g, 0, none⟩) n c) l) (hn : n = l.length) (k : Nat) (b : Bool) : BoolsFrom base (w.setCell ⟨g, k, none⟩ (.bool b)) (.slice (some ⟨g, 0, none⟩) n c) (l.set k b) ∧ w.grownBy (w.setCell ⟨g, k, none⟩ (.bool b)) (some g) := by
 unfold BoolsFrom at h ⊢
 rw [← hn] at h
 have hst := World.ownsRow.stored h k (.bool b)
 rw [List.length_set, ← hn, List.map_set]
 exact hst
theorem pfx_own {base : Nat} {w : World} {v : Value} {n : Nat} {l : List Pfx} (x : Pfx) (hn : n = l.length) (h : w.ownsRow base 72 6 v (n + 1) (l.flatMap encP ++ [.string x.beg, .string x.ent, .int .i64 x.a, .int .i64 x.z, .bool x.whole, .int .i64 x.zone])) : PfxsFrom base w v (l ++ [x]) := by
 unfold PfxsFrom
 rw [List.length_append, List.flatMap_append, ← hn]
 exact h
theorem outTo_len (l : List Ent) (p : List Pfx) (k : Nat) (hk : k ≤ p.length) : (outTo l p k).length ≤ k := by
 have := (outTo_sub l p k hk).length_le
 rw [List.length_take] at this
 omega
def TidyPost (l : List Ent) (p : List Pfx) (w : World) (r : Ending) (w' : World) : Prop :=
 ∃ (v : Value) (q : List Pfx), r = .returned (.tuple #[v, .int .i64 (tabE l p)]) ∧ PfxsFrom w.heap.size w' v q ∧ (tabE l p ≠ 0 → q = []) ∧ (tabE l p = 0 → q = tidyL l p) ∧ w.grownBy w' none
set_option maxRecDepth 100000 in
set_option maxHeartbeats 8000000 in
theorem tidy_any (base : Nat) (u v : Value) (l : List Ent) (p : List Pfx) (w : World) (hu : EntsFrom base w u l) (hsl : ∀ e ∈ l, EntSm e) (hv : PfxsFrom base w v p) (hsm : ∀ x ∈ p, PfxSm x) :
 Calls Tryz.prog 30 #[u, v] w (TidyPost l p w) := by
 obtain ⟨i0, hi0, hz0, hz1, hz2⟩ := info_parts pfxInfo2
 obtain ⟨j0, hj0, hy0, hy1, hy2⟩ := info_parts boolInfo
 have HCT : Hid (∀ W, w.grownBy W none → Calls Tryz.prog 14 #[u, v] W fun r w' => r = .returned (.int .i64 (tabE l p)) ∧ W.grownBy w' none) := fun W hW => checkTable_any base u v l p W (hu.grown hW) hsl (hv.grown hW) hsm
 have HTO : Hid (tabE l p = 0 → ∀ W, w.grownBy W none → Calls Tryz.prog 56 #[u, v] W (TabPost base u v l p W)) := fun h W hW => tableOf_right base u v l p W (hu.grown hW) (hv.grown hW) (tabE_ok h)
 have HV := Lib.hid hv
 obtain ⟨A, c, rfl, hlen, hA⟩ := hv.shape
 have HA := Lib.hid hA
 obtain ⟨LP, hLP⟩ : ∃ LP, p.length = LP := ⟨_, rfl⟩
 obtain ⟨E, hE⟩ : ∃ E, tabE l p = E := ⟨_, rfl⟩
 have HE := Lib.hid hE
 have HLP := Lib.hid hLP
 rw [hE] at HCT
 rw [hLP] at HCT HTO HV hlen ⊢
 clear hu hv hA hE hLP
 go_enter Tryz.func30, Tryz.ntmps30
 go_wp2_with fail
 refine (HCT.out _ (gr_refl _ _)).mono ?_
 rintro _ w2 ⟨rfl, hg2⟩
 by_cases hE0 : E = 0
 ·have hR := tabE_ok (HE.out.trans hE0)
  have hl2 := hR.ok.len
  have hPOST : Hid (∀ V w', PfxsFrom w.heap.size w' V (tidyL l p) → w.grownBy w' none → TidyPost l p w (.returned (.tuple #[V, .int .i64 0])) w') := fun V w' h hg => ⟨V, _, by rw [HE.out, hE0], h, fun h => absurd (HE.out.trans hE0) h, fun _ => rfl, hg⟩
  have HTO2 := Lib.hid (HTO.out (HE.out.trans hE0))
  rw [HLP.out] at hl2
  subst hE0
  have HRT := Lib.hid hR
  clear hR HTO HCT
  go_wp2_with fail
  refine (HTO2.out _ hg2).mono ?_
  rintro _ w3 ⟨base2, gT, bB, bW, rfl, hTF, _, hg3⟩
  have hG3 := gr_trans hg2 hg3
  have HTF := Lib.hid hTF
  clear hTF hg2 hg3
  go_wp2_with (refine wpList_make_full _ rfl _ _ 134 rfl w3.heap.size 4 j0 _ 1 Tryz.underlying134 hj0 hy0 hy1 .i64 .i64 _ _ LP rfl rfl rfl rfl (by rw [hy2]; omega) (by unfold maxLen; omega) (Nat.le_refl _) ?_; intro w4 hown4 hg4)
  have hBL : BoolsFrom w3.heap.size w4 (.slice (some ⟨w3.heap.size, 0, none⟩) LP LP) (goneTo l p 0) := by
   show BoolsFrom _ _ _ (List.replicate p.length false)
   rw [HLP.out]
   exact bools_made hown4
  have hG4 := gr_trans hG3 hg4
  have HT4 : Hid (∀ W, w4.grownBy W (some w3.heap.size) → TabFull base base2 gT bB bW u (.slice A LP c) l p W ) := fun W hW => by
   have h1 : w3.grownBy W none := gr_grown hg4 hW (fun g e => by injection e with e; exact .inr (by omega))
   exact HTF.out.grown h1
  have HW3 : Hid (w.heap.size ≤ w3.heap.size) := hG3.size
  obtain ⟨b4, hb4⟩ : ∃ x, w4.heap.size = x := ⟨_, rfl⟩
  have HW4 : Hid (w.heap.size ≤ b4) := by show _ ≤ _; rw [← hb4]; exact hG4.size
  have HWB : Hid (w3.heap.size < b4) := by show _ < _; rw [← hb4]; exact (World.ownsRow.lt hBL w3.heap.size rfl).2
  have HB4E := Lib.hid hb4
  generalize w3.heap.size = gB at *
  clear hown4 hG3 hg4 hb4
  go_wp2_with fail
  go_loopw [9, 26] (fun ov kv wr => ∃ k : Nat, k ≤ LP ∧ kv = .int .i64 k ∧ PfxsFrom b4 wr ov (outTo l p k) ∧ BoolsFrom gB wr (.slice (some ⟨gB, 0, none⟩) LP LP) (goneTo l p k) ∧ w4.grownBy wr (some gB)) (fun _ kv _ => LP - (intOf kv).toNat)
  case atStart => exact ⟨0, by omega, rfl, PfxsFrom.nil _ _, hBL, gr_refl _ _⟩
  case round =>
   obtain ⟨k, hk, rfl, hown, hbl, hg⟩ := hrel
   obtain ⟨A2, c2, rfl, _, hA2⟩ := hown.shape
   obtain ⟨LO, hLO⟩ : ∃ LO, (outTo l p k).length = LO := ⟨_, rfl⟩
   have hLOb : LO ≤ k := by rw [← hLO]; exact outTo_len l p k (by rw [HLP.out]; exact hk)
   have hgw : w.grownBy wr none := gr_grown hG4 hg (fun g e => by injection e with e; exact .inr (by have := HW3.out; omega))
   clear hBL
   by_cases hlt : k < LP
   ·have hki : (k : Int) < (LP : Int) := by omega
    have hk0 : (0 : Int) ≤ (k : Int) := by omega
    have hkp : k < p.length := by rw [HLP.out]; exact hlt
    obtain ⟨gp, rfl, _, hgl⟩ := HA.out (by rw [HLP.out]; omega)
    have hat := (show PfxsFrom base w (.slice (some ⟨gp, 0, none⟩) p.length c) p from by rw [HLP.out]; exact HV.out).at_ k hkp
    obtain ⟨q0, q1, q2, q3, q4, q5⟩ := hat
    have q0 := hgw.cell q0 (by simp)
    have q1 := hgw.cell q1 (by simp)
    have q2 := hgw.cell q2 (by simp)
    have q3 := hgw.cell q3 (by simp)
    have q4 := hgw.cell q4 (by simp)
    have q5 := hgw.cell q5 (by simp)
    have hgl2 := goneTo_len l p k
    rw [HLP.out] at hgl2
    have HNX : Hid (∀ W, wr.grownBy W none → Calls Tryz.prog 82 #[.pointer (some ⟨gT, 0, none⟩), .int .i64 k, .slice (some ⟨gB, 0, none⟩) LP LP] W fun r w' => r = .returned (.bool (needX l p (goneTo l p k) k p[k])) ∧ W.grownBy w' none) := fun W hW => needless_ok base base2 gT bB bW u _ l p k gB _ (goneTo l p k) W (HT4.out W (gr_trans hg (gr_weak hW _))) HRT.out hkp (hbl.grown hW) (goneTo_len l p k)
    have hyes : ∀ b, tidB l p (goneTo l p k) k = b → goneTo l p (k + 1) = (goneTo l p k).set k b := fun b h => by rw [← h]; rfl
    have hno : tidB l p (goneTo l p k) k = false → outTo l p (k + 1) = outTo l p k ++ [p[k]] := outTo_no hkp
    have hye : tidB l p (goneTo l p k) k = true → outTo l p (k + 1) = outTo l p k := outTo_yes hkp
    rw [tidB_at hkp] at hyes hno hye
    have hbc : wr.cell? ⟨gB, k, none⟩ = some (.bool ((goneTo l p k)[k]'(by omega))) := BoolsFrom.at_ (by rw [hgl2]; exact hbl) k (by omega)
    generalize (goneTo l p k)[k]'(by omega) = OB at *
    generalize needX l p (goneTo l p k) k p[k] = NX at *
    generalize p[k] = x at *
    obtain ⟨XB, XE, XA, XZ, XW, XN⟩ := x
    have HY := Lib.hid hyes
    have HN := Lib.hid hno
    have HE2 := Lib.hid hye
    rw [hLO] at hown
    (try rw [hLO])
    have HLO := Lib.hid hLO
    have HOWN := Lib.hid hown
    have HBL := Lib.hid hbl
    have HGL := Lib.hid hgl2
    have HBI : Hid (∀ W (B : Bool), wr.grownBy W none → BoolsFrom gB (W.setCell ⟨gB, k, none⟩ (.bool B)) (.slice (some ⟨gB, 0, none⟩) LP LP) ((goneTo l p k).set k B) ∧ W.grownBy (W.setCell ⟨gB, k, none⟩ (.bool B)) (some gB) ∧ w4.grownBy (W.setCell ⟨gB, k, none⟩ (.bool B)) (some gB) ∧ PfxsFrom b4 (W.setCell ⟨gB, k, none⟩ (.bool B)) (.slice A2 LO c2) (outTo l p k)) := fun W B hW => by
     have h1 := BoolsFrom.stored (HBL.out.grown hW) HGL.out.symm k B
     refine ⟨h1.1, h1.2, gr_trans (gr_trans hg (gr_weak hW _)) h1.2, ?_⟩
     have h2 := HOWN.out.grown hW
     rw [← HLO.out] at h2 ⊢
     exact PfxsFrom.other h2 h1.2 HWB.out
    have HFZ : Hid (∀ W, wr.grownBy W none → W.frozen? ⟨gB, k, none⟩ = false ∧ W.cell? ⟨gB, k, none⟩ = some (.bool OB)) := fun W hW => by
     have h := HBL.out.grown hW
     unfold BoolsFrom at h
     rw [HGL.out] at h
     exact ⟨World.ownsRow.frozenAt h k, hW.cell hbc (by simp)⟩
    clear hyes hno hye hLO hA2 hown hbl hgl2 hbc
    simp only at q0 q1 q2 q3 q4 q5
    have hgA := World.grownBy_alloc wr (.cells #[.string XB, .string XE, .int .i64 XA, .int .i64 XZ, .bool XW, .int .i64 XN] 72) none
    have hX := Blk.new wr 72 #[.string XB, .string XE, .int .i64 XA, .int .i64 XZ, .bool XW, .int .i64 XN]
    go_upto_region 10 with fail
    generalize wr.alloc (.cells #[.string XB, .string XE, .int .i64 XA, .int .i64 XZ, .bool XW, .int .i64 XN] 72) = w5 at *
    obtain ⟨gX, hgX⟩ : ∃ x, wr.heap.size = x := ⟨_, rfl⟩
    have HHW : Hid (gB < gX) := by show _ < _; rw [← hgX]; have := HWB.out; have := hg.size; have := HB4E.out; omega
    rw [hgX] at hX
    (try rw [hgX])
    clear hgX
    have HX := Lib.hid hX
    have x4 := hX.cell 4
    simp only [List.getElem?_toArray, List.getElem?_cons_zero, List.getElem?_cons_succ] at x4
    clear q0 q1 q2 q3 q4 q5 hX
    have HXB : Hid (gX ≠ gB) := by show _ ≠ _; intro e; have h1 := HHW.out; omega
    cases XW
    ·go_wp2_with fail
     refine (HNX.out _ hgA).mono ?_
     rintro _ w6 ⟨rfl, hg5c⟩
     have hgc := gr_trans hgA hg5c
     clear x4
     cases NX
     ·obtain ⟨hfz, hcb⟩ := HFZ.out w6 hgc
      obtain ⟨hb1, hb2, hb3, hb4⟩ := HBI.out w6 false hgc
      have hX7 := Blk.far (HX.out.grown hg5c (by simp)) (p := ⟨gB, k, none⟩) HXB.out (.bool false)
      have hc7 : (w6.setCell ⟨gB, k, none⟩ (.bool false)).cell? ⟨gB, k, none⟩ = some (.bool false) := by
       have h := BoolsFrom.at_ (l := (goneTo l p k).set k false) (by rw [List.length_set, HGL.out]; exact hb1) k (by rw [List.length_set, HGL.out]; exact hlt)
       simpa using h
      go_upto_region 11 with fail
      generalize w6.setCell ⟨gB, k, none⟩ (.bool false) = w7 at *
      have hrow7 : BoolsFrom gB w7 (.slice (some ⟨gB, 0, none⟩) LP LP) (goneTo l p (k + 1)) := by rw [HY.out false (by simp)]; exact hb1
      have HR7 := Lib.hid hrow7
      clear hfz hcb hb1 hb2 hrow7
      have y0 := hX7.cell 0
      have y1 := hX7.cell 1
      have y2 := hX7.cell 2
      have y3 := hX7.cell 3
      have y4 := hX7.cell 4
      have y5 := hX7.cell 5
      simp only [List.getElem?_toArray, List.getElem?_cons_zero, List.getElem?_cons_succ] at y0 y1 y2 y3 y4 y5
      have HN2 : Hid (outTo l p (k + 1) = outTo l p k ++ [⟨XB, XE, XA, XZ, false, XN⟩]) := HN.out (by simp)
      have hw7 : b4 ≤ w7.heap.size := by have := hb3.size; have := HB4E.out; omega
      have hb4' : w7.ownsRow b4 72 6 (.slice A2 LO c2) LO ((outTo l p k).flatMap encP) := by
       have h := hb4
       unfold PfxsFrom at h
       rw [HLO.out] at h
       exact h
      have HB4 := Lib.hid hb4'
      clear hb4 hX7
      go_wp2_with (at_builtin; refine wpList_append_own _ rfl _ _ 27 rfl b4 72 i0 _ 6 64 Tryz.underlying27 hi0 hz0 hz1 hz2 rfl (by decide) _ LO _ rfl (World.ownsRow.alloc HB4.out _) ⟨_, 0, none⟩ 1 1 [.string XB, .string XE, .int .i64 XA, .int .i64 XZ, .bool false, .int .i64 XN] rfl rfl (World.news_of_block (Blk.new _ _ _)) (pfx_ones2 _ _ _ _ _ _) (by unfold maxLen; omega) (by omega) (by simp; omega) ?_; intro v' w8 hownB hgrB _)
      have hown8 : PfxsFrom b4 w8 v' (outTo l p (k + 1)) := by rw [HN2.out]; exact pfx_own ⟨XB, XE, XA, XZ, false, XN⟩ HLO.out.symm hownB
      have hlt8 := fun g e => (HB4.out.lt g e).1
      have hG8 : w4.grownBy w8 (some gB) := gr_grown (gr_alloc hb3 _) hgrB (fun g e => .inr (by have := hlt8 g e; have := HB4E.out; omega))
      have hR8 : BoolsFrom gB w8 (.slice (some ⟨gB, 0, none⟩) LP LP) (goneTo l p (k + 1)) := own_low (B := gB + 1) (World.ownsRow.alloc (show World.ownsRow _ _ _ _ _ _ _ from HR7.out) _) (fun g e => by simp [Value.ownBlock] at e; omega) hgrB (fun g e => by have := hlt8 g e; have := HWB.out; omega)
      go_wp2_with fail
      go_roundw
      case rel => exact ⟨k + 1, by omega, by go_num, hown8, hR8, hG8⟩
      case measure => simp [intOf]; omega
     ·obtain ⟨hfz, hcb⟩ := HFZ.out w6 hgc
      obtain ⟨hb1, hb2, hb3, hb4⟩ := HBI.out w6 true hgc
      have hX7 := Blk.far (HX.out.grown hg5c (by simp)) (p := ⟨gB, k, none⟩) HXB.out (.bool true)
      have hc7 : (w6.setCell ⟨gB, k, none⟩ (.bool true)).cell? ⟨gB, k, none⟩ = some (.bool true) := by
       have h := BoolsFrom.at_ (l := (goneTo l p k).set k true) (by rw [List.length_set, HGL.out]; exact hb1) k (by rw [List.length_set, HGL.out]; exact hlt)
       simpa using h
      go_upto_region 11 with fail
      generalize w6.setCell ⟨gB, k, none⟩ (.bool true) = w7 at *
      have hrow7 : BoolsFrom gB w7 (.slice (some ⟨gB, 0, none⟩) LP LP) (goneTo l p (k + 1)) := by rw [HY.out true (by simp)]; exact hb1
      have HR7 := Lib.hid hrow7
      clear hfz hcb hb1 hb2 hrow7
      have HN2 : Hid (PfxsFrom b4 w7 (.slice A2 LO c2) (outTo l p (k + 1))) := by show PfxsFrom _ _ _ _; rw [HE2.out (by simp)]; exact hb4
      clear hb4 hX7
      go_wp2_with fail
      go_roundw
      case rel => exact ⟨k + 1, by omega, by go_num, HN2.out, HR7.out, hb3⟩
      case measure => simp [intOf]; omega
    ·have hgc := hgA
     have hg5c := gr_refl w5 none
     obtain ⟨hfz, hcb⟩ := HFZ.out w5 hgc
     obtain ⟨hb1, hb2, hb3, hb4⟩ := HBI.out w5 false hgc
     have hX7 := Blk.far (HX.out.grown hg5c (by simp)) (p := ⟨gB, k, none⟩) HXB.out (.bool false)
     have hc7 : (w5.setCell ⟨gB, k, none⟩ (.bool false)).cell? ⟨gB, k, none⟩ = some (.bool false) := by
      have h := BoolsFrom.at_ (l := (goneTo l p k).set k false) (by rw [List.length_set, HGL.out]; exact hb1) k (by rw [List.length_set, HGL.out]; exact hlt)
      simpa using h
     go_upto_region 11 with fail
     generalize w5.setCell ⟨gB, k, none⟩ (.bool false) = w7 at *
     have hrow7 : BoolsFrom gB w7 (.slice (some ⟨gB, 0, none⟩) LP LP) (goneTo l p (k + 1)) := by rw [HY.out false (by simp)]; exact hb1
     have HR7 := Lib.hid hrow7
     clear hfz hcb hb1 hb2 hrow7
     have y0 := hX7.cell 0
     have y1 := hX7.cell 1
     have y2 := hX7.cell 2
     have y3 := hX7.cell 3
     have y4 := hX7.cell 4
     have y5 := hX7.cell 5
     simp only [List.getElem?_toArray, List.getElem?_cons_zero, List.getElem?_cons_succ] at y0 y1 y2 y3 y4 y5
     have HN2 : Hid (outTo l p (k + 1) = outTo l p k ++ [⟨XB, XE, XA, XZ, true, XN⟩]) := HN.out (by simp)
     have hw7 : b4 ≤ w7.heap.size := by have := hb3.size; have := HB4E.out; omega
     have hb4' : w7.ownsRow b4 72 6 (.slice A2 LO c2) LO ((outTo l p k).flatMap encP) := by
      have h := hb4
      unfold PfxsFrom at h
      rw [HLO.out] at h
      exact h
     have HB4 := Lib.hid hb4'
     clear hb4 hX7
     go_wp2_with (at_builtin; refine wpList_append_own _ rfl _ _ 27 rfl b4 72 i0 _ 6 64 Tryz.underlying27 hi0 hz0 hz1 hz2 rfl (by decide) _ LO _ rfl (World.ownsRow.alloc HB4.out _) ⟨_, 0, none⟩ 1 1 [.string XB, .string XE, .int .i64 XA, .int .i64 XZ, .bool true, .int .i64 XN] rfl rfl (World.news_of_block (Blk.new _ _ _)) (pfx_ones2 _ _ _ _ _ _) (by unfold maxLen; omega) (by omega) (by simp; omega) ?_; intro v' w8 hownB hgrB _)
     have hown8 : PfxsFrom b4 w8 v' (outTo l p (k + 1)) := by rw [HN2.out]; exact pfx_own ⟨XB, XE, XA, XZ, true, XN⟩ HLO.out.symm hownB
     have hlt8 := fun g e => (HB4.out.lt g e).1
     have hG8 : w4.grownBy w8 (some gB) := gr_grown (gr_alloc hb3 _) hgrB (fun g e => .inr (by have := hlt8 g e; have := HB4E.out; omega))
     have hR8 : BoolsFrom gB w8 (.slice (some ⟨gB, 0, none⟩) LP LP) (goneTo l p (k + 1)) := own_low (B := gB + 1) (World.ownsRow.alloc (show World.ownsRow _ _ _ _ _ _ _ from HR7.out) _) (fun g e => by simp [Value.ownBlock] at e; omega) hgrB (fun g e => by have := hlt8 g e; have := HWB.out; omega)
     go_wp2_with fail
     go_roundw
     case rel => exact ⟨k + 1, by omega, by go_num, hown8, hR8, hG8⟩
     case measure => simp [intOf]; omega
   ·have hkl : ¬ (k : Int) < (LP : Int) := by omega
    have hkk : k = p.length := by rw [HLP.out]; omega
    have HFIN : Hid (PfxsFrom w.heap.size wr (.slice A2 LO c2) (tidyL l p)) := by
     show PfxsFrom _ _ _ (outTo l p p.length)
     rw [← hkk, ← hLO]
     exact ownsRow_low hown HW4.out
    (try rw [hLO])
    clear hown hA2 hkk hLO hbl
    go_wp2_with fail
    go_ret2
    exact hPOST.out _ _ HFIN.out hgw
 ·have hPOST : Hid (∀ w', w.grownBy w' none → TidyPost l p w (.returned (.tuple #[.slice none 0 0, .int .i64 E])) w') := fun w' hg => ⟨_, [], by rw [HE.out], PfxsFrom.nil _ _, fun _ => rfl, fun h => absurd (HE.out.symm.trans h) hE0, hg⟩
  have hE1 : (E == 0) = false := by rw [beq_eq_false_iff_ne]; exact hE0
  clear HTO HCT HE hE0
  go_wp2_with fail
  go_ret2
  exact hPOST.out _ hg2
end Go.Proofs.YtbpkfkbbkgdlaaaGreatDoor

namespace Go.Proofs.YtbpkfkbbkgdlaaaGreatDoor
open Go.RowKit
set_option linter.unusedVariables false
set_option linter.unusedSimpArgs false

/-- Short strings of ASCII. -/
def fewA (n : Nat) (v : ByteArray) : Bool := decide (v.size ≤ n) && v.data.toList.all fun c => decide (c.toNat < 128)
theorem fewA_of {n : Nat} {v : ByteArray} (h : fewA n v = true) : v.size ≤ n ∧ Ascii v := by
 simp only [fewA, Bool.and_eq_true, decide_eq_true_eq, List.all_eq_true] at h
 exact ⟨h.1, Ascii.of_mem h.2⟩
theorem fewA_in {n : Nat} {l : List ByteArray} (h : l.all (fewA n) = true) {v : ByteArray} (hv : v ∈ l) : v.size ≤ n ∧ Ascii v := fewA_of (List.all_eq_true.1 h v hv)
def callBases : List ByteArray := [⟨#[107, 49, 97, 98]⟩, ⟨#[107, 52, 97, 98]⟩, ⟨#[111, 104, 50, 97, 98, 99]⟩, ⟨#[111, 104, 48, 120]⟩, ⟨#[51, 100, 97, 48, 120, 121]⟩, ⟨#[103, 51, 97]⟩, ⟨#[100, 108, 49, 122, 122]⟩, ⟨#[119, 49, 97, 119]⟩, ⟨#[107, 49, 98, 97]⟩]
def callTails : List ByteArray := [⟨#[47, 112]⟩, ⟨#[47, 109]⟩, ⟨#[47, 109, 109]⟩, ⟨#[47, 97, 109]⟩, ⟨#[47, 52]⟩, ⟨#[47, 48]⟩]
def callHeads : List ByteArray := [⟨#[111, 104, 48]⟩, ⟨#[103]⟩, ⟨#[51, 97]⟩, ⟨#[100, 108]⟩]
def callEnds : List ByteArray := [⟨#[111, 104, 48]⟩, ⟨#[103]⟩, ⟨#[119, 50, 98]⟩, ⟨#[107]⟩]
theorem slash_ascii : Ascii ⟨#[47]⟩ := (fewA_of (n := 1) (by decide)).2
theorem partsOf_k1ab : (partsOf ⟨#[107, 49, 97, 98]⟩).isSome = true := by decide +kernel
end Go.Proofs.YtbpkfkbbkgdlaaaGreatDoor

namespace Go.Proofs.YtbpkfkbbkgdlaaaGreatDoor
open Go.RowKit
set_option linter.unusedVariables false
set_option linter.unusedSimpArgs false

def GrowSPost (w : World) (e : Ending) (w' : World) : Prop := ∃ v, e = .returned v ∧ StrsFrom w.heap.size w' v [] ∧ w.grownBy w' none
set_option maxRecDepth 100000 in
set_option maxHeartbeats 1000000 in
theorem growNilS_any (n : Nat) (w : World) (hn : n ≤ 10000000) :
 Calls Tryz.prog 137 #[.slice none 0 0, .int .i64 n] w (GrowSPost w) := by
 rcases Nat.eq_zero_or_pos n with h0 | h0
 ·subst h0
  go_enter Tryz.func137, Tryz.ntmps137
  go_wp2_with fail
  go_ret
  exact ⟨_, rfl, StrsFrom.nil _ _, gr_refl _ _⟩
 ·obtain ⟨i0, hi, hz0, hz1, hz2⟩ := info_parts strInfo
  have hr := Lib.run_append_nil_zeros (P := Tryz.prog) w 31 3 31 9 i0 (.string ⟨#[]⟩) .i64 .i64 Tryz.underlying31 Tryz.underlying3 hi hz0 n h0 (by omega) (by omega) (by rw [hz2]; omega)
  have hge := grownCap_ge w n 0 9
  have hle := grownCap_le_maxLen w n 0 9 (by unfold maxLen; omega)
  have hpos : (0 : Int) < (n : Int) := by omega
  have hpos' : 0 < n := h0
  have HR := Lib.hid hr
  have HI := Lib.hid hi
  clear hr hi hz0 hz1 hz2
  go_enter Tryz.func137, Tryz.ntmps137
  go_wp2_with (at_builtin; refine Lib.wpList_append_run _ rfl _ _ _ _ rfl _ _ rfl rfl _ _ HR.out ?_)
  generalize grownCap w n 0 9 = cp at *
  go_wp2_with fail
  go_ret
  refine ⟨_, rfl, ⟨rfl, .inr ⟨w.heap.size, cp, _, rfl, Nat.le_refl _, heap_alloc_new _ _, by simp, hle, ?_, rfl⟩⟩, gr_alloc (gr_drew (gr_refl _ _)) _⟩
  simp [size_zeroCells]
  omega
theorem strs_none {base : Nat} {w : World} {v : Value} {l : List ByteArray} (h : StrsFrom base w v l) : v = .slice none 0 0 ∧ l = [] ∨ ∃ g c, v = .slice (some ⟨g, 0, none⟩) l.length c ∧ base ≤ g ∧ g < w.heap.size := by
 rcases h.2 with ⟨h1, h2⟩ | ⟨g, cap, cur, h1, h2, h3, _⟩
 ·exact .inl ⟨h1, List.eq_nil_of_length_eq_zero h2⟩
 ·exact .inr ⟨g, cap, h1, h2, (Array.getElem?_eq_some_iff.1 h3).1⟩
theorem strs_cells {base : Nat} {w : World} {g c : Nat} {l : List ByteArray} (h : StrsFrom base w (.slice (some ⟨g, 0, none⟩) l.length c) l) : ∀ j u, (l.map Value.string)[j]? = some u → w.cell? ((⟨g, 0, none⟩ : Addr).add j) = some u := by
 intro j u hu
 obtain ⟨x, hx, rfl⟩ : ∃ x, l[j]? = some x ∧ Value.string x = u := by
  rw [List.getElem?_map] at hu
  cases hx : l[j]? with
  | none => rw [hx] at hu; cases hu
  | some x => rw [hx] at hu; injection hu with hu; exact ⟨x, rfl, hu⟩
 obtain ⟨hj, e⟩ := List.getElem?_eq_some_iff.1 hx
 have := h.at_ j hj
 have hadd : (⟨g, 0, none⟩ : Addr).add j = ⟨g, j, none⟩ := by unfold Addr.add; split <;> simp_all
 rw [hadd, this, e]
theorem strs_one (l : List ByteArray) : ∀ u ∈ l.map Value.string, u.oneCell' = true := by
 intro u hu
 obtain ⟨x, _, rfl⟩ := List.mem_map.1 hu
 rfl
/-- The first k lists behind one another. -/
def flatTo (ls : Nat → List ByteArray) : Nat → List ByteArray
 | 0 => []
 | k + 1 => flatTo ls k ++ ls k
theorem flatTo_mono (ls : Nat → List ByteArray) {k K : Nat} (h : k ≤ K) : (flatTo ls k).length ≤ (flatTo ls K).length := by
 obtain ⟨d, rfl⟩ : ∃ d, K = k + d := ⟨K - k, by omega⟩
 clear h
 induction d with
 | zero => exact Nat.le_refl _
 | succ d ih =>
   refine Nat.le_trans ih ?_
   show _ ≤ (flatTo ls (k + d) ++ ls (k + d)).length
   rw [List.length_append]; omega
theorem rowsCell {vs : Nat → Value} {K k : Nat} (h : k < K) : ((List.range K).map vs).toArray[k]? = some (vs k) := by simp [h]
def ConcatSPost (l : List ByteArray) (w : World) (e : Ending) (w' : World) : Prop := ∃ v, e = .returned v ∧ StrsFrom w.heap.size w' v l ∧ w.grownBy w' none
set_option maxRecDepth 100000 in
set_option maxHeartbeats 4000000 in
theorem concatS_any (base g c K : Nat) (vs : Nat → Value) (ls : Nat → List ByteArray) (w : World) (hv : ∀ d, d < K → StrsFrom base w (vs d) (ls d)) (hg : Blk w g 31 ((List.range K).map vs).toArray) (hK : K ≤ 1000000) (hn : (flatTo ls K).length ≤ 1000000) :
 Calls Tryz.prog 84 #[.slice (some ⟨g, 0, none⟩) K c] w (ConcatSPost (flatTo ls K) w) := by
 obtain ⟨i0, hi, hz0, hz1, hz2⟩ := info_parts strInfo
 have HV := Lib.hid hv
 have HNB := Lib.hid hn
 clear hv hn
 go_enter Tryz.func84, Tryz.ntmps84
 go_wp2_with fail
 go_loopw [3, 11] (fun s i wr => ∃ k : Nat, k ≤ K ∧ i = .int .i64 k ∧ s = .int .i64 ((flatTo ls k).length : Nat) ∧ w.grownBy wr none) (fun _ i _ => K - (intOf i).toNat)
 case atStart => exact ⟨0, by omega, rfl, rfl, gr_refl _ _⟩
 case round =>
  obtain ⟨k, hk, rfl, rfl, hgr⟩ := hrel
  by_cases hlt : k < K
  ·have d0 := (hg.grown hgr (by simp)).cell k
   rw [rowsCell hlt] at d0
   obtain ⟨A, ca, hve, hla, _⟩ := (HV.out k hlt).shape
   rw [hve] at d0
   have hki : (k : Int) < (K : Int) := by omega
   have hsum : (flatTo ls (k + 1)).length = (flatTo ls k).length + (ls k).length := by
    show (flatTo ls k ++ ls k).length = _
    rw [List.length_append]
   have hle := Nat.le_trans (flatTo_mono ls (show k + 1 ≤ K by omega)) HNB.out
   rw [hsum] at hle
   have HS := Lib.hid hsum
   clear hsum hve
   generalize (flatTo ls k).length = F at *
   generalize (ls k).length = n at *
   have hnn : ¬ ((F : Int) + (n : Int) < 0) := by omega
   go_wp2_with fail
   go_roundw
   case rel => exact ⟨k + 1, by omega, by go_num, by rw [HS.out]; go_num, hgr⟩
   case measure => simp [intOf]; omega
  ·have hki : ¬ (k : Int) < (K : Int) := by omega
   obtain rfl : k = K := by omega
   go_wp2_with fail
   refine (growNilS_any _ _ (Nat.le_trans HNB.out (by decide))).mono ?_
   rintro _ w1 ⟨o, rfl, ho, hgo⟩
   have hG1 := gr_trans hgr hgo
   have ho' := ownsRow_low (base' := w.heap.size) ho hgr.size
   clear ho hgo hgr
   go_wp2_with fail
   go_loopw [6, 27] (fun o i wr => ∃ j : Nat, j ≤ k ∧ i = .int .i64 j ∧ StrsFrom w.heap.size wr o (flatTo ls j) ∧ w.grownBy wr none) (fun _ i _ => k - (intOf i).toNat)
   case atStart => exact ⟨0, by omega, rfl, ho', hG1⟩
   case round =>
    obtain ⟨j, hj, rfl, hown, hgr⟩ := hrel
    obtain ⟨A2, c2, rfl, hlen2, _⟩ := hown.shape
    by_cases hlj : j < k
    ·have d0 := (hg.grown hgr (by simp)).cell j
     rw [rowsCell hlj] at d0
     have hji : (j : Int) < (k : Int) := by omega
     have hsum : (flatTo ls (j + 1)).length = (flatTo ls j).length + (ls j).length := by
      show (flatTo ls j ++ ls j).length = _
      rw [List.length_append]
     have hle := Nat.le_trans (flatTo_mono ls (show j + 1 ≤ k by omega)) HNB.out
     rw [hsum] at hle
     have HVj := Lib.hid ((HV.out j hlj).grown hgr)
     have HF1 : Hid (flatTo ls (j + 1) = flatTo ls j ++ ls j) := rfl
     generalize flatTo ls j = F at *
     generalize ls j = lj at *
     have hown0 : wr.ownsRow w.heap.size 9 1 (.slice A2 F.length c2) F.length (F.map Value.string) := hown
     have hsz := hgr.size
     have hrow : ∀ kk, (Value.slice A2 F.length c2).ownBlock = some kk → w.heap.size ≤ kk := fun kk h => (hown0.lt kk h).1
     clear hsum
     rcases strs_none HVj.out with ⟨he, hn0⟩ | ⟨ga, cx, he, hga, _⟩
     ·rw [he] at d0
      have HN := Lib.hid hn0
      clear hn0 he
      go_wp2_with (at_builtin; refine wpList_append_own_none rfl _ _ 31 rfl w.heap.size 9 i0 1 Tryz.underlying31 hi _ _ _ rfl hown0 rfl ?_)
      go_roundw
      case rel => exact ⟨j + 1, by omega, by go_num, by rw [HF1.out, HN.out, List.append_nil]; exact hown, hgr⟩
      case measure => simp [intOf]; omega
     ·rw [he] at d0
      have hvj := HVj.out
      rw [he] at hvj
      have hsrc := Lib.hid hvj
      clear he hvj
      go_wp2_with (at_builtin; refine wpList_append_own _ rfl _ _ 31 rfl w.heap.size 9 i0 _ 1 16 Tryz.underlying31 hi hz0 hz1 hz2 rfl (by decide) _ _ _ rfl hown0 ⟨ga, 0, none⟩ lj.length cx (lj.map Value.string) rfl (by simp) (strs_cells hsrc.out) (strs_one lj) (by unfold maxLen; omega) (by omega) hsz ?_; intro v' w4 hownB hgrB hiff; clear hiff)
      have hgF : w.grownBy w4 none := gr_grown hgr hgrB (fun kk h => .inr (hrow kk h))
      have hownC : StrsFrom w.heap.size w4 v' (flatTo ls (j + 1)) := by
       rw [HF1.out]
       unfold StrsFrom
       rw [List.map_append, List.length_append]; exact hownB
      go_wp2_with fail
      go_roundw
      case rel => exact ⟨j + 1, by omega, by go_num, hownC, hgF⟩
      case measure => simp [intOf]; omega
    ·have hji : ¬ (j : Int) < (k : Int) := by omega
     obtain rfl : j = k := by omega
     go_wp2_with fail
     go_ret
     exact ⟨_, rfl, hown, hgr⟩
end Go.Proofs.YtbpkfkbbkgdlaaaGreatDoor

namespace Go.Proofs.YtbpkfkbbkgdlaaaGreatDoor
open Go.RowKit
set_option linter.unusedVariables false
set_option linter.unusedSimpArgs false

/-- The calls that are so many steps away. -/
def inB (s : ByteArray) (L : List ByteArray) (d : Nat) : List ByteArray := L.filter fun c => decide (stepsL s.data.toList c.data.toList = d)
theorem inB_len (s : ByteArray) (L : List ByteArray) (d : Nat) : (inB s L d).length ≤ L.length := List.length_filter_le _ _
theorem inB_snoc {s : ByteArray} {L : List ByteArray} {k : Nat} (d : Nat) (h : k < L.length) : inB s (L.take (k + 1)) d = inB s (L.take k) d ++ (if stepsL s.data.toList L[k].data.toList = d then [L[k]] else []) := by
 unfold inB
 rw [List.take_succ_eq_append_getElem h, List.filter_append]
 congr 1
 by_cases hh : stepsL s.data.toList L[k].data.toList = d
 ·rw [if_pos hh, List.filter_cons_of_pos (by rw [decide_eq_true_eq]; exact hh), List.filter_nil]
 ·rw [if_neg hh, List.filter_cons_of_neg (by rw [decide_eq_true_eq]; exact hh), List.filter_nil]
theorem flatTo_len {ls : Nat → List ByteArray} {m : Nat} (h : ∀ d, (ls d).length ≤ m) : ∀ n, (flatTo ls n).length ≤ n * m
 | 0 => Nat.zero_le _
 | n + 1 => by
   show (flatTo ls n ++ ls n).length ≤ _
   rw [List.length_append, Nat.succ_mul]
   have := flatTo_len h n
   have := h n
   omega
theorem rows_apart {base : Nat} {w : World} {v1 v2 : Value} {l1 l2 : List ByteArray} (h1 : StrsFrom base w v1 l1) (h2 : StrsFrom base w v2 l2) (e1 : l1 = [] → v1 = .slice none 0 0) (e2 : l2 = [] → v2 = .slice none 0 0) (hd : ∀ x ∈ l1, x ∉ l2) : v1.ownBlock = none ∨ v1.ownBlock ≠ v2.ownBlock := by
 cases l1 with
 | nil => rw [e1 rfl]; exact .inl rfl
 | cons x l1 =>
   cases l2 with
   | nil =>
     rw [e2 rfl]
     cases v1.ownBlock with
     | none => exact .inl rfl
     | some g => exact .inr (by intro e; cases e)
   | cons y l2 =>
     obtain ⟨A1, c1, rfl, _, r1⟩ := h1.shape
     obtain ⟨A2, c2, rfl, _, r2⟩ := h2.shape
     obtain ⟨g1, rfl, _⟩ := r1 (by simp)
     obtain ⟨g2, rfl, _⟩ := r2 (by simp)
     refine .inr fun e => ?_
     have e' : some g1 = some g2 := e
     injection e' with e'
     subst e'
     have a1 := h1.at_ 0 (by simp)
     have a2 := h2.at_ 0 (by simp)
     rw [a1] at a2
     injection a2 with a2
     injection a2 with a2
     have a3 : x = y := a2
     exact hd x (by simp) (by rw [a3]; simp)
def RowsN (base : Nat) (w : World) (vs : Nat → Value) (s : ByteArray) (L : List ByteArray) (M : Nat) : Prop := ∀ d, d < M → StrsFrom base w (vs d) (inB s L d) ∧ (inB s L d = [] → vs d = .slice none 0 0)
/-- The values as a row. -/
def rowV (vs : Nat → Value) (M : Nat) : Array Value := ((List.range M).map vs).toArray
theorem rowV_at {vs : Nat → Value} {M k : Nat} (h : k < M) : (rowV vs M)[k]? = some (vs k) := rowsCell h
def updV (vs : Nat → Value) (d : Nat) (v : Value) : Nat → Value := fun e => if e = d then v else vs e
theorem updV_row (vs : Nat → Value) (M d : Nat) (v : Value) : (rowV vs M).setIfInBounds d v = rowV (updV vs d v) M := by
 unfold rowV
 apply Array.ext
 ·simp
 ·intro i h1 h2
  simp [updV, Array.getElem_setIfInBounds]
  by_cases h : d = i
  ·subst h; simp
  ·simp [h, Ne.symm h]
theorem inB_apart (s : ByteArray) (L : List ByteArray) {d e : Nat} (h : d ≠ e) : ∀ x ∈ inB s L d, x ∉ inB s L e := by
 intro x h1 h2
 have a1 := (List.mem_filter.1 h1).2
 have a2 := (List.mem_filter.1 h2).2
 rw [decide_eq_true_eq] at a1 a2
 omega
theorem RowsN.next {base M k d : Nat} {w w' : World} {vs : Nat → Value} {s : ByteArray} {L : List ByteArray} {v : Value} (h : RowsN base w vs s (L.take k) M) (hk : k < L.length) (hd : d < M) (hs : stepsL s.data.toList L[k].data.toList = d)
 (hv : StrsFrom base w' v (inB s (L.take k) d ++ [L[k]])) (hg : w.grownBy w' (vs d).ownBlock) : RowsN base w' (updV vs d v) s (L.take (k + 1)) M := by
 intro e he
 rw [inB_snoc e hk]
 unfold updV
 by_cases hed : e = d
 ·subst hed
  rw [if_pos rfl, if_pos hs]
  exact ⟨hv, fun h => by simp at h⟩
 ·rw [if_neg hed, if_neg (by omega), List.append_nil]
  obtain ⟨h1, h2⟩ := h e he
  obtain ⟨h3, h4⟩ := h d hd
  exact ⟨World.ownsRow.kept h1 hg (rows_apart h1 h3 h2 h4 (inB_apart s _ hed)), h2⟩
theorem RowsN.skip {base M k : Nat} {w w' : World} {vs : Nat → Value} {s : ByteArray} {L : List ByteArray} (h : RowsN base w vs s (L.take k) M) (hk : k < L.length) (hs : M ≤ stepsL s.data.toList L[k].data.toList) (hg : w.grownBy w' none) : RowsN base w' vs s (L.take (k + 1)) M := by
 intro e he
 rw [inB_snoc e hk, if_neg (by omega), List.append_nil]
 exact ⟨(h e he).1.grown hg, (h e he).2⟩
theorem RowsN.grown {base M : Nat} {w w' : World} {vs : Nat → Value} {s : ByteArray} {L : List ByteArray} (h : RowsN base w vs s L M) (hg : w.grownBy w' none) : RowsN base w' vs s L M := fun d hd => ⟨(h d hd).1.grown hg, (h d hd).2⟩
theorem RowsN.other {base M b : Nat} {w w' : World} {vs : Nat → Value} {s : ByteArray} {L : List ByteArray} (h : RowsN base w vs s L M) (hg : w.grownBy w' (some b)) (hb : b < base) : RowsN base w' vs s L M := fun d hd => ⟨(h d hd).1.other hg hb, (h d hd).2⟩
theorem RowsN.start (base : Nat) (w : World) (s : ByteArray) (L : List ByteArray) (M : Nat) : RowsN base w (fun _ => .slice none 0 0) s (L.take 0) M := fun d hd => ⟨StrsFrom.nil _ _, fun _ => rfl⟩
theorem strsInfo : (Tryz.prog.info? 31).map (fun i => (i.zero, i.size, i.bytes)) = some (some (.slice none 0 0), 1, 24) := by kernel_rfl
theorem made_strs (M : Nat) : madeCells (Value.slice none 0 0).cells M = rowV (fun _ => Value.slice none 0 0) M := by
 unfold rowV
 apply Array.ext
 ·simp [madeCells]
 ·intro i h1 h2
  simp [madeCells, Value.cells, Nat.mod_one]
def NearPost (s : ByteArray) (L : List ByteArray) (m : Nat) (w : World) (e : Ending) (w' : World) : Prop := ∃ v, e = .returned (.tuple #[v, .int .i64 0]) ∧ StrsFrom w.heap.size w' v (flatTo (inB s L) (m + 1)) ∧ w.grownBy w' none
set_option maxRecDepth 100000 in
set_option maxHeartbeats 4000000 in
theorem near_ok (base : Nat) (s : ByteArray) (v : Value) (L : List ByteArray) (m : Nat) (w : World) (hl : StrsFrom base w v L) (hn : L.length ≤ 1000) (hs : s.size ≤ 100) (ha : Ascii s) (hc : isCall s = true) (hcs : ∀ s ∈ L, s.size ≤ 100 ∧ Ascii s ∧ isCall s = true) (hm : m ≤ 14) :
 Calls Tryz.prog 34 #[.string s, v, .int .i64 m] w (NearPost s L m w) := by
 have HI := Lib.hid (isCall_any s w (by omega) ha)
 rw [hc] at HI
 have HCK := Lib.hid (fun W (h : StrsFrom base W v L) => checkCalls_ok base v L W h hn hcs)
 have HCS := Lib.hid hcs
 obtain ⟨i1, hi1, hz3, hz4, hz5⟩ := info_parts strsInfo
 have hM1 : ((m + 1 : Nat) : Int) = (m : Int) + 1 := by push_cast; rfl
 have hmk : ∀ W : World, (Instr.makeSlice 73 (.int .i64 ((m : Int) + 1)) (.int .i64 ((m : Int) + 1))).run Tryz.prog W = .ok (.slice (some ⟨W.heap.size, 0, none⟩) (m + 1) (m + 1)) (W.alloc (.cells (rowV (fun _ => Value.slice none 0 0) (m + 1)) 31)) := fun W => by
  have h := run_make (P := Tryz.prog) W 73 31 i1 _ Tryz.underlying73 hi1 hz3 .i64 .i64 ((m : Int) + 1) ((m : Int) + 1) (by omega) (by omega) (by rw [hz5]; omega) (by omega)
  rw [h, hz4]
  have e : ((m : Int) + 1).toNat = m + 1 := by omega
  rw [e]
  rw [made_strs, Nat.mul_one]
 have HMK := Lib.hid hmk
 obtain ⟨i0, hi, hz0, hz1, hz2⟩ := info_parts strInfo
 have HL := Lib.hid hl
 obtain ⟨A, ca, rfl, hla, hA⟩ := hl.shape
 have HA := Lib.hid hA
 have hm0 : ¬ (m : Int) < 0 := by omega
 have hm14 : ¬ (14 : Int) < (m : Int) := by omega
 have hST := Lib.hid (fun c (hcc : c.size ≤ 100) W => steps_any s c W hs hcc)
 obtain ⟨N, hN⟩ : ∃ N, L.length = N := ⟨_, rfl⟩
 have HNN := Lib.hid hN
 rw [hN] at hn hla HCK ⊢
 have HA2 : Hid (0 < N → ∃ g, A = some ⟨g, 0, none⟩ ∧ base ≤ g ∧ g < w.heap.size) := by rw [← hN]; exact HA.out
 clear hl hA hs ha hc hcs hN hi1 hz3 hz4 hz5 hmk
 go_enter Tryz.func34, Tryz.ntmps34
 go_wp2_with fail
 refine HI.out.mono ?_
 rintro _ w1 ⟨rfl, hg1⟩
 go_wp2_with fail
 refine (HCK.out _ (by have h := HL.out.grown hg1; rw [HNN.out] at h; exact h)).mono ?_
 rintro _ w2 ⟨rfl, hg2⟩
 have hG2 := gr_trans hg1 hg2
 have hmk := HMK.out w2
 have hB0 := Blk.new w2 31 (rowV (fun _ => Value.slice none 0 0) (m + 1))
 have hGA := World.grownBy_alloc w2 (.cells (rowV (fun _ => Value.slice none 0 0) (m + 1)) 31) none
 have hszX := hG2.size
 have HL2 : Hid (StrsFrom base w2 (.slice A N ca) L) := by
  have h := HL.out.grown hG2
  rw [HNN.out] at h
  exact h
 have HR0 := RowsN.start (w2.heap.size + 1) (w2.alloc (.cells (rowV (fun _ => Value.slice none 0 0) (m + 1)) 31)) s L (m + 1)
 clear hg1 hg2
 go_wp2_with fail
 generalize w2.alloc (.cells (rowV (fun _ => Value.slice none 0 0) (m + 1)) 31) = w3 at *
 obtain ⟨X, hX⟩ : ∃ X, w2.heap.size = X := ⟨_, rfl⟩
 rw [hX] at hB0 HR0 hszX ⊢
 have HX := Lib.hid hX
 clear hX hmk
 go_loopw [32] (fun i wr => ∃ (k : Nat) (vs : Nat → Value), k ≤ N ∧ i = .int .i64 k ∧ Blk wr X 31 (rowV vs (m + 1)) ∧ Hid (RowsN (X + 1) wr vs s (L.take k) (m + 1)) ∧ w2.grownBy wr none) (fun i _ => N - (intOf i).toNat)
 case atStart => exact ⟨0, _, by omega, rfl, hB0, HR0, hGA⟩
 case round =>
  obtain ⟨k, vs, hk, rfl, hbl, HRN, hgr⟩ := hrel
  clear hB0 HR0 hGA
  rename World => wo
  by_cases hlt : k < N
  ·have hki : (k : Int) < (N : Int) := by omega
   have hkl : k < L.length := by rw [HNN.out]; exact hlt
   obtain ⟨g, rfl, _, _⟩ := HA2.out (by omega)
   have cx : wo.cell? ⟨g, k, none⟩ = some (.string L[k]) := by
    have h := HL2.out.grown hgr
    rw [← HNN.out] at h
    exact h.at_ k hkl
   have HSC := Lib.hid (fun W => hST.out L[k] (HCS.out _ (List.getElem_mem hkl)).1 W)
   have HNX := Lib.hid (fun (w' w'' : World) v d (h1 : RowsN (X + 1) w' vs s (L.take k) (m + 1)) (h2 : d < m + 1) (h3 : stepsL s.data.toList L[k].data.toList = d) h4 h5 => RowsN.next (w := w') (w' := w'') (v := v) h1 hkl h2 h3 h4 h5)
   have HSK := Lib.hid (fun (w' w'' : World) (h1 : RowsN (X + 1) w' vs s (L.take k) (m + 1)) (h2 : m + 1 ≤ stepsL s.data.toList L[k].data.toList) h3 => RowsN.skip (w := w') (w' := w'') h1 hkl h2 h3)
   generalize L[k] = c at *
   obtain ⟨D, hD⟩ : ∃ D, stepsL s.data.toList c.data.toList = D := ⟨_, rfl⟩
   rw [hD] at HSC HSK
   have HD := Lib.hid hD
   clear hD hST
   go_wp2_with fail
   refine (HSC.out _).mono ?_
   rintro _ w6 ⟨rfl, hg6⟩
   have hG6 := gr_trans hgr hg6
   have hbl6 := hbl.grown hg6 (by simp)
   have HR6 := Lib.hid (HRN.out.grown hg6)
   clear hbl hgr HRN cx hg6
   by_cases hle : D ≤ m
   ·have hlei : (D : Int) ≤ (m : Int) := by omega
    have hDm : D < m + 1 := by omega
    have hDmi : (D : Int) < (m : Int) + 1 := by omega
    have hD0 : (0 : Int) ≤ (D : Int) := by omega
    have hDw : IntKind.i64.wrap (D : Int) = (D : Int) := IntWalk.i64_in _ ⟨by omega, by omega⟩
    obtain ⟨hrow, hnil⟩ := HR6.out D hDm
    obtain ⟨A2, c2, hve, hl2, _⟩ := hrow.shape
    have cd := hbl6.cell D
    rw [rowV_at hDm, hve] at cd
    have hlen : (inB s (L.take k) D).length ≤ 1000 := by
     have h1 := inB_len s (L.take k) D
     have h2 : (L.take k).length ≤ k := by rw [List.length_take]; omega
     omega
    have hrowD : w6.ownsRow (X + 1) 9 1 (.slice A2 (inB s (L.take k) D).length c2) (inB s (L.take k) D).length ((inB s (L.take k) D).map Value.string) := by
     have h := hrow
     rw [hve] at h
     exact h
    have hown : ∀ kk, (Value.slice A2 (inB s (L.take k) D).length c2).ownBlock = some kk → X + 1 ≤ kk := fun kk h => (hrowD.lt kk h).1
    have HNX2 : Hid (∀ (w'' : World) v, StrsFrom (X + 1) w'' v (inB s (L.take k) D ++ [c]) → w6.grownBy w'' (Value.slice A2 (inB s (L.take k) D).length c2).ownBlock → RowsN (X + 1) w'' (updV vs D v) s (L.take (k + 1)) (m + 1)) := fun w'' v h4 h5 => HNX.out w6 w'' v D HR6.out hDm HD.out h4 (by rw [hve]; exact h5)
    have CD : Hid (∀ W : World, Blk W X 31 (rowV vs (m + 1)) → W.cell? ⟨X, D, none⟩ = some (.slice A2 (inB s (L.take k) D).length c2)) := fun W hW => by
     have h := hW.cell D
     rw [rowV_at hDm, hve] at h
     exact h
    have hszo := hbl6.lt
    generalize inB s (L.take k) D = l1 at *
    have HOW := Lib.hid hown
    have HB6 := Lib.hid hbl6
    clear hrow hnil hve HR6 HNX HSK hl2 hown
    go_wp2_with (at_builtin; refine wpList_append_own _ rfl _ _ 31 rfl (X + 1) 9 i0 _ 1 16 Tryz.underlying31 hi hz0 hz1 hz2 rfl (by decide) _ _ _ rfl (hrowD.alloc _) ⟨w6.heap.size, 0, none⟩ 1 1 [.string c] rfl rfl (cells_new _ _ _) (str_one _) (by unfold maxLen; omega) (by omega) (by simp; omega) ?_; intro v' w7 hownB hgrB0 _; obtain ⟨ao, n', cap, hvv⟩ : ∃ ao n' cap, v' = .slice ao n' cap := hownB.2.elim (fun h => ⟨_, _, _, h.1⟩) (fun ⟨g, cap, cur, hv, _⟩ => ⟨_, _, _, hv⟩); subst hvv; have hgrB : w6.grownBy w7 (Value.slice A2 l1.length c2).ownBlock := gr_trans (World.grownBy_alloc w6 _ _) hgrB0; have hB7 := HB6.out.grown hgrB (fun e => by have := HOW.out X e.symm; omega); have f7 := hB7.free D; have d7 := CD.out _ hB7; clear hgrB0)
    have HB7 := Lib.hid hB7
    have HOB := Lib.hid hownB
    have HGB := Lib.hid hgrB
    clear hB7 hownB hgrB
    go_wp2_with fail
    have hR7 := HNX2.out w7 _ (by unfold StrsFrom; rw [List.map_append, List.length_append]; exact HOB.out) HGB.out
    have hp7 : w7.grownBy (w7.setCell ⟨X, D, none⟩ (.slice ao n' cap)) (some X) := gr_put (p := (⟨X, D, none⟩ : Addr)) (gr_refl w7 (some X)) (.inl rfl) _
    have hR8 := hR7.other hp7 (by omega)
    have hB8 := HB7.out.put D (.slice ao n' cap)
    rw [updV_row] at hB8
    have hG8 : w2.grownBy (w7.setCell ⟨X, D, none⟩ (.slice ao n' cap)) none := gr_put (p := (⟨X, D, none⟩ : Addr)) (gr_grown hG6 HGB.out (fun g e => .inr (by have := HOW.out g e; have := HX.out; omega))) (.inr (by rw [HX.out]; exact Nat.le_refl _)) _
    go_roundw
    case rel => exact ⟨k + 1, _, by omega, by go_num, hB8, hR8, hG8⟩
    case measure => simp [intOf]; omega
   ·have hlei : ¬ (D : Int) ≤ (m : Int) := by omega
    have HR7 := Lib.hid (HSK.out w6 w6 HR6.out (by omega) (gr_refl _ _))
    clear HR6
    go_wp2_with fail
    go_roundw
    case rel => exact ⟨k + 1, vs, by omega, by go_num, hbl6, HR7, hG6⟩
    case measure => simp [intOf]; omega
  ·have hki : ¬ (k : Int) < (N : Int) := by omega
   have hfull : L.take k = L := List.take_of_length_le (by rw [HNN.out]; omega)
   rw [hfull] at HRN
   have hG9 := gr_trans hG2 hgr
   have hz9 := hG9.size
   have HCC := Lib.hid (concatS_any (X + 1) X (m + 1) (m + 1) vs (inB s L) wo (fun d hd => (HRN.out d hd).1) hbl (by omega) (by
    have h1 := flatTo_len (fun d => inB_len s L d) (m + 1)
    have h2 : (m + 1) * L.length ≤ 15 * 1000 := Nat.mul_le_mul (by omega) (by have := HNN.out; omega)
    omega))
   clear hfull hbl
   go_wp2_with fail
   refine HCC.out.mono ?_
   rintro _ w8 ⟨v8, rfl, hv8, hg8⟩
   go_wp2_with fail
   go_ret2
   exact ⟨_, rfl, hv8.low hz9, gr_trans hG9 hg8⟩
end Go.Proofs.YtbpkfkbbkgdlaaaGreatDoor

namespace Go.Proofs.YtbpkfkbbkgdlaaaGreatDoor
open Go.RowKit
set_option linter.unusedVariables false
set_option linter.unusedSimpArgs false

def callE (s : ByteArray) : Int := if isCall s = true then 0 else 3
def allC (L : List ByteArray) : Bool := L.all isCall
def callsE (L : List ByteArray) : Int := if allC L = true then 0 else 3
theorem callE_0 {s : ByteArray} (h : isCall s = true) : callE s = 0 := by unfold callE; rw [if_pos h]
theorem callE_3 {s : ByteArray} (h : isCall s = false) : callE s = 3 := by unfold callE; rw [if_neg (by rw [h]; simp)]
def SmallS (L : List ByteArray) : Prop := L.length ≤ 1000 ∧ ∀ s ∈ L, s.size ≤ 100 ∧ Ascii s
set_option maxHeartbeats 1000000 in
theorem callFault_any (s : ByteArray) (w : World) (hs : s.size ≤ 1000) (ha : Ascii s) :
 Calls Tryz.prog 19 #[.string s] w fun e w' => e = .returned (.int .i64 (callE s)) ∧ w.grownBy w' none := by
 have HI := Lib.hid (refIsCall_any s w (by omega) ha)
 rw [show (partsOf s).isSome = isCall s from rfl] at HI
 clear hs ha
 cases hc : isCall s
 ·rw [hc] at HI
  rw [callE_3 hc]
  clear hc
  go_enter Tryz.func19, Tryz.ntmps19
  go_wp2_with fail
  refine HI.out.mono ?_
  rintro _ w1 ⟨rfl, hg1⟩
  go_wp2_with fail
  go_ret
  exact ⟨rfl, hg1⟩
 ·rw [hc] at HI
  rw [callE_0 hc]
  clear hc
  go_enter Tryz.func19, Tryz.ntmps19
  go_wp2_with fail
  refine HI.out.mono ?_
  rintro _ w1 ⟨rfl, hg1⟩
  go_wp2_with fail
  go_ret
  exact ⟨rfl, hg1⟩
theorem all_take {L : List ByteArray} {k : Nat} (h : k < L.length) (h1 : allC (L.take k) = true) (h2 : isCall L[k] = true) : allC (L.take (k + 1)) = true := by
 unfold allC at *
 rw [List.take_succ_eq_append_getElem h, List.all_append, h1, List.all_cons, h2]; rfl
theorem all_not {L : List ByteArray} {k : Nat} (h : k < L.length) (h2 : isCall L[k] = false) : allC L = false := by
 unfold allC
 rw [List.all_eq_false]
 exact ⟨L[k], List.getElem_mem h, by rw [h2]; simp⟩
set_option maxRecDepth 100000 in
set_option maxHeartbeats 4000000 in
theorem callsFault_any (base : Nat) (v : Value) (L : List ByteArray) (w : World) (hl : StrsFrom base w v L) (hn : SmallS L) :
 Calls Tryz.prog 21 #[v] w fun e w' => e = .returned (.int .i64 (callsE L)) ∧ w.grownBy w' none := by
 obtain ⟨A, ca, rfl, hla, hA⟩ := hl.shape
 obtain ⟨hn1, hn2⟩ := hn
 have HU := Lib.hid hl
 have HC := Lib.hid hn2
 have HA := Lib.hid hA
 have hn2i : ¬ (1000 : Int) < (L.length : Int) := by omega
 clear hl hn2 hA
 go_enter Tryz.func21, Tryz.ntmps21
 go_wp2_with fail
 go_loopw [11] (fun i wr => ∃ k : Nat, k ≤ L.length ∧ i = .int .i64 k ∧ Hid (allC (L.take k) = true) ∧ w.grownBy wr none) (fun i _ => L.length - (intOf i).toNat)
 case atStart => exact ⟨0, by omega, rfl, rfl, gr_refl _ _⟩
 case round =>
  obtain ⟨k, hk, rfl, HT, hgr⟩ := hrel
  by_cases hlt : k < L.length
  ·obtain ⟨g, rfl, _, _⟩ := HA.out (by omega)
   have cx := (HU.out.grown hgr).at_ k hlt
   have hkl : (k : Int) < (L.length : Int) := by omega
   obtain ⟨q1, q2⟩ := HC.out L[k] (List.getElem_mem hlt)
   have HN := Lib.hid (callFault_any L[k] wr (by omega) q2)
   have HAT := Lib.hid (fun h => all_take hlt HT.out h)
   have HNT := Lib.hid (fun h => all_not hlt h)
   generalize L[k] = x at *
   cases hc : isCall x
   ·rw [callE_3 hc] at HN
    have HE : Hid (callsE L = 3) := by show _ = _; unfold callsE; rw [if_neg (by rw [HNT.out hc]; simp)]
    clear hc q1 q2
    go_wp2_with fail
    refine HN.out.mono ?_
    rintro _ w1 ⟨rfl, hg1⟩
    go_wp2_with fail
    go_ret
    exact ⟨by rw [HE.out] <;> rfl, gr_trans hgr hg1⟩
   ·rw [callE_0 hc] at HN
    have HT2 := Lib.hid (HAT.out hc)
    clear hc q1 q2
    go_wp2_with fail
    refine HN.out.mono ?_
    rintro _ w1 ⟨rfl, hg1⟩
    go_wp2_with fail
    go_roundw
    case rel => exact ⟨k + 1, by omega, by go_num, HT2, gr_trans hgr hg1⟩
    case measure => simp [intOf]; omega
  ·have hkl : ¬ (k : Int) < (L.length : Int) := by omega
   have hfull : L.take k = L := List.take_of_length_le (by omega)
   rw [hfull] at HT
   have HE : Hid (callsE L = 0) := by show _ = _; unfold callsE; rw [if_pos HT.out]
   clear hfull
   go_wp2_with fail
   go_ret
   exact ⟨by rw [HE.out] <;> rfl, hgr⟩
set_option maxRecDepth 100000 in
set_option maxHeartbeats 4000000 in
theorem idxCalls (base : Nat) (v : Value) (l : List ByteArray) (w : World) (hl : StrsFrom base w v l) (hn : SmallS l) :
 Calls Tryz.prog 157 #[v, .func (.func 106) #[] #[]] w fun e w' => (∃ i : Int, e = .returned (.int .i64 i) ∧ ((i = -1 ∧ allC l = true) ∨ (0 ≤ i ∧ allC l = false))) ∧ w.grownBy w' none := by
 obtain ⟨A, ca, rfl, hla, hA⟩ := hl.shape
 obtain ⟨hn1, hn2⟩ := hn
 have HU := Lib.hid hl
 have HC := Lib.hid hn2
 have HA := Lib.hid hA
 clear hl hn2 hA
 go_enter Tryz.func157, Tryz.ntmps157
 go_wp2_with fail
 go_loopw [8] (fun i wr => ∃ k : Nat, k ≤ l.length ∧ i = .int .i64 k ∧ Hid (allC (l.take k) = true) ∧ w.grownBy wr none) (fun i _ => l.length - (intOf i).toNat)
 case atStart => exact ⟨0, by omega, rfl, rfl, gr_refl _ _⟩
 case round =>
  obtain ⟨k, hk, rfl, HT, hgr⟩ := hrel
  by_cases hlt : k < l.length
  ·obtain ⟨g, rfl, _, _⟩ := HA.out (by omega)
   have cx := (HU.out.grown hgr).at_ k hlt
   have hkl : (k : Int) < (l.length : Int) := by omega
   obtain ⟨q1, q2⟩ := HC.out l[k] (List.getElem_mem hlt)
   have HN := Lib.hid (noCall_any l[k] wr (by omega) q2)
   have HAT := Lib.hid (fun h => all_take hlt HT.out h)
   have HNT := Lib.hid (fun h => all_not hlt h)
   generalize l[k] = x at *
   cases hc : isCall x
   ·rw [hc] at HN
    have HE := Lib.hid (HNT.out hc)
    clear hc q1 q2
    go_wp2_with fail
    refine HN.out.mono ?_
    rintro _ w1 ⟨rfl, hg1⟩
    go_wp2_with fail
    go_ret
    exact ⟨⟨_, rfl, .inr ⟨by omega, HE.out⟩⟩, gr_trans hgr hg1⟩
   ·rw [hc] at HN
    have HT2 := Lib.hid (HAT.out hc)
    clear hc q1 q2
    go_wp2_with fail
    refine HN.out.mono ?_
    rintro _ w1 ⟨rfl, hg1⟩
    go_wp2_with fail
    go_roundw
    case rel => exact ⟨k + 1, by omega, by go_num, HT2, gr_trans hgr hg1⟩
    case measure => simp [intOf]; omega
  ·have hkl : ¬ (k : Int) < (l.length : Int) := by omega
   have hfull : l.take k = l := List.take_of_length_le (by omega)
   rw [hfull] at HT
   clear hfull
   go_wp2_with fail
   go_ret
   exact ⟨⟨_, rfl, .inl ⟨rfl, HT.out⟩⟩, hgr⟩
set_option maxHeartbeats 1000000 in
theorem checkCalls_any (base : Nat) (v : Value) (l : List ByteArray) (w : World) (hl : StrsFrom base w v l) (hn : SmallS l) :
 Calls Tryz.prog 58 #[v] w fun e w' => e = .returned (.int .i64 (callsE l)) ∧ w.grownBy w' none := by
 have HI := Lib.hid (fun W (h : StrsFrom base W v l) => idxCalls base v l W h hn)
 have HC : Hid (∀ W, StrsFrom base W v l → Calls Tryz.prog 105 #[v, .func (.func 106) #[] #[]] W fun e w' => e = .returned (.bool (!allC l)) ∧ W.grownBy w' none) := fun W h => by
  go_enter Tryz.func105, Tryz.ntmps105
  go_wp2_with fail
  refine (HI.out _ h).mono ?_
  rintro _ w1 ⟨⟨i, rfl, hi⟩, hg1⟩
  rcases hi with ⟨rfl, ha⟩ | ⟨hi, ha⟩
  ·have HAA := Lib.hid ha
   clear ha
   go_wp2_with fail
   go_ret
   exact ⟨by rw [HAA.out] <;> rfl, hg1⟩
  ·have HAA := Lib.hid ha
   clear ha
   go_wp2_with fail
   go_ret
   exact ⟨by rw [HAA.out] <;> rfl, hg1⟩
 have HL := Lib.hid hl
 obtain ⟨A, ca, rfl, hla, hA⟩ := hl.shape
 have hn2 : ¬ (1000 : Int) < (l.length : Int) := by have := hn.1; omega
 have HE : Hid (callsE l = if allC l = true then 0 else 3) := rfl
 clear hl hA hn
 generalize l.length = N at *
 cases hB : allC l
 ·rw [hB] at HC HE
  clear hB
  go_enter Tryz.func58, Tryz.ntmps58
  go_wp2_with fail
  refine (HC.out _ HL.out).mono ?_
  rintro _ w1 ⟨rfl, hg1⟩
  go_wp2_with fail
  go_ret
  exact ⟨by rw [HE.out] <;> rfl, hg1⟩
 ·rw [hB] at HC HE
  clear hB
  go_enter Tryz.func58, Tryz.ntmps58
  go_wp2_with fail
  refine (HC.out _ HL.out).mono ?_
  rintro _ w1 ⟨rfl, hg1⟩
  go_wp2_with fail
  go_ret
  exact ⟨by rw [HE.out] <;> rfl, hg1⟩
end Go.Proofs.YtbpkfkbbkgdlaaaGreatDoor

namespace Go.Proofs.YtbpkfkbbkgdlaaaGreatDoor
open Go.RowKit
set_option linter.unusedVariables false
set_option linter.unusedSimpArgs false

/-- The fault of call.Near, and its calls. -/
def neaE (s : ByteArray) (L : List ByteArray) (m : Int) : Int := orL [callE s, callsE L, spanE m 0 14]
def neaL (s : ByteArray) (L : List ByteArray) (m : Int) : List ByteArray := if neaE s L m = 0 then flatTo (inB s L) (m.toNat + 1) else []
theorem allC_mem {L : List ByteArray} (h : allC L = true) : ∀ x ∈ L, isCall x = true := by
 unfold allC at h
 exact List.all_eq_true.1 h
theorem callsE_0 {L : List ByteArray} : callsE L = 0 ↔ allC L = true := by
 unfold callsE
 by_cases h : allC L = true
 ·rw [if_pos h]; simp [h]
 ·rw [if_neg h]; simp [h]
set_option maxRecDepth 100000 in
set_option maxHeartbeats 2000000 in
theorem near_any (base : Nat) (s : ByteArray) (v : Value) (L : List ByteArray) (m : Int) (w : World) (hl : StrsFrom base w v L) (hn : SmallS L) (hs : s.size ≤ 100) (ha : Ascii s) (hm0 : -1000 ≤ m) (hm1 : m ≤ 1000) :
 Calls Tryz.prog 34 #[.string s, v, .int .i64 m] w fun e w' => ∃ u, e = .returned (.tuple #[u, .int .i64 (neaE s L m)]) ∧ StrsFrom w.heap.size w' u (neaL s L m) ∧ w.grownBy w' none := by
 have HI := Lib.hid (isCall_any s w (by omega) ha)
 have HCK := Lib.hid (fun W (h : StrsFrom base W v L) => checkCalls_any base v L W h hn)
 have HL := Lib.hid hl
 have HBAD : Hid (neaE s L m ≠ 0 → ∀ W, StrsFrom w.heap.size W (.slice none 0 0) (neaL s L m)) := fun h W => by unfold neaL; rw [if_neg h]; exact StrsFrom.nil _ _
 have HP : Hid (∀ (e : Ending) (w' : World) (u : Value), e = .returned (.tuple #[u, .int .i64 (neaE s L m)]) → StrsFrom w.heap.size w' u (neaL s L m) → w.grownBy w' none → ∃ u, e = .returned (.tuple #[u, .int .i64 (neaE s L m)]) ∧ StrsFrom w.heap.size w' u (neaL s L m) ∧ w.grownBy w' none) := fun e w' u h1 h2 h3 => ⟨u, h1, h2, h3⟩
 cases ic : isCall s
 ·have hE : neaE s L m = 3 := by unfold neaE; rw [orL_cons, callE_3 ic]; rfl
  have HB := Lib.hid (HBAD.out (by rw [hE]; decide))
  have HE := Lib.hid hE
  rw [ic] at HI
  clear ic hE HBAD HCK hl
  go_enter Tryz.func34, Tryz.ntmps34
  go_wp2_with fail
  refine HI.out.mono ?_
  rintro _ w1 ⟨rfl, hg1⟩
  go_wp2_with fail
  go_ret2
  exact HP.out _ _ _ (by rw [HE.out] <;> rfl) (HB.out _) hg1
 ·by_cases hc : callsE L = 0
  ·rw [hc] at HCK
   by_cases hsp : 0 ≤ m ∧ m ≤ 14
   ·obtain ⟨M, rfl⟩ := Int.eq_ofNat_of_zero_le hsp.1
    have hE : neaE s L M = 0 := by unfold neaE; rw [orL_cons, if_pos (callE_0 ic), orL_cons, if_pos hc, orL1]; exact spanE_no (by omega) (by omega)
    have hV : neaL s L M = flatTo (inB s L) (M + 1) := by unfold neaL; rw [if_pos hE]; rfl
    rw [hE, hV]
    have hcs := allC_mem (callsE_0.1 hc)
    exact near_ok base s v L M w hl hn.1 hs ha ic (fun x hx => ⟨(hn.2 x hx).1, (hn.2 x hx).2, hcs x hx⟩) (by omega)
   ·have hE : neaE s L m = 1 := by unfold neaE; rw [orL_cons, if_pos (callE_0 ic), orL_cons, if_pos hc, orL1]; exact spanE_yes (by omega)
    have HB := Lib.hid (HBAD.out (by rw [hE]; decide))
    have HE := Lib.hid hE
    rw [ic] at HI
    have hsp' : m < 0 ∨ 14 < m := by omega
    clear ic hE HBAD hl hc hsp
    rcases hsp' with h | h
    all_goals
     go_enter Tryz.func34, Tryz.ntmps34
     go_wp2_with fail
     refine HI.out.mono ?_
     rintro _ w1 ⟨rfl, hg1⟩
     go_wp2_with fail
     refine (HCK.out _ (HL.out.grown hg1)).mono ?_
     rintro _ w2 ⟨rfl, hg2⟩
     go_wp2_with fail
     go_ret2
     exact HP.out _ _ _ (by rw [HE.out] <;> rfl) (HB.out _) (gr_trans hg1 hg2)
  ·have hE : neaE s L m = callsE L := by unfold neaE; rw [orL_cons, if_pos (callE_0 ic), orL_cons, if_neg hc]
   have HB := Lib.hid (HBAD.out (by rw [hE]; exact hc))
   have HE := Lib.hid hE
   rw [ic] at HI
   have hne : (callsE L != 0) = true := by rw [bne_iff_ne]; exact hc
   clear ic hE HBAD hl hc
   generalize callsE L = C at *
   go_enter Tryz.func34, Tryz.ntmps34
   go_wp2_with fail
   refine HI.out.mono ?_
   rintro _ w1 ⟨rfl, hg1⟩
   go_wp2_with fail
   refine (HCK.out _ (HL.out.grown hg1)).mono ?_
   rintro _ w2 ⟨rfl, hg2⟩
   go_wp2_with fail
   go_ret2
   exact HP.out _ _ _ (by rw [HE.out] <;> rfl) (HB.out _) (gr_trans hg1 hg2)
def SmallL (L : List ByteArray) : Prop := ∀ x ∈ L, x.size ≤ 30 ∧ Ascii x
end Go.Proofs.YtbpkfkbbkgdlaaaGreatDoor
