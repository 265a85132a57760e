/- The walk over the stream's Changed: a string with a byte that is changed, added or removed. Condition: strings of ASCII; the stream has handed out at most 10^11 numbers. What the stream's RightTable draws has parts of a size, of ASCII bytes (plain). No condition. The walks over a table's methods time, found and counting. Condition: a right table lies in memory. The walks over the errors of lists of entities: the reference's EntitiesFault, call.CheckEntities. Condition: keys of at most 10^9 bytes, ends of at most 60 bits. cmp.Compare and cmp.Or at numbers. No condition but a short list. -/
import Derived.Test.YtbpkfkbbkgdlaaaGreatDoorPStyaa
import Derived.Test.YtbpkfkbbkgdlaaaGreatDoorPStyac
import Derived.Test.YtbpkfkbbkgdlaaaGreatDoorPStyaf
import Derived.Test.YtbpkfkbbkgdlaaaGreatDoorPStyae
import Derived.Deep.DeepCutAuto
import Derived.Test.YtbpkfkbbkgdlaaaGreatDoorPStyab
import Derived.Deep.RegionHeld3
namespace Go.Proofs.YtbpkfkbbkgdlaaaGreatDoor
open Go.RowKit
set_option linter.unusedVariables false
set_option linter.unusedSimpArgs false

theorem enc_ascii (c : UInt8) (h : c.toNat < 128) : Utf8.encode ((c.toNat : Nat) : Int) = ⟨#[c]⟩ := by
 have h' : ∀ n : Fin 128, Utf8.encode ((n.val : Nat) : Int) = ⟨#[UInt8.ofNat n.val]⟩ := by decide +kernel
 have := h' ⟨c.toNat, h⟩
 simpa using this
theorem Ascii.mem_ {s : ByteArray} (h : Ascii s) : ∀ c ∈ s.data.toList, c.toNat < 128 := fun c hc => by
 obtain ⟨j, hj, e⟩ := List.getElem_of_mem hc
 exact h j c (by rw [List.getElem?_eq_getElem hj, e])
theorem Ascii.of_mem {s : ByteArray} (h : ∀ c ∈ s.data.toList, c.toNat < 128) : Ascii s := fun j c hc => h c (List.mem_of_getElem? hc)
theorem Ascii.app {s t : ByteArray} (h1 : Ascii s) (h2 : Ascii t) : Ascii (s ++ t) := Ascii.of_mem fun c hc => by
 rw [ByteArray.data_append, Array.toList_append] at hc
 rcases List.mem_append.1 hc with h | h
 ·exact h1.mem_ c h
 ·exact h2.mem_ c h
theorem Ascii.one {c : UInt8} (h : c.toNat < 128) : Ascii ⟨#[c]⟩ := Ascii.of_mem fun x hx => by
 simp only [List.mem_singleton] at hx
 rw [hx]; exact h
theorem empty_size {t : ByteArray} (h : t.toList.isEmpty = false) : 0 < t.size := by
 rw [Lib.toList_data] at h
 have hl : t.data.toList.length = t.size := by simp
 rcases Nat.eq_zero_or_pos t.size with h0 | h0
 ·rw [h0] at hl
  rw [List.eq_nil_of_length_eq_zero hl] at h
  simp at h
 ·exact h0
end Go.Proofs.YtbpkfkbbkgdlaaaGreatDoor

namespace Go.Proofs.YtbpkfkbbkgdlaaaGreatDoor
open Go.RowKit
set_option linter.unusedVariables false
set_option linter.unusedSimpArgs false

theorem begN1_ascii (j : Nat) : Ascii (begN1 j) := by
 by_cases hj : j < 12
 ·rcases (show j = 0 ∨ j = 1 ∨ j = 2 ∨ j = 3 ∨ j = 4 ∨ j = 5 ∨ j = 6 ∨ j = 7 ∨ j = 8 ∨ j = 9 ∨ j = 10 ∨ j = 11 by omega) with rfl | rfl | rfl | rfl | rfl | rfl | rfl | rfl | rfl | rfl | rfl | rfl <;> exact Ascii.of_mem (by decide +kernel)
 ·have : begN1 j = ⟨#[]⟩ := by unfold begN1; rw [List.getD_eq_getElem?_getD, List.getElem?_eq_none (by simp; omega)]; rfl
  rw [this]
  exact Ascii.of_mem (by simp)
theorem rtP_beg (L : List Int) (l : List Ent) (k : Nat) : ∀ j, ∀ x ∈ (rtP L l k j).1, ∃ i, x.beg = begN1 i
 | 0, x, h => by simp [rtP] at h
 | j + 1, x, h => by
   unfold rtP at h
   rcases List.mem_append.1 h with h | h
   ·exact rtP_beg L l k j x h
   ·unfold rtR at h
    split at h
    ·simp at h
    ·split at h
     ·simp at h
      rcases h with rfl | rfl <;> exact ⟨j, rfl⟩
     ·simp at h
      subst h
      exact ⟨j, rfl⟩
theorem rtW_begs (p : List Pfx) (P : ByteArray → Prop) (h : ∀ x ∈ p, P x.beg) : ∀ i, ∀ x ∈ rtW p i, P x.beg
 | 0, x, hx => h x hx
 | i + 1, x, hx => by
   have ih := rtW_begs p P h i
   unfold rtW at hx
   split at hx
   ·exact ih x hx
   ·rename_i y hy
    split at hx
    ·rcases List.mem_or_eq_of_mem_set hx with h1 | h1
     ·exact ih x h1
     ·subst h1
      exact h y (List.mem_of_getElem? hy)
    ·exact ih x hx
theorem rtAll_ascii {L : List Int} {k k' : Nat} {l : List Ent} {p : List Pfx} (h : rtAll L k = (l, p, k')) : ∀ x ∈ p, Ascii x.beg := by
 have hb : ∀ (l2 : List Ent) (P : Nat), ∀ x ∈ (rtP L l2 P 12).1, Ascii x.beg := fun l2 P x hx => by
  obtain ⟨i, hi⟩ := rtP_beg L l2 P 12 x hx
  rw [hi]
  exact begN1_ascii i
 unfold rtAll at h
 simp only at h
 generalize (if (rtE L k 5).1.length = 0 then (rtE L k 5).1 ++ [usaE] else (rtE L k 5).1) = l2 at h
 split at h
 ·simp only [Prod.mk.injEq] at h
  obtain ⟨_, rfl, _⟩ := h
  exact rtW_begs _ Ascii (hb _ _) _
 ·simp only [Prod.mk.injEq] at h
  obtain ⟨_, rfl, _⟩ := h
  exact hb _ _
theorem ents_sm {l : List Ent} (h : AllE l) : ∀ e ∈ l, EntSm e := fun e he => by
 obtain ⟨h1, h2, h3, h4, h5⟩ := h e he
 exact ⟨by omega, by omega, by omega⟩
theorem pfxs_sm {p : List Pfx} (h : AllP p) (ha : ∀ x ∈ p, Ascii x.beg) : ∀ x ∈ p, PfxSm x := fun x hx => by
 obtain ⟨h1, h2, h3, h4, h5, h6⟩ := h x hx
 exact ⟨by omega, ha x hx, by omega, by omega, by omega, by omega, by omega⟩
end Go.Proofs.YtbpkfkbbkgdlaaaGreatDoor

namespace Go.Proofs.YtbpkfkbbkgdlaaaGreatDoor
open Go.RowKit
set_option linter.unusedVariables false
set_option linter.unusedSimpArgs false

/-- The entity that a prefix names. -/
def entD (l : List Ent) (s : ByteArray) : Ent := (entOf l s).getD ⟨⟨#[]⟩, 0, 0, 0, 0⟩
/-- When a prefix counts. -/
def tmA (l : List Ent) (x : Pfx) : Int := max x.a (entD l x.ent).a
def tmZ (l : List Ent) (x : Pfx) : Int := min x.z (entD l x.ent).z
/-- A table's lists in memory. -/
structure TabAt (base gT : Nat) (u v : Value) (l : List Ent) (p : List Pfx) (W : World) : Prop where
 cu : W.cell? ⟨gT, 0, none⟩ = some u
 cv : W.cell? ⟨gT, 1, none⟩ = some v
 el : EntsFrom base W u l
 pl : PfxsFrom base W v p
theorem TabAt.grown {base gT : Nat} {u v : Value} {l : List Ent} {p : List Pfx} {W W' : World} (h : TabAt base gT u v l p W) (hg : W.grownBy W' none) : TabAt base gT u v l p W' :=
 ⟨hg.cell h.cu (by simp), hg.cell h.cv (by simp), h.el.grown hg, h.pl.grown hg⟩
/-- A table without error, as it is used. -/
structure TabOk (l : List Ent) (p : List Pfx) : Prop where
 ents : EntsOk l
 len : p.length ≤ 2000
 has : ∀ x ∈ p, (entOf l x.ent).isSome = true
set_option maxRecDepth 100000 in
set_option maxHeartbeats 4000000 in
theorem time_ok (base gT : Nat) (u v : Value) (l : List Ent) (p : List Pfx) (k : Nat) (w : World) (hT : TabAt base gT u v l p w) (hO : TabOk l p) (hlt : k < p.length) :
 Calls Tryz.prog 114 #[.pointer (some ⟨gT, 0, none⟩), .int .i64 k] w fun r w' => r = .returned (.agg #[.int .i64 (tmA l p[k]), .int .i64 (tmZ l p[k])]) ∧ w.grownBy w' none := by
 have hR := Blk.new w 70 #[.int .i64 0, .int .i64 0]
 have hg0 := World.grownBy_alloc w (.cells #[.int .i64 0, .int .i64 0] 70) none
 have hT0 := hT.grown hg0
 obtain ⟨A, c, rfl, hlen, hA⟩ := hT0.pl.shape
 obtain ⟨g, rfl, hgb, hgl⟩ := hA (by omega)
 obtain ⟨q0, q1, q2, q3, q4, q5⟩ := hT0.pl.at_ k hlt
 have hhas := hO.has _ (List.getElem_mem hlt)
 obtain ⟨e, he⟩ := Option.isSome_iff_exists.1 hhas
 have HD : Hid (tmA l p[k] = max p[k].a e.a ∧ tmZ l p[k] = min p[k].z e.z) := by
  show _ ∧ _
  unfold tmA tmZ entD
  rw [he]
  exact ⟨rfl, rfl⟩
 have HAT : Hid (∀ W, w.grownBy W none → Calls Tryz.prog 100 #[u, .string p[k].ent] W fun r w' => ∃ (i : Nat) (gu cu : Nat), r = .returned (.tuple #[.int .i64 i, .bool true]) ∧ u = .slice (some ⟨gu, 0, none⟩) l.length cu ∧ i < l.length ∧ w'.cell? ⟨gu, i * 5, none⟩ = some (.string e.key) ∧ w'.cell? ⟨gu, i * 5 + 1, none⟩ = some (.int .i64 e.cont) ∧ w'.cell? ⟨gu, i * 5 + 2, none⟩ = some (.int .i64 e.zone) ∧ w'.cell? ⟨gu, i * 5 + 3, none⟩ = some (.int .i64 e.a) ∧ w'.cell? ⟨gu, i * 5 + 4, none⟩ = some (.int .i64 e.z) ∧ W.grownBy w' none) := fun W hW =>
  (entityAt_ok base u l p[k].ent W (hT.el.grown hW) hO.ents).mono fun r w' ⟨i, h1, h2, h3⟩ => by
   obtain ⟨hi, hie⟩ := h2 e he
   have hel := hT.el.grown (gr_trans hW h3)
   obtain ⟨A2, c2, hu, _, hA2⟩ := hel.shape
   obtain ⟨gu, rfl, _, _⟩ := hA2 (by omega)
   subst hu
   have hat := hel.at_ i hi
   rw [hie] at hat
   rw [hhas] at h1
   exact ⟨i, gu, c2, h1, rfl, hi, hat.1, hat.2.1, hat.2.2.1, hat.2.2.2.1, hat.2.2.2.2, h3⟩
 have cT0 := hT0.cu
 have cT1 := hT0.cv
 have hki : (k : Int) < (p.length : Int) := by omega
 have hk0 : (0 : Int) ≤ (k : Int) := by omega
 have hll := hO.ents.len
 have hTl : gT < w.heap.size := World.block_lt_of_cell? w _ hT.cu
 obtain ⟨TA, hTA⟩ : ∃ x, tmA l p[k] = x := ⟨_, rfl⟩
 obtain ⟨TZ, hTZ⟩ : ∃ x, tmZ l p[k] = x := ⟨_, rfl⟩
 rw [hTA, hTZ] at HD ⊢
 generalize p[k].beg = B at *
 generalize p[k].ent = N at *
 generalize p[k].a = xa at *
 generalize p[k].z = xz at *
 generalize p[k].whole = H at *
 generalize p[k].zone = Z at *
 clear hTA hTZ hhas he hT hA hO
 go_enter Tryz.func114, Tryz.ntmps114
 go_upto_region 1 with fail
 generalize w.alloc (.cells #[.int .i64 0, .int .i64 0] 70) = w1 at *
 obtain ⟨gR, hgR⟩ : ∃ x, w.heap.size = x := ⟨_, rfl⟩
 rw [hgR] at hR ⊢
 have HgR := Lib.hid hgR
 have hTl1 : gT < w1.heap.size := by have := hg0.size; omega
 clear hgR
 have hX := Blk.new w1 72 #[.string B, .string N, .int .i64 xa, .int .i64 xz, .bool H, .int .i64 Z]
 have hg1 := World.grownBy_alloc w1 (.cells #[.string B, .string N, .int .i64 xa, .int .i64 xz, .bool H, .int .i64 Z] 72) none
 have hg01 := gr_trans hg0 hg1
 have cU : (w1.alloc (.cells #[.string B, .string N, .int .i64 xa, .int .i64 xz, .bool H, .int .i64 Z] 72)).cell? ⟨gT, 0, none⟩ = some u := hg1.cell cT0 (by simp)
 have hR1 := hR.grown hg1 (by simp)
 go_upto_region 2 with fail
 generalize w1.alloc (.cells #[.string B, .string N, .int .i64 xa, .int .i64 xz, .bool H, .int .i64 Z] 72) = w2 at *
 generalize w1.heap.size = gX at *
 have k1 := hX.cell 1
 simp only [List.getElem?_toArray, List.getElem?_cons_zero, List.getElem?_cons_succ] at k1
 have hXl := hX.lt
 clear cT0 cT1 q0 q1 q2 q3 q4 q5 hR hg0 hg1
 go_wp2_with fail
 refine wp_region_held_drew (S := fun W => W.cell? ⟨gT, 0, none⟩ = some u ∧ W.cell? ⟨gX, 1, none⟩ = some (.string N)) (by kernel_rfl) ⟨cU, k1⟩ (fun hHeld => ?_)
 refine wpAnyH_take (i := 0) (v := ?_) rfl (by kernel_rfl) (by kernel_rfl) (by kernel_rfl) (fun _ _ _ h => h) (Or.inl ⟨by kernel_rfl, ?_⟩) hHeld ?_
 rotate_left
 ·intro w hSw
  (try dsimp only at hSw)
  obtain ⟨hS0, hS1⟩ := hSw
  go_simp
  (try with_reducible rfl)
 change wpAnyH _ _ _ _ _ _ _ (Act.put _ (some 17) _) _
 simp only [Act.put, ssA, ssZ, ssS]
 refine wpAnyH_take (i := 1) (v := ?_) rfl (by kernel_rfl) (by kernel_rfl) (by kernel_rfl) (fun _ _ _ h => h) (Or.inl ⟨by kernel_rfl, ?_⟩) hHeld ?_
 rotate_left
 ·intro w hSw
  (try dsimp only at hSw)
  obtain ⟨hS0, hS1⟩ := hSw
  go_simp
  (try with_reducible rfl)
 change wpAnyH _ _ _ _ _ _ _ (Act.put _ (some 18) _) _
 simp only [Act.put, ssA, ssZ, ssS]
 refine wpAnyH_take (i := 2) (v := ?_) rfl (by kernel_rfl) (by kernel_rfl) (by kernel_rfl) (fun _ _ _ h => h) (Or.inl ⟨by kernel_rfl, ?_⟩) hHeld ?_
 rotate_left
 ·intro w hSw
  (try dsimp only at hSw)
  obtain ⟨hS0, hS1⟩ := hSw
  go_simp
  (try with_reducible rfl)
 change wpAnyH _ _ _ _ _ _ _ (Act.put _ (some 19) _) _
 simp only [Act.put, ssA, ssZ, ssS]
 refine wpAnyH_take (i := 3) (v := ?_) rfl (by kernel_rfl) (by kernel_rfl) (by kernel_rfl) (fun _ _ _ h => h) (Or.inl ⟨by kernel_rfl, ?_⟩) hHeld ?_
 rotate_left
 ·intro w hSw
  (try dsimp only at hSw)
  obtain ⟨hS0, hS1⟩ := hSw
  go_simp
  (try with_reducible rfl)
 change wpAnyH _ _ _ _ _ _ _ (Act.put _ (some 20) _) _
 simp only [Act.put, ssA, ssZ, ssS]
 refine wpAnyH_take (i := 4) (v := ?_) rfl (by kernel_rfl) (by kernel_rfl) (by kernel_rfl) (fun _ _ _ h => h) (Or.inl ⟨by kernel_rfl, ?_⟩) hHeld ?_
 rotate_left
 ·intro w hSw
  (try dsimp only at hSw)
  obtain ⟨hS0, hS1⟩ := hSw
  go_simp
  (try with_reducible rfl)
 change wpAnyH _ _ _ _ _ _ _ (Act.put _ (some 21) _) _
 simp only [Act.put, ssA, ssZ, ssS]
 refine wpAnyH_take (i := 5) (v := ?_) rfl (by kernel_rfl) (by kernel_rfl) (by kernel_rfl) (fun _ _ _ h => h) (Or.inl ⟨by kernel_rfl, ?_⟩) hHeld ?_
 rotate_left
 ·intro w hSw
  (try dsimp only at hSw)
  obtain ⟨hS0, hS1⟩ := hSw
  go_simp
  (try with_reducible rfl)
 change wpAnyH _ _ _ _ _ _ _ (Act.put _ (some 22) _) _
 simp only [Act.put, ssA, ssZ, ssS]
 refine wpAnyH_ready (rs := [6]) (by kernel_rfl) (by simp) ?_
 refine AllReadyH.cons (o := _) rfl (fun K hK => ?_) AllReadyH.nil
 go_simp
 (go_at_call 100; refine (HAT.out _ (gr_drew hg01)).mono ?_; rintro _ w3 ⟨i, gu, cu, rfl, hu, hi, a0, a1, a2, a3, a4, hg3⟩; have hX3 := Blk.grown (row := none) hX.drew hg3 (by simp); have hR3 := Blk.grown (row := none) hR1.drew hg3 (by simp); have cU3 := hg3.cell (show w2.drew.cell? _ = _ from cU) (by simp))
 refine hK.out _ _ ⟨cU3, hX3.cell 1⟩ (fun hHeld6 => ?_)
 clear hK K
 (try simp only [Act.put, ssA, ssZ, ssS])
 refine wpAnyH_take (i := 7) (v := ?_) rfl (by kernel_rfl) (by kernel_rfl) (by kernel_rfl) (fun _ _ _ h => h) (Or.inl ⟨by kernel_rfl, ?_⟩) hHeld6 ?_
 rotate_left
 ·intro w hSw
  (try dsimp only at hSw)
  obtain ⟨hS0, hS1⟩ := hSw
  go_simp
  (try with_reducible rfl)
 change wpAnyH _ _ _ _ _ _ _ (Act.put _ (some 16) _) _
 simp only [Act.put, ssA, ssZ, ssS]
 refine wpAnyH_take (i := 8) (v := ?_) rfl (by kernel_rfl) (by kernel_rfl) (by kernel_rfl) (fun _ _ _ h => h) (Or.inl ⟨by kernel_rfl, ?_⟩) hHeld6 ?_
 rotate_left
 ·intro w hSw
  (try dsimp only at hSw)
  obtain ⟨hS0, hS1⟩ := hSw
  go_simp
  (try with_reducible rfl)
 change wpAnyH _ _ _ _ _ _ _ (Act.put _ (some 24) _) _
 simp only [Act.put, ssA, ssZ, ssS]
 refine wpAnyH_take (i := 9) (v := ?_) rfl (by kernel_rfl) (by kernel_rfl) (by kernel_rfl) (fun _ _ _ h => h) (Or.inl ⟨by kernel_rfl, ?_⟩) hHeld6 ?_
 rotate_left
 ·intro w hSw
  (try dsimp only at hSw)
  obtain ⟨hS0, hS1⟩ := hSw
  go_simp
  (try with_reducible rfl)
 change wpAnyH _ _ _ _ _ _ _ (Act.put _ (some 25) _) _
 simp only [Act.put, ssA, ssZ, ssS]
 refine wpAnyH_take (i := 10) (v := ?_) rfl (by kernel_rfl) (by kernel_rfl) (by kernel_rfl) (fun _ _ _ h => h) (Or.inl ⟨by kernel_rfl, ?_⟩) hHeld6 ?_
 rotate_left
 ·intro w hSw
  (try dsimp only at hSw)
  obtain ⟨hS0, hS1⟩ := hSw
  go_simp
  (try with_reducible rfl)
 change wpAnyH _ _ _ _ _ _ _ (Act.put _ (some 6) _) _
 simp only [Act.put, ssA, ssZ, ssS]
 refine wpAnyH_take (i := 11) (v := ?_) rfl (by kernel_rfl) (by kernel_rfl) (by kernel_rfl) (fun _ _ _ h => h) (Or.inl ⟨by kernel_rfl, ?_⟩) hHeld6 ?_
 rotate_left
 ·intro w hSw
  (try dsimp only at hSw)
  obtain ⟨hS0, hS1⟩ := hSw
  go_simp
  (try with_reducible rfl)
 change wpAnyH _ _ _ _ _ _ _ (Act.put _ (some 7) _) _
 simp only [Act.put, ssA, ssZ, ssS]
 refine wpAnyH_done (by kernel_rfl) ?_ _
 subst hu
 have hgE := gr_trans (gr_drew hg01) hg3
 have x2 := hX3.cell 2
 have x3 := hX3.cell 3
 simp only [List.getElem?_toArray, List.getElem?_cons_zero, List.getElem?_cons_succ] at x2 x3
 have hii : (i : Int) < (l.length : Int) := by omega
 have hi0 : (0 : Int) ≤ (i : Int) := by omega
 obtain ⟨r0, r1⟩ := Blk.cells2 (g := gR) hR3
 have rf := Blk.free (g := gR) hR3
 have hRl3 := Blk.lt (g := gR) hR3
 have hXl3 := Blk.lt (g := gX) hX3
 have hgu3 : gu < w3.heap.size := World.block_lt_of_cell? w3 _ a0
 have hTl3 : gT < w3.heap.size := World.block_lt_of_cell? w3 _ cU3
 have hmx : max xa e.a = TA := HD.out.1.symm
 have hmn : min xz e.z = TZ := HD.out.2.symm
 generalize e.a = ea at *
 generalize e.z = ez at *
 have hY := Blk.new w3 70 #[.int .i64 ea, .int .i64 ez]
 have hR4 := hR3.alloc (.cells #[.int .i64 ea, .int .i64 ez] 70)
 have hX4 := hX3.alloc (.cells #[.int .i64 ea, .int .i64 ez] 70)
 have hgF := gr_alloc hgE (.cells #[.int .i64 ea, .int .i64 ez] 70)
 go_upto_region 4 with fail
 generalize w3.alloc (.cells #[.int .i64 ea, .int .i64 ez] 70) = w4 at *
 generalize w3.heap.size = gY at *
 clear x2 x3 r0 r1 a0 a1 a2 a3 a4
 have x2 := hX4.cell 2
 have x3 := hX4.cell 3
 simp only [List.getElem?_toArray, List.getElem?_cons_zero, List.getElem?_cons_succ] at x2 x3
 obtain ⟨y0, y1⟩ := hY.cells2
 obtain ⟨r0, r1⟩ := hR4.cells2
 have rf4 := hR4.free
 go_wp2_with fail
 obtain ⟨e0, e1⟩ := (hR4.put01 (.int .i64 TA) (.int .i64 TZ)).cells2
 refine bodyPost_ret (v := .agg #[.int .i64 TA, .int .i64 TZ]) (by simp [results, Tryz.results114, go_sem, e0, e1]) rfl ?_
 have hw := HgR.out
 exact ⟨rfl, gr_put (p := ⟨gR, 1, none⟩) (gr_put (p := ⟨gR, 0, none⟩) hgF (.inr (by show _ ≤ gR; omega)) (.int .i64 TA)) (.inr (by show _ ≤ gR; omega)) (.int .i64 TZ)⟩
def fndZ (l : List Ent) (x : Pfx) : Int := if x.zone ≠ 0 then x.zone else (entD l x.ent).zone
set_option maxRecDepth 100000 in
set_option maxHeartbeats 4000000 in
theorem found_ok (base gT : Nat) (u v : Value) (l : List Ent) (p : List Pfx) (k : Nat) (w : World) (hT : TabAt base gT u v l p w) (hO : TabOk l p) (hlt : k < p.length) :
 Calls Tryz.prog 103 #[.pointer (some ⟨gT, 0, none⟩), .int .i64 k] w fun r w' => r = .returned (.agg #[.string p[k].ent, .int .i64 (entD l p[k].ent).cont, .int .i64 (fndZ l p[k])]) ∧ w.grownBy w' none := by
 have hR := Blk.new w 38 #[.string ⟨#[]⟩, .int .i64 0, .int .i64 0]
 have hg0 := World.grownBy_alloc w (.cells #[.string ⟨#[]⟩, .int .i64 0, .int .i64 0] 38) none
 have hT0 := hT.grown hg0
 obtain ⟨A, c, rfl, hlen, hA⟩ := hT0.pl.shape
 obtain ⟨g, rfl, hgb, hgl⟩ := hA (by omega)
 obtain ⟨q0, q1, q2, q3, q4, q5⟩ := hT0.pl.at_ k hlt
 have hhas := hO.has _ (List.getElem_mem hlt)
 obtain ⟨e, he⟩ := Option.isSome_iff_exists.1 hhas
 have HD : Hid ((entD l p[k].ent).cont = e.cont ∧ fndZ l p[k] = if p[k].zone ≠ 0 then p[k].zone else e.zone) := by
  show _ ∧ _
  unfold fndZ entD
  rw [he]
  exact ⟨rfl, rfl⟩
 have HAT : Hid (∀ W, w.grownBy W none → Calls Tryz.prog 100 #[u, .string p[k].ent] W fun r w' => ∃ (i : Nat) (gu cu : Nat), r = .returned (.tuple #[.int .i64 i, .bool true]) ∧ u = .slice (some ⟨gu, 0, none⟩) l.length cu ∧ i < l.length ∧ w'.cell? ⟨gu, i * 5, none⟩ = some (.string e.key) ∧ w'.cell? ⟨gu, i * 5 + 1, none⟩ = some (.int .i64 e.cont) ∧ w'.cell? ⟨gu, i * 5 + 2, none⟩ = some (.int .i64 e.zone) ∧ w'.cell? ⟨gu, i * 5 + 3, none⟩ = some (.int .i64 e.a) ∧ w'.cell? ⟨gu, i * 5 + 4, none⟩ = some (.int .i64 e.z) ∧ W.grownBy w' none) := fun W hW =>
  (entityAt_ok base u l p[k].ent W (hT.el.grown hW) hO.ents).mono fun r w' ⟨i, h1, h2, h3⟩ => by
   obtain ⟨hi, hie⟩ := h2 e he
   have hel := hT.el.grown (gr_trans hW h3)
   obtain ⟨A2, c2, hu, _, hA2⟩ := hel.shape
   obtain ⟨gu, rfl, _, _⟩ := hA2 (by omega)
   subst hu
   have hat := hel.at_ i hi
   rw [hie] at hat
   rw [hhas] at h1
   exact ⟨i, gu, c2, h1, rfl, hi, hat.1, hat.2.1, hat.2.2.1, hat.2.2.2.1, hat.2.2.2.2, h3⟩
 have cT0 := hT0.cu
 have cT1 := hT0.cv
 have hki : (k : Int) < (p.length : Int) := by omega
 have hk0 : (0 : Int) ≤ (k : Int) := by omega
 have hll := hO.ents.len
 have hTl : gT < w.heap.size := World.block_lt_of_cell? w _ hT.cu
 obtain ⟨TA, hTA⟩ : ∃ x, (entD l p[k].ent).cont = x := ⟨_, rfl⟩
 obtain ⟨TZ, hTZ⟩ : ∃ x, fndZ l p[k] = x := ⟨_, rfl⟩
 rw [hTA, hTZ] at HD ⊢
 generalize p[k].beg = B at *
 generalize p[k].ent = N at *
 generalize p[k].a = xa at *
 generalize p[k].z = xz at *
 generalize p[k].whole = H at *
 generalize p[k].zone = Z at *
 clear hTA hTZ hhas he hT hA hO
 go_enter Tryz.func103, Tryz.ntmps103
 go_upto_region 1 with fail
 generalize w.alloc (.cells #[.string ⟨#[]⟩, .int .i64 0, .int .i64 0] 38) = w1 at *
 obtain ⟨gR, hgR⟩ : ∃ x, w.heap.size = x := ⟨_, rfl⟩
 rw [hgR] at hR ⊢
 have HgR := Lib.hid hgR
 have hTl1 : gT < w1.heap.size := by have := hg0.size; omega
 clear hgR
 have hX := Blk.new w1 72 #[.string B, .string N, .int .i64 xa, .int .i64 xz, .bool H, .int .i64 Z]
 have hg1 := World.grownBy_alloc w1 (.cells #[.string B, .string N, .int .i64 xa, .int .i64 xz, .bool H, .int .i64 Z] 72) none
 have hg01 := gr_trans hg0 hg1
 have cU : (w1.alloc (.cells #[.string B, .string N, .int .i64 xa, .int .i64 xz, .bool H, .int .i64 Z] 72)).cell? ⟨gT, 0, none⟩ = some u := hg1.cell cT0 (by simp)
 have hR1 := hR.grown hg1 (by simp)
 go_upto_region 2 with fail
 generalize w1.alloc (.cells #[.string B, .string N, .int .i64 xa, .int .i64 xz, .bool H, .int .i64 Z] 72) = w2 at *
 generalize w1.heap.size = gX at *
 have k1 := hX.cell 1
 simp only [List.getElem?_toArray, List.getElem?_cons_zero, List.getElem?_cons_succ] at k1
 have hXl := hX.lt
 clear cT0 cT1 q0 q1 q2 q3 q4 q5 hR hg0 hg1
 go_wp2_with fail
 refine wp_region_held_drew (S := fun W => W.cell? ⟨gT, 0, none⟩ = some u ∧ W.cell? ⟨gX, 1, none⟩ = some (.string N)) (by kernel_rfl) ⟨cU, k1⟩ (fun hHeld => ?_)
 refine wpAnyH_take (i := 0) (v := ?_) rfl (by kernel_rfl) (by kernel_rfl) (by kernel_rfl) (fun _ _ _ h => h) (Or.inl ⟨by kernel_rfl, ?_⟩) hHeld ?_
 rotate_left
 ·intro w hSw
  (try dsimp only at hSw)
  obtain ⟨hS0, hS1⟩ := hSw
  go_simp
  (try with_reducible rfl)
 change wpAnyH _ _ _ _ _ _ _ (Act.put _ (some 17) _) _
 simp only [Act.put, ssA, ssZ, ssS]
 refine wpAnyH_take (i := 1) (v := ?_) rfl (by kernel_rfl) (by kernel_rfl) (by kernel_rfl) (fun _ _ _ h => h) (Or.inl ⟨by kernel_rfl, ?_⟩) hHeld ?_
 rotate_left
 ·intro w hSw
  (try dsimp only at hSw)
  obtain ⟨hS0, hS1⟩ := hSw
  go_simp
  (try with_reducible rfl)
 change wpAnyH _ _ _ _ _ _ _ (Act.put _ (some 18) _) _
 simp only [Act.put, ssA, ssZ, ssS]
 refine wpAnyH_take (i := 2) (v := ?_) rfl (by kernel_rfl) (by kernel_rfl) (by kernel_rfl) (fun _ _ _ h => h) (Or.inl ⟨by kernel_rfl, ?_⟩) hHeld ?_
 rotate_left
 ·intro w hSw
  (try dsimp only at hSw)
  obtain ⟨hS0, hS1⟩ := hSw
  go_simp
  (try with_reducible rfl)
 change wpAnyH _ _ _ _ _ _ _ (Act.put _ (some 19) _) _
 simp only [Act.put, ssA, ssZ, ssS]
 refine wpAnyH_take (i := 3) (v := ?_) rfl (by kernel_rfl) (by kernel_rfl) (by kernel_rfl) (fun _ _ _ h => h) (Or.inl ⟨by kernel_rfl, ?_⟩) hHeld ?_
 rotate_left
 ·intro w hSw
  (try dsimp only at hSw)
  obtain ⟨hS0, hS1⟩ := hSw
  go_simp
  (try with_reducible rfl)
 change wpAnyH _ _ _ _ _ _ _ (Act.put _ (some 20) _) _
 simp only [Act.put, ssA, ssZ, ssS]
 refine wpAnyH_take (i := 4) (v := ?_) rfl (by kernel_rfl) (by kernel_rfl) (by kernel_rfl) (fun _ _ _ h => h) (Or.inl ⟨by kernel_rfl, ?_⟩) hHeld ?_
 rotate_left
 ·intro w hSw
  (try dsimp only at hSw)
  obtain ⟨hS0, hS1⟩ := hSw
  go_simp
  (try with_reducible rfl)
 change wpAnyH _ _ _ _ _ _ _ (Act.put _ (some 21) _) _
 simp only [Act.put, ssA, ssZ, ssS]
 refine wpAnyH_take (i := 5) (v := ?_) rfl (by kernel_rfl) (by kernel_rfl) (by kernel_rfl) (fun _ _ _ h => h) (Or.inl ⟨by kernel_rfl, ?_⟩) hHeld ?_
 rotate_left
 ·intro w hSw
  (try dsimp only at hSw)
  obtain ⟨hS0, hS1⟩ := hSw
  go_simp
  (try with_reducible rfl)
 change wpAnyH _ _ _ _ _ _ _ (Act.put _ (some 22) _) _
 simp only [Act.put, ssA, ssZ, ssS]
 refine wpAnyH_ready (rs := [6]) (by kernel_rfl) (by simp) ?_
 refine AllReadyH.cons (o := _) rfl (fun K hK => ?_) AllReadyH.nil
 go_simp
 (go_at_call 100; refine (HAT.out _ (gr_drew hg01)).mono ?_; rintro _ w3 ⟨i, gu, cu, rfl, hu, hi, a0, a1, a2, a3, a4, hg3⟩; have hX3 := Blk.grown (row := none) hX.drew hg3 (by simp); have hR3 := Blk.grown (row := none) hR1.drew hg3 (by simp); have cU3 := hg3.cell (show w2.drew.cell? _ = _ from cU) (by simp))
 refine hK.out _ _ ⟨cU3, hX3.cell 1⟩ (fun hHeld6 => ?_)
 clear hK K
 (try simp only [Act.put, ssA, ssZ, ssS])
 refine wpAnyH_take (i := 7) (v := ?_) rfl (by kernel_rfl) (by kernel_rfl) (by kernel_rfl) (fun _ _ _ h => h) (Or.inl ⟨by kernel_rfl, ?_⟩) hHeld6 ?_
 rotate_left
 ·intro w hSw
  (try dsimp only at hSw)
  obtain ⟨hS0, hS1⟩ := hSw
  go_simp
  (try with_reducible rfl)
 change wpAnyH _ _ _ _ _ _ _ (Act.put _ (some 16) _) _
 simp only [Act.put, ssA, ssZ, ssS]
 refine wpAnyH_take (i := 8) (v := ?_) rfl (by kernel_rfl) (by kernel_rfl) (by kernel_rfl) (fun _ _ _ h => h) (Or.inl ⟨by kernel_rfl, ?_⟩) hHeld6 ?_
 rotate_left
 ·intro w hSw
  (try dsimp only at hSw)
  obtain ⟨hS0, hS1⟩ := hSw
  go_simp
  (try with_reducible rfl)
 change wpAnyH _ _ _ _ _ _ _ (Act.put _ (some 24) _) _
 simp only [Act.put, ssA, ssZ, ssS]
 refine wpAnyH_take (i := 9) (v := ?_) rfl (by kernel_rfl) (by kernel_rfl) (by kernel_rfl) (fun _ _ _ h => h) (Or.inl ⟨by kernel_rfl, ?_⟩) hHeld6 ?_
 rotate_left
 ·intro w hSw
  (try dsimp only at hSw)
  obtain ⟨hS0, hS1⟩ := hSw
  go_simp
  (try with_reducible rfl)
 change wpAnyH _ _ _ _ _ _ _ (Act.put _ (some 25) _) _
 simp only [Act.put, ssA, ssZ, ssS]
 refine wpAnyH_take (i := 10) (v := ?_) rfl (by kernel_rfl) (by kernel_rfl) (by kernel_rfl) (fun _ _ _ h => h) (Or.inl ⟨by kernel_rfl, ?_⟩) hHeld6 ?_
 rotate_left
 ·intro w hSw
  (try dsimp only at hSw)
  obtain ⟨hS0, hS1⟩ := hSw
  go_simp
  (try with_reducible rfl)
 change wpAnyH _ _ _ _ _ _ _ (Act.put _ (some 6) _) _
 simp only [Act.put, ssA, ssZ, ssS]
 refine wpAnyH_take (i := 11) (v := ?_) rfl (by kernel_rfl) (by kernel_rfl) (by kernel_rfl) (fun _ _ _ h => h) (Or.inl ⟨by kernel_rfl, ?_⟩) hHeld6 ?_
 rotate_left
 ·intro w hSw
  (try dsimp only at hSw)
  obtain ⟨hS0, hS1⟩ := hSw
  go_simp
  (try with_reducible rfl)
 change wpAnyH _ _ _ _ _ _ _ (Act.put _ (some 7) _) _
 simp only [Act.put, ssA, ssZ, ssS]
 refine wpAnyH_done (by kernel_rfl) ?_ _
 subst hu
 have hgE := gr_trans (gr_drew hg01) hg3
 have x1 := Blk.cell (g := gX) hX3 1
 have x5 := Blk.cell (g := gX) hX3 5
 simp only [List.getElem?_toArray, List.getElem?_cons_zero, List.getElem?_cons_succ] at x1 x5
 have hii : (i : Int) < (l.length : Int) := by omega
 have hi0 : (0 : Int) ≤ (i : Int) := by omega
 have hiw : IntKind.i64.wrap (i : Int) = (i : Int) := by rw [IntKind.wrap_i64]; omega
 have hRl3 := Blk.lt (g := gR) hR3
 have hXl3 := Blk.lt (g := gX) hX3
 have hgu3 : gu < w3.heap.size := World.block_lt_of_cell? w3 _ a0
 have hTl3 : gT < w3.heap.size := World.block_lt_of_cell? w3 _ cU3
 have hcn : e.cont = TA := HD.out.1.symm
 have HZN : Hid ((if Z ≠ 0 then Z else e.zone) = TZ) := HD.out.2.symm
 rw [hcn] at a1
 clear HD hcn
 generalize e.zone = EZ at *
 have hne1 := World.new_ne w3 _ cU3
 have hne2 := World.new_ne w3 _ a1
 have hne3 := World.new_ne w3 _ a2
 have hne4 := World.new_ne w3 _ x1
 go_wp2_with fail
 go_cut [8] (fun s wq => ∃ gY, s = .pointer (some ⟨gY, 0, none⟩) ∧ Blk wq gY 38 #[.string N, .int .i64 TA, .int .i64 EZ] ∧ w3.heap.size ≤ gY ∧ w3.grownBy wq none)
 case first =>
  as_aux_lemma =>
   go_region_held3 (fun V => V.cell? ⟨gT, 0, none⟩ = some (.slice (some ⟨gu, 0, none⟩) l.length cu) ∧ V.cell? ⟨gu, i * 5 + 1, none⟩ = some (.int .i64 TA) ∧ V.cell? ⟨gu, i * 5 + 2, none⟩ = some (.int .i64 EZ) ∧ V.cell? ⟨gX, 1, none⟩ = some (.string N)) (go_keep) (first | fail)
   all_goals
    go_wp2_with fail
    go_meet
    exact ⟨_, rfl, (by first | exact Blk.new _ _ _ | exact (Blk.new _ _ _).drew), (by first | exact Nat.le_refl _ | simp), (by repeat (first | exact gr_refl _ _ | assumption | refine gr_alloc ?_ _ | refine gr_drewN ?_ _ | refine gr_drew ?_))⟩
 case rest =>
  as_aux_lemma =>
   obtain ⟨gY, rfl, hY, hYs, hg4⟩ := hcut
   rename World => w4
   have hX4 := Blk.grown (row := none) hX3 hg4 (by simp)
   have hR4 := Blk.grown (row := none) hR3 hg4 (by simp)
   have hgF := gr_trans hgE hg4
   have hRY : gR ≠ gY := by omega
   clear a0 a1 a2 a3 a4 x1 x5 hne1 hne2 hne3 hne4
   have x5 := Blk.cell (g := gX) hX4 5
   have y0 := Blk.cell (g := gY) hY 0
   have y1 := Blk.cell (g := gY) hY 1
   have y2 := Blk.cell (g := gY) hY 2
   have r0 := Blk.cell (g := gR) hR4 0
   have r1 := Blk.cell (g := gR) hR4 1
   have r2 := Blk.cell (g := gR) hR4 2
   have yf := Blk.free (g := gY) hY
   have rf := Blk.free (g := gR) hR4
   simp only [List.getElem?_toArray, List.getElem?_cons_zero, List.getElem?_cons_succ] at x5 y0 y1 y2 r0 r1 r2
   have hw := HgR.out
   have HZ2 := HZN
   have HW : Hid (w.heap.size ≤ gR ∧ w.heap.size ≤ gY) := ⟨by omega, by have := hgE.size; omega⟩
   clear hw
   by_cases hz : Z = 0
   ·have hzb : (Z != 0) = false := by simpa using hz
    have hTZ : EZ = TZ := by have := HZN.out; rwa [if_neg (by simpa using hz)] at this
    subst hTZ
    clear HZN HZ2
    go_wp2_with fail
    have hf := ((Blk.put hR4 0 (.string N)).put 1 (.int .i64 TA)).put 2 (.int .i64 EZ)
    simp only [List.setIfInBounds_toArray, List.set_cons_zero, List.set_cons_succ] at hf
    have e0 := Blk.cell (g := gR) hf 0
    have e1 := Blk.cell (g := gR) hf 1
    have e2 := Blk.cell (g := gR) hf 2
    simp only [List.getElem?_toArray, List.getElem?_cons_zero, List.getElem?_cons_succ] at e0 e1 e2
    refine bodyPost_ret (v := .agg #[.string N, .int .i64 TA, .int .i64 EZ]) (by simp [results, Tryz.results103, go_sem, e0, e1, e2]) rfl ?_
    exact ⟨rfl, gr_put (p := ⟨gR, 2, none⟩) (gr_put (p := ⟨gR, 1, none⟩) (gr_put (p := ⟨gR, 0, none⟩) hgF (.inr HW.out.1) (.string N)) (.inr HW.out.1) (.int .i64 TA)) (.inr HW.out.1) (.int .i64 EZ)⟩
   ·have hzb : (Z != 0) = true := by simpa using hz
    have hTZ : Z = TZ := by have := HZN.out; rwa [if_pos hz] at this
    subst hTZ
    clear HZN HZ2
    have hY5 := Blk.put hY 2 (.int .i64 Z)
    have hR5 := Blk.far hR4 (p := ⟨gY, 2, none⟩) hRY (.int .i64 Z)
    simp only [List.setIfInBounds_toArray, List.set_cons_zero, List.set_cons_succ] at hY5
    have hgG := gr_put (p := (⟨gY, 2, none⟩ : Addr)) hgF (.inr HW.out.2) (.int .i64 Z)
    go_upto_region 6 with fail
    generalize w4.setCell ⟨gY, 2, none⟩ (.int .i64 Z) = w5 at *
    clear y0 y1 y2 r0 r1 r2
    have y0 := Blk.cell (g := gY) hY5 0
    have y1 := Blk.cell (g := gY) hY5 1
    have y2 := Blk.cell (g := gY) hY5 2
    have r0 := Blk.cell (g := gR) hR5 0
    have r1 := Blk.cell (g := gR) hR5 1
    have r2 := Blk.cell (g := gR) hR5 2
    have rf5 := Blk.free (g := gR) hR5
    simp only [List.getElem?_toArray, List.getElem?_cons_zero, List.getElem?_cons_succ] at y0 y1 y2 r0 r1 r2
    go_wp2_with fail
    have hf := ((Blk.put hR5 0 (.string N)).put 1 (.int .i64 TA)).put 2 (.int .i64 Z)
    simp only [List.setIfInBounds_toArray, List.set_cons_zero, List.set_cons_succ] at hf
    have e0 := Blk.cell (g := gR) hf 0
    have e1 := Blk.cell (g := gR) hf 1
    have e2 := Blk.cell (g := gR) hf 2
    simp only [List.getElem?_toArray, List.getElem?_cons_zero, List.getElem?_cons_succ] at e0 e1 e2
    refine bodyPost_ret (v := .agg #[.string N, .int .i64 TA, .int .i64 Z]) (by simp [results, Tryz.results103, go_sem, e0, e1, e2]) rfl ?_
    exact ⟨rfl, gr_put (p := ⟨gR, 2, none⟩) (gr_put (p := ⟨gR, 1, none⟩) (gr_put (p := ⟨gR, 0, none⟩) hgG (.inr HW.out.1) (.string N)) (.inr HW.out.1) (.int .i64 TA)) (.inr HW.out.1) (.int .i64 Z)⟩
def natI (js : List Nat) : List Int := js.map fun (j : Nat) => (j : Int)
/-- The first of some prefixes that counts at a moment; -1: none does. -/
def cntI (l : List Ent) (p : List Pfx) (x : Int) : List Nat → Int
 | [] => -1
 | j :: r => match p[j]? with
   | none => cntI l p x r
   | some q => if hasB (tmA l q) (tmZ l q) x then (j : Int) else cntI l p x r
theorem cntI_step (l : List Ent) (p : List Pfx) (x : Int) (js : List Nat) (k : Nat) (h : k < js.length) (hj : js[k] < p.length) : cntI l p x (js.drop k) = if hasB (tmA l p[js[k]]) (tmZ l p[js[k]]) x then (js[k] : Int) else cntI l p x (js.drop (k + 1)) := by
 rw [List.drop_eq_getElem_cons h]
 show (match p[js[k]]? with
  | none => cntI l p x (js.drop (k + 1))
  | some q => if hasB (tmA l q) (tmZ l q) x then (js[k] : Int) else cntI l p x (js.drop (k + 1))) = _
 rw [List.getElem?_eq_getElem hj]
set_option maxRecDepth 100000 in
set_option maxHeartbeats 4000000 in
theorem counting_ok (base base2 gT : Nat) (u v s : Value) (l : List Ent) (p : List Pfx) (js : List Nat) (x : Int) (w : World) (hT : TabAt base gT u v l p w) (hO : TabOk l p) (hs : IntsFrom base2 w s (natI js)) (hjs : ∀ j ∈ js, j < p.length) :
 Calls Tryz.prog 102 #[.pointer (some ⟨gT, 0, none⟩), s, .int .i64 x] w fun r w' => r = .returned (.int .i64 (cntI l p x js)) ∧ w.grownBy w' none := by
 obtain ⟨A, c, rfl, hlen, hA⟩ := hs.shape
 have hml : (natI js).length = js.length := by simp [natI]
 have HS := Lib.hid hs
 have HA := Lib.hid hA
 have HT := Lib.hid hT
 rw [hml] at HS HA hlen ⊢
 have HE : Hid (cntI l p x js = cntI l p x (js.drop 0)) := rfl
 clear hs hA hT
 go_enter Tryz.func102, Tryz.ntmps102
 go_wp2_with fail
 go_loopw [11] (fun iv wr => ∃ k : Nat, k ≤ js.length ∧ iv = .int .i64 k ∧ Hid (cntI l p x js = cntI l p x (js.drop k)) ∧ w.grownBy wr none) (fun iv _ => js.length - (intOf iv).toNat)
 case atStart => exact ⟨0, by omega, rfl, HE, gr_refl _ _⟩
 case round =>
  obtain ⟨k, hk, rfl, HN, hg⟩ := hrel
  by_cases hlt : k < js.length
  ·have hki : (k : Int) < (js.length : Int) := by omega
   obtain ⟨g, rfl, _, hgl⟩ := HA.out (by omega)
   have hat := IntsFrom.at_ (l := natI js) (g := g) (c := c) (by rw [hml]; exact HS.out.grown hg) k (by omega)
   have hjl := hjs _ (List.getElem_mem hlt)
   have hst := cntI_step l p x js k hlt hjl
   rw [← HN.out] at hst
   rw [show (natI js)[k]'(by omega) = (js[k] : Int) by simp [natI]] at hat
   have HTM := Lib.hid (time_ok base gT u v l p js[k] wr (HT.out.grown hg) hO hjl)
   have HHA := Lib.hid (fun W => has_any (tmA l p[js[k]]) (tmZ l p[js[k]]) x W)
   generalize tmA l p[js[k]] = TA at *
   generalize tmZ l p[js[k]] = TZ at *
   generalize js[k] = J at *
   by_cases hh : hasB TA TZ x = true
   ·have HR : Hid (cntI l p x js = (J : Int)) := by show _ = _; rw [hst, if_pos hh]
    rw [hh] at HHA
    clear hst hh
    go_wp2_with fail
    refine HTM.out.mono ?_
    rintro _ w2 ⟨rfl, hg2⟩
    go_wp2_with fail
    refine (HHA.out _).mono ?_
    rintro _ w3 ⟨rfl, hg3⟩
    go_wp2_with fail
    go_ret
    exact ⟨ret_of HR.out.symm, gr_trans (gr_trans hg hg2) hg3⟩
   ·have HR : Hid (cntI l p x js = cntI l p x (js.drop (k + 1))) := by show _ = _; rw [hst, if_neg hh]
    have hh2 : hasB TA TZ x = false := by simpa using hh
    rw [hh2] at HHA
    clear hst hh hh2
    go_wp2_with fail
    refine HTM.out.mono ?_
    rintro _ w2 ⟨rfl, hg2⟩
    go_wp2_with fail
    refine (HHA.out _).mono ?_
    rintro _ w3 ⟨rfl, hg3⟩
    go_wp2_with fail
    go_roundw
    case rel => exact ⟨k + 1, by omega, by go_num, HR, gr_trans (gr_trans hg hg2) hg3⟩
    case measure => simp [intOf]; omega
  ·obtain rfl : k = js.length := by omega
   have hkl : ¬ (js.length : Int) < (js.length : Int) := by omega
   have HR : Hid (cntI l p x js = -1) := by show _ = _; rw [HN.out, List.drop_length]; rfl
   go_wp2_with fail
   go_ret
   exact ⟨ret_of HR.out.symm, hg⟩
end Go.Proofs.YtbpkfkbbkgdlaaaGreatDoor

namespace Go.Proofs.YtbpkfkbbkgdlaaaGreatDoor
open Go.RowKit
set_option linter.unusedVariables false
set_option linter.unusedSimpArgs false

set_option maxRecDepth 100000 in
set_option maxHeartbeats 4000000 in
theorem entitiesFault_any (base : Nat) (v : Value) (l : List Ent) (w : World) (hl : EntsFrom base w v l) (hsm : ∀ e ∈ l, EntSm e) :
 Calls Tryz.prog 13 #[v] w fun r w' => r = .returned (.int .i64 (entsE l)) ∧ w.grownBy w' none := by
 obtain ⟨A, c, rfl, hlen, hA⟩ := hl.shape
 by_cases hbig : 400 < l.length
 ·have HE : Hid (entsE l = 2) := by show _ = _; unfold entsE; rw [if_pos hbig]
  have hb : (400 : Int) < (l.length : Int) := by omega
  clear hl hA
  go_enter Tryz.func13, Tryz.ntmps13
  go_wp2_with fail
  go_ret
  exact ⟨ret_of HE.out.symm, gr_refl _ _⟩
 ·have HE : Hid (entsE l = entsScan none l) := by show _ = _; unfold entsE; rw [if_neg hbig]
  have hb : ¬ (400 : Int) < (l.length : Int) := by omega
  have HL := Lib.hid hl
  have HA := Lib.hid hA
  clear hl hA
  go_enter Tryz.func13, Tryz.ntmps13
  go_wp2_with fail
  go_loopw [10] (fun iv wr => ∃ k : Nat, k ≤ l.length ∧ iv = .int .i64 k ∧ Hid (entsE l = entsScan (prevL l k) (l.drop k)) ∧ w.grownBy wr none) (fun iv _ => l.length - (intOf iv).toNat)
  case atStart => exact ⟨0, by omega, rfl, HE, gr_refl _ _⟩
  case round =>
   obtain ⟨k, hk, rfl, HN, hg⟩ := hrel
   by_cases hlt : k < l.length
   ·have hki : (k : Int) < (l.length : Int) := by omega
    obtain ⟨g, rfl, hg0, hg1⟩ := HA.out (by omega)
    obtain ⟨q0, q1, q2, q3, q4⟩ := (HL.out.grown hg).at_ k hlt
    have hst := entsScan_step l k hlt
    rw [← HN.out] at hst
    obtain ⟨s1, s2, s3⟩ := hsm l[k] (List.getElem_mem hlt)
    have HPV : Hid (∀ j, k = j + 1 → ∃ q : Ent, prevL l k = some q ∧ wr.cell? ⟨g, j * 5, none⟩ = some (.string q.key)) := fun j hj => by
     subst hj
     exact ⟨l[j], prevL_succ l j (by omega), ((HL.out.grown hg).at_ j (by omega)).1⟩
    have hcs := entE1_cases (prevL l k) l[k]
    have hgs := hg.size
    generalize l[k].key = K at *
    generalize l[k].cont = C at *
    generalize l[k].zone = Z at *
    generalize l[k].a = ea at *
    generalize l[k].z = ez at *
    obtain ⟨E, hE⟩ : ∃ E, entE1 (prevL l k) l[k] = E := ⟨_, rfl⟩
    rw [hE] at hst hcs
    obtain ⟨KB, hKB⟩ : ∃ x, keyB K.data.toList = x := ⟨_, rfl⟩
    obtain ⟨CB, hCB⟩ : ∃ x, outB C 1 7 = x := ⟨_, rfl⟩
    obtain ⟨ZB, hZB⟩ : ∃ x, outB Z 1 90 = x := ⟨_, rfl⟩
    obtain ⟨TB, hTB⟩ : ∃ x, timeB ea ez = x := ⟨_, rfl⟩
    have hKE := fun W => refKey_any K W s1
    have hIC := fun W => in_any C 1 7 W
    have hIZ := fun W => in_any Z 1 90 W
    have hTF := fun W => timeFault_any ea ez W
    have hTE : timeE ea ez = if TB then 0 else 1 := by unfold timeE; rw [hTB]
    rw [hKB] at hcs hKE
    rw [hCB] at hcs hIC
    rw [hZB] at hcs hIZ
    rw [hTB] at hcs
    rw [hTE] at hTF
    have HKE := Lib.hid hKE
    have HIC := Lib.hid hIC
    have HIZ := Lib.hid hIZ
    have HTF := Lib.hid hTF
    have HCS := Lib.hid hcs
    have HST := Lib.hid hst
    have hB := Blk.new wr 77 #[.string K, .int .i64 C, .int .i64 Z, .int .i64 ea, .int .i64 ez]
    have hgA := World.grownBy_alloc wr (.cells #[.string K, .int .i64 C, .int .i64 Z, .int .i64 ea, .int .i64 ez] 77) none
    have hgq := gr_trans hg hgA
    have hglt : g < wr.heap.size := by omega
    clear hE hKB hCB hZB hTB hKE hIC hIZ hTF hTE hcs hst
    go_upto_region 6 with fail
    generalize wr.alloc (.cells #[.string K, .int .i64 C, .int .i64 Z, .int .i64 ea, .int .i64 ez] 77) = w1 at *
    generalize wr.heap.size = gE at *
    have k0 := hB.cell 0
    have k1 := hB.cell 1
    have k2 := hB.cell 2
    simp only [List.getElem?_toArray, List.getElem?_cons_zero, List.getElem?_cons_succ] at k0 k1 k2
    go_wp2_with fail
    refine (HKE.out _).mono ?_
    rintro _ w2 ⟨rfl, hg2⟩
    have hB2 := hB.grown hg2 (by simp)
    clear k0 k1 k2 q0 q1 q2 q3 q4
    have k0 := hB2.cell 0
    have k1 := hB2.cell 1
    have k2 := hB2.cell 2
    have k3 := hB2.cell 3
    have k4 := hB2.cell 4
    simp only [List.getElem?_toArray, List.getElem?_cons_zero, List.getElem?_cons_succ] at k0 k1 k2 k3 k4
    cases KB
    ·have hE : E = 5 := by simpa using HCS.out
     have HR : Hid (entsE l = 5) := by show _ = _; rw [HST.out, if_neg (by omega), hE]
     clear hE
     go_wp2_with fail
     go_ret
     exact ⟨ret_of HR.out.symm, gr_trans hgq hg2⟩
    ·go_wp2_with fail
     refine (HIC.out _).mono ?_
     rintro _ _ ⟨rfl, rfl⟩
     cases CB
     ·go_wp2_with fail
      refine (HIZ.out _).mono ?_
      rintro _ _ ⟨rfl, rfl⟩
      cases ZB
      ·go_wp2_with fail
       refine (HTF.out _).mono ?_
       rintro _ w3 ⟨rfl, hg3⟩
       have hB3 := hB2.grown hg3 (by simp)
       have hg13 := gr_trans hg2 hg3
       clear k0 k1 k2 k3 k4
       have k0 := hB3.cell 0
       simp only [List.getElem?_toArray, List.getElem?_cons_zero] at k0
       cases TB
       ·have hE : E = 1 := by simpa using HCS.out
        have HR : Hid (entsE l = 1) := by show _ = _; rw [HST.out, if_neg (by omega), hE]
        clear hE
        go_wp2_with fail
        go_ret
        exact ⟨ret_of HR.out.symm, gr_trans hgq hg13⟩
       ·rcases Nat.eq_zero_or_pos k with hk0 | hk0
        ·have hp : prevL l k = none := by rw [hk0]; rfl
         have hE : E = 0 := by
          have := HCS.out
          rw [hp] at this
          simpa using this
         have HR : Hid (entsE l = entsScan (prevL l (k + 1)) (l.drop (k + 1))) := by show _ = _; rw [HST.out, if_pos hE]
         have hkn : decide ((0 : Int) < (k : Int)) = false := by simp; omega
         have hknN : decide (0 < k) = false := by simp; omega
         clear hE hp hk0 HPV
         simp only [if_true]
         go_wp2_with fail
         refine wp_region_held_drew (S := fun _ => True) (by kernel_rfl) trivial (fun hHeld => ?_)
         refine wpAnyH_take (i := 0) (v := ?_) rfl (by kernel_rfl) (by kernel_rfl) (by kernel_rfl) (fun _ _ _ h => h) (Or.inl ⟨by kernel_rfl, ?_⟩) hHeld ?_
         rotate_left
         ·intro w hSw
          (try dsimp only at hSw)
          go_simp
          (try with_reducible rfl)
         change wpAnyH _ _ _ _ _ _ _ (Act.put _ (some 37) _) _
         simp only [Act.put, ssA, ssZ, ssS]
         refine wpAnyH_take (i := 1) (v := ?_) rfl (by kernel_rfl) (by kernel_rfl) (by kernel_rfl) (fun _ _ _ h => h) (Or.inl ⟨by kernel_rfl, ?_⟩) hHeld ?_
         rotate_left
         ·intro w hSw
          (try dsimp only at hSw)
          go_simp
          (try with_reducible rfl)
         change wpAnyH _ _ _ _ _ _ _ (Act.put _ (some 38) _) _
         simp only [Act.put, ssA, ssZ, ssS]
         refine wpAnyH_take (i := 2) (v := ?_) rfl (by kernel_rfl) (by kernel_rfl) (by kernel_rfl) (fun _ _ _ h => h) (Or.inl ⟨by kernel_rfl, ?_⟩) hHeld ?_
         rotate_left
         ·intro w hSw
          (try dsimp only at hSw)
          go_simp
          (try with_reducible rfl)
         change wpAnyH _ _ _ _ _ _ _ (Act.put _ (some 39) _) _
         simp only [Act.put, ssA, ssZ, ssS]
         refine wpAnyH_take (i := 3) (v := undef) rfl (by kernel_rfl) (by kernel_rfl) (by kernel_rfl) (fun _ _ _ h => h) (Or.inr ⟨by kernel_rfl, rfl⟩) hHeld ?_
         change wpAnyH _ _ _ _ _ _ _ (Act.put _ (some 40) _) _
         simp only [Act.put, ssA, ssZ, ssS]
         refine wpAnyH_take (i := 4) (v := undef) rfl (by kernel_rfl) (by kernel_rfl) (by kernel_rfl) (fun _ _ _ h => h) (Or.inr ⟨by kernel_rfl, rfl⟩) hHeld ?_
         change wpAnyH _ _ _ _ _ _ _ (Act.put _ (some 41) _) _
         simp only [Act.put, ssA, ssZ, ssS]
         refine wpAnyH_take (i := 5) (v := undef) rfl (by kernel_rfl) (by kernel_rfl) (by kernel_rfl) (fun _ _ _ h => h) (Or.inr ⟨by kernel_rfl, rfl⟩) hHeld ?_
         change wpAnyH _ _ _ _ _ _ _ (Act.put _ (some 42) _) _
         simp only [Act.put, ssA, ssZ, ssS]
         refine wpAnyH_take (i := 6) (v := undef) rfl (by kernel_rfl) (by kernel_rfl) (by kernel_rfl) (fun _ _ _ h => h) (Or.inr ⟨by kernel_rfl, rfl⟩) hHeld ?_
         change wpAnyH _ _ _ _ _ _ _ (Act.put _ (some 43) _) _
         simp only [Act.put, ssA, ssZ, ssS]
         refine wpAnyH_take (i := 7) (v := undef) rfl (by kernel_rfl) (by kernel_rfl) (by kernel_rfl) (fun _ _ _ h => h) (Or.inr ⟨by kernel_rfl, rfl⟩) hHeld ?_
         change wpAnyH _ _ _ _ _ _ _ (Act.put _ (some 44) _) _
         simp only [Act.put, ssA, ssZ, ssS]
         refine wpAnyH_take (i := 8) (v := undef) rfl (by kernel_rfl) (by kernel_rfl) (by kernel_rfl) (fun _ _ _ h => h) (Or.inr ⟨by kernel_rfl, rfl⟩) hHeld ?_
         change wpAnyH _ _ _ _ _ _ _ (Act.put _ (some 45) _) _
         simp only [Act.put, ssA, ssZ, ssS]
         refine wpAnyH_take (i := 9) (v := undef) rfl (by kernel_rfl) (by kernel_rfl) (by kernel_rfl) (fun _ _ _ h => h) (Or.inr ⟨by kernel_rfl, rfl⟩) hHeld ?_
         change wpAnyH _ _ _ _ _ _ _ (Act.put _ (some 46) _) _
         simp only [Act.put, ssA, ssZ, ssS]
         refine wpAnyH_take (i := 10) (v := undef) rfl (by kernel_rfl) (by kernel_rfl) (by kernel_rfl) (fun _ _ _ h => h) (Or.inr ⟨by kernel_rfl, rfl⟩) hHeld ?_
         change wpAnyH _ _ _ _ _ _ _ (Act.put _ (some 47) _) _
         simp only [Act.put, ssA, ssZ, ssS]
         refine wpAnyH_take (i := 11) (v := undef) rfl (by kernel_rfl) (by kernel_rfl) (by kernel_rfl) (fun _ _ _ h => h) (Or.inr ⟨by kernel_rfl, rfl⟩) hHeld ?_
         change wpAnyH _ _ _ _ _ _ _ (Act.put _ (some 48) _) _
         simp only [Act.put, ssA, ssZ, ssS]
         refine wpAnyH_take (i := 12) (v := ?_) rfl (by kernel_rfl) (by kernel_rfl) (by kernel_rfl) (fun _ _ _ h => h) (Or.inl ⟨by kernel_rfl, ?_⟩) hHeld ?_
         rotate_left
         ·intro w hSw
          (try dsimp only at hSw)
          go_simp
          (try with_reducible rfl)
         change wpAnyH _ _ _ _ _ _ _ (Act.put _ (some 49) _) _
         simp only [Act.put, ssA, ssZ, ssS]
         refine wpAnyH_take (i := 13) (v := ?_) rfl (by kernel_rfl) (by kernel_rfl) (by kernel_rfl) (fun _ _ _ h => h) (Or.inl ⟨by kernel_rfl, ?_⟩) hHeld ?_
         rotate_left
         ·intro w hSw
          (try dsimp only at hSw)
          go_simp
          (try with_reducible rfl)
         change wpAnyH _ _ _ _ _ _ _ (Act.put _ (some 36) _) _
         simp only [Act.put, ssA, ssZ, ssS]
         refine wpAnyH_done (by kernel_rfl) ?_ _
         go_wp2_with fail
         go_roundw
         case rel => exact ⟨k + 1, by omega, by go_num, HR, gr_drew (gr_trans hgq hg13)⟩
         case measure => simp [intOf]; omega
        ·obtain ⟨j, hj⟩ : ∃ j, k = j + 1 := ⟨k - 1, by omega⟩
         obtain ⟨q, hq, cq⟩ := HPV.out j hj
         obtain ⟨QK, hQK⟩ : ∃ x, q.key = x := ⟨_, rfl⟩
         rw [hQK] at cq
         obtain ⟨LB, hLB⟩ : ∃ x, (Op.bytesLess K.toList QK.toList || K.toList == QK.toList) = x := ⟨_, rfl⟩
         have hE : E = if LB then 7 else 0 := by
          have h := HCS.out
          rw [hq] at h
          have h2 : leS K q.key = LB := by rw [hQK]; exact hLB
          simpa [h2] using h
         have cq3 := (gr_trans hgA hg13).cell cq (by simp)
         have e2 : IntKind.i64.wrap ((k : Int) - 1) = (j : Int) := by rw [show (k : Int) - 1 = (j : Int) by omega, IntKind.wrap_i64]; omega
         have e3 : IntKind.i64.wrap (j : Int) = (j : Int) := by rw [IntKind.wrap_i64]; omega
         have hj0 : (0 : Int) ≤ (j : Int) := by omega
         have hj1 : (j : Int) < (l.length : Int) := by omega
         have hj2 : j < l.length := by omega
         have hkn : decide ((0 : Int) < (k : Int)) = true := by simp; omega
         have hknN : decide (0 < k) = true := by simp; omega
         have hkn2 : (0 : Int) < (k : Int) := by omega
         have HJ := Lib.hid hj
         have HEE := Lib.hid hE
         clear hE hq hk0 HPV hj cq hQK
         simp only [if_true]
         go_wp2_with fail
         refine wp_region_held_drew (S := fun W => W.cell? ⟨gE, 0, none⟩ = some (.string K) ∧ W.cell? ⟨g, j * 5, none⟩ = some (.string QK)) (by kernel_rfl) ⟨k0, cq3⟩ (fun hHeld => ?_)
         refine wpAnyH_take (i := 0) (v := ?_) rfl (by kernel_rfl) (by kernel_rfl) (by kernel_rfl) (fun _ _ _ h => h) (Or.inl ⟨by kernel_rfl, ?_⟩) hHeld ?_
         rotate_left
         ·intro w hSw
          (try dsimp only at hSw)
          obtain ⟨hS0, hS1⟩ := hSw
          go_simp
          (try with_reducible rfl)
         change wpAnyH _ _ _ _ _ _ _ (Act.put _ (some 37) _) _
         simp only [Act.put, ssA, ssZ, ssS]
         refine wpAnyH_take (i := 1) (v := ?_) rfl (by kernel_rfl) (by kernel_rfl) (by kernel_rfl) (fun _ _ _ h => h) (Or.inl ⟨by kernel_rfl, ?_⟩) hHeld ?_
         rotate_left
         ·intro w hSw
          (try dsimp only at hSw)
          obtain ⟨hS0, hS1⟩ := hSw
          go_simp
          (try with_reducible rfl)
         change wpAnyH _ _ _ _ _ _ _ (Act.put _ (some 38) _) _
         simp only [Act.put, ssA, ssZ, ssS]
         refine wpAnyH_take (i := 2) (v := ?_) rfl (by kernel_rfl) (by kernel_rfl) (by kernel_rfl) (fun _ _ _ h => h) (Or.inl ⟨by kernel_rfl, ?_⟩) hHeld ?_
         rotate_left
         ·intro w hSw
          (try dsimp only at hSw)
          obtain ⟨hS0, hS1⟩ := hSw
          go_simp
          (try with_reducible rfl)
         change wpAnyH _ _ _ _ _ _ _ (Act.put _ (some 39) _) _
         simp only [Act.put, ssA, ssZ, ssS]
         refine wpAnyH_take (i := 3) (v := ?_) rfl (by kernel_rfl) (by kernel_rfl) (by kernel_rfl) (fun _ _ _ h => h) (Or.inl ⟨by kernel_rfl, ?_⟩) hHeld ?_
         rotate_left
         ·intro w hSw
          (try dsimp only at hSw)
          obtain ⟨hS0, hS1⟩ := hSw
          go_simp
          (try with_reducible rfl)
         change wpAnyH _ _ _ _ _ _ _ (Act.put _ (some 40) _) _
         simp only [Act.put, ssA, ssZ, ssS]
         refine wpAnyH_take (i := 4) (v := ?_) rfl (by kernel_rfl) (by kernel_rfl) (by kernel_rfl) (fun _ _ _ h => h) (Or.inl ⟨by kernel_rfl, ?_⟩) hHeld ?_
         rotate_left
         ·intro w hSw
          (try dsimp only at hSw)
          obtain ⟨hS0, hS1⟩ := hSw
          go_simp
          (try with_reducible rfl)
         change wpAnyH _ _ _ _ _ _ _ (Act.put _ (some 41) _) _
         simp only [Act.put, ssA, ssZ, ssS]
         refine wpAnyH_take (i := 5) (v := ?_) rfl (by kernel_rfl) (by kernel_rfl) (by kernel_rfl) (fun _ _ _ h => h) (Or.inl ⟨by kernel_rfl, ?_⟩) hHeld ?_
         rotate_left
         ·intro w hSw
          (try dsimp only at hSw)
          obtain ⟨hS0, hS1⟩ := hSw
          go_simp
          (try with_reducible rfl)
         change wpAnyH _ _ _ _ _ _ _ (Act.put _ (some 42) _) _
         simp only [Act.put, ssA, ssZ, ssS]
         refine wpAnyH_take (i := 6) (v := ?_) rfl (by kernel_rfl) (by kernel_rfl) (by kernel_rfl) (fun _ _ _ h => h) (Or.inl ⟨by kernel_rfl, ?_⟩) hHeld ?_
         rotate_left
         ·intro w hSw
          (try dsimp only at hSw)
          obtain ⟨hS0, hS1⟩ := hSw
          go_simp
          (try with_reducible rfl)
         change wpAnyH _ _ _ _ _ _ _ (Act.put _ (some 43) _) _
         simp only [Act.put, ssA, ssZ, ssS]
         refine wpAnyH_take (i := 7) (v := ?_) rfl (by kernel_rfl) (by kernel_rfl) (by kernel_rfl) (fun _ _ _ h => h) (Or.inl ⟨by kernel_rfl, ?_⟩) hHeld ?_
         rotate_left
         ·intro w hSw
          (try dsimp only at hSw)
          obtain ⟨hS0, hS1⟩ := hSw
          go_simp
          (try with_reducible rfl)
         change wpAnyH _ _ _ _ _ _ _ (Act.put _ (some 44) _) _
         simp only [Act.put, ssA, ssZ, ssS]
         refine wpAnyH_take (i := 8) (v := ?_) rfl (by kernel_rfl) (by kernel_rfl) (by kernel_rfl) (fun _ _ _ h => h) (Or.inl ⟨by kernel_rfl, ?_⟩) hHeld ?_
         rotate_left
         ·intro w hSw
          (try dsimp only at hSw)
          obtain ⟨hS0, hS1⟩ := hSw
          go_simp
          (try with_reducible rfl)
         change wpAnyH _ _ _ _ _ _ _ (Act.put _ (some 45) _) _
         simp only [Act.put, ssA, ssZ, ssS]
         refine wpAnyH_take (i := 9) (v := ?_) rfl (by kernel_rfl) (by kernel_rfl) (by kernel_rfl) (fun _ _ _ h => h) (Or.inl ⟨by kernel_rfl, ?_⟩) hHeld ?_
         rotate_left
         ·intro w hSw
          (try dsimp only at hSw)
          obtain ⟨hS0, hS1⟩ := hSw
          go_simp
          (try with_reducible rfl)
         change wpAnyH _ _ _ _ _ _ _ (Act.put _ (some 46) _) _
         simp only [Act.put, ssA, ssZ, ssS]
         refine wpAnyH_take (i := 10) (v := ?_) rfl (by kernel_rfl) (by kernel_rfl) (by kernel_rfl) (fun _ _ _ h => h) (Or.inl ⟨by kernel_rfl, ?_⟩) hHeld ?_
         rotate_left
         ·intro w hSw
          (try dsimp only at hSw)
          obtain ⟨hS0, hS1⟩ := hSw
          go_simp
          (try with_reducible rfl)
         change wpAnyH _ _ _ _ _ _ _ (Act.put _ (some 47) _) _
         simp only [Act.put, ssA, ssZ, ssS]
         refine wpAnyH_take (i := 11) (v := ?_) rfl (by kernel_rfl) (by kernel_rfl) (by kernel_rfl) (fun _ _ _ h => h) (Or.inl ⟨by kernel_rfl, ?_⟩) hHeld ?_
         rotate_left
         ·intro w hSw
          (try dsimp only at hSw)
          obtain ⟨hS0, hS1⟩ := hSw
          go_simp
          (try with_reducible rfl)
         change wpAnyH _ _ _ _ _ _ _ (Act.put _ (some 48) _) _
         simp only [Act.put, ssA, ssZ, ssS]
         refine wpAnyH_take (i := 12) (v := ?_) rfl (by kernel_rfl) (by kernel_rfl) (by kernel_rfl) (fun _ _ _ h => h) (Or.inl ⟨by kernel_rfl, ?_⟩) hHeld ?_
         rotate_left
         ·intro w hSw
          (try dsimp only at hSw)
          obtain ⟨hS0, hS1⟩ := hSw
          go_simp
          (try with_reducible rfl)
         change wpAnyH _ _ _ _ _ _ _ (Act.put _ (some 49) _) _
         simp only [Act.put, ssA, ssZ, ssS]
         refine wpAnyH_take (i := 13) (v := ?_) rfl (by kernel_rfl) (by kernel_rfl) (by kernel_rfl) (fun _ _ _ h => h) (Or.inl ⟨by kernel_rfl, ?_⟩) hHeld ?_
         rotate_left
         ·intro w hSw
          (try dsimp only at hSw)
          obtain ⟨hS0, hS1⟩ := hSw
          go_simp
          (try with_reducible rfl)
         change wpAnyH _ _ _ _ _ _ _ (Act.put _ (some 36) _) _
         simp only [Act.put, ssA, ssZ, ssS]
         refine wpAnyH_done (by kernel_rfl) ?_ _
         cases LB
         ·have HR : Hid (entsE l = entsScan (prevL l (k + 1)) (l.drop (k + 1))) := by show _ = _; rw [HST.out, if_pos (by simpa using HEE.out)]
          go_wp2_with fail
          go_roundw
          case rel => exact ⟨k + 1, by omega, by go_num, HR, gr_drew (gr_trans hgq hg13)⟩
          case measure => simp [intOf]; omega
         ·have hE : E = 7 := by simpa using HEE.out
          have HR : Hid (entsE l = 7) := by show _ = _; rw [HST.out, if_neg (by omega), hE]
          clear hE
          go_wp2_with fail
          go_ret
          exact ⟨ret_of HR.out.symm, gr_drew (gr_trans hgq hg13)⟩
      ·have hE : E = 1 := by simpa using HCS.out
       have HR : Hid (entsE l = 1) := by show _ = _; rw [HST.out, if_neg (by omega), hE]
       clear hE
       go_wp2_with fail
       go_ret
       exact ⟨ret_of HR.out.symm, gr_trans hgq hg2⟩
     ·have hE : E = 4 := by simpa using HCS.out
      have HR : Hid (entsE l = 4) := by show _ = _; rw [HST.out, if_neg (by omega), hE]
      clear hE
      go_wp2_with fail
      go_ret
      exact ⟨ret_of HR.out.symm, gr_trans hgq hg2⟩
   ·obtain rfl : k = l.length := by omega
    have hkl : ¬ (l.length : Int) < (l.length : Int) := by omega
    have HR : Hid (entsE l = 0) := by show _ = _; rw [HN.out, entsScan_end]
    go_wp2_with fail
    go_ret
    exact ⟨ret_of HR.out.symm, hg⟩
end Go.Proofs.YtbpkfkbbkgdlaaaGreatDoor

namespace Go.Proofs.YtbpkfkbbkgdlaaaGreatDoor
open Go.RowKit
set_option linter.unusedVariables false
set_option linter.unusedSimpArgs false

def cmpN (a b : Int) : Int := if a < b then -1 else if b < a then 1 else 0
theorem isNaN_int (x : Int) (w : World) : Calls Tryz.prog 150 #[.int .i64 x] w fun r w' => r = .returned (.bool false) ∧ w = w' := by
 go_enter Tryz.func150, Tryz.ntmps150
 go_wp2_with fail
 go_ret
 exact ⟨by simp, rfl⟩
theorem compare_int (x y : Int) (w : World) : Calls Tryz.prog 93 #[.int .i64 x, .int .i64 y] w fun r w' => r = .returned (.int .i64 (cmpN x y)) ∧ w = w' := by
 unfold cmpN
 by_cases h1 : x < y
 ·rw [if_pos h1]
  go_enter Tryz.func93, Tryz.ntmps93
  go_wp2_with fail
  refine (isNaN_int _ _).mono ?_
  rintro _ _ ⟨rfl, rfl⟩
  go_wp2_with fail
  refine (isNaN_int _ _).mono ?_
  rintro _ _ ⟨rfl, rfl⟩
  go_wp2_with fail
  go_ret
  exact ⟨rfl, rfl⟩
 ·rw [if_neg h1]
  by_cases h2 : y < x
  ·rw [if_pos h2]
   go_enter Tryz.func93, Tryz.ntmps93
   go_wp2_with fail
   refine (isNaN_int _ _).mono ?_
   rintro _ _ ⟨rfl, rfl⟩
   go_wp2_with fail
   refine (isNaN_int _ _).mono ?_
   rintro _ _ ⟨rfl, rfl⟩
   go_wp2_with fail
   go_ret
   exact ⟨rfl, rfl⟩
  ·rw [if_neg h2]
   go_enter Tryz.func93, Tryz.ntmps93
   go_wp2_with fail
   refine (isNaN_int _ _).mono ?_
   rintro _ _ ⟨rfl, rfl⟩
   go_wp2_with fail
   refine (isNaN_int _ _).mono ?_
   rintro _ _ ⟨rfl, rfl⟩
   go_wp2_with fail
   go_ret
   exact ⟨rfl, rfl⟩
set_option maxHeartbeats 400000 in
theorem orI_any (xs : List Int) (g m c : Nat) (w : World) (hg : Blk w g 3 (xs.map (Value.int .i64)).toArray) (hm : m = xs.length) (h1 : m ≤ 1000) :
 Calls Tryz.prog 91 #[.slice (some ⟨g, 0, none⟩) m c] w fun r w' => r = .returned (.int .i64 (orL xs)) ∧ w = w' := by
 have HM := Lib.hid hm
 clear hm
 go_enter Tryz.func91, Tryz.ntmps91
 go_wp2_with fail
 go_loop [8] (fun i => ∃ k : Nat, k ≤ m ∧ i = .int .i64 k ∧ Hid (orL xs = orL (xs.drop k))) (fun i => m - (intOf i).toNat)
 case atStart => exact ⟨0, by omega, rfl, rfl⟩
 case round =>
  obtain ⟨k, hk, rfl, HR⟩ := hrel
  by_cases hlt : k < m
  ·have hi : k < xs.length := by have := HM.out; omega
   have hc := hg.cell k
   rw [getE_of hi] at hc
   obtain ⟨z, hz⟩ : ∃ z, z = xs[k] := ⟨_, rfl⟩
   rw [← hz] at hc
   have HZ : Hid (orL (xs.drop k) = if z = 0 then orL (xs.drop (k + 1)) else z) := by
    show orL (xs.drop k) = _
    rw [List.drop_eq_getElem_cons hi, ← hz]
    rfl
   clear hz
   by_cases h0 : z = 0
   ·have hne : (z != 0) = false := by simp [h0]
    have HZ2 : Hid (orL xs = orL (xs.drop (k + 1))) := by
     show orL xs = _
     rw [HR.out, HZ.out, if_pos h0]
    have H0 := Lib.hid h0
    clear h0
    go_wp2_with fail
    go_round
    case rel => exact ⟨k + 1, by omega, by go_num, HZ2⟩
    case measure => simp [intOf]; omega
   ·have hne : (z != 0) = true := by simpa using h0
    have HZ2 : Hid (orL xs = z) := by
     show orL xs = _
     rw [HR.out, HZ.out, if_neg h0]
    clear h0
    go_wp2_with fail
    go_ret
    exact ⟨ret_of HZ2.out.symm, rfl⟩
  ·have HZ2 : Hid (orL xs = 0) := by
    show orL xs = _
    rw [HR.out, List.drop_of_length_le (by have := HM.out; omega)]
    rfl
   go_wp2_with fail
   go_ret
   exact ⟨ret_of HZ2.out.symm, rfl⟩
end Go.Proofs.YtbpkfkbbkgdlaaaGreatDoor
