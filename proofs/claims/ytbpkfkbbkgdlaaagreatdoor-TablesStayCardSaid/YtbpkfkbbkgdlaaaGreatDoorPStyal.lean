/- The walk over call.Steps: the least number of steps from one string to another one. Condition: strings of at most 100 bytes. The walks over call.Is, call.Distance and call.CheckCalls. Condition: strings of ASCII of at most 100 bytes. The walk over call.Of. Condition: parts of a size; a string of ASCII bytes. -/
import Derived.Test.YtbpkfkbbkgdlaaaGreatDoorPStyak
import Derived.StillTailTactics
import Derived.Deep.RegionHeld3
import Derived.Deep.DeepCutAuto
import Derived.Test.YtbpkfkbbkgdlaaaGreatDoorPStyac
import Derived.Test.YtbpkfkbbkgdlaaaGreatDoorPStyad
namespace Go.Proofs.YtbpkfkbbkgdlaaaGreatDoor
open Go.RowKit
set_option linter.unusedVariables false
set_option linter.unusedSimpArgs false

/-- A row of the table. -/
def RowIs (A B : List UInt8) (n base : Nat) (W : World) (v : Value) (i : Nat) : Prop := ∃ g c L, v = .slice (some ⟨g, 0, none⟩) (n + 1) c ∧ LFrom base W (.slice (some ⟨g, 0, none⟩) (n + 1) c) (n + 1) L ∧ ∀ k, k ≤ n → L.getD k 0 = (osa A B i k : Int)
theorem RowIs.far {A B : List UInt8} {n base : Nat} {w w' : World} {v : Value} {i : Nat} (h : RowIs A B n base w v i) {row : Option Nat} (hg : w.grownBy w' row) (hr : ∀ g, row = some g → g < base) : RowIs A B n base w' v i := by
 obtain ⟨g, c, L, h1, h2, h3⟩ := h
 refine ⟨g, c, L, h1, ?_, h3⟩
 refine World.ownsRow.kept h2 hg (.inr fun e => ?_)
 have h4 := hr g e.symm
 have h5 := (World.ownsRow.lt h2 g rfl).1
 omega
theorem RowIs.grown {A B : List UInt8} {n base : Nat} {w w' : World} {v : Value} {i : Nat} (h : RowIs A B n base w v i) (hg : w.grownBy w' none) : RowIs A B n base w' v i := h.far hg (by simp)
theorem blk_intsO {w : World} {g base : Nat} {l : List Int} (h : Blk w g 3 (l.map (Value.int .i64)).toArray) (hb : base ≤ g) (hn : l.length ≤ 1000000) : IntsFrom base w (.slice (some ⟨g, 0, none⟩) l.length l.length) l := by
 refine ⟨by simp, .inr ⟨g, l.length, _, rfl, hb, h, Nat.le_refl _, by unfold maxLen; omega, by simp, ?_⟩⟩
 exact List.take_of_length_le (by simp)
theorem bytes_at_eq (a b : ByteArray) (i j : Nat) (hi : i < a.size) (hj : j < b.size) : decide (a.data.toList.getD i 0 = b.data.toList.getD j 0) = ((a[i].toNat : Int) == (b[j].toNat : Int)) := by
 have hsym : (a.data.toList.getD i 0 = b.data.toList.getD j 0) ↔ a[i] = b[j] := by
  rw [List.getD_eq_getElem?_getD, List.getD_eq_getElem?_getD, List.getElem?_eq_getElem (by simpa using hi), List.getElem?_eq_getElem (by simpa using hj)]
  exact Iff.rfl
 rw [Bool.eq_iff_iff, decide_eq_true_eq, beq_iff_eq, hsym]
 constructor
 ·intro h; rw [h]
 ·intro h; exact UInt8.toNat_inj.1 (by omega)
theorem made_intsO (N : Nat) : madeCells (Value.int .i64 0).cells N = Array.replicate N (Value.int .i64 0) := by
 apply Array.ext
 ·simp [madeCells]
 ·intro i h1 h2
  simp [madeCells, Value.cells, Nat.mod_one]
theorem set_getD (L : List Int) (i j : Nat) (v : Int) (hi : i < L.length) : (L.set i v).getD j 0 = if i = j then v else L.getD j 0 := by
 rw [List.getD_eq_getElem?_getD, List.getElem?_set]
 by_cases h : i = j
 ·subst h; simp [hi]
 ·simp [h, List.getD_eq_getElem?_getD]
theorem row_next {A B : List UInt8} {I K n : Nat} {L : List Int} (hl : L.length = n + 1) (hK : K ≤ n) (h : ∀ j, j < K → L.getD j 0 = (osa A B I j : Int)) {x : Int} (hx : x = (osa A B I K : Int)) : ∀ j, j < K + 1 → (L.set K x).getD j 0 = (osa A B I j : Int) := fun j hj => by
 rw [set_getD _ _ _ _ (by omega)]
 by_cases e : K = j
 ·subst e; rw [if_pos rfl, hx]
 ·rw [if_neg e]; exact h j (by omega)
set_option maxRecDepth 100000 in
set_option maxHeartbeats 8000000 in
theorem steps_any (a b : ByteArray) (w : World) (ha : a.size ≤ 100) (hb : b.size ≤ 100) :
 Calls Tryz.prog 83 #[.string a, .string b] w fun e w' => e = .returned (.int .i64 (stepsL a.data.toList b.data.toList : Nat)) ∧ w.grownBy w' none := by
 obtain ⟨A, hA⟩ : ∃ A, a.data.toList = A := ⟨_, rfl⟩
 obtain ⟨B, hB⟩ : ∃ B, b.data.toList = B := ⟨_, rfl⟩
 obtain ⟨N, hN⟩ : ∃ N, a.size = N := ⟨_, rfl⟩
 obtain ⟨M, hM⟩ : ∃ M, b.size = M := ⟨_, rfl⟩
 have hAl : A.length = N := by rw [← hA, ← hN]; simp
 have hBl : B.length = M := by rw [← hB, ← hM]; simp
 have HST : Hid (stepsL a.data.toList b.data.toList = osa A B N M) := by show _ = _; unfold stepsL; rw [hA, hB, hAl, hBl]
 have HAA := Lib.hid hA
 have HBB := Lib.hid hB
 have HNN := Lib.hid hN
 have HMM := Lib.hid hM
 have HOB := Lib.hid (fun i j => osa_le A B i j)
 obtain ⟨i0, hi, hz0, hz1, hz2⟩ := info_parts intInfo
 have hM1 : ((M + 1 : Nat) : Int) = (M : Int) + 1 := by push_cast; rfl
 have hN2 : N ≤ 100 := by omega
 have hM2 : M ≤ 100 := by omega
 have hmk : ∀ W : World, (Instr.makeSlice 22 (.int .i64 ((M : Int) + 1)) (.int .i64 ((M : Int) + 1))).run Tryz.prog W = .ok (.slice (some ⟨W.heap.size, 0, none⟩) (M + 1) (M + 1)) (W.alloc (.cells (Array.replicate (M + 1) (Value.int .i64 0)) 3)) := fun W => by
  have h := run_make (P := Tryz.prog) W 22 3 i0 _ Tryz.underlying22 hi hz0 .i64 .i64 ((M : Int) + 1) ((M : Int) + 1) (by omega) (by omega) (by rw [hz2]; omega) (by omega)
  rw [h, hz1]
  have e : ((M : Int) + 1).toNat = M + 1 := by omega
  rw [e]
  rw [made_intsO, Nat.mul_one]
 have hB0 := Blk.new w 171 #[.slice none 0 0, .slice none 0 0, .slice none 0 0]
 have hG0 := World.grownBy_alloc w (.cells #[.slice none 0 0, .slice none 0 0, .slice none 0 0] 171) none
 clear hA hB ha hb hAl hBl
 go_enter Tryz.func83, Tryz.ntmps83
 go_wp2_with fail
 generalize w.alloc (.cells #[.slice none 0 0, .slice none 0 0, .slice none 0 0] 171) = W0 at *
 go_loopw [13] (fun i wr => ∃ (I : Nat) (x0 x1 x2 : Option Addr) (n0 n1 n2 y0 y1 y2 : Nat), i = .int .i64 I ∧ I ≤ N + 1 ∧ Blk wr w.heap.size 171 #[.slice x0 n0 y0, .slice x1 n1 y1, .slice x2 n2 y2] ∧ Hid (1 ≤ I → RowIs A B M (w.heap.size + 1) wr (.slice x2 n2 y2) (I - 1)) ∧ Hid (2 ≤ I → RowIs A B M (w.heap.size + 1) wr (.slice x1 n1 y1) (I - 2)) ∧ w.grownBy wr none) (fun i _ => N + 1 - (intOf i).toNat)
 case atStart => exact ⟨0, none, none, none, 0, 0, 0, 0, 0, 0, rfl, by omega, hB0, fun h => absurd h (by omega), fun h => absurd h (by omega), hG0⟩
 case round =>
  obtain ⟨I, x0, x1, x2, n0, n1, n2, y0, y1, y2, rfl, hI, hbl, HR2, HR1, hgr⟩ := hrel
  rename World => wo
  clear hB0 hG0
  by_cases hlt : I < N + 1
  ·have hli : (I : Int) < (N : Int) + 1 := by omega
   have hnb := blk_intsO (base := wo.heap.size) (l := List.replicate (M + 1) 0) (by rw [List.map_replicate]; rw [List.toArray_replicate]; exact Blk.new wo 3 (Array.replicate (M + 1) (Value.int .i64 0))) (Nat.le_refl _) (by simp; omega)
   have hnew : LFrom wo.heap.size (wo.alloc (.cells (Array.replicate (M + 1) (Value.int .i64 0)) 3)) (.slice (some ⟨wo.heap.size, 0, none⟩) (M + 1) (M + 1)) (M + 1) (List.replicate (M + 1) 0) := by
    have h := hnb
    unfold IntsFrom at h
    rw [List.length_replicate] at h
    exact h
   have hga := World.grownBy_alloc wo (.cells (Array.replicate (M + 1) (Value.int .i64 0)) 3) none
   have hM0 : (0 : Int) ≤ (M : Int) + 1 := by omega
   clear hnb
   go_wp2_with fail
   generalize wo.alloc (.cells (Array.replicate (M + 1) (Value.int .i64 0)) 3) = wa at *
   have hszo := hbl.lt
   go_loopw [22] (fun k wx => ∃ (K : Nat) (L : List Int), k = .int .i64 K ∧ K ≤ M + 1 ∧ LFrom wo.heap.size wx (.slice (some ⟨wo.heap.size, 0, none⟩) (M + 1) (M + 1)) (M + 1) L ∧ Hid (∀ j, j < K → L.getD j 0 = (osa A B I j : Int)) ∧ wo.grownBy wx none) (fun k _ => M + 1 - (intOf k).toNat)
   case atStart => exact ⟨0, _, rfl, by omega, hnew, fun j hj => by omega, hga⟩
   case round =>
    obtain ⟨K, L, rfl, hK, hown, HL, hgx⟩ := hrel
    clear hnew hga
    have hlen := hown.len
    by_cases hlk : K < M + 1
    ·have hki : (K : Int) < (M : Int) + 1 := by omega
     have hkn : K < M + 1 := hlk
     have hk0 : (0 : Int) ≤ (K : Int) := by omega
     have hc := hown.at_ K hlk
     have hfz := World.ownsRow.frozenAt hown K
     have hob := HOB.out I K
     have HOW := Lib.hid hown
     rcases Nat.eq_zero_or_pos I with h0 | h0
     ·subst h0
      have hst := (World.ownsRow.stored hown K (.int .i64 (K : Int))).1
      rw [← List.map_set] at hst
      have HST2 := Lib.hid hst
      have HN := Lib.hid (row_next hlen (by omega) HL.out (x := (K : Int)) (by rw [osa_0]))
      clear hst hown HL
      go_wp2_with fail
      go_roundw
      case rel => exact ⟨K + 1, L.set K K, by go_num, by omega, HST2.out, HN.out, gr_put hgx (.inr (Nat.le_refl _)) _⟩
      case measure => simp [intOf]; omega
     ·rcases Nat.eq_zero_or_pos K with k0 | k0
      ·subst k0
       have hI0 : ((I : Int) == 0) = false := by rw [beq_eq_false_iff_ne]; omega
       have hst := (World.ownsRow.stored hown 0 (.int .i64 (I : Int))).1
       rw [← List.map_set] at hst
       have HST2 := Lib.hid hst
       have HN := Lib.hid (row_next hlen (by omega) HL.out (x := (I : Int)) (by rw [osa_00]))
       clear hst hown HL
       go_wp2_with fail
       go_roundw
       case rel => exact ⟨0 + 1, L.set 0 I, by go_num, by omega, HST2.out, HN.out, gr_put hgx (.inr (Nat.le_refl _)) _⟩
       case measure => simp [intOf]
      ·obtain ⟨P, hPI⟩ : ∃ P, I = P + 1 := ⟨I - 1, by omega⟩
       obtain ⟨Q, hQK⟩ : ∃ Q, K = Q + 1 := ⟨K - 1, by omega⟩
       have HPI := Lib.hid hPI
       have HKE : Hid (Q + 1 = K) := hQK.symm
       have hI0 : ((I : Int) == 0) = false := by rw [beq_eq_false_iff_ne]; omega
       have hK0 : ((K : Int) == 0) = false := by rw [beq_eq_false_iff_ne]; omega
       have hPa : P < a.size := by have := HNN.out; omega
       have hQb : Q < b.size := by have := HMM.out; omega
       have hPai : (P : Int) < (a.size : Int) := by omega
       have hQbi : (Q : Int) < (b.size : Int) := by omega
       have hP1 : IntKind.i64.wrap ((I : Int) - 1) = (P : Int) := by
        rw [show (I : Int) - 1 = (P : Int) by omega]; exact IntWalk.i64_in _ ⟨by omega, by omega⟩
       have hQ1 : IntKind.i64.wrap ((K : Int) - 1) = (Q : Int) := by
        rw [show (K : Int) - 1 = (Q : Int) by omega]; exact IntWalk.i64_in _ ⟨by omega, by omega⟩
       have hPw : IntKind.i64.wrap (P : Int) = (P : Int) := IntWalk.i64_in _ ⟨by omega, by omega⟩
       have hQw : IntKind.i64.wrap (Q : Int) = (Q : Int) := IntWalk.i64_in _ ⟨by omega, by omega⟩
       have hPN : (P : Int) < (N : Int) := by omega
       have hQM : (Q : Int) < (M : Int) := by omega
       have hP0 : (0 : Int) ≤ (P : Int) := by omega
       have hQ0 : (0 : Int) ≤ (Q : Int) := by omega
       obtain ⟨g2, cc, L2, hve, hL2, hv2⟩ := HR2.out (by omega)
       injection hve with e1 e2 e3
       subst e1 e2 e3
       rw [show I - 1 = P by omega] at hv2
       have hsym : (A.getD P 0 = B.getD Q 0) ↔ a[P] = b[Q] := by
        rw [← HAA.out, ← HBB.out, List.getD_eq_getElem?_getD, List.getD_eq_getElem?_getD, List.getElem?_eq_getElem (by simpa using hPa), List.getElem?_eq_getElem (by simpa using hQb)]
        exact Iff.rfl
       have hcq : decide (A.getD P 0 = B.getD Q 0) = ((a[P].toNat : Int) == (b[Q].toNat : Int)) := by
        rw [Bool.eq_iff_iff, decide_eq_true_eq, beq_iff_eq, hsym]
        constructor
        ·intro h; rw [h]
        ·intro h; exact UInt8.toNat_inj.1 (by omega)
       obtain ⟨EQ, hEQ⟩ : ∃ e, ((a[P].toNat : Int) == (b[Q].toNat : Int)) = e := ⟨_, rfl⟩
       rw [hEQ] at hcq
       have HCQ := Lib.hid hcq
       have hL2x := Lib.hid hL2
       clear hsym hcq hL2 hown hPI hQK
       go_upto_region 14 with fail
       go_cut [47] (fun s wq => s = .bool EQ ∧ wr.grownBy wq none)
       case first =>
        as_aux_lemma =>
         cases EQ
         all_goals
          refine wp_region_held_drew (S := fun _ => True) (by kernel_rfl) trivial (fun hHeld => ?_)
          refine wpAnyH_take (i := 0) (v := ?_) rfl (by kernel_rfl) (by kernel_rfl) (by kernel_rfl) (fun _ _ _ h => h) (Or.inl ⟨by kernel_rfl, ?_⟩) hHeld ?_
          rotate_left
          ·intro w hSw
           (try dsimp only at hSw)
           go_simp
           (try with_reducible rfl)
          change wpAnyH _ _ _ _ _ _ _ (Act.put _ (some 39) _) _
          simp only [Act.put, ssA, ssZ, ssS]
          refine wpAnyH_take (i := 1) (v := ?_) rfl (by kernel_rfl) (by kernel_rfl) (by kernel_rfl) (fun _ _ _ h => h) (Or.inl ⟨by kernel_rfl, ?_⟩) hHeld ?_
          rotate_left
          ·intro w hSw
           (try dsimp only at hSw)
           go_simp
           (try with_reducible rfl)
          change wpAnyH _ _ _ _ _ _ _ (Act.put _ (some 40) _) _
          simp only [Act.put, ssA, ssZ, ssS]
          refine wpAnyH_take (i := 2) (v := ?_) rfl (by kernel_rfl) (by kernel_rfl) (by kernel_rfl) (fun _ _ _ h => h) (Or.inl ⟨by kernel_rfl, ?_⟩) hHeld ?_
          rotate_left
          ·intro w hSw
           (try dsimp only at hSw)
           go_simp
           (try with_reducible rfl)
          change wpAnyH _ _ _ _ _ _ _ (Act.put _ (some 41) _) _
          simp only [Act.put, ssA, ssZ, ssS]
          refine wpAnyH_take (i := 3) (v := ?_) rfl (by kernel_rfl) (by kernel_rfl) (by kernel_rfl) (fun _ _ _ h => h) (Or.inl ⟨by kernel_rfl, ?_⟩) hHeld ?_
          rotate_left
          ·intro w hSw
           (try dsimp only at hSw)
           go_simp
           (try with_reducible rfl)
          change wpAnyH _ _ _ _ _ _ _ (Act.put _ (some 42) _) _
          simp only [Act.put, ssA, ssZ, ssS]
          refine wpAnyH_take (i := 4) (v := ?_) rfl (by kernel_rfl) (by kernel_rfl) (by kernel_rfl) (fun _ _ _ h => h) (Or.inl ⟨by kernel_rfl, ?_⟩) hHeld ?_
          rotate_left
          ·intro w hSw
           (try dsimp only at hSw)
           go_simp
           (try with_reducible rfl)
          change wpAnyH _ _ _ _ _ _ _ (Act.put _ (some 43) _) _
          simp only [Act.put, ssA, ssZ, ssS]
          refine wpAnyH_take (i := 5) (v := ?_) rfl (by kernel_rfl) (by kernel_rfl) (by kernel_rfl) (fun _ _ _ h => h) (Or.inl ⟨by kernel_rfl, ?_⟩) hHeld ?_
          rotate_left
          ·intro w hSw
           (try dsimp only at hSw)
           go_simp
           (try with_reducible rfl)
          change wpAnyH _ _ _ _ _ _ _ (Act.put _ (some 44) _) _
          simp only [Act.put, ssA, ssZ, ssS]
          refine wpAnyH_take (i := 6) (v := ?_) rfl (by kernel_rfl) (by kernel_rfl) (by kernel_rfl) (fun _ _ _ h => h) (Or.inl ⟨by kernel_rfl, ?_⟩) hHeld ?_
          rotate_left
          ·intro w hSw
           (try dsimp only at hSw)
           go_simp
           (try with_reducible rfl)
          change wpAnyH _ _ _ _ _ _ _ (Act.put _ (some 45) _) _
          simp only [Act.put, ssA, ssZ, ssS]
          refine wpAnyH_take (i := 7) (v := ?_) rfl (by kernel_rfl) (by kernel_rfl) (by kernel_rfl) (fun _ _ _ h => h) (Or.inl ⟨by kernel_rfl, ?_⟩) hHeld ?_
          rotate_left
          ·intro w hSw
           (try dsimp only at hSw)
           go_simp
           (try with_reducible rfl)
          change wpAnyH _ _ _ _ _ _ _ (Act.put _ (some 46) _) _
          simp only [Act.put, ssA, ssZ, ssS]
          refine wpAnyH_take (i := 8) (v := ?_) rfl (by kernel_rfl) (by kernel_rfl) (by kernel_rfl) (fun _ _ _ h => h) (Or.inl ⟨by kernel_rfl, ?_⟩) hHeld ?_
          rotate_left
          ·intro w hSw
           (try dsimp only at hSw)
           go_simp
           (try with_reducible rfl)
          change wpAnyH _ _ _ _ _ _ _ (Act.put _ (some 47) _) _
          simp only [Act.put, ssA, ssZ, ssS]
          refine wpAnyH_done (by kernel_rfl) ?_ _
          go_wp2_with fail
          go_meet
          exact ⟨rfl, by repeat (first | exact gr_refl _ _ | refine gr_drewN ?_ _ | refine gr_drew ?_)⟩
       case rest =>
        obtain ⟨rfl, hgq⟩ := hcut
        rename World => wq
        obtain ⟨C, hC⟩ : ∃ C : Int, (osC A B P Q : Int) = C := ⟨_, rfl⟩
        have hCE : C = if EQ = true then 0 else 1 := by
         rw [← hC, ← HCQ.out]
         unfold osC
         by_cases hh : A.getD P 0 = B.getD Q 0
         ·rw [if_pos hh, decide_eq_true hh]; rfl
         ·rw [if_neg hh, decide_eq_false hh]; rfl
        have hCb : 0 ≤ C ∧ C ≤ 1 := by rw [hCE]; cases EQ <;> simp
        have HCE := Lib.hid hCE
        have HC := Lib.hid hC
        clear hCE hC
        go_upto_if 47 with fail
        go_cut [9] (fun s w2 => s = .int .i64 C ∧ wq = w2)
        case first =>
         as_aux_lemma =>
          cases EQ
          ·obtain rfl : C = 1 := HCE.out
           go_wp2_with fail
           go_meet
           exact ⟨rfl, rfl⟩
          ·obtain rfl : C = 0 := HCE.out
           go_wp2_with fail
           go_meet
           exact ⟨rfl, rfl⟩
        case rest =>
         obtain ⟨rfl, rfl⟩ := hcut
         have hG2 := gr_trans hgx hgq
         have hown1 : LFrom wo.heap.size wq (.slice (some ⟨wo.heap.size, 0, none⟩) (M + 1) (M + 1)) (M + 1) L := ownsRow_grown HOW.out hgq
         have hbq := hbl.grown hG2 (by simp)
         have hL2q : LFrom (w.heap.size + 1) wq (.slice (some ⟨g2, 0, none⟩) (M + 1) y2) (M + 1) L2 := ownsRow_grown hL2x.out hG2
         obtain ⟨c0, c1, c2⟩ := blk_cells3 hbq
         have hPI := HPI.out
         have hQK := HKE.out
         have k1 := hL2q.at_ K (by omega)
         have k3 := hL2q.at_ Q (by omega)
         have k2 := hown1.at_ Q (by omega)
         rw [hv2 K (by omega)] at k1
         rw [hv2 Q (by omega)] at k3
         rw [HL.out Q (by omega)] at k2
         have ho3 : (os3 A B P Q : Int) = min (min ((osa A B P K : Int) + 1) ((osa A B I Q : Int) + 1)) ((osa A B P Q : Int) + C) := by
          rw [← HC.out, HPI.out, ← HKE.out]; unfold os3; omega
         have b1 := HOB.out P K
         have b2 := HOB.out I Q
         have b3 := HOB.out P Q
         have HO3 := Lib.hid ho3
         obtain ⟨X1, hX1⟩ : ∃ x : Int, (osa A B P K : Int) = x := ⟨_, rfl⟩
         obtain ⟨X2, hX2⟩ : ∃ x : Int, (osa A B I Q : Int) = x := ⟨_, rfl⟩
         obtain ⟨X3, hX3⟩ : ∃ x : Int, (osa A B P Q : Int) = x := ⟨_, rfl⟩
         have d1 : 0 ≤ X1 ∧ X1 ≤ 300 := by omega
         have d2 : 0 ≤ X2 ∧ X2 ≤ 300 := by omega
         have d3 : 0 ≤ X3 ∧ X3 ≤ 300 := by omega
         rw [hX1] at k1 HO3
         rw [hX2] at k2 HO3
         rw [hX3] at k3 HO3
         clear hX1 hX2 hX3 ho3 b1 b2 b3
         have w1 : IntKind.i64.wrap (X1 + 1) = X1 + 1 := IntWalk.i64_in _ ⟨by omega, by omega⟩
         have w2 : IntKind.i64.wrap (X2 + 1) = X2 + 1 := IntWalk.i64_in _ ⟨by omega, by omega⟩
         have w3 : IntKind.i64.wrap (X3 + C) = X3 + C := IntWalk.i64_in _ ⟨by omega, by omega⟩
         have hKw : IntKind.i64.wrap ((K : Int) - 1) = (Q : Int) := hQ1
         have hKw2 : IntKind.i64.wrap (K : Int) = (K : Int) := IntWalk.i64_in _ ⟨by omega, by omega⟩
         have hKm : (K : Int) < (M : Int) + 1 := by omega
         have hQm1 : (Q : Int) < (M : Int) + 1 := by omega
         have hK00 : (0 : Int) ≤ (K : Int) := by omega
         have hKnn : K < M + 1 := by omega
         have hQnn : Q < M + 1 := by omega
         have z0 : wq.drew.cell? ⟨w.heap.size, 0, none⟩ = _ := c0
         have z1 : wq.drew.cell? ⟨w.heap.size, 1, none⟩ = _ := c1
         have z2 : wq.drew.cell? ⟨w.heap.size, 2, none⟩ = _ := c2
         have z3 : wq.drew.cell? ⟨g2, K, none⟩ = _ := k1
         have z4 : wq.drew.cell? ⟨g2, Q, none⟩ = _ := k3
         have z5 : wq.drew.cell? ⟨wo.heap.size, Q, none⟩ = _ := k2
         have kk := hown1.at_ K (by omega)
         have z6 : wq.drew.cell? ⟨wo.heap.size, K, none⟩ = _ := kk
         have hs3 := (World.ownsRow.stored (show World.ownsRow wq wo.heap.size 3 1 (.slice (some ⟨wo.heap.size, 0, none⟩) (M + 1) (M + 1)) (M + 1) (L.map (Value.int .i64)) from hown1) K (.int .i64 (if X3 + C < if X2 < X1 then X2 + 1 else X1 + 1 then X3 + C else if X2 < X1 then X2 + 1 else X1 + 1))).1
         have hfz : wq.drew.frozen? ⟨wo.heap.size, K, none⟩ = false := World.ownsRow.frozenAt (show wq.ownsRow wo.heap.size 3 1 (.slice (some ⟨wo.heap.size, 0, none⟩) (M + 1) (M + 1)) (M + 1) (L.map (Value.int .i64)) from hown1) K
         rw [← List.map_set] at hs3
         have HS3 := Lib.hid (ownsRow_grown hs3 (gr_drew (gr_refl _ none)))
         have hGW : wo.grownBy (wq.setCell ⟨wo.heap.size, K, none⟩ (.int .i64 (if X3 + C < if X2 < X1 then X2 + 1 else X1 + 1 then X3 + C else if X2 < X1 then X2 + 1 else X1 + 1))).drew none := gr_drew (gr_put hG2 (.inr (Nat.le_refl _)) _)
         have HO4 : Hid ((os3 A B P Q : Int) = (if X3 + C < if X2 < X1 then X2 + 1 else X1 + 1 then X3 + C else if X2 < X1 then X2 + 1 else X1 + 1)) := by
          show _ = _
          rw [HO3.out]
          split <;> split <;> omega
         clear hs3 hown1 hL2q hPI hQK
         go_wp2_with fail
         go_still_tail 24, (by kernel_rfl)
         change wpList _ _ _ _ _ wq.drew
         go_upto_region 17 with fail
         obtain ⟨x, hxe⟩ : ∃ x, (if X3 + C < if X2 < X1 then X2 + 1 else X1 + 1 then X3 + C else if X2 < X1 then X2 + 1 else X1 + 1) = x := ⟨_, rfl⟩
         rw [hxe] at HS3 hGW HO4 ⊢
         have hxb : 0 ≤ x ∧ x ≤ 301 := by rw [← hxe]; split <;> split <;> omega
         clear hxe z0 z1 z2 z3 z4 z5 z6 c0 c1 c2 k1 k2 k3 kk hfz w1 w2 w3 d1 d2 d3 HO3
         generalize (wq.setCell ⟨wo.heap.size, K, none⟩ (.int .i64 x)).drew = W5 at *
         have hPI := HPI.out
         have HPI2 := Lib.hid hPI
         clear hPI
         go_cut [99] (fun s w2 => s = .bool (osX A B P Q) ∧ W5.grownBy w2 none)
         case first =>
          as_aux_lemma =>
           have hPI := HPI.out
           rcases Nat.eq_zero_or_pos P with p0 | p0
           ·have hX : osX A B P Q = false := by unfold osX; rw [decide_eq_false (show ¬ 1 ≤ P by omega)]; rfl
            have HX := Lib.hid hX
            have hp1 : ¬ (1 : Int) < (I : Int) := by omega
            have hp2 : decide ((1 : Int) < (I : Int)) = false := decide_eq_false hp1
            have hp3 : ¬ (0 : Int) < (P : Int) := by omega
            clear hX p0 hPI
            refine wp_region_held_drew (S := fun _ => True) (by kernel_rfl) trivial (fun hHeld => ?_)
            refine wpAnyH_take (i := 0) (v := ?_) rfl (by kernel_rfl) (by kernel_rfl) (by kernel_rfl) (fun _ _ _ h => h) (Or.inl ⟨by kernel_rfl, ?_⟩) hHeld ?_
            rotate_left
            ·intro w hSw
             (try dsimp only at hSw)
             go_simp
             (try with_reducible rfl)
            change wpAnyH _ _ _ _ _ _ _ (Act.put _ (some 72) _) _
            simp only [Act.put, ssA, ssZ, ssS]
            refine wpAnyH_take (i := 1) (v := ?_) rfl (by kernel_rfl) (by kernel_rfl) (by kernel_rfl) (fun _ _ _ h => h) (Or.inl ⟨by kernel_rfl, ?_⟩) hHeld ?_
            rotate_left
            ·intro w hSw
             (try dsimp only at hSw)
             go_simp
             (try with_reducible rfl)
            change wpAnyH _ _ _ _ _ _ _ (Act.put _ (some 73) _) _
            simp only [Act.put, ssA, ssZ, ssS]
            refine wpAnyH_take (i := 2) (v := ?_) rfl (by kernel_rfl) (by kernel_rfl) (by kernel_rfl) (fun _ _ _ h => h) (Or.inl ⟨by kernel_rfl, ?_⟩) hHeld ?_
            rotate_left
            ·intro w hSw
             (try dsimp only at hSw)
             go_simp
             (try with_reducible rfl)
            change wpAnyH _ _ _ _ _ _ _ (Act.put _ (some 74) _) _
            simp only [Act.put, ssA, ssZ, ssS]
            refine wpAnyH_take (i := 3) (v := undef) rfl (by kernel_rfl) (by kernel_rfl) (by kernel_rfl) (fun _ _ _ h => h) (Or.inr ⟨by kernel_rfl, rfl⟩) hHeld ?_
            change wpAnyH _ _ _ _ _ _ _ (Act.put _ (some 75) _) _
            simp only [Act.put, ssA, ssZ, ssS]
            refine wpAnyH_take (i := 4) (v := undef) rfl (by kernel_rfl) (by kernel_rfl) (by kernel_rfl) (fun _ _ _ h => h) (Or.inr ⟨by kernel_rfl, rfl⟩) hHeld ?_
            change wpAnyH _ _ _ _ _ _ _ (Act.put _ (some 76) _) _
            simp only [Act.put, ssA, ssZ, ssS]
            refine wpAnyH_take (i := 5) (v := ?_) rfl (by kernel_rfl) (by kernel_rfl) (by kernel_rfl) (fun _ _ _ h => h) (Or.inl ⟨by kernel_rfl, ?_⟩) hHeld ?_
            rotate_left
            ·intro w hSw
             (try dsimp only at hSw)
             go_simp
             (try with_reducible rfl)
            change wpAnyH _ _ _ _ _ _ _ (Act.put _ (some 77) _) _
            simp only [Act.put, ssA, ssZ, ssS]
            refine wpAnyH_take (i := 6) (v := ?_) rfl (by kernel_rfl) (by kernel_rfl) (by kernel_rfl) (fun _ _ _ h => h) (Or.inl ⟨by kernel_rfl, ?_⟩) hHeld ?_
            rotate_left
            ·intro w hSw
             (try dsimp only at hSw)
             go_simp
             (try with_reducible rfl)
            change wpAnyH _ _ _ _ _ _ _ (Act.put _ (some 78) _) _
            simp only [Act.put, ssA, ssZ, ssS]
            refine wpAnyH_take (i := 7) (v := undef) rfl (by kernel_rfl) (by kernel_rfl) (by kernel_rfl) (fun _ _ _ h => h) (Or.inr ⟨by kernel_rfl, rfl⟩) hHeld ?_
            change wpAnyH _ _ _ _ _ _ _ (Act.put _ (some 79) _) _
            simp only [Act.put, ssA, ssZ, ssS]
            refine wpAnyH_take (i := 8) (v := undef) rfl (by kernel_rfl) (by kernel_rfl) (by kernel_rfl) (fun _ _ _ h => h) (Or.inr ⟨by kernel_rfl, rfl⟩) hHeld ?_
            change wpAnyH _ _ _ _ _ _ _ (Act.put _ (some 80) _) _
            simp only [Act.put, ssA, ssZ, ssS]
            refine wpAnyH_take (i := 9) (v := undef) rfl (by kernel_rfl) (by kernel_rfl) (by kernel_rfl) (fun _ _ _ h => h) (Or.inr ⟨by kernel_rfl, rfl⟩) hHeld ?_
            change wpAnyH _ _ _ _ _ _ _ (Act.put _ (some 81) _) _
            simp only [Act.put, ssA, ssZ, ssS]
            refine wpAnyH_take (i := 10) (v := undef) rfl (by kernel_rfl) (by kernel_rfl) (by kernel_rfl) (fun _ _ _ h => h) (Or.inr ⟨by kernel_rfl, rfl⟩) hHeld ?_
            change wpAnyH _ _ _ _ _ _ _ (Act.put _ (some 82) _) _
            simp only [Act.put, ssA, ssZ, ssS]
            refine wpAnyH_take (i := 11) (v := undef) rfl (by kernel_rfl) (by kernel_rfl) (by kernel_rfl) (fun _ _ _ h => h) (Or.inr ⟨by kernel_rfl, rfl⟩) hHeld ?_
            change wpAnyH _ _ _ _ _ _ _ (Act.put _ (some 83) _) _
            simp only [Act.put, ssA, ssZ, ssS]
            refine wpAnyH_take (i := 12) (v := undef) rfl (by kernel_rfl) (by kernel_rfl) (by kernel_rfl) (fun _ _ _ h => h) (Or.inr ⟨by kernel_rfl, rfl⟩) hHeld ?_
            change wpAnyH _ _ _ _ _ _ _ (Act.put _ (some 84) _) _
            simp only [Act.put, ssA, ssZ, ssS]
            refine wpAnyH_take (i := 13) (v := undef) rfl (by kernel_rfl) (by kernel_rfl) (by kernel_rfl) (fun _ _ _ h => h) (Or.inr ⟨by kernel_rfl, rfl⟩) hHeld ?_
            change wpAnyH _ _ _ _ _ _ _ (Act.put _ (some 85) _) _
            simp only [Act.put, ssA, ssZ, ssS]
            refine wpAnyH_take (i := 14) (v := undef) rfl (by kernel_rfl) (by kernel_rfl) (by kernel_rfl) (fun _ _ _ h => h) (Or.inr ⟨by kernel_rfl, rfl⟩) hHeld ?_
            change wpAnyH _ _ _ _ _ _ _ (Act.put _ (some 86) _) _
            simp only [Act.put, ssA, ssZ, ssS]
            refine wpAnyH_take (i := 15) (v := undef) rfl (by kernel_rfl) (by kernel_rfl) (by kernel_rfl) (fun _ _ _ h => h) (Or.inr ⟨by kernel_rfl, rfl⟩) hHeld ?_
            change wpAnyH _ _ _ _ _ _ _ (Act.put _ (some 87) _) _
            simp only [Act.put, ssA, ssZ, ssS]
            refine wpAnyH_take (i := 16) (v := ?_) rfl (by kernel_rfl) (by kernel_rfl) (by kernel_rfl) (fun _ _ _ h => h) (Or.inl ⟨by kernel_rfl, ?_⟩) hHeld ?_
            rotate_left
            ·intro w hSw
             (try dsimp only at hSw)
             go_simp
             (try with_reducible rfl)
            change wpAnyH _ _ _ _ _ _ _ (Act.put _ (some 88) _) _
            simp only [Act.put, ssA, ssZ, ssS]
            refine wpAnyH_take (i := 17) (v := ?_) rfl (by kernel_rfl) (by kernel_rfl) (by kernel_rfl) (fun _ _ _ h => h) (Or.inl ⟨by kernel_rfl, ?_⟩) hHeld ?_
            rotate_left
            ·intro w hSw
             (try dsimp only at hSw)
             go_simp
             (try with_reducible rfl)
            change wpAnyH _ _ _ _ _ _ _ (Act.put _ (some 89) _) _
            simp only [Act.put, ssA, ssZ, ssS]
            refine wpAnyH_take (i := 18) (v := undef) rfl (by kernel_rfl) (by kernel_rfl) (by kernel_rfl) (fun _ _ _ h => h) (Or.inr ⟨by kernel_rfl, rfl⟩) hHeld ?_
            change wpAnyH _ _ _ _ _ _ _ (Act.put _ (some 90) _) _
            simp only [Act.put, ssA, ssZ, ssS]
            refine wpAnyH_take (i := 19) (v := undef) rfl (by kernel_rfl) (by kernel_rfl) (by kernel_rfl) (fun _ _ _ h => h) (Or.inr ⟨by kernel_rfl, rfl⟩) hHeld ?_
            change wpAnyH _ _ _ _ _ _ _ (Act.put _ (some 91) _) _
            simp only [Act.put, ssA, ssZ, ssS]
            refine wpAnyH_take (i := 20) (v := undef) rfl (by kernel_rfl) (by kernel_rfl) (by kernel_rfl) (fun _ _ _ h => h) (Or.inr ⟨by kernel_rfl, rfl⟩) hHeld ?_
            change wpAnyH _ _ _ _ _ _ _ (Act.put _ (some 92) _) _
            simp only [Act.put, ssA, ssZ, ssS]
            refine wpAnyH_take (i := 21) (v := undef) rfl (by kernel_rfl) (by kernel_rfl) (by kernel_rfl) (fun _ _ _ h => h) (Or.inr ⟨by kernel_rfl, rfl⟩) hHeld ?_
            change wpAnyH _ _ _ _ _ _ _ (Act.put _ (some 93) _) _
            simp only [Act.put, ssA, ssZ, ssS]
            refine wpAnyH_take (i := 22) (v := undef) rfl (by kernel_rfl) (by kernel_rfl) (by kernel_rfl) (fun _ _ _ h => h) (Or.inr ⟨by kernel_rfl, rfl⟩) hHeld ?_
            change wpAnyH _ _ _ _ _ _ _ (Act.put _ (some 94) _) _
            simp only [Act.put, ssA, ssZ, ssS]
            refine wpAnyH_take (i := 23) (v := undef) rfl (by kernel_rfl) (by kernel_rfl) (by kernel_rfl) (fun _ _ _ h => h) (Or.inr ⟨by kernel_rfl, rfl⟩) hHeld ?_
            change wpAnyH _ _ _ _ _ _ _ (Act.put _ (some 95) _) _
            simp only [Act.put, ssA, ssZ, ssS]
            refine wpAnyH_take (i := 24) (v := undef) rfl (by kernel_rfl) (by kernel_rfl) (by kernel_rfl) (fun _ _ _ h => h) (Or.inr ⟨by kernel_rfl, rfl⟩) hHeld ?_
            change wpAnyH _ _ _ _ _ _ _ (Act.put _ (some 96) _) _
            simp only [Act.put, ssA, ssZ, ssS]
            refine wpAnyH_take (i := 25) (v := undef) rfl (by kernel_rfl) (by kernel_rfl) (by kernel_rfl) (fun _ _ _ h => h) (Or.inr ⟨by kernel_rfl, rfl⟩) hHeld ?_
            change wpAnyH _ _ _ _ _ _ _ (Act.put _ (some 97) _) _
            simp only [Act.put, ssA, ssZ, ssS]
            refine wpAnyH_take (i := 26) (v := undef) rfl (by kernel_rfl) (by kernel_rfl) (by kernel_rfl) (fun _ _ _ h => h) (Or.inr ⟨by kernel_rfl, rfl⟩) hHeld ?_
            change wpAnyH _ _ _ _ _ _ _ (Act.put _ (some 98) _) _
            simp only [Act.put, ssA, ssZ, ssS]
            refine wpAnyH_take (i := 27) (v := ?_) rfl (by kernel_rfl) (by kernel_rfl) (by kernel_rfl) (fun _ _ _ h => h) (Or.inl ⟨by kernel_rfl, ?_⟩) hHeld ?_
            rotate_left
            ·intro w hSw
             (try dsimp only at hSw)
             go_simp
             (try with_reducible rfl)
            change wpAnyH _ _ _ _ _ _ _ (Act.put _ (some 99) _) _
            simp only [Act.put, ssA, ssZ, ssS]
            refine wpAnyH_done (by kernel_rfl) ?_ _
            go_wp2_with fail
            go_meet
            exact ⟨by rw [HX.out], gr_drew (gr_refl _ none)⟩
           ·have hp1 : (1 : Int) < (I : Int) := by omega
            have hp3 : (0 : Int) < (P : Int) := by omega
            rcases Nat.eq_zero_or_pos Q with q0 | q0
            ·have hX : osX A B P Q = false := by unfold osX; rw [decide_eq_false (show ¬ 1 ≤ Q by omega), Bool.and_false]; rfl
             have HX := Lib.hid hX
             have hk1 : ¬ (1 : Int) < (K : Int) := by have := HKE.out; omega
             clear hX q0 hPI
             refine wp_region_held_drew (S := fun _ => True) (by kernel_rfl) trivial (fun hHeld => ?_)
             refine wpAnyH_take (i := 0) (v := ?_) rfl (by kernel_rfl) (by kernel_rfl) (by kernel_rfl) (fun _ _ _ h => h) (Or.inl ⟨by kernel_rfl, ?_⟩) hHeld ?_
             rotate_left
             ·intro w hSw
              (try dsimp only at hSw)
              go_simp
              (try with_reducible rfl)
             change wpAnyH _ _ _ _ _ _ _ (Act.put _ (some 72) _) _
             simp only [Act.put, ssA, ssZ, ssS]
             refine wpAnyH_take (i := 1) (v := ?_) rfl (by kernel_rfl) (by kernel_rfl) (by kernel_rfl) (fun _ _ _ h => h) (Or.inl ⟨by kernel_rfl, ?_⟩) hHeld ?_
             rotate_left
             ·intro w hSw
              (try dsimp only at hSw)
              go_simp
              (try with_reducible rfl)
             change wpAnyH _ _ _ _ _ _ _ (Act.put _ (some 73) _) _
             simp only [Act.put, ssA, ssZ, ssS]
             refine wpAnyH_take (i := 2) (v := ?_) rfl (by kernel_rfl) (by kernel_rfl) (by kernel_rfl) (fun _ _ _ h => h) (Or.inl ⟨by kernel_rfl, ?_⟩) hHeld ?_
             rotate_left
             ·intro w hSw
              (try dsimp only at hSw)
              go_simp
              (try with_reducible rfl)
             change wpAnyH _ _ _ _ _ _ _ (Act.put _ (some 74) _) _
             simp only [Act.put, ssA, ssZ, ssS]
             refine wpAnyH_take (i := 3) (v := ?_) rfl (by kernel_rfl) (by kernel_rfl) (by kernel_rfl) (fun _ _ _ h => h) (Or.inl ⟨by kernel_rfl, ?_⟩) hHeld ?_
             rotate_left
             ·intro w hSw
              (try dsimp only at hSw)
              go_simp
              (try with_reducible rfl)
             change wpAnyH _ _ _ _ _ _ _ (Act.put _ (some 75) _) _
             simp only [Act.put, ssA, ssZ, ssS]
             refine wpAnyH_take (i := 4) (v := ?_) rfl (by kernel_rfl) (by kernel_rfl) (by kernel_rfl) (fun _ _ _ h => h) (Or.inl ⟨by kernel_rfl, ?_⟩) hHeld ?_
             rotate_left
             ·intro w hSw
              (try dsimp only at hSw)
              go_simp
              (try with_reducible rfl)
             change wpAnyH _ _ _ _ _ _ _ (Act.put _ (some 76) _) _
             simp only [Act.put, ssA, ssZ, ssS]
             refine wpAnyH_take (i := 5) (v := ?_) rfl (by kernel_rfl) (by kernel_rfl) (by kernel_rfl) (fun _ _ _ h => h) (Or.inl ⟨by kernel_rfl, ?_⟩) hHeld ?_
             rotate_left
             ·intro w hSw
              (try dsimp only at hSw)
              go_simp
              (try with_reducible rfl)
             change wpAnyH _ _ _ _ _ _ _ (Act.put _ (some 77) _) _
             simp only [Act.put, ssA, ssZ, ssS]
             refine wpAnyH_take (i := 6) (v := ?_) rfl (by kernel_rfl) (by kernel_rfl) (by kernel_rfl) (fun _ _ _ h => h) (Or.inl ⟨by kernel_rfl, ?_⟩) hHeld ?_
             rotate_left
             ·intro w hSw
              (try dsimp only at hSw)
              go_simp
              (try with_reducible rfl)
             change wpAnyH _ _ _ _ _ _ _ (Act.put _ (some 78) _) _
             simp only [Act.put, ssA, ssZ, ssS]
             refine wpAnyH_take (i := 7) (v := undef) rfl (by kernel_rfl) (by kernel_rfl) (by kernel_rfl) (fun _ _ _ h => h) (Or.inr ⟨by kernel_rfl, rfl⟩) hHeld ?_
             change wpAnyH _ _ _ _ _ _ _ (Act.put _ (some 79) _) _
             simp only [Act.put, ssA, ssZ, ssS]
             refine wpAnyH_take (i := 8) (v := undef) rfl (by kernel_rfl) (by kernel_rfl) (by kernel_rfl) (fun _ _ _ h => h) (Or.inr ⟨by kernel_rfl, rfl⟩) hHeld ?_
             change wpAnyH _ _ _ _ _ _ _ (Act.put _ (some 80) _) _
             simp only [Act.put, ssA, ssZ, ssS]
             refine wpAnyH_take (i := 9) (v := undef) rfl (by kernel_rfl) (by kernel_rfl) (by kernel_rfl) (fun _ _ _ h => h) (Or.inr ⟨by kernel_rfl, rfl⟩) hHeld ?_
             change wpAnyH _ _ _ _ _ _ _ (Act.put _ (some 81) _) _
             simp only [Act.put, ssA, ssZ, ssS]
             refine wpAnyH_take (i := 10) (v := undef) rfl (by kernel_rfl) (by kernel_rfl) (by kernel_rfl) (fun _ _ _ h => h) (Or.inr ⟨by kernel_rfl, rfl⟩) hHeld ?_
             change wpAnyH _ _ _ _ _ _ _ (Act.put _ (some 82) _) _
             simp only [Act.put, ssA, ssZ, ssS]
             refine wpAnyH_take (i := 11) (v := undef) rfl (by kernel_rfl) (by kernel_rfl) (by kernel_rfl) (fun _ _ _ h => h) (Or.inr ⟨by kernel_rfl, rfl⟩) hHeld ?_
             change wpAnyH _ _ _ _ _ _ _ (Act.put _ (some 83) _) _
             simp only [Act.put, ssA, ssZ, ssS]
             refine wpAnyH_take (i := 12) (v := undef) rfl (by kernel_rfl) (by kernel_rfl) (by kernel_rfl) (fun _ _ _ h => h) (Or.inr ⟨by kernel_rfl, rfl⟩) hHeld ?_
             change wpAnyH _ _ _ _ _ _ _ (Act.put _ (some 84) _) _
             simp only [Act.put, ssA, ssZ, ssS]
             refine wpAnyH_take (i := 13) (v := undef) rfl (by kernel_rfl) (by kernel_rfl) (by kernel_rfl) (fun _ _ _ h => h) (Or.inr ⟨by kernel_rfl, rfl⟩) hHeld ?_
             change wpAnyH _ _ _ _ _ _ _ (Act.put _ (some 85) _) _
             simp only [Act.put, ssA, ssZ, ssS]
             refine wpAnyH_take (i := 14) (v := undef) rfl (by kernel_rfl) (by kernel_rfl) (by kernel_rfl) (fun _ _ _ h => h) (Or.inr ⟨by kernel_rfl, rfl⟩) hHeld ?_
             change wpAnyH _ _ _ _ _ _ _ (Act.put _ (some 86) _) _
             simp only [Act.put, ssA, ssZ, ssS]
             refine wpAnyH_take (i := 15) (v := undef) rfl (by kernel_rfl) (by kernel_rfl) (by kernel_rfl) (fun _ _ _ h => h) (Or.inr ⟨by kernel_rfl, rfl⟩) hHeld ?_
             change wpAnyH _ _ _ _ _ _ _ (Act.put _ (some 87) _) _
             simp only [Act.put, ssA, ssZ, ssS]
             refine wpAnyH_take (i := 16) (v := ?_) rfl (by kernel_rfl) (by kernel_rfl) (by kernel_rfl) (fun _ _ _ h => h) (Or.inl ⟨by kernel_rfl, ?_⟩) hHeld ?_
             rotate_left
             ·intro w hSw
              (try dsimp only at hSw)
              go_simp
              (try with_reducible rfl)
             change wpAnyH _ _ _ _ _ _ _ (Act.put _ (some 88) _) _
             simp only [Act.put, ssA, ssZ, ssS]
             refine wpAnyH_take (i := 17) (v := ?_) rfl (by kernel_rfl) (by kernel_rfl) (by kernel_rfl) (fun _ _ _ h => h) (Or.inl ⟨by kernel_rfl, ?_⟩) hHeld ?_
             rotate_left
             ·intro w hSw
              (try dsimp only at hSw)
              go_simp
              (try with_reducible rfl)
             change wpAnyH _ _ _ _ _ _ _ (Act.put _ (some 89) _) _
             simp only [Act.put, ssA, ssZ, ssS]
             refine wpAnyH_take (i := 18) (v := undef) rfl (by kernel_rfl) (by kernel_rfl) (by kernel_rfl) (fun _ _ _ h => h) (Or.inr ⟨by kernel_rfl, rfl⟩) hHeld ?_
             change wpAnyH _ _ _ _ _ _ _ (Act.put _ (some 90) _) _
             simp only [Act.put, ssA, ssZ, ssS]
             refine wpAnyH_take (i := 19) (v := undef) rfl (by kernel_rfl) (by kernel_rfl) (by kernel_rfl) (fun _ _ _ h => h) (Or.inr ⟨by kernel_rfl, rfl⟩) hHeld ?_
             change wpAnyH _ _ _ _ _ _ _ (Act.put _ (some 91) _) _
             simp only [Act.put, ssA, ssZ, ssS]
             refine wpAnyH_take (i := 20) (v := undef) rfl (by kernel_rfl) (by kernel_rfl) (by kernel_rfl) (fun _ _ _ h => h) (Or.inr ⟨by kernel_rfl, rfl⟩) hHeld ?_
             change wpAnyH _ _ _ _ _ _ _ (Act.put _ (some 92) _) _
             simp only [Act.put, ssA, ssZ, ssS]
             refine wpAnyH_take (i := 21) (v := undef) rfl (by kernel_rfl) (by kernel_rfl) (by kernel_rfl) (fun _ _ _ h => h) (Or.inr ⟨by kernel_rfl, rfl⟩) hHeld ?_
             change wpAnyH _ _ _ _ _ _ _ (Act.put _ (some 93) _) _
             simp only [Act.put, ssA, ssZ, ssS]
             refine wpAnyH_take (i := 22) (v := undef) rfl (by kernel_rfl) (by kernel_rfl) (by kernel_rfl) (fun _ _ _ h => h) (Or.inr ⟨by kernel_rfl, rfl⟩) hHeld ?_
             change wpAnyH _ _ _ _ _ _ _ (Act.put _ (some 94) _) _
             simp only [Act.put, ssA, ssZ, ssS]
             refine wpAnyH_take (i := 23) (v := undef) rfl (by kernel_rfl) (by kernel_rfl) (by kernel_rfl) (fun _ _ _ h => h) (Or.inr ⟨by kernel_rfl, rfl⟩) hHeld ?_
             change wpAnyH _ _ _ _ _ _ _ (Act.put _ (some 95) _) _
             simp only [Act.put, ssA, ssZ, ssS]
             refine wpAnyH_take (i := 24) (v := undef) rfl (by kernel_rfl) (by kernel_rfl) (by kernel_rfl) (fun _ _ _ h => h) (Or.inr ⟨by kernel_rfl, rfl⟩) hHeld ?_
             change wpAnyH _ _ _ _ _ _ _ (Act.put _ (some 96) _) _
             simp only [Act.put, ssA, ssZ, ssS]
             refine wpAnyH_take (i := 25) (v := undef) rfl (by kernel_rfl) (by kernel_rfl) (by kernel_rfl) (fun _ _ _ h => h) (Or.inr ⟨by kernel_rfl, rfl⟩) hHeld ?_
             change wpAnyH _ _ _ _ _ _ _ (Act.put _ (some 97) _) _
             simp only [Act.put, ssA, ssZ, ssS]
             refine wpAnyH_take (i := 26) (v := undef) rfl (by kernel_rfl) (by kernel_rfl) (by kernel_rfl) (fun _ _ _ h => h) (Or.inr ⟨by kernel_rfl, rfl⟩) hHeld ?_
             change wpAnyH _ _ _ _ _ _ _ (Act.put _ (some 98) _) _
             simp only [Act.put, ssA, ssZ, ssS]
             refine wpAnyH_take (i := 27) (v := ?_) rfl (by kernel_rfl) (by kernel_rfl) (by kernel_rfl) (fun _ _ _ h => h) (Or.inl ⟨by kernel_rfl, ?_⟩) hHeld ?_
             rotate_left
             ·intro w hSw
              (try dsimp only at hSw)
              go_simp
              (try with_reducible rfl)
             change wpAnyH _ _ _ _ _ _ _ (Act.put _ (some 99) _) _
             simp only [Act.put, ssA, ssZ, ssS]
             refine wpAnyH_done (by kernel_rfl) ?_ _
             go_wp2_with fail
             go_meet
             exact ⟨by rw [HX.out], gr_drew (gr_refl _ none)⟩
            ·have hk1 : (1 : Int) < (K : Int) := by have := HKE.out; omega
             obtain ⟨S, hS⟩ : ∃ S, P = S + 1 := ⟨P - 1, by omega⟩
             obtain ⟨R, hR⟩ : ∃ R, Q = R + 1 := ⟨Q - 1, by omega⟩
             have hSa : S < a.size := by omega
             have hRb : R < b.size := by omega
             have e1 := bytes_at_eq a b P R hPa hRb
             have e2 := bytes_at_eq a b S Q hSa hQb
             obtain ⟨E1, hE1⟩ : ∃ e, ((a[P].toNat : Int) == (b[R].toNat : Int)) = e := ⟨_, rfl⟩
             obtain ⟨E2, hE2⟩ : ∃ e, ((a[S].toNat : Int) == (b[Q].toNat : Int)) = e := ⟨_, rfl⟩
             rw [hE1] at e1
             rw [hE2] at e2
             rw [HAA.out, HBB.out] at e1 e2
             have hX : osX A B P Q = (E1 && E2) := by
              unfold osX
              rw [decide_eq_true (show 1 ≤ P by omega), decide_eq_true (show 1 ≤ Q by omega), show P - 1 = S by omega, show Q - 1 = R by omega, e1, e2]
              rfl
             have HX := Lib.hid hX
             have hSw : IntKind.i64.wrap (S : Int) = (S : Int) := IntWalk.i64_in _ ⟨by omega, by omega⟩
             have hRw : IntKind.i64.wrap (R : Int) = (R : Int) := IntWalk.i64_in _ ⟨by omega, by omega⟩
             have hS0 : (0 : Int) ≤ (S : Int) := by omega
             have hR0 : (0 : Int) ≤ (R : Int) := by omega
             have hSN : (S : Int) < (N : Int) := by omega
             have hRM : (R : Int) < (M : Int) := by omega
             have hKR : IntKind.i64.wrap ((K : Int) - 2) = (R : Int) := by
              have := HKE.out
              rw [show (K : Int) - 2 = (R : Int) by omega]; exact hRw
             have hPS1 : IntKind.i64.wrap ((I : Int) - 2) = (S : Int) := by
              rw [show (I : Int) - 2 = (S : Int) by omega]; exact hSw
             have hPS2 : IntKind.i64.wrap ((P : Int) - 1) = (S : Int) := by
              rw [show (P : Int) - 1 = (S : Int) by omega]; exact hSw
             clear hX e1 e2 hS hR p0 q0 hPI
             cases E1
             ·clear hE2
              refine wp_region_held_drew (S := fun _ => True) (by kernel_rfl) trivial (fun hHeld => ?_)
              refine wpAnyH_take (i := 0) (v := ?_) rfl (by kernel_rfl) (by kernel_rfl) (by kernel_rfl) (fun _ _ _ h => h) (Or.inl ⟨by kernel_rfl, ?_⟩) hHeld ?_
              rotate_left
              ·intro w hSw
               (try dsimp only at hSw)
               go_simp
               (try with_reducible rfl)
              change wpAnyH _ _ _ _ _ _ _ (Act.put _ (some 72) _) _
              simp only [Act.put, ssA, ssZ, ssS]
              refine wpAnyH_take (i := 1) (v := ?_) rfl (by kernel_rfl) (by kernel_rfl) (by kernel_rfl) (fun _ _ _ h => h) (Or.inl ⟨by kernel_rfl, ?_⟩) hHeld ?_
              rotate_left
              ·intro w hSw
               (try dsimp only at hSw)
               go_simp
               (try with_reducible rfl)
              change wpAnyH _ _ _ _ _ _ _ (Act.put _ (some 73) _) _
              simp only [Act.put, ssA, ssZ, ssS]
              refine wpAnyH_take (i := 2) (v := ?_) rfl (by kernel_rfl) (by kernel_rfl) (by kernel_rfl) (fun _ _ _ h => h) (Or.inl ⟨by kernel_rfl, ?_⟩) hHeld ?_
              rotate_left
              ·intro w hSw
               (try dsimp only at hSw)
               go_simp
               (try with_reducible rfl)
              change wpAnyH _ _ _ _ _ _ _ (Act.put _ (some 74) _) _
              simp only [Act.put, ssA, ssZ, ssS]
              refine wpAnyH_take (i := 3) (v := ?_) rfl (by kernel_rfl) (by kernel_rfl) (by kernel_rfl) (fun _ _ _ h => h) (Or.inl ⟨by kernel_rfl, ?_⟩) hHeld ?_
              rotate_left
              ·intro w hSw
               (try dsimp only at hSw)
               go_simp
               (try with_reducible rfl)
              change wpAnyH _ _ _ _ _ _ _ (Act.put _ (some 75) _) _
              simp only [Act.put, ssA, ssZ, ssS]
              refine wpAnyH_take (i := 4) (v := ?_) rfl (by kernel_rfl) (by kernel_rfl) (by kernel_rfl) (fun _ _ _ h => h) (Or.inl ⟨by kernel_rfl, ?_⟩) hHeld ?_
              rotate_left
              ·intro w hSw
               (try dsimp only at hSw)
               go_simp
               (try with_reducible rfl)
              change wpAnyH _ _ _ _ _ _ _ (Act.put _ (some 76) _) _
              simp only [Act.put, ssA, ssZ, ssS]
              refine wpAnyH_take (i := 5) (v := ?_) rfl (by kernel_rfl) (by kernel_rfl) (by kernel_rfl) (fun _ _ _ h => h) (Or.inl ⟨by kernel_rfl, ?_⟩) hHeld ?_
              rotate_left
              ·intro w hSw
               (try dsimp only at hSw)
               go_simp
               (try with_reducible rfl)
              change wpAnyH _ _ _ _ _ _ _ (Act.put _ (some 77) _) _
              simp only [Act.put, ssA, ssZ, ssS]
              refine wpAnyH_take (i := 6) (v := ?_) rfl (by kernel_rfl) (by kernel_rfl) (by kernel_rfl) (fun _ _ _ h => h) (Or.inl ⟨by kernel_rfl, ?_⟩) hHeld ?_
              rotate_left
              ·intro w hSw
               (try dsimp only at hSw)
               go_simp
               (try with_reducible rfl)
              change wpAnyH _ _ _ _ _ _ _ (Act.put _ (some 78) _) _
              simp only [Act.put, ssA, ssZ, ssS]
              refine wpAnyH_take (i := 7) (v := ?_) rfl (by kernel_rfl) (by kernel_rfl) (by kernel_rfl) (fun _ _ _ h => h) (Or.inl ⟨by kernel_rfl, ?_⟩) hHeld ?_
              rotate_left
              ·intro w hSw
               (try dsimp only at hSw)
               go_simp
               (try with_reducible rfl)
              change wpAnyH _ _ _ _ _ _ _ (Act.put _ (some 79) _) _
              simp only [Act.put, ssA, ssZ, ssS]
              refine wpAnyH_take (i := 8) (v := ?_) rfl (by kernel_rfl) (by kernel_rfl) (by kernel_rfl) (fun _ _ _ h => h) (Or.inl ⟨by kernel_rfl, ?_⟩) hHeld ?_
              rotate_left
              ·intro w hSw
               (try dsimp only at hSw)
               go_simp
               (try with_reducible rfl)
              change wpAnyH _ _ _ _ _ _ _ (Act.put _ (some 80) _) _
              simp only [Act.put, ssA, ssZ, ssS]
              refine wpAnyH_take (i := 9) (v := ?_) rfl (by kernel_rfl) (by kernel_rfl) (by kernel_rfl) (fun _ _ _ h => h) (Or.inl ⟨by kernel_rfl, ?_⟩) hHeld ?_
              rotate_left
              ·intro w hSw
               (try dsimp only at hSw)
               go_simp
               (try with_reducible rfl)
              change wpAnyH _ _ _ _ _ _ _ (Act.put _ (some 81) _) _
              simp only [Act.put, ssA, ssZ, ssS]
              refine wpAnyH_take (i := 10) (v := ?_) rfl (by kernel_rfl) (by kernel_rfl) (by kernel_rfl) (fun _ _ _ h => h) (Or.inl ⟨by kernel_rfl, ?_⟩) hHeld ?_
              rotate_left
              ·intro w hSw
               (try dsimp only at hSw)
               go_simp
               (try with_reducible rfl)
              change wpAnyH _ _ _ _ _ _ _ (Act.put _ (some 82) _) _
              simp only [Act.put, ssA, ssZ, ssS]
              refine wpAnyH_take (i := 11) (v := ?_) rfl (by kernel_rfl) (by kernel_rfl) (by kernel_rfl) (fun _ _ _ h => h) (Or.inl ⟨by kernel_rfl, ?_⟩) hHeld ?_
              rotate_left
              ·intro w hSw
               (try dsimp only at hSw)
               go_simp
               (try with_reducible rfl)
              change wpAnyH _ _ _ _ _ _ _ (Act.put _ (some 83) _) _
              simp only [Act.put, ssA, ssZ, ssS]
              refine wpAnyH_take (i := 12) (v := ?_) rfl (by kernel_rfl) (by kernel_rfl) (by kernel_rfl) (fun _ _ _ h => h) (Or.inl ⟨by kernel_rfl, ?_⟩) hHeld ?_
              rotate_left
              ·intro w hSw
               (try dsimp only at hSw)
               go_simp
               (try with_reducible rfl)
              change wpAnyH _ _ _ _ _ _ _ (Act.put _ (some 84) _) _
              simp only [Act.put, ssA, ssZ, ssS]
              refine wpAnyH_take (i := 13) (v := ?_) rfl (by kernel_rfl) (by kernel_rfl) (by kernel_rfl) (fun _ _ _ h => h) (Or.inl ⟨by kernel_rfl, ?_⟩) hHeld ?_
              rotate_left
              ·intro w hSw
               (try dsimp only at hSw)
               go_simp
               (try with_reducible rfl)
              change wpAnyH _ _ _ _ _ _ _ (Act.put _ (some 85) _) _
              simp only [Act.put, ssA, ssZ, ssS]
              refine wpAnyH_take (i := 14) (v := ?_) rfl (by kernel_rfl) (by kernel_rfl) (by kernel_rfl) (fun _ _ _ h => h) (Or.inl ⟨by kernel_rfl, ?_⟩) hHeld ?_
              rotate_left
              ·intro w hSw
               (try dsimp only at hSw)
               go_simp
               (try with_reducible rfl)
              change wpAnyH _ _ _ _ _ _ _ (Act.put _ (some 86) _) _
              simp only [Act.put, ssA, ssZ, ssS]
              refine wpAnyH_take (i := 15) (v := ?_) rfl (by kernel_rfl) (by kernel_rfl) (by kernel_rfl) (fun _ _ _ h => h) (Or.inl ⟨by kernel_rfl, ?_⟩) hHeld ?_
              rotate_left
              ·intro w hSw
               (try dsimp only at hSw)
               go_simp
               (try with_reducible rfl)
              change wpAnyH _ _ _ _ _ _ _ (Act.put _ (some 87) _) _
              simp only [Act.put, ssA, ssZ, ssS]
              refine wpAnyH_take (i := 16) (v := ?_) rfl (by kernel_rfl) (by kernel_rfl) (by kernel_rfl) (fun _ _ _ h => h) (Or.inl ⟨by kernel_rfl, ?_⟩) hHeld ?_
              rotate_left
              ·intro w hSw
               (try dsimp only at hSw)
               go_simp
               (try with_reducible rfl)
              change wpAnyH _ _ _ _ _ _ _ (Act.put _ (some 88) _) _
              simp only [Act.put, ssA, ssZ, ssS]
              refine wpAnyH_take (i := 17) (v := ?_) rfl (by kernel_rfl) (by kernel_rfl) (by kernel_rfl) (fun _ _ _ h => h) (Or.inl ⟨by kernel_rfl, ?_⟩) hHeld ?_
              rotate_left
              ·intro w hSw
               (try dsimp only at hSw)
               go_simp
               (try with_reducible rfl)
              change wpAnyH _ _ _ _ _ _ _ (Act.put _ (some 89) _) _
              simp only [Act.put, ssA, ssZ, ssS]
              refine wpAnyH_take (i := 18) (v := undef) rfl (by kernel_rfl) (by kernel_rfl) (by kernel_rfl) (fun _ _ _ h => h) (Or.inr ⟨by kernel_rfl, rfl⟩) hHeld ?_
              change wpAnyH _ _ _ _ _ _ _ (Act.put _ (some 90) _) _
              simp only [Act.put, ssA, ssZ, ssS]
              refine wpAnyH_take (i := 19) (v := undef) rfl (by kernel_rfl) (by kernel_rfl) (by kernel_rfl) (fun _ _ _ h => h) (Or.inr ⟨by kernel_rfl, rfl⟩) hHeld ?_
              change wpAnyH _ _ _ _ _ _ _ (Act.put _ (some 91) _) _
              simp only [Act.put, ssA, ssZ, ssS]
              refine wpAnyH_take (i := 20) (v := undef) rfl (by kernel_rfl) (by kernel_rfl) (by kernel_rfl) (fun _ _ _ h => h) (Or.inr ⟨by kernel_rfl, rfl⟩) hHeld ?_
              change wpAnyH _ _ _ _ _ _ _ (Act.put _ (some 92) _) _
              simp only [Act.put, ssA, ssZ, ssS]
              refine wpAnyH_take (i := 21) (v := undef) rfl (by kernel_rfl) (by kernel_rfl) (by kernel_rfl) (fun _ _ _ h => h) (Or.inr ⟨by kernel_rfl, rfl⟩) hHeld ?_
              change wpAnyH _ _ _ _ _ _ _ (Act.put _ (some 93) _) _
              simp only [Act.put, ssA, ssZ, ssS]
              refine wpAnyH_take (i := 22) (v := undef) rfl (by kernel_rfl) (by kernel_rfl) (by kernel_rfl) (fun _ _ _ h => h) (Or.inr ⟨by kernel_rfl, rfl⟩) hHeld ?_
              change wpAnyH _ _ _ _ _ _ _ (Act.put _ (some 94) _) _
              simp only [Act.put, ssA, ssZ, ssS]
              refine wpAnyH_take (i := 23) (v := undef) rfl (by kernel_rfl) (by kernel_rfl) (by kernel_rfl) (fun _ _ _ h => h) (Or.inr ⟨by kernel_rfl, rfl⟩) hHeld ?_
              change wpAnyH _ _ _ _ _ _ _ (Act.put _ (some 95) _) _
              simp only [Act.put, ssA, ssZ, ssS]
              refine wpAnyH_take (i := 24) (v := undef) rfl (by kernel_rfl) (by kernel_rfl) (by kernel_rfl) (fun _ _ _ h => h) (Or.inr ⟨by kernel_rfl, rfl⟩) hHeld ?_
              change wpAnyH _ _ _ _ _ _ _ (Act.put _ (some 96) _) _
              simp only [Act.put, ssA, ssZ, ssS]
              refine wpAnyH_take (i := 25) (v := undef) rfl (by kernel_rfl) (by kernel_rfl) (by kernel_rfl) (fun _ _ _ h => h) (Or.inr ⟨by kernel_rfl, rfl⟩) hHeld ?_
              change wpAnyH _ _ _ _ _ _ _ (Act.put _ (some 97) _) _
              simp only [Act.put, ssA, ssZ, ssS]
              refine wpAnyH_take (i := 26) (v := undef) rfl (by kernel_rfl) (by kernel_rfl) (by kernel_rfl) (fun _ _ _ h => h) (Or.inr ⟨by kernel_rfl, rfl⟩) hHeld ?_
              change wpAnyH _ _ _ _ _ _ _ (Act.put _ (some 98) _) _
              simp only [Act.put, ssA, ssZ, ssS]
              refine wpAnyH_take (i := 27) (v := ?_) rfl (by kernel_rfl) (by kernel_rfl) (by kernel_rfl) (fun _ _ _ h => h) (Or.inl ⟨by kernel_rfl, ?_⟩) hHeld ?_
              rotate_left
              ·intro w hSw
               (try dsimp only at hSw)
               go_simp
               (try with_reducible rfl)
              change wpAnyH _ _ _ _ _ _ _ (Act.put _ (some 99) _) _
              simp only [Act.put, ssA, ssZ, ssS]
              refine wpAnyH_done (by kernel_rfl) ?_ _
              go_wp2_with fail
              go_meet
              exact ⟨by rw [HX.out]; rfl, gr_drew (gr_refl _ none)⟩
             ·cases E2
              all_goals
               refine wp_region_held_drew (S := fun _ => True) (by kernel_rfl) trivial (fun hHeld => ?_)
               refine wpAnyH_take (i := 0) (v := ?_) rfl (by kernel_rfl) (by kernel_rfl) (by kernel_rfl) (fun _ _ _ h => h) (Or.inl ⟨by kernel_rfl, ?_⟩) hHeld ?_
               rotate_left
               ·intro w hSw
                (try dsimp only at hSw)
                go_simp
                (try with_reducible rfl)
               change wpAnyH _ _ _ _ _ _ _ (Act.put _ (some 72) _) _
               simp only [Act.put, ssA, ssZ, ssS]
               refine wpAnyH_take (i := 1) (v := ?_) rfl (by kernel_rfl) (by kernel_rfl) (by kernel_rfl) (fun _ _ _ h => h) (Or.inl ⟨by kernel_rfl, ?_⟩) hHeld ?_
               rotate_left
               ·intro w hSw
                (try dsimp only at hSw)
                go_simp
                (try with_reducible rfl)
               change wpAnyH _ _ _ _ _ _ _ (Act.put _ (some 73) _) _
               simp only [Act.put, ssA, ssZ, ssS]
               refine wpAnyH_take (i := 2) (v := ?_) rfl (by kernel_rfl) (by kernel_rfl) (by kernel_rfl) (fun _ _ _ h => h) (Or.inl ⟨by kernel_rfl, ?_⟩) hHeld ?_
               rotate_left
               ·intro w hSw
                (try dsimp only at hSw)
                go_simp
                (try with_reducible rfl)
               change wpAnyH _ _ _ _ _ _ _ (Act.put _ (some 74) _) _
               simp only [Act.put, ssA, ssZ, ssS]
               refine wpAnyH_take (i := 3) (v := ?_) rfl (by kernel_rfl) (by kernel_rfl) (by kernel_rfl) (fun _ _ _ h => h) (Or.inl ⟨by kernel_rfl, ?_⟩) hHeld ?_
               rotate_left
               ·intro w hSw
                (try dsimp only at hSw)
                go_simp
                (try with_reducible rfl)
               change wpAnyH _ _ _ _ _ _ _ (Act.put _ (some 75) _) _
               simp only [Act.put, ssA, ssZ, ssS]
               refine wpAnyH_take (i := 4) (v := ?_) rfl (by kernel_rfl) (by kernel_rfl) (by kernel_rfl) (fun _ _ _ h => h) (Or.inl ⟨by kernel_rfl, ?_⟩) hHeld ?_
               rotate_left
               ·intro w hSw
                (try dsimp only at hSw)
                go_simp
                (try with_reducible rfl)
               change wpAnyH _ _ _ _ _ _ _ (Act.put _ (some 76) _) _
               simp only [Act.put, ssA, ssZ, ssS]
               refine wpAnyH_take (i := 5) (v := ?_) rfl (by kernel_rfl) (by kernel_rfl) (by kernel_rfl) (fun _ _ _ h => h) (Or.inl ⟨by kernel_rfl, ?_⟩) hHeld ?_
               rotate_left
               ·intro w hSw
                (try dsimp only at hSw)
                go_simp
                (try with_reducible rfl)
               change wpAnyH _ _ _ _ _ _ _ (Act.put _ (some 77) _) _
               simp only [Act.put, ssA, ssZ, ssS]
               refine wpAnyH_take (i := 6) (v := ?_) rfl (by kernel_rfl) (by kernel_rfl) (by kernel_rfl) (fun _ _ _ h => h) (Or.inl ⟨by kernel_rfl, ?_⟩) hHeld ?_
               rotate_left
               ·intro w hSw
                (try dsimp only at hSw)
                go_simp
                (try with_reducible rfl)
               change wpAnyH _ _ _ _ _ _ _ (Act.put _ (some 78) _) _
               simp only [Act.put, ssA, ssZ, ssS]
               refine wpAnyH_take (i := 7) (v := ?_) rfl (by kernel_rfl) (by kernel_rfl) (by kernel_rfl) (fun _ _ _ h => h) (Or.inl ⟨by kernel_rfl, ?_⟩) hHeld ?_
               rotate_left
               ·intro w hSw
                (try dsimp only at hSw)
                go_simp
                (try with_reducible rfl)
               change wpAnyH _ _ _ _ _ _ _ (Act.put _ (some 79) _) _
               simp only [Act.put, ssA, ssZ, ssS]
               refine wpAnyH_take (i := 8) (v := ?_) rfl (by kernel_rfl) (by kernel_rfl) (by kernel_rfl) (fun _ _ _ h => h) (Or.inl ⟨by kernel_rfl, ?_⟩) hHeld ?_
               rotate_left
               ·intro w hSw
                (try dsimp only at hSw)
                go_simp
                (try with_reducible rfl)
               change wpAnyH _ _ _ _ _ _ _ (Act.put _ (some 80) _) _
               simp only [Act.put, ssA, ssZ, ssS]
               refine wpAnyH_take (i := 9) (v := ?_) rfl (by kernel_rfl) (by kernel_rfl) (by kernel_rfl) (fun _ _ _ h => h) (Or.inl ⟨by kernel_rfl, ?_⟩) hHeld ?_
               rotate_left
               ·intro w hSw
                (try dsimp only at hSw)
                go_simp
                (try with_reducible rfl)
               change wpAnyH _ _ _ _ _ _ _ (Act.put _ (some 81) _) _
               simp only [Act.put, ssA, ssZ, ssS]
               refine wpAnyH_take (i := 10) (v := ?_) rfl (by kernel_rfl) (by kernel_rfl) (by kernel_rfl) (fun _ _ _ h => h) (Or.inl ⟨by kernel_rfl, ?_⟩) hHeld ?_
               rotate_left
               ·intro w hSw
                (try dsimp only at hSw)
                go_simp
                (try with_reducible rfl)
               change wpAnyH _ _ _ _ _ _ _ (Act.put _ (some 82) _) _
               simp only [Act.put, ssA, ssZ, ssS]
               refine wpAnyH_take (i := 11) (v := ?_) rfl (by kernel_rfl) (by kernel_rfl) (by kernel_rfl) (fun _ _ _ h => h) (Or.inl ⟨by kernel_rfl, ?_⟩) hHeld ?_
               rotate_left
               ·intro w hSw
                (try dsimp only at hSw)
                go_simp
                (try with_reducible rfl)
               change wpAnyH _ _ _ _ _ _ _ (Act.put _ (some 83) _) _
               simp only [Act.put, ssA, ssZ, ssS]
               refine wpAnyH_take (i := 12) (v := ?_) rfl (by kernel_rfl) (by kernel_rfl) (by kernel_rfl) (fun _ _ _ h => h) (Or.inl ⟨by kernel_rfl, ?_⟩) hHeld ?_
               rotate_left
               ·intro w hSw
                (try dsimp only at hSw)
                go_simp
                (try with_reducible rfl)
               change wpAnyH _ _ _ _ _ _ _ (Act.put _ (some 84) _) _
               simp only [Act.put, ssA, ssZ, ssS]
               refine wpAnyH_take (i := 13) (v := ?_) rfl (by kernel_rfl) (by kernel_rfl) (by kernel_rfl) (fun _ _ _ h => h) (Or.inl ⟨by kernel_rfl, ?_⟩) hHeld ?_
               rotate_left
               ·intro w hSw
                (try dsimp only at hSw)
                go_simp
                (try with_reducible rfl)
               change wpAnyH _ _ _ _ _ _ _ (Act.put _ (some 85) _) _
               simp only [Act.put, ssA, ssZ, ssS]
               refine wpAnyH_take (i := 14) (v := ?_) rfl (by kernel_rfl) (by kernel_rfl) (by kernel_rfl) (fun _ _ _ h => h) (Or.inl ⟨by kernel_rfl, ?_⟩) hHeld ?_
               rotate_left
               ·intro w hSw
                (try dsimp only at hSw)
                go_simp
                (try with_reducible rfl)
               change wpAnyH _ _ _ _ _ _ _ (Act.put _ (some 86) _) _
               simp only [Act.put, ssA, ssZ, ssS]
               refine wpAnyH_take (i := 15) (v := ?_) rfl (by kernel_rfl) (by kernel_rfl) (by kernel_rfl) (fun _ _ _ h => h) (Or.inl ⟨by kernel_rfl, ?_⟩) hHeld ?_
               rotate_left
               ·intro w hSw
                (try dsimp only at hSw)
                go_simp
                (try with_reducible rfl)
               change wpAnyH _ _ _ _ _ _ _ (Act.put _ (some 87) _) _
               simp only [Act.put, ssA, ssZ, ssS]
               refine wpAnyH_take (i := 16) (v := ?_) rfl (by kernel_rfl) (by kernel_rfl) (by kernel_rfl) (fun _ _ _ h => h) (Or.inl ⟨by kernel_rfl, ?_⟩) hHeld ?_
               rotate_left
               ·intro w hSw
                (try dsimp only at hSw)
                go_simp
                (try with_reducible rfl)
               change wpAnyH _ _ _ _ _ _ _ (Act.put _ (some 88) _) _
               simp only [Act.put, ssA, ssZ, ssS]
               refine wpAnyH_take (i := 17) (v := ?_) rfl (by kernel_rfl) (by kernel_rfl) (by kernel_rfl) (fun _ _ _ h => h) (Or.inl ⟨by kernel_rfl, ?_⟩) hHeld ?_
               rotate_left
               ·intro w hSw
                (try dsimp only at hSw)
                go_simp
                (try with_reducible rfl)
               change wpAnyH _ _ _ _ _ _ _ (Act.put _ (some 89) _) _
               simp only [Act.put, ssA, ssZ, ssS]
               refine wpAnyH_take (i := 18) (v := ?_) rfl (by kernel_rfl) (by kernel_rfl) (by kernel_rfl) (fun _ _ _ h => h) (Or.inl ⟨by kernel_rfl, ?_⟩) hHeld ?_
               rotate_left
               ·intro w hSw
                (try dsimp only at hSw)
                go_simp
                (try with_reducible rfl)
               change wpAnyH _ _ _ _ _ _ _ (Act.put _ (some 90) _) _
               simp only [Act.put, ssA, ssZ, ssS]
               refine wpAnyH_take (i := 19) (v := ?_) rfl (by kernel_rfl) (by kernel_rfl) (by kernel_rfl) (fun _ _ _ h => h) (Or.inl ⟨by kernel_rfl, ?_⟩) hHeld ?_
               rotate_left
               ·intro w hSw
                (try dsimp only at hSw)
                go_simp
                (try with_reducible rfl)
               change wpAnyH _ _ _ _ _ _ _ (Act.put _ (some 91) _) _
               simp only [Act.put, ssA, ssZ, ssS]
               refine wpAnyH_take (i := 20) (v := ?_) rfl (by kernel_rfl) (by kernel_rfl) (by kernel_rfl) (fun _ _ _ h => h) (Or.inl ⟨by kernel_rfl, ?_⟩) hHeld ?_
               rotate_left
               ·intro w hSw
                (try dsimp only at hSw)
                go_simp
                (try with_reducible rfl)
               change wpAnyH _ _ _ _ _ _ _ (Act.put _ (some 92) _) _
               simp only [Act.put, ssA, ssZ, ssS]
               refine wpAnyH_take (i := 21) (v := ?_) rfl (by kernel_rfl) (by kernel_rfl) (by kernel_rfl) (fun _ _ _ h => h) (Or.inl ⟨by kernel_rfl, ?_⟩) hHeld ?_
               rotate_left
               ·intro w hSw
                (try dsimp only at hSw)
                go_simp
                (try with_reducible rfl)
               change wpAnyH _ _ _ _ _ _ _ (Act.put _ (some 93) _) _
               simp only [Act.put, ssA, ssZ, ssS]
               refine wpAnyH_take (i := 22) (v := ?_) rfl (by kernel_rfl) (by kernel_rfl) (by kernel_rfl) (fun _ _ _ h => h) (Or.inl ⟨by kernel_rfl, ?_⟩) hHeld ?_
               rotate_left
               ·intro w hSw
                (try dsimp only at hSw)
                go_simp
                (try with_reducible rfl)
               change wpAnyH _ _ _ _ _ _ _ (Act.put _ (some 94) _) _
               simp only [Act.put, ssA, ssZ, ssS]
               refine wpAnyH_take (i := 23) (v := ?_) rfl (by kernel_rfl) (by kernel_rfl) (by kernel_rfl) (fun _ _ _ h => h) (Or.inl ⟨by kernel_rfl, ?_⟩) hHeld ?_
               rotate_left
               ·intro w hSw
                (try dsimp only at hSw)
                go_simp
                (try with_reducible rfl)
               change wpAnyH _ _ _ _ _ _ _ (Act.put _ (some 95) _) _
               simp only [Act.put, ssA, ssZ, ssS]
               refine wpAnyH_take (i := 24) (v := ?_) rfl (by kernel_rfl) (by kernel_rfl) (by kernel_rfl) (fun _ _ _ h => h) (Or.inl ⟨by kernel_rfl, ?_⟩) hHeld ?_
               rotate_left
               ·intro w hSw
                (try dsimp only at hSw)
                go_simp
                (try with_reducible rfl)
               change wpAnyH _ _ _ _ _ _ _ (Act.put _ (some 96) _) _
               simp only [Act.put, ssA, ssZ, ssS]
               refine wpAnyH_take (i := 25) (v := ?_) rfl (by kernel_rfl) (by kernel_rfl) (by kernel_rfl) (fun _ _ _ h => h) (Or.inl ⟨by kernel_rfl, ?_⟩) hHeld ?_
               rotate_left
               ·intro w hSw
                (try dsimp only at hSw)
                go_simp
                (try with_reducible rfl)
               change wpAnyH _ _ _ _ _ _ _ (Act.put _ (some 97) _) _
               simp only [Act.put, ssA, ssZ, ssS]
               refine wpAnyH_take (i := 26) (v := ?_) rfl (by kernel_rfl) (by kernel_rfl) (by kernel_rfl) (fun _ _ _ h => h) (Or.inl ⟨by kernel_rfl, ?_⟩) hHeld ?_
               rotate_left
               ·intro w hSw
                (try dsimp only at hSw)
                go_simp
                (try with_reducible rfl)
               change wpAnyH _ _ _ _ _ _ _ (Act.put _ (some 98) _) _
               simp only [Act.put, ssA, ssZ, ssS]
               refine wpAnyH_take (i := 27) (v := ?_) rfl (by kernel_rfl) (by kernel_rfl) (by kernel_rfl) (fun _ _ _ h => h) (Or.inl ⟨by kernel_rfl, ?_⟩) hHeld ?_
               rotate_left
               ·intro w hSw
                (try dsimp only at hSw)
                go_simp
                (try with_reducible rfl)
               change wpAnyH _ _ _ _ _ _ _ (Act.put _ (some 99) _) _
               simp only [Act.put, ssA, ssZ, ssS]
               refine wpAnyH_done (by kernel_rfl) ?_ _
               go_wp2_with fail
               go_meet
               exact ⟨by rw [HX.out]; rfl, gr_drew (gr_refl _ none)⟩
         case rest =>
          obtain ⟨rfl, hgz⟩ := hcut
          rename World => wz
          have hGz := gr_trans hGW hgz
          have HSz : Hid (LFrom wo.heap.size wz (.slice (some ⟨wo.heap.size, 0, none⟩) (M + 1) (M + 1)) (M + 1) (L.set K x)) := ownsRow_grown HS3.out hgz
          have hosa := osa_1 A B P Q
          rw [← HPI.out, HKE.out] at hosa
          have hPI := HPI.out
          have hQK := HKE.out
          have hlen2 : (L.set K x).length = M + 1 := by rw [List.length_set]; exact hlen
          have HLK : Hid (∀ j, j < K → L.getD j 0 = (osa A B I j : Int)) := fun j hj => HL.out j hj
          clear HS3 hGW hgz
          cases hX : osX A B P Q
          ·rw [hX, if_neg (by decide)] at hosa
           have HN := Lib.hid (row_next hlen (show K ≤ M by omega) HLK.out (x := x) (by rw [← HO4.out, hosa]))
           clear hX hosa hPI hQK
           go_wp2_with fail
           go_roundw
           case rel => exact ⟨K + 1, L.set K x, by go_num, by omega, HSz.out, HN.out, hGz⟩
           case measure => have := HKE.out; simp [intOf]; omega
          ·rw [hX, if_pos rfl] at hosa
           obtain ⟨p1, q1, _, _⟩ := (osX_is A B P Q).1 hX
           obtain ⟨S, hS⟩ : ∃ S, P = S + 1 := ⟨P - 1, by omega⟩
           obtain ⟨R, hR⟩ : ∃ R, Q = R + 1 := ⟨Q - 1, by omega⟩
           obtain ⟨g1, cc1, L1, hve, hL1, hv1⟩ := HR1.out (by omega)
           injection hve with f1 f2 f3
           subst f1 f2 f3
           rw [show I - 2 = S by omega] at hv1
           have hL1z : LFrom (w.heap.size + 1) wz (.slice (some ⟨g1, 0, none⟩) (M + 1) y1) (M + 1) L1 := ownsRow_grown hL1 hGz
           have kz := hL1z.at_ R (by omega)
           rw [hv1 R (by omega)] at kz
           have kx := HSz.out.at_ K (by omega)
           rw [set_getD _ _ _ _ (by omega), if_pos rfl] at kx
           have hbz := hbl.grown hGz (by simp)
           obtain ⟨c0, c1, c2⟩ := blk_cells3 hbz
           have b4 := HOB.out S R
           rw [show P - 1 = S by omega, show Q - 1 = R by omega] at hosa
           obtain ⟨X4, hX4⟩ : ∃ x : Int, (osa A B S R : Int) = x := ⟨_, rfl⟩
           have d4 : 0 ≤ X4 ∧ X4 ≤ 300 := by omega
           rw [hX4] at kz
           have w4 : IntKind.i64.wrap (X4 + 1) = X4 + 1 := IntWalk.i64_in _ ⟨by omega, by omega⟩
           have hRw : IntKind.i64.wrap (R : Int) = (R : Int) := IntWalk.i64_in _ ⟨by omega, by omega⟩
           have hKR : IntKind.i64.wrap ((K : Int) - 2) = (R : Int) := by
            have := HKE.out
            rw [show (K : Int) - 2 = (R : Int) by omega]; exact hRw
           have hR0 : (0 : Int) ≤ (R : Int) := by omega
           have hRM : (R : Int) < (M : Int) + 1 := by omega
           have hRM2 : R < M + 1 := by omega
           have hfin : (min x (X4 + 1)) = (osa A B I K : Int) := by
            have h1 := HO4.out
            rw [hosa]
            omega
           have HN := Lib.hid (row_next hlen2 (show K ≤ M by omega) (L := L.set K x) (fun j hj => by rw [set_getD _ _ _ _ (by omega), if_neg (by omega)]; exact HLK.out j hj) (x := min x (X4 + 1)) hfin)
           have z1 : wz.drew.cell? ⟨w.heap.size, 1, none⟩ = _ := c1
           have z4 : wz.drew.cell? ⟨g1, R, none⟩ = _ := kz
           have z5 : wz.drew.cell? ⟨wo.heap.size, K, none⟩ = _ := kx
           have hs4 := (World.ownsRow.stored (show World.ownsRow wz wo.heap.size 3 1 (.slice (some ⟨wo.heap.size, 0, none⟩) (M + 1) (M + 1)) (M + 1) ((L.set K x).map (Value.int .i64)) from HSz.out) K (.int .i64 (min x (X4 + 1)))).1
           have hfz : wz.drew.frozen? ⟨wo.heap.size, K, none⟩ = false := World.ownsRow.frozenAt (show wz.ownsRow wo.heap.size 3 1 (.slice (some ⟨wo.heap.size, 0, none⟩) (M + 1) (M + 1)) (M + 1) ((L.set K x).map (Value.int .i64)) from HSz.out) K
           rw [← List.map_set] at hs4
           have HS4 := Lib.hid (ownsRow_grown hs4 (gr_drew (gr_refl _ none)))
           have hGF : wo.grownBy (wz.setCell ⟨wo.heap.size, K, none⟩ (.int .i64 (min x (X4 + 1)))).drew none := gr_drew (gr_put hGz (.inr (Nat.le_refl _)) _)
           clear hX hosa hPI hQK p1 q1 hS hR hL1 hL1z hv1 hbz b4 hX4 hfin hs4 c0 c2 hgx hgq hG2 hGz hL2x hbq
           go_wp2_with fail
           go_still_tail 15, (by kernel_rfl)
           change wpList _ _ _ _ _ wz.drew
           go_wp2_with fail
           go_roundw
           case rel => exact ⟨K + 1, (L.set K x).set K (min x (X4 + 1)), by go_num, by omega, HS4.out, HN.out, hGF⟩
           case measure => have := HKE.out; simp [intOf]; omega
    ·have hki : ¬ (K : Int) < (M : Int) + 1 := by omega
     have HROW : Hid (RowIs A B M (w.heap.size + 1) wr (.slice (some ⟨wo.heap.size, 0, none⟩) (M + 1) (M + 1)) I) := ⟨_, _, L, rfl, ownsRow_low hown (by omega), fun k hk => HL.out k (by omega)⟩
     have hbx := hbl.grown hgx (by simp)
     have HQ2 : Hid (1 ≤ I → RowIs A B M (w.heap.size + 1) wr (.slice x2 n2 y2) (I - 1)) := fun h => (HR2.out h).grown hgx
     have hg := gr_trans hgr hgx
     obtain ⟨c0, c1, c2⟩ := blk_cells3 hbx
     have hf := hbx.free
     have hput := blk_put3 hbx (.slice x1 n1 y1) (.slice x2 n2 y2) (.slice (some ⟨wo.heap.size, 0, none⟩) (M + 1) (M + 1))
     have hpg : wr.grownBy (((wr.setCell ⟨w.heap.size, 0, none⟩ (.slice x1 n1 y1)).setCell ⟨w.heap.size, 1, none⟩ (.slice x2 n2 y2)).setCell ⟨w.heap.size, 2, none⟩ (.slice (some ⟨wo.heap.size, 0, none⟩) (M + 1) (M + 1))) (some w.heap.size) := gr_put (p := (⟨w.heap.size, 2, none⟩ : Addr)) (gr_put (p := (⟨w.heap.size, 1, none⟩ : Addr)) (gr_put (p := (⟨w.heap.size, 0, none⟩ : Addr)) (gr_refl wr (some w.heap.size)) (.inl rfl) (.slice x1 n1 y1)) (.inl rfl) (.slice x2 n2 y2)) (.inl rfl) _
     have HPUTR := Lib.hid (HROW.out.far hpg (fun g e => by injection e with e; omega))
     have HPUTQ := Lib.hid (fun h => (HQ2.out h).far hpg (fun g e => by injection e with e; omega))
     have hgp := gr_puts3 (g := w.heap.size) hg (Nat.le_refl _) (.slice x1 n1 y1) (.slice x2 n2 y2) (.slice (some ⟨wo.heap.size, 0, none⟩) (M + 1) (M + 1))
     have hlt3 := hbx.lt
     clear hown HL hgx
     go_wp2_with fail
     go_roundw
     case rel => exact ⟨I + 1, x1, x2, some ⟨wo.heap.size, 0, none⟩, n1, n2, M + 1, y1, y2, M + 1, by go_num, by omega, hput, fun _ => HPUTR.out, fun h => HPUTQ.out (by omega), hgp⟩
     case measure => simp [intOf]; omega
  ·have hli : ¬ (I : Int) < (N : Int) + 1 := by omega
   obtain rfl : I = N + 1 := by omega
   obtain ⟨g2, cc, L2, hve, hL2, hv2⟩ := HR2.out (by omega)
   injection hve with e1 e2 e3
   subst e1 e2 e3
   have hcM := hL2.at_ M (by omega)
   rw [hv2 M (Nat.le_refl _), Nat.add_sub_cancel] at hcM
   obtain ⟨c0, c1, c2⟩ := blk_cells3 hbl
   have hMl : M < M + 1 := by omega
   have hMl2 : (M : Int) < (M : Int) + 1 := by omega
   have hMl3 : (0 : Int) ≤ (M : Int) := by omega
   clear hL2 hv2
   go_wp2_with fail
   go_ret
   exact ⟨by rw [HST.out]; rfl, hgr⟩
end Go.Proofs.YtbpkfkbbkgdlaaaGreatDoor

namespace Go.Proofs.YtbpkfkbbkgdlaaaGreatDoor
open Go.RowKit
set_option linter.unusedVariables false
set_option linter.unusedSimpArgs false

def isCall (s : ByteArray) : Bool := (partsOf s).isSome
theorem parts_flat {s : ByteArray} {w w' : World} {e : Ending} (h : PartsPost s w e w') : w.grownBy w' none ∧ ∃ (t0 t1 t2 t4 : ByteArray) (kd : Int), e = .returned (.tuple #[.agg #[.string t0, .string t1, .string t2, .int .i64 kd, .string t4], .bool (isCall s)]) := by
 obtain ⟨hg, ⟨hn, he⟩ | ⟨t, k, kd, ad, hn, he⟩⟩ := h
 ·have hb : isCall s = false := by unfold isCall; rw [hn]; rfl
  rw [hb]
  exact ⟨hg, _, _, _, _, _, he⟩
 ·have hb : isCall s = true := by unfold isCall; rw [hn]; rfl
  rw [hb]
  exact ⟨hg, _, _, _, _, _, he⟩
set_option maxHeartbeats 1000000 in
theorem isCall_any (s : ByteArray) (w : World) (hs : s.size < 4294967281) (ha : Ascii s) :
 Calls Tryz.prog 36 #[.string s] w fun e w' => e = .returned (.bool (isCall s)) ∧ w.grownBy w' none := by
 have HP := Lib.hid ((parts_any s w hs ha).mono fun e w' h => parts_flat h)
 clear hs ha
 generalize isCall s = B at *
 go_enter Tryz.func36, Tryz.ntmps36
 go_wp2_with fail
 refine HP.out.mono ?_
 rintro _ w1 ⟨hg1, t0, t1, t2, t4, kd, rfl⟩
 have hG := gr_alloc hg1 (.cells #[.string t0, .string t1, .string t2, .int .i64 kd, .string t4] 105)
 go_wp2_with fail
 go_ret
 exact ⟨rfl, hG⟩
/-- The closure of CheckCalls: what is no call sign. -/
theorem noCall_any (s : ByteArray) (w : World) (hs : s.size < 4294967281) (ha : Ascii s) :
 Calls Tryz.prog 106 #[.string s] w fun e w' => e = .returned (.bool (!isCall s)) ∧ w.grownBy w' none := by
 have H1 := Lib.hid (fun W => isCall_any s W hs ha)
 generalize isCall s = B at *
 cases B
 all_goals
  go_enter Tryz.func106, Tryz.ntmps106
  go_wp2_with fail
  refine (H1.out _).mono ?_
  rintro _ w1 ⟨rfl, hg1⟩
  go_wp2_with fail
  go_ret
  exact ⟨rfl, hg1⟩
set_option maxRecDepth 100000 in
set_option maxHeartbeats 4000000 in
/-- Call signs alone: slices.ContainsFunc finds none that is no call sign. -/
theorem idxNoCall (base : Nat) (v : Value) (l : List ByteArray) (w : World) (hl : StrsFrom base w v l) (hn : l.length ≤ 1000) (hc : ∀ s ∈ l, s.size ≤ 100 ∧ Ascii s ∧ isCall s = true) :
 Calls Tryz.prog 157 #[v, .func (.func 106) #[] #[]] w fun e w' => e = .returned (.int .i64 (-1)) ∧ w.grownBy w' none := by
 obtain ⟨A, ca, rfl, hla, hA⟩ := hl.shape
 have HU := Lib.hid hl
 have HC := Lib.hid hc
 have HA := Lib.hid hA
 clear hl hc hA
 go_enter Tryz.func157, Tryz.ntmps157
 go_wp2_with fail
 go_loopw [8] (fun i wr => ∃ k : Nat, k ≤ l.length ∧ i = .int .i64 k ∧ w.grownBy wr none) (fun i _ => l.length - (intOf i).toNat)
 case atStart => exact ⟨0, by omega, rfl, gr_refl _ _⟩
 case round =>
  obtain ⟨k, hk, rfl, hgr⟩ := hrel
  by_cases hlt : k < l.length
  ·obtain ⟨g, rfl, _, _⟩ := HA.out (by omega)
   have cx := (HU.out.grown hgr).at_ k hlt
   have hkl : (k : Int) < (l.length : Int) := by omega
   obtain ⟨h1, h2, h3⟩ := HC.out l[k] (List.getElem_mem hlt)
   have HN := Lib.hid (noCall_any l[k] wr (by omega) h2)
   rw [h3] at HN
   clear h1 h2 h3
   generalize l[k] = x at *
   go_wp2_with fail
   refine HN.out.mono ?_
   rintro _ w1 ⟨rfl, hg1⟩
   go_wp2_with fail
   go_roundw
   case rel => exact ⟨k + 1, by omega, by go_num, gr_trans hgr hg1⟩
   case measure => simp [intOf]; omega
  ·have hkl : ¬ (k : Int) < (l.length : Int) := by omega
   go_wp2_with fail
   go_ret
   exact ⟨rfl, hgr⟩
set_option maxHeartbeats 1000000 in
theorem checkCalls_ok (base : Nat) (v : Value) (l : List ByteArray) (w : World) (hl : StrsFrom base w v l) (hn : l.length ≤ 1000) (hc : ∀ s ∈ l, s.size ≤ 100 ∧ Ascii s ∧ isCall s = true) :
 Calls Tryz.prog 58 #[v] w fun e w' => e = .returned (.int .i64 0) ∧ w.grownBy w' none := by
 have HI := Lib.hid (fun W (h : StrsFrom base W v l) => idxNoCall base v l W h hn hc)
 have HC : Hid (∀ W, StrsFrom base W v l → Calls Tryz.prog 105 #[v, .func (.func 106) #[] #[]] W fun e w' => e = .returned (.bool false) ∧ W.grownBy w' none) := fun W h => by
  go_enter Tryz.func105, Tryz.ntmps105
  go_wp2_with fail
  refine (HI.out _ h).mono ?_
  rintro _ w1 ⟨rfl, hg1⟩
  go_wp2_with fail
  go_ret
  exact ⟨rfl, hg1⟩
 have HL := Lib.hid hl
 obtain ⟨A, ca, rfl, hla, hA⟩ := hl.shape
 have hn2 : ¬ (1000 : Int) < (l.length : Int) := by omega
 clear hl hA hc
 generalize l.length = N at *
 go_enter Tryz.func58, Tryz.ntmps58
 go_wp2_with fail
 refine (HC.out _ HL.out).mono ?_
 rintro _ w1 ⟨rfl, hg1⟩
 go_wp2_with fail
 go_ret
 exact ⟨rfl, hg1⟩
end Go.Proofs.YtbpkfkbbkgdlaaaGreatDoor

namespace Go.Proofs.YtbpkfkbbkgdlaaaGreatDoor
open Go.RowKit
set_option linter.unusedVariables false
set_option linter.unusedSimpArgs false

theorem TabRight.beg {l : List Ent} {p : List Pfx} (h : TabRight l p) : ∀ x ∈ p, x.beg.size ≤ 14 := fun x hx => by
 cases hw : x.whole with
 | false => have := h.size x hx hw; omega
 | true =>
   have hf := (h.pfx x hx).form
   unfold formB at hf
   rw [hw] at hf
   simp only [if_true, Bool.not_eq_false'] at hf
   by_cases h1 : 14 < x.beg.size
   ·unfold partsOf at hf
    rw [if_pos h1] at hf
    simp at hf
   ·omega
theorem tableOf_right (base : Nat) (u v : Value) (l : List Ent) (p : List Pfx) (w : World) (hu : EntsFrom base w u l) (hv : PfxsFrom base w v p) (hR : TabRight l p) :
 Calls Tryz.prog 56 #[u, v] w (TabPost base u v l p w) := tableOf_ok base u v l p w hu hv hR.ok.len hR.beg
end Go.Proofs.YtbpkfkbbkgdlaaaGreatDoor
