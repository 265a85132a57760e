/- The walk over a table's Find: it is the reference's FoundOf. Condition: a right table with its maps lies in memory; a right call sign. The walks over a table's near and edges. Condition: a right table with its maps lies in memory. When a call sign's entity changes: the edges of the prefixes that can count are enough (plain). No condition. The order of the prefixes of a right table; the one that counts longest, told of elements (plain). No condition. What Tidy leaves tells of all call signs what the table told, and nothing in it overlaps (plain). No condition. Plain law of the least number of elements put in, taken out or replaced: row by row; what is mistaken is one element away. No program in sight, no condition. Plain law of the steps between strings: they are as many there and back, none only to itself, one to a string with one other sign. No program in sight, no condition. The walk over key.closed: marks and gaps without the gaps that are shorter. Condition: right marks. The walk over key.Hear: the text with the unit that fits best, or the error. Condition: asciiSpace is Go's own table. -/
import Derived.Test.YtbpkfkbbkgdlaaaGreatDoorPStyaj
import Derived.Test.YtbpkfkbbkgdlaaaGreatDoorPStyad
import Derived.Test.YtbpkfkbbkgdlaaaGreatDoorPStyaa
import Derived.Deep.AppendLies
import Derived.Deep.RegionHeld3
import Derived.StillTailTactics
import Derived.Lib.UnsafeStr
import Derived.Lib.AppendStr
import Derived.Maps.OwnSet
namespace Go.Proofs.YtbpkfkbbkgdlaaaGreatDoor
open Go.RowKit
set_option linter.unusedVariables false
set_option linter.unusedSimpArgs false

theorem TabRight.size {l : List Ent} {p : List Pfx} (h : TabRight l p) : ∀ x ∈ p, x.whole = false → 1 ≤ x.beg.size ∧ x.beg.size ≤ 4 := fun x hx hw => form_size (h.pfx x hx).form hw
theorem entD_key {l : List Ent} {s : ByteArray} (h : (entOf l s).isSome = true) : (entD l s).key = s := by
 obtain ⟨e, he⟩ := Option.isSome_iff_exists.1 h
 unfold entD
 rw [he]
 exact (entOf_mem he).2
theorem foundX_ok (base gT : Nat) (u v : Value) (l : List Ent) (p : List Pfx) (k : Nat) (w : World) (hT : TabAt base gT u v l p w) (hO : TabOk l p) (hlt : k < p.length) :
 Calls Tryz.prog 103 #[.pointer (some ⟨gT, 0, none⟩), .int .i64 k] w fun r w' => r = .returned (.agg #[.string (fndX l p[k]).1, .int .i64 (fndX l p[k]).2.1, .int .i64 (fndX l p[k]).2.2]) ∧ w.grownBy w' none :=
 (found_ok base gT u v l p k w hT hO hlt).mono fun r w' ⟨h1, h2⟩ => ⟨by
  rw [h1]
  show _ = Ending.returned (.agg #[.string (entD l p[k].ent).key, .int .i64 (entD l p[k].ent).cont, .int .i64 (fndZ l p[k])])
  rw [entD_key (hO.has _ (List.getElem_mem hlt))], h2⟩
end Go.Proofs.YtbpkfkbbkgdlaaaGreatDoor

namespace Go.Proofs.YtbpkfkbbkgdlaaaGreatDoor
open Go.RowKit
set_option linter.unusedVariables false
set_option linter.unusedSimpArgs false

/-- The prefixes with which a place can begin, with at most so many bytes. -/
def nearL (p : List Pfx) (place : ByteArray) (n : Nat) : List Nat := (List.range n).flatMap fun i => idxL p false (place.extract 0 (i + 1))
theorem nearL_succ (p : List Pfx) (place : ByteArray) (n : Nat) : nearL p place (n + 1) = nearL p place n ++ idxL p false (place.extract 0 (n + 1)) := by
 unfold nearL; rw [List.range_succ, List.flatMap_append]; simp
theorem idxL_len (p : List Pfx) (f : Bool) (s : ByteArray) : (idxL p f s).length ≤ p.length := by
 unfold idxL idxTo
 have h1 := List.length_filter_le (idxC p f s) (List.range p.length)
 rwa [List.length_range] at h1
theorem nearL_len (p : List Pfx) (place : ByteArray) : ∀ n, (nearL p place n).length ≤ n * p.length
 | 0 => by simp [nearL]
 | n + 1 => by
   rw [nearL_succ, List.length_append, Nat.add_mul]
   have := nearL_len p place n
   have := idxL_len p false (place.extract 0 (n + 1))
   omega
theorem natI_cat (a b : List Nat) : natI (a ++ b) = natI a ++ natI b := by unfold natI; simp
theorem natI_len (a : List Nat) : (natI a).length = a.length := by unfold natI; simp
theorem nint_cells {base : Nat} {w : World} {g c : Nat} {l : List Int} (h : IntsFrom base w (.slice (some ⟨g, 0, none⟩) l.length c) l) : ∀ j u, (l.map (Value.int .i64))[j]? = some u → w.cell? ((⟨g, 0, none⟩ : Addr).add j) = some u := by
 intro j u hu
 have hj : j < l.length := by
  have := (List.getElem?_eq_some_iff.1 hu).1
  rwa [List.length_map] at this
 have h1 := IntsFrom.at_ h j hj
 have hadd : (⟨g, 0, none⟩ : Addr).add j = ⟨g, j, none⟩ := by unfold Addr.add; split <;> simp_all
 rw [hadd, h1, ← hu]
 simp [hj]
theorem nint_ones (l : List Int) : ∀ u ∈ l.map (Value.int .i64), u.oneCell' = true := by
 intro u hu
 obtain ⟨x, _, rfl⟩ := List.mem_map.1 hu
 rfl
set_option maxRecDepth 100000 in
set_option maxHeartbeats 8000000 in
theorem tnear_ok (base base2 gT bB bW : Nat) (u v : Value) (l : List Ent) (p : List Pfx) (place : ByteArray) (w : World) (hT : TabFull base base2 gT bB bW u v l p w) (hlen : p.length ≤ 2000) (hpl : place.size ≤ 1000) :
 Calls Tryz.prog 65 #[.pointer (some ⟨gT, 0, none⟩), .string place] w fun r w' => ∃ z, r = .returned z ∧ IntsFrom w.heap.size w' z (natI (nearL p place (min 4 place.size))) ∧ w.grownBy w' none := by
 obtain ⟨i0, hi0, hz0, hz1, hz2⟩ := info_parts intInfo
 have HT := Lib.hid hT
 obtain ⟨M, hM⟩ : ∃ M, min 4 place.size = M := ⟨_, rfl⟩
 have hM4 : M ≤ 4 ∧ M ≤ place.size := by omega
 have hMi : min (4 : Int) (place.size : Int) = (M : Int) := by omega
 rw [hM]
 clear hM hT
 go_enter Tryz.func65, Tryz.ntmps65
 go_wp2_with fail
 go_loopw [5, 6] (fun ov iv wr => ∃ n : Nat, n ≤ M ∧ iv = .int .i64 ((n + 1 : Nat) : Int) ∧ IntsFrom w.heap.size wr ov (natI (nearL p place n)) ∧ w.grownBy wr none) (fun _ iv _ => 5 - (intOf iv).toNat)
 case atStart => exact ⟨0, by omega, rfl, IntsFrom.nil _ _, gr_refl _ _⟩
 case round =>
  obtain ⟨n, hn, rfl, hown, hg⟩ := hrel
  obtain ⟨N, hN⟩ : ∃ N, n + 1 = N := ⟨_, rfl⟩
  rw [hN]
  have HN := Lib.hid hN
  obtain ⟨A2, c2, rfl, hl2, _⟩ := hown.shape
  have hnl := nearL_len p place n
  have hnl2 : (natI (nearL p place n)).length ≤ 8000 := by
   rw [natI_len]
   have : n * p.length ≤ 4 * 2000 := Nat.mul_le_mul (by omega) hlen
   omega
  clear hnl hl2
  by_cases hlt : n < M
  ·have hNM : (N : Int) ≤ (M : Int) := by omega
   have hn1 : (0 : Int) ≤ (N : Int) := by omega
   have hn2 : (N : Int) ≤ (place.size : Int) := by omega
   have hn3 : N ≤ place.size := by omega
   have hnw : IntKind.i64.wrap ((N : Int) + 1) = ((N + 1 : Nat) : Int) := by rw [IntKind.wrap_i64]; omega
   have hes : (place.extract 0 N).size ≤ 1000000 := by rw [ByteArray.size_extract]; omega
   have hTr := HT.out.grown hg
   obtain ⟨nB, hmB⟩ := hTr.mB
   obtain ⟨uj, hju, hjn, hlk⟩ := hmB.look2 (place.extract 0 N) hes
   have hlk1 := hlk wr.drew none (gr_drew (gr_refl _ _)) (by simp)
   have hst : nearL p place (n + 1) = nearL p place n ++ idxL p false (place.extract 0 N) := by rw [nearL_succ, hN]
   have hjl := idxL_len p false (place.extract 0 N)
   have cT := hTr.cB
   have cTd : wr.drew.cell? ⟨gT, 2, none⟩ = some (.map (some bB)) := cT
   generalize hjj : idxL p false (place.extract 0 N) = js at *
   have HST := Lib.hid hst
   have hgT := World.block_lt_of_cell? _ _ cT
   have hszw := hg.size
   have hownD : World.ownsRow wr.drew w.heap.size 3 1 (.slice A2 (natI (nearL p place n)).length c2) (natI (nearL p place n)).length ((natI (nearL p place n)).map (Value.int .i64)) := IntsFrom.grown hown (gr_drew (gr_refl _ _))
   have hgTw : some gT ≠ (Value.slice A2 (natI (nearL p place n)).length c2).ownBlock := fun e => by
    have h1 := (hownD.lt _ e.symm).1
    have h2 : gT < w.heap.size := World.block_lt_of_cell? _ _ HT.out.cB
    omega
   have HOD := Lib.hid hownD
   have HGW := Lib.hid hgTw
   have hgd := gr_drew hg
   by_cases hj0 : js = []
   ·obtain rfl := hjn hj0
    have hnil : Hid (natI (nearL p place (n + 1)) = natI (nearL p place n)) := by show _ = _; rw [HST.out, hj0, List.append_nil]
    have hrel2 : IntsFrom w.heap.size wr.drew (.slice A2 (natI (nearL p place n)).length c2) (natI (nearL p place (n + 1))) := by rw [hnil.out]; exact HOD.out
    have HREL := Lib.hid hrel2
    generalize (natI (nearL p place n)).length = LN at *
    clear hrel2 hju hst hjn hlk hmB hTr hown hownD hgTw hjj hj0
    go_upto_region 5 with fail
    refine wp_region_held_drew (S := fun V => V.cell? ⟨gT, 2, none⟩ = some (.map (some bB))) (by kernel_rfl) cTd (fun hHeld => ?_)
    refine wpAnyH_take (i := 0) (v := ?_) rfl (by kernel_rfl) (by kernel_rfl) (by kernel_rfl) (fun _ _ _ h => h) (Or.inl ⟨by kernel_rfl, ?_⟩) hHeld ?_
    rotate_left
    ·intro w hSw
     (try dsimp only at hSw)
     go_simp
     (try with_reducible rfl)
    change wpAnyH _ _ _ _ _ _ _ (Act.put _ (some 14) _) _
    simp only [Act.put, ssA, ssZ, ssS]
    refine wpAnyH_take (i := 1) (v := ?_) rfl (by kernel_rfl) (by kernel_rfl) (by kernel_rfl) (fun _ _ _ h => h) (Or.inl ⟨by kernel_rfl, ?_⟩) hHeld ?_
    rotate_left
    ·intro w hSw
     (try dsimp only at hSw)
     go_simp
     (try with_reducible rfl)
    change wpAnyH _ _ _ _ _ _ _ (Act.put _ (some 15) _) _
    simp only [Act.put, ssA, ssZ, ssS]
    refine wpAnyH_take (i := 2) (v := ?_) rfl (by kernel_rfl) (by kernel_rfl) (by kernel_rfl) (fun _ _ _ h => h) (Or.inl ⟨by kernel_rfl, ?_⟩) hHeld ?_
    rotate_left
    ·intro w hSw
     (try dsimp only at hSw)
     go_simp
     (try with_reducible rfl)
    change wpAnyH _ _ _ _ _ _ _ (Act.put _ (some 16) _) _
    simp only [Act.put, ssA, ssZ, ssS]
    refine wpAnyH_take (i := 3) (v := ?_) rfl (by kernel_rfl) (by kernel_rfl) (by kernel_rfl) (fun _ _ _ h => h) (Or.inl ⟨by kernel_rfl, ?_⟩) hHeld ?_
    rotate_left
    ·intro w hSw
     (try dsimp only at hSw)
     go_simp
     (try with_reducible rfl)
    change wpAnyH _ _ _ _ _ _ _ (Act.put _ (some 17) _) _
    simp only [Act.put, ssA, ssZ, ssS]
    refine wpAnyH_take (i := 4) (v := ?_) rfl (by kernel_rfl) (by kernel_rfl) (by kernel_rfl) (fun _ _ _ h => h) (Or.inl ⟨by kernel_rfl, ?_⟩) hHeld ?_
    rotate_left
    ·intro w hSw
     (try dsimp only at hSw)
     go_simp
     (try with_reducible rfl)
    change wpAnyH _ _ _ _ _ _ _ (Act.put _ (some 18) _) _
    simp only [Act.put, ssA, ssZ, ssS]
    refine wpAnyH_take (i := 5) (v := ?_) rfl (by kernel_rfl) (by kernel_rfl) (by kernel_rfl) (fun _ _ _ h => h) (Or.inl ⟨by kernel_rfl, ?_⟩) hHeld ?_
    rotate_left
    ·intro w hSw
     (try dsimp only at hSw)
     go_simp
     (try with_reducible rfl)
    change wpAnyH _ _ _ _ _ _ _ (Act.put _ (some 19) _) _
    simp only [Act.put, ssA, ssZ, ssS]
    refine wpAnyH_take (i := 6) (v := ?_) rfl (by kernel_rfl) (by kernel_rfl) (by kernel_rfl) (fun _ _ _ h => h) (Or.inl ⟨by kernel_rfl, ?_⟩) hHeld ?_
    rotate_left
    ·intro w hSw
     (try dsimp only at hSw)
     go_simp
     (try with_reducible rfl)
    change wpAnyH _ _ _ _ _ _ _ (Act.put _ (some 20) _) _
    simp only [Act.put, ssA, ssZ, ssS]
    refine wpAnyH_take (i := 7) (v := ?_) rfl (by kernel_rfl) (by kernel_rfl) (by kernel_rfl) (fun _ _ _ h => h) (Or.inl ⟨by kernel_rfl, ?_⟩) hHeld ?_
    rotate_left
    ·intro w hSw
     (try dsimp only at hSw)
     go_simp
     (try with_reducible rfl)
    change wpAnyH _ _ _ _ _ _ _ (Act.put _ (some 21) _) _
    simp only [Act.put, ssA, ssZ, ssS]
    refine wpAnyH_ready (rs := [8]) (by kernel_rfl) (by simp) ?_
    refine AllReadyH.cons (o := _) rfl (fun K hK => ?_) AllReadyH.nil
    go_simp
    refine hK.out _ _ cTd (fun hHeld8 => ?_)
    clear hK K
    (try simp only [Act.put, ssA, ssZ, ssS])
    refine wpAnyH_ready (rs := [9]) (by kernel_rfl) (by simp) ?_
    refine AllReadyH.cons (o := _) rfl (fun K hK => ?_) AllReadyH.nil
    refine step_append_none (by rfl) (.tmp 14) (.tmp 22) 22 (by rfl) w.heap.size 3 i0 1 Tryz.underlying22 hi0 _ LN _ (by simp [Act.eval]) HOD.out (by simp [Act.eval]) ?_
    refine hK.out _ _ cTd (fun hHeld9 => ?_)
    clear hK K
    (try simp only [Act.put, ssA, ssZ, ssS])
    refine wpAnyH_take (i := 10) (v := ?_) rfl (by kernel_rfl) (by kernel_rfl) (by kernel_rfl) (fun _ _ _ h => h) (Or.inl ⟨by kernel_rfl, ?_⟩) hHeld9 ?_
    rotate_left
    ·intro w hSw
     (try dsimp only at hSw)
     go_simp
     (try with_reducible rfl)
    change wpAnyH _ _ _ _ _ _ _ (Act.put _ (some 5) _) _
    simp only [Act.put, ssA, ssZ, ssS]
    refine wpAnyH_done (by kernel_rfl) ?_ _
    go_wp2_with fail
    go_roundw
    case rel => exact ⟨n + 1, by omega, by rw [HN.out]; first | rfl | go_num, HREL.out, hgd⟩
    case measure => simp [intOf]; omega
   ·obtain ⟨A, c, rfl, hjl2, hjA⟩ := hju.shape
    have hjp : 0 < js.length := List.length_pos_iff.2 hj0
    obtain ⟨gj, rfl, hgjb, _⟩ := hjA (by rw [natI_len]; exact hjp)
    have hcs := nint_cells (IntsFrom.grown hju (gr_drew (gr_refl wr none)))
    rw [natI_len] at hlk1 hju
    have HCS := Lib.hid hcs
    clear hju hst hjn hlk hmB hTr hown hownD hgTw hjj hj0 hjA hjl2 hcs
    go_upto_region 5 with fail
    refine wp_region_held_drew (S := fun V => V.cell? ⟨gT, 2, none⟩ = some (.map (some bB))) (by kernel_rfl) cTd (fun hHeld => ?_)
    refine wpAnyH_take (i := 0) (v := ?_) rfl (by kernel_rfl) (by kernel_rfl) (by kernel_rfl) (fun _ _ _ h => h) (Or.inl ⟨by kernel_rfl, ?_⟩) hHeld ?_
    rotate_left
    ·intro w hSw
     (try dsimp only at hSw)
     go_simp
     (try with_reducible rfl)
    change wpAnyH _ _ _ _ _ _ _ (Act.put _ (some 14) _) _
    simp only [Act.put, ssA, ssZ, ssS]
    refine wpAnyH_take (i := 1) (v := ?_) rfl (by kernel_rfl) (by kernel_rfl) (by kernel_rfl) (fun _ _ _ h => h) (Or.inl ⟨by kernel_rfl, ?_⟩) hHeld ?_
    rotate_left
    ·intro w hSw
     (try dsimp only at hSw)
     go_simp
     (try with_reducible rfl)
    change wpAnyH _ _ _ _ _ _ _ (Act.put _ (some 15) _) _
    simp only [Act.put, ssA, ssZ, ssS]
    refine wpAnyH_take (i := 2) (v := ?_) rfl (by kernel_rfl) (by kernel_rfl) (by kernel_rfl) (fun _ _ _ h => h) (Or.inl ⟨by kernel_rfl, ?_⟩) hHeld ?_
    rotate_left
    ·intro w hSw
     (try dsimp only at hSw)
     go_simp
     (try with_reducible rfl)
    change wpAnyH _ _ _ _ _ _ _ (Act.put _ (some 16) _) _
    simp only [Act.put, ssA, ssZ, ssS]
    refine wpAnyH_take (i := 3) (v := ?_) rfl (by kernel_rfl) (by kernel_rfl) (by kernel_rfl) (fun _ _ _ h => h) (Or.inl ⟨by kernel_rfl, ?_⟩) hHeld ?_
    rotate_left
    ·intro w hSw
     (try dsimp only at hSw)
     go_simp
     (try with_reducible rfl)
    change wpAnyH _ _ _ _ _ _ _ (Act.put _ (some 17) _) _
    simp only [Act.put, ssA, ssZ, ssS]
    refine wpAnyH_take (i := 4) (v := ?_) rfl (by kernel_rfl) (by kernel_rfl) (by kernel_rfl) (fun _ _ _ h => h) (Or.inl ⟨by kernel_rfl, ?_⟩) hHeld ?_
    rotate_left
    ·intro w hSw
     (try dsimp only at hSw)
     go_simp
     (try with_reducible rfl)
    change wpAnyH _ _ _ _ _ _ _ (Act.put _ (some 18) _) _
    simp only [Act.put, ssA, ssZ, ssS]
    refine wpAnyH_take (i := 5) (v := ?_) rfl (by kernel_rfl) (by kernel_rfl) (by kernel_rfl) (fun _ _ _ h => h) (Or.inl ⟨by kernel_rfl, ?_⟩) hHeld ?_
    rotate_left
    ·intro w hSw
     (try dsimp only at hSw)
     go_simp
     (try with_reducible rfl)
    change wpAnyH _ _ _ _ _ _ _ (Act.put _ (some 19) _) _
    simp only [Act.put, ssA, ssZ, ssS]
    refine wpAnyH_take (i := 6) (v := ?_) rfl (by kernel_rfl) (by kernel_rfl) (by kernel_rfl) (fun _ _ _ h => h) (Or.inl ⟨by kernel_rfl, ?_⟩) hHeld ?_
    rotate_left
    ·intro w hSw
     (try dsimp only at hSw)
     go_simp
     (try with_reducible rfl)
    change wpAnyH _ _ _ _ _ _ _ (Act.put _ (some 20) _) _
    simp only [Act.put, ssA, ssZ, ssS]
    refine wpAnyH_take (i := 7) (v := ?_) rfl (by kernel_rfl) (by kernel_rfl) (by kernel_rfl) (fun _ _ _ h => h) (Or.inl ⟨by kernel_rfl, ?_⟩) hHeld ?_
    rotate_left
    ·intro w hSw
     (try dsimp only at hSw)
     go_simp
     (try with_reducible rfl)
    change wpAnyH _ _ _ _ _ _ _ (Act.put _ (some 21) _) _
    simp only [Act.put, ssA, ssZ, ssS]
    refine wpAnyH_ready (rs := [8]) (by kernel_rfl) (by simp) ?_
    refine AllReadyH.cons (o := _) rfl (fun K hK => ?_) AllReadyH.nil
    go_simp
    refine hK.out _ _ cTd (fun hHeld8 => ?_)
    clear hK K
    (try simp only [Act.put, ssA, ssZ, ssS])
    refine wpAnyH_ready (rs := [9]) (by kernel_rfl) (by simp) ?_
    refine AllReadyH.cons (o := _) rfl (fun K hK => ?_) AllReadyH.nil
    refine step_append_lies _ (by rfl) (.tmp 14) (.tmp 22) 22 (by rfl) w.heap.size 3 i0 _ 1 8 Tryz.underlying22 hi0 hz0 hz1 hz2 rfl (by decide) _ _ _ (by simp [Act.eval]) HOD.out ⟨gj, 0, none⟩ js.length c ((natI js).map (Value.int .i64)) (by simp [Act.eval]) (by rw [List.length_map, natI_len, Nat.mul_one]) HCS.out (nint_ones _) hjp (by unfold maxLen; omega) (by omega) (by show _ ≤ wr.heap.size; omega) _ rfl ?_
    intro g9 cap w9 hown9 hg9 hat hglt
    have cT9 : w9.cell? ⟨gT, 2, none⟩ = some (.map (some bB)) := hg9.cell cTd HGW.out
    refine hK.out _ _ cT9 (fun hHeld9 => ?_)
    clear hK K
    (try simp only [Act.put, ssA, ssZ, ssS])
    refine wpAnyH_take (i := 10) (v := ?_) rfl (by kernel_rfl) (by kernel_rfl) (by kernel_rfl) (fun _ _ _ h => h) (Or.inl ⟨by kernel_rfl, ?_⟩) hHeld9 ?_
    rotate_left
    ·intro w hSw
     (try dsimp only at hSw)
     go_simp
     (try with_reducible rfl)
    change wpAnyH _ _ _ _ _ _ _ (Act.put _ (some 5) _) _
    simp only [Act.put, ssA, ssZ, ssS]
    refine wpAnyH_done (by kernel_rfl) ?_ _
    have hown4 : IntsFrom w.heap.size w9 (.slice (some ⟨g9, 0, none⟩) ((natI (nearL p place n)).length + js.length) cap) (natI (nearL p place (n + 1))) := by
     rw [HST.out, natI_cat]
     unfold IntsFrom
     rw [List.map_append, List.length_append, natI_len js]
     exact hown9
    have hG9 : w.grownBy w9 none := gr_grown hgd hg9 (fun g e => .inr (by have := (HOD.out.lt g e).1; omega))
    go_wp2_with fail
    go_roundw
    case rel => exact ⟨n + 1, by omega, by rw [HN.out]; first | rfl | go_num, hown4, hG9⟩
    case measure => simp [intOf]; omega
  ·obtain rfl : n = M := by omega
   have hNM : ¬ (N : Int) ≤ (n : Int) := by omega
   go_wp2_with fail
   go_ret
   exact ⟨_, rfl, hown, hg⟩
theorem int_own {w : World} {g base : Nat} {x : Int} (h : Blk w g 3 #[.int .i64 x]) (hb : base ≤ g) : IntsFrom base w (.slice (some ⟨g, 0, none⟩) 1 1) [x] :=
 ⟨by simp, .inr ⟨g, 1, _, rfl, hb, h, Nat.le_refl _, by unfold maxLen; simp, by simp, rfl⟩⟩
def tmL (l : List Ent) (p : List Pfx) (j : Nat) : List Int := match p[j]? with | none => [] | some x => [tmA l x, tmZ l x]
def betB (a z : Int) (n : Int) : Bool := decide (a < n) && decide (n < z)
/-- The moments between two at which some prefixes begin or end to count. -/
def edgI (l : List Ent) (p : List Pfx) (js : List Nat) (a z : Int) : List Int := js.flatMap fun j => (tmL l p j).filter (betB a z)
theorem edgI_step (l : List Ent) (p : List Pfx) (js : List Nat) (a z : Int) (k : Nat) (h : k < js.length) (hj : js[k] < p.length) : edgI l p (js.take (k + 1)) a z = edgI l p (js.take k) a z ++ [tmA l p[js[k]], tmZ l p[js[k]]].filter (betB a z) := by
 unfold edgI
 rw [List.take_succ_eq_append_getElem h, List.flatMap_append]
 simp [tmL, List.getElem?_eq_getElem hj]
theorem edgI_len (l : List Ent) (p : List Pfx) (a z : Int) : ∀ js : List Nat, (edgI l p js a z).length ≤ 2 * js.length
 | [] => by simp [edgI]
 | j :: r => by
   have ih := edgI_len l p a z r
   unfold edgI at ih ⊢
   rw [List.flatMap_cons, List.length_append, List.length_cons]
   have h1 := List.length_filter_le (betB a z) (tmL l p j)
   have h2 : (tmL l p j).length ≤ 2 := by unfold tmL; split <;> simp
   omega
/-- The edges of some prefixes. -/
def edgL (l : List Ent) (p : List Pfx) (js : List Nat) (a z : Int) : List Int := compI (sortI (a :: edgI l p js a z))
set_option maxRecDepth 100000 in
set_option maxHeartbeats 8000000 in
theorem edges_ok (base base2 gT : Nat) (u v s : Value) (l : List Ent) (p : List Pfx) (js : List Nat) (a z : Int) (w : World) (hT : TabAt base gT u v l p w) (hO : TabOk l p) (hs : IntsFrom base2 w s (natI js)) (hjs : ∀ j ∈ js, j < p.length) (hjn : js.length ≤ 100000) :
 Calls Tryz.prog 63 #[.pointer (some ⟨gT, 0, none⟩), s, .int .i64 a, .int .i64 z] w fun r w' => ∃ y, r = .returned y ∧ IntsFrom w.heap.size w' y (edgL l p js a z) ∧ w.grownBy w' none := by
 obtain ⟨i0, hi0, hz0, hz1, hz2⟩ := info_parts intInfo
 obtain ⟨A, c, rfl, hlen, hA⟩ := hs.shape
 have hml : (natI js).length = js.length := natI_len js
 rw [hml] at hlen hA hs
 have HS := Lib.hid hs
 have HML := Lib.hid hml
 have HA := Lib.hid hA
 have HT := Lib.hid hT
 rw [hml]
 have hg0 := World.grownBy_alloc w (.cells #[.int .i64 a] 3) none
 have hown0 := int_own (Blk.new w 3 #[.int .i64 a]) (Nat.le_refl w.heap.size)
 obtain ⟨RR, hRR⟩ : ∃ RR, edgL l p js a z = RR := ⟨_, rfl⟩
 have HED : Hid (RR = compI (sortI (a :: edgI l p js a z))) := hRR.symm
 rw [hRR]
 clear hRR
 clear hs hA hT hml
 go_enter Tryz.func63, Tryz.ntmps63
 go_upto_region 2 with fail
 generalize w.alloc (.cells #[.int .i64 a] 3) = w1 at *
 obtain ⟨b3, hb3⟩ : ∃ x, w.heap.size = x := ⟨_, rfl⟩
 rw [hb3] at hown0 ⊢
 have HB3 := Lib.hid hb3
 clear hb3
 go_wp2_with fail
 go_loopw [9, 19] (fun ov kv wr => ∃ k : Nat, k ≤ js.length ∧ kv = .int .i64 k ∧ IntsFrom b3 wr ov (a :: edgI l p (js.take k) a z) ∧ w.grownBy wr none) (fun _ kv _ => js.length - (intOf kv).toNat)
 case atStart => exact ⟨0, by omega, rfl, hown0, hg0⟩
 case round =>
  obtain ⟨k, hk, rfl, hown, hg⟩ := hrel
  clear hown0 hg0
  obtain ⟨A2, c2, rfl, _, _⟩ := hown.shape
  generalize hLN : (a :: edgI l p (js.take k) a z).length = LN at *
  have HLN := Lib.hid hLN
  clear hLN
  by_cases hlt : k < js.length
  ·have hki : (k : Int) < (js.length : Int) := by omega
   obtain ⟨gj, rfl, _, hgl⟩ := HA.out (by omega)
   have hat := IntsFrom.at_ (l := natI js) (g := gj) (c := c) (by rw [HML.out]; exact HS.out.grown hg) k (by rw [HML.out]; exact hlt)
   rw [show (natI js)[k]'(by rw [HML.out]; exact hlt) = (js[k] : Int) by simp [natI]] at hat
   have hJp := hjs _ (List.getElem_mem hlt)
   have hst := edgI_step l p js a z k hlt hJp
   have HTM : Hid (∀ W, w.grownBy W none → Calls Tryz.prog 114 #[.pointer (some ⟨gT, 0, none⟩), .int .i64 (js[k] : Int)] W fun r w' => r = .returned (.agg #[.int .i64 (tmA l p[js[k]]), .int .i64 (tmZ l p[js[k]])]) ∧ W.grownBy w' none) := fun W hW => time_ok base gT u v l p js[k] W (HT.out.grown hW) hO hJp
   have hel := edgI_len l p a z (js.take k)
   rw [List.length_take] at hel
   generalize hX : edgI l p (js.take k) a z = X at *
   generalize tmA l p[js[k]] = TA at *
   generalize tmZ l p[js[k]] = TZ at *
   generalize js[k] = J at *
   have HST := Lib.hid hst
   have hXn : X.length ≤ 200000 := by omega
   clear hst hX hel
   go_wp2_with fail
   refine (HTM.out _ hg).mono ?_
   rintro _ w2 ⟨rfl, hg2⟩
   have hgw2 := gr_trans hg hg2
   have hown2 := hown.grown hg2
   have hD := Blk.new w2 70 #[.int .i64 TA, .int .i64 TZ]
   have hgD := World.grownBy_alloc w2 (.cells #[.int .i64 TA, .int .i64 TZ] 70) none
   have hgw3 := gr_trans hgw2 hgD
   have hown3 := hown2.grown hgD
   clear hown hown2 hg2 hat hg
   go_upto_region 6 with fail
   generalize w2.alloc (.cells #[.int .i64 TA, .int .i64 TZ] 70) = w3 at *
   have d0 := hD.cell 0
   have d1 := hD.cell 1
   simp only [List.getElem?_toArray, List.getElem?_cons_zero, List.getElem?_cons_succ] at d0 d1
   have hB := Blk.new w3 3 #[.int .i64 TA, .int .i64 TZ]
   have hgB := World.grownBy_alloc w3 (.cells #[.int .i64 TA, .int .i64 TZ] 3) none
   have hgw4 := gr_trans hgw3 hgB
   have hown4 := hown3.grown hgB
   have hnb : some w3.heap.size ≠ (Value.slice A2 LN c2).ownBlock := fun e => by
    have := (hown3.lt _ e.symm).2
    omega
   clear hown3
   go_upto_region 7 with fail
   generalize w3.alloc (.cells #[.int .i64 TA, .int .i64 TZ] 3) = w4 at *
   generalize w3.heap.size = gB at *
   go_loopw [9, 32] (fun ov mv wi => ∃ m : Nat, m ≤ 2 ∧ mv = .int .i64 m ∧ IntsFrom b3 wi ov (a :: (X ++ ([TA, TZ].take m).filter (betB a z))) ∧ some gB ≠ ov.ownBlock ∧ Blk wi gB 3 #[.int .i64 TA, .int .i64 TZ] ∧ w.grownBy wi none) (fun _ mv _ => 2 - (intOf mv).toNat)
   case atStart => exact ⟨0, by omega, rfl, by simpa using hown4, hnb, hB, hgw4⟩
   case round =>
    obtain ⟨m, hm, rfl, howi, hnbi, hBi, hgi⟩ := hrel
    clear hown4 hnb hB hgw4 hgw3 hgw2 hgB hgD
    by_cases hm2 : m < 2
    ·have hmi : (m : Int) < 2 := by omega
     have hfs := filter_step (betB a z) [TA, TZ] m (by simpa using hm2)
     have hcm : wr.cell? ⟨gB, m, none⟩ = some (.int .i64 ([TA, TZ][m]'(by simpa using hm2))) := by
      rw [hBi.cell m]
      rcases (show m = 0 ∨ m = 1 by omega) with rfl | rfl <;> rfl
     obtain ⟨A4, c4, rfl, _, _⟩ := howi.shape
     have hln : (a :: (X ++ ([TA, TZ].take m).filter (betB a z))).length ≤ 300000 := by
      have h1 := List.length_filter_le (betB a z) ([TA, TZ].take m)
      rw [List.length_take] at h1
      simp only [List.length_cons, List.length_append, List.length_nil] at h1 ⊢
      omega
     generalize hfm : ([TA, TZ].take m).filter (betB a z) = FM at *
     generalize hlm : (a :: (X ++ FM)).length = LM at *
     have HLM := Lib.hid hlm
     clear hlm
     generalize [TA, TZ][m]'(by simpa using hm2) = NN at *
     have HFS := Lib.hid hfs
     have hszi := hgi.size
     have HOWI : Hid (World.ownsRow wr b3 3 1 (.slice A4 LM c4) LM ((a :: (X ++ FM)).map (Value.int .i64))) := by
      show World.ownsRow _ _ _ _ _ _ _
      have := howi
      unfold IntsFrom at this
      rw [HLM.out] at this
      exact this
     clear hfs hfm
     --A(
     by_cases hbt : a < NN ∧ NN < z
     ·obtain ⟨hb1, hb2⟩ := hbt
      have HFN : Hid (([TA, TZ].take (m + 1)).filter (betB a z) = FM ++ [NN]) := by
       show _ = _
       rw [HFS.out, if_pos (by unfold betB; simp [hb1, hb2])]
      go_upto_region 10 with fail
      go_wp2_with (at_builtin; refine wpList_append_lies _ rfl _ _ 22 rfl b3 3 i0 _ 1 8 Tryz.underlying22 hi0 hz0 hz1 hz2 rfl (by decide) _ LM _ rfl (World.ownsRow.alloc HOWI.out _) ⟨_, 0, none⟩ 1 1 [.int .i64 NN] rfl rfl (one_cell _ NN _) (one_oneCell NN) (by decide) (by unfold maxLen; omega) (by omega) (by have := HB3.out; simp; omega) _ rfl ?_; intro g9 cap w9 hown9 hg9 hat9 hgl9)
      have hB9 := (hBi.alloc _).grown hg9 hnbi
      have hG9 : w.grownBy w9 none := gr_grown (gr_alloc hgi _) hg9 (fun g e => .inr (by have := (howi.lt g e).1; have := HB3.out; omega))
      have hnb9 : some gB ≠ (Value.slice (some ⟨g9, 0, none⟩) (LM + 1) cap).ownBlock := fun e => by
       have e2 : gB = g9 := by simpa [Value.ownBlock] using e
       rcases hat9 with h | h
       ·exact hnbi (by rw [e2]; exact h.symm)
       ·have := hBi.lt
        simp at h
        omega
      have hrow9 : IntsFrom b3 w9 (.slice (some ⟨g9, 0, none⟩) (LM + 1) cap) (a :: (X ++ ([TA, TZ].take (m + 1)).filter (betB a z))) := by
       rw [HFN.out]
       unfold IntsFrom
       have hl1 : (a :: (X ++ (FM ++ [NN]))).length = LM + 1 := by have := HLM.out; simp at this ⊢; omega
       rw [hl1]
       simpa using hown9
      go_wp2_with fail
      go_roundw
      case rel => exact ⟨m + 1, by omega, by go_num, hrow9, hnb9, hB9, hG9⟩
      case measure => simp [intOf]; omega
     ·have HFN : Hid (([TA, TZ].take (m + 1)).filter (betB a z) = FM) := by
       show _ = _
       rw [HFS.out, if_neg (by unfold betB; simpa using hbt)]
      have hrow9 : IntsFrom b3 wr (.slice A4 LM c4) (a :: (X ++ ([TA, TZ].take (m + 1)).filter (betB a z))) := by
       rw [HFN.out]
       exact howi
      by_cases hb1 : a < NN
      ·have hb2 : ¬ NN < z := fun h => hbt ⟨hb1, h⟩
       clear hbt
       go_wp2_with fail
       go_roundw
       case rel => exact ⟨m + 1, by omega, by go_num, hrow9, hnbi, hBi, hgi⟩
       case measure => simp [intOf]; omega
      ·clear hbt
       go_wp2_with fail
       go_roundw
       case rel => exact ⟨m + 1, by omega, by go_num, hrow9, hnbi, hBi, hgi⟩
       case measure => simp [intOf]; omega
     --A)
    ·have hmi : ¬ (m : Int) < 2 := by omega
     --A(
     obtain rfl : m = 2 := by omega
     have hrowE := howi
     rw [show (a :: (X ++ ([TA, TZ].take 2).filter (betB a z))) = a :: edgI l p (js.take (k + 1)) a z by rw [HST.out]; rfl] at hrowE
     go_wp2_with fail
     go_roundw
     case rel => exact ⟨k + 1, by omega, by go_num, hrowE, hgi⟩
     case measure => simp [intOf]; omega
     --A)
  ·obtain rfl : k = js.length := by omega
   have hkl : ¬ (js.length : Int) < (js.length : Int) := by omega
   --A(
   rw [List.take_length] at hown
   have hel := edgI_len l p a z js
   have hre := HED.out
   generalize edgI l p js a z = X at *
   have HSO := Lib.hid (sort_own b3 _ (a :: X) wr hown (by simp; omega))
   have hsl : (sortI (a :: X)).length = (a :: X).length := sortI_len _
   generalize sortI (a :: X) = Y at *
   have HRE := Lib.hid hre
   have hrow : ∀ g, (Value.slice A2 LN c2).ownBlock = some g → b3 ≤ g := fun g e => (hown.lt g e).1
   have HRW := Lib.hid hrow
   clear hown hrow hre HED
   go_wp2_with fail
   refine HSO.out.mono ?_
   rintro _ w2 ⟨rfl, hown2, hg2⟩
   have hG2 : w.grownBy w2 none := gr_grown hg hg2 (fun g e => .inr (by have := HRW.out g e; have := HB3.out; omega))
   have HCO := Lib.hid (compact_own b3 _ Y w2 hown2 (by simp at hsl; omega))
   clear hown2 hsl
   go_wp2_with fail
   refine HCO.out.mono ?_
   rintro _ w3 ⟨y, rfl, hown3, hg3⟩
   go_wp2_with fail
   go_ret
   rw [← HB3.out, ← HRE.out] at hown3
   exact ⟨y, rfl, hown3, gr_grown hG2 hg3 (fun g e => .inr (by have := HRW.out g e; have := HB3.out; omega))⟩
   --A)
end Go.Proofs.YtbpkfkbbkgdlaaaGreatDoor

namespace Go.Proofs.YtbpkfkbbkgdlaaaGreatDoor
open Go.RowKit
set_option linter.unusedVariables false
set_option linter.unusedSimpArgs false

theorem nearL_mem {p : List Pfx} {place : ByteArray} {j n : Nat} : j ∈ nearL p place n ↔ ∃ i, i < n ∧ ∃ h : j < p.length, p[j].whole = false ∧ p[j].beg = place.extract 0 (i + 1) := by
 unfold nearL
 simp only [List.mem_flatMap, List.mem_range, idxL_mem]
end Go.Proofs.YtbpkfkbbkgdlaaaGreatDoor

namespace Go.Proofs.YtbpkfkbbkgdlaaaGreatDoor
open Go.RowKit
set_option linter.unusedVariables false
set_option linter.unusedSimpArgs false

/-- A prefix stands ahead of another one in a right table. -/
def PLt (x y : Pfx) : Prop := x.beg.data.toList < y.beg.data.toList ∨ (x.beg = y.beg ∧ ((x.whole = false ∧ y.whole = true) ∨ (x.whole = y.whole ∧ x.a < y.a)))
def Ahead (x y : Pfx) : Prop := PLt x y ∧ (x.beg = y.beg → x.whole = y.whole → x.z ≤ y.a)
theorem cmpPf_lt {x y : Pfx} : cmpPf x y < 0 ↔ PLt x y := by
 unfold cmpPf PLt
 by_cases h1 : cmpS x.beg y.beg = 0
 ·have he := cmpS_0.1 h1
  have hl : ¬ x.beg.data.toList < y.beg.data.toList := by rw [he]; exact List.lt_irrefl _
  rw [if_neg (by simpa using h1)]
  cases hx : x.whole <;> cases hy : y.whole <;> simp [flagI, he, Array.lt_irrefl] <;> omega
 ·rw [if_pos h1, cmpS_lt]
  have hne : x.beg ≠ y.beg := fun e => h1 (cmpS_0.2 e)
  simp [hne]
theorem PLt.trans {x y z : Pfx} (h1 : PLt x y) (h2 : PLt y z) : PLt x z := by
 unfold PLt at *
 rcases h1 with h1 | ⟨e1, h1⟩
 ·rcases h2 with h2 | ⟨e2, h2⟩
  ·exact .inl (List.lt_trans h1 h2)
  ·exact .inl (e2 ▸ h1)
 ·rcases h2 with h2 | ⟨e2, h2⟩
  ·exact .inl (e1 ▸ h2)
  ·refine .inr ⟨e1.trans e2, ?_⟩
   rcases h1 with ⟨a1, b1⟩ | ⟨a1, b1⟩ <;> rcases h2 with ⟨a2, b2⟩ | ⟨a2, b2⟩
   ·rw [b1] at a2; cases a2
   ·exact .inl ⟨a1, a2 ▸ b1⟩
   ·exact .inl ⟨a1.trans a2, b2⟩
   ·exact .inr ⟨a1.trans a2, by omega⟩
theorem PLt.le {x y : Pfx} (h : PLt x y) : x.beg.data.toList < y.beg.data.toList ∨ x.beg = y.beg := by
 rcases h with h | ⟨h, _⟩
 ·exact .inl h
 ·exact .inr h
theorem Ahead.trans {x y z : Pfx} (ht : y.a < y.z) (h1 : Ahead x y) (h2 : Ahead y z) : Ahead x z := by
 refine ⟨h1.1.trans h2.1, fun e w => ?_⟩
 have e1 : x.beg = y.beg := by
  rcases h1.1.le with h | h
  ·rcases h2.1.le with h' | h'
   ·exact absurd (List.lt_trans h h') (by rw [e]; exact List.lt_irrefl _)
   ·exact absurd h (by rw [e, h']; exact List.lt_irrefl _)
  ·exact h
 have e2 : y.beg = z.beg := e1.symm.trans e
 have w1 : x.whole = y.whole := by
  rcases h1.1 with h | ⟨_, ⟨a, b⟩ | ⟨a, _⟩⟩
  ·exact absurd h (by rw [e1]; exact List.lt_irrefl _)
  ·rcases h2.1 with h' | ⟨_, ⟨a', b'⟩ | ⟨a', _⟩⟩
   ·exact absurd h' (by rw [e2]; exact List.lt_irrefl _)
   ·rw [b] at a'; cases a'
   ·rw [w, ← a'] 
  ·exact a
 have h3 := h1.2 e1 w1
 have h4 := h2.2 e2 (w1.symm.trans w)
 omega
theorem timeB_lt {a z : Int} (h : timeB a z = true) : 0 ≤ a ∧ a < z ∧ z ≤ 345686400000 := by unfold timeB at h; simpa using h
theorem chain_pairwise : ∀ (p : List Pfx), (∀ x ∈ p, x.a < x.z) → (∀ k (hk : k + 1 < p.length), Ahead p[k] p[k + 1]) → p.Pairwise Ahead
 | [], _, _ => List.Pairwise.nil
 | [x], _, _ => List.pairwise_singleton _ _
 | x :: y :: r, ht, h => by
   have ih := chain_pairwise (y :: r) (fun z hz => ht z (List.mem_cons_of_mem _ hz)) (fun k hk => by have := h (k + 1) (by simpa using hk); simpa using this)
   have h0 : Ahead x y := h 0 (by simp)
   refine List.pairwise_cons.2 ⟨fun z hz => ?_, ih⟩
   rcases List.mem_cons.1 hz with rfl | hz
   ·exact h0
   ·exact h0.trans (ht y (by simp)) ((List.pairwise_cons.1 ih).1 z hz)
theorem TabRight.ahead {l : List Ent} {p : List Pfx} (h : TabRight l p) : p.Pairwise Ahead := by
 refine chain_pairwise p (fun x hx => (timeB_lt (h.pfx x hx).time).2.1) (fun k hk => ?_)
 obtain ⟨h1, h2⟩ := h.next k hk
 exact ⟨cmpPf_lt.1 h1, fun e w => by
  rcases Int.lt_or_le p[k + 1].a p[k].z with h3 | h3
  ·exact absurd ⟨e, w, h3⟩ h2
  ·exact h3⟩
end Go.Proofs.YtbpkfkbbkgdlaaaGreatDoor

namespace Go.Proofs.YtbpkfkbbkgdlaaaGreatDoor
open Go.RowKit
set_option linter.unusedVariables false
set_option linter.unusedSimpArgs false

def sameB (l : List Ent) (p : List Pfx) (k : Int) (x : Pfx) : Bool := decide (0 ≤ k) && match p[k.toNat]? with | none => false | some y => decide (fndX l y = fndX l x)
/-- Nothing would be otherwise without a prefix, where some others are gone. -/
def needX (l : List Ent) (p : List Pfx) (gone : List Bool) (i : Nat) (x : Pfx) : Bool :=
 decide (tmZ l x ≤ tmA l x) || (edgL l p (nearL p x.beg (min 4 x.beg.size)) (tmA l x) (tmZ l x)).all fun t => sameB l p (lngP l p t x.beg (butB (i : Int) gone)) x
def tidB (l : List Ent) (p : List Pfx) (gone : List Bool) (i : Nat) : Bool := match p[i]? with | none => false | some x => !x.whole && needX l p gone i x
def goneTo (l : List Ent) (p : List Pfx) : Nat → List Bool
 | 0 => List.replicate p.length false
 | i + 1 => (goneTo l p i).set i (tidB l p (goneTo l p i) i)
def outTo (l : List Ent) (p : List Pfx) : Nat → List Pfx
 | 0 => []
 | i + 1 => match p[i]? with | none => outTo l p i | some x => if tidB l p (goneTo l p i) i then outTo l p i else outTo l p i ++ [x]
theorem tidB_at {l : List Ent} {p : List Pfx} {gone : List Bool} {i : Nat} (h : i < p.length) : tidB l p gone i = (!p[i].whole && needX l p gone i p[i]) := by
 unfold tidB; rw [List.getElem?_eq_getElem h]
theorem outTo_yes {l : List Ent} {p : List Pfx} {i : Nat} (h : i < p.length) (ht : tidB l p (goneTo l p i) i = true) : outTo l p (i + 1) = outTo l p i := by
 show (match p[i]? with | none => _ | some x => _) = _
 rw [List.getElem?_eq_getElem h]
 show (if _ then _ else _) = _
 rw [if_pos ht]
theorem outTo_no {l : List Ent} {p : List Pfx} {i : Nat} (h : i < p.length) (ht : tidB l p (goneTo l p i) i = false) : outTo l p (i + 1) = outTo l p i ++ [p[i]] := by
 show (match p[i]? with | none => _ | some x => _) = _
 rw [List.getElem?_eq_getElem h]
 show (if _ then _ else _) = _
 rw [if_neg (by rw [ht]; simp)]
theorem goneTo_len (l : List Ent) (p : List Pfx) : ∀ k, (goneTo l p k).length = p.length
 | 0 => List.length_replicate
 | k + 1 => by unfold goneTo; rw [List.length_set, goneTo_len l p k]
theorem outTo_sub (l : List Ent) (p : List Pfx) : ∀ k, k ≤ p.length → (outTo l p k).Sublist (p.take k)
 | 0, _ => by simp [outTo]
 | k + 1, hk => by
   have ih := outTo_sub l p k (by omega)
   rw [List.take_succ_eq_append_getElem (by omega)]
   cases ht : tidB l p (goneTo l p k) k with
   | true => rw [outTo_yes (by omega) ht]; exact ih.trans (List.sublist_append_left _ _)
   | false => rw [outTo_no (by omega) ht]; exact ih.append (List.Sublist.refl _)
def tidyL (l : List Ent) (p : List Pfx) : List Pfx := outTo l p p.length
end Go.Proofs.YtbpkfkbbkgdlaaaGreatDoor

namespace Go.Proofs.YtbpkfkbbkgdlaaaGreatDoor
set_option linter.unusedVariables false
set_option linter.unusedSimpArgs false

end Go.Proofs.YtbpkfkbbkgdlaaaGreatDoor

namespace Go.Proofs.YtbpkfkbbkgdlaaaGreatDoor
set_option linter.unusedVariables false
set_option linter.unusedSimpArgs false

/-- The steps between the first i signs of one list and the first j of another one. -/
def osa (a b : List UInt8) (i j : Nat) : Nat :=
 if i = 0 then j else if j = 0 then i else
  if 1 < i ∧ 1 < j ∧ a.getD (i - 1) 0 = b.getD (j - 2) 0 ∧ a.getD (i - 2) 0 = b.getD (j - 1) 0 then
   min (min (min (osa a b (i - 1) j + 1) (osa a b i (j - 1) + 1)) (osa a b (i - 1) (j - 1) + if a.getD (i - 1) 0 = b.getD (j - 1) 0 then 0 else 1)) (osa a b (i - 2) (j - 2) + 1)
  else min (min (osa a b (i - 1) j + 1) (osa a b i (j - 1) + 1)) (osa a b (i - 1) (j - 1) + if a.getD (i - 1) 0 = b.getD (j - 1) 0 then 0 else 1)
termination_by i + j
decreasing_by all_goals omega
theorem osa_0 (a b : List UInt8) (j : Nat) : osa a b 0 j = j := by rw [osa, if_pos rfl]
theorem osa_00 (a b : List UInt8) (i : Nat) : osa a b i 0 = i := by
 rw [osa]
 split
 ·omega
 ·rw [if_pos rfl]
/-- The cost of one sign in another one's place. -/
def osC (a b : List UInt8) (i j : Nat) : Nat := if a.getD i 0 = b.getD j 0 then 0 else 1
/-- Three ways to the pair (i + 1, j + 1). -/
def os3 (a b : List UInt8) (i j : Nat) : Nat := min (min (osa a b i (j + 1) + 1) (osa a b (i + 1) j + 1)) (osa a b i j + osC a b i j)
/-- Are the last two signs exchanged? -/
def osX (a b : List UInt8) (i j : Nat) : Bool := decide (1 ≤ i) && decide (1 ≤ j) && decide (a.getD i 0 = b.getD (j - 1) 0) && decide (a.getD (i - 1) 0 = b.getD j 0)
theorem osX_is (a b : List UInt8) (i j : Nat) : osX a b i j = true ↔ 1 ≤ i ∧ 1 ≤ j ∧ a.getD i 0 = b.getD (j - 1) 0 ∧ a.getD (i - 1) 0 = b.getD j 0 := by
 unfold osX; simp [and_assoc]
theorem osa_1 (a b : List UInt8) (i j : Nat) : osa a b (i + 1) (j + 1) = if osX a b i j = true then min (os3 a b i j) (osa a b (i - 1) (j - 1) + 1) else os3 a b i j := by
 rw [osa, if_neg (by omega), if_neg (by omega)]
 unfold os3 osC
 by_cases h : osX a b i j = true
 ·rw [if_pos h]
  obtain ⟨h1, h2, h3, h4⟩ := (osX_is a b i j).1 h
  rw [if_pos ⟨by omega, by omega, by rw [Nat.add_sub_cancel]; exact h3, by rw [Nat.add_sub_cancel]; exact h4⟩]
  rfl
 ·rw [if_neg h, if_neg]
  ·rfl
  ·rintro ⟨h1, h2, h3, h4⟩
   refine h ((osX_is a b i j).2 ⟨by omega, by omega, ?_, ?_⟩)
   ·rw [Nat.add_sub_cancel] at h3; exact h3
   ·rw [Nat.add_sub_cancel] at h4; exact h4
theorem osa_ind {P : Nat → Nat → Prop} (h0 : ∀ j, P 0 j) (h1 : ∀ i, P i 0) (h : ∀ i j, P i (j + 1) → P (i + 1) j → P i j → P (i - 1) (j - 1) → P (i + 1) (j + 1)) : ∀ i j, P i j := by
 have key : ∀ n i j, i + j ≤ n → P i j := fun n => by
  induction n with
  | zero => intro i j hn; obtain rfl : i = 0 := by omega
            exact h0 j
  | succ n ih =>
    intro i j hn
    cases i with
    | zero => exact h0 j
    | succ i =>
      cases j with
      | zero => exact h1 _
      | succ j => exact h i j (ih _ _ (by omega)) (ih _ _ (by omega)) (ih _ _ (by omega)) (ih _ _ (by omega))
 exact fun i j => key _ i j (Nat.le_refl _)
theorem osa_le (a b : List UInt8) : ∀ i j, osa a b i j ≤ i + j := by
 refine osa_ind (P := fun i j => osa a b i j ≤ i + j) (fun j => by rw [osa_0]; omega) (fun i => by rw [osa_00]; omega) ?_
 intro i j h1 h2 h3 h4
 rw [osa_1]
 have : os3 a b i j ≤ i + 1 + (j + 1) := by unfold os3; omega
 split <;> omega
/-- The steps between two lists. -/
def stepsL (a b : List UInt8) : Nat := osa a b a.length b.length
end Go.Proofs.YtbpkfkbbkgdlaaaGreatDoor

namespace Go.Proofs.YtbpkfkbbkgdlaaaGreatDoor
open Go.RowKit
set_option linter.unusedVariables false
set_option linter.unusedSimpArgs false

/-- Numbers in a slice whose length is told. -/
def LFrom (base : Nat) (w : World) (v : Value) (n : Nat) (L : List Int) : Prop := w.ownsRow base 3 1 v n (L.map (Value.int .i64))
theorem LFrom.len {base n : Nat} {w : World} {v : Value} {L : List Int} (h : LFrom base w v n L) : L.length = n := by
 have := h.1; simpa using this
theorem LFrom.ints {base n : Nat} {w : World} {v : Value} {L : List Int} (h : LFrom base w v n L) : IntsFrom base w v L := by
 have e := h.len
 unfold IntsFrom
 rw [e]; exact h
theorem LFrom.at_ {base n : Nat} {w : World} {g c : Nat} {L : List Int} (h : LFrom base w (.slice (some ⟨g, 0, none⟩) n c) n L) (k : Nat) (hk : k < n) : w.cell? ⟨g, k, none⟩ = some (.int .i64 (L.getD k 0)) := by
 have e := h.len
 subst e
 have := IntsFrom.at_ (l := L) h k hk
 rw [this, List.getD_eq_getElem?_getD, List.getElem?_eq_getElem hk]; rfl
end Go.Proofs.YtbpkfkbbkgdlaaaGreatDoor

namespace Go.Proofs.YtbpkfkbbkgdlaaaGreatDoor
open Go.RowKit
set_option linter.unusedVariables false
set_option linter.unusedSimpArgs false

theorem blk_cells3 {w : World} {g : Nat} {t : TypeId} {a b c : Value} (h : Blk w g t #[a, b, c]) : w.cell? ⟨g, 0, none⟩ = some a ∧ w.cell? ⟨g, 1, none⟩ = some b ∧ w.cell? ⟨g, 2, none⟩ = some c := ⟨h.cell 0, h.cell 1, h.cell 2⟩
theorem blk_put3 {w : World} {g : Nat} {t : TypeId} {a b c : Value} (h : Blk w g t #[a, b, c]) (x y z : Value) : Blk (((w.setCell ⟨g, 0, none⟩ x).setCell ⟨g, 1, none⟩ y).setCell ⟨g, 2, none⟩ z) g t #[x, y, z] := ((h.put 0 x).put 1 y).put 2 z
theorem gr_puts3 {a w : World} {g : Nat} (h : a.grownBy w none) (hg : a.heap.size ≤ g) (x y z : Value) : a.grownBy (((w.setCell ⟨g, 0, none⟩ x).setCell ⟨g, 1, none⟩ y).setCell ⟨g, 2, none⟩ z) none := gr_put (gr_put (gr_put h (.inr hg) x) (.inr hg) y) (.inr hg) z
end Go.Proofs.YtbpkfkbbkgdlaaaGreatDoor
