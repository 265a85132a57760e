/- Parts of a proof: Edges, ChgPlain, CutPlain, SkyR, NumsLaw, PairRow, Sco. Conditions: as each statement says. -/
import Derived.Test.YtbamhgaghngjiaaGreatDoorSxaq
import Derived.Lib.Bytealg
import Derived.Lib.ItoaNum
import Derived.Lib.ItoaMem
namespace Go.Proofs.YtbamhgaghngjiaaGreatDoor
open Go.RowKit
set_option linter.unusedVariables false
set_option linter.unusedSimpArgs false

def xj (p : List Pfx) (place : ByteArray) (n : Nat) : List Nat := (List.range n).flatMap fun i => jcs p false (place.extract 0 (i + 1))
theorem jg3 (p : List Pfx) (place : ByteArray) (n : Nat) : xj p place (n + 1) = xj p place n ++ jcs p false (place.extract 0 (n + 1)) := by
 unfold xj; rw [List.range_succ, List.flatMap_append]; simp
theorem jou (p : List Pfx) (f : Bool) (s : ByteArray) : (jcs p f s).length ≤ p.length := by
 unfold jcs xn
 have h1 := List.length_filter_le (jv9 p f s) (List.range p.length)
 rwa [List.length_range] at h1
theorem jfr (p : List Pfx) (place : ByteArray) : ∀ n, (xj p place n).length ≤ n * p.length
 | 0 => by simp [xj]
 | n + 1 => by
   rw [jg3, List.length_append, Nat.add_mul]
   have := jfr p place n
   have := jou p false (place.extract 0 (n + 1))
   omega
theorem ju8 (a b : List Nat) : j2 (a ++ b) = j2 a ++ j2 b := by unfold j2; simp
theorem jcb (a : List Nat) : (j2 a).length = a.length := by unfold j2; simp
theorem jpa {base : Nat} {w : World} {g c : Nat} {l : List Int} (h : IntsFrom base w (.slice (some ⟨g, 0, none⟩) l.length c) l) : ∀ j u, (l.map (Value.int .i64))[j]? = some u → w.cell? ((⟨g, 0, none⟩ : Addr).add j) = some u := by
 intro j u hu
 have hj : j < l.length := by
  have := (List.getElem?_eq_some_iff.1 hu).1
  rwa [List.length_map] at this
 have h1 := IntsFrom.at_ h j hj
 have hadd : (⟨g, 0, none⟩ : Addr).add j = ⟨g, j, none⟩ := by unfold Addr.add; split <;> simp_all
 rw [hadd, h1, ← hu]
 simp [hj]
theorem jrq (l : List Int) : ∀ u ∈ l.map (Value.int .i64), u.oneCell' = true := by
 intro u hu
 obtain ⟨x, _, rfl⟩ := List.mem_map.1 hu
 rfl
set_option maxRecDepth 100000 in
set_option maxHeartbeats 8000000 in
theorem jvq (base base2 gT bB bW : Nat) (u v : Value) (l : List Ent) (p : List Pfx) (place : ByteArray) (w : World) (hT : TabFull base base2 gT bB bW u v l p w) (hlen : p.length ≤ 2000) (hpl : place.size ≤ 1000) :
 Calls Tryz.prog 124 #[.pointer (some ⟨gT, 0, none⟩), .string place] w fun r w' => ∃ z, r = .returned z ∧ IntsFrom w.heap.size w' z (j2 (xj p place (min 4 place.size))) ∧ w.grownBy w' none := by
 obtain ⟨i0, hi0, hz0, hz1, hz2⟩ := info_parts jaa
 have HT := Lib.hid hT
 obtain ⟨M, hM⟩ : ∃ M, min 4 place.size = M := ⟨_, rfl⟩
 have hM4 : M ≤ 4 ∧ M ≤ place.size := by omega
 have hMi : min (4 : Int) (place.size : Int) = (M : Int) := by omega
 rw [hM]
 clear hM hT
 go_enter Tryz.func124, Tryz.ntmps124
 go_wp2_with fail
 go_loopw [5, 6] (fun ov iv wr => ∃ n : Nat, n ≤ M ∧ iv = .int .i64 ((n + 1 : Nat) : Int) ∧ IntsFrom w.heap.size wr ov (j2 (xj p place n)) ∧ w.grownBy wr none) (fun _ iv _ => 5 - (intOf iv).toNat)
 case atStart => exact ⟨0, by omega, rfl, IntsFrom.nil _ _, je _ _⟩
 case round =>
  obtain ⟨n, hn, rfl, hown, hg⟩ := hrel
  obtain ⟨N, hN⟩ : ∃ N, n + 1 = N := ⟨_, rfl⟩
  rw [hN]
  have HN := Lib.hid hN
  obtain ⟨A2, c2, rfl, hl2, _⟩ := hown.shape
  have hnl := jfr p place n
  have hnl2 : (j2 (xj p place n)).length ≤ 8000 := by
   rw [jcb]
   have : n * p.length ≤ 4 * 2000 := Nat.mul_le_mul (by omega) hlen
   omega
  clear hnl hl2
  by_cases hlt : n < M
  ·have hNM : (N : Int) ≤ (M : Int) := by omega
   have hn1 : (0 : Int) ≤ (N : Int) := by omega
   have hn2 : (N : Int) ≤ (place.size : Int) := by omega
   have hn3 : N ≤ place.size := by omega
   have hnw : IntKind.i64.wrap ((N : Int) + 1) = ((N + 1 : Nat) : Int) := by rw [IntKind.wrap_i64]; omega
   have hes : (place.extract 0 N).size ≤ 1000000 := by rw [ByteArray.size_extract]; omega
   have hTr := HT.out.grown hg
   obtain ⟨nB, hmB⟩ := hTr.mB
   obtain ⟨uj, hju, hjn, hlk⟩ := hmB.look2 (place.extract 0 N) hes
   have hlk1 := hlk wr.drew none (jk (je _ _)) (by simp)
   have hst : xj p place (n + 1) = xj p place n ++ jcs p false (place.extract 0 N) := by rw [jg3, hN]
   have hjl := jou p false (place.extract 0 N)
   have cT := hTr.cB
   have cTd : wr.drew.cell? ⟨gT, 2, none⟩ = some (.map (some bB)) := cT
   generalize hjj : jcs p false (place.extract 0 N) = js at *
   have HST := Lib.hid hst
   have hgT := World.block_lt_of_cell? _ _ cT
   have hszw := hg.size
   have hownD : World.ownsRow wr.drew w.heap.size 3 1 (.slice A2 (j2 (xj p place n)).length c2) (j2 (xj p place n)).length ((j2 (xj p place n)).map (Value.int .i64)) := IntsFrom.grown hown (jk (je _ _))
   have hgTw : some gT ≠ (Value.slice A2 (j2 (xj p place n)).length c2).ownBlock := fun e => by
    have h1 := (hownD.lt _ e.symm).1
    have h2 : gT < w.heap.size := World.block_lt_of_cell? _ _ HT.out.cB
    omega
   have HOD := Lib.hid hownD
   have HGW := Lib.hid hgTw
   have hgd := jk hg
   by_cases hj0 : js = []
   ·obtain rfl := hjn hj0
    have hnil : Hid (j2 (xj p place (n + 1)) = j2 (xj p place n)) := by show _ = _; rw [HST.out, hj0, List.append_nil]
    have hrel2 : IntsFrom w.heap.size wr.drew (.slice A2 (j2 (xj p place n)).length c2) (j2 (xj p place (n + 1))) := by rw [hnil.out]; exact HOD.out
    have HREL := Lib.hid hrel2
    generalize (j2 (xj p place n)).length = LN at *
    clear hrel2 hju hst hjn hlk hmB hTr hown hownD hgTw hjj hj0
    go_upto_region 5 with fail
    refine wp_region_held_drew (S := fun V => V.cell? ⟨gT, 2, none⟩ = some (.map (some bB))) (by kernel_rfl) cTd (fun hHeld => ?_)
    refine tkH 0 14 hHeld ?_
    simp only [Act.put, ssA, ssZ, ssS]
    refine tkH 1 15 hHeld ?_
    simp only [Act.put, ssA, ssZ, ssS]
    refine tkH 2 16 hHeld ?_
    simp only [Act.put, ssA, ssZ, ssS]
    refine tkH 3 17 hHeld ?_
    simp only [Act.put, ssA, ssZ, ssS]
    refine tkH 4 18 hHeld ?_
    simp only [Act.put, ssA, ssZ, ssS]
    refine tkH 5 19 hHeld ?_
    simp only [Act.put, ssA, ssZ, ssS]
    refine tkH 6 20 hHeld ?_
    simp only [Act.put, ssA, ssZ, ssS]
    refine tkH 7 21 hHeld ?_
    simp only [Act.put, ssA, ssZ, ssS]
    refine wpAnyH_ready (rs := [8]) (by kernel_rfl) (by simp) ?_
    refine AllReadyH.cons (o := _) rfl (fun K hK => ?_) AllReadyH.nil
    go_simp
    refine hK.out _ _ cTd (fun hHeld8 => ?_)
    clear hK K
    (try simp only [Act.put, ssA, ssZ, ssS])
    refine wpAnyH_ready (rs := [9]) (by kernel_rfl) (by simp) ?_
    refine AllReadyH.cons (o := _) rfl (fun K hK => ?_) AllReadyH.nil
    refine je2 (by rfl) (.tmp 14) (.tmp 22) 22 (by rfl) w.heap.size 3 i0 1 Tryz.underlying22 hi0 _ LN _ (by simp [Act.eval]) HOD.out (by simp [Act.eval]) ?_
    refine hK.out _ _ cTd (fun hHeld9 => ?_)
    clear hK K
    (try simp only [Act.put, ssA, ssZ, ssS])
    refine tkH 10 5 hHeld9 ?_
    simp only [Act.put, ssA, ssZ, ssS]
    refine wpAnyH_done (by kernel_rfl) ?_ _
    go_wp2_with fail
    go_roundw
    case rel => exact ⟨n + 1, by omega, by rw [HN.out]; first | rfl | go_num, HREL.out, hgd⟩
    case measure => simp [intOf]; omega
   obtain ⟨A, c, rfl, hjl2, hjA⟩ := hju.shape
   have hjp : 0 < js.length := List.length_pos_iff.2 hj0
   obtain ⟨gj, rfl, hgjb, _⟩ := hjA (by rw [jcb]; exact hjp)
   have hcs := jpa (IntsFrom.grown hju (jk (je wr none)))
   rw [jcb] at hlk1 hju
   have HCS := Lib.hid hcs
   clear hju hst hjn hlk hmB hTr hown hownD hgTw hjj hj0 hjA hjl2 hcs
   go_upto_region 5 with fail
   refine wp_region_held_drew (S := fun V => V.cell? ⟨gT, 2, none⟩ = some (.map (some bB))) (by kernel_rfl) cTd (fun hHeld => ?_)
   refine tkH 0 14 hHeld ?_
   simp only [Act.put, ssA, ssZ, ssS]
   refine tkH 1 15 hHeld ?_
   simp only [Act.put, ssA, ssZ, ssS]
   refine tkH 2 16 hHeld ?_
   simp only [Act.put, ssA, ssZ, ssS]
   refine tkH 3 17 hHeld ?_
   simp only [Act.put, ssA, ssZ, ssS]
   refine tkH 4 18 hHeld ?_
   simp only [Act.put, ssA, ssZ, ssS]
   refine tkH 5 19 hHeld ?_
   simp only [Act.put, ssA, ssZ, ssS]
   refine tkH 6 20 hHeld ?_
   simp only [Act.put, ssA, ssZ, ssS]
   refine tkH 7 21 hHeld ?_
   simp only [Act.put, ssA, ssZ, ssS]
   refine wpAnyH_ready (rs := [8]) (by kernel_rfl) (by simp) ?_
   refine AllReadyH.cons (o := _) rfl (fun K hK => ?_) AllReadyH.nil
   go_simp
   refine hK.out _ _ cTd (fun hHeld8 => ?_)
   clear hK K
   (try simp only [Act.put, ssA, ssZ, ssS])
   refine wpAnyH_ready (rs := [9]) (by kernel_rfl) (by simp) ?_
   refine AllReadyH.cons (o := _) rfl (fun K hK => ?_) AllReadyH.nil
   refine step_append_lies _ (by rfl) (.tmp 14) (.tmp 22) 22 (by rfl) w.heap.size 3 i0 _ 1 8 Tryz.underlying22 hi0 hz0 hz1 hz2 rfl (by decide) _ _ _ (by simp [Act.eval]) HOD.out ⟨gj, 0, none⟩ js.length c ((j2 js).map (Value.int .i64)) (by simp [Act.eval]) (by rw [List.length_map, jcb, Nat.mul_one]) HCS.out (jrq _) hjp (by unfold maxLen; omega) (by omega) (by show _ ≤ wr.heap.size; omega) _ rfl ?_
   intro g9 cap w9 hown9 hg9 hat hglt
   have cT9 : w9.cell? ⟨gT, 2, none⟩ = some (.map (some bB)) := hg9.cell cTd HGW.out
   refine hK.out _ _ cT9 (fun hHeld9 => ?_)
   clear hK K
   (try simp only [Act.put, ssA, ssZ, ssS])
   refine tkH 10 5 hHeld9 ?_
   simp only [Act.put, ssA, ssZ, ssS]
   refine wpAnyH_done (by kernel_rfl) ?_ _
   have hown4 : IntsFrom w.heap.size w9 (.slice (some ⟨g9, 0, none⟩) ((j2 (xj p place n)).length + js.length) cap) (j2 (xj p place (n + 1))) := by
    rw [HST.out, ju8]
    unfold IntsFrom
    rw [List.map_append, List.length_append, jcb js]
    exact hown9
   have hG9 : w.grownBy w9 none := jh hgd hg9 (fun g e => .inr (by have := (HOD.out.lt g e).1; omega))
   go_wp2_with fail
   go_roundw
   case rel => exact ⟨n + 1, by omega, by rw [HN.out]; first | rfl | go_num, hown4, hG9⟩
   case measure => simp [intOf]; omega
  obtain rfl : n = M := by omega
  have hNM : ¬ (N : Int) ≤ (n : Int) := by omega
  go_wp2_with fail
  go_ret
  exact ⟨_, rfl, hown, hg⟩
theorem jxh {w : World} {g base : Nat} {x : Int} (h : Blk w g 3 #[.int .i64 x]) (hb : base ≤ g) : IntsFrom base w (.slice (some ⟨g, 0, none⟩) 1 1) [x] :=
 ⟨by simp, .inr ⟨g, 1, _, rfl, hb, h, Nat.le_refl _, by unfold maxLen; simp, by simp, rfl⟩⟩
def tmL (l : List Ent) (p : List Pfx) (j : Nat) : List Int := match p[j]? with | none => [] | some x => [tmA l x, tmZ l x]
def jlv (a z : Int) (n : Int) : Bool := decide (a < n) && decide (n < z)
def jlw (l : List Ent) (p : List Pfx) (js : List Nat) (a z : Int) : List Int := js.flatMap fun j => (tmL l p j).filter (jlv a z)
theorem jq7 (l : List Ent) (p : List Pfx) (js : List Nat) (a z : Int) (k : Nat) (h : k < js.length) (hj : js[k] < p.length) : jlw l p (js.take (k + 1)) a z = jlw l p (js.take k) a z ++ [tmA l p[js[k]], tmZ l p[js[k]]].filter (jlv a z) := by
 unfold jlw
 rw [List.take_succ_eq_append_getElem h, List.flatMap_append]
 simp [tmL, List.getElem?_eq_getElem hj]
theorem je9 (l : List Ent) (p : List Pfx) (a z : Int) : ∀ js : List Nat, (jlw l p js a z).length ≤ 2 * js.length
 | [] => by simp [jlw]
 | j :: r => by
   have ih := je9 l p a z r
   unfold jlw at ih ⊢
   rw [List.flatMap_cons, List.length_append, List.length_cons]
   have h1 := List.length_filter_le (jlv a z) (tmL l p j)
   have h2 : (tmL l p j).length ≤ 2 := by unfold tmL; split <;> simp
   omega
def jqq (l : List Ent) (p : List Pfx) (js : List Nat) (a z : Int) : List Int := jtu (jb0 (a :: jlw l p js a z))
set_option maxRecDepth 100000 in
set_option maxHeartbeats 8000000 in
theorem ju0 (base base2 gT : Nat) (u v s : Value) (l : List Ent) (p : List Pfx) (js : List Nat) (a z : Int) (w : World) (hT : TabAt base gT u v l p w) (hO : TabOk l p) (hs : IntsFrom base2 w s (j2 js)) (hjs : ∀ j ∈ js, j < p.length) (hjn : js.length ≤ 100000) :
 Calls Tryz.prog 123 #[.pointer (some ⟨gT, 0, none⟩), s, .int .i64 a, .int .i64 z] w fun r w' => ∃ y, r = .returned y ∧ IntsFrom w.heap.size w' y (jqq l p js a z) ∧ w.grownBy w' none := by
 obtain ⟨i0, hi0, hz0, hz1, hz2⟩ := info_parts jaa
 obtain ⟨A, c, rfl, hlen, hA⟩ := hs.shape
 have hml : (j2 js).length = js.length := jcb js
 rw [hml] at hlen hA hs
 have HS := Lib.hid hs
 have HML := Lib.hid hml
 have HA := Lib.hid hA
 have HT := Lib.hid hT
 rw [hml]
 have hg0 := World.grownBy_alloc w (.cells #[.int .i64 a] 3) none
 have hown0 := jxh (Blk.new w 3 #[.int .i64 a]) (Nat.le_refl w.heap.size)
 obtain ⟨RR, hRR⟩ : ∃ RR, jqq l p js a z = RR := ⟨_, rfl⟩
 have HED : Hid (RR = jtu (jb0 (a :: jlw l p js a z))) := hRR.symm
 rw [hRR]
 clear hRR
 clear hs hA hT hml
 go_enter Tryz.func123, Tryz.ntmps123
 go_upto_region 2 with fail
 generalize w.alloc (.cells #[.int .i64 a] 3) = w1 at *
 obtain ⟨b3, hb3⟩ : ∃ x, w.heap.size = x := ⟨_, rfl⟩
 rw [hb3] at hown0 ⊢
 have HB3 := Lib.hid hb3
 clear hb3
 go_wp2_with fail
 go_loopw [9, 19] (fun ov kv wr => ∃ k : Nat, k ≤ js.length ∧ kv = .int .i64 k ∧ IntsFrom b3 wr ov (a :: jlw l p (js.take k) a z) ∧ w.grownBy wr none) (fun _ kv _ => js.length - (intOf kv).toNat)
 case atStart => exact ⟨0, by omega, rfl, hown0, hg0⟩
 case round =>
  obtain ⟨k, hk, rfl, hown, hg⟩ := hrel
  clear hown0 hg0
  obtain ⟨A2, c2, rfl, _, _⟩ := hown.shape
  generalize hLN : (a :: jlw l p (js.take k) a z).length = LN at *
  have HLN := Lib.hid hLN
  clear hLN
  by_cases hlt : k < js.length
  ·have hki : (k : Int) < (js.length : Int) := by omega
   obtain ⟨gj, rfl, _, hgl⟩ := HA.out (by omega)
   have hat := IntsFrom.at_ (l := j2 js) (g := gj) (c := c) (by rw [HML.out]; exact HS.out.grown hg) k (by rw [HML.out]; exact hlt)
   rw [show (j2 js)[k]'(by rw [HML.out]; exact hlt) = (js[k] : Int) by simp [j2]] at hat
   have hJp := hjs _ (List.getElem_mem hlt)
   have hst := jq7 l p js a z k hlt hJp
   have HTM : Hid (∀ W, w.grownBy W none → Calls Tryz.prog 122 #[.pointer (some ⟨gT, 0, none⟩), .int .i64 (js[k] : Int)] W fun r w' => r = .returned (.agg #[.int .i64 (tmA l p[js[k]]), .int .i64 (tmZ l p[js[k]])]) ∧ W.grownBy w' none) := fun W hW => jih base gT u v l p js[k] W (HT.out.grown hW) hO hJp
   have hel := je9 l p a z (js.take k)
   rw [List.length_take] at hel
   generalize hX : jlw l p (js.take k) a z = X at *
   generalize tmA l p[js[k]] = TA at *
   generalize tmZ l p[js[k]] = TZ at *
   generalize js[k] = J at *
   have HST := Lib.hid hst
   have hXn : X.length ≤ 200000 := by omega
   clear hst hX hel
   go_wp2_with fail
   refine (HTM.out _ hg).mono ?_
   rintro _ w2 ⟨rfl, hg2⟩
   have hgw2 := ja hg hg2
   have hown2 := hown.grown hg2
   have hD := Blk.new w2 29 #[.int .i64 TA, .int .i64 TZ]
   have hgD := World.grownBy_alloc w2 (.cells #[.int .i64 TA, .int .i64 TZ] 29) none
   have hgw3 := ja hgw2 hgD
   have hown3 := hown2.grown hgD
   clear hown hown2 hg2 hat hg
   go_upto_region 6 with fail
   generalize w2.alloc (.cells #[.int .i64 TA, .int .i64 TZ] 29) = w3 at *
   have d0 := hD.cell 0
   have d1 := hD.cell 1
   simp only [geA, geZ, geS] at d0 d1
   have hB := Blk.new w3 3 #[.int .i64 TA, .int .i64 TZ]
   have hgB := World.grownBy_alloc w3 (.cells #[.int .i64 TA, .int .i64 TZ] 3) none
   have hgw4 := ja hgw3 hgB
   have hown4 := hown3.grown hgB
   have hnb : some w3.heap.size ≠ (Value.slice A2 LN c2).ownBlock := fun e => by
    have := (hown3.lt _ e.symm).2
    omega
   clear hown3
   go_upto_region 7 with fail
   generalize w3.alloc (.cells #[.int .i64 TA, .int .i64 TZ] 3) = w4 at *
   generalize w3.heap.size = gB at *
   go_loopw [9, 32] (fun ov mv wi => ∃ m : Nat, m ≤ 2 ∧ mv = .int .i64 m ∧ IntsFrom b3 wi ov (a :: (X ++ ([TA, TZ].take m).filter (jlv a z))) ∧ some gB ≠ ov.ownBlock ∧ Blk wi gB 3 #[.int .i64 TA, .int .i64 TZ] ∧ w.grownBy wi none) (fun _ mv _ => 2 - (intOf mv).toNat)
   case atStart => exact ⟨0, by omega, rfl, by simpa using hown4, hnb, hB, hgw4⟩
   case round =>
    obtain ⟨m, hm, rfl, howi, hnbi, hBi, hgi⟩ := hrel
    clear hown4 hnb hB hgw4 hgw3 hgw2 hgB hgD
    by_cases hm2 : m < 2
    ·have hmi : (m : Int) < 2 := by omega
     have hfs := jc5 (jlv a z) [TA, TZ] m (by simpa using hm2)
     have hcm : wr.cell? ⟨gB, m, none⟩ = some (.int .i64 ([TA, TZ][m]'(by simpa using hm2))) := by
      rw [hBi.cell m]
      rcases (show m = 0 ∨ m = 1 by omega) with rfl | rfl <;> rfl
     obtain ⟨A4, c4, rfl, _, _⟩ := howi.shape
     have hln : (a :: (X ++ ([TA, TZ].take m).filter (jlv a z))).length ≤ 300000 := by
      have h1 := List.length_filter_le (jlv a z) ([TA, TZ].take m)
      rw [List.length_take] at h1
      simp only [List.length_cons, List.length_append, List.length_nil] at h1 ⊢
      omega
     generalize hfm : ([TA, TZ].take m).filter (jlv a z) = FM at *
     generalize hlm : (a :: (X ++ FM)).length = LM at *
     have HLM := Lib.hid hlm
     clear hlm
     generalize [TA, TZ][m]'(by simpa using hm2) = NN at *
     have HFS := Lib.hid hfs
     have hszi := hgi.size
     have HOWI : Hid (World.ownsRow wr b3 3 1 (.slice A4 LM c4) LM ((a :: (X ++ FM)).map (Value.int .i64))) := by
      show World.ownsRow _ _ _ _ _ _ _
      have := howi
      unfold IntsFrom at this
      rw [HLM.out] at this
      exact this
     clear hfs hfm
     --A(
     by_cases hbt : a < NN ∧ NN < z
     ·obtain ⟨hb1, hb2⟩ := hbt
      have HFN : Hid (([TA, TZ].take (m + 1)).filter (jlv a z) = FM ++ [NN]) := by
       show _ = _
       rw [HFS.out, if_pos (by unfold jlv; simp [hb1, hb2])]
      go_upto_region 10 with fail
      go_wp2_with (at_builtin; refine wpList_append_lies _ rfl _ _ 22 rfl b3 3 i0 _ 1 8 Tryz.underlying22 hi0 hz0 hz1 hz2 rfl (by decide) _ LM _ rfl (World.ownsRow.alloc HOWI.out _) ⟨_, 0, none⟩ 1 1 [.int .i64 NN] rfl rfl (qw _ NN _) (j3 NN) (by decide) (by unfold maxLen; omega) (by omega) (by have := HB3.out; simp; omega) _ rfl ?_; intro g9 cap w9 hown9 hg9 hat9 hgl9)
      have hB9 := (hBi.alloc _).grown hg9 hnbi
      have hG9 : w.grownBy w9 none := jh (jd hgi _) hg9 (fun g e => .inr (by have := (howi.lt g e).1; have := HB3.out; omega))
      have hnb9 : some gB ≠ (Value.slice (some ⟨g9, 0, none⟩) (LM + 1) cap).ownBlock := fun e => by
       have e2 : gB = g9 := by simpa [Value.ownBlock] using e
       rcases hat9 with h | h
       ·exact hnbi (by rw [e2]; exact h.symm)
       have := hBi.lt
       simp at h
       omega
      have hrow9 : IntsFrom b3 w9 (.slice (some ⟨g9, 0, none⟩) (LM + 1) cap) (a :: (X ++ ([TA, TZ].take (m + 1)).filter (jlv a z))) := by
       rw [HFN.out]
       unfold IntsFrom
       have hl1 : (a :: (X ++ (FM ++ [NN]))).length = LM + 1 := by have := HLM.out; simp at this ⊢; omega
       rw [hl1]
       simpa using hown9
      go_wp2_with fail
      go_roundw
      case rel => exact ⟨m + 1, by omega, by go_num, hrow9, hnb9, hB9, hG9⟩
      case measure => simp [intOf]; omega
     ·have HFN : Hid (([TA, TZ].take (m + 1)).filter (jlv a z) = FM) := by
       show _ = _
       rw [HFS.out, if_neg (by unfold jlv; simpa using hbt)]
      have hrow9 : IntsFrom b3 wr (.slice A4 LM c4) (a :: (X ++ ([TA, TZ].take (m + 1)).filter (jlv a z))) := by
       rw [HFN.out]
       exact howi
      by_cases hb1 : a < NN
      ·have hb2 : ¬ NN < z := fun h => hbt ⟨hb1, h⟩
       clear hbt
       go_wp2_with fail
       go_roundw
       case rel => exact ⟨m + 1, by omega, by go_num, hrow9, hnbi, hBi, hgi⟩
       case measure => simp [intOf]; omega
      clear hbt
      go_wp2_with fail
      go_roundw
      case rel => exact ⟨m + 1, by omega, by go_num, hrow9, hnbi, hBi, hgi⟩
      case measure => simp [intOf]; omega
     --A)
    have hmi : ¬ (m : Int) < 2 := by omega
    --A(
    obtain rfl : m = 2 := by omega
    have hrowE := howi
    rw [show (a :: (X ++ ([TA, TZ].take 2).filter (jlv a z))) = a :: jlw l p (js.take (k + 1)) a z by rw [HST.out]; rfl] at hrowE
    go_wp2_with fail
    go_roundw
    case rel => exact ⟨k + 1, by omega, by go_num, hrowE, hgi⟩
    case measure => simp [intOf]; omega
    --A)
  obtain rfl : k = js.length := by omega
  have hkl : ¬ (js.length : Int) < (js.length : Int) := by omega
  --A(
  rw [List.take_length] at hown
  have hel := je9 l p a z js
  have hre := HED.out
  generalize jlw l p js a z = X at *
  have HSO := Lib.hid (jn3 b3 _ (a :: X) wr hown (by simp; omega))
  have hsl : (jb0 (a :: X)).length = (a :: X).length := jds _
  generalize jb0 (a :: X) = Y at *
  have HRE := Lib.hid hre
  have hrow : ∀ g, (Value.slice A2 LN c2).ownBlock = some g → b3 ≤ g := fun g e => (hown.lt g e).1
  have HRW := Lib.hid hrow
  clear hown hrow hre HED
  go_wp2_with fail
  refine HSO.out.mono ?_
  rintro _ w2 ⟨rfl, hown2, hg2⟩
  have hG2 : w.grownBy w2 none := jh hg hg2 (fun g e => .inr (by have := HRW.out g e; have := HB3.out; omega))
  have HCO := Lib.hid (jl7 b3 _ Y w2 hown2 (by simp at hsl; omega))
  clear hown2 hsl
  go_wp2_with fail
  refine HCO.out.mono ?_
  rintro _ w3 ⟨y, rfl, hown3, hg3⟩
  go_wp2_with fail
  go_ret
  rw [← HB3.out, ← HRE.out] at hown3
  exact ⟨y, rfl, hown3, jh hG2 hg3 (fun g e => .inr (by have := HRW.out g e; have := HB3.out; omega))⟩
  --A)
theorem je5 (l : List Ent) (p : List Pfx) (js : List Nat) (a z x : Int) : x ∈ jqq l p js a z ↔ x = a ∨ ∃ j ∈ js, x ∈ tmL l p j ∧ a < x ∧ x < z := by
 unfold jqq
 rw [(jmo _ (jkk _)).2, jj4, List.mem_cons]
 unfold jlw
 simp only [List.mem_flatMap, List.mem_filter, jlv, Bool.and_eq_true, decide_eq_true_eq]
theorem jns {l : List Ent} {p : List Pfx} {js : List Nat} {a z : Int} {j : Nat} (hj : j ∈ js) (hlt : j < p.length) {x y : Int} (hx : a ≤ x) (hxy : x ≤ y) (hy : y < z) (h : ∀ e ∈ jqq l p js a z, ¬ (x < e ∧ e ≤ y)) : jgo l p[j] x = jgo l p[j] y := by
 rw [← jh7, ← jh7]
 have h1 : ¬ (x < tmA l p[j] ∧ tmA l p[j] ≤ y) := fun hh => h _ ((je5 _ _ _ _ _ _).2 (.inr ⟨j, hj, by unfold tmL; rw [List.getElem?_eq_getElem hlt]; simp, by omega, by omega⟩)) hh
 have h2 : ¬ (x < tmZ l p[j] ∧ tmZ l p[j] ≤ y) := fun hh => h _ ((je5 _ _ _ _ _ _).2 (.inr ⟨j, hj, by unfold tmL; rw [List.getElem?_eq_getElem hlt]; simp, by omega, by omega⟩)) hh
 unfold ja0
 rw [decide_eq_decide]
 omega
theorem nearL_mem {p : List Pfx} {place : ByteArray} {j n : Nat} : j ∈ xj p place n ↔ ∃ i, i < n ∧ ∃ h : j < p.length, p[j].whole = false ∧ p[j].beg = place.extract 0 (i + 1) := by
 unfold xj
 simp only [List.mem_flatMap, List.mem_range, idxL_mem]
theorem juu {p : List Pfx} {place : ByteArray} {j : Nat} (h : j < p.length) (hw : p[j].whole = false) (hs : 1 ≤ p[j].beg.size ∧ p[j].beg.size ≤ 4) (hp : Lib.hasPrefix place.data.toList p[j].beg.data.toList = true) : j ∈ xj p place (min 4 place.size) := by
 obtain ⟨h1, h2⟩ := has_beg.1 hp
 exact nearL_mem.2 ⟨p[j].beg.size - 1, by omega, h, hw, by rw [show p[j].beg.size - 1 + 1 = p[j].beg.size by omega]; exact h2⟩
end Go.Proofs.YtbamhgaghngjiaaGreatDoor
namespace Go.Proofs.YtbamhgaghngjiaaGreatDoor
set_option linter.unusedVariables false

theorem size_len' (s : ByteArray) : s.size = s.data.toList.length := by rw [Array.length_toList]; rfl
theorem jfb : ∀ (k u : Nat), u < 10 ^ (k + 1) → Lib.nDigits u ≤ k + 1
 | 0, u, h => by unfold Lib.nDigits; rw [dif_pos (by simpa using h)]; omega
 | k + 1, u, h => by
   unfold Lib.nDigits
   split
   ·omega
   have := jfb k (u / 10) (by rw [Nat.pow_succ] at h; omega)
   omega
def jqo (x : Int) : Int := (419904000000 - 4 * x * x) * 1000000 / (419904000000 + x * x)
def jtx (y : Int) : Int :=
 if 648000 < y then (if 324000 < 1296000 - y then -jqo (648000 - (1296000 - y)) else jqo (1296000 - y))
 else (if 324000 < y then -jqo (648000 - y) else jqo y)
def jzc (a : Int) : Int := jtx (a % 1296000)
theorem jvb (x : Int) (h0 : 0 ≤ x) (h1 : x ≤ 324000) : 0 ≤ x * x ∧ x * x ≤ 104976000000 ∧ 4 * x * x = 4 * (x * x) := by
 refine ⟨Int.mul_nonneg h0 h0, ?_, by rw [Int.mul_assoc]⟩
 have := Int.mul_le_mul h1 h1 h0 (by omega)
 omega
theorem jq1 (x : Int) (h0 : 0 ≤ x) (h1 : x ≤ 324000) : 0 ≤ jqo x ∧ jqo x ≤ 1000000 := by
 obtain ⟨a, b, c⟩ := jvb x h0 h1
 unfold jqo
 rw [c]
 refine ⟨Int.ediv_nonneg (by omega) (by omega), ?_⟩
 refine Int.le_of_lt_add_one (Int.ediv_lt_of_lt_mul (by omega) ?_)
 omega
theorem jnf (a : Int) : (a.tmod 1296000 + 1296000) % 1296000 = a % 1296000 := by
 have := Int.tmod_add_mul_tdiv a 1296000
 have h1 := jec a 1296000 (by omega)
 omega
end Go.Proofs.YtbamhgaghngjiaaGreatDoor

namespace Go.Proofs.YtbamhgaghngjiaaGreatDoor
set_option linter.unusedVariables false
open Go.RowKit

set_option maxHeartbeats 400000 in
theorem jfg (x : Int) (w : World) (h0 : 0 ≤ x) (h1 : x ≤ 324000) :
 Calls Tryz.prog 86 #[.int .i64 x] w fun e w' => e = .returned (.int .i64 (jqo x)) ∧ w = w' := by
 obtain ⟨a, b, c⟩ := jvb x h0 h1
 have a' : 0 ≤ 4 * x * x := by omega
 have b' : 4 * x * x ≤ 419904000000 := by omega
 have e1 : (x % 1296000 + 1296000) % 1296000 = x := by omega
 clear c
 go_enter Tryz.func86, Tryz.ntmps86
 go_wp2_with fail
 go_ret
 exact ⟨rfl, rfl⟩
set_option maxHeartbeats 1000000 in
theorem jp2 (x : Int) (w : World) (h0 : -1000000000000000 ≤ x) (h1 : x ≤ 1000000000000000) :
 Calls Tryz.prog 86 #[.int .i64 x] w fun e w' => e = .returned (.int .i64 (jzc x)) ∧ w = w' := by
 have ht := jec x 1296000 (by omega)
 obtain ⟨t1, t2⟩ := ht
 have hc := jnf x
 have hfin : jzc x = jtx (x % 1296000) := rfl
 obtain ⟨y, hy⟩ : ∃ y, y = x % 1296000 := ⟨_, rfl⟩
 have y0 : 0 ≤ y := by omega
 have y1 : y < 1296000 := by omega
 rw [← hy] at hc hfin
 have hc2 : 0 ≤ x → (x % 1296000 + 1296000) % 1296000 = y := fun _ => by omega
 have HF := Lib.hid hfin
 clear hfin hy
 by_cases hx : 0 ≤ x
 all_goals first | (have hc3 := hc2 hx; clear hc hc2) | clear hc2
 all_goals
  by_cases g1 : 648000 < y
  ·obtain ⟨z, hz⟩ : ∃ z, 1296000 - y = z := ⟨_, rfl⟩
   have z0 : 0 ≤ z := by omega
   have z1 : z < 648000 := by omega
   by_cases g2 : 324000 < z
   ·have HE := Lib.hid (show jtx y = -jqo (648000 - z) by unfold jtx; rw [if_pos g1, hz, if_pos g2])
    have hbd := jq1 (648000 - z) (by omega) (by omega)
    obtain ⟨d1, d2⟩ := hbd
    go_enter Tryz.func86, Tryz.ntmps86
    go_wp2_with (go_at_call 86; refine (jfg _ _ (by omega) (by omega)).mono ?_; rintro e w' ⟨rfl, rfl⟩)
    go_ret
    exact ⟨ji (by rw [HF.out, HE.out]), rfl⟩
   have HE := Lib.hid (show jtx y = jqo z by unfold jtx; rw [if_pos g1, hz, if_neg g2])
   obtain ⟨a, b, c⟩ := jvb z z0 (by omega)
   have a' : 0 ≤ 4 * z * z := by omega
   have b' : 4 * z * z ≤ 419904000000 := by omega
   clear c
   go_enter Tryz.func86, Tryz.ntmps86
   go_wp2_with fail
   go_ret
   exact ⟨ji (by rw [HF.out, HE.out]; rfl), rfl⟩
  by_cases g2 : 324000 < y
  ·have HE := Lib.hid (show jtx y = -jqo (648000 - y) by unfold jtx; rw [if_neg g1, if_pos g2])
   have hbd := jq1 (648000 - y) (by omega) (by omega)
   obtain ⟨d1, d2⟩ := hbd
   go_enter Tryz.func86, Tryz.ntmps86
   go_wp2_with (go_at_call 86; refine (jfg _ _ (by omega) (by omega)).mono ?_; rintro e w' ⟨rfl, rfl⟩)
   go_ret
   exact ⟨ji (by rw [HF.out, HE.out]), rfl⟩
  have HE := Lib.hid (show jtx y = jqo y by unfold jtx; rw [if_neg g1, if_neg g2])
  obtain ⟨a, b, c⟩ := jvb y y0 (by omega)
  have a' : 0 ≤ 4 * y * y := by omega
  have b' : 4 * y * y ≤ 419904000000 := by omega
  clear c
  go_enter Tryz.func86, Tryz.ntmps86
  go_wp2_with fail
  go_ret
  exact ⟨ji (by rw [HF.out, HE.out]; rfl), rfl⟩
end Go.Proofs.YtbamhgaghngjiaaGreatDoor

namespace Go.Proofs.YtbamhgaghngjiaaGreatDoor
set_option linter.unusedVariables false

end Go.Proofs.YtbamhgaghngjiaaGreatDoor

namespace Go.Proofs.YtbamhgaghngjiaaGreatDoor
open Go.RowKit
set_option linter.unusedVariables false

theorem i64_in (n : Int) (h : -9223372036854775808 ≤ n ∧ n ≤ 9223372036854775807) : IntKind.i64.wrap n = n := IntWalk.i64_in n h
end Go.Proofs.YtbamhgaghngjiaaGreatDoor

namespace Go.Proofs.YtbamhgaghngjiaaGreatDoor
open Go.RowKit
set_option linter.unusedVariables false

end Go.Proofs.YtbamhgaghngjiaaGreatDoor

namespace Go.Proofs.YtbamhgaghngjiaaGreatDoor
open Go.RowKit
set_option linter.unusedVariables false

set_option maxHeartbeats 400000 in
theorem jmm (x : Int) (w : World) :
 Calls Tryz.prog 42 #[.int .i64 x] w fun r w' =>
  r = .returned (.tuple #[.int .i64 (okI (jdf x (-1296000000) 1296000000) (jzc x)), .int .i64 (jdf x (-1296000000) 1296000000)]) ∧ w = w' := by
 rcases jc7 x (-1296000000) 1296000000 with ⟨he, h1, h2⟩ | ⟨he, h1⟩
 ·have HE := Lib.hid he
  have hb : qy x (-1296000000) 1296000000 = false := jae h1 h2
  clear he
  go_enter Tryz.func42, Tryz.ntmps42
  go_wp2_with (first | (go_at_call 59; refine (qf _ _ _ _).mono ?_; rintro r w' ⟨rfl, rfl⟩) | (go_at_call 86; refine (jp2 _ _ (by omega) (by omega)).mono ?_; rintro r w' ⟨rfl, rfl⟩))
  go_ret2
  exact ⟨jn9 (by unfold okI; rw [HE.out]; rfl) HE.out.symm, rfl⟩
 have HE := Lib.hid he
 have hb : qy x (-1296000000) 1296000000 = true := xr h1
 clear he
 go_enter Tryz.func42, Tryz.ntmps42
 go_wp2_with (first | (go_at_call 59; refine (qf _ _ _ _).mono ?_; rintro r w' ⟨rfl, rfl⟩))
 go_ret2
 exact ⟨jn9 (by unfold okI; rw [HE.out]; rfl) HE.out.symm, rfl⟩
theorem jzl : jzc 216000 = 500000 := by decide +kernel
end Go.Proofs.YtbamhgaghngjiaaGreatDoor

namespace Go.Proofs.YtbamhgaghngjiaaGreatDoor
open Go.RowKit
set_option linter.unusedVariables false

theorem jnm (w : World) : Calls Tryz.prog 41 #[.string ⟨#[111, 104, 50, 97, 98, 99, 47, 52]⟩] w fun e w' =>
 e = .returned (.tuple #[.agg #[.string ⟨#[111, 104, 50, 97, 98, 99]⟩, .string ⟨#[111, 104, 50]⟩, .string ⟨#[97, 98, 99]⟩, .int .i64 2, .string ⟨#[52]⟩], .int .i64 0]) ∧ w.grownBy w' none := by
 refine (js4 _ w (by decide) ?_).mono ?_
 ·intro j b h
  have hm := List.mem_of_getElem? h
  have hall : ∀ b ∈ (⟨#[111, 104, 50, 97, 98, 99, 47, 52]⟩ : ByteArray).data.toList, b.toNat < 128 := by decide +kernel
  exact hall b hm
 rintro e w' ⟨hg, h⟩
 refine ⟨?_, hg⟩
 rcases h with ⟨h, _⟩ | ⟨t, k, kd, ad, h, rfl⟩
 ·rw [jdn] at h; cases h
 rw [jdn] at h
 simp only [Option.some.injEq, Prod.mk.injEq] at h
 obtain ⟨rfl, rfl, rfl, rfl⟩ := h
 rfl
theorem jmf (b : Nat) (w : World) (hgl : Gl b w) : Calls Tryz.prog 43 #[.string ⟨#[112, 97, 114, 105, 115]⟩] w fun e w' =>
 e = .returned (.tuple #[.int .i64 43, .int .i64 0]) ∧ w.grownBy w' none := by
 have h := jra b js3 w hgl (by decide)
 rw [juc, jmx] at h
 exact h
theorem jjw (w : World) : Calls Tryz.prog 42 #[.int .i64 216000] w fun e w' =>
 e = .returned (.tuple #[.int .i64 500000, .int .i64 0]) ∧ w = w' := by
 have h1 : jdf 216000 (-1296000000) 1296000000 = 0 := joc (by omega) (by omega)
 have h := jmm 216000 w
 rw [h1, jzl] at h
 exact h
theorem jpy (w : World) : Calls Tryz.prog 44 #[.slice (some ⟨w.heap.size, 0, none⟩) 3 3, .agg #[.int .i64 0, .int .i64 3600000], .int .i64 900000] (w.alloc (.cells #[.int .i64 0, .int .i64 600000, .int .i64 1200000] 3)) fun e w' =>
 e = .returned (.tuple #[.int .i64 0, .int .i64 2, .int .i64 0]) ∧ w.grownBy w' none := by
 have hb := Blk.new w 3 (([0, 600000, 1200000] : List Int).map (Value.int .i64)).toArray
 have hl : IntsFrom 0 _ _ [0, 600000, 1200000] := jvg hb (Nat.zero_le _) (by decide)
 have e1 : jan [0, 600000, 1200000] 0 3600000 = 0 := by decide
 have e2 : jr7 900000 = 0 := by decide
 have e3 : jln [0, 600000, 1200000] 0 900000 = (0, 2) := by decide
 have H := (jwr 0 _ _ 0 3600000 900000 _ hl e1 e2)
 rw [e3] at H
 exact H.mono fun e w' ⟨he, hg⟩ => ⟨he, ja (World.grownBy_alloc w _ none) hg⟩
end Go.Proofs.YtbamhgaghngjiaaGreatDoor
namespace Go.Proofs.YtbamhgaghngjiaaGreatDoor
open Go.RowKit
set_option linter.unusedVariables false

structure P10 (b : Nat) (w : World) : Prop where
 tab : Lib.TabIs Tryz.prog w "internal/strconv.uint64pow10" .u64 Lib.pow10Tab
 lt : 5 < b
 lb : b ≤ w.heap.size
theorem P10.grown {b : Nat} {w w' : World} (h : P10 b w) (hg : w.grownBy w' none) : P10 b w' :=
 ⟨jli (by kernel_rfl) h.tab hg (Nat.lt_of_lt_of_le h.lt h.lb) (by simp), h.lt, Nat.le_trans h.lb hg.size⟩
def itZ (t : Int) : ByteArray := ⟨(Lib.decDigits t.toNat).toArray⟩
theorem jgc (b : Nat) (t : Int) (w : World) (h0 : 0 ≤ t) (h1 : t ≤ 1000000000000) (hp : P10 b w) :
 Calls Tryz.prog 174 #[.int .i64 t] w fun e w' => e = .returned (.string (itZ t)) ∧ w.grownBy w' none := by
 obtain ⟨n, rfl⟩ := Int.eq_ofNat_of_zero_le h0
 refine (Tryz.strconv_Itoa (n : Int) (by omega) (by omega) w hp.tab).mono ?_
 rintro e w' ⟨rfl, k, os, rfl⟩
 refine ⟨by rw [Lib.itoa_nonneg]; rfl, ?_⟩
 exact ja (xg (je _ _) k) ⟨rfl, rfl, rfl, by simp, fun i hi _ => Sort.heap_grow_old _ _ (by simpa using hi)⟩
def qd (l : List Ent) (p : List Pfx) (s : ByteArray) (t : Int) : Option Fnd := (jo s).bind (jdl l p s t)
def jxu (a b : Option Fnd) (rel : Int) : Bool :=
 if rel = 0 then true
 else match a, b with
 | some a, some b => if rel = 1 then a.1.toList == b.1.toList else if rel = 2 then a.2.2 == b.2.2 else if rel = 3 then a.2.1 == b.2.1 else if rel = 4 then a.2.1 != b.2.1 else false
 | _, _ => rel == 5
def jku (F : ByteArray → Int → Option Fnd) (own : ByteArray) (x : Con) (r : Rul) : Bool :=
 (r.mode == 0 || r.mode == x.mode) && ((r.band.toList == [] || r.band.toList == x.band.toList) && jxu (F own x.tm) (F x.call x.tm) r.rel)
def jad (F : ByteArray → Int → Option Fnd) (own : ByteArray) (x : Con) : List Rul → Nat → Int
 | [], _ => -1
 | r :: l, k => if jku F own x r then (k : Int) else jad F own x l (k + 1)
def jbj (F : ByteArray → Int → Option Fnd) (own : ByteArray) (rs : List Rul) (x : Con) : Int := jad F own x rs 0
def xu (F : ByteArray → Int → Option Fnd) (own : ByteArray) (rs : List Rul) (x : Con) : Int := if 0 ≤ jbj F own rs x then (rs.getD (jbj F own rs x).toNat ⟨0, 0, ⟨#[]⟩, 0⟩).points else 0
def jir (s : ByteArray) : ByteArray := match jo s with | some q => q.1 | none => ⟨#[]⟩
def jue (s : ByteArray) : ByteArray := match jo s with | some q => q.1.extract 0 (q.2.1 + 1) | none => ⟨#[]⟩
def jyi (by_ : Bool) (x : Con) : ByteArray × ByteArray × Int := (jir x.call, x.band, if by_ then x.mode else 0)
def jv4 (F : ByteArray → Int → Option Fnd) (x : Con) (what : Int) : ByteArray :=
 if what = 4 then jue x.call
 else if what = 5 then x.got
 else match F x.call x.tm with
 | none => ⟨#[]⟩
 | some f => if what = 1 then f.1 else if what = 2 then itZ f.2.2 else itZ f.2.1
def jda (F : ByteArray → Int → Option Fnd) (x : Con) (m : Mul) : ByteArray :=
 let a := jv4 F x m.what
 if a.size = 0 then ⟨#[]⟩
 else
  let b := if m.byBand then a ++ (⟨#[32]⟩ ++ x.band) else a
  if m.byMode then b ++ (⟨#[32]⟩ ++ itZ x.mode) else b
theorem jmt (F : ByteArray → Int → Option Fnd) (own : ByteArray) (x : Con) (rs : List Rul) (k : Nat) (h : k < rs.length) : jad F own x (rs.drop k) k = if jku F own x rs[k] then (k : Int) else jad F own x (rs.drop (k + 1)) (k + 1) := by
 rw [List.drop_eq_getElem_cons h]
 rfl
theorem jp1 (F : ByteArray → Int → Option Fnd) (own : ByteArray) (x : Con) (rs : List Rul) (k : Nat) : jad F own x (rs.drop rs.length) k = -1 := by rw [List.drop_length]; rfl
theorem jka (F : ByteArray → Int → Option Fnd) (own : ByteArray) (x : Con) : ∀ (rs : List Rul) (k : Nat), jad F own x rs k = -1 ∨ ((k : Int) ≤ jad F own x rs k ∧ jad F own x rs k < (k + rs.length : Nat))
 | [], k => .inl rfl
 | r :: l, k => by
   unfold jad
   split
   ·right; constructor
    ·omega
    simp only [List.length_cons]; omega
   rcases jka F own x l (k + 1) with h | ⟨h1, h2⟩
   ·exact .inl h
   right; constructor
   ·omega
   simp only [List.length_cons]; omega
theorem joj (F : ByteArray → Int → Option Fnd) (own : ByteArray) (x : Con) (rs : List Rul) : jbj F own rs x = -1 ∨ (0 ≤ jbj F own rs x ∧ jbj F own rs x < (rs.length : Int)) := by
 rcases jka F own x rs 0 with h | ⟨h1, h2⟩
 ·exact .inl h
 right; unfold jbj; omega
def j8 (F : ByteArray → Int → Option Fnd) (ms : List Mul) (x : Con) : Nat → List (Nat × ByteArray)
 | 0 => []
 | k + 1 => j8 F ms x k ++ (if (jda F x (ms.getD k ⟨0, false, false⟩)).size = 0 then [] else [(k, jda F x (ms.getD k ⟨0, false, false⟩))])
theorem jfm (F : ByteArray → Int → Option Fnd) (ms : List Mul) (x : Con) (k : Nat) (h : k < ms.length) : j8 F ms x (k + 1) = j8 F ms x k ++ (if (jda F x ms[k]).size = 0 then [] else [(k, jda F x ms[k])]) := by
 have : ms.getD k ⟨0, false, false⟩ = ms[k] := by simp [h]
 rw [← this]; rfl
def yi (l : List Con) (i : Nat) : Con := l.getD i ⟨0, 0, ⟨#[]⟩, ⟨#[]⟩, 0, 0, ⟨#[]⟩, ⟨#[]⟩⟩
end Go.Proofs.YtbamhgaghngjiaaGreatDoor
