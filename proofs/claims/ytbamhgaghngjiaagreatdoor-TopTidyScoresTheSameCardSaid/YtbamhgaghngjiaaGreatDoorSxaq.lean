/- Parts of a proof: Longest, FindT. Conditions: as each statement says. -/
import Derived.Test.YtbamhgaghngjiaaGreatDoorSxap
namespace Go.Proofs.YtbamhgaghngjiaaGreatDoor
open Go.RowKit
set_option linter.unusedVariables false
set_option linter.unusedSimpArgs false

def BoolsFrom (base : Nat) (w : World) (v : Value) (l : List Bool) : Prop := w.ownsRow base 4 1 v l.length (l.map Value.bool)
theorem BoolsFrom.grown {base : Nat} {w w' : World} {v : Value} {l : List Bool} (h : BoolsFrom base w v l) (hg : w.grownBy w' none) : BoolsFrom base w' v l := j4 h hg
theorem BoolsFrom.shape {base : Nat} {w : World} {v : Value} {l : List Bool} (h : BoolsFrom base w v l) :
 ∃ A c, v = .slice A l.length c ∧ l.length ≤ 9223372036854775807 ∧ (0 < l.length → ∃ g, A = some ⟨g, 0, none⟩ ∧ base ≤ g ∧ g < w.heap.size) := jw h
theorem BoolsFrom.at_ {base : Nat} {w : World} {g c : Nat} {l : List Bool} (h : BoolsFrom base w (.slice (some ⟨g, 0, none⟩) l.length c) l) (k : Nat) (hk : k < l.length) : w.cell? ⟨g, k, none⟩ = some (.bool l[k]) := by
 rw [World.ownsRow.cellAt h _ (by omega)]
 simp [hk]
def zd (i : Int) (gone : List Bool) (k : Nat) : Bool := decide ((k : Int) = i) || gone.getD k false
theorem jws (base gi gg : Nat) (i : Int) (gv : Value) (gone : List Bool) (k : Nat) (w : World) (hi : w.cell? ⟨gi, 0, none⟩ = some (.int .i64 i)) (hg : w.cell? ⟨gg, 0, none⟩ = some gv) (hv : BoolsFrom base w gv gone) (hk : k < gone.length) :
 Calls Tryz.prog 121 #[.int .i64 k, .pointer (some ⟨gi, 0, none⟩), .pointer (some ⟨gg, 0, none⟩)] w fun r w' => r = .returned (.bool (zd i gone k)) ∧ w.grownBy w' none := by
 obtain ⟨A, c, rfl, hlen, hA⟩ := hv.shape
 obtain ⟨g, rfl, _, hgl⟩ := hA (by omega)
 have c0 := hv.at_ k hk
 have hkl : (k : Int) < (gone.length : Int) := by omega
 have hR : zd i gone k = (decide ((k : Int) = i) || gone[k]) := by
  unfold zd
  rw [List.getD_eq_getElem?_getD, List.getElem?_eq_getElem hk]; rfl
 generalize gone[k] = G at *
 have HR := Lib.hid hR
 clear hR hA hv
 by_cases h : (k : Int) = i
 ·have h1 : ((k : Int) == i) = true := by simpa using h
  have HX : Hid (zd i gone k = true) := by show _ = _; rw [HR.out, decide_eq_true h]; rfl
  clear h
  go_enter Tryz.func121, Tryz.ntmps121
  go_wp2_with fail
  go_ret
  exact ⟨yg HX.out.symm, je _ _⟩
 have h1 : ((k : Int) == i) = false := by simpa using h
 have HX : Hid (zd i gone k = G) := by show _ = _; rw [HR.out, decide_eq_false h]; rfl
 clear h
 go_enter Tryz.func121, Tryz.ntmps121
 go_wp2_with fail
 go_ret
 exact ⟨yg HX.out.symm, je _ _⟩
theorem jkq (l : List Ent) (p : List Pfx) (t : Int) (place : ByteArray) (but : Nat → Bool) (n : Nat) : jqr l p t place but (n + 1) = if 0 ≤ jc9 l p t ((jcs p false (place.extract 0 (n + 1))).filter fun i => !but i) then jc9 l p t ((jcs p false (place.extract 0 (n + 1))).filter fun i => !but i) else jqr l p t place but n := rfl
theorem jc5 {α : Type} (f : α → Bool) (js : List α) (k : Nat) (h : k < js.length) : (js.take (k + 1)).filter f = if f js[k] = true then (js.take k).filter f ++ [js[k]] else (js.take k).filter f := by
 rw [List.take_succ_eq_append_getElem h, List.filter_append, List.filter_cons]
 split <;> simp
theorem jur (w : World) (d : Nat) : (Op.equalIn (d + 1) 71 .nilFunc .nilFunc).run Tryz.prog w = .ok true w := by
 simp [Op.equalIn, run_underlying Tryz.underlying71]
theorem ju3 (f : Fn) (a c : Array Value) (w : World) (d : Nat) : (Op.equalIn (d + 1) 71 (.func f a c) .nilFunc).run Tryz.prog w = .ok false w := by
 simp [Op.equalIn, run_underlying Tryz.underlying71]
theorem jyr (w : World) : (Op.equal 71 .nilFunc .nilFunc).run Tryz.prog w = .ok true w := jur w 9999
theorem jy9 (f : Fn) (a c : Array Value) (w : World) : (Op.equal 71 (.func f a c) .nilFunc).run Tryz.prog w = .ok false w := ju3 f a c w 9999
@[go_sem] theorem eqFuncNil (w : World) : (binOp .eql 71 .nilFunc .nilFunc).run Tryz.prog w = .ok (.bool true) w := by
  simp only [binOp]
  simp [jyr w]
@[go_sem] theorem eqFuncHeld (f : Fn) (a c : Array Value) (w : World) : (binOp .eql 71 (.func f a c) .nilFunc).run Tryz.prog w = .ok (.bool false) w := by
  simp only [binOp]
  simp [jy9 f a c w]
set_option maxRecDepth 100000 in
set_option maxHeartbeats 16000000 in
theorem jnq (base base2 gT bB bW : Nat) (u v : Value) (l : List Ent) (p : List Pfx) (place : ByteArray) (t : Int) (w : World) (hT : TabFull base base2 gT bB bW u v l p w) (hO : TabOk l p) (hpl : place.size ≤ 1000) :
 Calls Tryz.prog 100 #[.pointer (some ⟨gT, 0, none⟩), .string place, .int .i64 t, .nilFunc] w fun r w' => r = .returned (.int .i64 (jbq l p t place (fun _ => false))) ∧ w.grownBy w' none := by
 obtain ⟨i0, hi0, hz0, hz1, hz2⟩ := info_parts jaa
 have HT := Lib.hid hT
 obtain ⟨M, hM⟩ : ∃ M, min 4 place.size = M := ⟨_, rfl⟩
 have hM4 : M ≤ 4 ∧ M ≤ place.size := by omega
 have hMi : min (4 : Int) (place.size : Int) = (M : Int) := by omega
 have HE : Hid (jbq l p t place (fun _ => false) = jqr l p t place (fun _ => false) M) := by show _ = _; unfold jbq; rw [hM]
 clear hM hT
 go_enter Tryz.func100, Tryz.ntmps100
 go_wp2_with fail
 go_loopw [9] (fun iv wr => ∃ n : Nat, n ≤ M ∧ iv = .int .i64 n ∧ Hid (jbq l p t place (fun _ => false) = jqr l p t place (fun _ => false) n) ∧ w.grownBy wr none) (fun iv _ => (intOf iv).toNat)
 case atStart => exact ⟨M, Nat.le_refl _, rfl, HE, je _ _⟩
 case round =>
  obtain ⟨n, hn, rfl, HN, hg⟩ := hrel
  clear hMi HE
  rcases Nat.eq_zero_or_pos n with rfl | hpos
  ·have HR : Hid (jbq l p t place (fun _ => false) = -1) := HN.out
   go_wp2_with fail
   go_ret
   exact ⟨ji HR.out.symm, hg⟩
  obtain ⟨m, HM⟩ : ∃ m : Nat, Hid (n = m + 1) := ⟨n - 1, by show _ = _; omega⟩
  have hn0 : (0 : Int) < (n : Int) := by omega
  have hn1 : (0 : Int) ≤ (n : Int) := by omega
  have hn2 : (n : Int) ≤ (place.size : Int) := by omega
  have hn3 : n ≤ place.size := by omega
  have hnw : IntKind.i64.wrap ((n : Int) - 1) = ((m : Nat) : Int) := by have := HM.out; rw [IntKind.wrap_i64]; omega
  have hes : (place.extract 0 n).size ≤ 1000000 := by rw [ByteArray.size_extract]; omega
  have hTr := HT.out.grown hg
  obtain ⟨nB, hmB⟩ := hTr.mB
  obtain ⟨uj, hju, _, hlk⟩ := hmB.look2 (place.extract 0 n) hes
  have hlk1 := hlk wr.drew none (jk (je _ _)) (by simp)
  have hst := jkq l p t place (fun _ => false) m
  rw [← HM.out, ← HN.out] at hst
  have hjs : ∀ j ∈ jcs p false (place.extract 0 n), j < p.length := fun j hj => (idxL_mem.1 hj).1
  have HJL : Hid ((jcs p false (place.extract 0 n)).length ≤ 2000) := by
   show _ ≤ _
   unfold jcs xn
   have h1 := List.length_filter_le (jv9 p false (place.extract 0 n)) (List.range p.length)
   rw [List.length_range] at h1
   have := hO.len
   omega
  have cT := hTr.cB
  have cTd : wr.drew.cell? ⟨gT, 2, none⟩ = some (.map (some bB)) := cT
  generalize hjj : jcs p false (place.extract 0 n) = js at *
  obtain ⟨A, c, rfl, hjl, hjA⟩ := hju.shape
  have hml : (j2 js).length = js.length := by simp [j2]
  rw [hml] at hjl hjA hju hlk1
  have HJA := Lib.hid hjA
  have HML := Lib.hid hml
  have HJS := Lib.hid hjs
  have HST := Lib.hid hst
  clear hjA hjs hst hes hlk hmB hml
  go_upto_region 5 with fail
  refine wp_region_held_drew (S := fun V => V.cell? ⟨gT, 2, none⟩ = some (.map (some bB)) ∧ wr.grownBy V none) (by kernel_rfl) ⟨cT, jk (je _ _)⟩ (fun hHeld => ?_)
  refine tkH 0 21 hHeld ?_
  simp only [Act.put, ssA, ssZ, ssS]
  refine tkH 1 22 hHeld ?_
  simp only [Act.put, ssA, ssZ, ssS]
  refine tkH 2 23 hHeld ?_
  simp only [Act.put, ssA, ssZ, ssS]
  refine tkH 3 24 hHeld ?_
  simp only [Act.put, ssA, ssZ, ssS]
  refine tkH 4 25 hHeld ?_
  simp only [Act.put, ssA, ssZ, ssS]
  refine tkH 5 26 hHeld ?_
  simp only [Act.put, ssA, ssZ, ssS]
  refine tkH 6 27 hHeld ?_
  simp only [Act.put, ssA, ssZ, ssS]
  refine tkH 9 30 hHeld ?_
  simp only [Act.put, ssA, ssZ, ssS]
  refine wpAnyH_ready (rs := [7]) (by kernel_rfl) (by simp) ?_
  refine AllReadyH.cons (o := _) rfl (fun K hK => ?_) AllReadyH.nil
  go_simp
  (skip)
  refine hK.out _ _ ⟨cT, jk (je _ _)⟩ (fun hHeld7 => ?_)
  clear hK K
  (try simp only [Act.put, ssA, ssZ, ssS])
  refine tkH 8 29 hHeld7 ?_
  simp only [Act.put, ssA, ssZ, ssS]
  refine wpAnyH_done (by kernel_rfl) ?_ _
  have HgO := Lib.hid (jk hg)
  have HJU := Lib.hid (IntsFrom.grown hju (jk (je wr none)))
  have HWS : Hid (w.heap.size ≤ wr.drew.heap.size) := hg.size
  clear hlk1 cT cTd hg hjj hju
  generalize wr.drew = wo at *
  clear hTr
  go_wp2_with fail
  go_loopw [10, 30] (fun ov kv wi => ∃ k : Nat, k ≤ js.length ∧ kv = .int .i64 k ∧ IntsFrom wo.heap.size wi ov (j2 ((js.take k).filter fun q => !(fun _ => false) q)) ∧ wo.grownBy wi none) (fun _ kv _ => js.length - (intOf kv).toNat)
  case atStart => exact ⟨0, by omega, rfl, by simpa [j2] using IntsFrom.nil _ _, je _ _⟩
  case round =>
   obtain ⟨k, hk, rfl, hown, hgi⟩ := hrel
   obtain ⟨A2, c2, rfl, hl2, hA2⟩ := hown.shape
   by_cases hlt : k < js.length
   ·have hki : (k : Int) < (js.length : Int) := by omega
    obtain ⟨gj, rfl, _, hgl⟩ := HJA.out (by omega)
    have hat := IntsFrom.at_ (l := j2 js) (g := gj) (c := c) (by rw [HML.out]; exact HJU.out.grown hgi) k (by rw [HML.out]; exact hlt)
    rw [show (j2 js)[k]'(by rw [HML.out]; exact hlt) = (js[k] : Int) by simp [j2]] at hat
    have hfs := jc5 (fun q => !(fun _ => false) q) js k hlt
    have hJp := HJS.out _ (List.getElem_mem hlt)
    have HOL : Hid ((j2 ((js.take k).filter fun q => !(fun _ => false) q)).length ≤ 2000) := by
     show _ ≤ _
     unfold j2
     rw [List.length_map]
     have h1 := List.length_filter_le (fun q => !(fun _ => false) q) (js.take k)
     rw [List.length_take] at h1
     have := HJL.out
     omega
    generalize hfk : (js.take k).filter (fun q => !(fun _ => false) q) = fk at *
    generalize js[k] = J at *
    have HFS := Lib.hid hfs
    have HFK := Lib.hid hfk
    have hsz := hgi.size
    clear hfs hA2 hfk
    have HNEW : Hid ((js.take (k + 1)).filter (fun q => !(fun _ => false) q) = fk ++ [J]) := by show _ = _; rw [HFS.out]; rfl
    have hownX := hown
    go_wp2_with (at_builtin; refine wpList_append_own _ rfl _ _ 22 rfl wo.heap.size 3 i0 _ 1 8 Tryz.underlying22 hi0 hz0 hz1 hz2 rfl (by decide) _ _ _ rfl (World.ownsRow.alloc (show World.ownsRow _ _ _ _ _ _ _ from hown) _) ⟨_, 0, none⟩ 1 1 [.int .i64 J] rfl rfl (qw _ (J : Int) _) (j3 (J : Int)) (by have := HOL.out; unfold maxLen; omega) (by have := HOL.out; omega) (by simp; omega) ?_; intro v' w4 hownB hgrB _)
    have hown4 : IntsFrom wo.heap.size w4 v' (j2 ((js.take (k + 1)).filter fun q => !(fun _ => false) q)) := by
     rw [HNEW.out, jb9]
     unfold IntsFrom
     rw [List.map_append, List.length_append]
     simpa using hownB
    have hG4 : wo.grownBy w4 none := jh (jd hgi _) hgrB (fun g e => .inr (by have := (hownX.lt g e).1; omega))
    go_wp2_with fail
    go_roundw
    case rel => exact ⟨k + 1, by omega, by go_num, hown4, hG4⟩
    case measure => simp [intOf]; omega
   have hkl : ¬ (k : Int) < (js.length : Int) := by omega
   have HCN : Hid (∀ W, wo.grownBy W none → IntsFrom wo.heap.size W (.slice A2 (j2 (js.take k |>.filter fun q => !(fun _ => false) q)).length c2) (j2 (js.filter fun q => !(fun _ => false) q)) → Calls Tryz.prog 98 #[.pointer (some ⟨gT, 0, none⟩), .slice A2 (j2 (js.take k |>.filter fun q => !(fun _ => false) q)).length c2, .int .i64 t] W fun r w' => r = .returned (.int .i64 (jc9 l p t (js.filter fun q => !(fun _ => false) q))) ∧ W.grownBy w' none) := fun W hW hi => jcx base wo.heap.size gT u v _ l p _ t W (HT.out.at_.grown (ja HgO.out hW)) hO hi (fun j hj => HJS.out j (List.mem_filter.1 hj).1)
   have hown2 : IntsFrom wo.heap.size wr (.slice A2 (j2 (js.take k |>.filter fun q => !(fun _ => false) q)).length c2) (j2 (js.filter fun q => !(fun _ => false) q)) := by
    rw [List.take_of_length_le (show js.length ≤ k by omega)] at hown ⊢
    exact hown
   have HC := Lib.hid (HCN.out wr hgi hown2)
   obtain ⟨r, hr⟩ : ∃ r, jc9 l p t (js.filter fun q => !(fun _ => false) q) = r := ⟨_, rfl⟩
   have HSR := HST
   rw [hr] at HC HSR
   generalize (j2 (js.take k |>.filter fun q => !(fun _ => false) q)).length = LN at *
   clear hown hown2 hA2 hr
   go_wp2_with fail
   refine HC.out.mono ?_
   rintro _ w3 ⟨rfl, hg3⟩
   by_cases hr0 : 0 ≤ r
   ·have HR : Hid (jbq l p t place (fun _ => false) = r) := by show _ = _; rw [HSR.out, if_pos hr0]
    go_wp2_with fail
    go_ret
    exact ⟨ji HR.out.symm, ja (ja HgO.out hgi) hg3⟩
   have HR : Hid (jbq l p t place (fun _ => false) = jqr l p t place (fun _ => false) m) := by show _ = _; rw [HSR.out, if_neg hr0]
   go_wp2_with fail
   go_roundw
   case rel => exact ⟨m, by have := HM.out; omega, by first | rfl | go_num, HR, ja (ja HgO.out hgi) hg3⟩
   case measure => simp [intOf]; have := HM.out; omega
set_option maxRecDepth 100000 in
set_option maxHeartbeats 16000000 in
theorem jms (base base2 gT bB bW : Nat) (u v : Value) (l : List Ent) (p : List Pfx) (place : ByteArray) (t : Int) (w : World) (hT : TabFull base base2 gT bB bW u v l p w) (hO : TabOk l p) (hpl : place.size ≤ 1000) (base4 gi gg : Nat) (i : Int) (gv : Value) (gone : List Bool) (hi : w.cell? ⟨gi, 0, none⟩ = some (.int .i64 i)) (hgg : w.cell? ⟨gg, 0, none⟩ = some gv) (hgv : BoolsFrom base4 w gv gone) (hgl : p.length ≤ gone.length) :
 Calls Tryz.prog 100 #[.pointer (some ⟨gT, 0, none⟩), .string place, .int .i64 t, .func (.func 121) #[] #[.pointer (some ⟨gi, 0, none⟩), .pointer (some ⟨gg, 0, none⟩)]] w fun r w' => r = .returned (.int .i64 (jbq l p t place (zd i gone))) ∧ w.grownBy w' none := by
 obtain ⟨i0, hi0, hz0, hz1, hz2⟩ := info_parts jaa
 have HT := Lib.hid hT
 have HBUT : Hid (∀ (k : Nat) W, k < p.length → w.grownBy W none → Calls Tryz.prog 121 #[.int .i64 k, .pointer (some ⟨gi, 0, none⟩), .pointer (some ⟨gg, 0, none⟩)] W fun r w' => r = .returned (.bool (zd i gone k)) ∧ W.grownBy w' none) := fun k W hk hW => jws base4 gi gg i gv gone k W (hW.cell hi (by simp)) (hW.cell hgg (by simp)) (hgv.grown hW) (by omega)
 clear hi hgg hgv hgl
 obtain ⟨M, hM⟩ : ∃ M, min 4 place.size = M := ⟨_, rfl⟩
 have hM4 : M ≤ 4 ∧ M ≤ place.size := by omega
 have hMi : min (4 : Int) (place.size : Int) = (M : Int) := by omega
 have HE : Hid (jbq l p t place (zd i gone) = jqr l p t place (zd i gone) M) := by show _ = _; unfold jbq; rw [hM]
 clear hM hT
 go_enter Tryz.func100, Tryz.ntmps100
 go_wp2_with fail
 go_loopw [9] (fun iv wr => ∃ n : Nat, n ≤ M ∧ iv = .int .i64 n ∧ Hid (jbq l p t place (zd i gone) = jqr l p t place (zd i gone) n) ∧ w.grownBy wr none) (fun iv _ => (intOf iv).toNat)
 case atStart => exact ⟨M, Nat.le_refl _, rfl, HE, je _ _⟩
 case round =>
  obtain ⟨n, hn, rfl, HN, hg⟩ := hrel
  clear hMi HE
  rcases Nat.eq_zero_or_pos n with rfl | hpos
  ·have HR : Hid (jbq l p t place (zd i gone) = -1) := HN.out
   go_wp2_with fail
   go_ret
   exact ⟨ji HR.out.symm, hg⟩
  obtain ⟨m, HM⟩ : ∃ m : Nat, Hid (n = m + 1) := ⟨n - 1, by show _ = _; omega⟩
  have hn0 : (0 : Int) < (n : Int) := by omega
  have hn1 : (0 : Int) ≤ (n : Int) := by omega
  have hn2 : (n : Int) ≤ (place.size : Int) := by omega
  have hn3 : n ≤ place.size := by omega
  have hnw : IntKind.i64.wrap ((n : Int) - 1) = ((m : Nat) : Int) := by have := HM.out; rw [IntKind.wrap_i64]; omega
  have hes : (place.extract 0 n).size ≤ 1000000 := by rw [ByteArray.size_extract]; omega
  have hTr := HT.out.grown hg
  obtain ⟨nB, hmB⟩ := hTr.mB
  obtain ⟨uj, hju, _, hlk⟩ := hmB.look2 (place.extract 0 n) hes
  have hlk1 := hlk wr.drew none (jk (je _ _)) (by simp)
  have hst := jkq l p t place (zd i gone) m
  rw [← HM.out, ← HN.out] at hst
  have hjs : ∀ j ∈ jcs p false (place.extract 0 n), j < p.length := fun j hj => (idxL_mem.1 hj).1
  have HJL : Hid ((jcs p false (place.extract 0 n)).length ≤ 2000) := by
   show _ ≤ _
   unfold jcs xn
   have h1 := List.length_filter_le (jv9 p false (place.extract 0 n)) (List.range p.length)
   rw [List.length_range] at h1
   have := hO.len
   omega
  have cT := hTr.cB
  have cTd : wr.drew.cell? ⟨gT, 2, none⟩ = some (.map (some bB)) := cT
  generalize hjj : jcs p false (place.extract 0 n) = js at *
  obtain ⟨A, c, rfl, hjl, hjA⟩ := hju.shape
  have hml : (j2 js).length = js.length := by simp [j2]
  rw [hml] at hjl hjA hju hlk1
  have HJA := Lib.hid hjA
  have HML := Lib.hid hml
  have HJS := Lib.hid hjs
  have HST := Lib.hid hst
  clear hjA hjs hst hes hlk hmB hml
  go_upto_region 5 with fail
  refine wp_region_held_drew (S := fun V => V.cell? ⟨gT, 2, none⟩ = some (.map (some bB)) ∧ wr.grownBy V none) (by kernel_rfl) ⟨cT, jk (je _ _)⟩ (fun hHeld => ?_)
  refine tkH 0 21 hHeld ?_
  simp only [Act.put, ssA, ssZ, ssS]
  refine tkH 1 22 hHeld ?_
  simp only [Act.put, ssA, ssZ, ssS]
  refine tkH 2 23 hHeld ?_
  simp only [Act.put, ssA, ssZ, ssS]
  refine tkH 3 24 hHeld ?_
  simp only [Act.put, ssA, ssZ, ssS]
  refine tkH 4 25 hHeld ?_
  simp only [Act.put, ssA, ssZ, ssS]
  refine tkH 5 26 hHeld ?_
  simp only [Act.put, ssA, ssZ, ssS]
  refine tkH 6 27 hHeld ?_
  simp only [Act.put, ssA, ssZ, ssS]
  refine tkH 9 30 hHeld ?_
  simp only [Act.put, ssA, ssZ, ssS]
  refine wpAnyH_ready (rs := [7]) (by kernel_rfl) (by simp) ?_
  refine AllReadyH.cons (o := _) rfl (fun K hK => ?_) AllReadyH.nil
  go_simp
  (skip)
  refine hK.out _ _ ⟨cT, jk (je _ _)⟩ (fun hHeld7 => ?_)
  clear hK K
  (try simp only [Act.put, ssA, ssZ, ssS])
  refine tkH 8 29 hHeld7 ?_
  simp only [Act.put, ssA, ssZ, ssS]
  refine wpAnyH_done (by kernel_rfl) ?_ _
  have HgO := Lib.hid (jk hg)
  have HJU := Lib.hid (IntsFrom.grown hju (jk (je wr none)))
  have HWS : Hid (w.heap.size ≤ wr.drew.heap.size) := hg.size
  clear hlk1 cT cTd hg hjj hju
  generalize wr.drew = wo at *
  clear hTr
  go_wp2_with fail
  go_loopw [10, 30] (fun ov kv wi => ∃ k : Nat, k ≤ js.length ∧ kv = .int .i64 k ∧ IntsFrom wo.heap.size wi ov (j2 ((js.take k).filter fun q => !(zd i gone) q)) ∧ wo.grownBy wi none) (fun _ kv _ => js.length - (intOf kv).toNat)
  case atStart => exact ⟨0, by omega, rfl, by simpa [j2] using IntsFrom.nil _ _, je _ _⟩
  case round =>
   obtain ⟨k, hk, rfl, hown, hgi⟩ := hrel
   obtain ⟨A2, c2, rfl, hl2, hA2⟩ := hown.shape
   by_cases hlt : k < js.length
   ·have hki : (k : Int) < (js.length : Int) := by omega
    obtain ⟨gj, rfl, _, hgl⟩ := HJA.out (by omega)
    have hat := IntsFrom.at_ (l := j2 js) (g := gj) (c := c) (by rw [HML.out]; exact HJU.out.grown hgi) k (by rw [HML.out]; exact hlt)
    rw [show (j2 js)[k]'(by rw [HML.out]; exact hlt) = (js[k] : Int) by simp [j2]] at hat
    have hfs := jc5 (fun q => !(zd i gone) q) js k hlt
    have hJp := HJS.out _ (List.getElem_mem hlt)
    have HOL : Hid ((j2 ((js.take k).filter fun q => !(zd i gone) q)).length ≤ 2000) := by
     show _ ≤ _
     unfold j2
     rw [List.length_map]
     have h1 := List.length_filter_le (fun q => !(zd i gone) q) (js.take k)
     rw [List.length_take] at h1
     have := HJL.out
     omega
    generalize hfk : (js.take k).filter (fun q => !(zd i gone) q) = fk at *
    generalize js[k] = J at *
    have HFS := Lib.hid hfs
    have HFK := Lib.hid hfk
    have hsz := hgi.size
    clear hfs hA2 hfk
    go_wp2_with fail
    refine (HBUT.out J _ hJp (ja HgO.out hgi)).mono ?_
    rintro _ w3 ⟨rfl, hg3⟩
    have hown3 := hown.grown hg3
    have hgi3 := ja hgi hg3
    have hsz3 := hg3.size
    have hFS2 := HFS.out
    generalize zd i gone J = BJ at *
    cases BJ
    ·have HNEW : Hid ((js.take (k + 1)).filter (fun q => !(zd i gone) q) = fk ++ [J]) := by show _ = _; rw [hFS2]; rfl
     clear hFS2 hown hgi
     have hownX := hown3
     go_wp2_with (at_builtin; refine wpList_append_own _ rfl _ _ 22 rfl wo.heap.size 3 i0 _ 1 8 Tryz.underlying22 hi0 hz0 hz1 hz2 rfl (by decide) _ _ _ rfl (World.ownsRow.alloc (show World.ownsRow _ _ _ _ _ _ _ from hown3) _) ⟨_, 0, none⟩ 1 1 [.int .i64 J] rfl rfl (qw _ (J : Int) _) (j3 (J : Int)) (by have := HOL.out; unfold maxLen; omega) (by have := HOL.out; omega) (by simp; omega) ?_; intro v' w4 hownB hgrB _)
     have hown4 : IntsFrom wo.heap.size w4 v' (j2 ((js.take (k + 1)).filter fun q => !(zd i gone) q)) := by
      rw [HNEW.out, jb9]
      unfold IntsFrom
      rw [List.map_append, List.length_append]
      simpa using hownB
     have hG4 : wo.grownBy w4 none := jh (jd hgi3 _) hgrB (fun g e => .inr (by have := (hownX.lt g e).1; omega))
     go_wp2_with fail
     go_roundw
     case rel => exact ⟨k + 1, by omega, by go_num, hown4, hG4⟩
     case measure => simp [intOf]; omega
    have HNEW : Hid ((js.take (k + 1)).filter (fun q => !(zd i gone) q) = fk) := by show _ = _; rw [hFS2]; rfl
    clear hFS2 hown hgi
    go_wp2_with fail
    go_roundw
    case rel => exact ⟨k + 1, by omega, by go_num, by rw [HNEW.out]; exact hown3, hgi3⟩
    case measure => simp [intOf]; omega
   have hkl : ¬ (k : Int) < (js.length : Int) := by omega
   have HCN : Hid (∀ W, wo.grownBy W none → IntsFrom wo.heap.size W (.slice A2 (j2 (js.take k |>.filter fun q => !(zd i gone) q)).length c2) (j2 (js.filter fun q => !(zd i gone) q)) → Calls Tryz.prog 98 #[.pointer (some ⟨gT, 0, none⟩), .slice A2 (j2 (js.take k |>.filter fun q => !(zd i gone) q)).length c2, .int .i64 t] W fun r w' => r = .returned (.int .i64 (jc9 l p t (js.filter fun q => !(zd i gone) q))) ∧ W.grownBy w' none) := fun W hW hi => jcx base wo.heap.size gT u v _ l p _ t W (HT.out.at_.grown (ja HgO.out hW)) hO hi (fun j hj => HJS.out j (List.mem_filter.1 hj).1)
   have hown2 : IntsFrom wo.heap.size wr (.slice A2 (j2 (js.take k |>.filter fun q => !(zd i gone) q)).length c2) (j2 (js.filter fun q => !(zd i gone) q)) := by
    rw [List.take_of_length_le (show js.length ≤ k by omega)] at hown ⊢
    exact hown
   have HC := Lib.hid (HCN.out wr hgi hown2)
   obtain ⟨r, hr⟩ : ∃ r, jc9 l p t (js.filter fun q => !(zd i gone) q) = r := ⟨_, rfl⟩
   have HSR := HST
   rw [hr] at HC HSR
   generalize (j2 (js.take k |>.filter fun q => !(zd i gone) q)).length = LN at *
   clear hown hown2 hA2 hr
   go_wp2_with fail
   refine HC.out.mono ?_
   rintro _ w3 ⟨rfl, hg3⟩
   by_cases hr0 : 0 ≤ r
   ·have HR : Hid (jbq l p t place (zd i gone) = r) := by show _ = _; rw [HSR.out, if_pos hr0]
    go_wp2_with fail
    go_ret
    exact ⟨ji HR.out.symm, ja (ja HgO.out hgi) hg3⟩
   have HR : Hid (jbq l p t place (zd i gone) = jqr l p t place (zd i gone) m) := by show _ = _; rw [HSR.out, if_neg hr0]
   go_wp2_with fail
   go_roundw
   case rel => exact ⟨m, by have := HM.out; omega, by first | rfl | go_num, HR, ja (ja HgO.out hgi) hg3⟩
   case measure => simp [intOf]; have := HM.out; omega
theorem TabRight.size {l : List Ent} {p : List Pfx} (h : TabRight l p) : ∀ x ∈ p, x.whole = false → 1 ≤ x.beg.size ∧ x.beg.size ≤ 4 := fun x hx hw => jsx (h.pfx x hx).form hw
theorem jux {l : List Ent} {s : ByteArray} (h : (xo l s).isSome = true) : (jjs l s).key = s := by
 obtain ⟨e, he⟩ := Option.isSome_iff_exists.1 h
 unfold jjs
 rw [he]
 exact (jf5 he).2
theorem jhr {α : Type} (f : α → Bool) : ∀ (l : List α) (i : Nat) (h : i < l.length), f l[i] = true → (∀ j (hj : j < l.length), f l[j] = true → i ≤ j) → l.find? f = some l[i]
 | a :: r, 0, h, hf, _ => by rw [List.find?_cons]; simp at hf; simp [hf]
 | a :: r, i + 1, h, hf, hm => by
   have h0 : f a = false := by
    cases hc : f a with
    | false => rfl
    | true => have := hm 0 (by simp) (by simpa using hc); omega
   rw [List.find?_cons, h0]
   simp only [List.getElem_cons_succ]
   exact jhr f r i (by simpa using h) (by simpa using hf) (fun j hj hfj => by have := hm (j + 1) (by simpa using hj) (by simpa using hfj); omega)
theorem jwu (l : List Ent) (p : List Pfx) (s : ByteArray) (t : Int) : (jc9 l p t (jcs p true s) < 0 ∧ jh0 l p s t = none) ∨ ∃ (i : Nat) (h : i < p.length), jc9 l p t (jcs p true s) = i ∧ jh0 l p s t = some p[i] := by
 have hw : ∀ j (h : j < p.length), jzd l s t p[j] = true ↔ j ∈ jcs p true s ∧ jgo l p[j] t = true := fun j h => by
  unfold jzd
  rw [idxL_mem]
  constructor
  ·intro h1
   simp only [Bool.and_eq_true, decide_eq_true_eq] at h1
   exact ⟨⟨h, h1.1, h1.2.1⟩, h1.2.2⟩
  rintro ⟨⟨_, h1, h2⟩, h3⟩
  simp [h1, h2, h3]
 rcases jfe l p t (jcs p true s) (jff _ _ _) (fun j hj => (idxL_mem.1 hj).1) with ⟨h1, h2⟩ | ⟨i, hi, hil, h1, h2, h3⟩
 ·refine .inl ⟨by omega, ?_⟩
  unfold jh0
  rw [List.find?_eq_none]
  intro x hx hc
  obtain ⟨j, hj, rfl⟩ := List.mem_iff_getElem.1 hx
  obtain ⟨q1, q2⟩ := (hw j hj).1 hc
  have := h2 j q1 hj
  rw [q2] at this
  cases this
 refine .inr ⟨i, hil, h1, ?_⟩
 unfold jh0
 exact jhr _ p i hil ((hw i hil).2 ⟨hi, h2⟩) (fun j hj hc => by
  obtain ⟨q1, q2⟩ := (hw j hj).1 hc
  exact h3 j q1 ⟨hj, q2⟩)
theorem jfc (base gT : Nat) (u v : Value) (l : List Ent) (p : List Pfx) (k : Nat) (w : World) (hT : TabAt base gT u v l p w) (hO : TabOk l p) (hlt : k < p.length) :
 Calls Tryz.prog 99 #[.pointer (some ⟨gT, 0, none⟩), .int .i64 k] w fun r w' => r = .returned (.agg #[.string (jcd l p[k]).1, .int .i64 (jcd l p[k]).2.1, .int .i64 (jcd l p[k]).2.2]) ∧ w.grownBy w' none :=
 (jvn base gT u v l p k w hT hO hlt).mono fun r w' ⟨h1, h2⟩ => ⟨by
  rw [h1]
  show _ = Ending.returned (.agg #[.string (jjs l p[k].ent).key, .int .i64 (jjs l p[k].ent).cont, .int .i64 (jwo l p[k])])
  rw [jux (hO.has _ (List.getElem_mem hlt))], h2⟩
set_option maxRecDepth 100000 in
set_option maxHeartbeats 16000000 in
theorem jtj (base base2 gT bB bW : Nat) (u v : Value) (l : List Ent) (p : List Pfx) (s : ByteArray) (t : Int) (q : ByteArray × Nat × Int × ByteArray) (w : World) (hT : TabFull base base2 gT bB bW u v l p w) (hRt : TabRight l p) (hs : s.size ≤ 1000) (ha : Ascii s) (hq : jo s = some q) :
 Calls Tryz.prog 56 #[.pointer (some ⟨gT, 0, none⟩), .string s, .int .i64 t] w fun r w' => jy6 (jdl l p s t q) r ∧ w.grownBy w' none := by
 have hqs := jcf hq
 have hR := Blk.new w 53 #[.string ⟨#[]⟩, .int .i64 0, .int .i64 0]
 have hg0 := World.grownBy_alloc w (.cells #[.string ⟨#[]⟩, .int .i64 0, .int .i64 0] 53) none
 have HT := Lib.hid hT
 have hO := hRt.ok
 obtain ⟨O, hOO⟩ : ∃ O, jdl l p s t q = O := ⟨_, rfl⟩
 rw [hOO]
 have HO := Lib.hid hOO
 obtain ⟨gR, hgR⟩ : ∃ x, w.heap.size = x := ⟨_, rfl⟩
 have HgR := Lib.hid hgR
 rw [hgR] at hR
 have HFIN : Hid (∀ (W : World) (K : ByteArray) (C Z : Int) (F : Bool), Blk W gR 53 #[.string ⟨#[]⟩, .int .i64 0, .int .i64 0] → w.grownBy W none →
  (((W.setCell ⟨gR, 0, none⟩ (.string K)).setCell ⟨gR, 1, none⟩ (.int .i64 C)).setCell ⟨gR, 2, none⟩ (.int .i64 Z)).cell? ⟨gR, 0, none⟩ = some (.string K) ∧ (((W.setCell ⟨gR, 0, none⟩ (.string K)).setCell ⟨gR, 1, none⟩ (.int .i64 C)).setCell ⟨gR, 2, none⟩ (.int .i64 Z)).cell? ⟨gR, 1, none⟩ = some (.int .i64 C) ∧ (((W.setCell ⟨gR, 0, none⟩ (.string K)).setCell ⟨gR, 1, none⟩ (.int .i64 C)).setCell ⟨gR, 2, none⟩ (.int .i64 Z)).cell? ⟨gR, 2, none⟩ = some (.int .i64 Z) ∧ w.grownBy (((W.setCell ⟨gR, 0, none⟩ (.string K)).setCell ⟨gR, 1, none⟩ (.int .i64 C)).setCell ⟨gR, 2, none⟩ (.int .i64 Z)) none) := fun W K C Z F hW hgW => by
  have hf := ((Blk.put hW 0 (.string K)).put 1 (.int .i64 C)).put 2 (.int .i64 Z)
  simp only [List.setIfInBounds_toArray, List.set_cons_zero, List.set_cons_succ] at hf
  have hle : w.heap.size ≤ gR := by omega
  exact ⟨hf.cell 0, hf.cell 1, hf.cell 2, jg (p := ⟨gR, 2, none⟩) (jg (p := ⟨gR, 1, none⟩) (jg (p := ⟨gR, 0, none⟩) hgW (.inr hle) (.string K)) (.inr hle) (.int .i64 C)) (.inr hle) (.int .i64 Z)⟩
 have HLD : Hid (∀ (n : Nat) (hn : n < p.length) W, w.grownBy W none → Calls Tryz.prog 99 #[.pointer (some ⟨gT, 0, none⟩), .int .i64 n] W fun r w' => r = .returned (.agg #[.string (jcd l p[n]).1, .int .i64 (jcd l p[n]).2.1, .int .i64 (jcd l p[n]).2.2]) ∧ W.grownBy w' none) := fun n hn W hW => jfc base gT u v l p n W (hT.at_.grown hW) hO hn
 have HCN : Hid (∀ W, w.grownBy W none → ∀ uj, IntsFrom base2 W uj (j2 (jcs p true s)) → Calls Tryz.prog 98 #[.pointer (some ⟨gT, 0, none⟩), uj, .int .i64 t] W fun r w' => r = .returned (.int .i64 (jc9 l p t (jcs p true s))) ∧ W.grownBy w' none) := fun W hW uj hi => jcx base base2 gT u v uj l p _ t W (hT.at_.grown hW) hO hi (fun j hj => (idxL_mem.1 hj).1)
 obtain ⟨nW, hmW⟩ := hT.mW
 obtain ⟨uj, hju, _, hlk⟩ := hmW.look2 s (by omega)
 have hlk1 := hlk _ none hg0 (by simp)
 have HJU := Lib.hid (IntsFrom.grown hju hg0)
 have cW := hg0.cell hT.cW (by simp)
 have hwi := jwu l p s t
 obtain ⟨C0, hC0⟩ : ∃ x, jc9 l p t (jcs p true s) = x := ⟨_, rfl⟩
 rw [hC0] at hwi HCN
 have HWI := Lib.hid hwi
 have HAS := Lib.hid ha
 have HQ := Lib.hid hq
 have HRT := Lib.hid hRt
 clear hT hOO hgR hlk hmW hju hwi hC0 hq ha hRt hO
 go_enter Tryz.func56, Tryz.ntmps56
 go_upto_region 1 with fail
 generalize w.alloc (.cells #[.string ⟨#[]⟩, .int .i64 0, .int .i64 0] 53) = w1 at *
 rw [HgR.out]
 go_wp2_with fail
 refine (HCN.out _ hg0 _ HJU.out).mono ?_
 rintro _ w2 ⟨rfl, hg2⟩
 have hgw := ja hg0 hg2
 have hRr := hR.grown hg2 (by simp)
 clear hlk1 cW hR hg0
 rcases HWI.out with ⟨hneg, hwn⟩ | ⟨i, hil, rfl, hws⟩
 ·have hneg2 : ¬ (0 : Int) ≤ C0 := by omega
  have hor : O = jd2 l p t q := by rw [← HO.out]; unfold jdl; rw [hwn]
  obtain ⟨T0, kk, KD, AD⟩ := q
  obtain ⟨z1, z2, z3⟩ := hqs
  simp only at z1 z2 z3
  have hPA : ∀ W, Calls Tryz.prog 85 #[.string s] W fun r w' => r = .returned (.tuple #[.agg #[.string T0, .string (T0.extract 0 (kk + 1)), .string (T0.extract (kk + 1) T0.size), .int .i64 KD, .string AD], .bool true]) ∧ W.grownBy w' none := fun W => (jby s W (by omega) HAS.out).mono fun r w' ⟨h1, h2⟩ => by
   rcases h2 with ⟨h3, _⟩ | ⟨t', k', kd', ad', h3, h4⟩
   ·rw [HQ.out] at h3; simp at h3
   rw [HQ.out] at h3
   simp only [Option.some.injEq, Prod.mk.injEq] at h3
   obtain ⟨rfl, rfl, rfl, rfl⟩ := h3
   exact ⟨h4, h1⟩
  unfold jd2 at hor
  simp only at hor
  rw [jmr l p t (-1) _ HRT.out.size] at hor
  rw [show (fun j : Nat => decide ((j : Int) = -1)) = fun _ => false from funext fun j => by rw [decide_eq_false_iff_not]; omega] at hor
  have y1 : (T0.extract 0 (kk + 1)).size ≤ 100 ∧ 1 ≤ (T0.extract 0 (kk + 1)).size := by rw [ByteArray.size_extract]; omega
  have y2 : (T0.extract (kk + 1) T0.size).size ≤ 100 := by rw [ByteArray.size_extract]; omega
  have hLN : ∀ W, w.grownBy W none → Calls Tryz.prog 100 #[.pointer (some ⟨gT, 0, none⟩), .string (jbn T0 (T0.extract 0 (kk + 1)) (T0.extract (kk + 1) T0.size) AD KD), .int .i64 t, .nilFunc] W fun r w' => r = .returned (.int .i64 (jbq l p t (jbn T0 (T0.extract 0 (kk + 1)) (T0.extract (kk + 1) T0.size) AD KD) fun _ => false)) ∧ W.grownBy w' none := fun W hW =>
   jnq base base2 gT bB bW u v l p _ t W (HT.out.grown hW) HRT.out.ok (by
    unfold jbn
    split
    ·omega
    split
    ·rw [ByteArray.size_append, ByteArray.size_append, ByteArray.size_extract]; omega
    omega)
  have hbd := joe l p (jbn T0 (T0.extract 0 (kk + 1)) (T0.extract (kk + 1) T0.size) AD KD) t (-1) p.length
  rw [jmr l p t (-1) _ HRT.out.size, show (fun j : Nat => decide ((j : Int) = -1)) = fun _ => false from funext fun j => by rw [decide_eq_false_iff_not]; omega] at hbd
  have HPO : Hid (∀ W, Calls Tryz.prog 101 #[.agg #[.string T0, .string (T0.extract 0 (kk + 1)), .string (T0.extract (kk + 1) T0.size), .int .i64 KD, .string AD]] W fun r w' => r = .returned (.string (jbn T0 (T0.extract 0 (kk + 1)) (T0.extract (kk + 1) T0.size) AD KD)) ∧ W.grownBy w' none) := fun W => jl3 T0 _ _ AD KD W y1.1 y2 z2 y1.2
  generalize jbn T0 (T0.extract 0 (kk + 1)) (T0.extract (kk + 1) T0.size) AD KD = PL at *
  generalize jbq l p t PL (fun _ => false) = LG at *
  generalize T0.extract 0 (kk + 1) = PRE at *
  generalize T0.extract (kk + 1) T0.size = SUF at *
  have HPA := Lib.hid hPA
  have HOR := Lib.hid hor
  have HLN := Lib.hid hLN
  have HBD := Lib.hid hbd
  clear hPA hor hLN hwn hneg hbd y1 y2
  go_wp2_with fail
  refine (HPA.out _).mono ?_
  rintro _ w3 ⟨rfl, hg3⟩
  have hX := Blk.new w3 87 #[.string T0, .string PRE, .string SUF, .int .i64 KD, .string AD]
  have hR4 := (Blk.grown hRr hg3 (by simp)).alloc (.cells #[.string T0, .string PRE, .string SUF, .int .i64 KD, .string AD] 87)
  have hg4 := jd (ja hgw hg3) (.cells #[.string T0, .string PRE, .string SUF, .int .i64 KD, .string AD] 87)
  go_upto_region 5 with fail
  generalize w3.alloc (.cells #[.string T0, .string PRE, .string SUF, .int .i64 KD, .string AD] 87) = w4 at *
  generalize w3.heap.size = gX at *
  have x0 := Blk.cell hX 0
  have x1 := Blk.cell hX 1
  have x2 := Blk.cell hX 2
  have x3 := Blk.cell hX 3
  have x4 := Blk.cell hX 4
  have r0 := Blk.cell hR4 0
  have r1 := Blk.cell hR4 1
  have r2 := Blk.cell hR4 2
  have rf := Blk.free hR4
  simp only [geA, geZ, geS] at x0 x1 x2 x3 x4 r0 r1 r2
  by_cases hk56 : KD = 5 ∨ KD = 6
  ·have hON : O = none := by rw [HOR.out, if_pos hk56]
   subst hON
   obtain ⟨e0, e1, e2, e3⟩ := HFIN.out w4 ⟨#[]⟩ 0 0 false hR4 hg4
   rcases hk56 with rfl | rfl
   ·go_wp2_with fail
    refine bodyPost_ret (v := .tuple #[.agg #[.string ⟨#[]⟩, .int .i64 0, .int .i64 0], .bool false]) (by simp [results, Tryz.results56, go_sem, e0, e1, e2]) rfl ?_
    exact ⟨rfl, e3⟩
   go_wp2_with fail
   refine bodyPost_ret (v := .tuple #[.agg #[.string ⟨#[]⟩, .int .i64 0, .int .i64 0], .bool false]) (by simp [results, Tryz.results56, go_sem, e0, e1, e2]) rfl ?_
   exact ⟨rfl, e3⟩
  have HK56 := Lib.hid hk56
  have b5 : (KD == 5) = false := by simp; omega
  have b6 : (KD == 6) = false := by simp; omega
  clear hk56
  go_wp2_with fail
  refine (HPO.out _).mono ?_
  rintro _ w5 ⟨rfl, hg5⟩
  have hR5 := Blk.grown (w := w4) hR4 hg5 (by simp)
  have hg45 := ja hg4 hg5
  go_wp2_with fail
  refine (HLN.out _ hg45).mono ?_
  rintro _ w6 ⟨rfl, hg6⟩
  have hR6 := Blk.grown (g := gR) hR5 hg6 (by simp)
  have hgF := ja hg45 hg6
  clear r0 r1 r2 rf x0 x1 x2 x3 x4 b5 b6
  have r0 := Blk.cell (g := gR) hR6 0
  have r1 := Blk.cell (g := gR) hR6 1
  have r2 := Blk.cell (g := gR) hR6 2
  have rf := Blk.free (g := gR) hR6
  simp only [geA, geZ, geS] at r0 r1 r2
  by_cases hneg : LG < 0
  ·have hON : O = none := by rw [HOR.out, if_neg HK56.out, if_pos hneg]
   subst hON
   obtain ⟨e0, e1, e2, e3⟩ := HFIN.out w6 ⟨#[]⟩ 0 0 false hR6 hgF
   go_wp2_with fail
   refine bodyPost_ret (v := .tuple #[.agg #[.string ⟨#[]⟩, .int .i64 0, .int .i64 0], .bool false]) (by simp [results, Tryz.results56, go_sem, e0, e1, e2]) rfl ?_
   exact ⟨rfl, e3⟩
  obtain ⟨n, rfl⟩ : ∃ n : Nat, LG = n := ⟨LG.toNat, by have := HBD.out; omega⟩
  have hnl : n < p.length := by have := HBD.out.2; omega
  have hOS : O = some (jcd l p[n]) := by rw [HOR.out, if_neg HK56.out, if_neg hneg, Int.toNat_natCast, List.getElem?_eq_getElem hnl]; rfl
  have HLD1 := Lib.hid (HLD.out n hnl)
  have HOS := Lib.hid hOS
  clear hOS
  generalize jcd l p[n] = FX at *
  have hOS2 := HOS.out
  subst hOS2
  go_wp2_with fail
  refine (HLD1.out _ hgF).mono ?_
  rintro _ w7 ⟨rfl, hg7⟩
  have hR7 := Blk.grown (g := gR) hR6 hg7 (by simp)
  clear r0 r1 r2 rf
  have r0 := Blk.cell (g := gR) hR7 0
  have r1 := Blk.cell (g := gR) hR7 1
  have r2 := Blk.cell (g := gR) hR7 2
  have rf := Blk.free (g := gR) hR7
  simp only [geA, geZ, geS] at r0 r1 r2
  obtain ⟨e0, e1, e2, e3⟩ := HFIN.out w7 FX.1 FX.2.1 FX.2.2 true hR7 (ja hgF hg7)
  go_wp2_with fail
  refine bodyPost_ret (v := .tuple #[.agg #[.string FX.1, .int .i64 FX.2.1, .int .i64 FX.2.2], .bool true]) (by simp [results, Tryz.results56, go_sem, e0, e1, e2]) rfl ?_
  exact ⟨rfl, e3⟩
 have hOS : O = some (jcd l p[i]) := by rw [← HO.out]; unfold jdl; rw [hws]
 have HLD1 := Lib.hid (HLD.out i hil)
 have HOS := Lib.hid hOS
 have hi0 : (0 : Int) ≤ (i : Int) := by omega
 clear hOS hws
 generalize jcd l p[i] = FX at *
 have hOS2 := HOS.out
 subst hOS2
 go_wp2_with fail
 refine (HLD1.out _ hgw).mono ?_
 rintro _ w7 ⟨rfl, hg7⟩
 have hR7 := Blk.grown (g := gR) hRr hg7 (by simp)
 have r0 := Blk.cell (g := gR) hR7 0
 have r1 := Blk.cell (g := gR) hR7 1
 have r2 := Blk.cell (g := gR) hR7 2
 have rf := Blk.free (g := gR) hR7
 simp only [geA, geZ, geS] at r0 r1 r2
 obtain ⟨e0, e1, e2, e3⟩ := HFIN.out w7 FX.1 FX.2.1 FX.2.2 true hR7 (ja hgw hg7)
 go_wp2_with fail
 refine bodyPost_ret (v := .tuple #[.agg #[.string FX.1, .int .i64 FX.2.1, .int .i64 FX.2.2], .bool true]) (by simp [results, Tryz.results56, go_sem, e0, e1, e2]) rfl ?_
 exact ⟨rfl, e3⟩
end Go.Proofs.YtbamhgaghngjiaaGreatDoor
