/- Parts of a proof: Longest, FindT, CutPlain, SkyR, NumsLaw, PairRow, Sco. Conditions: as each statement says. -/
import Derived.Test.YtbamhgaghngjiaaGreatDoorCoao
import Derived.Lib.Bytealg
import Derived.Lib.ItoaNum
import Derived.Lib.ItoaMem
namespace Go.Proofs.YtbamhgaghngjiaaGreatDoor
open Go.RowKit
set_option linter.unusedVariables false
set_option linter.unusedSimpArgs false

theorem jok (l : List Ent) (p : List Pfx) (t : Int) (place : ByteArray) (but : Nat → Bool) (n : Nat) : jrs l p t place but (n + 1) = if 0 ≤ jcm l p t ((jfd p false (place.extract 0 (n + 1))).filter fun i => !but i) then jcm l p t ((jfd p false (place.extract 0 (n + 1))).filter fun i => !but i) else jrs l p t place but n := rfl
theorem jjr {α : Type} (f : α → Bool) (js : List α) (k : Nat) (h : k < js.length) : (js.take (k + 1)).filter f = if f js[k] = true then (js.take k).filter f ++ [js[k]] else (js.take k).filter f := by
 rw [List.take_succ_eq_append_getElem h, List.filter_append, List.filter_cons]
 split <;> simp
theorem jrb (w : World) (d : Nat) : (Op.equalIn (d + 1) 71 .nilFunc .nilFunc).run Tryz.prog w = .ok true w := by
 simp [Op.equalIn, run_underlying Tryz.underlying71]
theorem jrc (f : Fn) (a c : Array Value) (w : World) (d : Nat) : (Op.equalIn (d + 1) 71 (.func f a c) .nilFunc).run Tryz.prog w = .ok false w := by
 simp [Op.equalIn, run_underlying Tryz.underlying71]
theorem jvk (w : World) : (Op.equal 71 .nilFunc .nilFunc).run Tryz.prog w = .ok true w := jrb w 9999
theorem jvl (f : Fn) (a c : Array Value) (w : World) : (Op.equal 71 (.func f a c) .nilFunc).run Tryz.prog w = .ok false w := jrc f a c w 9999
@[go_sem] theorem eqFuncNil (w : World) : (binOp .eql 71 .nilFunc .nilFunc).run Tryz.prog w = .ok (.bool true) w := by
  simp only [binOp]
  simp [jvk w]
@[go_sem] theorem eqFuncHeld (f : Fn) (a c : Array Value) (w : World) : (binOp .eql 71 (.func f a c) .nilFunc).run Tryz.prog w = .ok (.bool false) w := by
  simp only [binOp]
  simp [jvl f a c w]
set_option maxRecDepth 100000 in
set_option maxHeartbeats 16000000 in
theorem jj4 (base base2 gT bB bW : Nat) (u v : Value) (l : List Ent) (p : List Pfx) (place : ByteArray) (t : Int) (w : World) (hT : TabFull base base2 gT bB bW u v l p w) (hO : TabOk l p) (hpl : place.size ≤ 1000) :
 Calls Tryz.prog 100 #[.pointer (some ⟨gT, 0, none⟩), .string place, .int .i64 t, .nilFunc] w fun r w' => r = .returned (.int .i64 (jol l p t place (fun _ => false))) ∧ w.grownBy w' none := by
 obtain ⟨i0, hi0, hz0, hz1, hz2⟩ := info_parts jdd
 have HT := Lib.hid hT
 obtain ⟨M, hM⟩ : ∃ M, min 4 place.size = M := ⟨_, rfl⟩
 have hM4 : M ≤ 4 ∧ M ≤ place.size := by omega
 have hMi : min (4 : Int) (place.size : Int) = (M : Int) := by omega
 have HE : Hid (jol l p t place (fun _ => false) = jrs l p t place (fun _ => false) M) := by show _ = _; unfold jol; rw [hM]
 clear hM hT
 go_enter Tryz.func100, Tryz.ntmps100
 go_wp2_with fail
 go_loopw [9] (fun iv wr => ∃ n : Nat, n ≤ M ∧ iv = .int .i64 n ∧ Hid (jol l p t place (fun _ => false) = jrs l p t place (fun _ => false) n) ∧ w.grownBy wr none) (fun iv _ => (intOf iv).toNat)
 case atStart => exact ⟨M, Nat.le_refl _, rfl, HE, jf _ _⟩
 case round =>
  obtain ⟨n, hn, rfl, HN, hg⟩ := hrel
  clear hMi HE
  rcases Nat.eq_zero_or_pos n with rfl | hpos
  ·have HR : Hid (jol l p t place (fun _ => false) = -1) := HN.out
   go_wp2_with fail
   go_ret
   exact ⟨ji HR.out.symm, hg⟩
  obtain ⟨m, HM⟩ : ∃ m : Nat, Hid (n = m + 1) := ⟨n - 1, by show _ = _; omega⟩
  have hn0 : (0 : Int) < (n : Int) := by omega
  have hn1 : (0 : Int) ≤ (n : Int) := by omega
  have hn2 : (n : Int) ≤ (place.size : Int) := by omega
  have hn3 : n ≤ place.size := by omega
  have hnw : IntKind.i64.wrap ((n : Int) - 1) = ((m : Nat) : Int) := by have := HM.out; rw [IntKind.wrap_i64]; omega
  have hes : (place.extract 0 n).size ≤ 1000000 := by rw [ByteArray.size_extract]; omega
  have hTr := HT.out.grown hg
  obtain ⟨nB, hmB⟩ := hTr.mB
  obtain ⟨uj, hju, _, hlk⟩ := hmB.look2 (place.extract 0 n) hes
  have hlk1 := hlk wr.drew none (jn (jf _ _)) (by simp)
  have hst := jok l p t place (fun _ => false) m
  rw [← HM.out, ← HN.out] at hst
  have hjs : ∀ j ∈ jfd p false (place.extract 0 n), j < p.length := fun j hj => (idxL_mem.1 hj).1
  have HJL : Hid ((jfd p false (place.extract 0 n)).length ≤ 2000) := by
   show _ ≤ _
   unfold jfd xm
   have h1 := List.length_filter_le (ju8 p false (place.extract 0 n)) (List.range p.length)
   rw [List.length_range] at h1
   have := hO.len
   omega
  have cT := hTr.cB
  have cTd : wr.drew.cell? ⟨gT, 2, none⟩ = some (.map (some bB)) := cT
  generalize hjj : jfd p false (place.extract 0 n) = js at *
  obtain ⟨A, c, rfl, hjl, hjA⟩ := hju.shape
  have hml : (qn js).length = js.length := by simp [qn]
  rw [hml] at hjl hjA hju hlk1
  have HJA := Lib.hid hjA
  have HML := Lib.hid hml
  have HJS := Lib.hid hjs
  have HST := Lib.hid hst
  clear hjA hjs hst hes hlk hmB hml
  go_upto_region 5 with fail
  refine wp_region_held_drew (S := fun V => V.cell? ⟨gT, 2, none⟩ = some (.map (some bB)) ∧ wr.grownBy V none) (by kernel_rfl) ⟨cT, jn (jf _ _)⟩ (fun hHeld => ?_)
  refine tkH 0 21 hHeld ?_
  simp only [Act.put, ssA, ssZ, ssS]
  refine tkH 1 22 hHeld ?_
  simp only [Act.put, ssA, ssZ, ssS]
  refine tkH 2 23 hHeld ?_
  simp only [Act.put, ssA, ssZ, ssS]
  refine tkH 3 24 hHeld ?_
  simp only [Act.put, ssA, ssZ, ssS]
  refine tkH 4 25 hHeld ?_
  simp only [Act.put, ssA, ssZ, ssS]
  refine tkH 5 26 hHeld ?_
  simp only [Act.put, ssA, ssZ, ssS]
  refine tkH 6 27 hHeld ?_
  simp only [Act.put, ssA, ssZ, ssS]
  refine tkH 9 30 hHeld ?_
  simp only [Act.put, ssA, ssZ, ssS]
  refine wpAnyH_ready (rs := [7]) (by kernel_rfl) (by simp) ?_
  refine AllReadyH.cons (o := _) rfl (fun K hK => ?_) AllReadyH.nil
  go_simp
  (skip)
  refine hK.out _ _ ⟨cT, jn (jf _ _)⟩ (fun hHeld7 => ?_)
  clear hK K
  (try simp only [Act.put, ssA, ssZ, ssS])
  refine tkH 8 29 hHeld7 ?_
  simp only [Act.put, ssA, ssZ, ssS]
  refine wpAnyH_done (by kernel_rfl) ?_ _
  have HgO := Lib.hid (jn hg)
  have HJU := Lib.hid (IntsFrom.grown hju (jn (jf wr none)))
  have HWS : Hid (w.heap.size ≤ wr.drew.heap.size) := hg.size
  clear hlk1 cT cTd hg hjj hju
  generalize wr.drew = wo at *
  clear hTr
  go_wp2_with fail
  go_loopw [10, 30] (fun ov kv wi => ∃ k : Nat, k ≤ js.length ∧ kv = .int .i64 k ∧ IntsFrom wo.heap.size wi ov (qn ((js.take k).filter fun q => !(fun _ => false) q)) ∧ wo.grownBy wi none) (fun _ kv _ => js.length - (intOf kv).toNat)
  case atStart => exact ⟨0, by omega, rfl, by simpa [qn] using IntsFrom.nil _ _, jf _ _⟩
  case round =>
   obtain ⟨k, hk, rfl, hown, hgi⟩ := hrel
   obtain ⟨A2, c2, rfl, hl2, hA2⟩ := hown.shape
   by_cases hlt : k < js.length
   ·have hki : (k : Int) < (js.length : Int) := by omega
    obtain ⟨gj, rfl, _, hgl⟩ := HJA.out (by omega)
    have hat := IntsFrom.at_ (l := qn js) (g := gj) (c := c) (by rw [HML.out]; exact HJU.out.grown hgi) k (by rw [HML.out]; exact hlt)
    rw [show (qn js)[k]'(by rw [HML.out]; exact hlt) = (js[k] : Int) by simp [qn]] at hat
    have hfs := jjr (fun q => !(fun _ => false) q) js k hlt
    have hJp := HJS.out _ (List.getElem_mem hlt)
    have HOL : Hid ((qn ((js.take k).filter fun q => !(fun _ => false) q)).length ≤ 2000) := by
     show _ ≤ _
     unfold qn
     rw [List.length_map]
     have h1 := List.length_filter_le (fun q => !(fun _ => false) q) (js.take k)
     rw [List.length_take] at h1
     have := HJL.out
     omega
    generalize hfk : (js.take k).filter (fun q => !(fun _ => false) q) = fk at *
    generalize js[k] = J at *
    have HFS := Lib.hid hfs
    have HFK := Lib.hid hfk
    have hsz := hgi.size
    clear hfs hA2 hfk
    have HNEW : Hid ((js.take (k + 1)).filter (fun q => !(fun _ => false) q) = fk ++ [J]) := by show _ = _; rw [HFS.out]; rfl
    have hownX := hown
    go_wp2_with (at_builtin; refine wpList_append_own _ rfl _ _ 22 rfl wo.heap.size 3 i0 _ 1 8 Tryz.underlying22 hi0 hz0 hz1 hz2 rfl (by decide) _ _ _ rfl (World.ownsRow.alloc (show World.ownsRow _ _ _ _ _ _ _ from hown) _) ⟨_, 0, none⟩ 1 1 [.int .i64 J] rfl rfl (qw _ (J : Int) _) (j6 (J : Int)) (by have := HOL.out; unfold maxLen; omega) (by have := HOL.out; omega) (by simp; omega) ?_; intro v' w4 hownB hgrB _)
    have hown4 : IntsFrom wo.heap.size w4 v' (qn ((js.take (k + 1)).filter fun q => !(fun _ => false) q)) := by
     rw [HNEW.out, jcv]
     unfold IntsFrom
     rw [List.map_append, List.length_append]
     simpa using hownB
    have hG4 : wo.grownBy w4 none := jk (jd hgi _) hgrB (fun g e => .inr (by have := (hownX.lt g e).1; omega))
    go_wp2_with fail
    go_roundw
    case rel => exact ⟨k + 1, by omega, by go_num, hown4, hG4⟩
    case measure => simp [intOf]; omega
   have hkl : ¬ (k : Int) < (js.length : Int) := by omega
   have HCN : Hid (∀ W, wo.grownBy W none → IntsFrom wo.heap.size W (.slice A2 (qn (js.take k |>.filter fun q => !(fun _ => false) q)).length c2) (qn (js.filter fun q => !(fun _ => false) q)) → Calls Tryz.prog 98 #[.pointer (some ⟨gT, 0, none⟩), .slice A2 (qn (js.take k |>.filter fun q => !(fun _ => false) q)).length c2, .int .i64 t] W fun r w' => r = .returned (.int .i64 (jcm l p t (js.filter fun q => !(fun _ => false) q))) ∧ W.grownBy w' none) := fun W hW hi => jem base wo.heap.size gT u v _ l p _ t W (HT.out.at_.grown (ja HgO.out hW)) hO hi (fun j hj => HJS.out j (List.mem_filter.1 hj).1)
   have hown2 : IntsFrom wo.heap.size wr (.slice A2 (qn (js.take k |>.filter fun q => !(fun _ => false) q)).length c2) (qn (js.filter fun q => !(fun _ => false) q)) := by
    rw [List.take_of_length_le (show js.length ≤ k by omega)] at hown ⊢
    exact hown
   have HC := Lib.hid (HCN.out wr hgi hown2)
   obtain ⟨r, hr⟩ : ∃ r, jcm l p t (js.filter fun q => !(fun _ => false) q) = r := ⟨_, rfl⟩
   have HSR := HST
   rw [hr] at HC HSR
   generalize (qn (js.take k |>.filter fun q => !(fun _ => false) q)).length = LN at *
   clear hown hown2 hA2 hr
   go_wp2_with fail
   refine HC.out.mono ?_
   rintro _ w3 ⟨rfl, hg3⟩
   by_cases hr0 : 0 ≤ r
   ·have HR : Hid (jol l p t place (fun _ => false) = r) := by show _ = _; rw [HSR.out, if_pos hr0]
    go_wp2_with fail
    go_ret
    exact ⟨ji HR.out.symm, ja (ja HgO.out hgi) hg3⟩
   have HR : Hid (jol l p t place (fun _ => false) = jrs l p t place (fun _ => false) m) := by show _ = _; rw [HSR.out, if_neg hr0]
   go_wp2_with fail
   go_roundw
   case rel => exact ⟨m, by have := HM.out; omega, by first | rfl | go_num, HR, ja (ja HgO.out hgi) hg3⟩
   case measure => simp [intOf]; have := HM.out; omega
theorem TabRight.size {l : List Ent} {p : List Pfx} (h : TabRight l p) : ∀ x ∈ p, x.whole = false → 1 ≤ x.beg.size ∧ x.beg.size ≤ 4 := fun x hx hw => joa (h.pfx x hx).form hw
theorem jq9 {l : List Ent} {s : ByteArray} (h : (xi l s).isSome = true) : (jhs l s).key = s := by
 obtain ⟨e, he⟩ := Option.isSome_iff_exists.1 h
 unfold jhs
 rw [he]
 exact (jen he).2
theorem jfx {α : Type} (f : α → Bool) : ∀ (l : List α) (i : Nat) (h : i < l.length), f l[i] = true → (∀ j (hj : j < l.length), f l[j] = true → i ≤ j) → l.find? f = some l[i]
 | a :: r, 0, h, hf, _ => by rw [List.find?_cons]; simp at hf; simp [hf]
 | a :: r, i + 1, h, hf, hm => by
   have h0 : f a = false := by
    cases hc : f a with
    | false => rfl
    | true => have := hm 0 (by simp) (by simpa using hc); omega
   rw [List.find?_cons, h0]
   simp only [List.getElem_cons_succ]
   exact jfx f r i (by simpa using h) (by simpa using hf) (fun j hj hfj => by have := hm (j + 1) (by simpa using hj) (by simpa using hfj); omega)
theorem jux (l : List Ent) (p : List Pfx) (s : ByteArray) (t : Int) : (jcm l p t (jfd p true s) < 0 ∧ jp2 l p s t = none) ∨ ∃ (i : Nat) (h : i < p.length), jcm l p t (jfd p true s) = i ∧ jp2 l p s t = some p[i] := by
 have hw : ∀ j (h : j < p.length), jwt l s t p[j] = true ↔ j ∈ jfd p true s ∧ jns l p[j] t = true := fun j h => by
  unfold jwt
  rw [idxL_mem]
  constructor
  ·intro h1
   simp only [Bool.and_eq_true, decide_eq_true_eq] at h1
   exact ⟨⟨h, h1.1, h1.2.1⟩, h1.2.2⟩
  rintro ⟨⟨_, h1, h2⟩, h3⟩
  simp [h1, h2, h3]
 rcases jei l p t (jfd p true s) (jer _ _ _) (fun j hj => (idxL_mem.1 hj).1) with ⟨h1, h2⟩ | ⟨i, hi, hil, h1, h2, h3⟩
 ·refine .inl ⟨by omega, ?_⟩
  unfold jp2
  rw [List.find?_eq_none]
  intro x hx hc
  obtain ⟨j, hj, rfl⟩ := List.mem_iff_getElem.1 hx
  obtain ⟨q1, q2⟩ := (hw j hj).1 hc
  have := h2 j q1 hj
  rw [q2] at this
  cases this
 refine .inr ⟨i, hil, h1, ?_⟩
 unfold jp2
 exact jfx _ p i hil ((hw i hil).2 ⟨hi, h2⟩) (fun j hj hc => by
  obtain ⟨q1, q2⟩ := (hw j hj).1 hc
  exact h3 j q1 ⟨hj, q2⟩)
theorem job (base gT : Nat) (u v : Value) (l : List Ent) (p : List Pfx) (k : Nat) (w : World) (hT : TabAt base gT u v l p w) (hO : TabOk l p) (hlt : k < p.length) :
 Calls Tryz.prog 99 #[.pointer (some ⟨gT, 0, none⟩), .int .i64 k] w fun r w' => r = .returned (.agg #[.string (jgw l p[k]).1, .int .i64 (jgw l p[k]).2.1, .int .i64 (jgw l p[k]).2.2]) ∧ w.grownBy w' none :=
 (jrg base gT u v l p k w hT hO hlt).mono fun r w' ⟨h1, h2⟩ => ⟨by
  rw [h1]
  show _ = Ending.returned (.agg #[.string (jhs l p[k].ent).key, .int .i64 (jhs l p[k].ent).cont, .int .i64 (jtt l p[k])])
  rw [jq9 (hO.has _ (List.getElem_mem hlt))], h2⟩
set_option maxRecDepth 100000 in
set_option maxHeartbeats 16000000 in
theorem jtr (base base2 gT bB bW : Nat) (u v : Value) (l : List Ent) (p : List Pfx) (s : ByteArray) (t : Int) (q : ByteArray × Nat × Int × ByteArray) (w : World) (hT : TabFull base base2 gT bB bW u v l p w) (hRt : TabRight l p) (hs : s.size ≤ 1000) (ha : Ascii s) (hq : jo s = some q) :
 Calls Tryz.prog 56 #[.pointer (some ⟨gT, 0, none⟩), .string s, .int .i64 t] w fun r w' => jva (jgv l p s t q) r ∧ w.grownBy w' none := by
 have hqs := jbo hq
 have hR := Blk.new w 53 #[.string ⟨#[]⟩, .int .i64 0, .int .i64 0]
 have hg0 := World.grownBy_alloc w (.cells #[.string ⟨#[]⟩, .int .i64 0, .int .i64 0] 53) none
 have HT := Lib.hid hT
 have hO := hRt.ok
 obtain ⟨O, hOO⟩ : ∃ O, jgv l p s t q = O := ⟨_, rfl⟩
 rw [hOO]
 have HO := Lib.hid hOO
 obtain ⟨gR, hgR⟩ : ∃ x, w.heap.size = x := ⟨_, rfl⟩
 have HgR := Lib.hid hgR
 rw [hgR] at hR
 have HFIN : Hid (∀ (W : World) (K : ByteArray) (C Z : Int) (F : Bool), Blk W gR 53 #[.string ⟨#[]⟩, .int .i64 0, .int .i64 0] → w.grownBy W none →
  (((W.setCell ⟨gR, 0, none⟩ (.string K)).setCell ⟨gR, 1, none⟩ (.int .i64 C)).setCell ⟨gR, 2, none⟩ (.int .i64 Z)).cell? ⟨gR, 0, none⟩ = some (.string K) ∧ (((W.setCell ⟨gR, 0, none⟩ (.string K)).setCell ⟨gR, 1, none⟩ (.int .i64 C)).setCell ⟨gR, 2, none⟩ (.int .i64 Z)).cell? ⟨gR, 1, none⟩ = some (.int .i64 C) ∧ (((W.setCell ⟨gR, 0, none⟩ (.string K)).setCell ⟨gR, 1, none⟩ (.int .i64 C)).setCell ⟨gR, 2, none⟩ (.int .i64 Z)).cell? ⟨gR, 2, none⟩ = some (.int .i64 Z) ∧ w.grownBy (((W.setCell ⟨gR, 0, none⟩ (.string K)).setCell ⟨gR, 1, none⟩ (.int .i64 C)).setCell ⟨gR, 2, none⟩ (.int .i64 Z)) none) := fun W K C Z F hW hgW => by
  have hf := ((Blk.put hW 0 (.string K)).put 1 (.int .i64 C)).put 2 (.int .i64 Z)
  simp only [List.setIfInBounds_toArray, List.set_cons_zero, List.set_cons_succ] at hf
  have hle : w.heap.size ≤ gR := by omega
  exact ⟨hf.cell 0, hf.cell 1, hf.cell 2, jg (p := ⟨gR, 2, none⟩) (jg (p := ⟨gR, 1, none⟩) (jg (p := ⟨gR, 0, none⟩) hgW (.inr hle) (.string K)) (.inr hle) (.int .i64 C)) (.inr hle) (.int .i64 Z)⟩
 have HLD : Hid (∀ (n : Nat) (hn : n < p.length) W, w.grownBy W none → Calls Tryz.prog 99 #[.pointer (some ⟨gT, 0, none⟩), .int .i64 n] W fun r w' => r = .returned (.agg #[.string (jgw l p[n]).1, .int .i64 (jgw l p[n]).2.1, .int .i64 (jgw l p[n]).2.2]) ∧ W.grownBy w' none) := fun n hn W hW => job base gT u v l p n W (hT.at_.grown hW) hO hn
 have HCN : Hid (∀ W, w.grownBy W none → ∀ uj, IntsFrom base2 W uj (qn (jfd p true s)) → Calls Tryz.prog 98 #[.pointer (some ⟨gT, 0, none⟩), uj, .int .i64 t] W fun r w' => r = .returned (.int .i64 (jcm l p t (jfd p true s))) ∧ W.grownBy w' none) := fun W hW uj hi => jem base base2 gT u v uj l p _ t W (hT.at_.grown hW) hO hi (fun j hj => (idxL_mem.1 hj).1)
 obtain ⟨nW, hmW⟩ := hT.mW
 obtain ⟨uj, hju, _, hlk⟩ := hmW.look2 s (by omega)
 have hlk1 := hlk _ none hg0 (by simp)
 have HJU := Lib.hid (IntsFrom.grown hju hg0)
 have cW := hg0.cell hT.cW (by simp)
 have hwi := jux l p s t
 obtain ⟨C0, hC0⟩ : ∃ x, jcm l p t (jfd p true s) = x := ⟨_, rfl⟩
 rw [hC0] at hwi HCN
 have HWI := Lib.hid hwi
 have HAS := Lib.hid ha
 have HQ := Lib.hid hq
 have HRT := Lib.hid hRt
 clear hT hOO hgR hlk hmW hju hwi hC0 hq ha hRt hO
 go_enter Tryz.func56, Tryz.ntmps56
 go_upto_region 1 with fail
 generalize w.alloc (.cells #[.string ⟨#[]⟩, .int .i64 0, .int .i64 0] 53) = w1 at *
 rw [HgR.out]
 go_wp2_with fail
 refine (HCN.out _ hg0 _ HJU.out).mono ?_
 rintro _ w2 ⟨rfl, hg2⟩
 have hgw := ja hg0 hg2
 have hRr := hR.grown hg2 (by simp)
 clear hlk1 cW hR hg0
 rcases HWI.out with ⟨hneg, hwn⟩ | ⟨i, hil, rfl, hws⟩
 ·have hneg2 : ¬ (0 : Int) ≤ C0 := by omega
  have hor : O = jle l p t q := by rw [← HO.out]; unfold jgv; rw [hwn]
  obtain ⟨T0, kk, KD, AD⟩ := q
  obtain ⟨z1, z2, z3⟩ := hqs
  simp only at z1 z2 z3
  have hPA : ∀ W, Calls Tryz.prog 85 #[.string s] W fun r w' => r = .returned (.tuple #[.agg #[.string T0, .string (T0.extract 0 (kk + 1)), .string (T0.extract (kk + 1) T0.size), .int .i64 KD, .string AD], .bool true]) ∧ W.grownBy w' none := fun W => (jbd s W (by omega) HAS.out).mono fun r w' ⟨h1, h2⟩ => by
   rcases h2 with ⟨h3, _⟩ | ⟨t', k', kd', ad', h3, h4⟩
   ·rw [HQ.out] at h3; simp at h3
   rw [HQ.out] at h3
   simp only [Option.some.injEq, Prod.mk.injEq] at h3
   obtain ⟨rfl, rfl, rfl, rfl⟩ := h3
   exact ⟨h4, h1⟩
  unfold jle at hor
  simp only at hor
  rw [jon l p t (-1) _ HRT.out.size] at hor
  rw [show (fun j : Nat => decide ((j : Int) = -1)) = fun _ => false from funext fun j => by rw [decide_eq_false_iff_not]; omega] at hor
  have y1 : (T0.extract 0 (kk + 1)).size ≤ 100 ∧ 1 ≤ (T0.extract 0 (kk + 1)).size := by rw [ByteArray.size_extract]; omega
  have y2 : (T0.extract (kk + 1) T0.size).size ≤ 100 := by rw [ByteArray.size_extract]; omega
  have hLN : ∀ W, w.grownBy W none → Calls Tryz.prog 100 #[.pointer (some ⟨gT, 0, none⟩), .string (jca T0 (T0.extract 0 (kk + 1)) (T0.extract (kk + 1) T0.size) AD KD), .int .i64 t, .nilFunc] W fun r w' => r = .returned (.int .i64 (jol l p t (jca T0 (T0.extract 0 (kk + 1)) (T0.extract (kk + 1) T0.size) AD KD) fun _ => false)) ∧ W.grownBy w' none := fun W hW =>
   jj4 base base2 gT bB bW u v l p _ t W (HT.out.grown hW) HRT.out.ok (by
    unfold jca
    split
    ·omega
    ·split
     ·rw [ByteArray.size_append, ByteArray.size_append, ByteArray.size_extract]; omega
     ·omega)
  have hbd := jk6 l p (jca T0 (T0.extract 0 (kk + 1)) (T0.extract (kk + 1) T0.size) AD KD) t (-1) p.length
  rw [jon l p t (-1) _ HRT.out.size, show (fun j : Nat => decide ((j : Int) = -1)) = fun _ => false from funext fun j => by rw [decide_eq_false_iff_not]; omega] at hbd
  have HPO : Hid (∀ W, Calls Tryz.prog 101 #[.agg #[.string T0, .string (T0.extract 0 (kk + 1)), .string (T0.extract (kk + 1) T0.size), .int .i64 KD, .string AD]] W fun r w' => r = .returned (.string (jca T0 (T0.extract 0 (kk + 1)) (T0.extract (kk + 1) T0.size) AD KD)) ∧ W.grownBy w' none) := fun W => jkd T0 _ _ AD KD W y1.1 y2 z2 y1.2
  generalize jca T0 (T0.extract 0 (kk + 1)) (T0.extract (kk + 1) T0.size) AD KD = PL at *
  generalize jol l p t PL (fun _ => false) = LG at *
  generalize T0.extract 0 (kk + 1) = PRE at *
  generalize T0.extract (kk + 1) T0.size = SUF at *
  have HPA := Lib.hid hPA
  have HOR := Lib.hid hor
  have HLN := Lib.hid hLN
  have HBD := Lib.hid hbd
  clear hPA hor hLN hwn hneg hbd y1 y2
  go_wp2_with fail
  refine (HPA.out _).mono ?_
  rintro _ w3 ⟨rfl, hg3⟩
  have hX := Blk.new w3 87 #[.string T0, .string PRE, .string SUF, .int .i64 KD, .string AD]
  have hR4 := (Blk.grown hRr hg3 (by simp)).alloc (.cells #[.string T0, .string PRE, .string SUF, .int .i64 KD, .string AD] 87)
  have hg4 := jd (ja hgw hg3) (.cells #[.string T0, .string PRE, .string SUF, .int .i64 KD, .string AD] 87)
  go_upto_region 5 with fail
  generalize w3.alloc (.cells #[.string T0, .string PRE, .string SUF, .int .i64 KD, .string AD] 87) = w4 at *
  generalize w3.heap.size = gX at *
  have x0 := Blk.cell hX 0
  have x1 := Blk.cell hX 1
  have x2 := Blk.cell hX 2
  have x3 := Blk.cell hX 3
  have x4 := Blk.cell hX 4
  have r0 := Blk.cell hR4 0
  have r1 := Blk.cell hR4 1
  have r2 := Blk.cell hR4 2
  have rf := Blk.free hR4
  simp only [geA, geZ, geS] at x0 x1 x2 x3 x4 r0 r1 r2
  by_cases hk56 : KD = 5 ∨ KD = 6
  ·have hON : O = none := by rw [HOR.out, if_pos hk56]
   subst hON
   obtain ⟨e0, e1, e2, e3⟩ := HFIN.out w4 ⟨#[]⟩ 0 0 false hR4 hg4
   rcases hk56 with rfl | rfl
   ·go_wp2_with fail
    refine bodyPost_ret (v := .tuple #[.agg #[.string ⟨#[]⟩, .int .i64 0, .int .i64 0], .bool false]) (by simp [results, Tryz.results56, go_sem, e0, e1, e2]) rfl ?_
    exact ⟨rfl, e3⟩
   go_wp2_with fail
   refine bodyPost_ret (v := .tuple #[.agg #[.string ⟨#[]⟩, .int .i64 0, .int .i64 0], .bool false]) (by simp [results, Tryz.results56, go_sem, e0, e1, e2]) rfl ?_
   exact ⟨rfl, e3⟩
  have HK56 := Lib.hid hk56
  have b5 : (KD == 5) = false := by simp; omega
  have b6 : (KD == 6) = false := by simp; omega
  clear hk56
  go_wp2_with fail
  refine (HPO.out _).mono ?_
  rintro _ w5 ⟨rfl, hg5⟩
  have hR5 := Blk.grown (w := w4) hR4 hg5 (by simp)
  have hg45 := ja hg4 hg5
  go_wp2_with fail
  refine (HLN.out _ hg45).mono ?_
  rintro _ w6 ⟨rfl, hg6⟩
  have hR6 := Blk.grown (g := gR) hR5 hg6 (by simp)
  have hgF := ja hg45 hg6
  clear r0 r1 r2 rf x0 x1 x2 x3 x4 b5 b6
  have r0 := Blk.cell (g := gR) hR6 0
  have r1 := Blk.cell (g := gR) hR6 1
  have r2 := Blk.cell (g := gR) hR6 2
  have rf := Blk.free (g := gR) hR6
  simp only [geA, geZ, geS] at r0 r1 r2
  by_cases hneg : LG < 0
  ·have hON : O = none := by rw [HOR.out, if_neg HK56.out, if_pos hneg]
   subst hON
   obtain ⟨e0, e1, e2, e3⟩ := HFIN.out w6 ⟨#[]⟩ 0 0 false hR6 hgF
   go_wp2_with fail
   refine bodyPost_ret (v := .tuple #[.agg #[.string ⟨#[]⟩, .int .i64 0, .int .i64 0], .bool false]) (by simp [results, Tryz.results56, go_sem, e0, e1, e2]) rfl ?_
   exact ⟨rfl, e3⟩
  obtain ⟨n, rfl⟩ : ∃ n : Nat, LG = n := ⟨LG.toNat, by have := HBD.out; omega⟩
  have hnl : n < p.length := by have := HBD.out.2; omega
  have hOS : O = some (jgw l p[n]) := by rw [HOR.out, if_neg HK56.out, if_neg hneg, Int.toNat_natCast, List.getElem?_eq_getElem hnl]; rfl
  have HLD1 := Lib.hid (HLD.out n hnl)
  have HOS := Lib.hid hOS
  clear hOS
  generalize jgw l p[n] = FX at *
  have hOS2 := HOS.out
  subst hOS2
  go_wp2_with fail
  refine (HLD1.out _ hgF).mono ?_
  rintro _ w7 ⟨rfl, hg7⟩
  have hR7 := Blk.grown (g := gR) hR6 hg7 (by simp)
  clear r0 r1 r2 rf
  have r0 := Blk.cell (g := gR) hR7 0
  have r1 := Blk.cell (g := gR) hR7 1
  have r2 := Blk.cell (g := gR) hR7 2
  have rf := Blk.free (g := gR) hR7
  simp only [geA, geZ, geS] at r0 r1 r2
  obtain ⟨e0, e1, e2, e3⟩ := HFIN.out w7 FX.1 FX.2.1 FX.2.2 true hR7 (ja hgF hg7)
  go_wp2_with fail
  refine bodyPost_ret (v := .tuple #[.agg #[.string FX.1, .int .i64 FX.2.1, .int .i64 FX.2.2], .bool true]) (by simp [results, Tryz.results56, go_sem, e0, e1, e2]) rfl ?_
  exact ⟨rfl, e3⟩
 have hOS : O = some (jgw l p[i]) := by rw [← HO.out]; unfold jgv; rw [hws]
 have HLD1 := Lib.hid (HLD.out i hil)
 have HOS := Lib.hid hOS
 have hi0 : (0 : Int) ≤ (i : Int) := by omega
 clear hOS hws
 generalize jgw l p[i] = FX at *
 have hOS2 := HOS.out
 subst hOS2
 go_wp2_with fail
 refine (HLD1.out _ hgw).mono ?_
 rintro _ w7 ⟨rfl, hg7⟩
 have hR7 := Blk.grown (g := gR) hRr hg7 (by simp)
 have r0 := Blk.cell (g := gR) hR7 0
 have r1 := Blk.cell (g := gR) hR7 1
 have r2 := Blk.cell (g := gR) hR7 2
 have rf := Blk.free (g := gR) hR7
 simp only [geA, geZ, geS] at r0 r1 r2
 obtain ⟨e0, e1, e2, e3⟩ := HFIN.out w7 FX.1 FX.2.1 FX.2.2 true hR7 (ja hgw hg7)
 go_wp2_with fail
 refine bodyPost_ret (v := .tuple #[.agg #[.string FX.1, .int .i64 FX.2.1, .int .i64 FX.2.2], .bool true]) (by simp [results, Tryz.results56, go_sem, e0, e1, e2]) rfl ?_
 exact ⟨rfl, e3⟩
end Go.Proofs.YtbamhgaghngjiaaGreatDoor
namespace Go.Proofs.YtbamhgaghngjiaaGreatDoor
set_option linter.unusedVariables false

theorem size_len' (s : ByteArray) : s.size = s.data.toList.length := by rw [Array.length_toList]; rfl
theorem je1 : ∀ (k u : Nat), u < 10 ^ (k + 1) → Lib.nDigits u ≤ k + 1
 | 0, u, h => by unfold Lib.nDigits; rw [dif_pos (by simpa using h)]; omega
 | k + 1, u, h => by
   unfold Lib.nDigits
   split
   ·omega
   have := je1 k (u / 10) (by rw [Nat.pow_succ] at h; omega)
   omega
def jm5 (x : Int) : Int := (419904000000 - 4 * x * x) * 1000000 / (419904000000 + x * x)
def jp7 (y : Int) : Int :=
 if 648000 < y then (if 324000 < 1296000 - y then -jm5 (648000 - (1296000 - y)) else jm5 (1296000 - y))
 else (if 324000 < y then -jm5 (648000 - y) else jm5 y)
def jwa (a : Int) : Int := jp7 (a % 1296000)
theorem jse (x : Int) (h0 : 0 ≤ x) (h1 : x ≤ 324000) : 0 ≤ x * x ∧ x * x ≤ 104976000000 ∧ 4 * x * x = 4 * (x * x) := by
 refine ⟨Int.mul_nonneg h0 h0, ?_, by rw [Int.mul_assoc]⟩
 have := Int.mul_le_mul h1 h1 h0 (by omega)
 omega
theorem jny (x : Int) (h0 : 0 ≤ x) (h1 : x ≤ 324000) : 0 ≤ jm5 x ∧ jm5 x ≤ 1000000 := by
 obtain ⟨a, b, c⟩ := jse x h0 h1
 unfold jm5
 rw [c]
 refine ⟨Int.ediv_nonneg (by omega) (by omega), ?_⟩
 refine Int.le_of_lt_add_one (Int.ediv_lt_of_lt_mul (by omega) ?_)
 omega
theorem jkr (a : Int) : (a.tmod 1296000 + 1296000) % 1296000 = a % 1296000 := by
 have := Int.tmod_add_mul_tdiv a 1296000
 have h1 := jdi a 1296000 (by omega)
 omega
end Go.Proofs.YtbamhgaghngjiaaGreatDoor

namespace Go.Proofs.YtbamhgaghngjiaaGreatDoor
set_option linter.unusedVariables false
open Go.RowKit

set_option maxHeartbeats 400000 in
theorem jel (x : Int) (w : World) (h0 : 0 ≤ x) (h1 : x ≤ 324000) :
 Calls Tryz.prog 86 #[.int .i64 x] w fun e w' => e = .returned (.int .i64 (jm5 x)) ∧ w = w' := by
 obtain ⟨a, b, c⟩ := jse x h0 h1
 have a' : 0 ≤ 4 * x * x := by omega
 have b' : 4 * x * x ≤ 419904000000 := by omega
 have e1 : (x % 1296000 + 1296000) % 1296000 = x := by omega
 clear c
 go_enter Tryz.func86, Tryz.ntmps86
 go_wp2_with fail
 go_ret
 exact ⟨rfl, rfl⟩
set_option maxHeartbeats 1000000 in
theorem jlz (x : Int) (w : World) (h0 : -1000000000000000 ≤ x) (h1 : x ≤ 1000000000000000) :
 Calls Tryz.prog 86 #[.int .i64 x] w fun e w' => e = .returned (.int .i64 (jwa x)) ∧ w = w' := by
 have ht := jdi x 1296000 (by omega)
 obtain ⟨t1, t2⟩ := ht
 have hc := jkr x
 have hfin : jwa x = jp7 (x % 1296000) := rfl
 obtain ⟨y, hy⟩ : ∃ y, y = x % 1296000 := ⟨_, rfl⟩
 have y0 : 0 ≤ y := by omega
 have y1 : y < 1296000 := by omega
 rw [← hy] at hc hfin
 have hc2 : 0 ≤ x → (x % 1296000 + 1296000) % 1296000 = y := fun _ => by omega
 have HF := Lib.hid hfin
 clear hfin hy
 by_cases hx : 0 ≤ x
 all_goals first | (have hc3 := hc2 hx; clear hc hc2) | clear hc2
 all_goals
  by_cases g1 : 648000 < y
  ·obtain ⟨z, hz⟩ : ∃ z, 1296000 - y = z := ⟨_, rfl⟩
   have z0 : 0 ≤ z := by omega
   have z1 : z < 648000 := by omega
   by_cases g2 : 324000 < z
   ·have HE := Lib.hid (show jp7 y = -jm5 (648000 - z) by unfold jp7; rw [if_pos g1, hz, if_pos g2])
    have hbd := jny (648000 - z) (by omega) (by omega)
    obtain ⟨d1, d2⟩ := hbd
    go_enter Tryz.func86, Tryz.ntmps86
    go_wp2_with (go_at_call 86; refine (jel _ _ (by omega) (by omega)).mono ?_; rintro e w' ⟨rfl, rfl⟩)
    go_ret
    exact ⟨ji (by rw [HF.out, HE.out]), rfl⟩
   have HE := Lib.hid (show jp7 y = jm5 z by unfold jp7; rw [if_pos g1, hz, if_neg g2])
   obtain ⟨a, b, c⟩ := jse z z0 (by omega)
   have a' : 0 ≤ 4 * z * z := by omega
   have b' : 4 * z * z ≤ 419904000000 := by omega
   clear c
   go_enter Tryz.func86, Tryz.ntmps86
   go_wp2_with fail
   go_ret
   exact ⟨ji (by rw [HF.out, HE.out]; rfl), rfl⟩
  by_cases g2 : 324000 < y
  ·have HE := Lib.hid (show jp7 y = -jm5 (648000 - y) by unfold jp7; rw [if_neg g1, if_pos g2])
   have hbd := jny (648000 - y) (by omega) (by omega)
   obtain ⟨d1, d2⟩ := hbd
   go_enter Tryz.func86, Tryz.ntmps86
   go_wp2_with (go_at_call 86; refine (jel _ _ (by omega) (by omega)).mono ?_; rintro e w' ⟨rfl, rfl⟩)
   go_ret
   exact ⟨ji (by rw [HF.out, HE.out]), rfl⟩
  have HE := Lib.hid (show jp7 y = jm5 y by unfold jp7; rw [if_neg g1, if_neg g2])
  obtain ⟨a, b, c⟩ := jse y y0 (by omega)
  have a' : 0 ≤ 4 * y * y := by omega
  have b' : 4 * y * y ≤ 419904000000 := by omega
  clear c
  go_enter Tryz.func86, Tryz.ntmps86
  go_wp2_with fail
  go_ret
  exact ⟨ji (by rw [HF.out, HE.out]; rfl), rfl⟩
end Go.Proofs.YtbamhgaghngjiaaGreatDoor

namespace Go.Proofs.YtbamhgaghngjiaaGreatDoor
set_option linter.unusedVariables false

end Go.Proofs.YtbamhgaghngjiaaGreatDoor

namespace Go.Proofs.YtbamhgaghngjiaaGreatDoor
open Go.RowKit
set_option linter.unusedVariables false

theorem i64_in (n : Int) (h : -9223372036854775808 ≤ n ∧ n ≤ 9223372036854775807) : IntKind.i64.wrap n = n := IntWalk.i64_in n h
end Go.Proofs.YtbamhgaghngjiaaGreatDoor

namespace Go.Proofs.YtbamhgaghngjiaaGreatDoor
open Go.RowKit
set_option linter.unusedVariables false

end Go.Proofs.YtbamhgaghngjiaaGreatDoor

namespace Go.Proofs.YtbamhgaghngjiaaGreatDoor
open Go.RowKit
set_option linter.unusedVariables false

set_option maxHeartbeats 400000 in
theorem jjq (x : Int) (w : World) :
 Calls Tryz.prog 42 #[.int .i64 x] w fun r w' =>
  r = .returned (.tuple #[.int .i64 (okI (jdh x (-1296000000) 1296000000) (jwa x)), .int .i64 (jdh x (-1296000000) 1296000000)]) ∧ w = w' := by
 rcases jfa x (-1296000000) 1296000000 with ⟨he, h1, h2⟩ | ⟨he, h1⟩
 ·have HE := Lib.hid he
  have hb : qu x (-1296000000) 1296000000 = false := zx h1 h2
  clear he
  go_enter Tryz.func42, Tryz.ntmps42
  go_wp2_with (first | (go_at_call 59; refine (qd _ _ _ _).mono ?_; rintro r w' ⟨rfl, rfl⟩) | (go_at_call 86; refine (jlz _ _ (by omega) (by omega)).mono ?_; rintro r w' ⟨rfl, rfl⟩))
  go_ret2
  exact ⟨jlf (by unfold okI; rw [HE.out]; rfl) HE.out.symm, rfl⟩
 have HE := Lib.hid he
 have hb : qu x (-1296000000) 1296000000 = true := xq h1
 clear he
 go_enter Tryz.func42, Tryz.ntmps42
 go_wp2_with (first | (go_at_call 59; refine (qd _ _ _ _).mono ?_; rintro r w' ⟨rfl, rfl⟩))
 go_ret2
 exact ⟨jlf (by unfold okI; rw [HE.out]; rfl) HE.out.symm, rfl⟩
theorem jwi : jwa 216000 = 500000 := by decide +kernel
end Go.Proofs.YtbamhgaghngjiaaGreatDoor

namespace Go.Proofs.YtbamhgaghngjiaaGreatDoor
open Go.RowKit
set_option linter.unusedVariables false

theorem jje (w : World) : Calls Tryz.prog 41 #[.string ⟨#[111, 104, 50, 97, 98, 99, 47, 52]⟩] w fun e w' =>
 e = .returned (.tuple #[.agg #[.string ⟨#[111, 104, 50, 97, 98, 99]⟩, .string ⟨#[111, 104, 50]⟩, .string ⟨#[97, 98, 99]⟩, .int .i64 2, .string ⟨#[52]⟩], .int .i64 0]) ∧ w.grownBy w' none := by
 refine (jnm _ w (by decide) ?_).mono ?_
 ·intro j b h
  have hm := List.mem_of_getElem? h
  have hall : ∀ b ∈ (⟨#[111, 104, 50, 97, 98, 99, 47, 52]⟩ : ByteArray).data.toList, b.toNat < 128 := by decide +kernel
  exact hall b hm
 rintro e w' ⟨hg, h⟩
 refine ⟨?_, hg⟩
 rcases h with ⟨h, _⟩ | ⟨t, k, kd, ad, h, rfl⟩
 ·rw [jcw] at h; cases h
 rw [jcw] at h
 simp only [Option.some.injEq, Prod.mk.injEq] at h
 obtain ⟨rfl, rfl, rfl, rfl⟩ := h
 rfl
theorem jks (b : Nat) (w : World) (hgl : Gl b w) : Calls Tryz.prog 43 #[.string ⟨#[112, 97, 114, 105, 115]⟩] w fun e w' =>
 e = .returned (.tuple #[.int .i64 43, .int .i64 0]) ∧ w.grownBy w' none := by
 have h := jp1 b jo3 w hgl (by decide)
 rw [jrx, jj8] at h
 exact h
theorem jh4 (w : World) : Calls Tryz.prog 42 #[.int .i64 216000] w fun e w' =>
 e = .returned (.tuple #[.int .i64 500000, .int .i64 0]) ∧ w = w' := by
 have h1 : jdh 216000 (-1296000000) 1296000000 = 0 := jlm (by omega) (by omega)
 have h := jjq 216000 w
 rw [h1, jwi] at h
 exact h
theorem jlx (w : World) : Calls Tryz.prog 44 #[.slice (some ⟨w.heap.size, 0, none⟩) 3 3, .agg #[.int .i64 0, .int .i64 3600000], .int .i64 900000] (w.alloc (.cells #[.int .i64 0, .int .i64 600000, .int .i64 1200000] 3)) fun e w' =>
 e = .returned (.tuple #[.int .i64 0, .int .i64 2, .int .i64 0]) ∧ w.grownBy w' none := by
 have hb := Blk.new w 3 (([0, 600000, 1200000] : List Int).map (Value.int .i64)).toArray
 have hl : IntsFrom 0 _ _ [0, 600000, 1200000] := jqi hb (Nat.zero_le _) (by decide)
 have e1 : jak [0, 600000, 1200000] 0 3600000 = 0 := by decide
 have e2 : joo 900000 = 0 := by decide
 have e3 : jh0 [0, 600000, 1200000] 0 900000 = (0, 2) := by decide
 have H := (js4 0 _ _ 0 3600000 900000 _ hl e1 e2)
 rw [e3] at H
 exact H.mono fun e w' ⟨he, hg⟩ => ⟨he, ja (World.grownBy_alloc w _ none) hg⟩
set_option maxRecDepth 100000 in
set_option maxHeartbeats 2000000 in
theorem jo8 (b : Nat) (w : World) (hgl : Gl b w) : Calls Tryz.prog 18 #[] w fun r w' => r = .returned (.bool true) ∧ w.grownBy w' none := by
 have HGL := Lib.hid hgl
 clear hgl
 go_enter Tryz.func18, Tryz.ntmps18
 go_wp2_with fail
 refine (jje _).mono ?_
 rintro _ w1 ⟨rfl, hg1⟩
 go_wp2_with fail
 have hB := Blk.new w1 87 #[.string ⟨#[111, 104, 50, 97, 98, 99]⟩, .string ⟨#[111, 104, 50]⟩, .string ⟨#[97, 98, 99]⟩, .int .i64 2, .string ⟨#[52]⟩]
 have hG := jd hg1 (.cells #[.string ⟨#[111, 104, 50, 97, 98, 99]⟩, .string ⟨#[111, 104, 50]⟩, .string ⟨#[97, 98, 99]⟩, .int .i64 2, .string ⟨#[52]⟩] 87)
 clear hg1
 generalize w1.alloc (.cells #[.string ⟨#[111, 104, 50, 97, 98, 99]⟩, .string ⟨#[111, 104, 50]⟩, .string ⟨#[97, 98, 99]⟩, .int .i64 2, .string ⟨#[52]⟩] 87) = W at *
 refine (jh4 _).mono ?_
 rintro _ _ ⟨rfl, rfl⟩
 go_wp2_with fail
 refine (jks b _ (HGL.out.quiet hG)).mono ?_
 rintro _ w2 ⟨rfl, hg⟩
 replace hB := hB.grown hg (by simp)
 replace hG := ja hG hg
 clear hg
 go_wp2_with fail
 refine (jlx _).mono ?_
 rintro _ w3 ⟨rfl, hg⟩
 replace hB := hB.grown hg (by simp)
 replace hG := ja hG hg
 have c1 : w3.cell? ⟨w1.heap.size, 1, none⟩ = some (.string ⟨#[111, 104, 50]⟩) := hB.cell 1
 clear hg
 go_wp2_with fail
 go_ret
 exact ⟨rfl, hG⟩
end Go.Proofs.YtbamhgaghngjiaaGreatDoor
namespace Go.Proofs.YtbamhgaghngjiaaGreatDoor
open Go.RowKit
set_option linter.unusedVariables false

structure P10 (b : Nat) (w : World) : Prop where
 tab : Lib.TabIs Tryz.prog w "internal/strconv.uint64pow10" .u64 Lib.pow10Tab
 lt : 5 < b
 lb : b ≤ w.heap.size
theorem P10.grown {b : Nat} {w w' : World} (h : P10 b w) (hg : w.grownBy w' none) : P10 b w' :=
 ⟨ji3 (by kernel_rfl) h.tab hg (Nat.lt_of_lt_of_le h.lt h.lb) (by simp), h.lt, Nat.le_trans h.lb hg.size⟩
def itZ (t : Int) : ByteArray := ⟨(Lib.decDigits t.toNat).toArray⟩
theorem jeu (b : Nat) (t : Int) (w : World) (h0 : 0 ≤ t) (h1 : t ≤ 1000000000000) (hp : P10 b w) :
 Calls Tryz.prog 174 #[.int .i64 t] w fun e w' => e = .returned (.string (itZ t)) ∧ w.grownBy w' none := by
 obtain ⟨n, rfl⟩ := Int.eq_ofNat_of_zero_le h0
 refine (Tryz.strconv_Itoa (n : Int) (by omega) (by omega) w hp.tab).mono ?_
 rintro e w' ⟨rfl, k, os, rfl⟩
 refine ⟨by rw [Lib.itoa_nonneg]; rfl, ?_⟩
 exact ja (q9 (jf _ _) k) ⟨rfl, rfl, rfl, by simp, fun i hi _ => Sort.heap_grow_old _ _ (by simpa using hi)⟩
def j5 (l : List Ent) (p : List Pfx) (s : ByteArray) (t : Int) : Option Fnd := (jo s).bind (jgv l p s t)
def jue (a b : Option Fnd) (rel : Int) : Bool :=
 if rel = 0 then true
 else match a, b with
 | some a, some b => if rel = 1 then a.1.toList == b.1.toList else if rel = 2 then a.2.2 == b.2.2 else if rel = 3 then a.2.1 == b.2.1 else if rel = 4 then a.2.1 != b.2.1 else false
 | _, _ => rel == 5
def jh8 (F : ByteArray → Int → Option Fnd) (own : ByteArray) (x : Con) (r : Rul) : Bool :=
 (r.mode == 0 || r.mode == x.mode) && ((r.band.toList == [] || r.band.toList == x.band.toList) && jue (F own x.tm) (F x.call x.tm) r.rel)
def zo (F : ByteArray → Int → Option Fnd) (own : ByteArray) (x : Con) : List Rul → Nat → Int
 | [], _ => -1
 | r :: l, k => if jh8 F own x r then (k : Int) else zo F own x l (k + 1)
def ja3 (F : ByteArray → Int → Option Fnd) (own : ByteArray) (rs : List Rul) (x : Con) : Int := zo F own x rs 0
def xe (F : ByteArray → Int → Option Fnd) (own : ByteArray) (rs : List Rul) (x : Con) : Int := if 0 ≤ ja3 F own rs x then (rs.getD (ja3 F own rs x).toNat ⟨0, 0, ⟨#[]⟩, 0⟩).points else 0
def jgh (s : ByteArray) : ByteArray := match jo s with | some q => q.1 | none => ⟨#[]⟩
def jr0 (s : ByteArray) : ByteArray := match jo s with | some q => q.1.extract 0 (q.2.1 + 1) | none => ⟨#[]⟩
def jv8 (by_ : Bool) (x : Con) : ByteArray × ByteArray × Int := (jgh x.call, x.band, if by_ then x.mode else 0)
def jt1 (F : ByteArray → Int → Option Fnd) (x : Con) (what : Int) : ByteArray :=
 if what = 4 then jr0 x.call
 else if what = 5 then x.got
 else match F x.call x.tm with
 | none => ⟨#[]⟩
 | some f => if what = 1 then f.1 else if what = 2 then itZ f.2.2 else itZ f.2.1
def je2 (F : ByteArray → Int → Option Fnd) (x : Con) (m : Mul) : ByteArray :=
 let a := jt1 F x m.what
 if a.size = 0 then ⟨#[]⟩
 else
  let b := if m.byBand then a ++ (⟨#[32]⟩ ++ x.band) else a
  if m.byMode then b ++ (⟨#[32]⟩ ++ itZ x.mode) else b
theorem jkj (F : ByteArray → Int → Option Fnd) (own : ByteArray) (x : Con) (rs : List Rul) (k : Nat) (h : k < rs.length) : zo F own x (rs.drop k) k = if jh8 F own x rs[k] then (k : Int) else zo F own x (rs.drop (k + 1)) (k + 1) := by
 rw [List.drop_eq_getElem_cons h]
 rfl
theorem jms (F : ByteArray → Int → Option Fnd) (own : ByteArray) (x : Con) (rs : List Rul) (k : Nat) : zo F own x (rs.drop rs.length) k = -1 := by rw [List.drop_length]; rfl
theorem jiy (F : ByteArray → Int → Option Fnd) (own : ByteArray) (x : Con) : ∀ (rs : List Rul) (k : Nat), zo F own x rs k = -1 ∨ ((k : Int) ≤ zo F own x rs k ∧ zo F own x rs k < (k + rs.length : Nat))
 | [], k => .inl rfl
 | r :: l, k => by
   unfold zo
   split
   ·right; constructor
    ·omega
    simp only [List.length_cons]; omega
   rcases jiy F own x l (k + 1) with h | ⟨h1, h2⟩
   ·exact .inl h
   right; constructor
   ·omega
   simp only [List.length_cons]; omega
theorem jlj (F : ByteArray → Int → Option Fnd) (own : ByteArray) (x : Con) (rs : List Rul) : ja3 F own rs x = -1 ∨ (0 ≤ ja3 F own rs x ∧ ja3 F own rs x < (rs.length : Int)) := by
 rcases jiy F own x rs 0 with h | ⟨h1, h2⟩
 ·exact .inl h
 right; unfold ja3; omega
def j3 (F : ByteArray → Int → Option Fnd) (ms : List Mul) (x : Con) : Nat → List (Nat × ByteArray)
 | 0 => []
 | k + 1 => j3 F ms x k ++ (if (je2 F x (ms.getD k ⟨0, false, false⟩)).size = 0 then [] else [(k, je2 F x (ms.getD k ⟨0, false, false⟩))])
theorem jj6 (F : ByteArray → Int → Option Fnd) (ms : List Mul) (x : Con) (k : Nat) (h : k < ms.length) : j3 F ms x (k + 1) = j3 F ms x k ++ (if (je2 F x ms[k]).size = 0 then [] else [(k, je2 F x ms[k])]) := by
 have : ms.getD k ⟨0, false, false⟩ = ms[k] := by simp [h]
 rw [← this]; rfl
def jcn (l : List Con) (i : Nat) : Con := l.getD i ⟨0, 0, ⟨#[]⟩, ⟨#[]⟩, 0, 0, ⟨#[]⟩, ⟨#[]⟩⟩
end Go.Proofs.YtbamhgaghngjiaaGreatDoor
