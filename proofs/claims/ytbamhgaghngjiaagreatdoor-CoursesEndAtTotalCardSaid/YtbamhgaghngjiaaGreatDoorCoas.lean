/- Parts of a proof: ScOrd, ScOrder, WkSet, ScSplit, ScNew, ScSum. Conditions: as each statement says. -/
import Derived.Test.YtbamhgaghngjiaaGreatDoorCoar
import Derived.Maps.Own
namespace Go.Proofs.YtbamhgaghngjiaaGreatDoor
open Go.RowKit Go.Sort Go.Shelf
set_option linter.unusedVariables false
set_option linter.unusedSimpArgs false

def jl3 (n : Nat) : List Nat → List (Fin n)
 | [] => []
 | j :: r => if h : j < n then ⟨j, h⟩ :: jl3 n r else jl3 n r
theorem jd3 (n : Nat) : ∀ js : List Nat, (∀ j ∈ js, j < n) → (jl3 n js).map (fun x => x.val) = js
 | [], _ => rfl
 | j :: r, h => by
   unfold jl3
   rw [dif_pos (h j (List.mem_cons_self ..)), List.map_cons, jd3 n r fun x hx => h x (List.mem_cons_of_mem _ hx)]
def inN (a z : Int) (l : List Con) : Nat → List Nat
 | 0 => []
 | k + 1 => if jb3 a z (l.getD k ⟨0, 0, ⟨#[]⟩, ⟨#[]⟩, 0, 0, ⟨#[]⟩, ⟨#[]⟩⟩).tm then inN a z l k ++ [k] else inN a z l k
theorem jib (a z : Int) (l : List Con) : ∀ k, ∀ j ∈ inN a z l k, j < k
 | 0, j, h => by cases h
 | k + 1, j, h => by
   unfold inN at h
   split at h
   ·rcases List.mem_append.1 h with h | h
    ·have := jib a z l k j h; omega
    rw [List.mem_singleton.1 h]; omega
   have := jib a z l k j h; omega
theorem jgz (a z : Int) (l : List Con) : ∀ k, (inN a z l k).length ≤ k
 | 0 => Nat.le_refl _
 | k + 1 => by
   have := jgz a z l k
   unfold inN
   split
   ·rw [List.length_append]; simp; omega
   omega
theorem jrl (a z : Int) (l : List Con) (k : Nat) (h : k < l.length) : inN a z l (k + 1) = if jb3 a z l[k].tm then inN a z l k ++ [k] else inN a z l k := by
 have : l.getD k ⟨0, 0, ⟨#[]⟩, ⟨#[]⟩, 0, 0, ⟨#[]⟩, ⟨#[]⟩⟩ = l[k] := by simp [h]
 rw [← this]; rfl
def jg7 (a z : Int) : List Con → List Nat
 | [] => []
 | y :: r => (jm7 (y :: r) r.length rfl (jl3 (r.length + 1) (inN a z (y :: r) (r.length + 1))).toArray).toList.map fun x => x.val
theorem jbc (a z : Int) (y : Con) (r : List Con) : jg7 a z (y :: r) = (jm7 (y :: r) r.length rfl (jl3 (r.length + 1) (inN a z (y :: r) (r.length + 1))).toArray).toList.map fun x => x.val := rfl
theorem jvp (A : Option Addr) (c : Nat) (fv : Value) (w : World) :
 Calls Tryz.prog 218 #[.slice A 0 c, .int .i64 0, .int .i64 0, fv] w fun e w' => e = .returned (.tuple #[]) ∧ w' = w := by
 go_enter Tryz.func218, Tryz.ntmps218
 go_wp2_with fail
 go_loopw [8] (fun iv wr => iv = .int .i64 1 ∧ wr = w) (fun _ _ => 0)
 case atStart => exact ⟨rfl, rfl⟩
 case round =>
  obtain ⟨rfl, rfl⟩ := hrel
  go_wp2_with fail
  go_end0
  exact ⟨rfl, rfl⟩
theorem jpp (A : Option Addr) (c : Nat) (fv : Value) (w : World) :
 Calls Tryz.prog 152 #[.slice A 0 c, fv] w fun e w' => e = .returned (.tuple #[]) ∧ w' = w := by
 have hst : Hid (Calls Tryz.prog 197 #[.slice A 0 c, .int .i64 0, fv] w fun e w' => e = .returned (.tuple #[]) ∧ w' = w) := by
  show Calls _ _ _ _ _
  go_enter Tryz.func197, Tryz.ntmps197
  go_wp2_with fail
  go_loopw [7, 8] (fun av bv wr => av = .int .i64 0 ∧ bv = .int .i64 20 ∧ wr = w) (fun _ _ _ => 0)
  case atStart => exact ⟨rfl, rfl, rfl⟩
  case round =>
   obtain ⟨rfl, rfl, rfl⟩ := hrel
   go_wp2_with fail
   refine (jvp A c fv _).mono ?_
   rintro _ w1 ⟨rfl, rfl⟩
   go_wp2_with fail
   go_loopw [6] (fun sv wr => sv = .int .i64 20 ∧ wr = w1) (fun _ _ => 0)
   case atStart => exact ⟨rfl, rfl⟩
   case round =>
    obtain ⟨rfl, rfl⟩ := hrel
    go_wp2_with fail
    go_end0
    exact ⟨rfl, rfl⟩
 go_enter Tryz.func152, Tryz.ntmps152
 go_wp2_with fail
 refine hst.out.mono ?_
 rintro _ w1 ⟨rfl, rfl⟩
 go_wp2_with fail
 go_end0
 exact ⟨rfl, rfl⟩
theorem jup (base base2 gB : Nat) (A : Option Addr) (c : Nat) (l : List Con) (a z : Int) (u : Value) (w : World) (hX : ConsFrom base w (.slice A l.length c) l) (hXb : ∀ k, A = some ⟨k, 0, none⟩ → k < base2) (hB : w.cell? ⟨gB, 0, none⟩ = some (.slice A l.length c)) (hBg : gB < base2) (ht : ∀ y ∈ l, 0 ≤ y.tm ∧ y.tm ≤ 345686399999) (hu : IntsFrom base2 w u (qn (inN a z l l.length))) (h20 : l.length < 20) :
 Calls Tryz.prog 152 #[u, .func (.func 153) #[] #[.pointer (some ⟨gB, 0, none⟩)]] w fun e w' => e = .returned (.tuple #[]) ∧ IntsFrom base2 w' u (qn (jg7 a z l)) ∧ w.grownBy w' u.ownBlock := by
 have hlt := jib a z l l.length
 have hlen := jgz a z l l.length
 rcases hu.2 with ⟨rfl, h0⟩ | ⟨g, cap, cur, rfl, hb, hg, hnc, hm, hs, htk⟩
 ·have hnil : inN a z l l.length = [] := by
   have : (inN a z l l.length).length = 0 := by simpa [qn] using h0
   exact List.eq_nil_of_length_eq_zero this
  refine (jpp none 0 _ w).mono ?_
  rintro r w' ⟨rfl, rfl⟩
  have ho : jg7 a z l = [] := by
   cases l with
   | nil => rfl
   | cons y r =>
     have e : inN a z (y :: r) (r.length + 1) = [] := hnil
     rw [jbc, e]
     have hz := jc0 (y :: r) r.length rfl (jl3 (r.length + 1) []).toArray
     have : (jm7 (y :: r) r.length rfl (jl3 (r.length + 1) []).toArray).toList = [] := List.eq_nil_of_length_eq_zero (by simpa [jl3] using hz)
     rw [this]; rfl
  rw [ho]
  exact ⟨rfl, IntsFrom.nil _ _, jf _ _⟩
 cases l with
 | nil =>
   refine (jpp (some ⟨g, 0, none⟩) cap _ w).mono ?_
   rintro r w' ⟨rfl, rfl⟩
   exact ⟨rfl, hu, jf _ _⟩
 | cons y r =>
   have hmap := jd3 (r.length + 1) (inN a z (y :: r) (r.length + 1)) hlt
   have hE : (jhr r.length) = ((Value.int .i64 ∘ fun n : Nat => (n : Int)) ∘ fun x : Fin (r.length + 1) => x.val) := rfl
   obtain ⟨D, hD⟩ : ∃ D, (jl3 (r.length + 1) (inN a z (y :: r) (r.length + 1))).toArray = D := ⟨_, rfl⟩
   have hDl : D.toList.map (fun x => x.val) = inN a z (y :: r) (r.length + 1) := by rw [← hD]; exact hmap
   have hDs : D.size = (qn (inN a z (y :: r) (y :: r).length)).length := by
    have := congrArg List.length hDl
    rw [List.length_map, Array.length_toList] at this
    unfold qn
    rw [List.length_map, this]; rfl
   have hd : D.toList.map (jhr r.length) = (qn (inN a z (y :: r) (y :: r).length)).map (Value.int .i64) := by
    unfold qn
    rw [List.map_map, hE, ← List.map_map, hDl]
    rfl
   have hlen2 : (qn (inN a z (y :: r) (y :: r).length)).length ≤ (y :: r).length := by unfold qn; rw [List.length_map]; exact hlen
   have hrow : w.ownsRow base2 3 1 (.slice (some ⟨g, 0, none⟩) D.size cap) D.size (D.toList.map (jhr r.length)) := by
    have h := hu
    unfold IntsFrom at h
    rw [hd, hDs]
    exact h
   rw [← hDs]
   refine (jmz base base2 gB r.length A c (y :: r) rfl g cap D w hX (fun k e => by have := hXb k e; omega) hB (by omega) ht hrow (by omega)).mono ?_
   rintro e w' ⟨rfl, h2, h3⟩
   refine ⟨rfl, ?_, h3⟩
   have hsz := jc0 (y :: r) r.length rfl D
   rw [jbc, hD]
   generalize jm7 (y :: r) r.length rfl D = D2 at *
   have hl2 : D2.toList.length = D.size := (Array.length_toList).trans hsz
   unfold IntsFrom qn
   rw [List.length_map, List.length_map, hl2, List.map_map, List.map_map]
   exact h2
end Go.Proofs.YtbamhgaghngjiaaGreatDoor
namespace Go.Proofs.YtbamhgaghngjiaaGreatDoor
open Go.RowKit
set_option linter.unusedVariables false
set_option linter.unusedSimpArgs false

theorem je3 (js : List Nat) (k : Nat) : qn (js ++ [k]) = qn js ++ [(k : Int)] := by unfold qn; rw [List.map_append]; rfl
set_option maxRecDepth 100000 in
set_option maxHeartbeats 16000000 in
theorem jo0 (base base2 gS gT bB bW : Nat) (u v rv mv : Value) (c : Cst) (xv : Value) (l : List Con) (w : World) (h : ScAt base base2 gS gT bB bW u v rv mv c w) (hx : ConsFrom base w xv l) (ht : ∀ y ∈ l, 0 ≤ y.tm ∧ y.tm ≤ 345686399999) (h20 : l.length < 20) :
 Calls Tryz.prog 93 #[.pointer (some ⟨gS, 0, none⟩), xv] w fun e w' => ∃ o, e = .returned o ∧ IntsFrom w.heap.size w' o (qn (jg7 c.beg c.fin l)) ∧ w.grownBy w' none := by
 obtain ⟨i0, hi0, hz0, hz1, hz2⟩ := info_parts jdd
 obtain ⟨XA, xc, rfl, hxl, hXA⟩ := hx.shape
 have HXA := Lib.hid hXA
 have HX := Lib.hid hx
 have HT := Lib.hid ht
 have HS := Lib.hid h.blk
 have hsl := h.blk.lt
 have HST : Hid (∀ k (hk : k < l.length), inN c.beg c.fin l (k + 1) = if jb3 c.beg c.fin l[k].tm then inN c.beg c.fin l k ++ [k] else inN c.beg c.fin l k) := fun k hk => jrl _ _ _ k hk
 have HLN : Hid (∀ k, (inN c.beg c.fin l k).length ≤ k) := fun k => jgz _ _ _ k
 have HSO : Hid (∀ (base2 gB : Nat) (u : Value) (W : World), ConsFrom base W (.slice XA l.length xc) l → (∀ k, XA = some ⟨k, 0, none⟩ → k < base2) → W.cell? ⟨gB, 0, none⟩ = some (.slice XA l.length xc) → gB < base2 → IntsFrom base2 W u (qn (inN c.beg c.fin l l.length)) → Calls Tryz.prog 152 #[u, .func (.func 153) #[] #[.pointer (some ⟨gB, 0, none⟩)]] W fun e w' => e = .returned (.tuple #[]) ∧ IntsFrom base2 w' u (qn (jg7 c.beg c.fin l)) ∧ W.grownBy w' u.ownBlock) := fun base2 gB u W h1 h2 h3 h4 h5 => jup base base2 gB XA xc l c.beg c.fin u W h1 h2 h3 h4 HT.out h5 h20
 obtain ⟨NI, hNI⟩ : ∃ f, inN c.beg c.fin l = f := ⟨_, rfl⟩
 have HN0 : Hid (NI 0 = []) := by show _ = _; rw [← hNI]; rfl
 obtain ⟨NO, hNO⟩ : ∃ f, qn (jg7 c.beg c.fin l) = f := ⟨_, rfl⟩
 rw [hNI] at HST HLN HSO
 rw [hNO] at HSO ⊢
 clear hNI hNO
 generalize c.own = own at *
 generalize c.beg = bg at *
 generalize c.fin = fn at *
 generalize c.byMode = bmd at *
 have hBx := Blk.new w 35 #[.slice XA l.length xc]
 have hgB := World.grownBy_alloc w (.cells #[.slice XA l.length xc] 35) none
 obtain ⟨B, hB⟩ : ∃ b, w.heap.size = b := ⟨_, rfl⟩
 have HB := Lib.hid hB
 have hXB : ∀ k, XA = some ⟨k, 0, none⟩ → k < B + 1 := fun k e => by
  by_cases hl0 : 0 < l.length
  ·obtain ⟨g, hg, _, hlt⟩ := hXA hl0
   rw [e] at hg
   injection hg with hg
   injection hg with hg
   omega
  rcases hx.2 with ⟨h0, _⟩ | ⟨g, cap, cur, h0, hb, hg, _⟩
  ·injection h0 with h1 _ _
   rw [e] at h1
   cases h1
  injection h0 with h1 _ _
  rw [e] at h1
  injection h1 with h1
  injection h1 with h1
  have := (Array.getElem?_eq_some_iff.1 hg).1
  omega
 have HXB := Lib.hid hXB
 rw [hB] at hBx hsl ⊢
 clear h hx ht hXA hB hXB
 go_enter Tryz.func93, Tryz.ntmps93
 go_upto_region 2 with fail
 generalize w.alloc (.cells #[.slice XA l.length xc] 35) = w0 at *
 (try rw [HB.out])
 have b0 := hBx.cell 0
 simp only [List.getElem?_toArray, List.getElem?_cons_zero] at b0
 go_wp2_with fail
 clear b0
 go_loopw [5, 10] (fun ov kv wr => ∃ k : Nat, k ≤ l.length ∧ kv = .int .i64 k ∧ Hid (IntsFrom (B + 1) wr ov (qn (NI k))) ∧ Blk wr B 35 #[.slice XA l.length xc] ∧ w.grownBy wr none) (fun _ kv _ => l.length - (intOf kv).toNat)
 case atStart => exact ⟨0, by omega, rfl, (show IntsFrom _ _ _ _ by rw [HN0.out]; exact IntsFrom.nil _ _), hBx, hgB⟩
 case round =>
  obtain ⟨k, hk, rfl, HO, hBr, hg⟩ := hrel
  clear hBx hgB
  obtain ⟨A2, c2, rfl, _, _⟩ := HO.out.shape
  have hLOk : (qn (NI k)).length ≤ k := by unfold qn; rw [List.length_map]; exact HLN.out k
  obtain ⟨LO, hLO⟩ : ∃ LO, (qn (NI k)).length = LO := ⟨_, rfl⟩
  have HLO := Lib.hid hLO
  rw [hLO] at HO hLOk
  (try rw [hLO])
  clear hLO
  by_cases hlt : k < l.length
  ·have hki : (k : Int) < (l.length : Int) := by omega
   obtain ⟨g, rfl, _, _⟩ := HXA.out (by omega)
   obtain ⟨q0, q1, q2, q3, q4, q5, q6, q7⟩ := (HX.out.grown hg).at_ k hlt
   have hst := HST.out k hlt
   generalize l[k].tm = Tm at *
   generalize l[k].mode = Mo at *
   generalize l[k].band = BD at *
   generalize l[k].call = CL at *
   generalize l[k].sent = SE at *
   generalize l[k].heard = HE at *
   generalize l[k].gave = GA at *
   generalize l[k].got = GO at *
   have hH := fun W => jdc bg fn Tm W
   generalize jb3 bg fn Tm = HBo at *
   have HH := Lib.hid hH
   have HST2 := Lib.hid hst
   have hX := Blk.new wr 50 #[.int .i64 Tm, .int .i64 Mo, .string BD, .string CL, .int .i64 SE, .int .i64 HE, .string GA, .string GO]
   have hgX := World.grownBy_alloc wr (.cells #[.int .i64 Tm, .int .i64 Mo, .string BD, .string CL, .int .i64 SE, .int .i64 HE, .string GA, .string GO] 50) none
   have hs5 := HS.out.grown (ja hg hgX) (by simp)
   clear hst hH
   go_upto_region 5 with fail
   generalize wr.alloc (.cells #[.int .i64 Tm, .int .i64 Mo, .string BD, .string CL, .int .i64 SE, .int .i64 HE, .string GA, .string GO] 50) = w5 at *
   generalize wr.heap.size = gX at *
   have x0 := hX.cell 0
   have s3 := hs5.cell 3
   have s4 := hs5.cell 4
   simp only [geA, geZ, geS] at x0 s3 s4
   clear q0 q1 q2 q3 q4 q5 q6 q7 hX hs5
   refine wp_region_held_drew (S := fun V => V.cell? ⟨gS, 3, none⟩ = some (.int .i64 bg) ∧ V.cell? ⟨gS, 4, none⟩ = some (.int .i64 fn) ∧ V.cell? ⟨gX, 0, none⟩ = some (.int .i64 Tm)) (by kernel_rfl) ⟨s3, s4, x0⟩ (fun hHeld => ?_)
   refine tkH 0 15 hHeld ?_
   simp only [Act.put, ssA, ssZ, ssS]
   refine tkH 1 16 hHeld ?_
   simp only [Act.put, ssA, ssZ, ssS]
   refine tkH 2 17 hHeld ?_
   simp only [Act.put, ssA, ssZ, ssS]
   refine tkH 3 18 hHeld ?_
   simp only [Act.put, ssA, ssZ, ssS]
   refine tkH 4 19 hHeld ?_
   simp only [Act.put, ssA, ssZ, ssS]
   refine tkH 5 20 hHeld ?_
   simp only [Act.put, ssA, ssZ, ssS]
   refine tkH 6 21 hHeld ?_
   simp only [Act.put, ssA, ssZ, ssS]
   refine wpAnyH_ready (rs := [7]) (by kernel_rfl) (by simp) ?_
   refine AllReadyH.cons (o := _) rfl (fun K hK => ?_) AllReadyH.nil
   go_simp
   (go_at_call 49; refine (HH.out _).mono ?_; rintro _ w6 ⟨rfl, hg6⟩; have hg56 : w5.grownBy w6 none := ja (jn (jf w5 none)) hg6)
   refine hK.out _ _ ⟨hg56.cell s3 (by simp), hg56.cell s4 (by simp), hg56.cell x0 (by simp)⟩ (fun hHeld7 => ?_)
   clear hK K
   (try simp only [Act.put, ssA, ssZ, ssS])
   refine wpAnyH_done (by kernel_rfl) ?_ _
   have hg06 := ja (ja hg hgX) hg56
   have hB6 := hBr.grown (ja hgX hg56) (by simp)
   have HO6 := Lib.hid (HO.out.grown (ja hgX hg56))
   clear x0 s3 s4 hgX hg56 hBr hg HO hHeld hHeld7
   cases HBo
   ·have HS2 : Hid (NI (k + 1) = NI k) := HST2.out
    go_wp2_with fail
    go_roundw
    case rel => exact ⟨k + 1, by omega, by go_num, (show IntsFrom _ _ _ _ by rw [HS2.out]; exact HO6.out), hB6, hg06⟩
    case measure => simp [intOf]; omega
   have HS2 : Hid (NI (k + 1) = NI k ++ [k]) := HST2.out
   have hownR : w6.ownsRow (B + 1) 3 1 (.slice A2 LO c2) LO ((qn (NI k)).map (Value.int .i64)) := by
    have h := HO6.out
    unfold IntsFrom at h
    rw [HLO.out] at h
    exact h
   have HOR := Lib.hid hownR
   have hwg := hB6.lt
   clear hownR
   go_wp2_with (at_builtin; refine wpList_append_own _ rfl _ _ 22 rfl (B + 1) 3 i0 _ 1 8 Tryz.underlying22 hi0 hz0 hz1 hz2 rfl (by decide) _ LO _ rfl (World.ownsRow.alloc HOR.out _) ⟨_, 0, none⟩ 1 1 [.int .i64 k] rfl rfl (qw _ (k : Int) _) (j6 (k : Int)) (by unfold maxLen; omega) (by omega) (by simp; omega) ?_; intro v' w7 hownB hgrB _)
   have hown7 : IntsFrom (B + 1) w7 v' (qn (NI (k + 1))) := by
    rw [HS2.out, je3]
    unfold IntsFrom
    rw [List.map_append, List.length_append, HLO.out]
    simpa using hownB
   have hG7 : w.grownBy w7 none := jk (jd hg06 _) hgrB (fun g e => .inr (by have := (HOR.out.lt g e).1; have := HB.out; omega))
   have hB7 := (hB6.alloc (.cells #[.int .i64 k] 3)).grown hgrB (fun e => by have := (HOR.out.lt _ e.symm).1; omega)
   go_wp2_with fail
   go_roundw
   case rel => exact ⟨k + 1, by omega, by go_num, hown7, hB7, hG7⟩
   case measure => simp [intOf]; omega
  have hki : ¬ (k : Int) < (l.length : Int) := by omega
  obtain rfl : k = l.length := by omega
  have b0 := hBr.cell 0
  simp only [List.getElem?_toArray, List.getElem?_cons_zero] at b0
  have HSORT := Lib.hid (HSO.out (B + 1) B _ wr (HX.out.grown hg) HXB.out b0 (by omega) HO.out)
  have hrow := World.ownsRow.lt HO.out
  go_wp2_with fail
  refine HSORT.out.mono ?_
  rintro _ w8 ⟨rfl, h8, hg8⟩
  have hG8 : w.grownBy w8 none := jk hg hg8 (fun g e => .inr (by have := (hrow g e).1; have := HB.out; omega))
  go_wp2_with fail
  go_ret
  exact ⟨_, rfl, jq h8 (show B ≤ B + 1 by omega), hG8⟩
abbrev Wk := ByteArray × ByteArray × Int
def jsj (k : Wk) : Prop := k.1.size ≤ 1000000 ∧ k.2.1.size ≤ 1000000 ∧ (-1000000000000 ≤ k.2.2 ∧ k.2.2 ≤ 1000000000000)
def wkB (k : Wk) : List UInt8 := keyBytes [.string k.1.data.toList, .string k.2.1.data.toList, .int .i64 k.2.2]
def wkV (k : Wk) : Value := .agg #[.string k.1, .string k.2.1, .int .i64 k.2.2]
theorem jhp (k : Wk) (h : jsj k) : keyOf Tryz.prog 127 (wkV k) = some (.string (wkB k)) := jwu k.1 k.2.1 k.2.2 h.1 h.2.1 h.2.2
theorem juz {k j : Wk} (hk : jsj k) (hj : jsj j) (h : wkB k = wkB j) : k = j := by
 have h1 := wkLaw.inj (jhp k hk) (by rw [h]; exact jhp j hj)
 obtain ⟨a, b, c⟩ := k
 obtain ⟨a', b', c'⟩ := j
 simp only [wkV, Value.agg.injEq, Array.mk.injEq, List.cons.injEq, Value.string.injEq, Value.int.injEq, and_true, true_and] at h1
 obtain ⟨rfl, rfl, rfl⟩ := h1
 rfl
theorem jml {P : Program} {e : TypeId} (he : P.underlying e = some .bool) {v : Value} {z : DataW Unit × List MemPlace} (h : plainElem P e v = some z) : ∃ a, v = .bool a ∧ z = (.lit (.bool a), []) := by
 unfold plainElem at h
 rw [he] at h
 cases v <;> simp at h
 subst h
 exact ⟨_, rfl, rfl⟩
def jj5 (S : List Wk) (k : Wk) : Bool := S.any fun j => decide (j = k)
def MapWk (w : World) (bm n : Nat) (S : List Wk) : Prop :=
 (∀ k ∈ S, jsj k) ∧ ∃ D : DataW Unit, w.ownsMap Tryz.prog 127 (plainElem Tryz.prog 4) bm n D ∧ Maps.IsMap D ∧ ∀ k : Wk, jsj k → D.atKey (.string (wkB k)) (.lit (.bool false)) = .lit (.bool (jj5 S k))
theorem MapWk.lt {w : World} {bm n : Nat} {S : List Wk} (h : MapWk w bm n S) : bm < w.heap.size := by obtain ⟨_, D, h1, _⟩ := h; exact h1.lt
theorem MapWk.made (w : World) : MapWk (w.alloc (.map #[] 0)) w.heap.size 0 [] :=
 ⟨by simp, _, World.ownsMap_made w _ _ _, Maps.isMap_empty, fun k _ => rfl⟩
theorem MapWk.kept {w w' : World} {bm n : Nat} {S : List Wk} (h : MapWk w bm n S) {row : Option Nat} (hg : w.grownBy w' row) (hr : some bm ≠ row) : MapWk w' bm n S := by
 obtain ⟨h0, D, h1, h2⟩ := h
 exact ⟨h0, D, h1.kept hg hr, h2⟩
theorem MapWk.quiet {w w' : World} {bm n : Nat} {S : List Wk} (h : MapWk w bm n S) (hg : w.grownBy w' none) : MapWk w' bm n S := h.kept hg (by simp)
theorem MapWk.look {w : World} {bm n : Nat} {S : List Wk} (h : MapWk w bm n S) (k : Wk) (hk : jsj k) :
 (Instr.lookup 159 (.map (some bm)) (wkV k) false).run Tryz.prog w = .ok (.bool (jj5 S k)) w := by
 obtain ⟨h0, D, h1, h2, h3⟩ := h
 obtain ⟨v, ps, hrun, hv⟩ := h1.lookup wkLaw Tryz.underlying159 (z := .bool false) (by kernel_rfl) (plainElem_bool Tryz.underlying4 false) (jhp k hk)
 rw [h3 k hk] at hv
 obtain ⟨a, rfl, h4⟩ := jml Tryz.underlying4 hv
 simp only [Prod.mk.injEq, DataW.lit.injEq, Lit.bool.injEq] at h4
 rw [h4.1]
 exact hrun
theorem MapWk.put {w : World} {bm n : Nat} {S : List Wk} (h : MapWk w bm n S) (hn : n ≤ 1000000) (k : Wk) (hk : jsj k) :
 ∃ w', (Instr.mapUpdate 159 (.map (some bm)) (wkV k) (.bool true)).run Tryz.prog w = .ok () w' ∧ MapWk w' bm (n + 1) (S ++ [k]) ∧ w.grownBy w' (some bm) := by
 obtain ⟨h0, D, h1, h2, h3⟩ := h
 obtain ⟨w', hrun, ho, hg⟩ := h1.update wkLaw Tryz.underlying159 (by unfold maxLen; omega) (jhp k hk) (plainElem_bool Tryz.underlying4 true)
 refine ⟨w', hrun, ⟨fun j hj => ?_, _, ho, h2.put _ _, fun j hj => ?_⟩, hg⟩
 ·rcases List.mem_append.1 hj with h | h
  ·exact h0 j h
  rw [List.mem_singleton.1 h]; exact hk
 by_cases e : j = k
 ·subst e
  rw [Maps.atKey_put_same h2 (k := .string (wkB j)) (by trivial)]
  simp [jj5]
 rw [Maps.atKey_put_other (by intro h; injection h with h; exact e (juz hj hk h)), h3 j hj]
 have e2 : ¬ k = j := fun h => e h.symm
 simp [jj5, e2]
theorem joy (a z : Int) (l : List Con) : ∀ j ∈ jg7 a z l, j < l.length := by
 cases l with
 | nil => intro j h; cases h
 | cons y r =>
   intro j h
   rw [jbc] at h
   obtain ⟨x, _, rfl⟩ := List.mem_map.1 h
   have := x.isLt
   simp only [List.length_cons]
   omega
theorem jk9 (a z : Int) (l : List Con) : (jg7 a z l).length ≤ l.length := by
 cases l with
 | nil => exact Nat.le_refl _
 | cons y r =>
   have h1 := jc0 (y :: r) r.length rfl (jl3 (r.length + 1) (inN a z (y :: r) (r.length + 1))).toArray
   have h2 := jgz a z (y :: r) (r.length + 1)
   have h3 := congrArg List.length (jd3 (r.length + 1) (inN a z (y :: r) (r.length + 1)) (jib a z (y :: r) (r.length + 1)))
   rw [List.length_map] at h3
   rw [jbc, List.length_map]
   refine Nat.le_trans (Nat.le_of_eq ((Array.length_toList).trans h1)) ?_
   show (jl3 (r.length + 1) (inN a z (y :: r) (r.length + 1))).length ≤ _
   rw [h3]
   exact h2
def jja (bm : Bool) (l : List Con) (j : Nat) : Wk := jv8 bm (jcn l j)
def jmy (bm : Bool) (l : List Con) (js : List Nat) : Nat → List Nat × List Nat
 | 0 => ([], [])
 | k + 1 => if jj5 ((js.take k).map (jja bm l)) (jja bm l (js.getD k 0)) then ((jmy bm l js k).1, (jmy bm l js k).2 ++ [js.getD k 0]) else ((jmy bm l js k).1 ++ [js.getD k 0], (jmy bm l js k).2)
theorem jhl (bm : Bool) (l : List Con) (js : List Nat) : ∀ k, (jmy bm l js k).1.length + (jmy bm l js k).2.length = k
 | 0 => rfl
 | k + 1 => by
   have := jhl bm l js k
   unfold jmy
   split <;> simp <;> omega
theorem jan (l : List Con) (j : Nat) (h : j < l.length) : jcn l j = l[j] := by unfold jcn; simp [h]
theorem juy (c : Cst) (bm : Bool) (l : List Con) (j : Nat) (h : j < l.length) (hk : ScOk c l[j]) (hm : 0 ≤ l[j].mode ∧ l[j].mode ≤ 1000) : jsj (jja bm l j) := by
 unfold jja
 rw [jan l j h]
 refine ⟨?_, ?_, ?_⟩
 ·show (jgh l[j].call).size ≤ _
  obtain ⟨q, hq⟩ := Option.isSome_iff_exists.1 hk.call
  have := (jbo hq).1
  unfold jgh
  rw [hq]
  show q.1.size ≤ _
  omega
 ·show l[j].band.size ≤ _
  have := hk.con.1
  omega
 show _ ≤ (if bm then l[j].mode else 0) ∧ (if bm then l[j].mode else 0) ≤ _
 split <;> omega
set_option maxRecDepth 100000 in
set_option maxHeartbeats 32000000 in
theorem je8 (base base2 gS gT bB bW : Nat) (u v rv mv : Value) (c : Cst) (xv : Value) (l : List Con) (w : World) (h : ScAt base base2 gS gT bB bW u v rv mv c w) (hx : ConsFrom base w xv l) (ht : ∀ y ∈ l, 0 ≤ y.tm ∧ y.tm ≤ 345686399999) (h20 : l.length < 20) (hk : ∀ y ∈ l, ScOk c y) (hm : ∀ y ∈ l, 0 ≤ y.mode ∧ y.mode ≤ 1000) :
 Calls Tryz.prog 46 #[.pointer (some ⟨gS, 0, none⟩), xv] w fun e w' => ∃ a b, e = .returned (.tuple #[a, b]) ∧ IntsFrom w.heap.size w' a (qn (jmy c.byMode l (jg7 c.beg c.fin l) (jg7 c.beg c.fin l).length).1) ∧ IntsFrom w.heap.size w' b (qn (jmy c.byMode l (jg7 c.beg c.fin l) (jg7 c.beg c.fin l).length).2) ∧ w.grownBy w' none := by
 obtain ⟨i0, hi0, hz0, hz1, hz2⟩ := info_parts jdd
 obtain ⟨XA, xc, rfl, hxl, hXA⟩ := hx.shape
 have HXA := Lib.hid hXA
 have HX := Lib.hid hx
 have HOR : Hid (∀ W, w.grownBy W none → Calls Tryz.prog 93 #[.pointer (some ⟨gS, 0, none⟩), .slice XA l.length xc] W fun e w' => ∃ o, e = .returned o ∧ IntsFrom W.heap.size w' o (qn (jg7 c.beg c.fin l)) ∧ W.grownBy w' none) := fun W hW => jo0 base base2 gS gT bB bW u v rv mv c _ l W (h.grown hW) (hx.grown hW) ht h20
 have HWK : Hid (∀ j (hj : j < l.length) W, w.grownBy W none → Calls Tryz.prog 66 #[.pointer (some ⟨gS, 0, none⟩), .agg #[.int .i64 l[j].tm, .int .i64 l[j].mode, .string l[j].band, .string l[j].call, .int .i64 l[j].sent, .int .i64 l[j].heard, .string l[j].gave, .string l[j].got]] W fun e w' => e = .returned (wkV (jja c.byMode l j)) ∧ W.grownBy w' none) := fun j hj W hW => by
  have h1 := jm3 base base2 gS gT bB bW u v rv mv c l[j] W (h.grown hW) (hk _ (List.getElem_mem hj))
  unfold jja
  rw [jan l j hj]
  exact h1
 have HOK : Hid (∀ j (hj : j < l.length), jsj (jja c.byMode l j)) := fun j hj => juy c c.byMode l j hj (hk _ (List.getElem_mem hj)) (hm _ (List.getElem_mem hj))
 have hjl := joy c.beg c.fin l
 have hjn := jk9 c.beg c.fin l
 generalize jg7 c.beg c.fin l = js at *
 generalize c.byMode = bm at *
 have HJL := Lib.hid hjl
 obtain ⟨SP, hSP⟩ : ∃ f, jmy bm l js = f := ⟨_, rfl⟩
 have HSP0 : Hid (SP 0 = ([], [])) := by show _ = _; rw [← hSP]; rfl
 have HSPS : Hid (∀ k, SP (k + 1) = if jj5 ((js.take k).map (jja bm l)) (jja bm l (js.getD k 0)) then ((SP k).1, (SP k).2 ++ [js.getD k 0]) else ((SP k).1 ++ [js.getD k 0], (SP k).2)) := fun k => by rw [← hSP]; rfl
 have HSPL : Hid (∀ k, (SP k).1.length + (SP k).2.length = k) := fun k => by rw [← hSP]; exact jhl _ _ _ k
 rw [hSP]
 obtain ⟨B, hB⟩ : ∃ b, w.heap.size = b := ⟨_, rfl⟩
 have HB := Lib.hid hB
 rw [hB]
 have hmk := MapWk.made w
 have hgM := World.grownBy_alloc w (.map #[] 0) none
 have hmm := @run_makeMap Tryz.prog
 clear h hx ht hk hm hXA hSP hjl
 go_enter Tryz.func46, Tryz.ntmps46
 go_upto_region 2 with fail
 have hmk2 := hmk
 rw [hB] at hmk2
 generalize w.alloc (.map #[] 0) = w0 at *
 have hB0 : B < w0.heap.size := hmk2.lt
 clear hmk hmm hB
 go_wp2_with fail
 refine (HOR.out _ hgM).mono ?_
 rintro _ w1 ⟨ov, rfl, hov, hg1⟩
 have hG1 := ja hgM hg1
 have hmp1 := hmk2.quiet hg1
 have hjsN : (qn js).length = js.length := by unfold qn; rw [List.length_map]
 obtain ⟨OA, oc, rfl, hoxl, hOA⟩ := hov.shape
 obtain ⟨H0, hH0⟩ : ∃ x, w0.heap.size = x := ⟨_, rfl⟩
 obtain ⟨H1, hH1⟩ : ∃ x, w1.heap.size = x := ⟨_, rfl⟩
 rw [hH0] at hov hOA hB0
 have h01 : H0 ≤ H1 := by rw [← hH0, ← hH1]; exact hg1.size
 have hOB : ∀ k, (Value.slice OA (qn js).length oc).ownBlock = some k → H0 ≤ k ∧ k < H1 := fun k e => by
  have := World.ownsRow.lt hov k e
  omega
 have HOB := Lib.hid hOB
 rw [hjsN] at hov hOA HOB
 (try rw [hjsN])
 have HOA := Lib.hid hOA
 have HJN := Lib.hid hjsN
 have h1s : H1 ≤ w1.heap.size := by omega
 clear hgM hg1 hmk2 HOR hOB hOA hjsN hH0 hH1 hoxl hxl
 go_wp2_with fail
 go_loopw [4, 5, 15] (fun av bv iv wr => ∃ k : Nat, k ≤ js.length ∧ iv = .int .i64 k ∧ Hid (IntsFrom H1 wr av (qn (SP k).1)) ∧ Hid (IntsFrom H1 wr bv (qn (SP k).2)) ∧ Hid (∀ g, av.ownBlock = some g → bv.ownBlock ≠ some g) ∧ MapWk wr B k ((js.take k).map (jja bm l)) ∧ IntsFrom H0 wr (.slice OA js.length oc) (qn js) ∧ H1 ≤ wr.heap.size ∧ w.grownBy wr none) (fun _ _ iv _ => js.length - (intOf iv).toNat)
 case atStart => exact ⟨0, by omega, rfl, (show IntsFrom _ _ _ _ by rw [HSP0.out]; exact IntsFrom.nil _ _), (show IntsFrom _ _ _ _ by rw [HSP0.out]; exact IntsFrom.nil _ _), (fun g h => by simp [Value.ownBlock] at h), hmp1, hov, h1s, hG1⟩
 case round =>
  clear hmp1 hov h1s hG1
  obtain ⟨k, hk, rfl, HAr, HBr, HAP, hmp, hov, hs, hg⟩ := hrel
  obtain ⟨A2, c2, rfl, _, _⟩ := HAr.out.shape
  obtain ⟨A3, c3, rfl, _, _⟩ := HBr.out.shape
  have hLs := HSPL.out k
  obtain ⟨LA, hLA⟩ : ∃ x, (qn (SP k).1).length = x := ⟨_, rfl⟩
  obtain ⟨LB, hLB⟩ : ∃ x, (qn (SP k).2).length = x := ⟨_, rfl⟩
  have hLs2 : LA + LB = k := by
   rw [← hLA, ← hLB]
   unfold qn
   rw [List.length_map, List.length_map]
   exact hLs
  have HLA := Lib.hid hLA
  have HLB := Lib.hid hLB
  rw [hLA] at HAr HAP
  rw [hLB] at HBr HAP
  (try rw [hLA])
  (try rw [hLB])
  clear hLA hLB hLs
  by_cases hlt : k < js.length
  ·have hki : (k : Int) < (js.length : Int) := by omega
   obtain ⟨g, rfl, hg0, hg1⟩ := HOA.out (by have := HJN.out; omega)
   have q := IntsFrom.at_ (g := g) (c := oc) (l := qn js) (by rw [HJN.out]; exact hov) k (by have := HJN.out; omega)
   have hnk : (qn js)[k]'(by have := HJN.out; omega) = ((js[k] : Nat) : Int) := by simp [qn]
   rw [hnk] at q
   have hj := HJL.out js[k] (List.getElem_mem hlt)
   have hst := HSPS.out k
   have hjd : js.getD k 0 = js[k] := by simp [hlt]
   rw [hjd] at hst
   have htk : (js.take (k + 1)).map (jja bm l) = (js.take k).map (jja bm l) ++ [jja bm l js[k]] := by
    rw [List.take_succ_eq_append_getElem hlt, List.map_append]; rfl
   obtain ⟨S2, hS2⟩ : ∃ S, (js.take (k + 1)).map (jja bm l) = S := ⟨_, rfl⟩
   rw [hS2] at htk
   have HS2E := Lib.hid hS2
   have HTK := Lib.hid htk
   clear hS2
   generalize (js.take k).map (jja bm l) = S1 at *
   generalize js[k] = j at *
   have HW1 := Lib.hid (HWK.out j hj)
   have hok := HOK.out j hj
   have HKO := Lib.hid hok
   have hj' : (j : Int) < (l.length : Int) := by omega
   obtain ⟨gx, rfl, _, _⟩ := HXA.out (by omega)
   obtain ⟨q0, q1, q2, q3, q4, q5, q6, q7⟩ := (HX.out.grown hg).at_ j hj
   generalize jja bm l j = K at *
   obtain ⟨K1, K2, K3⟩ := K
   generalize l[j].tm = Tm at *
   generalize l[j].mode = Mo at *
   generalize l[j].band = BD at *
   generalize l[j].call = CL at *
   generalize l[j].sent = SE at *
   generalize l[j].heard = HE at *
   generalize l[j].gave = GA at *
   generalize l[j].got = GO at *
   have HST := Lib.hid hst
   clear hst htk hnk hjd hok
   go_wp2_with fail
   refine (HW1.out _ hg).mono ?_
   rintro _ w5 ⟨rfl, hg5⟩
   have hF := Blk.new w5 127 #[.string K1, .string K2, .int .i64 K3]
   have hgF := World.grownBy_alloc w5 (.cells #[.string K1, .string K2, .int .i64 K3] 127) none
   have hg56 := ja hg5 hgF
   have hg6 := ja hg hg56
   have hmp6 := hmp.quiet hg56
   have hov6 := IntsFrom.grown hov hg56
   have HAr6 := Lib.hid (HAr.out.grown hg56)
   have HBr6 := Lib.hid (HBr.out.grown hg56)
   have hF0 : H1 ≤ w5.heap.size := by have := hg5.size; omega
   have hs6 := hg56.size
   have hAl : ∀ k, (Value.slice A2 LA c2).ownBlock = some k → k < w5.heap.size := fun k e => by have := (World.ownsRow.lt HAr.out k e).2; have := hg5.size; omega
   have hBlk : ∀ k, (Value.slice A3 LB c3).ownBlock = some k → k < w5.heap.size := fun k e => by have := (World.ownsRow.lt HBr.out k e).2; have := hg5.size; omega
   unfold wkV
   go_upto_region 6 with fail
   generalize w5.alloc (.cells #[.string K1, .string K2, .int .i64 K3] 127) = w6 at *
   generalize w5.heap.size = gF at *
   have f0 := hF.cell 0
   have f1 := hF.cell 1
   have f2 := hF.cell 2
   simp only [geA, geZ, geS] at f0 f1 f2
   have hlk := hmp6.look (K1, K2, K3) HKO.out
   unfold wkV at hlk
   dsimp only at hlk
   clear q q0 q1 q2 q3 q4 q5 q6 q7 hg5 hgF hg56 hmp hov hs hg HAr HBr
   generalize jj5 S1 (K1, K2, K3) = MB at *
   have h6s : gF < w6.heap.size := hF.lt
   have hBl := hmp6.lt
   have hBF : B ≠ gF := by omega
   cases MB
   ·have HS2 : Hid (SP (k + 1) = ((SP k).1 ++ [j], (SP k).2)) := HST.out
    have hownR : w6.ownsRow H1 3 1 (.slice A2 LA c2) LA ((qn (SP k).1).map (Value.int .i64)) := by
     have h := HAr6.out
     unfold IntsFrom at h
     rw [HLA.out] at h
     exact h
    have HOW := Lib.hid hownR
    clear hownR
    go_upto_region 9 with (at_builtin; refine wpList_append_lies _ rfl (.tmp 32) (.tmp 34) 22 rfl H1 3 i0 _ 1 8 Tryz.underlying22 hi0 hz0 hz1 hz2 rfl (by decide) _ LA _ rfl (World.ownsRow.alloc HOW.out _) ⟨_, 0, none⟩ 1 1 [.int .i64 j] rfl rfl (qw _ (j : Int) _) (j6 (j : Int)) (by decide) (by unfold maxLen; omega) (by omega) (by simp; omega) _ rfl ?_; intro g9 cap w8 hown8 hgr8 hat8 hlt8)
    have hal := World.grownBy_alloc w6 (.cells #[.int .i64 j] 3) none
    have hrow := HOW.out.lt
    have hF8 := (hF.grown hal (by simp)).grown hgr8 (fun e => by have := hAl _ e.symm; omega)
    have hmp8 := (hmp6.quiet hal).kept hgr8 (fun e => by have := hrow _ e.symm; omega)
    have hov8 : IntsFrom H0 w8 (.slice (some ⟨g, 0, none⟩) js.length oc) (qn js) := World.ownsRow.kept (IntsFrom.grown hov6 hal) hgr8 (.inr (fun e => by have h1 := HOB.out g rfl; have h2 := hrow g e.symm; omega))
    have hg8 : w.grownBy w8 none := jk (ja hg6 hal) hgr8 (fun gg e => .inr (by have := (hrow gg e).1; have := HB.out; omega))
    have hs8 : H1 ≤ w8.heap.size := by have := hgr8.size; have := hal.size; omega
    have hnew : IntsFrom H1 w8 (.slice (some ⟨g9, 0, none⟩) (LA + 1) cap) (qn (SP (k + 1)).1) := by
     rw [HS2.out]
     show IntsFrom _ _ _ (qn (_ ++ [j]))
     rw [je3]
     unfold IntsFrom
     rw [List.map_append, List.length_append, HLA.out]
     simpa using hown8
    have holdA : IntsFrom H1 w8 (.slice A3 LB c3) (qn (SP (k + 1)).2) := by
     rw [HS2.out]
     refine World.ownsRow.kept (IntsFrom.grown HBr6.out hal) hgr8 ?_
     cases hc : (Value.slice A3 LB c3).ownBlock with
     | none => exact .inl rfl
     | some gg => exact .inr fun e => HAP.out gg e.symm hc
    have hap : ∀ gg, (Value.slice (some ⟨g9, 0, none⟩) (LA + 1) cap).ownBlock = some gg → (Value.slice A3 LB c3).ownBlock ≠ some gg := fun gg e1 e2 => by
     simp only [Value.ownBlock, Option.some.injEq] at e1
     subst e1
     rcases hat8 with h | h
     ·exact HAP.out _ h e2
     have := (World.ownsRow.lt HBr6.out _ e2).2; simp at h; omega
    obtain ⟨w9, hrun, hmp9, hg9⟩ := hmp8.put (by omega) (K1, K2, K3) HKO.out
    unfold wkV at hrun
    dsimp only at hrun
    have e0 := hF8.cell 0
    have e1 := hF8.cell 1
    have e2 := hF8.cell 2
    simp only [geA, geZ, geS] at e0 e1 e2
    have hBH : B < H1 := by omega
    have hg09 : w.grownBy w9 none := jk hg8 hg9 (fun gg e => by injection e with e; exact .inr (by have := HB.out; omega))
    have hs9 : H1 ≤ w9.heap.size := by have := hg9.size; omega
    have hn9 := Lib.hid (IntsFrom.other hnew hg9 hBH)
    have ho9 := Lib.hid (IntsFrom.other holdA hg9 hBH)
    have hov9 := IntsFrom.other hov8 hg9 hB0
    rw [← HTK.out, ← HS2E.out] at hmp9
    have HAP9 := Lib.hid hap
    clear f0 f1 f2 hlk hF hmp6 hov6 HAr6 HBr6 hF8 hmp8 hov8 hnew holdA hap hal hgr8 hown8 hat8 hrow HOW hg8
    go_wp2_with fail
    go_roundw
    case rel => exact ⟨k + 1, by omega, by go_num, hn9, ho9, HAP9, hmp9, hov9, hs9, hg09⟩
    case measure => simp [intOf]; omega
   have HS2 : Hid (SP (k + 1) = ((SP k).1, (SP k).2 ++ [j])) := HST.out
   have hownR : w6.ownsRow H1 3 1 (.slice A3 LB c3) LB ((qn (SP k).2).map (Value.int .i64)) := by
    have h := HBr6.out
    unfold IntsFrom at h
    rw [HLB.out] at h
    exact h
   have HOW := Lib.hid hownR
   clear hownR
   go_upto_region 9 with (at_builtin; refine wpList_append_lies _ rfl (.tmp 28) (.tmp 30) 22 rfl H1 3 i0 _ 1 8 Tryz.underlying22 hi0 hz0 hz1 hz2 rfl (by decide) _ LB _ rfl (World.ownsRow.alloc HOW.out _) ⟨_, 0, none⟩ 1 1 [.int .i64 j] rfl rfl (qw _ (j : Int) _) (j6 (j : Int)) (by decide) (by unfold maxLen; omega) (by omega) (by simp; omega) _ rfl ?_; intro g9 cap w8 hown8 hgr8 hat8 hlt8)
   have hal := World.grownBy_alloc w6 (.cells #[.int .i64 j] 3) none
   have hrow := HOW.out.lt
   have hF8 := (hF.grown hal (by simp)).grown hgr8 (fun e => by have := hBlk _ e.symm; omega)
   have hmp8 := (hmp6.quiet hal).kept hgr8 (fun e => by have := hrow _ e.symm; omega)
   have hov8 : IntsFrom H0 w8 (.slice (some ⟨g, 0, none⟩) js.length oc) (qn js) := World.ownsRow.kept (IntsFrom.grown hov6 hal) hgr8 (.inr (fun e => by have h1 := HOB.out g rfl; have h2 := hrow g e.symm; omega))
   have hg8 : w.grownBy w8 none := jk (ja hg6 hal) hgr8 (fun gg e => .inr (by have := (hrow gg e).1; have := HB.out; omega))
   have hs8 : H1 ≤ w8.heap.size := by have := hgr8.size; have := hal.size; omega
   have hnew : IntsFrom H1 w8 (.slice (some ⟨g9, 0, none⟩) (LB + 1) cap) (qn (SP (k + 1)).2) := by
    rw [HS2.out]
    show IntsFrom _ _ _ (qn (_ ++ [j]))
    rw [je3]
    unfold IntsFrom
    rw [List.map_append, List.length_append, HLB.out]
    simpa using hown8
   have holdA : IntsFrom H1 w8 (.slice A2 LA c2) (qn (SP (k + 1)).1) := by
    rw [HS2.out]
    refine World.ownsRow.kept (IntsFrom.grown HAr6.out hal) hgr8 ?_
    cases hc : (Value.slice A2 LA c2).ownBlock with
    | none => exact .inl rfl
    | some gg => exact .inr fun e => HAP.out gg hc e.symm
   have hap : ∀ gg, (Value.slice A2 LA c2).ownBlock = some gg → (Value.slice (some ⟨g9, 0, none⟩) (LB + 1) cap).ownBlock ≠ some gg := fun gg e1 e2 => by
    simp only [Value.ownBlock, Option.some.injEq] at e2
    subst e2
    rcases hat8 with h | h
    ·exact HAP.out _ e1 h
    have := (World.ownsRow.lt HAr6.out _ e1).2; simp at h; omega
   obtain ⟨w9, hrun, hmp9, hg9⟩ := hmp8.put (by omega) (K1, K2, K3) HKO.out
   unfold wkV at hrun
   dsimp only at hrun
   have e0 := hF8.cell 0
   have e1 := hF8.cell 1
   have e2 := hF8.cell 2
   simp only [geA, geZ, geS] at e0 e1 e2
   have hBH : B < H1 := by omega
   have hg09 : w.grownBy w9 none := jk hg8 hg9 (fun gg e => by injection e with e; exact .inr (by have := HB.out; omega))
   have hs9 : H1 ≤ w9.heap.size := by have := hg9.size; omega
   have hn9 := Lib.hid (IntsFrom.other hnew hg9 hBH)
   have ho9 := Lib.hid (IntsFrom.other holdA hg9 hBH)
   have hov9 := IntsFrom.other hov8 hg9 hB0
   rw [← HTK.out, ← HS2E.out] at hmp9
   have HAP9 := Lib.hid hap
   clear f0 f1 f2 hlk hF hmp6 hov6 HAr6 HBr6 hF8 hmp8 hov8 hnew holdA hap hal hgr8 hown8 hat8 hrow HOW hg8
   go_wp2_with fail
   go_roundw
   case rel => exact ⟨k + 1, by omega, by go_num, ho9, hn9, HAP9, hmp9, hov9, hs9, hg09⟩
   case measure => simp [intOf]; omega
  have hki : ¬ (k : Int) < (js.length : Int) := by omega
  obtain rfl : k = js.length := by omega
  have hB1 : B ≤ H1 := by omega
  go_wp2_with fail
  go_ret2
  exact ⟨_, _, rfl, jq HAr.out hB1, jq HBr.out hB1, hg⟩
def jd9 (base : Nat) (u v rv mv : Value) (c : Cst) (w : World) (e : Ending) (w' : World) : Prop :=
 ∃ base2 gS gT bB bW, e = .returned (.pointer (some ⟨gS, 0, none⟩)) ∧ ScAt base base2 gS gT bB bW u v rv mv c w' ∧ w.heap.size ≤ gS ∧ w.grownBy w' none
set_option maxRecDepth 100000 in
set_option maxHeartbeats 16000000 in
theorem jik (base : Nat) (u v rv mv : Value) (c : Cst) (w : World) (h : CstFrom base w u v rv mv c) (hlen : c.pfxs.length ≤ 2000) (hbs : ∀ x ∈ c.pfxs, x.beg.size ≤ 14) :
 Calls Tryz.prog 92 #[.agg #[u, v, .string c.own, .int .i64 c.beg, .int .i64 c.fin, rv, mv, .bool c.byMode]] w (jd9 base u v rv mv c w) := by
 obtain ⟨UA, uc, rfl, _, _⟩ := h.ents.shape
 obtain ⟨VA, vc, rfl, _, _⟩ := h.pfxs.shape
 obtain ⟨RA, rc, rfl, _, _⟩ := h.ruls.shape
 obtain ⟨MA, mc, rfl, _, _⟩ := h.muls.shape
 have HC := Lib.hid h
 have HT : Hid (∀ W, w.grownBy W none → Calls Tryz.prog 55 #[.slice UA c.ents.length uc, .slice VA c.pfxs.length vc] W (jnj base (.slice UA c.ents.length uc) (.slice VA c.pfxs.length vc) c.ents c.pfxs W)) := fun W hW => jm0 base _ _ c.ents c.pfxs W (h.ents.grown hW) (h.pfxs.grown hW) hlen hbs
 have HP : Hid (∀ base2 gS gT bB bW w', Blk w' gS 185 #[.slice UA c.ents.length uc, .slice VA c.pfxs.length vc, .string c.own, .int .i64 c.beg, .int .i64 c.fin, .slice RA c.ruls.length rc, .slice MA c.muls.length mc, .bool c.byMode, .pointer (some ⟨gT, 0, none⟩)] → TabFull base base2 gT bB bW (.slice UA c.ents.length uc) (.slice VA c.pfxs.length vc) c.ents c.pfxs w' → w.heap.size ≤ gS → w.grownBy w' none → jd9 base (.slice UA c.ents.length uc) (.slice VA c.pfxs.length vc) (.slice RA c.ruls.length rc) (.slice MA c.muls.length mc) c w (.returned (.pointer (some ⟨gS, 0, none⟩))) w') := fun base2 gS gT bB bW w' h1 h2 h3 h4 => ⟨base2, gS, gT, bB, bW, rfl, ⟨h1, h.grown h4, h2⟩, h3, h4⟩
 generalize jd9 base (.slice UA c.ents.length uc) (.slice VA c.pfxs.length vc) (.slice RA c.ruls.length rc) (.slice MA c.muls.length mc) c w = PO at *
 generalize c.own = own at *
 generalize c.beg = bg at *
 generalize c.fin = fn at *
 generalize c.byMode = bm at *
 obtain ⟨ul, hul⟩ : ∃ x, c.ents.length = x := ⟨_, rfl⟩
 obtain ⟨vl, hvl⟩ : ∃ x, c.pfxs.length = x := ⟨_, rfl⟩
 obtain ⟨rl, hrl⟩ : ∃ x, c.ruls.length = x := ⟨_, rfl⟩
 obtain ⟨ml, hml⟩ : ∃ x, c.muls.length = x := ⟨_, rfl⟩
 rw [hul, hvl, hrl, hml] at HP ⊢
 rw [hul, hvl] at HT
 have hB := Blk.new w 33 #[.slice UA ul uc, .slice VA vl vc, .string own, .int .i64 bg, .int .i64 fn, .slice RA rl rc, .slice MA ml mc, .bool bm]
 have hgA := World.grownBy_alloc w (.cells #[.slice UA ul uc, .slice VA vl vc, .string own, .int .i64 bg, .int .i64 fn, .slice RA rl rc, .slice MA ml mc, .bool bm] 33) none
 clear h hlen hbs hul hvl hrl hml HC
 go_enter Tryz.func92, Tryz.ntmps92
 go_upto_region 1 with fail
 generalize w.alloc (.cells #[.slice UA ul uc, .slice VA vl vc, .string own, .int .i64 bg, .int .i64 fn, .slice RA rl rc, .slice MA ml mc, .bool bm] 33) = w0 at *
 obtain ⟨gC, hgC⟩ : ∃ g, w.heap.size = g := ⟨_, rfl⟩
 rw [hgC] at hB
 (try rw [hgC])
 have HGC := Lib.hid hgC
 clear hgC
 obtain ⟨k0, k1, k2, k3, k4, k5, k6, k7⟩ := qh hB
 have HKC : Hid (∀ V, w0.grownBy V none → V.cell? ⟨gC, 0, none⟩ = some (.slice UA ul uc) ∧ V.cell? ⟨gC, 1, none⟩ = some (.slice VA vl vc) ∧ V.cell? ⟨gC, 2, none⟩ = some (.string own) ∧ V.cell? ⟨gC, 3, none⟩ = some (.int .i64 bg) ∧ V.cell? ⟨gC, 4, none⟩ = some (.int .i64 fn) ∧ V.cell? ⟨gC, 5, none⟩ = some (.slice RA rl rc) ∧ V.cell? ⟨gC, 6, none⟩ = some (.slice MA ml mc) ∧ V.cell? ⟨gC, 7, none⟩ = some (.bool bm)) := fun V hV => ⟨hV.cell k0 (by simp), hV.cell k1 (by simp), hV.cell k2 (by simp), hV.cell k3 (by simp), hV.cell k4 (by simp), hV.cell k5 (by simp), hV.cell k6 (by simp), hV.cell k7 (by simp)⟩
 clear k0 k1 k2 k3 k4 k5 k6 k7 hB
 refine jx [] (fun V => V.cell? ⟨gC, 0, none⟩ = some (.slice UA ul uc) ∧ V.cell? ⟨gC, 1, none⟩ = some (.slice VA vl vc) ∧ V.cell? ⟨gC, 2, none⟩ = some (.string own) ∧ V.cell? ⟨gC, 3, none⟩ = some (.int .i64 bg) ∧ V.cell? ⟨gC, 4, none⟩ = some (.int .i64 fn) ∧ V.cell? ⟨gC, 5, none⟩ = some (.slice RA rl rc) ∧ V.cell? ⟨gC, 6, none⟩ = some (.slice MA ml mc) ∧ V.cell? ⟨gC, 7, none⟩ = some (.bool bm)) (by kernel_rfl) ?_
 have hG : w0.grownBy w0.drew none := jn (jf _ _)
 generalize w0.drew = W at *
 revert hG
 revert W
 refine' qf ?h5 ?k5
 case' k5 => intro H5
 case k5 =>
  intro W hG
  refine tkL 0 3 (HKC.out _ hG) ?_
  simp only [Act.put, ssA, ssZ, ssS]
  refine tkA 1 4 (fun _ => HKC.out _ hG) ?_
  simp only [Act.put, ssA, ssZ, ssS]
  refine tkL 2 5 (HKC.out _ hG) ?_
  simp only [Act.put, ssA, ssZ, ssS]
  refine tkA 3 6 (fun _ => HKC.out _ hG) ?_
  simp only [Act.put, ssA, ssZ, ssS]
  refine tkL 4 7 (HKC.out _ hG) ?_
  simp only [Act.put, ssA, ssZ, ssS]
  refine je (rs := [5]) (by kernel_rfl) (by simp) ?_
  refine AllLate.cons (o := _) rfl (fun K hK => ?n1) AllLate.nil
  case n1 =>
   go_simp
   (go_at_call 55; refine (HT.out _ (ja hgA hG)).mono ?_; rintro _ W2 ⟨base2, gT, bB, bW, rfl, hT, -, hg2⟩)
   replace hG := ja hG hg2
   clear hg2
   refine hK.out _ _ (fun _ => HKC.out _ hG) ?_
   clear hK K
   (try simp only [Act.put, ssA, ssZ, ssS])
   refine jh (listed' := #[true, true, true, true, true, true, false, false, false]) (by kernel_rfl) ?_
   revert hT
   revert hG
   revert bW
   revert bB
   revert gT
   revert base2
   revert W2
   exact H5.out
 case h5 =>
  intro W base2 gT bB bW hG hT
  refine tkA 6 9 (fun _ => HKC.out _ hG) ?_
  simp only [Act.put, ssA, ssZ, ssS]
  refine je (rs := [7]) (by kernel_rfl) (by simp) ?_
  refine AllLate.cons (o := _) rfl (fun K hK => ?_) AllLate.nil
  go_simp
  have hF := Blk.new W 185 #[.slice UA ul uc, .slice VA vl vc, .string own, .int .i64 bg, .int .i64 fn, .slice RA rl rc, .slice MA ml mc, .bool bm, .pointer (some ⟨gT, 0, none⟩)]
  have hFl := hG.size
  have hT2 := hT.grown (World.grownBy_alloc W (.cells #[.slice UA ul uc, .slice VA vl vc, .string own, .int .i64 bg, .int .i64 fn, .slice RA rl rc, .slice MA ml mc, .bool bm, .pointer (some ⟨gT, 0, none⟩)] 185) none)
  replace hG := jd hG (.cells #[.slice UA ul uc, .slice VA vl vc, .string own, .int .i64 bg, .int .i64 fn, .slice RA rl rc, .slice MA ml mc, .bool bm, .pointer (some ⟨gT, 0, none⟩)] 185)
  generalize W.alloc (.cells #[.slice UA ul uc, .slice VA vl vc, .string own, .int .i64 bg, .int .i64 fn, .slice RA rl rc, .slice MA ml mc, .bool bm, .pointer (some ⟨gT, 0, none⟩)] 185) = W3 at *
  generalize W.heap.size = gS at *
  refine hK.out _ _ (fun _ => HKC.out _ hG) ?_
  clear hK K
  (try simp only [Act.put, ssA, ssZ, ssS])
  refine tkA 8 2 (fun _ => HKC.out _ hG) ?_
  simp only [Act.put, ssA, ssZ, ssS]
  refine qe (by kernel_rfl) ?_ _
  have hGa := ja hgA hG
  have HR := Lib.hid (HP.out base2 gS gT bB bW W3 hF hT2 (by have := hgA.size; omega) hGa)
  clear HP
  go_wp2_with fail
  exact HR.out
structure SumAt (gS gQ bm n : Nat) (ct pt : Int) (L : List (List UInt8 × Int)) (W : World) : Prop where
 blk : Blk W gQ 183 #[.pointer (some ⟨gS, 0, none⟩), .int .i64 ct, .int .i64 pt, .map (some bm)]
 map : MapNm W bm n L
 ne : gQ ≠ bm
theorem SumAt.quiet {gS gQ bm n : Nat} {ct pt : Int} {L : List (List UInt8 × Int)} {W W' : World} (h : SumAt gS gQ bm n ct pt L W) (hg : W.grownBy W' none) : SumAt gS gQ bm n ct pt L W' := ⟨h.blk.grown hg (by simp), h.map.quiet hg, h.ne⟩
set_option maxRecDepth 100000 in
theorem jpt (gS : Nat) (w : World) :
 Calls Tryz.prog 60 #[.pointer (some ⟨gS, 0, none⟩)] w fun e w' => ∃ gQ bm, e = .returned (.pointer (some ⟨gQ, 0, none⟩)) ∧ SumAt gS gQ bm 0 0 0 [] w' ∧ w.heap.size ≤ gQ ∧ w.heap.size ≤ bm ∧ w.grownBy w' none := by
 have hM := MapNm.made w
 have hgM := World.grownBy_alloc w (.map #[] 0) none
 have hmm := @run_makeMap Tryz.prog
 have hB := Blk.new (w.alloc (.map #[] 0)) 183 #[.pointer (some ⟨gS, 0, none⟩), .int .i64 0, .int .i64 0, .map (some w.heap.size)]
 have hgB := World.grownBy_alloc (w.alloc (.map #[] 0)) (.cells #[.pointer (some ⟨gS, 0, none⟩), .int .i64 0, .int .i64 0, .map (some w.heap.size)] 183) none
 have hM2 := hM.quiet hgB
 have hl := hM.lt
 have e1 : (w.alloc (.map #[] 0)).heap.size = w.heap.size + 1 := by simp
 rw [e1] at hB hl
 go_enter Tryz.func60, Tryz.ntmps60
 go_wp2_with fail
 go_ret
 exact ⟨_, _, rfl, ⟨hB, hM2, by omega⟩, by omega, Nat.le_refl _, ja hgM hgB⟩
end Go.Proofs.YtbamhgaghngjiaaGreatDoor
