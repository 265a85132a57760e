/- Parts of a proof: TopEntsP, TopEntsLaw. Conditions: as each statement says. -/
import Derived.Test.YtbamhgaghngjiaaGreatDoorSxbi
import Derived.Test.YtbamhgaghngjiaaGreatDoorSxaj
import Derived.Test.YtbamhgaghngjiaaGreatDoorSxbf
import Derived.Test.YtbamhgaghngjiaaGreatDoorSxbg
import Derived.Test.YtbamhgaghngjiaaGreatDoorSxbh
namespace Go.Proofs.YtbamhgaghngjiaaGreatDoor
open Go.RowKit
set_option linter.unusedVariables false
set_option linter.unusedSimpArgs false

def qi (F : ByteArray → Int → Option Fnd) (x : List Con) (J : Nat → Bool) : Nat → List (List UInt8)
 | 0 => []
 | k + 1 => if J k then (match F (yi x k).call (yi x k).tm with | some f => qi F x J k ++ [f.1.data.toList] | none => qi F x J k) else qi F x J k
theorem jcc (F : ByteArray → Int → Option Fnd) (x : List Con) (J : Nat → Bool) (y : List UInt8) : ∀ k, y ∈ qi F x J k ↔ ∃ i, i < k ∧ J i = true ∧ ∃ f, F (yi x i).call (yi x i).tm = some f ∧ f.1.data.toList = y
 | 0 => by simp [qi]
 | k + 1 => by
   have ih := jcc F x J y k
   have up : (∃ i, i < k ∧ J i = true ∧ ∃ f, F (yi x i).call (yi x i).tm = some f ∧ f.1.data.toList = y) → ∃ i, i < k + 1 ∧ J i = true ∧ ∃ f, F (yi x i).call (yi x i).tm = some f ∧ f.1.data.toList = y := fun ⟨i, h, r⟩ => ⟨i, by omega, r⟩
   unfold qi
   split
   ·rename_i hJ
    cases hf : F (yi x k).call (yi x k).tm with
    | some f =>
      show y ∈ qi F x J k ++ [f.1.data.toList] ↔ _
      rw [List.mem_append, List.mem_singleton, ih]
      constructor
      ·rintro (h | rfl)
       ·exact up h
       exact ⟨k, by omega, hJ, f, hf, rfl⟩
      rintro ⟨i, hi, h1, g, h2, h3⟩
      by_cases e : i = k
      ·subst e
       rw [hf] at h2; injection h2 with h2
       subst h2
       exact .inr h3.symm
      exact .inl ⟨i, by omega, h1, g, h2, h3⟩
    | none =>
      show y ∈ qi F x J k ↔ _
      rw [ih]
      refine ⟨up, ?_⟩
      rintro ⟨i, hi, h1, g, h2, h3⟩
      by_cases e : i = k
      ·subst e; rw [hf] at h2; cases h2
      exact ⟨i, by omega, h1, g, h2, h3⟩
   rename_i hJ
   rw [ih]
   refine ⟨up, ?_⟩
   rintro ⟨i, hi, h1, g, h2, h3⟩
   by_cases e : i = k
   ·subst e; exact absurd h1 hJ
   exact ⟨i, by omega, h1, g, h2, h3⟩
theorem jhs (F : ByteArray → Int → Option Fnd) (x : List Con) (J : Nat → Bool) : ∀ k, (qi F x J k).length ≤ k
 | 0 => Nat.le_refl _
 | k + 1 => by
   have ih := jhs F x J k
   unfold qi
   split
   ·split
    ·rw [List.length_append]; simp; omega
    omega
   omega
theorem jhj (F : ByteArray → Int → Option Fnd) (y : Con) (q : Nm) : q ∈ j8 F [⟨1, false, false⟩] y 1 ↔ ∃ f, F y.call y.tm = some f ∧ f.1.size ≠ 0 ∧ q = (0, f.1) := by
 have e : j8 F [⟨1, false, false⟩] y 1 = if (jda F y ⟨1, false, false⟩).size = 0 then [] else [(0, jda F y ⟨1, false, false⟩)] := by
  rw [jfm F [⟨1, false, false⟩] y 0 (by decide)]
  rfl
 have en : jda F y ⟨1, false, false⟩ = match F y.call y.tm with | none => ⟨#[]⟩ | some f => f.1 := by
  unfold jda jv4
  cases F y.call y.tm with
  | none => rfl
  | some f =>
    show (if f.1.size = 0 then (⟨#[]⟩ : ByteArray) else f.1) = f.1
    split
    ·rename_i h
     have h0 : f.1.data = #[] := Array.eq_empty_of_size_eq_zero h
     show _ = f.1
     cases hf : f.1 with
     | mk d => rw [hf] at h0; exact congrArg ByteArray.mk h0.symm
    rfl
 rw [e, en]
 cases hf : F y.call y.tm with
 | none =>
   show q ∈ (if (⟨#[]⟩ : ByteArray).size = 0 then [] else _) ↔ _
   have z : (⟨#[]⟩ : ByteArray).size = 0 := rfl
   rw [if_pos z]
   simp
 | some f =>
   show q ∈ (if f.1.size = 0 then [] else [(0, f.1)]) ↔ _
   split
   ·rename_i h
    constructor
    ·intro h; cases h
    rintro ⟨g, h1, h2, _⟩
    injection h1 with h1
    subst h1
    exact absurd h h2
   rename_i h
   rw [List.mem_singleton]
   constructor
   ·rintro rfl; exact ⟨f, rfl, h, rfl⟩
   rintro ⟨g, h1, _, h2⟩
   injection h1 with h1
   subst h1
   exact h2
theorem jeq {α β : Type} (f : α → β) : ∀ {l : List α}, l.Nodup → (∀ a ∈ l, ∀ b ∈ l, f a = f b → a = b) → (l.map f).Nodup
 | [], _, _ => List.Pairwise.nil
 | a :: r, h, hi => by
   rw [List.nodup_cons] at h
   rw [List.map_cons, List.nodup_cons]
   refine ⟨fun hm => ?_, jeq f h.2 fun x hx y hy => hi x (List.mem_cons_of_mem _ hx) y (List.mem_cons_of_mem _ hy)⟩
   obtain ⟨b, hb, he⟩ := List.mem_map.1 hm
   have := hi b (List.mem_cons_of_mem _ hb) a (List.mem_cons_self ..) he
   subst this
   exact h.1 hb
theorem jt4 {c : Cst} {x : List Con} (hR : ScRight c x) (hk : ∀ y ∈ x, ∀ f, qd c.ents c.pfxs y.call y.tm = some f → f.1.size ≠ 0) (hm : c.muls = [⟨1, false, false⟩]) (J : Nat → Bool) (hJ : ∀ k, k < x.length → (J k = true ↔ k ∈ jah c x)) :
 (jag (fun y => j8 (qd c.ents c.pfxs) c.muls y c.muls.length) x (jah c x) (jah c x).length).length = (jc0 (qi (qd c.ents c.pfxs) x J x.length)).length := by
 have hs : ∀ j, j < x.length → ∀ f, qd c.ents c.pfxs (yi x j).call (yi x j).tm = some f → f.1.size ≠ 0 ∧ f.1.size ≤ 1000 := fun j hj f hf => by
  rw [zi x j hj] at hf
  exact ⟨hk _ (List.getElem_mem hj) f hf, (hR.nam _ (List.getElem_mem hj)).s f hf⟩
 rw [hm]
 generalize qd c.ents c.pfxs = F at *
 obtain ⟨h1, h2⟩ := jho (fun y => j8 F [⟨1, false, false⟩] y ([⟨1, false, false⟩] : List Mul).length) x (jah c x) _ (Nat.le_refl _)
 rw [List.take_length] at h2
 obtain ⟨o1, _, o3⟩ := jl9 (qi F x J x.length)
 have hEs : ∀ e ∈ jc0 (qi F x J x.length), ∃ f : Fnd, f.1.data.toList = e ∧ f.1.size ≤ 1000 := fun e he => by
  obtain ⟨i, hi, _, f, hf, h4⟩ := (jcc F x J e _).1 ((o3 e).1 he)
  exact ⟨f, h4, (hs i hi f hf).2⟩
 have ok : ∀ e ∈ jc0 (qi F x J x.length), jpg (0, ⟨e.toArray⟩) := fun e he => by
  obtain ⟨f, h4, h5⟩ := hEs e he
  refine ⟨Nat.zero_le _, ?_⟩
  show e.toArray.size ≤ _
  rw [← h4]
  have : f.1.data.toList.toArray.size = f.1.size := by rw [Array.toArray_toList]; rfl
  omega
 have n2 : ((jc0 (qi F x J x.length)).map fun e => nmB (0, ⟨e.toArray⟩)).Nodup := by
  refine jeq _ o1 fun a ha b hb he => ?_
  have := jwx (ok a ha) (ok b hb) he
  injection this with _ this
  injection this with this
  exact List.toArray_inj this
 have hp : ((jag (fun y => j8 F [⟨1, false, false⟩] y ([⟨1, false, false⟩] : List Mul).length) x (jah c x) (jah c x).length).map (·.1)).Perm ((jc0 (qi F x J x.length)).map fun e => nmB (0, ⟨e.toArray⟩)) := by
  refine (List.perm_ext_iff_of_nodup h1 n2).2 fun z => ?_
  rw [h2, List.mem_map]
  constructor
  ·rintro ⟨j, hj, q, hq, rfl⟩
   obtain ⟨f, hf, _, rfl⟩ := (jhj F _ q).1 hq
   have hjl := jh8 c x j hj
   exact ⟨f.1.data.toList, (o3 _).2 ((jcc F x J _ _).2 ⟨j, hjl, (hJ j hjl).2 hj, f, hf, rfl⟩), by rw [Array.toArray_toList]⟩
  rintro ⟨e, he, rfl⟩
  obtain ⟨i, hi, h5, f, hf, rfl⟩ := (jcc F x J e _).1 ((o3 e).1 he)
  exact ⟨i, (hJ i hi).1 h5, (0, f.1), (jhj F _ _).2 ⟨f, hf, (hs i hi f hf).1, rfl⟩, by rw [Array.toArray_toList]⟩
 have := hp.length_eq
 rw [List.length_map, List.length_map] at this
 exact this
theorem MulsFrom.one {W : World} {g : Nat} {m : Mul} (h : Blk W g 38 #[.int .i64 m.what, .bool m.byBand, .bool m.byMode]) : MulsFrom g W (.slice (some ⟨g, 0, none⟩) 1 1) [m] :=
 ⟨rfl, .inr ⟨g, 1, _, rfl, Nat.le_refl _, h, Nat.le_refl _, by unfold maxLen; omega, rfl, rfl⟩⟩
theorem jy5 (c : Cst) (x : List Con) (k : Nat) (hk : k < x.length) : (!((jb0 (j2 (joq c x))).contains (k : Int) || (zb c.beg c.fin (x.map (·.tm)) x.length).contains (k : Int))) = true ↔ k ∈ jah c x := by
 rw [jw2, jrx, decide_eq_true hk, Bool.true_and]
 have h1 : (x.map (·.tm)).getD k 0 = (yi x k).tm := by rw [zi x k hk]; simp [hk]
 have h2 : (jb0 (j2 (joq c x))).contains (k : Int) = decide (k ∈ joq c x) := by
  rw [List.contains_eq_mem, decide_eq_decide, jj4]
  unfold j2
  rw [List.mem_map]
  constructor
  ·rintro ⟨a, ha, e⟩
   have : a = k := by omega
   rwa [← this]
  intro h; exact ⟨k, h, rfl⟩
 rw [h1, h2]
 by_cases hd : k ∈ joq c x <;> cases hb : ja0 c.beg c.fin (yi x k).tm <;> simp [hd, hk]
theorem jt8 {c : Cst} (h : yh c.ents c.pfxs = 0) {s : ByteArray} {t : Int} {f : Fnd} (hf : qd c.ents c.pfxs s t = some f) : f.1.size ≠ 0 := by
 obtain ⟨e, he, hk⟩ := List.mem_map.1 (jnc h hf).2.2.2.2
 have hb := ((ja7 h).ok.ents.times e he).2.1
 unfold jaz at hb
 simp only [Bool.and_eq_true, decide_eq_true_eq] at hb
 rw [← hk, zg]; omega
set_option maxRecDepth 100000 in
set_option maxHeartbeats 32000000 in
theorem jqm (A : Option Addr) (n c : Nat) (w : World) (hin : InX w A n) (hgl : Gl w.heap.size w) (hpp : P10 w.heap.size w) :
 Calls Tryz.prog 3 #[.slice A n c] w fun r w' => r = .returned (.bool true) ∧ Below w.heap.size w w' := by
 obtain ⟨i0, hi0, hz0, hz1, hz2⟩ := info_parts jaa
 obtain ⟨hn, L, hL, hcell⟩ := hin
 have hG0 := World.grownBy_alloc w (.cells #[.slice A n c, .int .i64 0] 25) none
 have sA := SX.start hn hL hcell hG0 (Blk.new w _ _) (Nat.le_refl _)
 have HGL := Lib.hid hgl
 have HPP := Lib.hid hpp
 clear hn hL hcell hgl hpp
 go_enter Tryz.func3, Tryz.ntmps3
 go_wp2_with fail
 generalize w.alloc (.cells #[.slice A n c, .int .i64 0] 25) = W0 at *
 obtain ⟨b, hb⟩ : ∃ b, w.heap.size = b := ⟨_, rfl⟩
 rw [hb] at sA HGL HPP ⊢
 have HB := Lib.hid hb
 obtain ⟨B1, hB1⟩ : ∃ B1, W0.heap.size = B1 := ⟨_, rfl⟩
 have hbB : b < B1 := by rw [← hB1]; exact sA.lt
 have HBB := Lib.hid hbB
 have HRC := Lib.hid (jcq b b L 0 W0 sA (by decide))
 unfold jio at HRC
 rw [hB1] at HRC
 have HBS := Lib.hid hB1
 clear hb hB1 sA hbB
 refine HRC.out.mono ?_
 rintro _ w1 ⟨u, v, rv, mv, C, k1, HR, rfl, hC, hCs, hbeg, hfin, hown, hl6, hp24, hr4, hm5, hk0, hk1, sA1, hg1⟩
 have hG1 : w.grownBy w1 none := jh hG0 hg1 (fun g e => by injection e with e; exact .inr (by have := HB.out; omega))
 have HSZ1 : Hid (B1 ≤ w1.heap.size) := by show _ ≤ _; rw [← HBS.out]; exact hg1.size
 have hs1 := sA1.str
 have HCS := Lib.hid hCs
 clear hG0 hg1 HR HRC sA1 hCs hl6 hp24 hr4 hm5 hown
 go_wp2_with fail
 refine (jct b k1 10 (by decide) w1 hs1 (by omega)).mono ?_
 rintro _ w2 ⟨xv, x, rfl, hx, hxl, hxs, hx0, hs2, hg2⟩
 have hC2 : CstFrom B1 w2 u v rv mv C := ⟨EntsFrom.other hC.ents hg2 HBB.out, PfxsFrom.other hC.pfxs hg2 HBB.out, RulsFrom.other hC.ruls hg2 HBB.out, MulsFrom.other hC.muls hg2 HBB.out⟩
 have hG2 : w.grownBy w2 none := jh hG1 hg2 (fun g e => by injection e with e; exact .inr (by have := HB.out; omega))
 obtain ⟨B2, hB2⟩ : ∃ x, w1.heap.size = x := ⟨_, rfl⟩
 rw [hB2] at hx
 have hsz2 : B2 ≤ w2.heap.size := by rw [← hB2]; exact hg2.size
 have HSZ : Hid (B1 ≤ B2) := by show _ ≤ _; rw [← hB2]; exact HSZ1.out
 clear hG1 hg2 hC hs1 hs2 hB2
 obtain ⟨XA, xc, rfl, hxn, hXA⟩ := hx.shape
 obtain ⟨UA, uc, rfl, _, _⟩ := hC2.ents.shape
 obtain ⟨VA, vc, rfl, _, _⟩ := hC2.pfxs.shape
 obtain ⟨RA, rc, rfl, _, _⟩ := hC2.ruls.shape
 obtain ⟨MA, mc, rfl, _, _⟩ := hC2.muls.shape
 have HFA : Hid (∀ W, w.grownBy W none → Calls Tryz.prog 10 #[] W fun r w' => r = .returned (.bool true) ∧ W.grownBy w' none) := fun W hW => jle b W (HGL.out.quiet hW)
 have hC2' := Lib.hid hC2
 have HDs : Hid (CstSm { C with muls := [⟨1, false, false⟩] }) := { HCS.out with }
 have HCD : Hid (∀ MV W, w2.grownBy W none → MulsFrom B1 W MV [⟨1, false, false⟩] → CstFrom B1 W (.slice UA C.ents.length uc) (.slice VA C.pfxs.length vc) (.slice RA C.ruls.length rc) MV { C with muls := [⟨1, false, false⟩] }) := fun MV W hW hM => by
  have h9 := hC2'.out.grown hW
  exact ⟨h9.ents, h9.pfxs, h9.ruls, hM⟩
 have HXW : Hid (∀ W, w2.grownBy W none → ConsFrom B1 W (.slice XA x.length xc) x) := fun W hW => jt (hx.grown hW) HSZ.out
 obtain ⟨D, hD⟩ : ∃ D : Cst, D = { C with muls := [⟨1, false, false⟩] } := ⟨_, rfl⟩
 have HCF : Hid (∀ MV W, w2.grownBy W none → MulsFrom B1 W MV [⟨1, false, false⟩] → Calls Tryz.prog 9 #[.agg #[.slice UA C.ents.length uc, .slice VA C.pfxs.length vc, .string C.own, .int .i64 C.beg, .int .i64 C.fin, .slice RA C.ruls.length rc, MV, .bool C.byMode]] W fun r w' => r = .returned (.int .i64 (jd3 D)) ∧ W.grownBy w' none) := fun MV W hW hM => by
  have h9 := jbg B1 _ _ _ _ { C with muls := [⟨1, false, false⟩] } W (HCD.out MV W hW hM) HDs.out
  rw [hD]
  exact h9
 have HDU : Hid (jd3 D = 0 → ∀ MV W, w2.grownBy W none → MulsFrom B1 W MV [⟨1, false, false⟩] → Calls Tryz.prog 11 #[.agg #[.slice UA C.ents.length uc, .slice VA C.pfxs.length vc, .string C.own, .int .i64 C.beg, .int .i64 C.fin, .slice RA C.ruls.length rc, MV, .bool C.byMode], .slice XA x.length xc] W fun r w' => ∃ u, r = .returned (.tuple #[u, .int .i64 0]) ∧ IntsFrom W.heap.size w' u (jb0 (j2 (joq D x))) ∧ W.grownBy w' none) := fun h MV W hW hM => by
  rw [hD] at h ⊢
  exact jx3 B1 _ _ _ _ { C with muls := [⟨1, false, false⟩] } _ x W (HCD.out MV W hW hM) HDs.out (HXW.out W hW) hxs (zl HDs.out hxs h hx0) (by omega)
 have HOU : Hid (jd3 D = 0 → ∀ MV W, w2.grownBy W none → MulsFrom B1 W MV [⟨1, false, false⟩] → Calls Tryz.prog 12 #[.agg #[.slice UA C.ents.length uc, .slice VA C.pfxs.length vc, .string C.own, .int .i64 C.beg, .int .i64 C.fin, .slice RA C.ruls.length rc, MV, .bool C.byMode], .slice XA x.length xc] W fun r w' => ∃ u, r = .returned (.tuple #[u, .int .i64 0]) ∧ IntsFrom W.heap.size w' u (zb D.beg D.fin (x.map (·.tm)) x.length) ∧ W.grownBy w' none) := fun h MV W hW hM => by
  rw [hD] at h ⊢
  have hE := (zl HDs.out hxs h hx0).E
  have h9 := jre B1 _ _ _ _ { C with muls := [⟨1, false, false⟩] } _ x W (HCD.out MV W hW hM) HDs.out (HXW.out W hW) hxs
  refine h9.mono ?_
  rintro r w' ⟨u, h1, h2, h3⟩
  rw [hE] at h1
  rw [if_pos hE] at h2
  exact ⟨u, h1, h2, h3⟩
 obtain ⟨a0, a1, a2, a3, hsv⟩ : ∃ a0 a1 a2 a3 : Int, joi (qd D.ents D.pfxs) D x = .agg #[.int .i64 a0, .int .i64 a1, .int .i64 a2, .int .i64 a3] := ⟨_, _, _, _, rfl⟩
 have HSC : Hid (jd3 D = 0 → ∀ MV W, w2.grownBy W none → MulsFrom B1 W MV [⟨1, false, false⟩] → Calls Tryz.prog 13 #[.agg #[.slice UA C.ents.length uc, .slice VA C.pfxs.length vc, .string C.own, .int .i64 C.beg, .int .i64 C.fin, .slice RA C.ruls.length rc, MV, .bool C.byMode], .slice XA x.length xc] W fun e w' => e = .returned (.tuple #[.agg #[.int .i64 a0, .int .i64 a1, .int .i64 a2, .int .i64 a3], .int .i64 0]) ∧ W.grownBy w' none) := fun h MV W hW hM => by
  rw [← hsv]
  rw [hD] at h ⊢
  have hR := zl HDs.out hxs h hx0
  exact jiy B1 b _ _ _ _ { C with muls := [⟨1, false, false⟩] } _ x W (HCD.out MV W hW hM) HDs.out (HXW.out W hW) hxs hR.E hR.len hR.beg hR.tm (by omega) hR.ok (HPP.out.grown (ja hG2 hW)) hR.nam hR.pts hR.nms
 obtain ⟨DL, hDL⟩ : ∃ z, jb0 (j2 (joq D x)) = z := ⟨_, rfl⟩
 obtain ⟨OL, hOL⟩ : ∃ z, zb D.beg D.fin (x.map (·.tm)) x.length = z := ⟨_, rfl⟩
 obtain ⟨FF, hFF⟩ : ∃ z, qd D.ents D.pfxs = z := ⟨_, rfl⟩
 obtain ⟨JJ, hJJ⟩ : ∃ f : Nat → Bool, f = fun k : Nat => !(DL.contains (k : Int) || OL.contains (k : Int)) := ⟨_, rfl⟩
 have HEN : Hid (jd3 D = 0 → a2 = ((jc0 (qi FF x JJ x.length)).length : Int)) := fun h => by
  have hh := h
  rw [hD] at hh
  have hR := zl HDs.out hxs hh hx0
  rw [← hD] at hR
  have e1 : a2 = ((jag (fun y => j8 (qd D.ents D.pfxs) D.muls y D.muls.length) x (jah D x) (jah D x).length).length : Int) := by
   unfold joi at hsv
   injection hsv with hsv
   have := congrArg (fun a => a[2]?) hsv
   simp at this
   exact this.symm
  rw [e1, jt4 hR (fun y hy f hf => jt8 (jk3 h).1 hf) (by rw [hD]) JJ (fun k hk => by rw [hJJ, ← hDL, ← hOL]; exact jy5 D x k hk), hFF]
 have HOF : Hid (jd3 D = 0 → ∀ k (hk : k < x.length) W, w2.grownBy W none → Calls Tryz.prog 15 #[.slice UA C.ents.length uc, .slice VA C.pfxs.length vc, .string x[k].call, .int .i64 x[k].tm] W fun r w' => r = .returned (.tuple #[.agg #[.string ((FF x[k].call x[k].tm).getD qm).1, .int .i64 ((FF x[k].call x[k].tm).getD qm).2.1, .int .i64 ((FF x[k].call x[k].tm).getD qm).2.2], .bool (FF x[k].call x[k].tm).isSome, .int .i64 0]) ∧ W.grownBy w' none) := fun h k hk W hW => by
  have h9 := hC2'.out.grown hW
  obtain ⟨_, s2, s3, _, _⟩ := hxs _ (List.getElem_mem hk)
  have hc := jiu ((jsy hx0).2 _ (List.getElem_mem hk))
  have ht := (jk3 h).1
  rw [hD] at ht
  have hz : ofE C.ents C.pfxs x[k].call x[k].tm = 0 := by
   unfold ofE
   rw [if_neg (by simpa using ht), if_neg (by rw [hc.2.2]; simp)]
   unfold jyc jdf
   have := hc.1
   simp [qy]
   omega
  refine (jyu B1 _ _ C.ents C.pfxs x[k].call x[k].tm W h9.ents HCS.out.ents h9.pfxs HCS.out.pfxs s2 s3).mono ?_
  rintro r w' ⟨O, h1, _, h3, h4⟩
  obtain ⟨q, hq⟩ := Option.isSome_iff_exists.1 (show (jo x[k].call).isSome = true from hc.2.2)
  have e : O = FF x[k].call x[k].tm := by
   rw [← hFF, hD, (h3 hz).2 q hq]
   show _ = (jo x[k].call).bind _
   rw [hq]; rfl
  rw [hz] at h1
  rw [← e]
  exact ⟨h1, h4⟩
 have HJ : Hid (∀ k, JJ k = !(DL.contains (k : Int) || OL.contains (k : Int))) := fun k => by rw [hJJ]
 rw [hDL] at HDU
 rw [hOL] at HOU
 generalize jd3 D = E at *
 clear hDL hOL hFF hJJ hsv hD
 have hBc := Blk.new w2 33 #[.slice UA C.ents.length uc, .slice VA C.pfxs.length vc, .string C.own, .int .i64 C.beg, .int .i64 C.fin, .slice RA C.ruls.length rc, .slice MA C.muls.length mc, .bool C.byMode]
 have hg3 := World.grownBy_alloc w2 (.cells #[.slice UA C.ents.length uc, .slice VA C.pfxs.length vc, .string C.own, .int .i64 C.beg, .int .i64 C.fin, .slice RA C.ruls.length rc, .slice MA C.muls.length mc, .bool C.byMode] 33) none
 clear hbeg hfin hC2
 go_upto_region 3 with fail
 generalize w2.alloc (.cells #[.slice UA C.ents.length uc, .slice VA C.pfxs.length vc, .string C.own, .int .i64 C.beg, .int .i64 C.fin, .slice RA C.ruls.length rc, .slice MA C.muls.length mc, .bool C.byMode] 33) = w3 at *
 obtain ⟨gC, hgC⟩ : ∃ g, w2.heap.size = g := ⟨_, rfl⟩
 rw [hgC] at hBc
 (try rw [hgC])
 obtain ⟨k0, k1c, k2c, k3c, k4c, k5c, k6c, k7c⟩ := hBc.cells8
 have z6 := hBc.free 6
 have hlC := hBc.lt
 have hM := Blk.new (w3.setCell ⟨gC, 6, none⟩ (.slice (some ⟨w3.heap.size, 0, none⟩) 1 1)) 38 #[.int .i64 1, .bool false, .bool false]
 have e5 : (w3.setCell ⟨gC, 6, none⟩ (.slice (some ⟨w3.heap.size, 0, none⟩) 1 1)).heap.size = w3.heap.size := by simp
 rw [e5] at hM
 have hC5 : Blk ((w3.setCell ⟨gC, 6, none⟩ (.slice (some ⟨w3.heap.size, 0, none⟩) 1 1)).alloc (.cells #[.int .i64 1, .bool false, .bool false] 38)) gC 33 #[.slice UA C.ents.length uc, .slice VA C.pfxs.length vc, .string C.own, .int .i64 C.beg, .int .i64 C.fin, .slice RA C.ruls.length rc, .slice (some ⟨w3.heap.size, 0, none⟩) 1 1, .bool C.byMode] := by
  have h := (hBc.put 6 (.slice (some ⟨w3.heap.size, 0, none⟩) 1 1)).alloc (.cells #[.int .i64 1, .bool false, .bool false] 38)
  simpa using h
 have hg5 : w2.grownBy ((w3.setCell ⟨gC, 6, none⟩ (.slice (some ⟨w3.heap.size, 0, none⟩) 1 1)).alloc (.cells #[.int .i64 1, .bool false, .bool false] 38)) none := jd (jg (p := ⟨gC, 6, none⟩) hg3 (.inr (by rw [hgC]; exact Nat.le_refl _)) _) _
 have hMB : B1 ≤ w3.heap.size := Nat.le_trans HSZ.out (Nat.le_trans hsz2 hg3.size)
 clear e5
 go_upto_region 4 with fail
 generalize (w3.setCell ⟨gC, 6, none⟩ (.slice (some ⟨w3.heap.size, 0, none⟩) 1 1)).alloc (.cells #[.int .i64 1, .bool false, .bool false] 38) = w5 at *
 generalize w3.heap.size = gM at *
 have HM : Hid (∀ W, w5.grownBy W none → MulsFrom B1 W (.slice (some ⟨gM, 0, none⟩) 1 1) [⟨1, false, false⟩]) := fun W hW => jt (MulsFrom.grown (MulsFrom.one (m := ⟨1, false, false⟩) hM) hW) hMB
 clear hBc k0 k1c k2c k3c k4c k5c k6c k7c z6 hgC hM hg3 hMB
 obtain ⟨k0, k1c, k2c, k3c, k4c, k5c, k6c, k7c⟩ := hC5.cells8
 go_wp2_with fail
 refine (HCF.out _ _ hg5 (HM.out _ (je _ _))).mono ?_
 rintro _ w6 ⟨rfl, hg6⟩
 have hC6 := hC5.grown hg6 (by simp)
 have hg26 := ja hg5 hg6
 have hg56 := hg6
 clear k0 k1c k2c k3c k4c k5c k6c k7c hC5 hg6 HCF
 by_cases hE : E = 0
 rotate_left
 ·have e1b : (E == 0) = false := by rw [beq_eq_false_iff_ne]; exact hE
  have e1n : (E != 0) = true := by rw [bne, e1b]; rfl
  have hg06 := ja hG2 hg26
  clear HDU HOU HSC HEN HOF
  go_wp2_with fail
  refine (HFA.out _ hg06).mono ?_
  rintro _ w7 ⟨rfl, hg7⟩
  go_wp2_with fail
  go_ret
  exact ⟨rfl, jfa (ja hg06 hg7)⟩
 have HDU2 := Lib.hid (HDU.out hE)
 have HOU2 := Lib.hid (HOU.out hE)
 have HSC2 := Lib.hid (HSC.out hE)
 have HEN2 := Lib.hid (HEN.out hE)
 have HOF2 := Lib.hid (HOF.out hE)
 subst hE
 obtain ⟨k0, k1c, k2c, k3c, k4c, k5c, k6c, k7c⟩ := hC6.cells8
 clear HDU HOU HSC HEN HOF
 go_wp2_with fail
 refine (HDU2.out _ _ hg26 (HM.out _ hg56)).mono ?_
 rintro _ w7 ⟨dv, rfl, hD7, hg7⟩
 obtain ⟨DA, dc, rfl, _, _⟩ := hD7.shape
 have hC7 := hC6.grown hg7 (by simp)
 have hg27 := ja hg26 hg7
 have hg57 := ja hg56 hg7
 clear k0 k1c k2c k3c k4c k5c k6c k7c hC6 hg26 hg56 HDU2
 obtain ⟨k0, k1c, k2c, k3c, k4c, k5c, k6c, k7c⟩ := hC7.cells8
 go_wp2_with fail
 refine (HOU2.out _ _ hg27 (HM.out _ hg57)).mono ?_
 rintro _ w8 ⟨ov, rfl, hO8, hg8⟩
 obtain ⟨OA, oc, rfl, _, _⟩ := hO8.shape
 have hC8 := hC7.grown hg8 (by simp)
 have hg28 := ja hg27 hg8
 have hg58 := ja hg57 hg8
 have hD8 := IntsFrom.grown hD7 hg8
 clear k0 k1c k2c k3c k4c k5c k6c k7c hC7 hg27 hg57 hg7 hD7 HOU2
 obtain ⟨k0, k1c, k2c, k3c, k4c, k5c, k6c, k7c⟩ := hC8.cells8
 go_wp2_with fail
 refine (HSC2.out _ _ hg28 (HM.out _ hg58)).mono ?_
 rintro _ w9 ⟨rfl, hg9⟩
 have hT := Blk.new w9 45 #[.int .i64 a0, .int .i64 a1, .int .i64 a2, .int .i64 a3]
 have hgT := World.grownBy_alloc w9 (.cells #[.int .i64 a0, .int .i64 a1, .int .i64 a2, .int .i64 a3] 45) none
 have hg8T := ja hg9 hgT
 have HC10 := Lib.hid (hC8.grown hg8T (by simp))
 have hg210 := ja hg28 hg8T
 have HDL := Lib.hid (IntsFrom.grown hD8 hg8T)
 have HOL := Lib.hid (IntsFrom.grown hO8 hg8T)
 clear k0 k1c k2c k3c k4c k5c k6c k7c hC8 hg28 hg58 hg8 hg9 hD8 hO8 hgT hg8T HSC2 HM
 go_upto_region 9 with fail
 generalize w9.alloc (.cells #[.int .i64 a0, .int .i64 a1, .int .i64 a2, .int .i64 a3] 45) = w10 at *
 obtain ⟨gT, hgT0⟩ : ∃ g, w9.heap.size = g := ⟨_, rfl⟩
 rw [hgT0] at hT
 (try rw [hgT0])
 have HT := Lib.hid hT
 have HG210 := Lib.hid hg210
 have HCN : Hid (∀ W (t : Nat), w10.grownBy W none → Calls Tryz.prog 14 #[.slice DA DL.length dc, .int .i64 t] W fun e w' => e = .returned (.bool (DL.contains (t : Int))) ∧ W.grownBy w' none) := fun W t hW => jdm _ _ DL t W (IntsFrom.grown HDL.out hW)
 have HCO : Hid (∀ W (t : Nat), w10.grownBy W none → Calls Tryz.prog 14 #[.slice OA OL.length oc, .int .i64 t] W fun e w' => e = .returned (.bool (OL.contains (t : Int))) ∧ W.grownBy w' none) := fun W t hW => jdm _ _ OL t W (IntsFrom.grown HOL.out hW)
 obtain ⟨s0, hs0, sy0, sy1, sy2⟩ := info_parts js2
 obtain ⟨B10, hB10⟩ : ∃ z, w10.heap.size = z := ⟨_, rfl⟩
 have HB10 := Lib.hid hB10
 have HX := Lib.hid (hx.grown hg210)
 have HXA := Lib.hid hXA
 clear hgT0 hT hg210 hB10 hx hXA hxs hx0
 go_wp2_with fail
 go_loopw [12, 62] (fun av iv wr => ∃ k : Nat, k ≤ x.length ∧ iv = .int .i64 k ∧ Hid (NamesFrom B10 wr av (qi FF x JJ k)) ∧ w10.grownBy wr none) (fun _ iv _ => x.length - (intOf iv).toNat)
 case atStart => exact ⟨0, by omega, rfl, NamesFrom.nil _ _, je _ _⟩
 case round =>
  obtain ⟨k, hk, rfl, HN, hg⟩ := hrel
  obtain ⟨A2, c2, rfl, _, _⟩ := HN.out.shape
  obtain ⟨LO, hLO⟩ : ∃ LO, (qi FF x JJ k).length = LO := ⟨_, rfl⟩
  have hLOb : LO ≤ k := by rw [← hLO]; exact jhs FF x JJ k
  have HLO := Lib.hid hLO
  rw [hLO] at HN
  (try rw [hLO])
  clear hLO
  by_cases hlt : k < x.length
  ·have hki : (k : Int) < (x.length : Int) := by omega
   obtain ⟨g, rfl, _, _⟩ := HXA.out (by omega)
   obtain ⟨q0, q1, q2, q3, q4, q5, q6, q7⟩ := (HX.out.grown hg).at_ k hlt
   have hOf := HOF2.out k hlt
   have hst : qi FF x JJ (k + 1) = if JJ k then (match FF x[k].call x[k].tm with | some f => qi FF x JJ k ++ [f.1.data.toList] | none => qi FF x JJ k) else qi FF x JJ k := by
    have e := zi x k hlt
    rw [← e]; rfl
   have HJk := HJ.out k
   have HC1 : Hid (∀ W, w10.grownBy W none → Calls Tryz.prog 14 #[.slice DA DL.length dc, .int .i64 k] W fun e w' => e = .returned (.bool (DL.contains (k : Int))) ∧ W.grownBy w' none) := fun W hW => HCN.out W k hW
   have HC2 : Hid (∀ W, w10.grownBy W none → Calls Tryz.prog 14 #[.slice OA OL.length oc, .int .i64 k] W fun e w' => e = .returned (.bool (OL.contains (k : Int))) ∧ W.grownBy w' none) := fun W hW => HCO.out W k hW
   generalize DL.contains (k : Int) = dk at *
   generalize OL.contains (k : Int) = ok at *
   rw [HJk] at hst
   generalize FF x[k].call x[k].tm = RES at *
   have HOf := Lib.hid hOf
   have HST := Lib.hid hst
   clear hOf hst HJk
   generalize x[k].tm = Tm at *
   generalize x[k].mode = Mo at *
   generalize x[k].band = BD at *
   generalize x[k].call = CA at *
   generalize x[k].sent = SE at *
   generalize x[k].heard = HE at *
   generalize x[k].gave = GA at *
   generalize x[k].got = GO at *
   have hX := Blk.new wr 50 #[.int .i64 Tm, .int .i64 Mo, .string BD, .string CA, .int .i64 SE, .int .i64 HE, .string GA, .string GO]
   have hgX := World.grownBy_alloc wr (.cells #[.int .i64 Tm, .int .i64 Mo, .string BD, .string CA, .int .i64 SE, .int .i64 HE, .string GA, .string GO] 50) none
   have HN1 := Lib.hid (HN.out.grown hgX)
   have hg1 := ja hg hgX
   go_upto_region 15 with fail
   generalize wr.alloc (.cells #[.int .i64 Tm, .int .i64 Mo, .string BD, .string CA, .int .i64 SE, .int .i64 HE, .string GA, .string GO] 50) = w11 at *
   generalize wr.heap.size = gX at *
   clear q0 q1 q2 q3 q4 q5 q6 q7 hg hgX HN
   cases dk
   rotate_left
   ·have HS : Hid (qi FF x JJ (k + 1) = qi FF x JJ k) := by show _ = _; rw [HST.out]; rfl
    go_wp2_with fail
    refine (HC1.out _ hg1).mono ?_
    rintro _ w12 ⟨rfl, hg12⟩
    have HN2 := Lib.hid (HN1.out.grown hg12)
    have hg2 := ja hg1 hg12
    clear HC1 HC2 hX HN1 hg1 hg12
    go_wp2_with fail
    go_roundw
    case rel => exact ⟨k + 1, by omega, by go_num, (by rw [HS.out]; exact HN2), hg2⟩
    case measure => simp [intOf]; omega
   go_wp2_with fail
   refine (HC1.out _ hg1).mono ?_
   rintro _ w12 ⟨rfl, hg12⟩
   have HN2 := Lib.hid (HN1.out.grown hg12)
   have hg2 := ja hg1 hg12
   have hX2 := hX.grown hg12 (by simp)
   clear HC1 hX HN1 hg1 hg12
   go_wp2_with fail
   refine (HC2.out _ hg2).mono ?_
   rintro _ w13 ⟨rfl, hg13⟩
   have HN3 := Lib.hid (HN2.out.grown hg13)
   have hg3 := ja hg2 hg13
   have hX3 := hX2.grown hg13 (by simp)
   clear HC2 hX2 HN2 hg2 hg13
   cases ok
   rotate_left
   ·have HS : Hid (qi FF x JJ (k + 1) = qi FF x JJ k) := by show _ = _; rw [HST.out]; rfl
    go_wp2_with fail
    go_roundw
    case rel => exact ⟨k + 1, by omega, by go_num, (by rw [HS.out]; exact HN3), hg3⟩
    case measure => simp [intOf]; omega
   obtain ⟨b0, b1, _⟩ := (HC10.out.grown hg3 (by simp)).cells8
   obtain ⟨x0, _, _, x3, _⟩ := hX3.cells8
   have hst2 := HST.out
   rw [if_pos (show (!(false || false)) = true from rfl)] at hst2
   have hst3 : (RES.isSome = false → qi FF x JJ (k + 1) = qi FF x JJ k) ∧ (RES.isSome = true → qi FF x JJ (k + 1) = qi FF x JJ k ++ [(RES.getD qm).1.data.toList]) := by
    cases RES with
    | none => exact ⟨fun _ => hst2, fun h => (by cases h)⟩
    | some f => exact ⟨fun h => (by cases h), fun _ => hst2⟩
   have HST3 := Lib.hid hst3
   clear HST hst2 hst3
   generalize (RES.getD qm).1 = FS at *
   generalize (RES.getD qm).2.1 = FA at *
   generalize (RES.getD qm).2.2 = FB at *
   generalize RES.isSome = IS at *
   go_wp2_with fail
   refine (HOf.out _ (ja HG210.out hg3)).mono ?_
   rintro _ w14 ⟨rfl, hg14⟩
   have hF := Blk.new w14 53 #[.string FS, .int .i64 FA, .int .i64 FB]
   have hgF := World.grownBy_alloc w14 (.cells #[.string FS, .int .i64 FA, .int .i64 FB] 53) none
   have HN4 := Lib.hid (HN3.out.grown (ja hg14 hgF))
   have hg4 := ja hg3 (ja hg14 hgF)
   clear HOf hX3 HN3 hg3 hg14 hgF b0 b1 x0 x3
   go_upto_region 17 with fail
   generalize w14.alloc (.cells #[.string FS, .int .i64 FA, .int .i64 FB] 53) = w15 at *
   generalize w14.heap.size = gF at *
   cases IS
   ·have HS : Hid (qi FF x JJ (k + 1) = qi FF x JJ k) := HST3.out.1 rfl
    clear HST3
    go_wp2_with fail
    go_roundw
    case rel => exact ⟨k + 1, by omega, by go_num, (by rw [HS.out]; exact HN4), hg4⟩
    case measure => simp [intOf]; omega
   have HS : Hid (qi FF x JJ (k + 1) = qi FF x JJ k ++ [FS.data.toList]) := HST3.out.2 rfl
   clear HST3
   have f0 := hF.cell 0
   simp only [geA, geZ, geS] at f0
   have hownR : w15.ownsRow B10 9 1 (.slice A2 LO c2) LO ((qi FF x JJ k).map encStr) := by
    have h := HN4.out
    unfold NamesFrom at h
    rw [HLO.out] at h
    exact h
   have HOR := Lib.hid hownR
   have hwg := hg4.size
   have hw5 := HB10.out
   clear hownR HN4
   go_wp2_with (at_builtin; refine wpList_append_own _ rfl _ _ 48 rfl B10 9 s0 _ 1 16 Tryz.underlying48 hs0 sy0 sy1 sy2 rfl (by decide) _ LO _ rfl (World.ownsRow.alloc HOR.out _) ⟨_, 0, none⟩ 1 1 [.string FS] rfl rfl (World.news_of_block (Blk.new _ _ _)) (jrw FS) (by unfold maxLen; omega) (by omega) (by simp; omega) ?_; intro v' w16 hownB hgrB _)
   have hown8 : NamesFrom B10 w16 v' (qi FF x JJ (k + 1)) := by
    rw [HS.out]
    unfold NamesFrom
    rw [List.map_append, List.length_append, HLO.out]
    exact hownB
   have hg5 : w10.grownBy w16 none := jh (jd hg4 _) hgrB (fun g e => .inr (by have := (HOR.out.lt g e).1; have := HB10.out; omega))
   go_wp2_with fail
   go_roundw
   case rel => exact ⟨k + 1, by omega, by go_num, hown8, hg5⟩
   case measure => simp [intOf]; omega
  have hki : ¬ (k : Int) < (x.length : Int) := by omega
  obtain rfl : k = x.length := by omega
  have hEE := HEN2.out
  have hE2 : Lib.compact (zv (qi FF x JJ x.length)) = jc0 (qi FF x JJ x.length) := rfl
  have hsl := jdy (qi FF x JJ x.length)
  have hN9 := HN.out
  have hNL : (qi FF x JJ x.length).length ≤ 10 := by have := HLO.out; omega
  generalize qi FF x JJ x.length = EN at *
  go_wp2_with fail
  refine (jsd B10 _ EN wr hN9 (by omega)).mono ?_
  rintro _ w11 ⟨rfl, hN11, hg11⟩
  have hgG : w10.grownBy w11 none := jh hg hg11 (fun g e => .inr (by have := (World.ownsRow.lt hN9 g e).1; have := HB10.out; omega))
  subst hEE
  have HK : Hid (∀ V, w10.grownBy V none → V.cell? ⟨gT, 2, none⟩ = some (.int .i64 ((jc0 EN).length : Int))) := fun V hV => (qe (HT.out.grown hV (by simp))).2.2.1
  have hol : (jc0 EN).length ≤ 10 := Nat.le_trans (jse EN) hNL
  have hCT : ∀ (W W2 : World) (v : Value), W.grownBy W2 v.ownBlock → NamesFrom B10 W v (zv EN) → w10.grownBy W none → w10.grownBy W2 none := fun W W2 v h1 h2 h3 => jh h3 h1 (fun g e => .inr (by have := (World.ownsRow.lt h2 g e).1; have := HB10.out; omega))
  have HC5 : Hid (∀ W, NamesFrom B10 W (.slice A2 LO c2) (zv EN) → w10.grownBy W none → Calls Tryz.prog 17 #[.slice A2 LO c2] W fun e w' => ∃ A c, e = .returned (.slice A (jc0 EN).length c) ∧ w10.grownBy w' none) := fun W h1 h2 => by
   refine (jk8 B10 _ (zv EN) W h1 (by omega)).mono ?_
   rintro r w' ⟨u, rfl, h3, h4⟩
   rw [hE2] at h3
   obtain ⟨A, c, rfl, _, _⟩ := h3.shape
   exact ⟨A, c, rfl, hCT W w' _ h4 h1 h2⟩
  have HN11 := Lib.hid hN11
  clear hE2 hCT hN11 hN9 HN hg11 hsl
  generalize (jc0 EN).length = ML at *
  go_upto_region 23 with fail
  refine j6 [] (fun V => V.cell? ⟨gT, 2, none⟩ = some (.int .i64 (ML : Int))) (by kernel_rfl) ?_
  have hN : NamesFrom B10 w11.drew (.slice A2 LO c2) (zv EN) := NamesFrom.grown HN11.out (jk (je _ _))
  have hG : w10.grownBy w11.drew none := jk hgG
  generalize w11.drew = W at *
  revert hN
  revert hG
  revert W
  refine' qu ?hz3_4_7 ?kz3_4_7
  case' kz3_4_7 =>
   intro Hz3_4_7
   refine' qu ?hz3_4 ?kz3_4
  case' kz3_4 =>
   intro Hz3_4
   refine' qu ?hz3 ?kz3
  case' kz3 => intro Hz3
  case kz3 =>
   intro W hG hN
   refine tkA 0 99 (fun _ => HK.out _ hG) ?_
   simp only [Act.put, ssA, ssZ, ssS]
   refine tkL 1 100 (HK.out _ hG) ?_
   simp only [Act.put, ssA, ssZ, ssS]
   refine tkA 2 101 (fun _ => HK.out _ hG) ?_
   simp only [Act.put, ssA, ssZ, ssS]
   refine jf (rs := [3]) (by kernel_rfl) (by simp) ?_
   refine AllLate.cons (o := _) rfl (fun K hK => ?n1) AllLate.nil
   case n1 =>
    go_simp
    (go_at_call 17; refine (HC5.out _ hN hG).mono ?_; rintro _ W2 ⟨NA, nc, rfl, hgp⟩)
    clear hN hG
    have hG := hgp
    clear hgp
    refine hK.out _ _ (fun _ => HK.out _ hG) ?_
    clear hK K
    (try simp only [Act.put, ssA, ssZ, ssS])
    refine jm (listed' := #[true, true, true, true, false, false, false, false, false, false]) (by kernel_rfl) ?_
    revert hG
    revert nc
    revert NA
    revert W2
    exact Hz3.out
  case hz3 =>
   intro W NA nc hG
   refine jf (rs := [4]) (by kernel_rfl) (by simp) ?_
   refine AllLate.cons (o := _) rfl (fun K hK => ?n2) AllLate.nil
   case n2 =>
    go_simp
    refine hK.out _ _ (fun _ => HK.out _ hG) ?_
    clear hK K
    (try simp only [Act.put, ssA, ssZ, ssS])
    refine jm (listed' := #[true, true, true, true, true, false, false, false, false, false]) (by kernel_rfl) ?_
    revert hG
    revert nc
    revert NA
    revert W
    exact Hz3_4.out
  case hz3_4 =>
   intro W NA nc hG
   refine tkA 5 104 (fun _ => HK.out _ hG) ?_
   simp only [Act.put, ssA, ssZ, ssS]
   refine tkA 6 105 (fun _ => HK.out _ hG) ?_
   simp only [Act.put, ssA, ssZ, ssS]
   refine jf (rs := [7]) (by kernel_rfl) (by simp) ?_
   refine AllLate.cons (o := _) rfl (fun K hK => ?n3) AllLate.nil
   case n3 =>
    go_simp
    (go_at_call 10; refine (HFA.out _ (ja (ja hG2 HG210.out) hG)).mono ?_; rintro _ W2 ⟨rfl, hgp⟩)
    replace hG := ja hG hgp
    clear hgp
    refine hK.out _ _ (fun _ => HK.out _ hG) ?_
    clear hK K
    (try simp only [Act.put, ssA, ssZ, ssS])
    refine jm (listed' := #[true, true, true, true, true, true, true, true, false, false]) (by kernel_rfl) ?_
    revert hG
    revert nc
    revert NA
    revert W2
    exact Hz3_4_7.out
  case hz3_4_7 =>
   intro W NA nc hG
   refine tkA 8 107 (fun _ => HK.out _ hG) ?_
   simp only [Act.put, ssA, ssZ, ssS]
   refine tkA 9 2 (fun _ => HK.out _ hG) ?_
   simp only [Act.put, ssA, ssZ, ssS]
   refine qp (by kernel_rfl) ?_ _
   go_wp2_with fail
   go_ret
   exact ⟨rfl, jfa (ja (ja hG2 HG210.out) hG)⟩
end Go.Proofs.YtbamhgaghngjiaaGreatDoor
