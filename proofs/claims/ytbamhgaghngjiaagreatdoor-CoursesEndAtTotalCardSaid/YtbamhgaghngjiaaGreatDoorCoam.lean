/- The walks jo1 the reference's TableFault: entityOf, byPrefix. Condition: parts of a size, strings of ASCII bytes. -/
import Derived.Test.YtbamhgaghngjiaaGreatDoorCoal
namespace Go.Proofs.YtbamhgaghngjiaaGreatDoor
open Go.RowKit
set_option linter.unusedVariables false
set_option linter.unusedSimpArgs false

def jwk : Ent := ⟨⟨#[]⟩, 0, 0, 0, 0⟩
theorem jn7 (l : List Ent) (s : ByteArray) (k : Nat) (h : k < l.length) : xi (l.drop k) s = if l[k].key = s then some l[k] else xi (l.drop (k + 1)) s := by
 unfold xi
 rw [List.drop_eq_getElem_cons h, List.find?_cons]
 by_cases hh : l[k].key = s <;> simp [hh]
theorem jrf (l : List Ent) (s : ByteArray) : xi (l.drop l.length) s = none := by rw [List.drop_length]; rfl
def jn2 (e : Ent) : Value := .agg #[.string e.key, .int .i64 e.cont, .int .i64 e.zone, .int .i64 e.a, .int .i64 e.z]
set_option maxRecDepth 100000 in
set_option maxHeartbeats 4000000 in
theorem jh7 (base : Nat) (v : Value) (l : List Ent) (s : ByteArray) (w : World) (hl : EntsFrom base w v l) (hbig : l.length ≤ 1000000) :
 Calls Tryz.prog 79 #[v, .string s] w fun r w' => r = .returned (.tuple #[jn2 ((xi l s).getD jwk), .bool (xi l s).isSome]) ∧ w.grownBy w' none := by
 obtain ⟨A, c, rfl, hlen, hA⟩ := hl.shape
 have hR := Blk.new w 139 #[.string ⟨#[]⟩, .int .i64 0, .int .i64 0, .int .i64 0, .int .i64 0]
 have hg0 := World.grownBy_alloc w (.cells #[.string ⟨#[]⟩, .int .i64 0, .int .i64 0, .int .i64 0, .int .i64 0] 139) none
 have HL := Lib.hid (hl.grown hg0)
 have HA := Lib.hid hA
 obtain ⟨E, hE⟩ : ∃ E, xi l s = E := ⟨_, rfl⟩
 have HE : Hid (xi l s = xi (l.drop 0) s) := rfl
 have HEE := Lib.hid hE
 rw [hE]
 have HW0 : Hid (∀ k : Nat, w.heap.size ≤ k → w.heap.size ≤ k) := fun k h => h
 clear hl hA hE
 go_enter Tryz.func79, Tryz.ntmps79
 go_upto_region 1 with fail
 generalize w.alloc (.cells #[.string ⟨#[]⟩, .int .i64 0, .int .i64 0, .int .i64 0, .int .i64 0] 139) = w1 at *
 obtain ⟨gR, hgR⟩ : ∃ g, w.heap.size = g := ⟨_, rfl⟩
 rw [hgR] at hR HA ⊢
 have HgR := Lib.hid hgR
 clear hgR
 go_wp2_with fail
 go_loopw [10] (fun iv wr => ∃ k : Nat, k ≤ l.length ∧ iv = .int .i64 k ∧ Hid (xi l s = xi (l.drop k) s) ∧ w1.grownBy wr none) (fun iv _ => l.length - (intOf iv).toNat)
 case atStart => exact ⟨0, by omega, rfl, HE, jf _ _⟩
 case round =>
  obtain ⟨k, hk, rfl, HN, hg⟩ := hrel
  have hRr := hR.grown hg (by simp)
  have hg1r := ja hg0 hg
  by_cases hlt : k < l.length
  ·have hki : (k : Int) < (l.length : Int) := by omega
   obtain ⟨g, rfl, hgb, hglt⟩ := HA.out (by omega)
   obtain ⟨q0, q1, q2, q3, q4⟩ := (HL.out.grown hg).at_ k hlt
   have hst := jn7 l s k hlt
   rw [← HN.out, HEE.out] at hst
   have hsz := hg1r.size
   have hgsz : g < wr.heap.size := by have := HgR.out; omega
   have hRsz : gR < wr.heap.size := hRr.lt
   have HAG : Hid (jn2 l[k] = .agg #[.string l[k].key, .int .i64 l[k].cont, .int .i64 l[k].zone, .int .i64 l[k].a, .int .i64 l[k].z]) := rfl
   by_cases hs : l[k].key = s
   ·have hE : E = some l[k] := by rw [hst, if_pos hs]
    subst hE
    have hb := jhm hs
    have HV : Hid ((some l[k]).getD jwk = l[k]) := rfl
    clear hst hs
    generalize l[k].key = K at *
    generalize l[k].cont = C at *
    generalize l[k].zone = Z at *
    generalize l[k].a = ea at *
    generalize l[k].z = ez at *
    have hX := Blk.new wr 139 #[.string K, .int .i64 C, .int .i64 Z, .int .i64 ea, .int .i64 ez]
    have hRX := hRr.alloc (.cells #[.string K, .int .i64 C, .int .i64 Z, .int .i64 ea, .int .i64 ez] 139)
    have hgX := jd hg1r (.cells #[.string K, .int .i64 C, .int .i64 Z, .int .i64 ea, .int .i64 ez] 139)
    go_upto_region 4 with fail
    generalize wr.alloc (.cells #[.string K, .int .i64 C, .int .i64 Z, .int .i64 ea, .int .i64 ez] 139) = w2 at *
    generalize wr.heap.size = gX at *
    clear q0 q1 q2 q3 q4
    have x0 := hX.cell 0
    have x1 := hX.cell 1
    have x2 := hX.cell 2
    have x3 := hX.cell 3
    have x4 := hX.cell 4
    have y0 := hRX.cell 0
    have y1 := hRX.cell 1
    have y2 := hRX.cell 2
    have y3 := hRX.cell 3
    have y4 := hRX.cell 4
    have yf := hRX.free
    simp only [geA, geZ, geS] at x0 x1 x2 x3 x4 y0 y1 y2 y3 y4
    go_wp2_with fail
    have hf := ((((hRX.put 0 (.string K)).put 1 (.int .i64 C)).put 2 (.int .i64 Z)).put 3 (.int .i64 ea)).put 4 (.int .i64 ez)
    simp only [List.setIfInBounds_toArray, List.set_cons_zero, List.set_cons_succ] at hf
    have e0 := hf.cell 0
    have e1 := hf.cell 1
    have e2 := hf.cell 2
    have e3 := hf.cell 3
    have e4 := hf.cell 4
    simp only [geA, geZ, geS] at e0 e1 e2 e3 e4
    refine bodyPost_ret (v := .tuple #[.agg #[.string K, .int .i64 C, .int .i64 Z, .int .i64 ea, .int .i64 ez], .bool true]) (by simp [results, Tryz.results79, go_sem, e0, e1, e2, e3, e4]) rfl ?_
    have hgw : w.heap.size ≤ gR := by have := HgR.out; omega
    refine ⟨by rw [HV.out, HAG.out]; rfl, ?_⟩
    exact jg (p := ⟨gR, 4, none⟩) (jg (p := ⟨gR, 3, none⟩) (jg (p := ⟨gR, 2, none⟩) (jg (p := ⟨gR, 1, none⟩) (jg (p := ⟨gR, 0, none⟩) hgX (.inr hgw) (.string K)) (.inr hgw) (.int .i64 C)) (.inr hgw) (.int .i64 Z)) (.inr hgw) (.int .i64 ea)) (.inr hgw) (.int .i64 ez)
   have hE : E = xi (l.drop (k + 1)) s := by rw [hst, if_neg hs]
   have hb := jln hs
   have HR : Hid (xi l s = xi (l.drop (k + 1)) s) := HEE.out.trans hE
   clear hst hs hE HAG
   generalize l[k].key = K at *
   generalize l[k].cont = C at *
   generalize l[k].zone = Z at *
   generalize l[k].a = ea at *
   generalize l[k].z = ez at *
   go_wp2_with fail
   go_roundw
   case rel => exact ⟨k + 1, by omega, by go_num, HR, jd hg _⟩
   case measure => simp [intOf]; omega
  obtain rfl : k = l.length := by omega
  have hkl : ¬ (l.length : Int) < (l.length : Int) := by omega
  have hE : E = none := by rw [← HEE.out, HN.out, jrf]
  subst hE
  have y0 := hRr.cell 0
  have y1 := hRr.cell 1
  have y2 := hRr.cell 2
  have y3 := hRr.cell 3
  have y4 := hRr.cell 4
  have yf := hRr.free
  simp only [geA, geZ, geS] at y0 y1 y2 y3 y4
  go_wp2_with fail
  have hf := ((((hRr.put 0 (.string ⟨#[]⟩)).put 1 (.int .i64 0)).put 2 (.int .i64 0)).put 3 (.int .i64 0)).put 4 (.int .i64 0)
  simp only [List.setIfInBounds_toArray, List.set_cons_zero, List.set_cons_succ] at hf
  have e0 := hf.cell 0
  have e1 := hf.cell 1
  have e2 := hf.cell 2
  have e3 := hf.cell 3
  have e4 := hf.cell 4
  simp only [geA, geZ, geS] at e0 e1 e2 e3 e4
  refine bodyPost_ret (v := .tuple #[.agg #[.string ⟨#[]⟩, .int .i64 0, .int .i64 0, .int .i64 0, .int .i64 0], .bool false]) (by simp [results, Tryz.results79, go_sem, e0, e1, e2, e3, e4]) rfl ?_
  have hgw : w.heap.size ≤ gR := by have := HgR.out; omega
  refine ⟨rfl, ?_⟩
  exact jg (p := ⟨gR, 4, none⟩) (jg (p := ⟨gR, 3, none⟩) (jg (p := ⟨gR, 2, none⟩) (jg (p := ⟨gR, 1, none⟩) (jg (p := ⟨gR, 0, none⟩) hg1r (.inr hgw) (.string ⟨#[]⟩)) (.inr hgw) (.int .i64 0)) (.inr hgw) (.int .i64 0)) (.inr hgw) (.int .i64 0)) (.inr hgw) (.int .i64 0)
def ju3 (o x : Pfx) : Int := orL [jaz o.beg x.beg, jm4 (ja1 o.whole) (ja1 x.whole), jm4 o.a x.a]
theorem jnp (o x : Pfx) : (0 ≤ ju3 o x) ↔ (0 ≤ ja5 o x) := by
 unfold ju3 ja5
 rw [jk8, jk8, orL1]
 have hft : ∀ b, ja1 b = jbt b := fun b => rfl
 rw [hft, hft]
 have hn : ∀ a b : Int, (a < b ∧ jm4 a b = -1) ∨ (a = b ∧ jm4 a b = 0) ∨ (b < a ∧ jm4 a b = 1) := fun a b => by
  unfold jm4
  split
  ·exact .inl ⟨by assumption, rfl⟩
  split
  ·exact .inr (.inr ⟨by assumption, rfl⟩)
  exact .inr (.inl ⟨by omega, rfl⟩)
 rcases hn (jbt o.whole) (jbt x.whole) with ⟨h1, h2⟩ | ⟨h1, h2⟩ | ⟨h1, h2⟩ <;> rcases hn o.a x.a with ⟨h3, h4⟩ | ⟨h3, h4⟩ | ⟨h3, h4⟩ <;> rw [h2, h4] <;> (repeat' split) <;> omega
set_option maxRecDepth 100000 in
set_option maxHeartbeats 4000000 in
theorem jnq (b1 e1 b2 e2 : ByteArray) (a1 z1 a2 z2 n1 n2 : Int) (h1 h2 : Bool) (w : World) :
 Calls Tryz.prog 81 #[.agg #[.string b1, .string e1, .int .i64 a1, .int .i64 z1, .bool h1, .int .i64 n1], .agg #[.string b2, .string e2, .int .i64 a2, .int .i64 z2, .bool h2, .int .i64 n2]] w fun r w' => r = .returned (.int .i64 (ju3 ⟨b1, e1, a1, z1, h1, n1⟩ ⟨b2, e2, a2, z2, h2, n2⟩)) ∧ w.grownBy w' none := by
 have HC : Hid (∀ W, Calls Tryz.prog 132 #[.string b1, .string b2] W fun e w' => e = .returned (.int .i64 (jaz b1 b2)) ∧ W = w') := fun W => (Tryz.strings_Compare b1 b2 W).mono fun e w' ⟨q1, q2⟩ => ⟨q1, q2.symm⟩
 have HT1 := Lib.hid (fun W => ji5 h1 W)
 have HT2 := Lib.hid (fun W => ji5 h2 W)
 have HC1 := Lib.hid (fun W => jej (ja1 h1) (ja1 h2) W)
 have HC2 := Lib.hid (fun W => jej a1 a2 W)
 have HR : Hid (ju3 ⟨b1, e1, a1, z1, h1, n1⟩ ⟨b2, e2, a2, z2, h2, n2⟩ = orL [jaz b1 b2, jm4 (ja1 h1) (ja1 h2), jm4 a1 a2]) := rfl
 generalize ju3 ⟨b1, e1, a1, z1, h1, n1⟩ ⟨b2, e2, a2, z2, h2, n2⟩ = R at *
 generalize jaz b1 b2 = r1 at *
 generalize jm4 (ja1 h1) (ja1 h2) = r2 at *
 generalize jm4 a1 a2 = r3 at *
 generalize ja1 h1 = T1 at *
 generalize ja1 h2 = T2 at *
 have hx := (Blk.new w 134 #[.string b1, .string e1, .int .i64 a1, .int .i64 z1, .bool h1, .int .i64 n1]).alloc (.cells #[.string b2, .string e2, .int .i64 a2, .int .i64 z2, .bool h2, .int .i64 n2] 134)
 have hy := Blk.new (w.alloc (.cells #[.string b1, .string e1, .int .i64 a1, .int .i64 z1, .bool h1, .int .i64 n1] 134)) 134 #[.string b2, .string e2, .int .i64 a2, .int .i64 z2, .bool h2, .int .i64 n2]
 rw [World.size_alloc] at hy
 have hG := jd (World.grownBy_alloc w (.cells #[.string b1, .string e1, .int .i64 a1, .int .i64 z1, .bool h1, .int .i64 n1] 134) none) (.cells #[.string b2, .string e2, .int .i64 a2, .int .i64 z2, .bool h2, .int .i64 n2] 134)
 go_enter Tryz.func81, Tryz.ntmps81
 go_upto_region 1 with fail
 generalize (w.alloc (.cells #[.string b1, .string e1, .int .i64 a1, .int .i64 z1, .bool h1, .int .i64 n1] 134)).alloc (.cells #[.string b2, .string e2, .int .i64 a2, .int .i64 z2, .bool h2, .int .i64 n2] 134) = W5 at *
 generalize w.heap.size + 1 = gy at *
 generalize w.heap.size = gx at *
 have x0 := hx.cell 0
 have x2 := hx.cell 2
 have x4 := hx.cell 4
 have y0 := hy.cell 0
 have y2 := hy.cell 2
 have y4 := hy.cell 4
 simp only [geA, geZ, geS] at x0 x2 x4 y0 y2 y4
 go_region_held3 (fun V => V.cell? ⟨gx, 0, none⟩ = some (.string b1) ∧ V.cell? ⟨gx, 2, none⟩ = some (.int .i64 a1) ∧ V.cell? ⟨gx, 4, none⟩ = some (.bool h1) ∧ V.cell? ⟨gy, 0, none⟩ = some (.string b2) ∧ V.cell? ⟨gy, 2, none⟩ = some (.int .i64 a2) ∧ V.cell? ⟨gy, 4, none⟩ = some (.bool h2)) (go_keep)
  (first | (go_at_call 132; refine (HC.out _).mono ?_; rintro _ _ ⟨rfl, rfl⟩) | (go_at_call_of 134 (Value.bool h1); refine (HT1.out _).mono ?_; rintro _ _ ⟨rfl, rfl⟩) | (go_at_call_of 134 (Value.bool h2); refine (HT2.out _).mono ?_; rintro _ _ ⟨rfl, rfl⟩) | (go_at_call_of 133 (Value.int .i64 T1); refine (HC1.out _).mono ?_; rintro _ _ ⟨rfl, rfl⟩) | (go_at_call_of 133 (Value.int .i64 a1); refine (HC2.out _).mono ?_; rintro _ _ ⟨rfl, rfl⟩) | (go_at_call 131; refine (jt5 [r1, r2, r3] _ 3 3 _ (by repeat (first | exact Blk.new _ _ _ | refine Blk.drew ?_ | refine Blk.alloc ?_ _)) rfl (by decide)).mono ?_; rintro _ _ ⟨rfl, rfl⟩) | fail)
 all_goals
  go_wp2_with fail
  go_ret
  exact ⟨ji HR.out.symm, ja hG (by repeat (first | exact jf _ _ | assumption | refine jd ?_ _ | refine q9 ?_ _ | refine jn ?_))⟩
def jvx (p : Option Pfx) (x : Pfx) : Bool := match p with | none => false | some o => decide (0 ≤ ja5 o x)
def jvi (p : Option Pfx) (x : Pfx) : Bool := match p with | none => false | some o => decide (o.beg = x.beg ∧ o.whole = x.whole ∧ x.a < o.z)
theorem jt7 (l : List Ent) (p : Option Pfx) (x : Pfx) : jd1 l p x = if (if x.whole then !(jo x.beg).isSome else !jr x.beg.data.toList) then 3 else if (xi l x.ent).isSome = false then 8 else if xu x.a x.z = false then 1 else if qu x.zone 0 90 then 1 else if jvx p x then 7 else if jvi p x then 13 else 0 := by
 unfold jd1 jjs jvx jvi
 cases p with
 | none => simp
 | some o =>
   by_cases h1 : 0 ≤ ja5 o x <;> by_cases h2 : o.beg = x.beg ∧ o.whole = x.whole ∧ x.a < o.z <;> simp [h1, h2]
set_option maxRecDepth 100000 in
set_option maxHeartbeats 16000000 in
theorem jfq (base : Nat) (u v : Value) (l : List Ent) (p : List Pfx) (w : World) (hl : EntsFrom base w u l) (hsl : ∀ e ∈ l, jjc e) (hp : PfxsFrom base w v p) (hsm : ∀ x ∈ p, jlq x) :
 Calls Tryz.prog 35 #[u, v] w fun r w' => r = .returned (.int .i64 (jah l p)) ∧ w.grownBy w' none := by
 have HP := Lib.hid hp
 have HL := Lib.hid hl
 have HCE := Lib.hid (jc9 base u l w hl hsl)
 obtain ⟨A, c, rfl, hlen, hA⟩ := hp.shape
 have HA := Lib.hid hA
 clear hp hl hA
 by_cases hE : xj l = 0
 ·have hO := jd2 hE
  have hte : jah l p = if 2000 < p.length then 2 else xr l none p := by unfold jah; rw [if_neg (by omega)]
  rw [hE] at HCE
  clear hE
  by_cases hbig : 2000 < p.length
  ·have HT : Hid (jah l p = 2) := by show _ = _; rw [hte, if_pos hbig]
   have hb : (2000 : Int) < (p.length : Int) := by omega
   clear hte hO
   go_enter Tryz.func35, Tryz.ntmps35
   go_wp2_with fail
   refine HCE.out.mono ?_
   rintro _ w1 ⟨rfl, hg1⟩
   go_wp2_with fail
   go_ret
   exact ⟨ji HT.out.symm, hg1⟩
  have HT : Hid (jah l p = xr l none p) := by show _ = _; rw [hte, if_neg hbig]
  have hb : ¬ (2000 : Int) < (p.length : Int) := by omega
  have hll := hO.len
  clear hte hO
  go_enter Tryz.func35, Tryz.ntmps35
  go_wp2_with fail
  refine HCE.out.mono ?_
  rintro _ w1 ⟨rfl, hg1⟩
  go_wp2_with fail
  go_loopw [20] (fun iv wr => ∃ k : Nat, k ≤ p.length ∧ iv = .int .i64 k ∧ Hid (jah l p = xr l (qy p k) (p.drop k)) ∧ w.grownBy wr none) (fun iv _ => p.length - (intOf iv).toNat)
  case atStart => exact ⟨0, by omega, rfl, HT, hg1⟩
  case round =>
   obtain ⟨k, hk, rfl, HN, hg⟩ := hrel
   by_cases hlt : k < p.length
   ·have hki : (k : Int) < (p.length : Int) := by omega
    obtain ⟨g, rfl, hgb, hgl⟩ := HA.out (by omega)
    obtain ⟨q0, q1, q2, q3, q4, q5⟩ := (HP.out.grown hg).at_ k hlt
    have hst := jdt l p k hlt
    rw [← HN.out, jt7 l (qy p k) p[k]] at hst
    obtain ⟨s1, s2, s3, s4, s5, s6, s7⟩ := hsm _ (List.getElem_mem hlt)
    have HPV : Hid (∀ j, k = j + 1 → ∃ (o : Pfx) (C : Int), jvx (qy p k) p[k] = decide (0 ≤ C) ∧ jvi (qy p k) p[k] = decide (o.beg = p[k].beg ∧ o.whole = p[k].whole ∧ p[k].a < o.z) ∧ (∀ W, Calls Tryz.prog 81 #[.agg #[.string o.beg, .string o.ent, .int .i64 o.a, .int .i64 o.z, .bool o.whole, .int .i64 o.zone], .agg #[.string p[k].beg, .string p[k].ent, .int .i64 p[k].a, .int .i64 p[k].z, .bool p[k].whole, .int .i64 p[k].zone]] W fun r w' => r = .returned (.int .i64 C) ∧ W.grownBy w' none) ∧
     wr.cell? ⟨g, j * 6, none⟩ = some (.string o.beg) ∧ wr.cell? ⟨g, j * 6 + 1, none⟩ = some (.string o.ent) ∧ wr.cell? ⟨g, j * 6 + 2, none⟩ = some (.int .i64 o.a) ∧ wr.cell? ⟨g, j * 6 + 3, none⟩ = some (.int .i64 o.z) ∧ wr.cell? ⟨g, j * 6 + 4, none⟩ = some (.bool o.whole) ∧ wr.cell? ⟨g, j * 6 + 5, none⟩ = some (.int .i64 o.zone)) := fun j hj => by
     subst hj
     refine ⟨p[j], ju3 p[j] p[j + 1], ?_, ?_, fun W => ?_, (HP.out.grown hg).at_ j (by omega)⟩
     ·rw [yq p j (by omega)]
      show decide _ = decide _
      rw [decide_eq_decide]
      exact (jnp _ _).symm
     ·rw [yq p j (by omega)]
      rfl
     exact jnq p[j].beg p[j].ent p[j + 1].beg p[j + 1].ent p[j].a p[j].z p[j + 1].a p[j + 1].z p[j].zone p[j + 1].zone p[j].whole p[j + 1].whole W
    have HP0 : Hid (k = 0 → jvx (qy p k) p[k] = false ∧ jvi (qy p k) p[k] = false) := fun h => by
     rw [show qy p k = none by rw [h]; rfl]
     exact ⟨rfl, rfl⟩
    generalize jvx (qy p k) p[k] = OX at *
    generalize jvi (qy p k) p[k] = CX at *
    generalize p[k].beg = B at *
    generalize p[k].ent = N at *
    generalize p[k].a = xa at *
    generalize p[k].z = xz at *
    generalize p[k].whole = H at *
    generalize p[k].zone = Z at *
    obtain ⟨PB, hPB⟩ : ∃ x, (jo B).isSome = x := ⟨_, rfl⟩
    obtain ⟨BB, hBB⟩ : ∃ x, jr B.data.toList = x := ⟨_, rfl⟩
    obtain ⟨FS, hFS⟩ : ∃ x, (xi l N).isSome = x := ⟨_, rfl⟩
    obtain ⟨TB, hTB⟩ : ∃ x, xu xa xz = x := ⟨_, rfl⟩
    obtain ⟨ZB, hZB⟩ : ∃ x, qu Z 0 90 = x := ⟨_, rfl⟩
    have hIS := fun W => yh B W s1 s2
    have hBE := fun W => jw B W s1 s2
    have hEA := fun W (h : w.grownBy W none) => jh7 base u l N W (HL.out.grown h) (by omega)
    have hTI := fun W => jaw xa xz W
    have hIZ := fun W => xx Z 0 90 W
    have hTE : jaj xa xz = if TB then 0 else 1 := by unfold jaj; rw [hTB]
    rw [hPB] at hst hIS
    rw [hBB] at hst hBE
    rw [hFS] at hst hEA
    rw [hTB] at hst
    rw [hTE] at hTI
    rw [hZB] at hst hIZ
    obtain ⟨e, he⟩ : ∃ e, (xi l N).getD jwk = e := ⟨_, rfl⟩
    rw [he, show jn2 e = .agg #[.string e.key, .int .i64 e.cont, .int .i64 e.zone, .int .i64 e.a, .int .i64 e.z] from rfl] at hEA
    clear he
    generalize e.key = EK at *
    generalize e.cont = EC at *
    generalize e.zone = EZ at *
    generalize e.a = ea at *
    generalize e.z = ez at *
    obtain ⟨FB, hFB⟩ : ∃ x, (if H = true then !PB else !BB) = x := ⟨_, rfl⟩
    rw [hFB] at hst
    obtain ⟨E, hE⟩ : ∃ x : Int, (if FB = true then 3 else if FS = false then 8 else if TB = false then 1 else if ZB = true then 1 else if OX = true then 7 else if CX = true then 13 else 0) = x := ⟨_, rfl⟩
    rw [hE] at hst
    have HE := Lib.hid hE
    have HFB := Lib.hid hFB
    have HST := Lib.hid hst
    have HIS := Lib.hid hIS
    have HBE := Lib.hid hBE
    have HEA := Lib.hid hEA
    have HTI := Lib.hid hTI
    have HIZ := Lib.hid hIZ
    have hB := Blk.new wr 134 #[.string B, .string N, .int .i64 xa, .int .i64 xz, .bool H, .int .i64 Z]
    have hgA := World.grownBy_alloc wr (.cells #[.string B, .string N, .int .i64 xa, .int .i64 xz, .bool H, .int .i64 Z] 134) none
    have hglr : g < wr.heap.size := by have := hg.size; omega
    clear hE hFB hst hIS hBE hEA hTI hIZ hTE hPB hBB hFS hTB hZB HN
    go_upto_region 9 with fail
    generalize wr.alloc (.cells #[.string B, .string N, .int .i64 xa, .int .i64 xz, .bool H, .int .i64 Z] 134) = wA at *
    generalize wr.heap.size = gE at *
    clear q0 q1 q2 q3 q4 q5
    have k1 := hB.cell 1
    simp only [geA, geZ, geS] at k1
    go_wp2_with fail
    refine (HEA.out _ (ja hg hgA)).mono ?_
    rintro _ w2 ⟨rfl, hg2⟩
    have hB2 := (hB.grown hg2 (by simp)).alloc (.cells #[.string EK, .int .i64 EC, .int .i64 EZ, .int .i64 ea, .int .i64 ez] 139)
    have hgB := ja hgA (jd hg2 (.cells #[.string EK, .int .i64 EC, .int .i64 EZ, .int .i64 ea, .int .i64 ez] 139))
    clear k1
    go_upto_region 10 with fail
    generalize w2.alloc (.cells #[.string EK, .int .i64 EC, .int .i64 EZ, .int .i64 ea, .int .i64 ez] 139) = w3 at *
    have k0 := hB2.cell 0
    have k4 := hB2.cell 4
    simp only [geA, geZ, geS] at k0 k4
    go_cut [32] (fun s wq => s = .bool FB ∧ w3.grownBy wq none)
    case first =>
     as_aux_lemma =>
      cases H
      ·go_wp2_with fail
       refine (HBE.out _).mono ?_
       rintro _ w4 ⟨rfl, hg4⟩
       go_wp2_with fail
       go_meet
       exact ⟨by rw [← HFB.out]; cases BB <;> rfl, hg4⟩
      go_wp2_with fail
      refine (HIS.out _).mono ?_
      rintro _ w4 ⟨rfl, hg4⟩
      have k4' := (hB2.grown hg4 (by simp)).cell 4
      simp only [geA, geZ, geS] at k4'
      cases PB
      ·go_wp2_with fail
       go_meet
       exact ⟨by rw [← HFB.out]; rfl, hg4⟩
      go_wp2_with fail
      go_meet
      exact ⟨by rw [← HFB.out]; rfl, hg4⟩
    case rest =>
     as_aux_lemma =>
      obtain ⟨rfl, hg4⟩ := hcut
      rename World => w4
      have hB4 := hB2.grown hg4 (by simp)
      have hgC := ja hgB hg4
      clear k0 k4 hB hB2 hgB hg4 hgA HFB
      cases FB
      case true =>
       have hE : E = 3 := by rw [← HE.out]; rfl
       have HR : Hid (jah l p = 3) := by show _ = _; rw [HST.out, if_neg (by omega), hE]
       clear hE
       go_wp2_with fail
       go_ret
       exact ⟨ji HR.out.symm, ja hg hgC⟩
      cases FS
      ·have hE : E = 8 := by rw [← HE.out]; rfl
       have HR : Hid (jah l p = 8) := by show _ = _; rw [HST.out, if_neg (by omega), hE]
       clear hE
       go_wp2_with fail
       go_ret
       exact ⟨ji HR.out.symm, ja hg hgC⟩
      have k2 := hB4.cell 2
      have k3 := hB4.cell 3
      have k5 := hB4.cell 5
      simp only [geA, geZ, geS] at k2 k3 k5
      go_upto_region 14 with fail
      go_cut [55] (fun s wq => s = .bool (!TB || ZB) ∧ w4.grownBy wq none)
      case first =>
       as_aux_lemma =>
        go_wp2_with fail
        refine (HTI.out _).mono ?_
        rintro _ w5 ⟨rfl, hg5⟩
        have k5' := (hB4.grown hg5 (by simp)).cell 5
        simp only [geA, geZ, geS] at k5'
        cases TB
        ·simp only [Bool.false_eq_true, if_false]
         go_wp2_with fail
         go_meet
         exact ⟨rfl, hg5⟩
        simp only [if_true]
        go_wp2_with fail
        refine (HIZ.out _).mono ?_
        rintro _ _ ⟨rfl, rfl⟩
        go_wp2_with fail
        go_meet
        exact ⟨by cases ZB <;> rfl, hg5⟩
      case rest =>
       as_aux_lemma =>
        obtain ⟨rfl, hg5⟩ := hcut
        rename World => w5
        have hB5 := hB4.grown hg5 (by simp)
        have hgD := ja hgC hg5
        clear k2 k3 k5 hB4 hgC hg5
        obtain ⟨AZ, hAZ⟩ : ∃ x, (!TB || ZB) = x := ⟨_, rfl⟩
        have hE2 : E = if AZ = true then 1 else if OX = true then 7 else if CX = true then 13 else 0 := by
         rw [← HE.out, ← hAZ]
         cases TB <;> cases ZB <;> rfl
        have HE2 := Lib.hid hE2
        rw [hAZ]
        clear hAZ hE2
        cases AZ
        case true =>
         have hE : E = 1 := by rw [HE2.out]; rfl
         have HR : Hid (jah l p = 1) := by show _ = _; rw [HST.out, if_neg (by omega), hE]
         clear hE
         go_wp2_with fail
         go_ret
         exact ⟨ji HR.out.symm, ja hg hgD⟩
        go_upto_region 16 with fail
        go_cut [66] (fun s wq => s = .bool OX ∧ w5.grownBy wq none)
        case first =>
         as_aux_lemma =>
          rcases Nat.eq_zero_or_pos k with hk0 | hk0
          ·have ho := (HP0.out hk0).1
           subst ho
           have hkn : decide ((0 : Int) < (k : Int)) = false := by simp; omega
           have hknN : decide (0 < k) = false := by simp; omega
           clear hk0
           go_wp2_with fail
           refine wp_region_held_drew (S := fun _ => True) (by kernel_rfl) trivial (fun hHeld => ?_)
           refine tkH 0 67 hHeld ?_
           simp only [Act.put, ssA, ssZ, ssS]
           refine tkH 1 68 hHeld ?_
           simp only [Act.put, ssA, ssZ, ssS]
           refine tkH 2 69 hHeld ?_
           simp only [Act.put, ssA, ssZ, ssS]
           refine tkU 3 70 hHeld ?_
           simp only [Act.put, ssA, ssZ, ssS]
           refine tkU 4 71 hHeld ?_
           simp only [Act.put, ssA, ssZ, ssS]
           refine tkU 5 72 hHeld ?_
           simp only [Act.put, ssA, ssZ, ssS]
           refine tkU 6 73 hHeld ?_
           simp only [Act.put, ssA, ssZ, ssS]
           refine tkU 7 74 hHeld ?_
           simp only [Act.put, ssA, ssZ, ssS]
           refine tkU 8 75 hHeld ?_
           simp only [Act.put, ssA, ssZ, ssS]
           refine tkU 9 76 hHeld ?_
           simp only [Act.put, ssA, ssZ, ssS]
           refine tkU 10 77 hHeld ?_
           simp only [Act.put, ssA, ssZ, ssS]
           refine tkH 11 78 hHeld ?_
           simp only [Act.put, ssA, ssZ, ssS]
           refine tkH 12 66 hHeld ?_
           simp only [Act.put, ssA, ssZ, ssS]
           refine wpAnyH_done (by kernel_rfl) ?_ _
           go_wp2_with fail
           go_meet
           exact ⟨rfl, jn (jf _ _)⟩
          obtain ⟨j, hj⟩ : ∃ j, k = j + 1 := ⟨k - 1, by omega⟩
          obtain ⟨o, C, hoX, hcX, hCP, c0, c1, c2, c3, c4, c5⟩ := HPV.out j hj
          obtain ⟨OB, hOB⟩ : ∃ x, o.beg = x := ⟨_, rfl⟩
          obtain ⟨ON, hON⟩ : ∃ x, o.ent = x := ⟨_, rfl⟩
          obtain ⟨oa, hoa⟩ : ∃ x, o.a = x := ⟨_, rfl⟩
          obtain ⟨oz, hoz⟩ : ∃ x, o.z = x := ⟨_, rfl⟩
          obtain ⟨OH, hOH⟩ : ∃ x, o.whole = x := ⟨_, rfl⟩
          obtain ⟨OZ, hOZ⟩ : ∃ x, o.zone = x := ⟨_, rfl⟩
          rw [hOB, hOH, hoz] at hcX
          rw [hOB, hON, hoa, hoz, hOH, hOZ] at hCP
          rw [hOB] at c0
          rw [hON] at c1
          rw [hoa] at c2
          rw [hoz] at c3
          rw [hOH] at c4
          rw [hOZ] at c5
          have d0 := hgD.cell c0 (by simp)
          have d1 := hgD.cell c1 (by simp)
          have d2 := hgD.cell c2 (by simp)
          have d3 := hgD.cell c3 (by simp)
          have d4 := hgD.cell c4 (by simp)
          have d5 := hgD.cell c5 (by simp)
          have HCP := Lib.hid hCP
          have e2 : IntKind.i64.wrap ((k : Int) - 1) = (j : Int) := by rw [show (k : Int) - 1 = (j : Int) by omega, IntKind.wrap_i64]; omega
          have e3 : IntKind.i64.wrap (j : Int) = (j : Int) := by rw [IntKind.wrap_i64]; omega
          have hj0 : (0 : Int) ≤ (j : Int) := by omega
          have hj1 : (j : Int) < (p.length : Int) := by omega
          have hj2 : j < p.length := by omega
          have hkn : decide ((0 : Int) < (k : Int)) = true := by simp; omega
          have hknN : decide (0 < k) = true := by simp; omega
          have hkn2 : (0 : Int) < (k : Int) := by omega
          have HJ := Lib.hid hj
          have HOX := Lib.hid hoX
          have HCX := Lib.hid hcX
          clear hj hoX hcX hCP hOB hON hoa hoz hOH hOZ c0 c1 c2 c3 c4 c5 hk0 HPV HP0
          have KX : Hid (∀ V : World, w5.grownBy V none → (V.cell? ⟨g, j * 6, none⟩ = some (.string OB) ∧ V.cell? ⟨g, j * 6 + 1, none⟩ = some (.string ON) ∧ V.cell? ⟨g, j * 6 + 2, none⟩ = some (.int .i64 oa) ∧ V.cell? ⟨g, j * 6 + 3, none⟩ = some (.int .i64 oz) ∧ V.cell? ⟨g, j * 6 + 4, none⟩ = some (.bool OH) ∧ V.cell? ⟨g, j * 6 + 5, none⟩ = some (.int .i64 OZ) ∧ V.cell? ⟨gE, 0, none⟩ = some (.string B) ∧ V.cell? ⟨gE, 1, none⟩ = some (.string N) ∧ V.cell? ⟨gE, 2, none⟩ = some (.int .i64 xa) ∧ V.cell? ⟨gE, 3, none⟩ = some (.int .i64 xz) ∧ V.cell? ⟨gE, 4, none⟩ = some (.bool H) ∧ V.cell? ⟨gE, 5, none⟩ = some (.int .i64 Z))) := fun V hV =>
           ⟨hV.cell d0 (by simp), hV.cell d1 (by simp), hV.cell d2 (by simp), hV.cell d3 (by simp), hV.cell d4 (by simp), hV.cell d5 (by simp), (hB5.grown hV (by simp)).cell 0, (hB5.grown hV (by simp)).cell 1, (hB5.grown hV (by simp)).cell 2, (hB5.grown hV (by simp)).cell 3, (hB5.grown hV (by simp)).cell 4, (hB5.grown hV (by simp)).cell 5⟩
          go_wp2_with fail
          refine wp_region_held_drew (S := fun V => V.cell? ⟨g, j * 6, none⟩ = some (.string OB) ∧ V.cell? ⟨g, j * 6 + 1, none⟩ = some (.string ON) ∧ V.cell? ⟨g, j * 6 + 2, none⟩ = some (.int .i64 oa) ∧ V.cell? ⟨g, j * 6 + 3, none⟩ = some (.int .i64 oz) ∧ V.cell? ⟨g, j * 6 + 4, none⟩ = some (.bool OH) ∧ V.cell? ⟨g, j * 6 + 5, none⟩ = some (.int .i64 OZ) ∧ V.cell? ⟨gE, 0, none⟩ = some (.string B) ∧ V.cell? ⟨gE, 1, none⟩ = some (.string N) ∧ V.cell? ⟨gE, 2, none⟩ = some (.int .i64 xa) ∧ V.cell? ⟨gE, 3, none⟩ = some (.int .i64 xz) ∧ V.cell? ⟨gE, 4, none⟩ = some (.bool H) ∧ V.cell? ⟨gE, 5, none⟩ = some (.int .i64 Z)) (by kernel_rfl) (KX.out _ (jn (jf _ _))) (fun hHeld => ?_)
          refine tkH 0 67 hHeld ?_
          simp only [Act.put, ssA, ssZ, ssS]
          refine tkH 1 68 hHeld ?_
          simp only [Act.put, ssA, ssZ, ssS]
          refine tkH 2 69 hHeld ?_
          simp only [Act.put, ssA, ssZ, ssS]
          refine tkH 3 70 hHeld ?_
          simp only [Act.put, ssA, ssZ, ssS]
          refine tkH 4 71 hHeld ?_
          simp only [Act.put, ssA, ssZ, ssS]
          refine tkH 5 72 hHeld ?_
          simp only [Act.put, ssA, ssZ, ssS]
          refine tkH 6 73 hHeld ?_
          simp only [Act.put, ssA, ssZ, ssS]
          refine tkH 7 74 hHeld ?_
          simp only [Act.put, ssA, ssZ, ssS]
          refine tkH 8 75 hHeld ?_
          simp only [Act.put, ssA, ssZ, ssS]
          refine wpAnyH_ready (rs := [9]) (by kernel_rfl) (by simp) ?_
          refine AllReadyH.cons (o := _) rfl (fun K hK => ?_) AllReadyH.nil
          go_simp
          (go_at_call 81; refine (HCP.out _).mono ?_; rintro _ wC ⟨rfl, hgC⟩; have hgC2 := ja (jn (jf w5 none)) hgC)
          refine hK.out _ _ (KX.out _ hgC2) (fun hHeld9 => ?_)
          clear hK K
          (try simp only [Act.put, ssA, ssZ, ssS])
          refine tkH 10 77 hHeld9 ?_
          simp only [Act.put, ssA, ssZ, ssS]
          refine tkH 11 78 hHeld9 ?_
          simp only [Act.put, ssA, ssZ, ssS]
          refine tkH 12 66 hHeld9 ?_
          simp only [Act.put, ssA, ssZ, ssS]
          refine wpAnyH_done (by kernel_rfl) ?_ _
          go_wp2_with fail
          go_meet
          exact ⟨by rw [HOX.out], hgC2⟩
        case rest =>
         as_aux_lemma =>
          obtain ⟨rfl, hg6⟩ := hcut
          rename World => w6
          have hB6 := hB5.grown hg6 (by simp)
          have hgF := ja hgD hg6
          cases OX
          case true =>
           have hE : E = 7 := by rw [HE2.out]; rfl
           have HR : Hid (jah l p = 7) := by show _ = _; rw [HST.out, if_neg (by omega), hE]
           clear hE
           go_wp2_with fail
           go_ret
           exact ⟨ji HR.out.symm, ja hg hgF⟩
          go_upto_region 18 with fail
          go_cut [79] (fun s wq => s = .bool CX ∧ w6.grownBy wq none)
          case first =>
           as_aux_lemma =>
            rcases Nat.eq_zero_or_pos k with hk0 | hk0
            ·have ho := (HP0.out hk0).2
             subst ho
             have hkn : decide ((0 : Int) < (k : Int)) = false := by simp; omega
             have hknN : decide (0 < k) = false := by simp; omega
             clear hk0
             go_wp2_with fail
             refine wp_region_held_drew (S := fun _ => True) (by kernel_rfl) trivial (fun hHeld => ?_)
             refine tkH 0 80 hHeld ?_
             simp only [Act.put, ssA, ssZ, ssS]
             refine tkH 1 81 hHeld ?_
             simp only [Act.put, ssA, ssZ, ssS]
             refine tkH 2 82 hHeld ?_
             simp only [Act.put, ssA, ssZ, ssS]
             refine tkU 3 83 hHeld ?_
             simp only [Act.put, ssA, ssZ, ssS]
             refine tkU 4 84 hHeld ?_
             simp only [Act.put, ssA, ssZ, ssS]
             refine tkU 5 85 hHeld ?_
             simp only [Act.put, ssA, ssZ, ssS]
             refine tkU 6 86 hHeld ?_
             simp only [Act.put, ssA, ssZ, ssS]
             refine tkU 7 87 hHeld ?_
             simp only [Act.put, ssA, ssZ, ssS]
             refine tkU 8 88 hHeld ?_
             simp only [Act.put, ssA, ssZ, ssS]
             refine tkU 9 89 hHeld ?_
             simp only [Act.put, ssA, ssZ, ssS]
             refine tkU 10 90 hHeld ?_
             simp only [Act.put, ssA, ssZ, ssS]
             refine tkU 11 91 hHeld ?_
             simp only [Act.put, ssA, ssZ, ssS]
             refine tkH 12 92 hHeld ?_
             simp only [Act.put, ssA, ssZ, ssS]
             refine tkH 13 93 hHeld ?_
             simp only [Act.put, ssA, ssZ, ssS]
             refine tkU 14 94 hHeld ?_
             simp only [Act.put, ssA, ssZ, ssS]
             refine tkU 15 95 hHeld ?_
             simp only [Act.put, ssA, ssZ, ssS]
             refine tkU 16 96 hHeld ?_
             simp only [Act.put, ssA, ssZ, ssS]
             refine tkU 17 97 hHeld ?_
             simp only [Act.put, ssA, ssZ, ssS]
             refine tkU 18 98 hHeld ?_
             simp only [Act.put, ssA, ssZ, ssS]
             refine tkU 19 99 hHeld ?_
             simp only [Act.put, ssA, ssZ, ssS]
             refine tkU 20 100 hHeld ?_
             simp only [Act.put, ssA, ssZ, ssS]
             refine tkU 21 101 hHeld ?_
             simp only [Act.put, ssA, ssZ, ssS]
             refine tkU 22 102 hHeld ?_
             simp only [Act.put, ssA, ssZ, ssS]
             refine tkH 23 103 hHeld ?_
             simp only [Act.put, ssA, ssZ, ssS]
             refine tkH 24 104 hHeld ?_
             simp only [Act.put, ssA, ssZ, ssS]
             refine tkU 25 105 hHeld ?_
             simp only [Act.put, ssA, ssZ, ssS]
             refine tkU 26 106 hHeld ?_
             simp only [Act.put, ssA, ssZ, ssS]
             refine tkU 27 107 hHeld ?_
             simp only [Act.put, ssA, ssZ, ssS]
             refine tkU 28 108 hHeld ?_
             simp only [Act.put, ssA, ssZ, ssS]
             refine tkU 29 109 hHeld ?_
             simp only [Act.put, ssA, ssZ, ssS]
             refine tkU 30 110 hHeld ?_
             simp only [Act.put, ssA, ssZ, ssS]
             refine tkU 31 111 hHeld ?_
             simp only [Act.put, ssA, ssZ, ssS]
             refine tkU 32 112 hHeld ?_
             simp only [Act.put, ssA, ssZ, ssS]
             refine tkU 33 113 hHeld ?_
             simp only [Act.put, ssA, ssZ, ssS]
             refine tkU 34 114 hHeld ?_
             simp only [Act.put, ssA, ssZ, ssS]
             refine tkU 35 115 hHeld ?_
             simp only [Act.put, ssA, ssZ, ssS]
             refine tkH 36 116 hHeld ?_
             simp only [Act.put, ssA, ssZ, ssS]
             refine tkH 37 79 hHeld ?_
             simp only [Act.put, ssA, ssZ, ssS]
             refine wpAnyH_done (by kernel_rfl) ?_ _
             go_wp2_with fail
             go_meet
             exact ⟨rfl, jn (jf _ _)⟩
            obtain ⟨j, hj⟩ : ∃ j, k = j + 1 := ⟨k - 1, by omega⟩
            obtain ⟨o, C, hoX, hcX, hCP, c0, c1, c2, c3, c4, c5⟩ := HPV.out j hj
            obtain ⟨OB, hOB⟩ : ∃ x, o.beg = x := ⟨_, rfl⟩
            obtain ⟨ON, hON⟩ : ∃ x, o.ent = x := ⟨_, rfl⟩
            obtain ⟨oa, hoa⟩ : ∃ x, o.a = x := ⟨_, rfl⟩
            obtain ⟨oz, hoz⟩ : ∃ x, o.z = x := ⟨_, rfl⟩
            obtain ⟨OH, hOH⟩ : ∃ x, o.whole = x := ⟨_, rfl⟩
            obtain ⟨OZ, hOZ⟩ : ∃ x, o.zone = x := ⟨_, rfl⟩
            rw [hOB, hOH, hoz] at hcX
            rw [hOB, hON, hoa, hoz, hOH, hOZ] at hCP
            rw [hOB] at c0
            rw [hON] at c1
            rw [hoa] at c2
            rw [hoz] at c3
            rw [hOH] at c4
            rw [hOZ] at c5
            have d0 := hgF.cell c0 (by simp)
            have d1 := hgF.cell c1 (by simp)
            have d2 := hgF.cell c2 (by simp)
            have d3 := hgF.cell c3 (by simp)
            have d4 := hgF.cell c4 (by simp)
            have d5 := hgF.cell c5 (by simp)
            have HCP := Lib.hid hCP
            have e2 : IntKind.i64.wrap ((k : Int) - 1) = (j : Int) := by rw [show (k : Int) - 1 = (j : Int) by omega, IntKind.wrap_i64]; omega
            have e3 : IntKind.i64.wrap (j : Int) = (j : Int) := by rw [IntKind.wrap_i64]; omega
            have hj0 : (0 : Int) ≤ (j : Int) := by omega
            have hj1 : (j : Int) < (p.length : Int) := by omega
            have hj2 : j < p.length := by omega
            have hkn : decide ((0 : Int) < (k : Int)) = true := by simp; omega
            have hknN : decide (0 < k) = true := by simp; omega
            have hkn2 : (0 : Int) < (k : Int) := by omega
            have HJ := Lib.hid hj
            have HOX := Lib.hid hoX
            have HCX := Lib.hid hcX
            clear hj hoX hcX hCP hOB hON hoa hoz hOH hOZ c0 c1 c2 c3 c4 c5 hk0 HPV HP0
            have z0 := hB6.cell 0
            have z2 := hB6.cell 2
            have z4 := hB6.cell 4
            simp only [geA, geZ, geS] at z0 z2 z4
            by_cases hb : OB = B
            ·have hbb := jhm hb
             by_cases hh : OH = H
             ·have hhb : (OH == H) = true := by simpa using hh
              by_cases ht : xa < oz
              ·have hC : CX = true := by rw [HCX.out]; simp [hb, hh, ht]
               have htd : decide (xa < oz) = true := by simpa using ht
               subst hC
               clear hb hh
               go_wp2_with fail
               refine wp_region_held_drew (S := fun V => V.cell? ⟨g, j * 6, none⟩ = some (.string OB) ∧ V.cell? ⟨g, j * 6 + 3, none⟩ = some (.int .i64 oz) ∧ V.cell? ⟨g, j * 6 + 4, none⟩ = some (.bool OH) ∧ V.cell? ⟨gE, 0, none⟩ = some (.string B) ∧ V.cell? ⟨gE, 2, none⟩ = some (.int .i64 xa) ∧ V.cell? ⟨gE, 4, none⟩ = some (.bool H)) (by kernel_rfl) ⟨d0, d3, d4, z0, z2, z4⟩ (fun hHeld => ?_)
               refine tkH 0 80 hHeld ?_
               simp only [Act.put, ssA, ssZ, ssS]
               refine tkH 1 81 hHeld ?_
               simp only [Act.put, ssA, ssZ, ssS]
               refine tkH 2 82 hHeld ?_
               simp only [Act.put, ssA, ssZ, ssS]
               refine tkH 3 83 hHeld ?_
               simp only [Act.put, ssA, ssZ, ssS]
               refine tkH 4 84 hHeld ?_
               simp only [Act.put, ssA, ssZ, ssS]
               refine tkH 5 85 hHeld ?_
               simp only [Act.put, ssA, ssZ, ssS]
               refine tkH 6 86 hHeld ?_
               simp only [Act.put, ssA, ssZ, ssS]
               refine tkH 7 87 hHeld ?_
               simp only [Act.put, ssA, ssZ, ssS]
               refine tkH 8 88 hHeld ?_
               simp only [Act.put, ssA, ssZ, ssS]
               refine tkH 9 89 hHeld ?_
               simp only [Act.put, ssA, ssZ, ssS]
               refine tkH 10 90 hHeld ?_
               simp only [Act.put, ssA, ssZ, ssS]
               refine tkH 11 91 hHeld ?_
               simp only [Act.put, ssA, ssZ, ssS]
               refine tkH 12 92 hHeld ?_
               simp only [Act.put, ssA, ssZ, ssS]
               refine tkH 13 93 hHeld ?_
               simp only [Act.put, ssA, ssZ, ssS]
               refine tkH 14 94 hHeld ?_
               simp only [Act.put, ssA, ssZ, ssS]
               refine tkH 15 95 hHeld ?_
               simp only [Act.put, ssA, ssZ, ssS]
               refine tkH 16 96 hHeld ?_
               simp only [Act.put, ssA, ssZ, ssS]
               refine tkH 17 97 hHeld ?_
               simp only [Act.put, ssA, ssZ, ssS]
               refine tkH 18 98 hHeld ?_
               simp only [Act.put, ssA, ssZ, ssS]
               refine tkH 19 99 hHeld ?_
               simp only [Act.put, ssA, ssZ, ssS]
               refine tkH 20 100 hHeld ?_
               simp only [Act.put, ssA, ssZ, ssS]
               refine tkH 21 101 hHeld ?_
               simp only [Act.put, ssA, ssZ, ssS]
               refine tkH 22 102 hHeld ?_
               simp only [Act.put, ssA, ssZ, ssS]
               refine tkH 23 103 hHeld ?_
               simp only [Act.put, ssA, ssZ, ssS]
               refine tkH 24 104 hHeld ?_
               simp only [Act.put, ssA, ssZ, ssS]
               refine tkH 25 105 hHeld ?_
               simp only [Act.put, ssA, ssZ, ssS]
               refine tkH 26 106 hHeld ?_
               simp only [Act.put, ssA, ssZ, ssS]
               refine tkH 27 107 hHeld ?_
               simp only [Act.put, ssA, ssZ, ssS]
               refine tkH 28 108 hHeld ?_
               simp only [Act.put, ssA, ssZ, ssS]
               refine tkH 29 109 hHeld ?_
               simp only [Act.put, ssA, ssZ, ssS]
               refine tkH 30 110 hHeld ?_
               simp only [Act.put, ssA, ssZ, ssS]
               refine tkH 31 111 hHeld ?_
               simp only [Act.put, ssA, ssZ, ssS]
               refine tkH 32 112 hHeld ?_
               simp only [Act.put, ssA, ssZ, ssS]
               refine tkH 33 113 hHeld ?_
               simp only [Act.put, ssA, ssZ, ssS]
               refine tkH 34 114 hHeld ?_
               simp only [Act.put, ssA, ssZ, ssS]
               refine tkH 35 115 hHeld ?_
               simp only [Act.put, ssA, ssZ, ssS]
               refine tkH 36 116 hHeld ?_
               simp only [Act.put, ssA, ssZ, ssS]
               refine tkH 37 79 hHeld ?_
               simp only [Act.put, ssA, ssZ, ssS]
               refine wpAnyH_done (by kernel_rfl) ?_ _
               go_wp2_with fail
               go_meet
               exact ⟨rfl, jn (jf _ _)⟩
              have hC : CX = false := by rw [HCX.out]; simp [hb, hh, ht]
              have htd : decide (xa < oz) = false := by simpa using ht
              subst hC
              clear hb hh
              go_wp2_with fail
              refine wp_region_held_drew (S := fun V => V.cell? ⟨g, j * 6, none⟩ = some (.string OB) ∧ V.cell? ⟨g, j * 6 + 3, none⟩ = some (.int .i64 oz) ∧ V.cell? ⟨g, j * 6 + 4, none⟩ = some (.bool OH) ∧ V.cell? ⟨gE, 0, none⟩ = some (.string B) ∧ V.cell? ⟨gE, 2, none⟩ = some (.int .i64 xa) ∧ V.cell? ⟨gE, 4, none⟩ = some (.bool H)) (by kernel_rfl) ⟨d0, d3, d4, z0, z2, z4⟩ (fun hHeld => ?_)
              refine tkH 0 80 hHeld ?_
              simp only [Act.put, ssA, ssZ, ssS]
              refine tkH 1 81 hHeld ?_
              simp only [Act.put, ssA, ssZ, ssS]
              refine tkH 2 82 hHeld ?_
              simp only [Act.put, ssA, ssZ, ssS]
              refine tkH 3 83 hHeld ?_
              simp only [Act.put, ssA, ssZ, ssS]
              refine tkH 4 84 hHeld ?_
              simp only [Act.put, ssA, ssZ, ssS]
              refine tkH 5 85 hHeld ?_
              simp only [Act.put, ssA, ssZ, ssS]
              refine tkH 6 86 hHeld ?_
              simp only [Act.put, ssA, ssZ, ssS]
              refine tkH 7 87 hHeld ?_
              simp only [Act.put, ssA, ssZ, ssS]
              refine tkH 8 88 hHeld ?_
              simp only [Act.put, ssA, ssZ, ssS]
              refine tkH 9 89 hHeld ?_
              simp only [Act.put, ssA, ssZ, ssS]
              refine tkH 10 90 hHeld ?_
              simp only [Act.put, ssA, ssZ, ssS]
              refine tkH 11 91 hHeld ?_
              simp only [Act.put, ssA, ssZ, ssS]
              refine tkH 12 92 hHeld ?_
              simp only [Act.put, ssA, ssZ, ssS]
              refine tkH 13 93 hHeld ?_
              simp only [Act.put, ssA, ssZ, ssS]
              refine tkH 14 94 hHeld ?_
              simp only [Act.put, ssA, ssZ, ssS]
              refine tkH 15 95 hHeld ?_
              simp only [Act.put, ssA, ssZ, ssS]
              refine tkH 16 96 hHeld ?_
              simp only [Act.put, ssA, ssZ, ssS]
              refine tkH 17 97 hHeld ?_
              simp only [Act.put, ssA, ssZ, ssS]
              refine tkH 18 98 hHeld ?_
              simp only [Act.put, ssA, ssZ, ssS]
              refine tkH 19 99 hHeld ?_
              simp only [Act.put, ssA, ssZ, ssS]
              refine tkH 20 100 hHeld ?_
              simp only [Act.put, ssA, ssZ, ssS]
              refine tkH 21 101 hHeld ?_
              simp only [Act.put, ssA, ssZ, ssS]
              refine tkH 22 102 hHeld ?_
              simp only [Act.put, ssA, ssZ, ssS]
              refine tkH 23 103 hHeld ?_
              simp only [Act.put, ssA, ssZ, ssS]
              refine tkH 24 104 hHeld ?_
              simp only [Act.put, ssA, ssZ, ssS]
              refine tkH 25 105 hHeld ?_
              simp only [Act.put, ssA, ssZ, ssS]
              refine tkH 26 106 hHeld ?_
              simp only [Act.put, ssA, ssZ, ssS]
              refine tkH 27 107 hHeld ?_
              simp only [Act.put, ssA, ssZ, ssS]
              refine tkH 28 108 hHeld ?_
              simp only [Act.put, ssA, ssZ, ssS]
              refine tkH 29 109 hHeld ?_
              simp only [Act.put, ssA, ssZ, ssS]
              refine tkH 30 110 hHeld ?_
              simp only [Act.put, ssA, ssZ, ssS]
              refine tkH 31 111 hHeld ?_
              simp only [Act.put, ssA, ssZ, ssS]
              refine tkH 32 112 hHeld ?_
              simp only [Act.put, ssA, ssZ, ssS]
              refine tkH 33 113 hHeld ?_
              simp only [Act.put, ssA, ssZ, ssS]
              refine tkH 34 114 hHeld ?_
              simp only [Act.put, ssA, ssZ, ssS]
              refine tkH 35 115 hHeld ?_
              simp only [Act.put, ssA, ssZ, ssS]
              refine tkH 36 116 hHeld ?_
              simp only [Act.put, ssA, ssZ, ssS]
              refine tkH 37 79 hHeld ?_
              simp only [Act.put, ssA, ssZ, ssS]
              refine wpAnyH_done (by kernel_rfl) ?_ _
              go_wp2_with fail
              go_meet
              exact ⟨rfl, jn (jf _ _)⟩
             have hhb : (OH == H) = false := by simpa using hh
             have hC : CX = false := by rw [HCX.out]; simp [hb, hh]
             subst hC
             clear hb hh
             go_wp2_with fail
             refine wp_region_held_drew (S := fun V => V.cell? ⟨g, j * 6, none⟩ = some (.string OB) ∧ V.cell? ⟨g, j * 6 + 3, none⟩ = some (.int .i64 oz) ∧ V.cell? ⟨g, j * 6 + 4, none⟩ = some (.bool OH) ∧ V.cell? ⟨gE, 0, none⟩ = some (.string B) ∧ V.cell? ⟨gE, 2, none⟩ = some (.int .i64 xa) ∧ V.cell? ⟨gE, 4, none⟩ = some (.bool H)) (by kernel_rfl) ⟨d0, d3, d4, z0, z2, z4⟩ (fun hHeld => ?_)
             refine tkH 0 80 hHeld ?_
             simp only [Act.put, ssA, ssZ, ssS]
             refine tkH 1 81 hHeld ?_
             simp only [Act.put, ssA, ssZ, ssS]
             refine tkH 2 82 hHeld ?_
             simp only [Act.put, ssA, ssZ, ssS]
             refine tkH 3 83 hHeld ?_
             simp only [Act.put, ssA, ssZ, ssS]
             refine tkH 4 84 hHeld ?_
             simp only [Act.put, ssA, ssZ, ssS]
             refine tkH 5 85 hHeld ?_
             simp only [Act.put, ssA, ssZ, ssS]
             refine tkH 6 86 hHeld ?_
             simp only [Act.put, ssA, ssZ, ssS]
             refine tkH 7 87 hHeld ?_
             simp only [Act.put, ssA, ssZ, ssS]
             refine tkH 8 88 hHeld ?_
             simp only [Act.put, ssA, ssZ, ssS]
             refine tkH 9 89 hHeld ?_
             simp only [Act.put, ssA, ssZ, ssS]
             refine tkH 10 90 hHeld ?_
             simp only [Act.put, ssA, ssZ, ssS]
             refine tkH 11 91 hHeld ?_
             simp only [Act.put, ssA, ssZ, ssS]
             refine tkH 12 92 hHeld ?_
             simp only [Act.put, ssA, ssZ, ssS]
             refine tkH 13 93 hHeld ?_
             simp only [Act.put, ssA, ssZ, ssS]
             refine tkH 14 94 hHeld ?_
             simp only [Act.put, ssA, ssZ, ssS]
             refine tkH 15 95 hHeld ?_
             simp only [Act.put, ssA, ssZ, ssS]
             refine tkH 16 96 hHeld ?_
             simp only [Act.put, ssA, ssZ, ssS]
             refine tkH 17 97 hHeld ?_
             simp only [Act.put, ssA, ssZ, ssS]
             refine tkH 18 98 hHeld ?_
             simp only [Act.put, ssA, ssZ, ssS]
             refine tkH 19 99 hHeld ?_
             simp only [Act.put, ssA, ssZ, ssS]
             refine tkH 20 100 hHeld ?_
             simp only [Act.put, ssA, ssZ, ssS]
             refine tkH 21 101 hHeld ?_
             simp only [Act.put, ssA, ssZ, ssS]
             refine tkH 22 102 hHeld ?_
             simp only [Act.put, ssA, ssZ, ssS]
             refine tkH 23 103 hHeld ?_
             simp only [Act.put, ssA, ssZ, ssS]
             refine tkH 24 104 hHeld ?_
             simp only [Act.put, ssA, ssZ, ssS]
             refine tkU 25 105 hHeld ?_
             simp only [Act.put, ssA, ssZ, ssS]
             refine tkU 26 106 hHeld ?_
             simp only [Act.put, ssA, ssZ, ssS]
             refine tkU 27 107 hHeld ?_
             simp only [Act.put, ssA, ssZ, ssS]
             refine tkU 28 108 hHeld ?_
             simp only [Act.put, ssA, ssZ, ssS]
             refine tkU 29 109 hHeld ?_
             simp only [Act.put, ssA, ssZ, ssS]
             refine tkU 30 110 hHeld ?_
             simp only [Act.put, ssA, ssZ, ssS]
             refine tkU 31 111 hHeld ?_
             simp only [Act.put, ssA, ssZ, ssS]
             refine tkU 32 112 hHeld ?_
             simp only [Act.put, ssA, ssZ, ssS]
             refine tkU 33 113 hHeld ?_
             simp only [Act.put, ssA, ssZ, ssS]
             refine tkU 34 114 hHeld ?_
             simp only [Act.put, ssA, ssZ, ssS]
             refine tkU 35 115 hHeld ?_
             simp only [Act.put, ssA, ssZ, ssS]
             refine tkH 36 116 hHeld ?_
             simp only [Act.put, ssA, ssZ, ssS]
             refine tkH 37 79 hHeld ?_
             simp only [Act.put, ssA, ssZ, ssS]
             refine wpAnyH_done (by kernel_rfl) ?_ _
             go_wp2_with fail
             go_meet
             exact ⟨rfl, jn (jf _ _)⟩
            have hbb := jln hb
            have hC : CX = false := by rw [HCX.out]; simp [hb]
            subst hC
            clear hb
            go_wp2_with fail
            refine wp_region_held_drew (S := fun V => V.cell? ⟨g, j * 6, none⟩ = some (.string OB) ∧ V.cell? ⟨g, j * 6 + 3, none⟩ = some (.int .i64 oz) ∧ V.cell? ⟨g, j * 6 + 4, none⟩ = some (.bool OH) ∧ V.cell? ⟨gE, 0, none⟩ = some (.string B) ∧ V.cell? ⟨gE, 2, none⟩ = some (.int .i64 xa) ∧ V.cell? ⟨gE, 4, none⟩ = some (.bool H)) (by kernel_rfl) ⟨d0, d3, d4, z0, z2, z4⟩ (fun hHeld => ?_)
            refine tkH 0 80 hHeld ?_
            simp only [Act.put, ssA, ssZ, ssS]
            refine tkH 1 81 hHeld ?_
            simp only [Act.put, ssA, ssZ, ssS]
            refine tkH 2 82 hHeld ?_
            simp only [Act.put, ssA, ssZ, ssS]
            refine tkH 3 83 hHeld ?_
            simp only [Act.put, ssA, ssZ, ssS]
            refine tkH 4 84 hHeld ?_
            simp only [Act.put, ssA, ssZ, ssS]
            refine tkH 5 85 hHeld ?_
            simp only [Act.put, ssA, ssZ, ssS]
            refine tkH 6 86 hHeld ?_
            simp only [Act.put, ssA, ssZ, ssS]
            refine tkH 7 87 hHeld ?_
            simp only [Act.put, ssA, ssZ, ssS]
            refine tkH 8 88 hHeld ?_
            simp only [Act.put, ssA, ssZ, ssS]
            refine tkH 9 89 hHeld ?_
            simp only [Act.put, ssA, ssZ, ssS]
            refine tkH 10 90 hHeld ?_
            simp only [Act.put, ssA, ssZ, ssS]
            refine tkH 11 91 hHeld ?_
            simp only [Act.put, ssA, ssZ, ssS]
            refine tkH 12 92 hHeld ?_
            simp only [Act.put, ssA, ssZ, ssS]
            refine tkH 13 93 hHeld ?_
            simp only [Act.put, ssA, ssZ, ssS]
            refine tkU 14 94 hHeld ?_
            simp only [Act.put, ssA, ssZ, ssS]
            refine tkU 15 95 hHeld ?_
            simp only [Act.put, ssA, ssZ, ssS]
            refine tkU 16 96 hHeld ?_
            simp only [Act.put, ssA, ssZ, ssS]
            refine tkU 17 97 hHeld ?_
            simp only [Act.put, ssA, ssZ, ssS]
            refine tkU 18 98 hHeld ?_
            simp only [Act.put, ssA, ssZ, ssS]
            refine tkU 19 99 hHeld ?_
            simp only [Act.put, ssA, ssZ, ssS]
            refine tkU 20 100 hHeld ?_
            simp only [Act.put, ssA, ssZ, ssS]
            refine tkU 21 101 hHeld ?_
            simp only [Act.put, ssA, ssZ, ssS]
            refine tkU 22 102 hHeld ?_
            simp only [Act.put, ssA, ssZ, ssS]
            refine tkH 23 103 hHeld ?_
            simp only [Act.put, ssA, ssZ, ssS]
            refine tkH 24 104 hHeld ?_
            simp only [Act.put, ssA, ssZ, ssS]
            refine tkU 25 105 hHeld ?_
            simp only [Act.put, ssA, ssZ, ssS]
            refine tkU 26 106 hHeld ?_
            simp only [Act.put, ssA, ssZ, ssS]
            refine tkU 27 107 hHeld ?_
            simp only [Act.put, ssA, ssZ, ssS]
            refine tkU 28 108 hHeld ?_
            simp only [Act.put, ssA, ssZ, ssS]
            refine tkU 29 109 hHeld ?_
            simp only [Act.put, ssA, ssZ, ssS]
            refine tkU 30 110 hHeld ?_
            simp only [Act.put, ssA, ssZ, ssS]
            refine tkU 31 111 hHeld ?_
            simp only [Act.put, ssA, ssZ, ssS]
            refine tkU 32 112 hHeld ?_
            simp only [Act.put, ssA, ssZ, ssS]
            refine tkU 33 113 hHeld ?_
            simp only [Act.put, ssA, ssZ, ssS]
            refine tkU 34 114 hHeld ?_
            simp only [Act.put, ssA, ssZ, ssS]
            refine tkU 35 115 hHeld ?_
            simp only [Act.put, ssA, ssZ, ssS]
            refine tkH 36 116 hHeld ?_
            simp only [Act.put, ssA, ssZ, ssS]
            refine tkH 37 79 hHeld ?_
            simp only [Act.put, ssA, ssZ, ssS]
            refine wpAnyH_done (by kernel_rfl) ?_ _
            go_wp2_with fail
            go_meet
            exact ⟨rfl, jn (jf _ _)⟩
          case rest =>
           as_aux_lemma =>
            obtain ⟨rfl, hg7⟩ := hcut
            rename World => w7
            have hgG := ja hgF hg7
            cases CX
            case true =>
             have hE : E = 13 := by rw [HE2.out]; rfl
             have HR : Hid (jah l p = 13) := by show _ = _; rw [HST.out, if_neg (by omega), hE]
             clear hE
             go_wp2_with fail
             go_ret
             exact ⟨ji HR.out.symm, ja hg hgG⟩
            have hE : E = 0 := by rw [HE2.out]; rfl
            have HR : Hid (jah l p = xr l (qy p (k + 1)) (p.drop (k + 1))) := by show _ = _; rw [HST.out, if_pos hE]
            clear hE
            go_wp2_with fail
            go_roundw
            case rel => exact ⟨k + 1, by omega, by go_num, HR, ja hg hgG⟩
            case measure => simp [intOf]; omega
   obtain rfl : k = p.length := by omega
   have hkl : ¬ (p.length : Int) < (p.length : Int) := by omega
   have HR : Hid (jah l p = 0) := by show _ = _; rw [HN.out, je4]
   go_wp2_with fail
   go_ret
   exact ⟨ji HR.out.symm, hg⟩
 have HT : Hid (jah l p = xj l) := by show _ = _; unfold jah; rw [if_pos hE]
 generalize xj l = E at *
 have hEb : (E != 0) = true := by simpa using hE
 clear hE
 go_enter Tryz.func35, Tryz.ntmps35
 go_wp2_with fail
 refine HCE.out.mono ?_
 rintro _ w1 ⟨rfl, hg1⟩
 go_wp2_with fail
 go_ret
 exact ⟨ji HT.out.symm, hg1⟩
end Go.Proofs.YtbamhgaghngjiaaGreatDoor
