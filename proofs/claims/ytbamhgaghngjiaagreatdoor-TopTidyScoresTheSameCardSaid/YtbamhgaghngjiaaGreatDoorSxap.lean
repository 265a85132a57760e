/- The jjq jlx call.TableOf: its two maps say which prefixes have a beginning. Condition: a table without error lies in memory. -/
import Derived.Test.YtbamhgaghngjiaaGreatDoorSxao
namespace Go.Proofs.YtbamhgaghngjiaaGreatDoor
open Go.RowKit
set_option linter.unusedVariables false
set_option linter.unusedSimpArgs false

structure TabFull (base base2 gT bB bW : Nat) (u v : Value) (l : List Ent) (p : List Pfx) (W : World) : Prop where
 at_ : TabAt base gT u v l p W
 cB : W.cell? ⟨gT, 2, none⟩ = some (.map (some bB))
 cW : W.cell? ⟨gT, 3, none⟩ = some (.map (some bW))
 mB : ∃ n, MapSl base2 (jcs p false) W bB n
 mW : ∃ n, MapSl base2 (jcs p true) W bW n
theorem TabFull.grown {base base2 gT bB bW : Nat} {u v : Value} {l : List Ent} {p : List Pfx} {W W' : World} (h : TabFull base base2 gT bB bW u v l p W) (hg : W.grownBy W' none) : TabFull base base2 gT bB bW u v l p W' := by
 obtain ⟨n, hn⟩ := h.mB
 obtain ⟨m, hm⟩ := h.mW
 exact ⟨h.at_.grown hg, hg.cell h.cB (by simp), hg.cell h.cW (by simp), ⟨n, hn.kept hg (by simp) (by simp)⟩, ⟨m, hm.kept hg (by simp) (by simp)⟩⟩
theorem jks (p : List Pfx) (flag : Bool) (k : Nat) (h : k < p.length) (hw : p[k].whole = flag) : (fun x => if x = p[k].beg then xn p flag p[k].beg k ++ [k] else xn p flag x k) = fun x => xn p flag x (k + 1) := by
 funext x
 rw [jhb p flag x k h]
 by_cases e : x = p[k].beg
 ·rw [if_pos e, if_pos ⟨hw, e.symm⟩, e]
 rw [if_neg e, if_neg (fun h2 => e h2.2.symm)]
theorem jg8 (p : List Pfx) (flag : Bool) (k : Nat) (h : k < p.length) (hw : p[k].whole ≠ flag) : (fun x => xn p flag x k) = fun x => xn p flag x (k + 1) := by
 funext x
 rw [jhb p flag x k h, if_neg (fun h2 => hw h2.1)]
theorem MapSl.to {base : Nat} {f g : ByteArray → List Nat} {w : World} {bm cnt : Nat} (h : MapSl base f w bm cnt) (e : f = g) : MapSl base g w bm cnt := e ▸ h
def Fill (base2 bB bW : Nat) (p : List Pfx) (k : Nat) (W : World) : Prop :=
 (∃ n, n ≤ k ∧ MapSl base2 (fun s => xn p false s k) W bB n) ∧ ∃ n, n ≤ k ∧ MapSl base2 (fun s => xn p true s k) W bW n
theorem Fill.kept {base2 bB bW : Nat} {p : List Pfx} {k : Nat} {W W' : World} (h : Fill base2 bB bW p k W) {row : Option Nat} (hg : W.grownBy W' row) (hr : ∀ g, row = some g → g ≠ bB ∧ g ≠ bW ∧ g < base2) : Fill base2 bB bW p k W' := by
 obtain ⟨⟨n, hn, h1⟩, ⟨m, hm, h2⟩⟩ := h
 exact ⟨⟨n, hn, h1.kept hg (fun e => (hr _ e.symm).1 rfl) (fun g hb e => by have := (hr _ e.symm).2.2; omega)⟩, ⟨m, hm, h2.kept hg (fun e => (hr _ e.symm).2.1 rfl) (fun g hb e => by have := (hr _ e.symm).2.2; omega)⟩⟩
theorem jla {p : List Pfx} {flag : Bool} {k : Nat} {s : ByteArray} : ∀ s', s' ≠ s → ∀ x ∈ xn p flag s' k, x ∉ xn p flag s k := fun s' h x h1 h2 => by
 obtain ⟨_, _, _, e1⟩ := jdi h1
 obtain ⟨_, _, _, e2⟩ := jdi h2
 exact h (e1.symm.trans e2)
theorem MapSl.apart {base : Nat} {f : ByteArray → List Nat} {w0 w1 : World} {bm cnt : Nat} (h : MapSl base f w0 bm cnt) (hb : bm < base) (u0 : Value) (js : List Nat) (hu0 : IntsFrom base w0 u0 (j2 js)) (hn0 : js = [] → u0 = .slice none 0 0) (hg : w0.grownBy w1 u0.ownBlock) (hdis : ∀ s, ∀ x ∈ f s, x ∉ js) : MapSl base f w1 bm cnt := by
 obtain ⟨D, h1, h2, h3⟩ := h
 have hbm : some bm ≠ u0.ownBlock := fun e => by
  have := (World.ownsRow.lt hu0 bm e.symm).1
  omega
 refine ⟨D, h1.kept hg hbm, h2, fun s hs => ?_⟩
 obtain ⟨u, q1, q0, q2⟩ := h3 s hs
 refine ⟨u, World.ownsRow.kept q1 hg ?_, q0, q2⟩
 by_cases hf' : f s = []
 ·rw [q0 hf']; exact .inl rfl
 by_cases hf : js = []
 ·refine .inr ?_
  rw [hn0 hf]
  intro h5
  obtain ⟨A', c', rfl, _, hA'⟩ := q1.shape
  obtain ⟨g', rfl, _, _⟩ := hA' (jbb hf')
  simp [Value.ownBlock] at h5
 exact .inr (jfd q1 hu0 hf' hf (hdis s))
theorem jb9 (js : List Nat) (k : Nat) : j2 (js ++ [k]) = j2 js ++ [(k : Int)] := by unfold j2; simp
def jf4 (base : Nat) (u v : Value) (l : List Ent) (p : List Pfx) (w : World) (r : Ending) (w' : World) : Prop :=
 ∃ base2 gT bB bW, r = .returned (.pointer (some ⟨gT, 0, none⟩)) ∧ TabFull base base2 gT bB bW u v l p w' ∧ w.heap.size ≤ gT ∧ w.grownBy w' none
theorem MapSl.look2 {base : Nat} {f : ByteArray → List Nat} {w : World} {bm cnt : Nat} (h : MapSl base f w bm cnt) (s : ByteArray) (hs : s.size ≤ 1000000) :
 ∃ u, IntsFrom base w u (j2 (f s)) ∧ (f s = [] → u = .slice none 0 0) ∧ ∀ w' row, w.grownBy w' row → some bm ≠ row → (Instr.lookup 163 (.map (some bm)) (.string s) false).run Tryz.prog w' = .ok u w' := by
 obtain ⟨D, h1, h2, h3⟩ := h
 obtain ⟨u, q1, q0, q2⟩ := h3 s hs
 refine ⟨u, q1, q0, fun w' row hg hr => ?_⟩
 obtain ⟨v, ps, hrun, hv⟩ := (h1.kept hg hr).lookup jxc Tryz.underlying163 (z := .slice none 0 0) (by kernel_rfl) jjg (jri s hs)
 rw [jrv hv q2] at hrun
 exact hrun
theorem jsm {base2 bB bW : Nat} {p : List Pfx} {k : Nat} {W : World} (h : Fill base2 bB bW p k W) (flag : Bool) (s : ByteArray) (hs : s.size ≤ 1000000) :
 ∃ u, IntsFrom base2 W u (j2 (xn p flag s k)) ∧ (xn p flag s k = [] → u = .slice none 0 0) ∧ ∀ w' , W.grownBy w' none → (Instr.lookup 163 (.map (some (if flag then bW else bB))) (.string s) false).run Tryz.prog w' = .ok u w' := by
 obtain ⟨⟨n, hn, h1⟩, ⟨m, hm, h2⟩⟩ := h
 cases flag
 ·obtain ⟨u, q1, q2, q3⟩ := h1.look2 s hs
  exact ⟨u, q1, q2, fun w' hg => q3 w' none hg (by simp)⟩
 obtain ⟨u, q1, q2, q3⟩ := h2.look2 s hs
 exact ⟨u, q1, q2, fun w' hg => q3 w' none hg (by simp)⟩
theorem ju4 (base2 bB bW : Nat) (p : List Pfx) (k : Nat) (h : k < p.length) (W W9 : World) (flag : Bool) (hw : p[k].whole = flag) (hF : Fill base2 bB bW p k W) (hb : bB < base2) (hb2 : bW < base2) (hne : bB ≠ bW) (hlen : p.length ≤ 2000) (hs : p[k].beg.size ≤ 14)
 (u0 : Value) (hu0 : IntsFrom base2 W u0 (j2 (xn p flag p[k].beg k))) (hn0 : xn p flag p[k].beg k = [] → u0 = .slice none 0 0) (hg : W.grownBy W9 u0.ownBlock) (u1 : Value) (hu1 : IntsFrom base2 W9 u1 (j2 (xn p flag p[k].beg k ++ [k]))) :
 ∃ W5, (Instr.mapUpdate 163 (.map (some (if flag then bW else bB))) (.string p[k].beg) u1).run Tryz.prog W9 = .ok () W5 ∧ Fill base2 bB bW p (k + 1) W5 ∧ W9.grownBy W5 (some (if flag then bW else bB)) := by
 obtain ⟨⟨n, hn, h1⟩, ⟨m, hm, h2⟩⟩ := hF
 have hdis : ∀ s, ∀ x ∈ xn p (!flag) s k, x ∉ xn p flag p[k].beg k := fun s x hx1 hx2 => by
  obtain ⟨_, _, e1, _⟩ := jdi hx1
  obtain ⟨_, _, e2, _⟩ := jdi hx2
  rw [e1] at e2
  cases flag <;> cases e2
 cases flag
 ·obtain ⟨W5, hrun, h3, hg5⟩ := MapSl.put h1 hb (by unfold maxLen; omega) p[k].beg (by omega) u0 hu0 hn0 hg k u1 hu1 (fun s' hs' => jla s' hs')
  refine ⟨W5, hrun, ⟨⟨n + 1, by omega, h3.to (jks p false k h hw)⟩, ⟨m, by omega, ?_⟩⟩, hg5⟩
  have h4 := h2.apart hb2 u0 _ hu0 hn0 hg hdis
  exact (h4.kept hg5 (fun e => hne (Option.some.inj e).symm) (fun g hg' e => by have := Option.some.inj e; omega)).to (jg8 p true k h (by rw [hw]; simp))
 obtain ⟨W5, hrun, h3, hg5⟩ := MapSl.put h2 hb2 (by unfold maxLen; omega) p[k].beg (by omega) u0 hu0 hn0 hg k u1 hu1 (fun s' hs' => jla s' hs')
 refine ⟨W5, hrun, ⟨⟨n, by omega, ?_⟩, ⟨m + 1, by omega, h3.to (jks p true k h hw)⟩⟩, hg5⟩
 have h4 := h1.apart hb u0 _ hu0 hn0 hg hdis
 exact (h4.kept hg5 (fun e => hne (Option.some.inj e)) (fun g hg' e => by have := Option.some.inj e; omega)).to (jg8 p false k h (by rw [hw]; simp))
set_option maxRecDepth 100000 in
set_option maxHeartbeats 8000000 in
theorem jg2 (base : Nat) (u v : Value) (l : List Ent) (p : List Pfx) (w : World) (hu : EntsFrom base w u l) (hv : PfxsFrom base w v p) (hlen : p.length ≤ 2000) (hbs : ∀ x ∈ p, x.beg.size ≤ 14) :
 Calls Tryz.prog 55 #[u, v] w (jf4 base u v l p w) := by
 obtain ⟨A, c, rfl, hlen1, hA⟩ := hv.shape
 obtain ⟨A', c', rfl, hlen2, hA'⟩ := hu.shape
 obtain ⟨i0, hi, hz0, hz1, hz2⟩ := info_parts jaa
 have HV := Lib.hid hv
 have HU := Lib.hid hu
 have HA := Lib.hid hA
 have HBS := Lib.hid hbs
 have hmm := @run_makeMap Tryz.prog
 have m1 := MapSl.made (w.heap.size + 3) w
 have m2 := MapSl.made (w.heap.size + 3) (w.alloc (.map #[] 0))
 have m1' := m1.kept (World.grownBy_alloc (w.alloc (.map #[] 0)) (.map #[] 0) none) (by simp) (by simp)
 have hB := Blk.new ((w.alloc (.map #[] 0)).alloc (.map #[] 0)) 165 #[.slice A' l.length c', .slice A p.length c, .map (some w.heap.size), .map (some (w.heap.size + 1))]
 have m1'' := m1'.kept (World.grownBy_alloc ((w.alloc (.map #[] 0)).alloc (.map #[] 0)) (.cells #[.slice A' l.length c', .slice A p.length c, .map (some w.heap.size), .map (some (w.heap.size + 1))] 165) none) (by simp) (by simp)
 have m2' := m2.kept (World.grownBy_alloc ((w.alloc (.map #[] 0)).alloc (.map #[] 0)) (.cells #[.slice A' l.length c', .slice A p.length c, .map (some w.heap.size), .map (some (w.heap.size + 1))] 165) none) (by simp) (by simp)
 have hg3 := jd (jd (World.grownBy_alloc w (.map #[] 0) none) (.map #[] 0)) (.cells #[.slice A' l.length c', .slice A p.length c, .map (some w.heap.size), .map (some (w.heap.size + 1))] 165)
 have hsz : (((w.alloc (.map #[] 0)).alloc (.map #[] 0)).alloc (.cells #[.slice A' l.length c', .slice A p.length c, .map (some w.heap.size), .map (some (w.heap.size + 1))] 165)).heap.size = w.heap.size + 3 := by simp
 simp only [World.size_alloc] at m2' hB
 have HF0 : Hid (Fill (w.heap.size + 3) w.heap.size (w.heap.size + 1) p 0 (((w.alloc (.map #[] 0)).alloc (.map #[] 0)).alloc (.cells #[.slice A' l.length c', .slice A p.length c, .map (some w.heap.size), .map (some (w.heap.size + 1))] 165))) :=
  ⟨⟨0, by omega, m1''⟩, ⟨0, by omega, m2'⟩⟩
 clear hv hu hA hA' m1 m2 m1' m1'' m2' hbs
 go_enter Tryz.func55, Tryz.ntmps55
 go_upto_region 2 with fail
 generalize ((w.alloc (.map #[] 0)).alloc (.map #[] 0)).alloc (.cells #[.slice A' l.length c', .slice A p.length c, .map (some w.heap.size), .map (some (w.heap.size + 1))] 165) = w3 at *
 obtain ⟨bB, hbB⟩ : ∃ x, w.heap.size = x := ⟨_, rfl⟩
 rw [hbB] at hB HF0 hsz ⊢
 obtain ⟨bW, hbW⟩ : ∃ x, bB + 1 = x := ⟨_, rfl⟩
 rw [hbW] at hB HF0 ⊢
 obtain ⟨gT, hgT⟩ : ∃ x, bW + 1 = x := ⟨_, rfl⟩
 rw [hgT] at hB ⊢
 obtain ⟨base2, hb2⟩ : ∃ x, bB + 3 = x := ⟨_, rfl⟩
 rw [hb2] at HF0 hsz
 have HSZ : Hid (w.heap.size = bB ∧ bB < bW ∧ bW < gT ∧ gT < base2 ∧ w3.heap.size = base2) := ⟨hbB, by omega, by omega, by omega, hsz⟩
 clear hmm hsz hbB hbW hgT hb2
 go_wp2_with fail
 go_loopw [16] (fun iv wr => ∃ k : Nat, k ≤ p.length ∧ iv = .int .i64 k ∧ Hid (Fill base2 bB bW p k wr) ∧ Blk wr gT 165 #[.slice A' l.length c', .slice A p.length c, .map (some bB), .map (some bW)] ∧ w.grownBy wr none ∧ base2 ≤ wr.heap.size) (fun iv _ => p.length - (intOf iv).toNat)
 case atStart => exact ⟨0, by omega, rfl, HF0, hB, hg3, by have := HSZ.out; omega⟩
 case round =>
  obtain ⟨k, hk, rfl, HF, hBr, hgw, hszr⟩ := hrel
  clear hB hg3 HF0
  by_cases hlt : k < p.length
  ·have hki : (k : Int) < (p.length : Int) := by omega
   obtain ⟨g, rfl, _, hgl⟩ := HA.out (by omega)
   obtain ⟨q0, q1, q2, q3, q4, q5⟩ := (HV.out.grown hgw).at_ k hlt
   have hs14 := HBS.out _ (List.getElem_mem hlt)
   have hsz := HSZ.out
   have HLK0 : Hid (∀ flag, ∃ u, IntsFrom base2 wr u (j2 (xn p flag p[k].beg k)) ∧ (xn p flag p[k].beg k = [] → u = .slice none 0 0) ∧ ∀ w' , wr.grownBy w' none → (Instr.lookup 163 (.map (some (if flag then bW else bB))) (.string p[k].beg) false).run Tryz.prog w' = .ok u w') := fun flag => jsm HF.out flag p[k].beg (by omega)
   have HPUT0 : Hid (∀ flag W W9 u0, p[k].whole = flag → Fill base2 bB bW p k W → IntsFrom base2 W u0 (j2 (xn p flag p[k].beg k)) → (xn p flag p[k].beg k = [] → u0 = .slice none 0 0) → W.grownBy W9 u0.ownBlock → ∀ u1, IntsFrom base2 W9 u1 (j2 (xn p flag p[k].beg k ++ [k])) → ∃ W5, (Instr.mapUpdate 163 (.map (some (if flag then bW else bB))) (.string p[k].beg) u1).run Tryz.prog W9 = .ok () W5 ∧ Fill base2 bB bW p (k + 1) W5 ∧ W9.grownBy W5 (some (if flag then bW else bB))) := fun flag W W9 u0 hw hF hu0 hn0 hg u1 hu1 =>
    ju4 base2 bB bW p k hlt W W9 flag hw hF (by omega) (by omega) (by omega) hlen hs14 u0 hu0 hn0 hg u1 hu1
   have HNL0 : Hid (∀ flag, (j2 (xn p flag p[k].beg k)).length ≤ 2000) := fun flag => by
    have h1 : (xn p flag p[k].beg k).length ≤ (List.range k).length := List.length_filter_le _ _
    rw [List.length_range] at h1
    unfold j2
    rw [List.length_map]
    omega
   have hgs := hgw.size
   have hglr : g < wr.heap.size := by omega
   generalize p[k].beg = B at *
   generalize p[k].ent = N at *
   generalize p[k].a = xa at *
   generalize p[k].z = xz at *
   generalize p[k].whole = H at *
   generalize p[k].zone = Z at *
   have hP := Blk.new wr 134 #[.string B, .string N, .int .i64 xa, .int .i64 xz, .bool H, .int .i64 Z]
   have hgA := World.grownBy_alloc wr (.cells #[.string B, .string N, .int .i64 xa, .int .i64 xz, .bool H, .int .i64 Z] 134) none
   have hg1 := ja hgw hgA
   have hB1 := Blk.grown hBr hgA (by simp)
   have HF1 : Hid (Fill base2 bB bW p k (wr.alloc (.cells #[.string B, .string N, .int .i64 xa, .int .i64 xz, .bool H, .int .i64 Z] 134))) := HF.out.kept hgA (fun g h => by cases h)
   go_upto_region 5 with fail
   have HGX : Hid (base2 ≤ wr.heap.size ∧ (wr.alloc (.cells #[.string B, .string N, .int .i64 xa, .int .i64 xz, .bool H, .int .i64 Z] 134)).heap.size = wr.heap.size + 1) := ⟨by omega, by simp⟩
   generalize wr.alloc (.cells #[.string B, .string N, .int .i64 xa, .int .i64 xz, .bool H, .int .i64 Z] 134) = w1 at *
   clear q0 q1 q2 q3 q4 q5
   have x0 := hP.cell 0
   have x3 := hP.cell 4
   simp only [geA, geZ, geS] at x0 x3
   have hgXT : gT ≠ wr.heap.size := by omega
   cases H
   ·obtain ⟨u0, hu0, hn0, hlk0⟩ := HLK0.out false
    have hOW := (j4 hu0 hgA).alloc (.cells #[.int .i64 k] 3)
    have HOW : Hid (World.ownsRow _ base2 3 1 u0 _ _) := (show World.ownsRow ((w1.alloc (.cells #[.int .i64 k] 3)).drew) base2 3 1 u0 _ _ from hOW)
    have HLK : Hid (∀ w', wr.grownBy w' none → (Instr.lookup 163 (.map (some bB)) (.string B) false).run Tryz.prog w' = .ok u0 w') := hlk0
    have HPD := Lib.hid (Blk.drew (Blk.alloc hP (.cells #[.int .i64 k] 3)))
    have HBD := Lib.hid (Blk.drew (Blk.alloc hB1 (.cells #[.int .i64 k] 3)))
    have HNL := Lib.hid (HNL0.out false)
    have HBL : Hid (base2 ≤ ((w1.alloc (.cells #[.int .i64 k] 3)).drew).heap.size) := by show _ ≤ _; have := HGX.out; simp; omega
    have HNE : Hid (some wr.heap.size ≠ u0.ownBlock ∧ some gT ≠ u0.ownBlock) := ⟨fun e => by have := (hu0.lt _ e.symm).2; omega, fun e => by have := (hu0.lt _ e.symm).1; omega⟩
    have hgD : wr.grownBy ((w1.alloc (.cells #[.int .i64 k] 3)).drew) none := jk (jd hgA _)
    have HGD := Lib.hid (ja hgw hgD)
    have HSD := Lib.hid (hgD.size)
    have HNG : Hid (∀ kk, u0.ownBlock = some kk → none = some kk ∨ w.heap.size ≤ kk) := fun kk h => .inr (by have := (hu0.lt _ h).1; omega)
    have HFD : Hid (Fill base2 bB bW p k ((w1.alloc (.cells #[.int .i64 k] 3)).drew)) := HF.out.kept hgD (fun g h => by cases h)
    have HPUT : Hid (∀ W9, ((w1.alloc (.cells #[.int .i64 k] 3)).drew).grownBy W9 u0.ownBlock → ∀ u1, IntsFrom base2 W9 u1 (j2 (xn p false B k ++ [k])) → ∃ W5, (Instr.mapUpdate 163 (.map (some bB)) (.string B) u1).run Tryz.prog W9 = .ok () W5 ∧ Fill base2 bB bW p (k + 1) W5 ∧ W9.grownBy W5 (some bB)) := fun W9 hg u1 hu1 => HPUT0.out false _ W9 u0 rfl HFD.out HOW.out hn0 hg u1 hu1
    have cT := hB1.cell 2
    simp only [geA, geZ, geS] at cT
    clear hlk0 hOW HLK0 HPUT0 hn0 hu0
    generalize wr.heap.size = gX at *
    go_wp2_with fail
    refine wp_region_held_drew (S := fun V => V.cell? ⟨gT, 2, none⟩ = some (.map (some bB)) ∧ V.cell? ⟨gX, 0, none⟩ = some (.string B)) (by kernel_rfl) ⟨cT, x0⟩ (fun hHeld => ?_)
    refine tkH 0 39 hHeld ?_
    simp only [Act.put, ssA, ssZ, ssS]
    refine tkH 1 40 hHeld ?_
    simp only [Act.put, ssA, ssZ, ssS]
    refine tkH 2 41 hHeld ?_
    simp only [Act.put, ssA, ssZ, ssS]
    refine tkH 3 42 hHeld ?_
    simp only [Act.put, ssA, ssZ, ssS]
    refine tkH 4 43 hHeld ?_
    simp only [Act.put, ssA, ssZ, ssS]
    refine tkH 5 44 hHeld ?_
    simp only [Act.put, ssA, ssZ, ssS]
    refine tkH 6 45 hHeld ?_
    simp only [Act.put, ssA, ssZ, ssS]
    refine tkH 7 46 hHeld ?_
    simp only [Act.put, ssA, ssZ, ssS]
    refine tkH 8 47 hHeld ?_
    simp only [Act.put, ssA, ssZ, ssS]
    refine tkH 9 48 hHeld ?_
    simp only [Act.put, ssA, ssZ, ssS]
    refine tkH 10 49 hHeld ?_
    simp only [Act.put, ssA, ssZ, ssS]
    refine tkH 11 50 hHeld ?_
    simp only [Act.put, ssA, ssZ, ssS]
    refine tkH 13 52 hHeld ?_
    simp only [Act.put, ssA, ssZ, ssS]
    refine wpAnyH_ready (rs := [12, 14]) (by kernel_rfl) (by simp) ?_
    refine AllReadyH.cons (o := _) rfl (fun K hK => ?_) (AllReadyH.cons (o := _) rfl (fun K hK => ?_) AllReadyH.nil)
    ·have hlk := HLK.out _ (ja hgA (show w1.grownBy w1.drew none from (by repeat (first | exact je _ _ | assumption | refine jk ?_ | refine jd ?_ _))))
     go_simp
     refine hK.out _ _ (⟨cT, x0⟩) (fun hHeld12 => ?_)
     clear hK K
     (try simp only [Act.put, ssA, ssZ, ssS])
     refine wpAnyH_ready (rs := [14]) (by kernel_rfl) (by simp) ?_
     refine AllReadyH.cons (o := _) rfl (fun K hK => ?_) AllReadyH.nil
     go_simp
     refine hK.out _ _ (⟨HBD.out.cell 2, HPD.out.cell 0⟩) (fun hHeld14 => ?_)
     clear hK K
     (try simp only [Act.put, ssA, ssZ, ssS])
     refine wpAnyH_ready (rs := [15]) (by kernel_rfl) (by simp) ?_
     refine AllReadyH.cons (o := _) rfl (fun K hK => ?_) AllReadyH.nil
     refine step_append_lies _ (by rfl) (.tmp 51) (.tmp 53) 22 (by rfl) base2 3 i0 _ 1 8 Tryz.underlying22 hi hz0 hz1 hz2 rfl (by decide) u0 _ _ (by simp [Act.eval]) HOW.out ⟨_, 0, none⟩ 1 1 [.int .i64 k] (by simp [Act.eval]) rfl (qw _ (k : Int) _) (j3 (k : Int)) (by decide) (by have := HNL.out; unfold maxLen; omega) (by have := HNL.out; omega) HBL.out _ rfl ?_
     intro g9 cap w9 hown9 hg9 hat hglt
     have hP9 := Blk.grown (row := u0.ownBlock) HPD.out hg9 HNE.out.1
     have hB9 := Blk.grown (row := u0.ownBlock) HBD.out hg9 HNE.out.2
     refine hK.out _ _ ⟨hB9.cell 2, hP9.cell 0⟩ (fun hHeld15 => ?_)
     clear hK K
     (try simp only [Act.put, ssA, ssZ, ssS])
     refine wpAnyH_ready (rs := [16]) (by kernel_rfl) (by simp) ?_
     refine AllReadyH.cons (o := _) rfl (fun K hK => ?_) AllReadyH.nil
     obtain ⟨w5, hrun, hF5, hg5⟩ := HPUT.out w9 hg9 _ (by rw [jb9]; unfold IntsFrom; rw [List.map_append, List.length_append]; simpa using hown9)
     have hP5 := Blk.grown hP9 hg5 (by simp; omega)
     have hB5 := Blk.grown hB9 hg5 (by simp; omega)
     go_simp
     refine hK.out _ _ ⟨hB5.cell 2, hP5.cell 0⟩ (fun hHeld16 => ?_)
     clear hK K
     (try simp only [Act.put, ssA, ssZ, ssS])
     refine wpAnyH_done (by kernel_rfl) ?_ _
     go_wp2_with fail
     go_roundw
     case rel => exact ⟨k + 1, by omega, by go_num, hF5, hB5, jh (jh HGD.out hg9 HNG.out) hg5 (fun kk h => .inr (by have := HSZ.out; injection h with h; omega)), by have := hg9.size; have := hg5.size; have := HSD.out; omega⟩
     case measure => simp [intOf]; omega
    go_simp
    refine hK.out _ _ (⟨HBD.out.cell 2, HPD.out.cell 0⟩) (fun hHeld14 => ?_)
    clear hK K
    (try simp only [Act.put, ssA, ssZ, ssS])
    refine wpAnyH_ready (rs := [12]) (by kernel_rfl) (by simp) ?_
    refine AllReadyH.cons (o := _) rfl (fun K hK => ?_) AllReadyH.nil
    have hlk := HLK.out _ (ja hgA (show w1.grownBy ((w1.alloc (.cells #[.int .i64 k] 3)).drew) none from (by repeat (first | exact je _ _ | assumption | refine jk ?_ | refine jd ?_ _))))
    go_simp
    refine hK.out _ _ (⟨HBD.out.cell 2, HPD.out.cell 0⟩) (fun hHeld12 => ?_)
    clear hK K
    (try simp only [Act.put, ssA, ssZ, ssS])
    refine wpAnyH_ready (rs := [15]) (by kernel_rfl) (by simp) ?_
    refine AllReadyH.cons (o := _) rfl (fun K hK => ?_) AllReadyH.nil
    refine step_append_lies _ (by rfl) (.tmp 51) (.tmp 53) 22 (by rfl) base2 3 i0 _ 1 8 Tryz.underlying22 hi hz0 hz1 hz2 rfl (by decide) u0 _ _ (by simp [Act.eval]) HOW.out ⟨_, 0, none⟩ 1 1 [.int .i64 k] (by simp [Act.eval]) rfl (qw _ (k : Int) _) (j3 (k : Int)) (by decide) (by have := HNL.out; unfold maxLen; omega) (by have := HNL.out; omega) HBL.out _ rfl ?_
    intro g9 cap w9 hown9 hg9 hat hglt
    have hP9 := Blk.grown (row := u0.ownBlock) HPD.out hg9 HNE.out.1
    have hB9 := Blk.grown (row := u0.ownBlock) HBD.out hg9 HNE.out.2
    refine hK.out _ _ ⟨hB9.cell 2, hP9.cell 0⟩ (fun hHeld15 => ?_)
    clear hK K
    (try simp only [Act.put, ssA, ssZ, ssS])
    refine wpAnyH_ready (rs := [16]) (by kernel_rfl) (by simp) ?_
    refine AllReadyH.cons (o := _) rfl (fun K hK => ?_) AllReadyH.nil
    obtain ⟨w5, hrun, hF5, hg5⟩ := HPUT.out w9 hg9 _ (by rw [jb9]; unfold IntsFrom; rw [List.map_append, List.length_append]; simpa using hown9)
    have hP5 := Blk.grown hP9 hg5 (by simp; omega)
    have hB5 := Blk.grown hB9 hg5 (by simp; omega)
    go_simp
    refine hK.out _ _ ⟨hB5.cell 2, hP5.cell 0⟩ (fun hHeld16 => ?_)
    clear hK K
    (try simp only [Act.put, ssA, ssZ, ssS])
    refine wpAnyH_done (by kernel_rfl) ?_ _
    go_wp2_with fail
    go_roundw
    case rel => exact ⟨k + 1, by omega, by go_num, hF5, hB5, jh (jh HGD.out hg9 HNG.out) hg5 (fun kk h => .inr (by have := HSZ.out; injection h with h; omega)), by have := hg9.size; have := hg5.size; have := HSD.out; omega⟩
    case measure => simp [intOf]; omega
   obtain ⟨u0, hu0, hn0, hlk0⟩ := HLK0.out true
   have hOW := (j4 hu0 hgA).alloc (.cells #[.int .i64 k] 3)
   have HOW : Hid (World.ownsRow _ base2 3 1 u0 _ _) := (show World.ownsRow ((w1.alloc (.cells #[.int .i64 k] 3)).drew) base2 3 1 u0 _ _ from hOW)
   have HLK : Hid (∀ w', wr.grownBy w' none → (Instr.lookup 163 (.map (some bW)) (.string B) false).run Tryz.prog w' = .ok u0 w') := hlk0
   have HPD := Lib.hid (Blk.drew (Blk.alloc hP (.cells #[.int .i64 k] 3)))
   have HBD := Lib.hid (Blk.drew (Blk.alloc hB1 (.cells #[.int .i64 k] 3)))
   have HNL := Lib.hid (HNL0.out true)
   have HBL : Hid (base2 ≤ ((w1.alloc (.cells #[.int .i64 k] 3)).drew).heap.size) := by show _ ≤ _; have := HGX.out; simp; omega
   have HNE : Hid (some wr.heap.size ≠ u0.ownBlock ∧ some gT ≠ u0.ownBlock) := ⟨fun e => by have := (hu0.lt _ e.symm).2; omega, fun e => by have := (hu0.lt _ e.symm).1; omega⟩
   have hgD : wr.grownBy ((w1.alloc (.cells #[.int .i64 k] 3)).drew) none := jk (jd hgA _)
   have HGD := Lib.hid (ja hgw hgD)
   have HSD := Lib.hid (hgD.size)
   have HNG : Hid (∀ kk, u0.ownBlock = some kk → none = some kk ∨ w.heap.size ≤ kk) := fun kk h => .inr (by have := (hu0.lt _ h).1; omega)
   have HFD : Hid (Fill base2 bB bW p k ((w1.alloc (.cells #[.int .i64 k] 3)).drew)) := HF.out.kept hgD (fun g h => by cases h)
   have HPUT : Hid (∀ W9, ((w1.alloc (.cells #[.int .i64 k] 3)).drew).grownBy W9 u0.ownBlock → ∀ u1, IntsFrom base2 W9 u1 (j2 (xn p true B k ++ [k])) → ∃ W5, (Instr.mapUpdate 163 (.map (some bW)) (.string B) u1).run Tryz.prog W9 = .ok () W5 ∧ Fill base2 bB bW p (k + 1) W5 ∧ W9.grownBy W5 (some bW)) := fun W9 hg u1 hu1 => HPUT0.out true _ W9 u0 rfl HFD.out HOW.out hn0 hg u1 hu1
   have cT := hB1.cell 3
   simp only [geA, geZ, geS] at cT
   clear hlk0 hOW HLK0 HPUT0 hn0 hu0
   generalize wr.heap.size = gX at *
   go_wp2_with fail
   refine wp_region_held_drew (S := fun V => V.cell? ⟨gT, 3, none⟩ = some (.map (some bW)) ∧ V.cell? ⟨gX, 0, none⟩ = some (.string B)) (by kernel_rfl) ⟨cT, x0⟩ (fun hHeld => ?_)
   refine tkH 0 23 hHeld ?_
   simp only [Act.put, ssA, ssZ, ssS]
   refine tkH 1 24 hHeld ?_
   simp only [Act.put, ssA, ssZ, ssS]
   refine tkH 2 25 hHeld ?_
   simp only [Act.put, ssA, ssZ, ssS]
   refine tkH 3 26 hHeld ?_
   simp only [Act.put, ssA, ssZ, ssS]
   refine tkH 4 27 hHeld ?_
   simp only [Act.put, ssA, ssZ, ssS]
   refine tkH 5 28 hHeld ?_
   simp only [Act.put, ssA, ssZ, ssS]
   refine tkH 6 29 hHeld ?_
   simp only [Act.put, ssA, ssZ, ssS]
   refine tkH 7 30 hHeld ?_
   simp only [Act.put, ssA, ssZ, ssS]
   refine tkH 8 31 hHeld ?_
   simp only [Act.put, ssA, ssZ, ssS]
   refine tkH 9 32 hHeld ?_
   simp only [Act.put, ssA, ssZ, ssS]
   refine tkH 10 33 hHeld ?_
   simp only [Act.put, ssA, ssZ, ssS]
   refine tkH 11 34 hHeld ?_
   simp only [Act.put, ssA, ssZ, ssS]
   refine tkH 13 36 hHeld ?_
   simp only [Act.put, ssA, ssZ, ssS]
   refine wpAnyH_ready (rs := [12, 14]) (by kernel_rfl) (by simp) ?_
   refine AllReadyH.cons (o := _) rfl (fun K hK => ?_) (AllReadyH.cons (o := _) rfl (fun K hK => ?_) AllReadyH.nil)
   ·have hlk := HLK.out _ (ja hgA (show w1.grownBy w1.drew none from (by repeat (first | exact je _ _ | assumption | refine jk ?_ | refine jd ?_ _))))
    go_simp
    refine hK.out _ _ (⟨cT, x0⟩) (fun hHeld12 => ?_)
    clear hK K
    (try simp only [Act.put, ssA, ssZ, ssS])
    refine wpAnyH_ready (rs := [14]) (by kernel_rfl) (by simp) ?_
    refine AllReadyH.cons (o := _) rfl (fun K hK => ?_) AllReadyH.nil
    go_simp
    refine hK.out _ _ (⟨HBD.out.cell 3, HPD.out.cell 0⟩) (fun hHeld14 => ?_)
    clear hK K
    (try simp only [Act.put, ssA, ssZ, ssS])
    refine wpAnyH_ready (rs := [15]) (by kernel_rfl) (by simp) ?_
    refine AllReadyH.cons (o := _) rfl (fun K hK => ?_) AllReadyH.nil
    refine step_append_lies _ (by rfl) (.tmp 35) (.tmp 37) 22 (by rfl) base2 3 i0 _ 1 8 Tryz.underlying22 hi hz0 hz1 hz2 rfl (by decide) u0 _ _ (by simp [Act.eval]) HOW.out ⟨_, 0, none⟩ 1 1 [.int .i64 k] (by simp [Act.eval]) rfl (qw _ (k : Int) _) (j3 (k : Int)) (by decide) (by have := HNL.out; unfold maxLen; omega) (by have := HNL.out; omega) HBL.out _ rfl ?_
    intro g9 cap w9 hown9 hg9 hat hglt
    have hP9 := Blk.grown (row := u0.ownBlock) HPD.out hg9 HNE.out.1
    have hB9 := Blk.grown (row := u0.ownBlock) HBD.out hg9 HNE.out.2
    refine hK.out _ _ ⟨hB9.cell 3, hP9.cell 0⟩ (fun hHeld15 => ?_)
    clear hK K
    (try simp only [Act.put, ssA, ssZ, ssS])
    refine wpAnyH_ready (rs := [16]) (by kernel_rfl) (by simp) ?_
    refine AllReadyH.cons (o := _) rfl (fun K hK => ?_) AllReadyH.nil
    obtain ⟨w5, hrun, hF5, hg5⟩ := HPUT.out w9 hg9 _ (by rw [jb9]; unfold IntsFrom; rw [List.map_append, List.length_append]; simpa using hown9)
    have hP5 := Blk.grown hP9 hg5 (by simp; omega)
    have hB5 := Blk.grown hB9 hg5 (by simp; omega)
    go_simp
    refine hK.out _ _ ⟨hB5.cell 3, hP5.cell 0⟩ (fun hHeld16 => ?_)
    clear hK K
    (try simp only [Act.put, ssA, ssZ, ssS])
    refine wpAnyH_done (by kernel_rfl) ?_ _
    go_wp2_with fail
    go_roundw
    case rel => exact ⟨k + 1, by omega, by go_num, hF5, hB5, jh (jh HGD.out hg9 HNG.out) hg5 (fun kk h => .inr (by have := HSZ.out; injection h with h; omega)), by have := hg9.size; have := hg5.size; have := HSD.out; omega⟩
    case measure => simp [intOf]; omega
   go_simp
   refine hK.out _ _ (⟨HBD.out.cell 3, HPD.out.cell 0⟩) (fun hHeld14 => ?_)
   clear hK K
   (try simp only [Act.put, ssA, ssZ, ssS])
   refine wpAnyH_ready (rs := [12]) (by kernel_rfl) (by simp) ?_
   refine AllReadyH.cons (o := _) rfl (fun K hK => ?_) AllReadyH.nil
   have hlk := HLK.out _ (ja hgA (show w1.grownBy ((w1.alloc (.cells #[.int .i64 k] 3)).drew) none from (by repeat (first | exact je _ _ | assumption | refine jk ?_ | refine jd ?_ _))))
   go_simp
   refine hK.out _ _ (⟨HBD.out.cell 3, HPD.out.cell 0⟩) (fun hHeld12 => ?_)
   clear hK K
   (try simp only [Act.put, ssA, ssZ, ssS])
   refine wpAnyH_ready (rs := [15]) (by kernel_rfl) (by simp) ?_
   refine AllReadyH.cons (o := _) rfl (fun K hK => ?_) AllReadyH.nil
   refine step_append_lies _ (by rfl) (.tmp 35) (.tmp 37) 22 (by rfl) base2 3 i0 _ 1 8 Tryz.underlying22 hi hz0 hz1 hz2 rfl (by decide) u0 _ _ (by simp [Act.eval]) HOW.out ⟨_, 0, none⟩ 1 1 [.int .i64 k] (by simp [Act.eval]) rfl (qw _ (k : Int) _) (j3 (k : Int)) (by decide) (by have := HNL.out; unfold maxLen; omega) (by have := HNL.out; omega) HBL.out _ rfl ?_
   intro g9 cap w9 hown9 hg9 hat hglt
   have hP9 := Blk.grown (row := u0.ownBlock) HPD.out hg9 HNE.out.1
   have hB9 := Blk.grown (row := u0.ownBlock) HBD.out hg9 HNE.out.2
   refine hK.out _ _ ⟨hB9.cell 3, hP9.cell 0⟩ (fun hHeld15 => ?_)
   clear hK K
   (try simp only [Act.put, ssA, ssZ, ssS])
   refine wpAnyH_ready (rs := [16]) (by kernel_rfl) (by simp) ?_
   refine AllReadyH.cons (o := _) rfl (fun K hK => ?_) AllReadyH.nil
   obtain ⟨w5, hrun, hF5, hg5⟩ := HPUT.out w9 hg9 _ (by rw [jb9]; unfold IntsFrom; rw [List.map_append, List.length_append]; simpa using hown9)
   have hP5 := Blk.grown hP9 hg5 (by simp; omega)
   have hB5 := Blk.grown hB9 hg5 (by simp; omega)
   go_simp
   refine hK.out _ _ ⟨hB5.cell 3, hP5.cell 0⟩ (fun hHeld16 => ?_)
   clear hK K
   (try simp only [Act.put, ssA, ssZ, ssS])
   refine wpAnyH_done (by kernel_rfl) ?_ _
   go_wp2_with fail
   go_roundw
   case rel => exact ⟨k + 1, by omega, by go_num, hF5, hB5, jh (jh HGD.out hg9 HNG.out) hg5 (fun kk h => .inr (by have := HSZ.out; injection h with h; omega)), by have := hg9.size; have := hg5.size; have := HSD.out; omega⟩
   case measure => simp [intOf]; omega
  have hkl : ¬ (k : Int) < (p.length : Int) := by omega
  obtain rfl : k = p.length := by omega
  go_wp2_with fail
  go_ret
  obtain ⟨⟨n, _, h1⟩, ⟨m, _, h2⟩⟩ := HF.out
  exact ⟨base2, gT, bB, bW, rfl, ⟨⟨hBr.cell 0, hBr.cell 1, HU.out.grown hgw, HV.out.grown hgw⟩, hBr.cell 2, hBr.cell 3, ⟨n, h1⟩, ⟨m, h2⟩⟩, by have := HSZ.out; omega, hgw⟩
end Go.Proofs.YtbamhgaghngjiaaGreatDoor
