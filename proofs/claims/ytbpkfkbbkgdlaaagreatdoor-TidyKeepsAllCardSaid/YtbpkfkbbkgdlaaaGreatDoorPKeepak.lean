/- The walk over call.TableOf: its two maps say which prefixes have a beginning. Condition: a table without error lies in memory. The walk over a table's longest, without and with a closure that leaves prefixes out. Condition: a right table with its maps lies in memory. The walk over call.placeOf. Condition: parts of at most 100 bytes; a district stands behind a prefix. The walk over the reference's FoundOf. Condition: a table lies in memory; a right call sign. -/
import Derived.Test.YtbpkfkbbkgdlaaaGreatDoorPKeepaj
import Derived.Deep.AppendLies
import Derived.Deep.RegionHeld
import Derived.Deep.RegionWith
import Derived.Test.YtbpkfkbbkgdlaaaGreatDoorPKeepag
import Derived.Test.YtbpkfkbbkgdlaaaGreatDoorPKeepah
namespace Go.Proofs.YtbpkfkbbkgdlaaaGreatDoor
open Go.RowKit
set_option linter.unusedVariables false
set_option linter.unusedSimpArgs false

/-- A table in memory, with its maps. -/
structure TabFull (base base2 gT bB bW : Nat) (u v : Value) (l : List Ent) (p : List Pfx) (W : World) : Prop where
  at_ : TabAt base gT u v l p W
  cB : W.cell? ⟨gT, 2, none⟩ = some (.map (some bB))
  cW : W.cell? ⟨gT, 3, none⟩ = some (.map (some bW))
  mB : ∃ n, MapSl base2 (idxL p false) W bB n
  mW : ∃ n, MapSl base2 (idxL p true) W bW n
theorem TabFull.grown {base base2 gT bB bW : Nat} {u v : Value} {l : List Ent} {p : List Pfx} {W W' : World} (h : TabFull base base2 gT bB bW u v l p W) (hg : W.grownBy W' none) : TabFull base base2 gT bB bW u v l p W' := by
  obtain ⟨n, hn⟩ := h.mB
  obtain ⟨m, hm⟩ := h.mW
  exact ⟨h.at_.grown hg, hg.cell h.cB (by simp), hg.cell h.cW (by simp), ⟨n, hn.kept hg (by simp) (by simp)⟩, ⟨m, hm.kept hg (by simp) (by simp)⟩⟩
theorem idxTo_put (p : List Pfx) (flag : Bool) (k : Nat) (h : k < p.length) (hw : p[k].whole = flag) : (fun x => if x = p[k].beg then idxTo p flag p[k].beg k ++ [k] else idxTo p flag x k) = fun x => idxTo p flag x (k + 1) := by
  funext x
  rw [idxTo_step p flag x k h]
  by_cases e : x = p[k].beg
  · rw [if_pos e, if_pos ⟨hw, e.symm⟩, e]
  · rw [if_neg e, if_neg (fun h2 => e h2.2.symm)]
theorem idxTo_skip (p : List Pfx) (flag : Bool) (k : Nat) (h : k < p.length) (hw : p[k].whole ≠ flag) : (fun x => idxTo p flag x k) = fun x => idxTo p flag x (k + 1) := by
  funext x
  rw [idxTo_step p flag x k h, if_neg (fun h2 => hw h2.1)]
theorem MapSl.to {base : Nat} {f g : ByteArray → List Nat} {w : World} {bm cnt : Nat} (h : MapSl base f w bm cnt) (e : f = g) : MapSl base g w bm cnt := e ▸ h
/-- The maps behind so many prefixes. -/
def Fill (base2 bB bW : Nat) (p : List Pfx) (k : Nat) (W : World) : Prop :=
  (∃ n, n ≤ k ∧ MapSl base2 (fun s => idxTo p false s k) W bB n) ∧ ∃ n, n ≤ k ∧ MapSl base2 (fun s => idxTo p true s k) W bW n
theorem Fill.kept {base2 bB bW : Nat} {p : List Pfx} {k : Nat} {W W' : World} (h : Fill base2 bB bW p k W) {row : Option Nat} (hg : W.grownBy W' row) (hr : ∀ g, row = some g → g ≠ bB ∧ g ≠ bW ∧ g < base2) : Fill base2 bB bW p k W' := by
  obtain ⟨⟨n, hn, h1⟩, ⟨m, hm, h2⟩⟩ := h
  exact ⟨⟨n, hn, h1.kept hg (fun e => (hr _ e.symm).1 rfl) (fun g hb e => by have := (hr _ e.symm).2.2; omega)⟩, ⟨m, hm, h2.kept hg (fun e => (hr _ e.symm).2.1 rfl) (fun g hb e => by have := (hr _ e.symm).2.2; omega)⟩⟩
theorem idx_apart {p : List Pfx} {flag : Bool} {k : Nat} {s : ByteArray} : ∀ s', s' ≠ s → ∀ x ∈ idxTo p flag s' k, x ∉ idxTo p flag s k := fun s' h x h1 h2 => by
  obtain ⟨_, _, _, e1⟩ := idxTo_mem h1
  obtain ⟨_, _, _, e2⟩ := idxTo_mem h2
  exact h (e1.symm.trans e2)
/-- A map whose rows hold none of the numbers of the row that is appended to. -/
theorem MapSl.apart {base : Nat} {f : ByteArray → List Nat} {w0 w1 : World} {bm cnt : Nat} (h : MapSl base f w0 bm cnt) (hb : bm < base) (u0 : Value) (js : List Nat) (hu0 : IntsFrom base w0 u0 (natI js)) (hn0 : js = [] → u0 = .slice none 0 0) (hg : w0.grownBy w1 u0.ownBlock) (hdis : ∀ s, ∀ x ∈ f s, x ∉ js) : MapSl base f w1 bm cnt := by
  obtain ⟨D, h1, h2, h3⟩ := h
  have hbm : some bm ≠ u0.ownBlock := fun e => by
    have := (World.ownsRow.lt hu0 bm e.symm).1
    omega
  refine ⟨D, h1.kept hg hbm, h2, fun s hs => ?_⟩
  obtain ⟨u, q1, q0, q2⟩ := h3 s hs
  refine ⟨u, World.ownsRow.kept q1 hg ?_, q0, q2⟩
  by_cases hf' : f s = []
  · rw [q0 hf']; exact .inl rfl
  · by_cases hf : js = []
    · refine .inr ?_
      rw [hn0 hf]
      intro h5
      obtain ⟨A', c', rfl, _, hA'⟩ := q1.shape
      obtain ⟨g', rfl, _, _⟩ := hA' (natI_pos hf')
      simp [Value.ownBlock] at h5
    · exact .inr (rowsN_apart q1 hu0 hf' hf (hdis s))
theorem natI_app (js : List Nat) (k : Nat) : natI (js ++ [k]) = natI js ++ [(k : Int)] := by unfold natI; simp
def TabPost (base : Nat) (u v : Value) (l : List Ent) (p : List Pfx) (w : World) (r : Ending) (w' : World) : Prop :=
  ∃ base2 gT bB bW, r = .returned (.pointer (some ⟨gT, 0, none⟩)) ∧ TabFull base base2 gT bB bW u v l p w' ∧ w.heap.size ≤ gT ∧ w.grownBy w' none
theorem MapSl.look2 {base : Nat} {f : ByteArray → List Nat} {w : World} {bm cnt : Nat} (h : MapSl base f w bm cnt) (s : ByteArray) (hs : s.size ≤ 1000000) :
    ∃ u, IntsFrom base w u (natI (f s)) ∧ (f s = [] → u = .slice none 0 0) ∧ ∀ w' row, w.grownBy w' row → some bm ≠ row → (Instr.lookup 110 (.map (some bm)) (.string s) false).run Tryz.prog w' = .ok u w' := by
  obtain ⟨D, h1, h2, h3⟩ := h
  obtain ⟨u, q1, q0, q2⟩ := h3 s hs
  refine ⟨u, q1, q0, fun w' row hg hr => ?_⟩
  obtain ⟨v, ps, hrun, hv⟩ := (h1.kept hg hr).lookup slKey Tryz.underlying110 (z := .slice none 0 0) (by kernel_rfl) slR_nil (sl_key s hs)
  rw [slR_one hv q2] at hrun
  exact hrun
theorem fill_look {base2 bB bW : Nat} {p : List Pfx} {k : Nat} {W : World} (h : Fill base2 bB bW p k W) (flag : Bool) (s : ByteArray) (hs : s.size ≤ 1000000) :
    ∃ u, IntsFrom base2 W u (natI (idxTo p flag s k)) ∧ (idxTo p flag s k = [] → u = .slice none 0 0) ∧ ∀ w' , W.grownBy w' none → (Instr.lookup 110 (.map (some (if flag then bW else bB))) (.string s) false).run Tryz.prog w' = .ok u w' := by
  obtain ⟨⟨n, hn, h1⟩, ⟨m, hm, h2⟩⟩ := h
  cases flag
  · obtain ⟨u, q1, q2, q3⟩ := h1.look2 s hs
    exact ⟨u, q1, q2, fun w' hg => q3 w' none hg (by simp)⟩
  · obtain ⟨u, q1, q2, q3⟩ := h2.look2 s hs
    exact ⟨u, q1, q2, fun w' hg => q3 w' none hg (by simp)⟩
theorem fill_put (base2 bB bW : Nat) (p : List Pfx) (k : Nat) (h : k < p.length) (W W9 : World) (flag : Bool) (hw : p[k].whole = flag) (hF : Fill base2 bB bW p k W) (hb : bB < base2) (hb2 : bW < base2) (hne : bB ≠ bW) (hlen : p.length ≤ 2000) (hs : p[k].beg.size ≤ 14)
    (u0 : Value) (hu0 : IntsFrom base2 W u0 (natI (idxTo p flag p[k].beg k))) (hn0 : idxTo p flag p[k].beg k = [] → u0 = .slice none 0 0) (hg : W.grownBy W9 u0.ownBlock) (u1 : Value) (hu1 : IntsFrom base2 W9 u1 (natI (idxTo p flag p[k].beg k ++ [k]))) :
    ∃ W5, (Instr.mapUpdate 110 (.map (some (if flag then bW else bB))) (.string p[k].beg) u1).run Tryz.prog W9 = .ok () W5 ∧ Fill base2 bB bW p (k + 1) W5 ∧ W9.grownBy W5 (some (if flag then bW else bB)) := by
  obtain ⟨⟨n, hn, h1⟩, ⟨m, hm, h2⟩⟩ := hF
  have hdis : ∀ s, ∀ x ∈ idxTo p (!flag) s k, x ∉ idxTo p flag p[k].beg k := fun s x hx1 hx2 => by
    obtain ⟨_, _, e1, _⟩ := idxTo_mem hx1
    obtain ⟨_, _, e2, _⟩ := idxTo_mem hx2
    rw [e1] at e2
    cases flag <;> cases e2
  cases flag
  · obtain ⟨W5, hrun, h3, hg5⟩ := MapSl.put h1 hb (by unfold maxLen; omega) p[k].beg (by omega) u0 hu0 hn0 hg k u1 hu1 (fun s' hs' => idx_apart s' hs')
    refine ⟨W5, hrun, ⟨⟨n + 1, by omega, h3.to (idxTo_put p false k h hw)⟩, ⟨m, by omega, ?_⟩⟩, hg5⟩
    have h4 := h2.apart hb2 u0 _ hu0 hn0 hg hdis
    exact (h4.kept hg5 (fun e => hne (Option.some.inj e).symm) (fun g hg' e => by have := Option.some.inj e; omega)).to (idxTo_skip p true k h (by rw [hw]; simp))
  · obtain ⟨W5, hrun, h3, hg5⟩ := MapSl.put h2 hb2 (by unfold maxLen; omega) p[k].beg (by omega) u0 hu0 hn0 hg k u1 hu1 (fun s' hs' => idx_apart s' hs')
    refine ⟨W5, hrun, ⟨⟨n, by omega, ?_⟩, ⟨m + 1, by omega, h3.to (idxTo_put p true k h hw)⟩⟩, hg5⟩
    have h4 := h1.apart hb u0 _ hu0 hn0 hg hdis
    exact (h4.kept hg5 (fun e => hne (Option.some.inj e)) (fun g hg' e => by have := Option.some.inj e; omega)).to (idxTo_skip p false k h (by rw [hw]; simp))
set_option maxRecDepth 100000 in
set_option maxHeartbeats 8000000 in
theorem tableOf_ok (base : Nat) (u v : Value) (l : List Ent) (p : List Pfx) (w : World) (hu : EntsFrom base w u l) (hv : PfxsFrom base w v p) (hlen : p.length ≤ 2000) (hbs : ∀ x ∈ p, x.beg.size ≤ 14) :
    Calls Tryz.prog 56 #[u, v] w (TabPost base u v l p w) := by
  obtain ⟨A, c, rfl, hlen1, hA⟩ := hv.shape
  obtain ⟨A', c', rfl, hlen2, hA'⟩ := hu.shape
  obtain ⟨i0, hi, hz0, hz1, hz2⟩ := info_parts intInfo
  have HV := Lib.hid hv
  have HU := Lib.hid hu
  have HA := Lib.hid hA
  have HBS := Lib.hid hbs
  have hmm := @run_makeMap Tryz.prog
  have m1 := MapSl.made (w.heap.size + 3) w
  have m2 := MapSl.made (w.heap.size + 3) (w.alloc (.map #[] 0))
  have m1' := m1.kept (World.grownBy_alloc (w.alloc (.map #[] 0)) (.map #[] 0) none) (by simp) (by simp)
  have hB := Blk.new ((w.alloc (.map #[] 0)).alloc (.map #[] 0)) 112 #[.slice A' l.length c', .slice A p.length c, .map (some w.heap.size), .map (some (w.heap.size + 1))]
  have m1'' := m1'.kept (World.grownBy_alloc ((w.alloc (.map #[] 0)).alloc (.map #[] 0)) (.cells #[.slice A' l.length c', .slice A p.length c, .map (some w.heap.size), .map (some (w.heap.size + 1))] 112) none) (by simp) (by simp)
  have m2' := m2.kept (World.grownBy_alloc ((w.alloc (.map #[] 0)).alloc (.map #[] 0)) (.cells #[.slice A' l.length c', .slice A p.length c, .map (some w.heap.size), .map (some (w.heap.size + 1))] 112) none) (by simp) (by simp)
  have hg3 := gr_alloc (gr_alloc (World.grownBy_alloc w (.map #[] 0) none) (.map #[] 0)) (.cells #[.slice A' l.length c', .slice A p.length c, .map (some w.heap.size), .map (some (w.heap.size + 1))] 112)
  have hsz : (((w.alloc (.map #[] 0)).alloc (.map #[] 0)).alloc (.cells #[.slice A' l.length c', .slice A p.length c, .map (some w.heap.size), .map (some (w.heap.size + 1))] 112)).heap.size = w.heap.size + 3 := by simp
  simp only [World.size_alloc] at m2' hB
  have HF0 : Hid (Fill (w.heap.size + 3) w.heap.size (w.heap.size + 1) p 0 (((w.alloc (.map #[] 0)).alloc (.map #[] 0)).alloc (.cells #[.slice A' l.length c', .slice A p.length c, .map (some w.heap.size), .map (some (w.heap.size + 1))] 112))) :=
    ⟨⟨0, by omega, m1''⟩, ⟨0, by omega, m2'⟩⟩
  clear hv hu hA hA' m1 m2 m1' m1'' m2' hbs
  go_enter Tryz.func56, Tryz.ntmps56
  go_upto_region 2 with fail
  generalize ((w.alloc (.map #[] 0)).alloc (.map #[] 0)).alloc (.cells #[.slice A' l.length c', .slice A p.length c, .map (some w.heap.size), .map (some (w.heap.size + 1))] 112) = w3 at *
  obtain ⟨bB, hbB⟩ : ∃ x, w.heap.size = x := ⟨_, rfl⟩
  rw [hbB] at hB HF0 hsz ⊢
  obtain ⟨bW, hbW⟩ : ∃ x, bB + 1 = x := ⟨_, rfl⟩
  rw [hbW] at hB HF0 ⊢
  obtain ⟨gT, hgT⟩ : ∃ x, bW + 1 = x := ⟨_, rfl⟩
  rw [hgT] at hB ⊢
  obtain ⟨base2, hb2⟩ : ∃ x, bB + 3 = x := ⟨_, rfl⟩
  rw [hb2] at HF0 hsz
  have HSZ : Hid (w.heap.size = bB ∧ bB < bW ∧ bW < gT ∧ gT < base2 ∧ w3.heap.size = base2) := ⟨hbB, by omega, by omega, by omega, hsz⟩
  clear hmm hsz hbB hbW hgT hb2
  go_wp2_with fail
  go_loopw [16] (fun iv wr => ∃ k : Nat, k ≤ p.length ∧ iv = .int .i64 k ∧ Hid (Fill base2 bB bW p k wr) ∧ Blk wr gT 112 #[.slice A' l.length c', .slice A p.length c, .map (some bB), .map (some bW)] ∧ w.grownBy wr none ∧ base2 ≤ wr.heap.size) (fun iv _ => p.length - (intOf iv).toNat)
  case atStart => exact ⟨0, by omega, rfl, HF0, hB, hg3, by have := HSZ.out; omega⟩
  case round =>
    obtain ⟨k, hk, rfl, HF, hBr, hgw, hszr⟩ := hrel
    clear hB hg3 HF0
    by_cases hlt : k < p.length
    · have hki : (k : Int) < (p.length : Int) := by omega
      obtain ⟨g, rfl, _, hgl⟩ := HA.out (by omega)
      obtain ⟨q0, q1, q2, q3, q4, q5⟩ := (HV.out.grown hgw).at_ k hlt
      have hs14 := HBS.out _ (List.getElem_mem hlt)
      have hsz := HSZ.out
      have HLK0 : Hid (∀ flag, ∃ u, IntsFrom base2 wr u (natI (idxTo p flag p[k].beg k)) ∧ (idxTo p flag p[k].beg k = [] → u = .slice none 0 0) ∧ ∀ w' , wr.grownBy w' none → (Instr.lookup 110 (.map (some (if flag then bW else bB))) (.string p[k].beg) false).run Tryz.prog w' = .ok u w') := fun flag => fill_look HF.out flag p[k].beg (by omega)
      have HPUT0 : Hid (∀ flag W W9 u0, p[k].whole = flag → Fill base2 bB bW p k W → IntsFrom base2 W u0 (natI (idxTo p flag p[k].beg k)) → (idxTo p flag p[k].beg k = [] → u0 = .slice none 0 0) → W.grownBy W9 u0.ownBlock → ∀ u1, IntsFrom base2 W9 u1 (natI (idxTo p flag p[k].beg k ++ [k])) → ∃ W5, (Instr.mapUpdate 110 (.map (some (if flag then bW else bB))) (.string p[k].beg) u1).run Tryz.prog W9 = .ok () W5 ∧ Fill base2 bB bW p (k + 1) W5 ∧ W9.grownBy W5 (some (if flag then bW else bB))) := fun flag W W9 u0 hw hF hu0 hn0 hg u1 hu1 =>
        fill_put base2 bB bW p k hlt W W9 flag hw hF (by omega) (by omega) (by omega) hlen hs14 u0 hu0 hn0 hg u1 hu1
      have HNL0 : Hid (∀ flag, (natI (idxTo p flag p[k].beg k)).length ≤ 2000) := fun flag => by
        have h1 : (idxTo p flag p[k].beg k).length ≤ (List.range k).length := List.length_filter_le _ _
        rw [List.length_range] at h1
        unfold natI
        rw [List.length_map]
        omega
      have hgs := hgw.size
      have hglr : g < wr.heap.size := by omega
      generalize p[k].beg = B at *
      generalize p[k].ent = N at *
      generalize p[k].a = xa at *
      generalize p[k].z = xz at *
      generalize p[k].whole = H at *
      generalize p[k].zone = Z at *
      have hP := Blk.new wr 72 #[.string B, .string N, .int .i64 xa, .int .i64 xz, .bool H, .int .i64 Z]
      have hgA := World.grownBy_alloc wr (.cells #[.string B, .string N, .int .i64 xa, .int .i64 xz, .bool H, .int .i64 Z] 72) none
      have hg1 := gr_trans hgw hgA
      have hB1 := Blk.grown hBr hgA (by simp)
      have HF1 : Hid (Fill base2 bB bW p k (wr.alloc (.cells #[.string B, .string N, .int .i64 xa, .int .i64 xz, .bool H, .int .i64 Z] 72))) := HF.out.kept hgA (fun g h => by cases h)
      go_upto_region 5 with fail
      have HGX : Hid (base2 ≤ wr.heap.size ∧ (wr.alloc (.cells #[.string B, .string N, .int .i64 xa, .int .i64 xz, .bool H, .int .i64 Z] 72)).heap.size = wr.heap.size + 1) := ⟨by omega, by simp⟩
      generalize wr.alloc (.cells #[.string B, .string N, .int .i64 xa, .int .i64 xz, .bool H, .int .i64 Z] 72) = w1 at *
      clear q0 q1 q2 q3 q4 q5
      have x0 := hP.cell 0
      have x3 := hP.cell 4
      simp only [List.getElem?_toArray, List.getElem?_cons_zero, List.getElem?_cons_succ] at x0 x3
      have hgXT : gT ≠ wr.heap.size := by omega
      cases H
      · obtain ⟨u0, hu0, hn0, hlk0⟩ := HLK0.out false
        have hOW := (ownsRow_grown hu0 hgA).alloc (.cells #[.int .i64 k] 3)
        have HOW : Hid (World.ownsRow _ base2 3 1 u0 _ _) := (show World.ownsRow ((w1.alloc (.cells #[.int .i64 k] 3)).drew) base2 3 1 u0 _ _ from hOW)
        have HLK : Hid (∀ w', wr.grownBy w' none → (Instr.lookup 110 (.map (some bB)) (.string B) false).run Tryz.prog w' = .ok u0 w') := hlk0
        have HPD := Lib.hid (Blk.drew (Blk.alloc hP (.cells #[.int .i64 k] 3)))
        have HBD := Lib.hid (Blk.drew (Blk.alloc hB1 (.cells #[.int .i64 k] 3)))
        have HNL := Lib.hid (HNL0.out false)
        have HBL : Hid (base2 ≤ ((w1.alloc (.cells #[.int .i64 k] 3)).drew).heap.size) := by show _ ≤ _; have := HGX.out; simp; omega
        have HNE : Hid (some wr.heap.size ≠ u0.ownBlock ∧ some gT ≠ u0.ownBlock) := ⟨fun e => by have := (hu0.lt _ e.symm).2; omega, fun e => by have := (hu0.lt _ e.symm).1; omega⟩
        have hgD : wr.grownBy ((w1.alloc (.cells #[.int .i64 k] 3)).drew) none := gr_drew (gr_alloc hgA _)
        have HGD := Lib.hid (gr_trans hgw hgD)
        have HSD := Lib.hid (hgD.size)
        have HNG : Hid (∀ kk, u0.ownBlock = some kk → none = some kk ∨ w.heap.size ≤ kk) := fun kk h => .inr (by have := (hu0.lt _ h).1; omega)
        have HFD : Hid (Fill base2 bB bW p k ((w1.alloc (.cells #[.int .i64 k] 3)).drew)) := HF.out.kept hgD (fun g h => by cases h)
        have HPUT : Hid (∀ W9, ((w1.alloc (.cells #[.int .i64 k] 3)).drew).grownBy W9 u0.ownBlock → ∀ u1, IntsFrom base2 W9 u1 (natI (idxTo p false B k ++ [k])) → ∃ W5, (Instr.mapUpdate 110 (.map (some bB)) (.string B) u1).run Tryz.prog W9 = .ok () W5 ∧ Fill base2 bB bW p (k + 1) W5 ∧ W9.grownBy W5 (some bB)) := fun W9 hg u1 hu1 => HPUT0.out false _ W9 u0 rfl HFD.out HOW.out hn0 hg u1 hu1
        have cT := hB1.cell 2
        simp only [List.getElem?_toArray, List.getElem?_cons_zero, List.getElem?_cons_succ] at cT
        clear hlk0 hOW HLK0 HPUT0 hn0 hu0
        generalize wr.heap.size = gX at *
        go_wp2_with fail
        refine wp_region_held_drew (S := fun V => V.cell? ⟨gT, 2, none⟩ = some (.map (some bB)) ∧ V.cell? ⟨gX, 0, none⟩ = some (.string B)) (by kernel_rfl) ⟨cT, x0⟩ (fun hHeld => ?_)
        refine wpAnyH_take (i := 0) (v := ?_) rfl (by kernel_rfl) (by kernel_rfl) (by kernel_rfl) (fun _ _ _ h => h) (Or.inl ⟨by kernel_rfl, ?_⟩) hHeld ?_
        rotate_left
        · intro w hSw
          (try dsimp only at hSw)
          obtain ⟨hS0, hS1⟩ := hSw
          go_simp
          (try with_reducible rfl)
        change wpAnyH _ _ _ _ _ _ _ (Act.put _ (some 39) _) _
        simp only [Act.put, List.setIfInBounds_toArray, List.set_cons_zero, List.set_cons_succ]
        refine wpAnyH_take (i := 1) (v := ?_) rfl (by kernel_rfl) (by kernel_rfl) (by kernel_rfl) (fun _ _ _ h => h) (Or.inl ⟨by kernel_rfl, ?_⟩) hHeld ?_
        rotate_left
        · intro w hSw
          (try dsimp only at hSw)
          obtain ⟨hS0, hS1⟩ := hSw
          go_simp
          (try with_reducible rfl)
        change wpAnyH _ _ _ _ _ _ _ (Act.put _ (some 40) _) _
        simp only [Act.put, List.setIfInBounds_toArray, List.set_cons_zero, List.set_cons_succ]
        refine wpAnyH_take (i := 2) (v := ?_) rfl (by kernel_rfl) (by kernel_rfl) (by kernel_rfl) (fun _ _ _ h => h) (Or.inl ⟨by kernel_rfl, ?_⟩) hHeld ?_
        rotate_left
        · intro w hSw
          (try dsimp only at hSw)
          obtain ⟨hS0, hS1⟩ := hSw
          go_simp
          (try with_reducible rfl)
        change wpAnyH _ _ _ _ _ _ _ (Act.put _ (some 41) _) _
        simp only [Act.put, List.setIfInBounds_toArray, List.set_cons_zero, List.set_cons_succ]
        refine wpAnyH_take (i := 3) (v := ?_) rfl (by kernel_rfl) (by kernel_rfl) (by kernel_rfl) (fun _ _ _ h => h) (Or.inl ⟨by kernel_rfl, ?_⟩) hHeld ?_
        rotate_left
        · intro w hSw
          (try dsimp only at hSw)
          obtain ⟨hS0, hS1⟩ := hSw
          go_simp
          (try with_reducible rfl)
        change wpAnyH _ _ _ _ _ _ _ (Act.put _ (some 42) _) _
        simp only [Act.put, List.setIfInBounds_toArray, List.set_cons_zero, List.set_cons_succ]
        refine wpAnyH_take (i := 4) (v := ?_) rfl (by kernel_rfl) (by kernel_rfl) (by kernel_rfl) (fun _ _ _ h => h) (Or.inl ⟨by kernel_rfl, ?_⟩) hHeld ?_
        rotate_left
        · intro w hSw
          (try dsimp only at hSw)
          obtain ⟨hS0, hS1⟩ := hSw
          go_simp
          (try with_reducible rfl)
        change wpAnyH _ _ _ _ _ _ _ (Act.put _ (some 43) _) _
        simp only [Act.put, List.setIfInBounds_toArray, List.set_cons_zero, List.set_cons_succ]
        refine wpAnyH_take (i := 5) (v := ?_) rfl (by kernel_rfl) (by kernel_rfl) (by kernel_rfl) (fun _ _ _ h => h) (Or.inl ⟨by kernel_rfl, ?_⟩) hHeld ?_
        rotate_left
        · intro w hSw
          (try dsimp only at hSw)
          obtain ⟨hS0, hS1⟩ := hSw
          go_simp
          (try with_reducible rfl)
        change wpAnyH _ _ _ _ _ _ _ (Act.put _ (some 44) _) _
        simp only [Act.put, List.setIfInBounds_toArray, List.set_cons_zero, List.set_cons_succ]
        refine wpAnyH_take (i := 6) (v := ?_) rfl (by kernel_rfl) (by kernel_rfl) (by kernel_rfl) (fun _ _ _ h => h) (Or.inl ⟨by kernel_rfl, ?_⟩) hHeld ?_
        rotate_left
        · intro w hSw
          (try dsimp only at hSw)
          obtain ⟨hS0, hS1⟩ := hSw
          go_simp
          (try with_reducible rfl)
        change wpAnyH _ _ _ _ _ _ _ (Act.put _ (some 45) _) _
        simp only [Act.put, List.setIfInBounds_toArray, List.set_cons_zero, List.set_cons_succ]
        refine wpAnyH_take (i := 7) (v := ?_) rfl (by kernel_rfl) (by kernel_rfl) (by kernel_rfl) (fun _ _ _ h => h) (Or.inl ⟨by kernel_rfl, ?_⟩) hHeld ?_
        rotate_left
        · intro w hSw
          (try dsimp only at hSw)
          obtain ⟨hS0, hS1⟩ := hSw
          go_simp
          (try with_reducible rfl)
        change wpAnyH _ _ _ _ _ _ _ (Act.put _ (some 46) _) _
        simp only [Act.put, List.setIfInBounds_toArray, List.set_cons_zero, List.set_cons_succ]
        refine wpAnyH_take (i := 8) (v := ?_) rfl (by kernel_rfl) (by kernel_rfl) (by kernel_rfl) (fun _ _ _ h => h) (Or.inl ⟨by kernel_rfl, ?_⟩) hHeld ?_
        rotate_left
        · intro w hSw
          (try dsimp only at hSw)
          obtain ⟨hS0, hS1⟩ := hSw
          go_simp
          (try with_reducible rfl)
        change wpAnyH _ _ _ _ _ _ _ (Act.put _ (some 47) _) _
        simp only [Act.put, List.setIfInBounds_toArray, List.set_cons_zero, List.set_cons_succ]
        refine wpAnyH_take (i := 9) (v := ?_) rfl (by kernel_rfl) (by kernel_rfl) (by kernel_rfl) (fun _ _ _ h => h) (Or.inl ⟨by kernel_rfl, ?_⟩) hHeld ?_
        rotate_left
        · intro w hSw
          (try dsimp only at hSw)
          obtain ⟨hS0, hS1⟩ := hSw
          go_simp
          (try with_reducible rfl)
        change wpAnyH _ _ _ _ _ _ _ (Act.put _ (some 48) _) _
        simp only [Act.put, List.setIfInBounds_toArray, List.set_cons_zero, List.set_cons_succ]
        refine wpAnyH_take (i := 10) (v := ?_) rfl (by kernel_rfl) (by kernel_rfl) (by kernel_rfl) (fun _ _ _ h => h) (Or.inl ⟨by kernel_rfl, ?_⟩) hHeld ?_
        rotate_left
        · intro w hSw
          (try dsimp only at hSw)
          obtain ⟨hS0, hS1⟩ := hSw
          go_simp
          (try with_reducible rfl)
        change wpAnyH _ _ _ _ _ _ _ (Act.put _ (some 49) _) _
        simp only [Act.put, List.setIfInBounds_toArray, List.set_cons_zero, List.set_cons_succ]
        refine wpAnyH_take (i := 11) (v := ?_) rfl (by kernel_rfl) (by kernel_rfl) (by kernel_rfl) (fun _ _ _ h => h) (Or.inl ⟨by kernel_rfl, ?_⟩) hHeld ?_
        rotate_left
        · intro w hSw
          (try dsimp only at hSw)
          obtain ⟨hS0, hS1⟩ := hSw
          go_simp
          (try with_reducible rfl)
        change wpAnyH _ _ _ _ _ _ _ (Act.put _ (some 50) _) _
        simp only [Act.put, List.setIfInBounds_toArray, List.set_cons_zero, List.set_cons_succ]
        refine wpAnyH_take (i := 13) (v := ?_) rfl (by kernel_rfl) (by kernel_rfl) (by kernel_rfl) (fun _ _ _ h => h) (Or.inl ⟨by kernel_rfl, ?_⟩) hHeld ?_
        rotate_left
        · intro w hSw
          (try dsimp only at hSw)
          obtain ⟨hS0, hS1⟩ := hSw
          go_simp
          (try with_reducible rfl)
        change wpAnyH _ _ _ _ _ _ _ (Act.put _ (some 52) _) _
        simp only [Act.put, List.setIfInBounds_toArray, List.set_cons_zero, List.set_cons_succ]
        refine wpAnyH_ready (rs := [12, 14]) (by kernel_rfl) (by simp) ?_
        refine AllReadyH.cons (o := _) rfl (fun K hK => ?_) (AllReadyH.cons (o := _) rfl (fun K hK => ?_) AllReadyH.nil)
        · have hlk := HLK.out _ (gr_trans hgA (show w1.grownBy w1.drew none from (by repeat (first | exact gr_refl _ _ | assumption | refine gr_drew ?_ | refine gr_alloc ?_ _))))
          go_simp
          refine hK.out _ _ (⟨cT, x0⟩) (fun hHeld12 => ?_)
          clear hK K
          (try simp only [Act.put, List.setIfInBounds_toArray, List.set_cons_zero, List.set_cons_succ])
          refine wpAnyH_ready (rs := [14]) (by kernel_rfl) (by simp) ?_
          refine AllReadyH.cons (o := _) rfl (fun K hK => ?_) AllReadyH.nil
          · go_simp
            refine hK.out _ _ (⟨HBD.out.cell 2, HPD.out.cell 0⟩) (fun hHeld14 => ?_)
            clear hK K
            (try simp only [Act.put, List.setIfInBounds_toArray, List.set_cons_zero, List.set_cons_succ])
            refine wpAnyH_ready (rs := [15]) (by kernel_rfl) (by simp) ?_
            refine AllReadyH.cons (o := _) rfl (fun K hK => ?_) AllReadyH.nil
            · refine step_append_lies _ (by rfl) (.tmp 51) (.tmp 53) 22 (by rfl) base2 3 i0 _ 1 8 Tryz.underlying22 hi hz0 hz1 hz2 rfl (by decide) u0 _ _ (by simp [Act.eval]) HOW.out ⟨_, 0, none⟩ 1 1 [.int .i64 k] (by simp [Act.eval]) rfl (one_cell _ (k : Int) _) (one_oneCell (k : Int)) (by decide) (by have := HNL.out; unfold maxLen; omega) (by have := HNL.out; omega) HBL.out _ rfl ?_
              intro g9 cap w9 hown9 hg9 hat hglt
              have hP9 := Blk.grown (row := u0.ownBlock) HPD.out hg9 HNE.out.1
              have hB9 := Blk.grown (row := u0.ownBlock) HBD.out hg9 HNE.out.2
              refine hK.out _ _ ⟨hB9.cell 2, hP9.cell 0⟩ (fun hHeld15 => ?_)
              clear hK K
              (try simp only [Act.put, List.setIfInBounds_toArray, List.set_cons_zero, List.set_cons_succ])
              refine wpAnyH_ready (rs := [16]) (by kernel_rfl) (by simp) ?_
              refine AllReadyH.cons (o := _) rfl (fun K hK => ?_) AllReadyH.nil
              · obtain ⟨w5, hrun, hF5, hg5⟩ := HPUT.out w9 hg9 _ (by rw [natI_app]; unfold IntsFrom; rw [List.map_append, List.length_append]; simpa using hown9)
                have hP5 := Blk.grown hP9 hg5 (by simp; omega)
                have hB5 := Blk.grown hB9 hg5 (by simp; omega)
                go_simp
                refine hK.out _ _ ⟨hB5.cell 2, hP5.cell 0⟩ (fun hHeld16 => ?_)
                clear hK K
                (try simp only [Act.put, List.setIfInBounds_toArray, List.set_cons_zero, List.set_cons_succ])
                refine wpAnyH_done (by kernel_rfl) ?_ _
                go_wp2_with fail
                go_roundw
                case rel => exact ⟨k + 1, by omega, by go_num, hF5, hB5, gr_grown (gr_grown HGD.out hg9 HNG.out) hg5 (fun kk h => .inr (by have := HSZ.out; injection h with h; omega)), by have := hg9.size; have := hg5.size; have := HSD.out; omega⟩
                case measure => simp [intOf]; omega
        · go_simp
          refine hK.out _ _ (⟨HBD.out.cell 2, HPD.out.cell 0⟩) (fun hHeld14 => ?_)
          clear hK K
          (try simp only [Act.put, List.setIfInBounds_toArray, List.set_cons_zero, List.set_cons_succ])
          refine wpAnyH_ready (rs := [12]) (by kernel_rfl) (by simp) ?_
          refine AllReadyH.cons (o := _) rfl (fun K hK => ?_) AllReadyH.nil
          · have hlk := HLK.out _ (gr_trans hgA (show w1.grownBy ((w1.alloc (.cells #[.int .i64 k] 3)).drew) none from (by repeat (first | exact gr_refl _ _ | assumption | refine gr_drew ?_ | refine gr_alloc ?_ _))))
            go_simp
            refine hK.out _ _ (⟨HBD.out.cell 2, HPD.out.cell 0⟩) (fun hHeld12 => ?_)
            clear hK K
            (try simp only [Act.put, List.setIfInBounds_toArray, List.set_cons_zero, List.set_cons_succ])
            refine wpAnyH_ready (rs := [15]) (by kernel_rfl) (by simp) ?_
            refine AllReadyH.cons (o := _) rfl (fun K hK => ?_) AllReadyH.nil
            · refine step_append_lies _ (by rfl) (.tmp 51) (.tmp 53) 22 (by rfl) base2 3 i0 _ 1 8 Tryz.underlying22 hi hz0 hz1 hz2 rfl (by decide) u0 _ _ (by simp [Act.eval]) HOW.out ⟨_, 0, none⟩ 1 1 [.int .i64 k] (by simp [Act.eval]) rfl (one_cell _ (k : Int) _) (one_oneCell (k : Int)) (by decide) (by have := HNL.out; unfold maxLen; omega) (by have := HNL.out; omega) HBL.out _ rfl ?_
              intro g9 cap w9 hown9 hg9 hat hglt
              have hP9 := Blk.grown (row := u0.ownBlock) HPD.out hg9 HNE.out.1
              have hB9 := Blk.grown (row := u0.ownBlock) HBD.out hg9 HNE.out.2
              refine hK.out _ _ ⟨hB9.cell 2, hP9.cell 0⟩ (fun hHeld15 => ?_)
              clear hK K
              (try simp only [Act.put, List.setIfInBounds_toArray, List.set_cons_zero, List.set_cons_succ])
              refine wpAnyH_ready (rs := [16]) (by kernel_rfl) (by simp) ?_
              refine AllReadyH.cons (o := _) rfl (fun K hK => ?_) AllReadyH.nil
              · obtain ⟨w5, hrun, hF5, hg5⟩ := HPUT.out w9 hg9 _ (by rw [natI_app]; unfold IntsFrom; rw [List.map_append, List.length_append]; simpa using hown9)
                have hP5 := Blk.grown hP9 hg5 (by simp; omega)
                have hB5 := Blk.grown hB9 hg5 (by simp; omega)
                go_simp
                refine hK.out _ _ ⟨hB5.cell 2, hP5.cell 0⟩ (fun hHeld16 => ?_)
                clear hK K
                (try simp only [Act.put, List.setIfInBounds_toArray, List.set_cons_zero, List.set_cons_succ])
                refine wpAnyH_done (by kernel_rfl) ?_ _
                go_wp2_with fail
                go_roundw
                case rel => exact ⟨k + 1, by omega, by go_num, hF5, hB5, gr_grown (gr_grown HGD.out hg9 HNG.out) hg5 (fun kk h => .inr (by have := HSZ.out; injection h with h; omega)), by have := hg9.size; have := hg5.size; have := HSD.out; omega⟩
                case measure => simp [intOf]; omega
      · obtain ⟨u0, hu0, hn0, hlk0⟩ := HLK0.out true
        have hOW := (ownsRow_grown hu0 hgA).alloc (.cells #[.int .i64 k] 3)
        have HOW : Hid (World.ownsRow _ base2 3 1 u0 _ _) := (show World.ownsRow ((w1.alloc (.cells #[.int .i64 k] 3)).drew) base2 3 1 u0 _ _ from hOW)
        have HLK : Hid (∀ w', wr.grownBy w' none → (Instr.lookup 110 (.map (some bW)) (.string B) false).run Tryz.prog w' = .ok u0 w') := hlk0
        have HPD := Lib.hid (Blk.drew (Blk.alloc hP (.cells #[.int .i64 k] 3)))
        have HBD := Lib.hid (Blk.drew (Blk.alloc hB1 (.cells #[.int .i64 k] 3)))
        have HNL := Lib.hid (HNL0.out true)
        have HBL : Hid (base2 ≤ ((w1.alloc (.cells #[.int .i64 k] 3)).drew).heap.size) := by show _ ≤ _; have := HGX.out; simp; omega
        have HNE : Hid (some wr.heap.size ≠ u0.ownBlock ∧ some gT ≠ u0.ownBlock) := ⟨fun e => by have := (hu0.lt _ e.symm).2; omega, fun e => by have := (hu0.lt _ e.symm).1; omega⟩
        have hgD : wr.grownBy ((w1.alloc (.cells #[.int .i64 k] 3)).drew) none := gr_drew (gr_alloc hgA _)
        have HGD := Lib.hid (gr_trans hgw hgD)
        have HSD := Lib.hid (hgD.size)
        have HNG : Hid (∀ kk, u0.ownBlock = some kk → none = some kk ∨ w.heap.size ≤ kk) := fun kk h => .inr (by have := (hu0.lt _ h).1; omega)
        have HFD : Hid (Fill base2 bB bW p k ((w1.alloc (.cells #[.int .i64 k] 3)).drew)) := HF.out.kept hgD (fun g h => by cases h)
        have HPUT : Hid (∀ W9, ((w1.alloc (.cells #[.int .i64 k] 3)).drew).grownBy W9 u0.ownBlock → ∀ u1, IntsFrom base2 W9 u1 (natI (idxTo p true B k ++ [k])) → ∃ W5, (Instr.mapUpdate 110 (.map (some bW)) (.string B) u1).run Tryz.prog W9 = .ok () W5 ∧ Fill base2 bB bW p (k + 1) W5 ∧ W9.grownBy W5 (some bW)) := fun W9 hg u1 hu1 => HPUT0.out true _ W9 u0 rfl HFD.out HOW.out hn0 hg u1 hu1
        have cT := hB1.cell 3
        simp only [List.getElem?_toArray, List.getElem?_cons_zero, List.getElem?_cons_succ] at cT
        clear hlk0 hOW HLK0 HPUT0 hn0 hu0
        generalize wr.heap.size = gX at *
        go_wp2_with fail
        refine wp_region_held_drew (S := fun V => V.cell? ⟨gT, 3, none⟩ = some (.map (some bW)) ∧ V.cell? ⟨gX, 0, none⟩ = some (.string B)) (by kernel_rfl) ⟨cT, x0⟩ (fun hHeld => ?_)
        refine wpAnyH_take (i := 0) (v := ?_) rfl (by kernel_rfl) (by kernel_rfl) (by kernel_rfl) (fun _ _ _ h => h) (Or.inl ⟨by kernel_rfl, ?_⟩) hHeld ?_
        rotate_left
        · intro w hSw
          (try dsimp only at hSw)
          obtain ⟨hS0, hS1⟩ := hSw
          go_simp
          (try with_reducible rfl)
        change wpAnyH _ _ _ _ _ _ _ (Act.put _ (some 23) _) _
        simp only [Act.put, List.setIfInBounds_toArray, List.set_cons_zero, List.set_cons_succ]
        refine wpAnyH_take (i := 1) (v := ?_) rfl (by kernel_rfl) (by kernel_rfl) (by kernel_rfl) (fun _ _ _ h => h) (Or.inl ⟨by kernel_rfl, ?_⟩) hHeld ?_
        rotate_left
        · intro w hSw
          (try dsimp only at hSw)
          obtain ⟨hS0, hS1⟩ := hSw
          go_simp
          (try with_reducible rfl)
        change wpAnyH _ _ _ _ _ _ _ (Act.put _ (some 24) _) _
        simp only [Act.put, List.setIfInBounds_toArray, List.set_cons_zero, List.set_cons_succ]
        refine wpAnyH_take (i := 2) (v := ?_) rfl (by kernel_rfl) (by kernel_rfl) (by kernel_rfl) (fun _ _ _ h => h) (Or.inl ⟨by kernel_rfl, ?_⟩) hHeld ?_
        rotate_left
        · intro w hSw
          (try dsimp only at hSw)
          obtain ⟨hS0, hS1⟩ := hSw
          go_simp
          (try with_reducible rfl)
        change wpAnyH _ _ _ _ _ _ _ (Act.put _ (some 25) _) _
        simp only [Act.put, List.setIfInBounds_toArray, List.set_cons_zero, List.set_cons_succ]
        refine wpAnyH_take (i := 3) (v := ?_) rfl (by kernel_rfl) (by kernel_rfl) (by kernel_rfl) (fun _ _ _ h => h) (Or.inl ⟨by kernel_rfl, ?_⟩) hHeld ?_
        rotate_left
        · intro w hSw
          (try dsimp only at hSw)
          obtain ⟨hS0, hS1⟩ := hSw
          go_simp
          (try with_reducible rfl)
        change wpAnyH _ _ _ _ _ _ _ (Act.put _ (some 26) _) _
        simp only [Act.put, List.setIfInBounds_toArray, List.set_cons_zero, List.set_cons_succ]
        refine wpAnyH_take (i := 4) (v := ?_) rfl (by kernel_rfl) (by kernel_rfl) (by kernel_rfl) (fun _ _ _ h => h) (Or.inl ⟨by kernel_rfl, ?_⟩) hHeld ?_
        rotate_left
        · intro w hSw
          (try dsimp only at hSw)
          obtain ⟨hS0, hS1⟩ := hSw
          go_simp
          (try with_reducible rfl)
        change wpAnyH _ _ _ _ _ _ _ (Act.put _ (some 27) _) _
        simp only [Act.put, List.setIfInBounds_toArray, List.set_cons_zero, List.set_cons_succ]
        refine wpAnyH_take (i := 5) (v := ?_) rfl (by kernel_rfl) (by kernel_rfl) (by kernel_rfl) (fun _ _ _ h => h) (Or.inl ⟨by kernel_rfl, ?_⟩) hHeld ?_
        rotate_left
        · intro w hSw
          (try dsimp only at hSw)
          obtain ⟨hS0, hS1⟩ := hSw
          go_simp
          (try with_reducible rfl)
        change wpAnyH _ _ _ _ _ _ _ (Act.put _ (some 28) _) _
        simp only [Act.put, List.setIfInBounds_toArray, List.set_cons_zero, List.set_cons_succ]
        refine wpAnyH_take (i := 6) (v := ?_) rfl (by kernel_rfl) (by kernel_rfl) (by kernel_rfl) (fun _ _ _ h => h) (Or.inl ⟨by kernel_rfl, ?_⟩) hHeld ?_
        rotate_left
        · intro w hSw
          (try dsimp only at hSw)
          obtain ⟨hS0, hS1⟩ := hSw
          go_simp
          (try with_reducible rfl)
        change wpAnyH _ _ _ _ _ _ _ (Act.put _ (some 29) _) _
        simp only [Act.put, List.setIfInBounds_toArray, List.set_cons_zero, List.set_cons_succ]
        refine wpAnyH_take (i := 7) (v := ?_) rfl (by kernel_rfl) (by kernel_rfl) (by kernel_rfl) (fun _ _ _ h => h) (Or.inl ⟨by kernel_rfl, ?_⟩) hHeld ?_
        rotate_left
        · intro w hSw
          (try dsimp only at hSw)
          obtain ⟨hS0, hS1⟩ := hSw
          go_simp
          (try with_reducible rfl)
        change wpAnyH _ _ _ _ _ _ _ (Act.put _ (some 30) _) _
        simp only [Act.put, List.setIfInBounds_toArray, List.set_cons_zero, List.set_cons_succ]
        refine wpAnyH_take (i := 8) (v := ?_) rfl (by kernel_rfl) (by kernel_rfl) (by kernel_rfl) (fun _ _ _ h => h) (Or.inl ⟨by kernel_rfl, ?_⟩) hHeld ?_
        rotate_left
        · intro w hSw
          (try dsimp only at hSw)
          obtain ⟨hS0, hS1⟩ := hSw
          go_simp
          (try with_reducible rfl)
        change wpAnyH _ _ _ _ _ _ _ (Act.put _ (some 31) _) _
        simp only [Act.put, List.setIfInBounds_toArray, List.set_cons_zero, List.set_cons_succ]
        refine wpAnyH_take (i := 9) (v := ?_) rfl (by kernel_rfl) (by kernel_rfl) (by kernel_rfl) (fun _ _ _ h => h) (Or.inl ⟨by kernel_rfl, ?_⟩) hHeld ?_
        rotate_left
        · intro w hSw
          (try dsimp only at hSw)
          obtain ⟨hS0, hS1⟩ := hSw
          go_simp
          (try with_reducible rfl)
        change wpAnyH _ _ _ _ _ _ _ (Act.put _ (some 32) _) _
        simp only [Act.put, List.setIfInBounds_toArray, List.set_cons_zero, List.set_cons_succ]
        refine wpAnyH_take (i := 10) (v := ?_) rfl (by kernel_rfl) (by kernel_rfl) (by kernel_rfl) (fun _ _ _ h => h) (Or.inl ⟨by kernel_rfl, ?_⟩) hHeld ?_
        rotate_left
        · intro w hSw
          (try dsimp only at hSw)
          obtain ⟨hS0, hS1⟩ := hSw
          go_simp
          (try with_reducible rfl)
        change wpAnyH _ _ _ _ _ _ _ (Act.put _ (some 33) _) _
        simp only [Act.put, List.setIfInBounds_toArray, List.set_cons_zero, List.set_cons_succ]
        refine wpAnyH_take (i := 11) (v := ?_) rfl (by kernel_rfl) (by kernel_rfl) (by kernel_rfl) (fun _ _ _ h => h) (Or.inl ⟨by kernel_rfl, ?_⟩) hHeld ?_
        rotate_left
        · intro w hSw
          (try dsimp only at hSw)
          obtain ⟨hS0, hS1⟩ := hSw
          go_simp
          (try with_reducible rfl)
        change wpAnyH _ _ _ _ _ _ _ (Act.put _ (some 34) _) _
        simp only [Act.put, List.setIfInBounds_toArray, List.set_cons_zero, List.set_cons_succ]
        refine wpAnyH_take (i := 13) (v := ?_) rfl (by kernel_rfl) (by kernel_rfl) (by kernel_rfl) (fun _ _ _ h => h) (Or.inl ⟨by kernel_rfl, ?_⟩) hHeld ?_
        rotate_left
        · intro w hSw
          (try dsimp only at hSw)
          obtain ⟨hS0, hS1⟩ := hSw
          go_simp
          (try with_reducible rfl)
        change wpAnyH _ _ _ _ _ _ _ (Act.put _ (some 36) _) _
        simp only [Act.put, List.setIfInBounds_toArray, List.set_cons_zero, List.set_cons_succ]
        refine wpAnyH_ready (rs := [12, 14]) (by kernel_rfl) (by simp) ?_
        refine AllReadyH.cons (o := _) rfl (fun K hK => ?_) (AllReadyH.cons (o := _) rfl (fun K hK => ?_) AllReadyH.nil)
        · have hlk := HLK.out _ (gr_trans hgA (show w1.grownBy w1.drew none from (by repeat (first | exact gr_refl _ _ | assumption | refine gr_drew ?_ | refine gr_alloc ?_ _))))
          go_simp
          refine hK.out _ _ (⟨cT, x0⟩) (fun hHeld12 => ?_)
          clear hK K
          (try simp only [Act.put, List.setIfInBounds_toArray, List.set_cons_zero, List.set_cons_succ])
          refine wpAnyH_ready (rs := [14]) (by kernel_rfl) (by simp) ?_
          refine AllReadyH.cons (o := _) rfl (fun K hK => ?_) AllReadyH.nil
          · go_simp
            refine hK.out _ _ (⟨HBD.out.cell 3, HPD.out.cell 0⟩) (fun hHeld14 => ?_)
            clear hK K
            (try simp only [Act.put, List.setIfInBounds_toArray, List.set_cons_zero, List.set_cons_succ])
            refine wpAnyH_ready (rs := [15]) (by kernel_rfl) (by simp) ?_
            refine AllReadyH.cons (o := _) rfl (fun K hK => ?_) AllReadyH.nil
            · refine step_append_lies _ (by rfl) (.tmp 35) (.tmp 37) 22 (by rfl) base2 3 i0 _ 1 8 Tryz.underlying22 hi hz0 hz1 hz2 rfl (by decide) u0 _ _ (by simp [Act.eval]) HOW.out ⟨_, 0, none⟩ 1 1 [.int .i64 k] (by simp [Act.eval]) rfl (one_cell _ (k : Int) _) (one_oneCell (k : Int)) (by decide) (by have := HNL.out; unfold maxLen; omega) (by have := HNL.out; omega) HBL.out _ rfl ?_
              intro g9 cap w9 hown9 hg9 hat hglt
              have hP9 := Blk.grown (row := u0.ownBlock) HPD.out hg9 HNE.out.1
              have hB9 := Blk.grown (row := u0.ownBlock) HBD.out hg9 HNE.out.2
              refine hK.out _ _ ⟨hB9.cell 3, hP9.cell 0⟩ (fun hHeld15 => ?_)
              clear hK K
              (try simp only [Act.put, List.setIfInBounds_toArray, List.set_cons_zero, List.set_cons_succ])
              refine wpAnyH_ready (rs := [16]) (by kernel_rfl) (by simp) ?_
              refine AllReadyH.cons (o := _) rfl (fun K hK => ?_) AllReadyH.nil
              · obtain ⟨w5, hrun, hF5, hg5⟩ := HPUT.out w9 hg9 _ (by rw [natI_app]; unfold IntsFrom; rw [List.map_append, List.length_append]; simpa using hown9)
                have hP5 := Blk.grown hP9 hg5 (by simp; omega)
                have hB5 := Blk.grown hB9 hg5 (by simp; omega)
                go_simp
                refine hK.out _ _ ⟨hB5.cell 3, hP5.cell 0⟩ (fun hHeld16 => ?_)
                clear hK K
                (try simp only [Act.put, List.setIfInBounds_toArray, List.set_cons_zero, List.set_cons_succ])
                refine wpAnyH_done (by kernel_rfl) ?_ _
                go_wp2_with fail
                go_roundw
                case rel => exact ⟨k + 1, by omega, by go_num, hF5, hB5, gr_grown (gr_grown HGD.out hg9 HNG.out) hg5 (fun kk h => .inr (by have := HSZ.out; injection h with h; omega)), by have := hg9.size; have := hg5.size; have := HSD.out; omega⟩
                case measure => simp [intOf]; omega
        · go_simp
          refine hK.out _ _ (⟨HBD.out.cell 3, HPD.out.cell 0⟩) (fun hHeld14 => ?_)
          clear hK K
          (try simp only [Act.put, List.setIfInBounds_toArray, List.set_cons_zero, List.set_cons_succ])
          refine wpAnyH_ready (rs := [12]) (by kernel_rfl) (by simp) ?_
          refine AllReadyH.cons (o := _) rfl (fun K hK => ?_) AllReadyH.nil
          · have hlk := HLK.out _ (gr_trans hgA (show w1.grownBy ((w1.alloc (.cells #[.int .i64 k] 3)).drew) none from (by repeat (first | exact gr_refl _ _ | assumption | refine gr_drew ?_ | refine gr_alloc ?_ _))))
            go_simp
            refine hK.out _ _ (⟨HBD.out.cell 3, HPD.out.cell 0⟩) (fun hHeld12 => ?_)
            clear hK K
            (try simp only [Act.put, List.setIfInBounds_toArray, List.set_cons_zero, List.set_cons_succ])
            refine wpAnyH_ready (rs := [15]) (by kernel_rfl) (by simp) ?_
            refine AllReadyH.cons (o := _) rfl (fun K hK => ?_) AllReadyH.nil
            · refine step_append_lies _ (by rfl) (.tmp 35) (.tmp 37) 22 (by rfl) base2 3 i0 _ 1 8 Tryz.underlying22 hi hz0 hz1 hz2 rfl (by decide) u0 _ _ (by simp [Act.eval]) HOW.out ⟨_, 0, none⟩ 1 1 [.int .i64 k] (by simp [Act.eval]) rfl (one_cell _ (k : Int) _) (one_oneCell (k : Int)) (by decide) (by have := HNL.out; unfold maxLen; omega) (by have := HNL.out; omega) HBL.out _ rfl ?_
              intro g9 cap w9 hown9 hg9 hat hglt
              have hP9 := Blk.grown (row := u0.ownBlock) HPD.out hg9 HNE.out.1
              have hB9 := Blk.grown (row := u0.ownBlock) HBD.out hg9 HNE.out.2
              refine hK.out _ _ ⟨hB9.cell 3, hP9.cell 0⟩ (fun hHeld15 => ?_)
              clear hK K
              (try simp only [Act.put, List.setIfInBounds_toArray, List.set_cons_zero, List.set_cons_succ])
              refine wpAnyH_ready (rs := [16]) (by kernel_rfl) (by simp) ?_
              refine AllReadyH.cons (o := _) rfl (fun K hK => ?_) AllReadyH.nil
              · obtain ⟨w5, hrun, hF5, hg5⟩ := HPUT.out w9 hg9 _ (by rw [natI_app]; unfold IntsFrom; rw [List.map_append, List.length_append]; simpa using hown9)
                have hP5 := Blk.grown hP9 hg5 (by simp; omega)
                have hB5 := Blk.grown hB9 hg5 (by simp; omega)
                go_simp
                refine hK.out _ _ ⟨hB5.cell 3, hP5.cell 0⟩ (fun hHeld16 => ?_)
                clear hK K
                (try simp only [Act.put, List.setIfInBounds_toArray, List.set_cons_zero, List.set_cons_succ])
                refine wpAnyH_done (by kernel_rfl) ?_ _
                go_wp2_with fail
                go_roundw
                case rel => exact ⟨k + 1, by omega, by go_num, hF5, hB5, gr_grown (gr_grown HGD.out hg9 HNG.out) hg5 (fun kk h => .inr (by have := HSZ.out; injection h with h; omega)), by have := hg9.size; have := hg5.size; have := HSD.out; omega⟩
                case measure => simp [intOf]; omega
    · have hkl : ¬ (k : Int) < (p.length : Int) := by omega
      obtain rfl : k = p.length := by omega
      go_wp2_with fail
      go_ret
      obtain ⟨⟨n, _, h1⟩, ⟨m, _, h2⟩⟩ := HF.out
      exact ⟨base2, gT, bB, bW, rfl, ⟨⟨hBr.cell 0, hBr.cell 1, HU.out.grown hgw, HV.out.grown hgw⟩, hBr.cell 2, hBr.cell 3, ⟨n, h1⟩, ⟨m, h2⟩⟩, by have := HSZ.out; omega, hgw⟩
end Go.Proofs.YtbpkfkbbkgdlaaaGreatDoor

namespace Go.Proofs.YtbpkfkbbkgdlaaaGreatDoor
open Go.RowKit
set_option linter.unusedVariables false
set_option linter.unusedSimpArgs false

/-- Truth values in memory. -/
def BoolsFrom (base : Nat) (w : World) (v : Value) (l : List Bool) : Prop := w.ownsRow base 4 1 v l.length (l.map Value.bool)
theorem BoolsFrom.grown {base : Nat} {w w' : World} {v : Value} {l : List Bool} (h : BoolsFrom base w v l) (hg : w.grownBy w' none) : BoolsFrom base w' v l := ownsRow_grown h hg
theorem BoolsFrom.shape {base : Nat} {w : World} {v : Value} {l : List Bool} (h : BoolsFrom base w v l) :
    ∃ A c, v = .slice A l.length c ∧ l.length ≤ 9223372036854775807 ∧ (0 < l.length → ∃ g, A = some ⟨g, 0, none⟩ ∧ base ≤ g ∧ g < w.heap.size) := ownsRow_shape h
theorem BoolsFrom.at_ {base : Nat} {w : World} {g c : Nat} {l : List Bool} (h : BoolsFrom base w (.slice (some ⟨g, 0, none⟩) l.length c) l) (k : Nat) (hk : k < l.length) : w.cell? ⟨g, k, none⟩ = some (.bool l[k]) := by
  rw [World.ownsRow.cellAt h _ (by omega)]
  simp [hk]
/-- What needless's closure says of a prefix. -/
def butB (i : Int) (gone : List Bool) (k : Nat) : Bool := decide ((k : Int) = i) || gone.getD k false
theorem closBut (base gi gg : Nat) (i : Int) (gv : Value) (gone : List Bool) (k : Nat) (w : World) (hi : w.cell? ⟨gi, 0, none⟩ = some (.int .i64 i)) (hg : w.cell? ⟨gg, 0, none⟩ = some gv) (hv : BoolsFrom base w gv gone) (hk : k < gone.length) :
    Calls Tryz.prog 136 #[.int .i64 k, .pointer (some ⟨gi, 0, none⟩), .pointer (some ⟨gg, 0, none⟩)] w fun r w' => r = .returned (.bool (butB i gone k)) ∧ w.grownBy w' none := by
  obtain ⟨A, c, rfl, hlen, hA⟩ := hv.shape
  obtain ⟨g, rfl, _, hgl⟩ := hA (by omega)
  have c0 := hv.at_ k hk
  have hkl : (k : Int) < (gone.length : Int) := by omega
  have hR : butB i gone k = (decide ((k : Int) = i) || gone[k]) := by
    unfold butB
    rw [List.getD_eq_getElem?_getD, List.getElem?_eq_getElem hk]; rfl
  generalize gone[k] = G at *
  have HR := Lib.hid hR
  clear hR hA hv
  by_cases h : (k : Int) = i
  · have h1 : ((k : Int) == i) = true := by simpa using h
    have HX : Hid (butB i gone k = true) := by show _ = _; rw [HR.out, decide_eq_true h]; rfl
    clear h
    go_enter Tryz.func136, Tryz.ntmps136
    go_wp2_with fail
    go_ret
    exact ⟨ret_b HX.out.symm, gr_refl _ _⟩
  · have h1 : ((k : Int) == i) = false := by simpa using h
    have HX : Hid (butB i gone k = G) := by show _ = _; rw [HR.out, decide_eq_false h]; rfl
    clear h
    go_enter Tryz.func136, Tryz.ntmps136
    go_wp2_with fail
    go_ret
    exact ⟨ret_b HX.out.symm, gr_refl _ _⟩
theorem lngF_step (l : List Ent) (p : List Pfx) (t : Int) (place : ByteArray) (but : Nat → Bool) (n : Nat) : lngF l p t place but (n + 1) = if 0 ≤ cntI l p t ((idxL p false (place.extract 0 (n + 1))).filter fun i => !but i) then cntI l p t ((idxL p false (place.extract 0 (n + 1))).filter fun i => !but i) else lngF l p t place but n := rfl
theorem filter_step {α : Type} (f : α → Bool) (js : List α) (k : Nat) (h : k < js.length) : (js.take (k + 1)).filter f = if f js[k] = true then (js.take k).filter f ++ [js[k]] else (js.take k).filter f := by
  rw [List.take_succ_eq_append_getElem h, List.filter_append, List.filter_cons]
  split <;> simp
theorem eqFn_in0 (w : World) (d : Nat) : (Op.equalIn (d + 1) 81 .nilFunc .nilFunc).run Tryz.prog w = .ok true w := by
  simp [Op.equalIn, run_underlying Tryz.underlying81]
theorem eqFn_in1 (f : Fn) (a c : Array Value) (w : World) (d : Nat) : (Op.equalIn (d + 1) 81 (.func f a c) .nilFunc).run Tryz.prog w = .ok false w := by
  simp [Op.equalIn, run_underlying Tryz.underlying81]
theorem eqFn_0 (w : World) : (Op.equal 81 .nilFunc .nilFunc).run Tryz.prog w = .ok true w := eqFn_in0 w 9999
theorem eqFn_1 (f : Fn) (a c : Array Value) (w : World) : (Op.equal 81 (.func f a c) .nilFunc).run Tryz.prog w = .ok false w := eqFn_in1 f a c w 9999
@[go_sem] theorem eqFuncNil (w : World) : (binOp .eql 81 .nilFunc .nilFunc).run Tryz.prog w = .ok (.bool true) w := by
  simp only [binOp]
  simp [eqFn_0 w]
@[go_sem] theorem eqFuncHeld (f : Fn) (a c : Array Value) (w : World) : (binOp .eql 81 (.func f a c) .nilFunc).run Tryz.prog w = .ok (.bool false) w := by
  simp only [binOp]
  simp [eqFn_1 f a c w]
set_option maxRecDepth 100000 in
set_option maxHeartbeats 16000000 in
theorem longest_nil (base base2 gT bB bW : Nat) (u v : Value) (l : List Ent) (p : List Pfx) (place : ByteArray) (t : Int) (w : World) (hT : TabFull base base2 gT bB bW u v l p w) (hO : TabOk l p) (hpl : place.size ≤ 1000) :
    Calls Tryz.prog 104 #[.pointer (some ⟨gT, 0, none⟩), .string place, .int .i64 t, .nilFunc] w fun r w' => r = .returned (.int .i64 (lngP l p t place (fun _ => false))) ∧ w.grownBy w' none := by
  obtain ⟨i0, hi0, hz0, hz1, hz2⟩ := info_parts intInfo
  have HT := Lib.hid hT
  obtain ⟨M, hM⟩ : ∃ M, min 4 place.size = M := ⟨_, rfl⟩
  have hM4 : M ≤ 4 ∧ M ≤ place.size := by omega
  have hMi : min (4 : Int) (place.size : Int) = (M : Int) := by omega
  have HE : Hid (lngP l p t place (fun _ => false) = lngF l p t place (fun _ => false) M) := by show _ = _; unfold lngP; rw [hM]
  clear hM hT
  go_enter Tryz.func104, Tryz.ntmps104
  go_wp2_with fail
  go_loopw [9] (fun iv wr => ∃ n : Nat, n ≤ M ∧ iv = .int .i64 n ∧ Hid (lngP l p t place (fun _ => false) = lngF l p t place (fun _ => false) n) ∧ w.grownBy wr none) (fun iv _ => (intOf iv).toNat)
  case atStart => exact ⟨M, Nat.le_refl _, rfl, HE, gr_refl _ _⟩
  case round =>
    obtain ⟨n, hn, rfl, HN, hg⟩ := hrel
    clear hMi HE
    rcases Nat.eq_zero_or_pos n with rfl | hpos
    · have HR : Hid (lngP l p t place (fun _ => false) = -1) := HN.out
      go_wp2_with fail
      go_ret
      exact ⟨ret_of HR.out.symm, hg⟩
    · obtain ⟨m, HM⟩ : ∃ m : Nat, Hid (n = m + 1) := ⟨n - 1, by show _ = _; omega⟩
      have hn0 : (0 : Int) < (n : Int) := by omega
      have hn1 : (0 : Int) ≤ (n : Int) := by omega
      have hn2 : (n : Int) ≤ (place.size : Int) := by omega
      have hn3 : n ≤ place.size := by omega
      have hnw : IntKind.i64.wrap ((n : Int) - 1) = ((m : Nat) : Int) := by have := HM.out; rw [IntKind.wrap_i64]; omega
      have hes : (place.extract 0 n).size ≤ 1000000 := by rw [ByteArray.size_extract]; omega
      have hTr := HT.out.grown hg
      obtain ⟨nB, hmB⟩ := hTr.mB
      obtain ⟨uj, hju, _, hlk⟩ := hmB.look2 (place.extract 0 n) hes
      have hlk1 := hlk wr.drew none (gr_drew (gr_refl _ _)) (by simp)
      have hst := lngF_step l p t place (fun _ => false) m
      rw [← HM.out, ← HN.out] at hst
      have hjs : ∀ j ∈ idxL p false (place.extract 0 n), j < p.length := fun j hj => (idxL_mem.1 hj).1
      have HJL : Hid ((idxL p false (place.extract 0 n)).length ≤ 2000) := by
        show _ ≤ _
        unfold idxL idxTo
        have h1 := List.length_filter_le (idxC p false (place.extract 0 n)) (List.range p.length)
        rw [List.length_range] at h1
        have := hO.len
        omega
      have cT := hTr.cB
      have cTd : wr.drew.cell? ⟨gT, 2, none⟩ = some (.map (some bB)) := cT
      generalize hjj : idxL p false (place.extract 0 n) = js at *
      obtain ⟨A, c, rfl, hjl, hjA⟩ := hju.shape
      have hml : (natI js).length = js.length := by simp [natI]
      rw [hml] at hjl hjA hju hlk1
      have HJA := Lib.hid hjA
      have HML := Lib.hid hml
      have HJS := Lib.hid hjs
      have HST := Lib.hid hst
      clear hjA hjs hst hes hlk hmB hml
      go_upto_region 5 with fail
      refine wp_region_held_drew (S := fun V => V.cell? ⟨gT, 2, none⟩ = some (.map (some bB)) ∧ wr.grownBy V none) (by kernel_rfl) ⟨cT, gr_drew (gr_refl _ _)⟩ (fun hHeld => ?_)
      refine wpAnyH_take (i := 0) (v := ?_) rfl (by kernel_rfl) (by kernel_rfl) (by kernel_rfl) (fun _ _ _ h => h) (Or.inl ⟨by kernel_rfl, ?_⟩) hHeld ?_
      rotate_left
      · intro w hSw
        (try dsimp only at hSw)
        obtain ⟨hS0, hS1⟩ := hSw
        go_simp
        (try with_reducible rfl)
      change wpAnyH _ _ _ _ _ _ _ (Act.put _ (some 21) _) _
      simp only [Act.put, List.setIfInBounds_toArray, List.set_cons_zero, List.set_cons_succ]
      refine wpAnyH_take (i := 1) (v := ?_) rfl (by kernel_rfl) (by kernel_rfl) (by kernel_rfl) (fun _ _ _ h => h) (Or.inl ⟨by kernel_rfl, ?_⟩) hHeld ?_
      rotate_left
      · intro w hSw
        (try dsimp only at hSw)
        obtain ⟨hS0, hS1⟩ := hSw
        go_simp
        (try with_reducible rfl)
      change wpAnyH _ _ _ _ _ _ _ (Act.put _ (some 22) _) _
      simp only [Act.put, List.setIfInBounds_toArray, List.set_cons_zero, List.set_cons_succ]
      refine wpAnyH_take (i := 2) (v := ?_) rfl (by kernel_rfl) (by kernel_rfl) (by kernel_rfl) (fun _ _ _ h => h) (Or.inl ⟨by kernel_rfl, ?_⟩) hHeld ?_
      rotate_left
      · intro w hSw
        (try dsimp only at hSw)
        obtain ⟨hS0, hS1⟩ := hSw
        go_simp
        (try with_reducible rfl)
      change wpAnyH _ _ _ _ _ _ _ (Act.put _ (some 23) _) _
      simp only [Act.put, List.setIfInBounds_toArray, List.set_cons_zero, List.set_cons_succ]
      refine wpAnyH_take (i := 3) (v := ?_) rfl (by kernel_rfl) (by kernel_rfl) (by kernel_rfl) (fun _ _ _ h => h) (Or.inl ⟨by kernel_rfl, ?_⟩) hHeld ?_
      rotate_left
      · intro w hSw
        (try dsimp only at hSw)
        obtain ⟨hS0, hS1⟩ := hSw
        go_simp
        (try with_reducible rfl)
      change wpAnyH _ _ _ _ _ _ _ (Act.put _ (some 24) _) _
      simp only [Act.put, List.setIfInBounds_toArray, List.set_cons_zero, List.set_cons_succ]
      refine wpAnyH_take (i := 4) (v := ?_) rfl (by kernel_rfl) (by kernel_rfl) (by kernel_rfl) (fun _ _ _ h => h) (Or.inl ⟨by kernel_rfl, ?_⟩) hHeld ?_
      rotate_left
      · intro w hSw
        (try dsimp only at hSw)
        obtain ⟨hS0, hS1⟩ := hSw
        go_simp
        (try with_reducible rfl)
      change wpAnyH _ _ _ _ _ _ _ (Act.put _ (some 25) _) _
      simp only [Act.put, List.setIfInBounds_toArray, List.set_cons_zero, List.set_cons_succ]
      refine wpAnyH_take (i := 5) (v := ?_) rfl (by kernel_rfl) (by kernel_rfl) (by kernel_rfl) (fun _ _ _ h => h) (Or.inl ⟨by kernel_rfl, ?_⟩) hHeld ?_
      rotate_left
      · intro w hSw
        (try dsimp only at hSw)
        obtain ⟨hS0, hS1⟩ := hSw
        go_simp
        (try with_reducible rfl)
      change wpAnyH _ _ _ _ _ _ _ (Act.put _ (some 26) _) _
      simp only [Act.put, List.setIfInBounds_toArray, List.set_cons_zero, List.set_cons_succ]
      refine wpAnyH_take (i := 6) (v := ?_) rfl (by kernel_rfl) (by kernel_rfl) (by kernel_rfl) (fun _ _ _ h => h) (Or.inl ⟨by kernel_rfl, ?_⟩) hHeld ?_
      rotate_left
      · intro w hSw
        (try dsimp only at hSw)
        obtain ⟨hS0, hS1⟩ := hSw
        go_simp
        (try with_reducible rfl)
      change wpAnyH _ _ _ _ _ _ _ (Act.put _ (some 27) _) _
      simp only [Act.put, List.setIfInBounds_toArray, List.set_cons_zero, List.set_cons_succ]
      refine wpAnyH_take (i := 9) (v := ?_) rfl (by kernel_rfl) (by kernel_rfl) (by kernel_rfl) (fun _ _ _ h => h) (Or.inl ⟨by kernel_rfl, ?_⟩) hHeld ?_
      rotate_left
      · intro w hSw
        (try dsimp only at hSw)
        obtain ⟨hS0, hS1⟩ := hSw
        go_simp
        (try with_reducible rfl)
      change wpAnyH _ _ _ _ _ _ _ (Act.put _ (some 30) _) _
      simp only [Act.put, List.setIfInBounds_toArray, List.set_cons_zero, List.set_cons_succ]
      refine wpAnyH_ready (rs := [7]) (by kernel_rfl) (by simp) ?_
      refine AllReadyH.cons (o := _) rfl (fun K hK => ?_) AllReadyH.nil
      go_simp
      (skip)
      refine hK.out _ _ ⟨cT, gr_drew (gr_refl _ _)⟩ (fun hHeld7 => ?_)
      clear hK K
      (try simp only [Act.put, List.setIfInBounds_toArray, List.set_cons_zero, List.set_cons_succ])
      refine wpAnyH_take (i := 8) (v := ?_) rfl (by kernel_rfl) (by kernel_rfl) (by kernel_rfl) (fun _ _ _ h => h) (Or.inl ⟨by kernel_rfl, ?_⟩) hHeld7 ?_
      rotate_left
      · intro w hSw
        (try dsimp only at hSw)
        obtain ⟨hS0, hS1⟩ := hSw
        go_simp
        (try with_reducible rfl)
      change wpAnyH _ _ _ _ _ _ _ (Act.put _ (some 29) _) _
      simp only [Act.put, List.setIfInBounds_toArray, List.set_cons_zero, List.set_cons_succ]
      refine wpAnyH_done (by kernel_rfl) ?_ _
      have HgO := Lib.hid (gr_drew hg)
      have HJU := Lib.hid (IntsFrom.grown hju (gr_drew (gr_refl wr none)))
      have HWS : Hid (w.heap.size ≤ wr.drew.heap.size) := hg.size
      clear hlk1 cT cTd hg hjj hju
      generalize wr.drew = wo at *
      clear hTr
      go_wp2_with fail
      go_loopw [10, 30] (fun ov kv wi => ∃ k : Nat, k ≤ js.length ∧ kv = .int .i64 k ∧ IntsFrom wo.heap.size wi ov (natI ((js.take k).filter fun q => !(fun _ => false) q)) ∧ wo.grownBy wi none) (fun _ kv _ => js.length - (intOf kv).toNat)
      case atStart => exact ⟨0, by omega, rfl, by simpa [natI] using IntsFrom.nil _ _, gr_refl _ _⟩
      case round =>
        obtain ⟨k, hk, rfl, hown, hgi⟩ := hrel
        obtain ⟨A2, c2, rfl, hl2, hA2⟩ := hown.shape
        by_cases hlt : k < js.length
        · have hki : (k : Int) < (js.length : Int) := by omega
          obtain ⟨gj, rfl, _, hgl⟩ := HJA.out (by omega)
          have hat := IntsFrom.at_ (l := natI js) (g := gj) (c := c) (by rw [HML.out]; exact HJU.out.grown hgi) k (by rw [HML.out]; exact hlt)
          rw [show (natI js)[k]'(by rw [HML.out]; exact hlt) = (js[k] : Int) by simp [natI]] at hat
          have hfs := filter_step (fun q => !(fun _ => false) q) js k hlt
          have hJp := HJS.out _ (List.getElem_mem hlt)
          have HOL : Hid ((natI ((js.take k).filter fun q => !(fun _ => false) q)).length ≤ 2000) := by
            show _ ≤ _
            unfold natI
            rw [List.length_map]
            have h1 := List.length_filter_le (fun q => !(fun _ => false) q) (js.take k)
            rw [List.length_take] at h1
            have := HJL.out
            omega
          generalize hfk : (js.take k).filter (fun q => !(fun _ => false) q) = fk at *
          generalize js[k] = J at *
          have HFS := Lib.hid hfs
          have HFK := Lib.hid hfk
          have hsz := hgi.size
          clear hfs hA2 hfk
          have HNEW : Hid ((js.take (k + 1)).filter (fun q => !(fun _ => false) q) = fk ++ [J]) := by show _ = _; rw [HFS.out]; rfl
          have hownX := hown
          go_wp2_with (at_builtin; refine wpList_append_own _ rfl _ _ 22 rfl wo.heap.size 3 i0 _ 1 8 Tryz.underlying22 hi0 hz0 hz1 hz2 rfl (by decide) _ _ _ rfl (World.ownsRow.alloc (show World.ownsRow _ _ _ _ _ _ _ from hown) _) ⟨_, 0, none⟩ 1 1 [.int .i64 J] rfl rfl (one_cell _ (J : Int) _) (one_oneCell (J : Int)) (by have := HOL.out; unfold maxLen; omega) (by have := HOL.out; omega) (by simp; omega) ?_; intro v' w4 hownB hgrB _)
          have hown4 : IntsFrom wo.heap.size w4 v' (natI ((js.take (k + 1)).filter fun q => !(fun _ => false) q)) := by
            rw [HNEW.out, natI_app]
            unfold IntsFrom
            rw [List.map_append, List.length_append]
            simpa using hownB
          have hG4 : wo.grownBy w4 none := gr_grown (gr_alloc hgi _) hgrB (fun g e => .inr (by have := (hownX.lt g e).1; omega))
          go_wp2_with fail
          go_roundw
          case rel => exact ⟨k + 1, by omega, by go_num, hown4, hG4⟩
          case measure => simp [intOf]; omega
        · have hkl : ¬ (k : Int) < (js.length : Int) := by omega
          have HCN : Hid (∀ W, wo.grownBy W none → IntsFrom wo.heap.size W (.slice A2 (natI (js.take k |>.filter fun q => !(fun _ => false) q)).length c2) (natI (js.filter fun q => !(fun _ => false) q)) → Calls Tryz.prog 102 #[.pointer (some ⟨gT, 0, none⟩), .slice A2 (natI (js.take k |>.filter fun q => !(fun _ => false) q)).length c2, .int .i64 t] W fun r w' => r = .returned (.int .i64 (cntI l p t (js.filter fun q => !(fun _ => false) q))) ∧ W.grownBy w' none) := fun W hW hi => counting_ok base wo.heap.size gT u v _ l p _ t W (HT.out.at_.grown (gr_trans HgO.out hW)) hO hi (fun j hj => HJS.out j (List.mem_filter.1 hj).1)
          have hown2 : IntsFrom wo.heap.size wr (.slice A2 (natI (js.take k |>.filter fun q => !(fun _ => false) q)).length c2) (natI (js.filter fun q => !(fun _ => false) q)) := by
            rw [List.take_of_length_le (show js.length ≤ k by omega)] at hown ⊢
            exact hown
          have HC := Lib.hid (HCN.out wr hgi hown2)
          obtain ⟨r, hr⟩ : ∃ r, cntI l p t (js.filter fun q => !(fun _ => false) q) = r := ⟨_, rfl⟩
          have HSR := HST
          rw [hr] at HC HSR
          generalize (natI (js.take k |>.filter fun q => !(fun _ => false) q)).length = LN at *
          clear hown hown2 hA2 hr
          go_wp2_with fail
          refine HC.out.mono ?_
          rintro _ w3 ⟨rfl, hg3⟩
          by_cases hr0 : 0 ≤ r
          · have HR : Hid (lngP l p t place (fun _ => false) = r) := by show _ = _; rw [HSR.out, if_pos hr0]
            go_wp2_with fail
            go_ret
            exact ⟨ret_of HR.out.symm, gr_trans (gr_trans HgO.out hgi) hg3⟩
          · have HR : Hid (lngP l p t place (fun _ => false) = lngF l p t place (fun _ => false) m) := by show _ = _; rw [HSR.out, if_neg hr0]
            go_wp2_with fail
            go_roundw
            case rel => exact ⟨m, by have := HM.out; omega, by first | rfl | go_num, HR, gr_trans (gr_trans HgO.out hgi) hg3⟩
            case measure => simp [intOf]; have := HM.out; omega
set_option maxRecDepth 100000 in
set_option maxHeartbeats 16000000 in
theorem longest_but (base base2 gT bB bW : Nat) (u v : Value) (l : List Ent) (p : List Pfx) (place : ByteArray) (t : Int) (w : World) (hT : TabFull base base2 gT bB bW u v l p w) (hO : TabOk l p) (hpl : place.size ≤ 1000) (base4 gi gg : Nat) (i : Int) (gv : Value) (gone : List Bool) (hi : w.cell? ⟨gi, 0, none⟩ = some (.int .i64 i)) (hgg : w.cell? ⟨gg, 0, none⟩ = some gv) (hgv : BoolsFrom base4 w gv gone) (hgl : p.length ≤ gone.length) :
    Calls Tryz.prog 104 #[.pointer (some ⟨gT, 0, none⟩), .string place, .int .i64 t, .func (.func 136) #[] #[.pointer (some ⟨gi, 0, none⟩), .pointer (some ⟨gg, 0, none⟩)]] w fun r w' => r = .returned (.int .i64 (lngP l p t place (butB i gone))) ∧ w.grownBy w' none := by
  obtain ⟨i0, hi0, hz0, hz1, hz2⟩ := info_parts intInfo
  have HT := Lib.hid hT
  have HBUT : Hid (∀ (k : Nat) W, k < p.length → w.grownBy W none → Calls Tryz.prog 136 #[.int .i64 k, .pointer (some ⟨gi, 0, none⟩), .pointer (some ⟨gg, 0, none⟩)] W fun r w' => r = .returned (.bool (butB i gone k)) ∧ W.grownBy w' none) := fun k W hk hW => closBut base4 gi gg i gv gone k W (hW.cell hi (by simp)) (hW.cell hgg (by simp)) (hgv.grown hW) (by omega)
  clear hi hgg hgv hgl
  obtain ⟨M, hM⟩ : ∃ M, min 4 place.size = M := ⟨_, rfl⟩
  have hM4 : M ≤ 4 ∧ M ≤ place.size := by omega
  have hMi : min (4 : Int) (place.size : Int) = (M : Int) := by omega
  have HE : Hid (lngP l p t place (butB i gone) = lngF l p t place (butB i gone) M) := by show _ = _; unfold lngP; rw [hM]
  clear hM hT
  go_enter Tryz.func104, Tryz.ntmps104
  go_wp2_with fail
  go_loopw [9] (fun iv wr => ∃ n : Nat, n ≤ M ∧ iv = .int .i64 n ∧ Hid (lngP l p t place (butB i gone) = lngF l p t place (butB i gone) n) ∧ w.grownBy wr none) (fun iv _ => (intOf iv).toNat)
  case atStart => exact ⟨M, Nat.le_refl _, rfl, HE, gr_refl _ _⟩
  case round =>
    obtain ⟨n, hn, rfl, HN, hg⟩ := hrel
    clear hMi HE
    rcases Nat.eq_zero_or_pos n with rfl | hpos
    · have HR : Hid (lngP l p t place (butB i gone) = -1) := HN.out
      go_wp2_with fail
      go_ret
      exact ⟨ret_of HR.out.symm, hg⟩
    · obtain ⟨m, HM⟩ : ∃ m : Nat, Hid (n = m + 1) := ⟨n - 1, by show _ = _; omega⟩
      have hn0 : (0 : Int) < (n : Int) := by omega
      have hn1 : (0 : Int) ≤ (n : Int) := by omega
      have hn2 : (n : Int) ≤ (place.size : Int) := by omega
      have hn3 : n ≤ place.size := by omega
      have hnw : IntKind.i64.wrap ((n : Int) - 1) = ((m : Nat) : Int) := by have := HM.out; rw [IntKind.wrap_i64]; omega
      have hes : (place.extract 0 n).size ≤ 1000000 := by rw [ByteArray.size_extract]; omega
      have hTr := HT.out.grown hg
      obtain ⟨nB, hmB⟩ := hTr.mB
      obtain ⟨uj, hju, _, hlk⟩ := hmB.look2 (place.extract 0 n) hes
      have hlk1 := hlk wr.drew none (gr_drew (gr_refl _ _)) (by simp)
      have hst := lngF_step l p t place (butB i gone) m
      rw [← HM.out, ← HN.out] at hst
      have hjs : ∀ j ∈ idxL p false (place.extract 0 n), j < p.length := fun j hj => (idxL_mem.1 hj).1
      have HJL : Hid ((idxL p false (place.extract 0 n)).length ≤ 2000) := by
        show _ ≤ _
        unfold idxL idxTo
        have h1 := List.length_filter_le (idxC p false (place.extract 0 n)) (List.range p.length)
        rw [List.length_range] at h1
        have := hO.len
        omega
      have cT := hTr.cB
      have cTd : wr.drew.cell? ⟨gT, 2, none⟩ = some (.map (some bB)) := cT
      generalize hjj : idxL p false (place.extract 0 n) = js at *
      obtain ⟨A, c, rfl, hjl, hjA⟩ := hju.shape
      have hml : (natI js).length = js.length := by simp [natI]
      rw [hml] at hjl hjA hju hlk1
      have HJA := Lib.hid hjA
      have HML := Lib.hid hml
      have HJS := Lib.hid hjs
      have HST := Lib.hid hst
      clear hjA hjs hst hes hlk hmB hml
      go_upto_region 5 with fail
      refine wp_region_held_drew (S := fun V => V.cell? ⟨gT, 2, none⟩ = some (.map (some bB)) ∧ wr.grownBy V none) (by kernel_rfl) ⟨cT, gr_drew (gr_refl _ _)⟩ (fun hHeld => ?_)
      refine wpAnyH_take (i := 0) (v := ?_) rfl (by kernel_rfl) (by kernel_rfl) (by kernel_rfl) (fun _ _ _ h => h) (Or.inl ⟨by kernel_rfl, ?_⟩) hHeld ?_
      rotate_left
      · intro w hSw
        (try dsimp only at hSw)
        obtain ⟨hS0, hS1⟩ := hSw
        go_simp
        (try with_reducible rfl)
      change wpAnyH _ _ _ _ _ _ _ (Act.put _ (some 21) _) _
      simp only [Act.put, List.setIfInBounds_toArray, List.set_cons_zero, List.set_cons_succ]
      refine wpAnyH_take (i := 1) (v := ?_) rfl (by kernel_rfl) (by kernel_rfl) (by kernel_rfl) (fun _ _ _ h => h) (Or.inl ⟨by kernel_rfl, ?_⟩) hHeld ?_
      rotate_left
      · intro w hSw
        (try dsimp only at hSw)
        obtain ⟨hS0, hS1⟩ := hSw
        go_simp
        (try with_reducible rfl)
      change wpAnyH _ _ _ _ _ _ _ (Act.put _ (some 22) _) _
      simp only [Act.put, List.setIfInBounds_toArray, List.set_cons_zero, List.set_cons_succ]
      refine wpAnyH_take (i := 2) (v := ?_) rfl (by kernel_rfl) (by kernel_rfl) (by kernel_rfl) (fun _ _ _ h => h) (Or.inl ⟨by kernel_rfl, ?_⟩) hHeld ?_
      rotate_left
      · intro w hSw
        (try dsimp only at hSw)
        obtain ⟨hS0, hS1⟩ := hSw
        go_simp
        (try with_reducible rfl)
      change wpAnyH _ _ _ _ _ _ _ (Act.put _ (some 23) _) _
      simp only [Act.put, List.setIfInBounds_toArray, List.set_cons_zero, List.set_cons_succ]
      refine wpAnyH_take (i := 3) (v := ?_) rfl (by kernel_rfl) (by kernel_rfl) (by kernel_rfl) (fun _ _ _ h => h) (Or.inl ⟨by kernel_rfl, ?_⟩) hHeld ?_
      rotate_left
      · intro w hSw
        (try dsimp only at hSw)
        obtain ⟨hS0, hS1⟩ := hSw
        go_simp
        (try with_reducible rfl)
      change wpAnyH _ _ _ _ _ _ _ (Act.put _ (some 24) _) _
      simp only [Act.put, List.setIfInBounds_toArray, List.set_cons_zero, List.set_cons_succ]
      refine wpAnyH_take (i := 4) (v := ?_) rfl (by kernel_rfl) (by kernel_rfl) (by kernel_rfl) (fun _ _ _ h => h) (Or.inl ⟨by kernel_rfl, ?_⟩) hHeld ?_
      rotate_left
      · intro w hSw
        (try dsimp only at hSw)
        obtain ⟨hS0, hS1⟩ := hSw
        go_simp
        (try with_reducible rfl)
      change wpAnyH _ _ _ _ _ _ _ (Act.put _ (some 25) _) _
      simp only [Act.put, List.setIfInBounds_toArray, List.set_cons_zero, List.set_cons_succ]
      refine wpAnyH_take (i := 5) (v := ?_) rfl (by kernel_rfl) (by kernel_rfl) (by kernel_rfl) (fun _ _ _ h => h) (Or.inl ⟨by kernel_rfl, ?_⟩) hHeld ?_
      rotate_left
      · intro w hSw
        (try dsimp only at hSw)
        obtain ⟨hS0, hS1⟩ := hSw
        go_simp
        (try with_reducible rfl)
      change wpAnyH _ _ _ _ _ _ _ (Act.put _ (some 26) _) _
      simp only [Act.put, List.setIfInBounds_toArray, List.set_cons_zero, List.set_cons_succ]
      refine wpAnyH_take (i := 6) (v := ?_) rfl (by kernel_rfl) (by kernel_rfl) (by kernel_rfl) (fun _ _ _ h => h) (Or.inl ⟨by kernel_rfl, ?_⟩) hHeld ?_
      rotate_left
      · intro w hSw
        (try dsimp only at hSw)
        obtain ⟨hS0, hS1⟩ := hSw
        go_simp
        (try with_reducible rfl)
      change wpAnyH _ _ _ _ _ _ _ (Act.put _ (some 27) _) _
      simp only [Act.put, List.setIfInBounds_toArray, List.set_cons_zero, List.set_cons_succ]
      refine wpAnyH_take (i := 9) (v := ?_) rfl (by kernel_rfl) (by kernel_rfl) (by kernel_rfl) (fun _ _ _ h => h) (Or.inl ⟨by kernel_rfl, ?_⟩) hHeld ?_
      rotate_left
      · intro w hSw
        (try dsimp only at hSw)
        obtain ⟨hS0, hS1⟩ := hSw
        go_simp
        (try with_reducible rfl)
      change wpAnyH _ _ _ _ _ _ _ (Act.put _ (some 30) _) _
      simp only [Act.put, List.setIfInBounds_toArray, List.set_cons_zero, List.set_cons_succ]
      refine wpAnyH_ready (rs := [7]) (by kernel_rfl) (by simp) ?_
      refine AllReadyH.cons (o := _) rfl (fun K hK => ?_) AllReadyH.nil
      go_simp
      (skip)
      refine hK.out _ _ ⟨cT, gr_drew (gr_refl _ _)⟩ (fun hHeld7 => ?_)
      clear hK K
      (try simp only [Act.put, List.setIfInBounds_toArray, List.set_cons_zero, List.set_cons_succ])
      refine wpAnyH_take (i := 8) (v := ?_) rfl (by kernel_rfl) (by kernel_rfl) (by kernel_rfl) (fun _ _ _ h => h) (Or.inl ⟨by kernel_rfl, ?_⟩) hHeld7 ?_
      rotate_left
      · intro w hSw
        (try dsimp only at hSw)
        obtain ⟨hS0, hS1⟩ := hSw
        go_simp
        (try with_reducible rfl)
      change wpAnyH _ _ _ _ _ _ _ (Act.put _ (some 29) _) _
      simp only [Act.put, List.setIfInBounds_toArray, List.set_cons_zero, List.set_cons_succ]
      refine wpAnyH_done (by kernel_rfl) ?_ _
      have HgO := Lib.hid (gr_drew hg)
      have HJU := Lib.hid (IntsFrom.grown hju (gr_drew (gr_refl wr none)))
      have HWS : Hid (w.heap.size ≤ wr.drew.heap.size) := hg.size
      clear hlk1 cT cTd hg hjj hju
      generalize wr.drew = wo at *
      clear hTr
      go_wp2_with fail
      go_loopw [10, 30] (fun ov kv wi => ∃ k : Nat, k ≤ js.length ∧ kv = .int .i64 k ∧ IntsFrom wo.heap.size wi ov (natI ((js.take k).filter fun q => !(butB i gone) q)) ∧ wo.grownBy wi none) (fun _ kv _ => js.length - (intOf kv).toNat)
      case atStart => exact ⟨0, by omega, rfl, by simpa [natI] using IntsFrom.nil _ _, gr_refl _ _⟩
      case round =>
        obtain ⟨k, hk, rfl, hown, hgi⟩ := hrel
        obtain ⟨A2, c2, rfl, hl2, hA2⟩ := hown.shape
        by_cases hlt : k < js.length
        · have hki : (k : Int) < (js.length : Int) := by omega
          obtain ⟨gj, rfl, _, hgl⟩ := HJA.out (by omega)
          have hat := IntsFrom.at_ (l := natI js) (g := gj) (c := c) (by rw [HML.out]; exact HJU.out.grown hgi) k (by rw [HML.out]; exact hlt)
          rw [show (natI js)[k]'(by rw [HML.out]; exact hlt) = (js[k] : Int) by simp [natI]] at hat
          have hfs := filter_step (fun q => !(butB i gone) q) js k hlt
          have hJp := HJS.out _ (List.getElem_mem hlt)
          have HOL : Hid ((natI ((js.take k).filter fun q => !(butB i gone) q)).length ≤ 2000) := by
            show _ ≤ _
            unfold natI
            rw [List.length_map]
            have h1 := List.length_filter_le (fun q => !(butB i gone) q) (js.take k)
            rw [List.length_take] at h1
            have := HJL.out
            omega
          generalize hfk : (js.take k).filter (fun q => !(butB i gone) q) = fk at *
          generalize js[k] = J at *
          have HFS := Lib.hid hfs
          have HFK := Lib.hid hfk
          have hsz := hgi.size
          clear hfs hA2 hfk
          go_wp2_with fail
          refine (HBUT.out J _ hJp (gr_trans HgO.out hgi)).mono ?_
          rintro _ w3 ⟨rfl, hg3⟩
          have hown3 := hown.grown hg3
          have hgi3 := gr_trans hgi hg3
          have hsz3 := hg3.size
          have hFS2 := HFS.out
          generalize butB i gone J = BJ at *
          cases BJ
          · have HNEW : Hid ((js.take (k + 1)).filter (fun q => !(butB i gone) q) = fk ++ [J]) := by show _ = _; rw [hFS2]; rfl
            clear hFS2 hown hgi
            have hownX := hown3
            go_wp2_with (at_builtin; refine wpList_append_own _ rfl _ _ 22 rfl wo.heap.size 3 i0 _ 1 8 Tryz.underlying22 hi0 hz0 hz1 hz2 rfl (by decide) _ _ _ rfl (World.ownsRow.alloc (show World.ownsRow _ _ _ _ _ _ _ from hown3) _) ⟨_, 0, none⟩ 1 1 [.int .i64 J] rfl rfl (one_cell _ (J : Int) _) (one_oneCell (J : Int)) (by have := HOL.out; unfold maxLen; omega) (by have := HOL.out; omega) (by simp; omega) ?_; intro v' w4 hownB hgrB _)
            have hown4 : IntsFrom wo.heap.size w4 v' (natI ((js.take (k + 1)).filter fun q => !(butB i gone) q)) := by
              rw [HNEW.out, natI_app]
              unfold IntsFrom
              rw [List.map_append, List.length_append]
              simpa using hownB
            have hG4 : wo.grownBy w4 none := gr_grown (gr_alloc hgi3 _) hgrB (fun g e => .inr (by have := (hownX.lt g e).1; omega))
            go_wp2_with fail
            go_roundw
            case rel => exact ⟨k + 1, by omega, by go_num, hown4, hG4⟩
            case measure => simp [intOf]; omega
          · have HNEW : Hid ((js.take (k + 1)).filter (fun q => !(butB i gone) q) = fk) := by show _ = _; rw [hFS2]; rfl
            clear hFS2 hown hgi
            go_wp2_with fail
            go_roundw
            case rel => exact ⟨k + 1, by omega, by go_num, by rw [HNEW.out]; exact hown3, hgi3⟩
            case measure => simp [intOf]; omega
        · have hkl : ¬ (k : Int) < (js.length : Int) := by omega
          have HCN : Hid (∀ W, wo.grownBy W none → IntsFrom wo.heap.size W (.slice A2 (natI (js.take k |>.filter fun q => !(butB i gone) q)).length c2) (natI (js.filter fun q => !(butB i gone) q)) → Calls Tryz.prog 102 #[.pointer (some ⟨gT, 0, none⟩), .slice A2 (natI (js.take k |>.filter fun q => !(butB i gone) q)).length c2, .int .i64 t] W fun r w' => r = .returned (.int .i64 (cntI l p t (js.filter fun q => !(butB i gone) q))) ∧ W.grownBy w' none) := fun W hW hi => counting_ok base wo.heap.size gT u v _ l p _ t W (HT.out.at_.grown (gr_trans HgO.out hW)) hO hi (fun j hj => HJS.out j (List.mem_filter.1 hj).1)
          have hown2 : IntsFrom wo.heap.size wr (.slice A2 (natI (js.take k |>.filter fun q => !(butB i gone) q)).length c2) (natI (js.filter fun q => !(butB i gone) q)) := by
            rw [List.take_of_length_le (show js.length ≤ k by omega)] at hown ⊢
            exact hown
          have HC := Lib.hid (HCN.out wr hgi hown2)
          obtain ⟨r, hr⟩ : ∃ r, cntI l p t (js.filter fun q => !(butB i gone) q) = r := ⟨_, rfl⟩
          have HSR := HST
          rw [hr] at HC HSR
          generalize (natI (js.take k |>.filter fun q => !(butB i gone) q)).length = LN at *
          clear hown hown2 hA2 hr
          go_wp2_with fail
          refine HC.out.mono ?_
          rintro _ w3 ⟨rfl, hg3⟩
          by_cases hr0 : 0 ≤ r
          · have HR : Hid (lngP l p t place (butB i gone) = r) := by show _ = _; rw [HSR.out, if_pos hr0]
            go_wp2_with fail
            go_ret
            exact ⟨ret_of HR.out.symm, gr_trans (gr_trans HgO.out hgi) hg3⟩
          · have HR : Hid (lngP l p t place (butB i gone) = lngF l p t place (butB i gone) m) := by show _ = _; rw [HSR.out, if_neg hr0]
            go_wp2_with fail
            go_roundw
            case rel => exact ⟨m, by have := HM.out; omega, by first | rfl | go_num, HR, gr_trans (gr_trans HgO.out hgi) hg3⟩
            case measure => simp [intOf]; have := HM.out; omega
end Go.Proofs.YtbpkfkbbkgdlaaaGreatDoor

namespace Go.Proofs.YtbpkfkbbkgdlaaaGreatDoor
open Go.RowKit
set_option linter.unusedVariables false
set_option linter.unusedSimpArgs false

/-- The place of a call sign. -/
def plcOf (t pre suf ad : ByteArray) (kd : Int) : ByteArray := if kd = 1 then ad else if kd = 2 then pre.extract 0 (pre.size - 1) ++ ad ++ suf else t
set_option maxRecDepth 100000 in
set_option maxHeartbeats 2000000 in
theorem placeOf_any (t pre suf ad : ByteArray) (kd : Int) (w : World) (h1 : pre.size ≤ 100) (h2 : suf.size ≤ 100) (h3 : ad.size ≤ 100) (h4 : 1 ≤ pre.size) :
    Calls Tryz.prog 66 #[.agg #[.string t, .string pre, .string suf, .int .i64 kd, .string ad]] w fun r w' => r = .returned (.string (plcOf t pre suf ad kd)) ∧ w.grownBy w' none := by
  have hB := Blk.new w 105 #[.string t, .string pre, .string suf, .int .i64 kd, .string ad]
  have hg := World.grownBy_alloc w (.cells #[.string t, .string pre, .string suf, .int .i64 kd, .string ad] 105) none
  by_cases k1 : kd = 1
  · have HP : Hid (plcOf t pre suf ad kd = ad) := by show _ = _; unfold plcOf; rw [if_pos k1]
    rw [HP.out]
    subst k1
    go_enter Tryz.func66, Tryz.ntmps66
    go_upto_region 1 with fail
    generalize w.alloc (.cells #[.string t, .string pre, .string suf, .int .i64 1, .string ad] 105) = w1 at *
    have x3 := hB.cell 3
    have x4 := hB.cell 4
    simp only [List.getElem?_toArray, List.getElem?_cons_zero, List.getElem?_cons_succ] at x3 x4
    go_wp2_with fail
    go_ret
    exact ⟨rfl, hg⟩
  · by_cases k2 : kd = 2
    · have HP : Hid (plcOf t pre suf ad kd = pre.extract 0 (pre.size - 1) ++ ad ++ suf) := by show _ = _; unfold plcOf; rw [if_neg k1, if_pos k2]
      rw [HP.out]
      obtain ⟨M, hM⟩ : ∃ M, pre.size - 1 = M := ⟨_, rfl⟩
      rw [hM]
      have e1 : IntKind.i64.wrap ((pre.size : Int) - 1) = (M : Int) := by rw [IntKind.wrap_i64]; omega
      have e2 : IntKind.i64.wrap (M : Int) = (M : Int) := by rw [IntKind.wrap_i64]; omega
      have m1 : (M : Int) ≤ (pre.size : Int) := by omega
      have m2 : M ≤ pre.size := by omega
      have m0 : (0 : Int) ≤ (M : Int) := by omega
      have hs1 : (pre.extract 0 M).size + ad.size ≤ 9223372036854775807 := by rw [ByteArray.size_extract]; omega
      have hs2 : (pre.extract 0 M ++ ad).size + suf.size ≤ 9223372036854775807 := by rw [ByteArray.size_append, ByteArray.size_extract]; omega
      have hs3 : ¬ 9223372036854775807 < M + ad.size := by omega
      have hs4 : ¬ 9223372036854775807 < M + ad.size + suf.size := by omega
      subst k2
      have HM := Lib.hid hM
      clear k1 HP hM
      go_enter Tryz.func66, Tryz.ntmps66
      go_upto_region 1 with fail
      generalize w.alloc (.cells #[.string t, .string pre, .string suf, .int .i64 2, .string ad] 105) = w1 at *
      generalize w.heap.size = gX at *
      have x1 := hB.cell 1
      have x2 := hB.cell 2
      have x3 := hB.cell 3
      have x4 := hB.cell 4
      simp only [List.getElem?_toArray, List.getElem?_cons_zero, List.getElem?_cons_succ] at x1 x2 x3 x4
      go_wp2_with fail
      refine wp_region_held_drew (S := fun W => W.cell? ⟨gX, 1, none⟩ = some (.string pre) ∧ W.cell? ⟨gX, 2, none⟩ = some (.string suf) ∧ W.cell? ⟨gX, 4, none⟩ = some (.string ad)) (by kernel_rfl) ⟨x1, x2, x4⟩ (fun hHeld => ?_)
      refine wpAnyH_take (i := 0) (v := ?_) rfl (by kernel_rfl) (by kernel_rfl) (by kernel_rfl) (fun _ _ _ h => h) (Or.inl ⟨by kernel_rfl, ?_⟩) hHeld ?_
      rotate_left
      · intro w hSw
        (try dsimp only at hSw)
        obtain ⟨hS0, hS1, hS2⟩ := hSw
        go_simp
        (try with_reducible rfl)
      change wpAnyH _ _ _ _ _ _ _ (Act.put _ (some 11) _) _
      simp only [Act.put, List.setIfInBounds_toArray, List.set_cons_zero, List.set_cons_succ]
      refine wpAnyH_take (i := 1) (v := ?_) rfl (by kernel_rfl) (by kernel_rfl) (by kernel_rfl) (fun _ _ _ h => h) (Or.inl ⟨by kernel_rfl, ?_⟩) hHeld ?_
      rotate_left
      · intro w hSw
        (try dsimp only at hSw)
        obtain ⟨hS0, hS1, hS2⟩ := hSw
        go_simp
        (try with_reducible rfl)
      change wpAnyH _ _ _ _ _ _ _ (Act.put _ (some 12) _) _
      simp only [Act.put, List.setIfInBounds_toArray, List.set_cons_zero, List.set_cons_succ]
      refine wpAnyH_take (i := 2) (v := ?_) rfl (by kernel_rfl) (by kernel_rfl) (by kernel_rfl) (fun _ _ _ h => h) (Or.inl ⟨by kernel_rfl, ?_⟩) hHeld ?_
      rotate_left
      · intro w hSw
        (try dsimp only at hSw)
        obtain ⟨hS0, hS1, hS2⟩ := hSw
        go_simp
        (try with_reducible rfl)
      change wpAnyH _ _ _ _ _ _ _ (Act.put _ (some 13) _) _
      simp only [Act.put, List.setIfInBounds_toArray, List.set_cons_zero, List.set_cons_succ]
      refine wpAnyH_take (i := 3) (v := ?_) rfl (by kernel_rfl) (by kernel_rfl) (by kernel_rfl) (fun _ _ _ h => h) (Or.inl ⟨by kernel_rfl, ?_⟩) hHeld ?_
      rotate_left
      · intro w hSw
        (try dsimp only at hSw)
        obtain ⟨hS0, hS1, hS2⟩ := hSw
        go_simp
        (try with_reducible rfl)
      change wpAnyH _ _ _ _ _ _ _ (Act.put _ (some 14) _) _
      simp only [Act.put, List.setIfInBounds_toArray, List.set_cons_zero, List.set_cons_succ]
      refine wpAnyH_take (i := 4) (v := ?_) rfl (by kernel_rfl) (by kernel_rfl) (by kernel_rfl) (fun _ _ _ h => h) (Or.inl ⟨by kernel_rfl, ?_⟩) hHeld ?_
      rotate_left
      · intro w hSw
        (try dsimp only at hSw)
        obtain ⟨hS0, hS1, hS2⟩ := hSw
        go_simp
        (try with_reducible rfl)
      change wpAnyH _ _ _ _ _ _ _ (Act.put _ (some 15) _) _
      simp only [Act.put, List.setIfInBounds_toArray, List.set_cons_zero, List.set_cons_succ]
      refine wpAnyH_take (i := 5) (v := ?_) rfl (by kernel_rfl) (by kernel_rfl) (by kernel_rfl) (fun _ _ _ h => h) (Or.inl ⟨by kernel_rfl, ?_⟩) hHeld ?_
      rotate_left
      · intro w hSw
        (try dsimp only at hSw)
        obtain ⟨hS0, hS1, hS2⟩ := hSw
        go_simp
        (try with_reducible rfl)
      change wpAnyH _ _ _ _ _ _ _ (Act.put _ (some 16) _) _
      simp only [Act.put, List.setIfInBounds_toArray, List.set_cons_zero, List.set_cons_succ]
      refine wpAnyH_take (i := 6) (v := ?_) rfl (by kernel_rfl) (by kernel_rfl) (by kernel_rfl) (fun _ _ _ h => h) (Or.inl ⟨by kernel_rfl, ?_⟩) hHeld ?_
      rotate_left
      · intro w hSw
        (try dsimp only at hSw)
        obtain ⟨hS0, hS1, hS2⟩ := hSw
        go_simp
        (try with_reducible rfl)
      change wpAnyH _ _ _ _ _ _ _ (Act.put _ (some 17) _) _
      simp only [Act.put, List.setIfInBounds_toArray, List.set_cons_zero, List.set_cons_succ]
      refine wpAnyH_take (i := 7) (v := ?_) rfl (by kernel_rfl) (by kernel_rfl) (by kernel_rfl) (fun _ _ _ h => h) (Or.inl ⟨by kernel_rfl, ?_⟩) hHeld ?_
      rotate_left
      · intro w hSw
        (try dsimp only at hSw)
        obtain ⟨hS0, hS1, hS2⟩ := hSw
        go_simp
        (try with_reducible rfl)
      change wpAnyH _ _ _ _ _ _ _ (Act.put _ (some 18) _) _
      simp only [Act.put, List.setIfInBounds_toArray, List.set_cons_zero, List.set_cons_succ]
      refine wpAnyH_take (i := 8) (v := ?_) rfl (by kernel_rfl) (by kernel_rfl) (by kernel_rfl) (fun _ _ _ h => h) (Or.inl ⟨by kernel_rfl, ?_⟩) hHeld ?_
      rotate_left
      · intro w hSw
        (try dsimp only at hSw)
        obtain ⟨hS0, hS1, hS2⟩ := hSw
        go_simp
        (try with_reducible rfl)
      change wpAnyH _ _ _ _ _ _ _ (Act.put _ (some 19) _) _
      simp only [Act.put, List.setIfInBounds_toArray, List.set_cons_zero, List.set_cons_succ]
      refine wpAnyH_take (i := 9) (v := ?_) rfl (by kernel_rfl) (by kernel_rfl) (by kernel_rfl) (fun _ _ _ h => h) (Or.inl ⟨by kernel_rfl, ?_⟩) hHeld ?_
      rotate_left
      · intro w hSw
        (try dsimp only at hSw)
        obtain ⟨hS0, hS1, hS2⟩ := hSw
        go_simp
        (try with_reducible rfl)
      change wpAnyH _ _ _ _ _ _ _ (Act.put _ (some 20) _) _
      simp only [Act.put, List.setIfInBounds_toArray, List.set_cons_zero, List.set_cons_succ]
      refine wpAnyH_take (i := 10) (v := ?_) rfl (by kernel_rfl) (by kernel_rfl) (by kernel_rfl) (fun _ _ _ h => h) (Or.inl ⟨by kernel_rfl, ?_⟩) hHeld ?_
      rotate_left
      · intro w hSw
        (try dsimp only at hSw)
        obtain ⟨hS0, hS1, hS2⟩ := hSw
        go_simp
        (try with_reducible rfl)
      change wpAnyH _ _ _ _ _ _ _ (Act.put _ (some 21) _) _
      simp only [Act.put, List.setIfInBounds_toArray, List.set_cons_zero, List.set_cons_succ]
      refine wpAnyH_take (i := 11) (v := ?_) rfl (by kernel_rfl) (by kernel_rfl) (by kernel_rfl) (fun _ _ _ h => h) (Or.inl ⟨by kernel_rfl, ?_⟩) hHeld ?_
      rotate_left
      · intro w hSw
        (try dsimp only at hSw)
        obtain ⟨hS0, hS1, hS2⟩ := hSw
        go_simp
        (try with_reducible rfl)
      change wpAnyH _ _ _ _ _ _ _ (Act.put _ (some 22) _) _
      simp only [Act.put, List.setIfInBounds_toArray, List.set_cons_zero, List.set_cons_succ]
      refine wpAnyH_take (i := 12) (v := ?_) rfl (by kernel_rfl) (by kernel_rfl) (by kernel_rfl) (fun _ _ _ h => h) (Or.inl ⟨by kernel_rfl, ?_⟩) hHeld ?_
      rotate_left
      · intro w hSw
        (try dsimp only at hSw)
        obtain ⟨hS0, hS1, hS2⟩ := hSw
        go_simp
        (try with_reducible rfl)
      change wpAnyH _ _ _ _ _ _ _ (Act.put _ (some 23) _) _
      simp only [Act.put, List.setIfInBounds_toArray, List.set_cons_zero, List.set_cons_succ]
      refine wpAnyH_take (i := 13) (v := ?_) rfl (by kernel_rfl) (by kernel_rfl) (by kernel_rfl) (fun _ _ _ h => h) (Or.inl ⟨by kernel_rfl, ?_⟩) hHeld ?_
      rotate_left
      · intro w hSw
        (try dsimp only at hSw)
        obtain ⟨hS0, hS1, hS2⟩ := hSw
        go_simp
        (try with_reducible rfl)
      change wpAnyH _ _ _ _ _ _ _ (Act.put _ (some 2) _) _
      simp only [Act.put, List.setIfInBounds_toArray, List.set_cons_zero, List.set_cons_succ]
      refine wpAnyH_done (by kernel_rfl) ?_ _
      go_wp2_with fail
      go_ret
      exact ⟨rfl, gr_drew hg⟩
    · have HP : Hid (plcOf t pre suf ad kd = t) := by show _ = _; unfold plcOf; rw [if_neg k1, if_neg k2]
      rw [HP.out]
      have b1 : (kd == 1) = false := by simpa using k1
      have b2 : (kd == 2) = false := by simpa using k2
      clear k1 k2
      go_enter Tryz.func66, Tryz.ntmps66
      go_upto_region 1 with fail
      generalize w.alloc (.cells #[.string t, .string pre, .string suf, .int .i64 kd, .string ad] 105) = w1 at *
      have x0 := hB.cell 0
      have x3 := hB.cell 3
      simp only [List.getElem?_toArray, List.getElem?_cons_zero, List.getElem?_cons_succ] at x0 x3
      go_wp2_with fail
      go_ret
      exact ⟨rfl, hg⟩
end Go.Proofs.YtbpkfkbbkgdlaaaGreatDoor

namespace Go.Proofs.YtbpkfkbbkgdlaaaGreatDoor
open Go.RowKit
set_option linter.unusedVariables false
set_option linter.unusedSimpArgs false

abbrev Fnd := ByteArray × Int × Int
def fndX (l : List Ent) (x : Pfx) : Fnd := ((entD l x.ent).key, (entD l x.ent).cont, fndZ l x)
def whlB (l : List Ent) (s : ByteArray) (t : Int) (x : Pfx) : Bool := x.whole && (decide (x.beg = s) && cntB l x t)
def whlOf (l : List Ent) (p : List Pfx) (s : ByteArray) (t : Int) : Option Pfx := p.find? (whlB l s t)
/-- What is left of the reference's answer behind the whole prefixes. -/
def restOf (l : List Ent) (p : List Pfx) (t : Int) (q : ByteArray × Nat × Int × ByteArray) : Option Fnd :=
  if q.2.2.1 = 5 ∨ q.2.2.1 = 6 then none
  else if lngTo l p (plcOf q.1 (q.1.extract 0 (q.2.1 + 1)) (q.1.extract (q.2.1 + 1) q.1.size) q.2.2.2 q.2.2.1) t (-1) p.length < 0 then none
  else (p[(lngTo l p (plcOf q.1 (q.1.extract 0 (q.2.1 + 1)) (q.1.extract (q.2.1 + 1) q.1.size) q.2.2.2 q.2.2.1) t (-1) p.length).toNat]?).map (fndX l)
def fndOf (l : List Ent) (p : List Pfx) (s : ByteArray) (t : Int) (q : ByteArray × Nat × Int × ByteArray) : Option Fnd :=
  match whlOf l p s t with
  | some x => some (fndX l x)
  | none => restOf l p t q
def fndZ0 : Fnd := (⟨#[]⟩, 0, 0)
def FndRet (o : Option Fnd) (r : Ending) : Prop := r = .returned (.tuple #[.agg #[.string (o.getD fndZ0).1, .int .i64 (o.getD fndZ0).2.1, .int .i64 (o.getD fndZ0).2.2], .bool o.isSome])
end Go.Proofs.YtbpkfkbbkgdlaaaGreatDoor
