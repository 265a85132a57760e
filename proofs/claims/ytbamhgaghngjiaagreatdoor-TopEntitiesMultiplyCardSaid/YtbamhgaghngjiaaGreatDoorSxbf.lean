/- The jjq jlx score.Outside. Condition: parts of a size. -/
import Derived.Test.YtbamhgaghngjiaaGreatDoorSxal
namespace Go.Proofs.YtbamhgaghngjiaaGreatDoor
open Go.RowKit
set_option linter.unusedVariables false
set_option linter.unusedSimpArgs false

theorem jlc (a z : Int) (l : List Int) : ∀ k, (zb a z l k).length ≤ k
 | 0 => Nat.le_refl _
 | k + 1 => by
   have := jlc a z l k
   unfold zb
   split
   ·omega
   rw [List.length_append]; simp; omega
def jmj (c : Cst) (x : List Con) (w : World) (r : Ending) (w' : World) : Prop :=
 ∃ u, r = .returned (.tuple #[u, .int .i64 (zu c x)]) ∧ IntsFrom w.heap.size w' u (if zu c x = 0 then zb c.beg c.fin (x.map (·.tm)) x.length else []) ∧ w.grownBy w' none
set_option maxRecDepth 100000 in
set_option maxHeartbeats 8000000 in
theorem jre (base : Nat) (ev pv rv mv : Value) (c : Cst) (xv : Value) (x : List Con) (w : World) (h : CstFrom base w ev pv rv mv c) (hs : CstSm c) (hx : ConsFrom base w xv x) (hxs : ∀ y ∈ x, jbk y) :
 Calls Tryz.prog 12 #[.agg #[ev, pv, .string c.own, .int .i64 c.beg, .int .i64 c.fin, rv, mv, .bool c.byMode], xv] w (jmj c x w) := by
 obtain ⟨i0, hi0, hz0, hz1, hz2⟩ := info_parts jaa
 obtain ⟨XA, xc, rfl, hxl, hXA⟩ := hx.shape
 have HXA := Lib.hid hXA
 have HX := Lib.hid hx
 have H1 : Hid (∀ W, w.grownBy W none → Calls Tryz.prog 48 #[.agg #[ev, pv, .string c.own, .int .i64 c.beg, .int .i64 c.fin, rv, mv, .bool c.byMode], .slice XA x.length xc] W fun r w' => r = .returned (.int .i64 (zu c x)) ∧ W.grownBy w' none) := fun W hW => jdg base ev pv rv mv c _ x W (h.grown hW) hs (hx.grown hW) hxs
 have HP : Hid (∀ r w' u, r = .returned (.tuple #[u, .int .i64 (zu c x)]) → IntsFrom w.heap.size w' u (if zu c x = 0 then zb c.beg c.fin (x.map (·.tm)) x.length else []) → w.grownBy w' none → jmj c x w r w') := fun r w' u h1 h2 h3 => ⟨u, h1, h2, h3⟩
 have hlen2 : zu c x = 0 → x.length ≤ 2000 := fun h => by
  unfold zu at h
  split at h
  ·unfold qt at h
   split at h
   ·omega
   omega
  omega
 have HT : Hid (∀ k (hk : k < x.length), (x.map (·.tm)).getD k 0 = x[k].tm) := fun k hk => by simp [hk]
 generalize x.map (·.tm) = T at *
 generalize zu c x = E at *
 generalize jmj c x w = P at *
 generalize c.own = own at *
 generalize c.beg = b at *
 generalize c.fin = z at *
 generalize c.byMode = bm at *
 have hB := Blk.new w 33 #[ev, pv, .string own, .int .i64 b, .int .i64 z, rv, mv, .bool bm]
 have hgA := World.grownBy_alloc w (.cells #[ev, pv, .string own, .int .i64 b, .int .i64 z, rv, mv, .bool bm] 33) none
 clear h hs hx hxs hXA
 go_enter Tryz.func12, Tryz.ntmps12
 go_upto_region 1 with fail
 have hwC : w.heap.size < (w.alloc (.cells #[ev, pv, .string own, .int .i64 b, .int .i64 z, rv, mv, .bool bm] 33)).heap.size := by simp
 generalize w.alloc (.cells #[ev, pv, .string own, .int .i64 b, .int .i64 z, rv, mv, .bool bm] 33) = w0 at *
 obtain ⟨gC, hgC⟩ : ∃ g, w.heap.size = g := ⟨_, rfl⟩
 rw [hgC] at hB HP hwC ⊢
 have HGC := Lib.hid hgC
 clear hgC
 have k0 := hB.cell 0
 have k1 := hB.cell 1
 have k2 := hB.cell 2
 have k3 := hB.cell 3
 have k4 := hB.cell 4
 have k5 := hB.cell 5
 have k6 := hB.cell 6
 have k7 := hB.cell 7
 simp only [geA, geZ, geS] at k0 k1 k2 k3 k4 k5 k6 k7
 go_wp2_with fail
 refine (H1.out _ hgA).mono ?_
 rintro _ w1 ⟨rfl, hg1⟩
 have hG1 := ja hgA hg1
 have hB1 := hB.grown hg1 (by simp)
 clear k0 k1 k2 k3 k4 k5 k6 k7 hB
 by_cases e1 : E = 0
 rotate_left
 ·have HP2 := Lib.hid (HP.out _ w1 (.slice none 0 0) rfl (by rw [if_neg e1]; exact IntsFrom.nil _ _) hG1)
  have e1b : (E == 0) = false := by rw [beq_eq_false_iff_ne]; exact e1
  have e1n : (E != 0) = true := by rw [bne, e1b]; rfl
  clear HP
  go_wp2_with fail
  exact HP2.out
 have hxl2 := hlen2 e1
 have HP2 : Hid (∀ u w', IntsFrom gC w' u (zb b z T x.length) → w.grownBy w' none → P (.returned (.tuple #[u, .int .i64 0])) w') := fun u w' h1 h2 => by
  have := HP.out (.returned (.tuple #[u, .int .i64 E])) w' u rfl (by rw [if_pos e1]; exact h1) h2
  rwa [e1] at this
 subst e1
 clear HP H1 hlen2
 go_wp2_with fail
 go_loopw [7, 18] (fun ov kv wr => ∃ k : Nat, k ≤ x.length ∧ kv = .int .i64 k ∧ IntsFrom (gC + 1) wr ov (zb b z T k) ∧ Blk wr gC 33 #[ev, pv, .string own, .int .i64 b, .int .i64 z, rv, mv, .bool bm] ∧ w.grownBy wr none) (fun _ kv _ => x.length - (intOf kv).toNat)
 case atStart => exact ⟨0, by omega, rfl, IntsFrom.nil _ _, hB1, hG1⟩
 case round =>
  obtain ⟨k, hk, rfl, hown, hBr, hg⟩ := hrel
  clear hB1 hG1
  obtain ⟨A2, c2, rfl, _, hA2⟩ := hown.shape
  obtain ⟨LO, hLO⟩ : ∃ LO, (zb b z T k).length = LO := ⟨_, rfl⟩
  have hLOb : LO ≤ k := by rw [← hLO]; exact jlc b z T k
  by_cases hlt : k < x.length
  ·have hki : (k : Int) < (x.length : Int) := by omega
   obtain ⟨g, rfl, hg0, hg1⟩ := HXA.out (by omega)
   obtain ⟨q0, q1, q2, q3, q4, q5, q6, q7⟩ := (HX.out.grown hg).at_ k hlt
   have hst : zb b z T (k + 1) = if ja0 b z x[k].tm then zb b z T k else zb b z T k ++ [(k : Int)] := by
    rw [← HT.out k hlt]; rfl
   generalize x[k].tm = Tm at *
   generalize x[k].mode = Mo at *
   generalize x[k].band = BD at *
   generalize x[k].call = CL at *
   generalize x[k].sent = SE at *
   generalize x[k].heard = HE at *
   generalize x[k].gave = GA at *
   generalize x[k].got = GO at *
   have hH := fun W => jcv b z Tm W
   generalize ja0 b z Tm = HB at *
   have HH := Lib.hid hH
   have HST := Lib.hid hst
   rw [hLO] at hown
   (try rw [hLO])
   have HLO := Lib.hid hLO
   have HOWN := Lib.hid hown
   have hX := Blk.new wr 50 #[.int .i64 Tm, .int .i64 Mo, .string BD, .string CL, .int .i64 SE, .int .i64 HE, .string GA, .string GO]
   have hgX := World.grownBy_alloc wr (.cells #[.int .i64 Tm, .int .i64 Mo, .string BD, .string CL, .int .i64 SE, .int .i64 HE, .string GA, .string GO] 50) none
   have hBX := hBr.grown hgX (by simp)
   have hgc : gC < wr.heap.size := hBr.lt
   clear hst hLO hA2 hown hH
   go_upto_region 8 with fail
   generalize wr.alloc (.cells #[.int .i64 Tm, .int .i64 Mo, .string BD, .string CL, .int .i64 SE, .int .i64 HE, .string GA, .string GO] 50) = w5 at *
   generalize wr.heap.size = gX at *
   clear q0 q1 q2 q3 q4 q5 q6 q7
   have x0 := hX.cell 0
   have c3 := hBX.cell 3
   have c4 := hBX.cell 4
   simp only [geA, geZ, geS] at x0 c3 c4
   have hg5 := ja hg hgX
   go_wp2_with fail
   refine (HH.out _).mono ?_
   rintro _ w6 ⟨rfl, hg6⟩
   have hg6' := ja hg5 hg6
   have hown6 := Lib.hid (HOWN.out.grown (ja hgX hg6))
   have hBC6 := hBX.grown hg6 (by simp)
   clear x0 c3 c4
   cases HB
   ·have HS : Hid (zb b z T (k + 1) = zb b z T k ++ [(k : Int)]) := HST.out
    have hownR : w6.ownsRow (gC + 1) 3 1 (.slice A2 LO c2) LO ((zb b z T k).map (Value.int .i64)) := by
     have h := hown6.out
     unfold IntsFrom at h
     rw [HLO.out] at h
     exact h
    have HOR := Lib.hid hownR
    have hwg := hBC6.lt
    clear hownR
    go_wp2_with (at_builtin; refine wpList_append_own _ rfl _ _ 22 rfl (gC + 1) 3 i0 _ 1 8 Tryz.underlying22 hi0 hz0 hz1 hz2 rfl (by decide) _ LO _ rfl (World.ownsRow.alloc HOR.out _) ⟨_, 0, none⟩ 1 1 [.int .i64 k] rfl rfl (qw _ (k : Int) _) (j3 (k : Int)) (by unfold maxLen; omega) (by omega) (by simp; omega) ?_; intro v' w7 hownB hgrB _)
    have hown7 : IntsFrom (gC + 1) w7 v' (zb b z T (k + 1)) := by
     rw [HS.out]
     unfold IntsFrom
     rw [List.map_append, List.length_append, HLO.out]
     simpa using hownB
    have hG7 : w.grownBy w7 none := jh (jd hg6' _) hgrB (fun g e => .inr (by have := (HOR.out.lt g e).1; have := HGC.out; omega))
    have hBC7 := (hBC6.alloc (.cells #[.int .i64 k] 3)).grown hgrB (fun e => by have := (HOR.out.lt _ e.symm).1; omega)
    go_wp2_with fail
    go_roundw
    case rel => exact ⟨k + 1, by omega, by go_num, hown7, hBC7, hG7⟩
    case measure => simp [intOf]; omega
   have HS : Hid (zb b z T (k + 1) = zb b z T k) := HST.out
   go_wp2_with fail
   go_roundw
   case rel => exact ⟨k + 1, by omega, by go_num, by rw [HS.out]; exact hown6.out, hBC6, hg6'⟩
   case measure => simp [intOf]; omega
  have hki : ¬ (k : Int) < (x.length : Int) := by omega
  obtain rfl : k = x.length := by omega
  have HR := Lib.hid (HP2.out _ wr (jt hown (show gC ≤ gC + 1 by omega)) hg)
  rw [hLO] at HR
  go_wp2_with fail
  exact HR.out
end Go.Proofs.YtbamhgaghngjiaaGreatDoor
