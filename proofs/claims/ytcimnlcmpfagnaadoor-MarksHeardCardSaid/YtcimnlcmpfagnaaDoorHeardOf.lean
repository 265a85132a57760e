/- The walk over the document's HeardOf: the text with the unit that fits best. Condition: right marks; asciiSpace is Go's own table. -/
import Derived.Test.YtcimnlcmpfagnaaDoorWithRef
import Derived.Test.YtcimnlcmpfagnaaDoorHearRefPlain
import Derived.Test.YtcimnlcmpfagnaaDoorHearW
namespace Go.Proofs.YtcimnlcmpfagnaaDoor
open Go.RowKit
set_option linter.unusedVariables false
set_option linter.unusedSimpArgs false

def HeardRefPost (l : List Int) (w : World) (e : Ending) (w' : World) : Prop :=
  w.grownBy w' none ∧ ((hearB l = true ∧ e = .returned (.tuple #[.agg #[.string ⟨(hearS l).toArray⟩, .int .i64 (hearU l), .int .i64 (hearTo l 2000).2], .bool true])) ∨
    (hearB l = false ∧ e = .returned (.tuple #[.agg #[.string ⟨#[]⟩, .int .i64 0, .int .i64 0], .bool false])))
theorem downTo_bd {l : List Int} (hl : ∀ x ∈ l, 0 ≤ x ∧ x ≤ 1000000) (hn : l.length ≤ 20000) (k : Nat) (hk : k ≤ 2000) : 0 ≤ (downTo l k).1 ∧ (downTo l k).1 ≤ 2000 ∧ 0 ≤ (downTo l k).2 ∧ (downTo l k).2 ≤ 20000000000 := by
  rcases Nat.eq_zero_or_pos k with h0 | h0
  · subst h0; simp [downTo]
  · obtain ⟨h1, h2, h3, _⟩ := downTo_ok l k h0 hk
    have := offTo_bd hl (u := (downTo l k).1) (by omega) (by omega) l.length
    unfold offL at h3
    omega
set_option maxRecDepth 100000 in
set_option maxHeartbeats 8000000 in
theorem heardOf_any (base b : Nat) (v : Value) (l : List Int) (w : World) (hl : IntsFrom base w v l) (hE : marksE l = 0) (hgl : Gl b w) :
    Calls Tryd.prog 20 #[v] w (HeardRefPost l w) := by
  obtain ⟨m1, m2, m3⟩ := marksE_ok hE
  have m4 : ∀ x ∈ l, 0 ≤ x ∧ x ≤ 1000000 := fun x hx => by have := m3 x hx; omega
  have hB0 := Blk.new w 35 #[.string ⟨#[]⟩, .int .i64 0, .int .i64 0]
  have hG0 := World.grownBy_alloc w (.cells #[.string ⟨#[]⟩, .int .i64 0, .int .i64 0] 35) none
  have hB1 := Blk.new (w.alloc (.cells #[.string ⟨#[]⟩, .int .i64 0, .int .i64 0] 35)) 35 #[.string ⟨#[]⟩, .int .i64 0, .int .i64 0]
  have hG1 := gr_alloc hG0 (.cells #[.string ⟨#[]⟩, .int .i64 0, .int .i64 0] 35)
  have hB2 := hB0.alloc (.cells #[.string ⟨#[]⟩, .int .i64 0, .int .i64 0] 35)
  rw [show (w.alloc (.cells #[.string ⟨#[]⟩, .int .i64 0, .int .i64 0] 35)).heap.size = w.heap.size + 1 from by simp] at hB1
  obtain ⟨A, c, rfl, hlen, hA⟩ := hl.shape
  obtain ⟨g, rfl, hg0, hg1⟩ := hA (by omega)
  have HL := Lib.hid hl
  have HGL := Lib.hid hgl
  have HBD := Lib.hid (fun k hk => downTo_bd m4 m2 k hk)
  have HNR := Lib.hid (fun W i hi u (u0 : 0 ≤ u) (u1 : u ≤ 100000) h => refNear_any base (.slice (some ⟨g, 0, none⟩) l.length c) l i u W h hi (by omega) (m4 l[i] (List.getElem_mem hi)).1 (m4 l[i] (List.getElem_mem hi)).2 u0 u1)
  have HOB := Lib.hid (fun k u (u0 : 0 ≤ u) (u1 : u ≤ 100000) => offTo_bd m4 (u := u) u0 u1 k)
  have HNB := Lib.hid (fun i (hi : i < l.length) u (u0 : 0 ≤ u) (u1 : u ≤ 100000) => nearO_bd (x := l[i]) (u := u) (markB i) (m4 l[i] (List.getElem_mem hi)).1 (m4 l[i] (List.getElem_mem hi)).2 u0 u1)
  have HWU := Lib.hid (fun W u (u0 : 0 ≤ u) (u1 : u ≤ 100000) h hg => withUnit_any base b (.slice (some ⟨g, 0, none⟩) l.length c) l u W h m1 m2 m4 u0 u1 hg)
  have HM : Hid (hearB l = decide ((hearS l).length ≤ 500)) := by show _ = _; unfold hearB; rw [hE]; rfl
  have HDH := Lib.hid (down_hear l)
  clear hl hgl hE hA m1 m3 m4 hB0 hG0
  go_enter Tryd.func20, Tryd.ntmps20
  go_wp2_with fail
  generalize (w.alloc (.cells #[.string ⟨#[]⟩, .int .i64 0, .int .i64 0] 35)).alloc (.cells #[.string ⟨#[]⟩, .int .i64 0, .int .i64 0] 35) = W0 at *
  go_loopw [5] (fun i wr => ∃ k : Nat, k ≤ 2000 ∧ i = .int .i64 (2000 - (k : Int)) ∧ Blk wr w.heap.size 35 #[.string ⟨#[]⟩, .int .i64 0, .int .i64 0] ∧ Blk wr (w.heap.size + 1) 35 #[.string ⟨#[]⟩, .int .i64 (downTo l k).1, .int .i64 (downTo l k).2] ∧ w.grownBy wr none) (fun i _ => (intOf i).toNat)
  case atStart => exact ⟨0, by omega, rfl, hB2, hB1, hG1⟩
  case round =>
    obtain ⟨k, hk, rfl, hR, hH, hgr⟩ := hrel
    rename World => wo
    have hbd := HBD.out k hk
    have HN : Hid (downTo l (k + 1) = if (downTo l k).1 = 0 ∨ offL l (2000 - (k : Int)) < (downTo l k).2 then (2000 - (k : Int), offL l (2000 - (k : Int))) else downTo l k) := rfl
    by_cases hlt : k < 2000
    · obtain ⟨S, hS⟩ : ∃ S, (downTo l k).1 = S := ⟨_, rfl⟩
      obtain ⟨O, hO⟩ : ∃ O, (downTo l k).2 = O := ⟨_, rfl⟩
      have hSO : downTo l k = (S, O) := by rw [← hS, ← hO]
      rw [hSO] at HN hH
      rw [hS, hO] at hbd
      clear hS hO hSO
      simp only at HN hH
      have HK : Hid (IntKind.i64.wrap (2000 - (k : Int) - 1) = 2000 - ((k + 1 : Nat) : Int)) := by
        show _ = _
        rw [IntWalk.i64_in _ ⟨by omega, by omega⟩]; push_cast; omega
      obtain ⟨u, hu⟩ : ∃ u : Int, u = 2000 - (k : Int) := ⟨_, rfl⟩
      have hu1 : 1 ≤ u := by omega
      have hu2 : u ≤ 2000 := by omega
      rw [← hu] at HN HK ⊢
      have hkk := Lib.hid hu
      clear hu
      obtain ⟨hs0, hs1, ho0, ho1⟩ := hbd
      go_wp2_with fail
      go_loopw [6, 16] (fun s i wr => ∃ q : Nat, q ≤ l.length ∧ i = .int .i64 q ∧ s = .int .i64 (offTo l u q) ∧ wo.grownBy wr none) (fun _ i _ => l.length - (intOf i).toNat)
      case atStart => exact ⟨0, by omega, rfl, rfl, gr_refl _ _⟩
      case round =>
        obtain ⟨q, hq, rfl, rfl, hgi⟩ := hrel
        obtain ⟨z0, z1⟩ := HOB.out q u (by omega) (by omega)
        by_cases hql : q < l.length
        · have hqi : (q : Int) < (l.length : Int) := by omega
          have HX : Hid (offTo l u (q + 1) = offTo l u q + nearO (markB q) l[q] u) := by
            show offTo l u q + nearO (markB q) (l.getD q 0) u = _
            rw [List.getD_eq_getElem?_getD, List.getElem?_eq_getElem hql]; rfl
          have HNE := Lib.hid (HNR.out wr q hql u (by omega) (by omega) (HL.out.grown (gr_trans hgr hgi)))
          obtain ⟨y0, y1⟩ := HNB.out q hql u (by omega) (by omega)
          generalize nearO (markB q) l[q] u = D at *
          generalize nearU (markB q) l[q] u = U at *
          generalize offTo l u q = Z at *
          go_wp2_with fail
          refine HNE.out.mono ?_
          rintro _ w2 ⟨rfl, hg2⟩
          go_wp2_with fail
          go_roundw
          case rel => exact ⟨q + 1, by omega, by go_num, by rw [HX.out], gr_trans hgi hg2⟩
          case measure => simp [intOf]; omega
        · have hqi : ¬ (q : Int) < (l.length : Int) := by omega
          obtain rfl : q = l.length := by omega
          have HZ : Hid (offL l u = offTo l u l.length) := rfl
          have hR2 := hR.grown hgi (by simp)
          have hH2 := hH.grown hgi (by simp)
          have hgr2 := gr_trans hgr hgi
          obtain ⟨c0, c1, c2⟩ := blk_cells3 hH2
          have hf := hH2.free
          have hlt2 := hH2.lt
          rw [HZ.out] at HN
          clear hR hH hgr hgi
          generalize offTo l u l.length = Z at *
          by_cases hd : S = 0
          · subst hd
            have HN2 : Hid (downTo l (k + 1) = (u, Z)) := by show _ = _; rw [HN.out, if_pos (.inl rfl)]
            go_wp2_with fail
            go_roundw
            case rel => exact ⟨k + 1, by omega, by have := hkk.out; go_num, hR2.far (p := ⟨w.heap.size + 1, 1, none⟩) (by simp) _ |>.far (p := ⟨w.heap.size + 1, 2, none⟩) (by simp) _, by rw [HN2.out]; exact (hH2.put 1 _).put 2 _, gr_put (gr_put hgr2 (.inr (by simp)) _) (.inr (by simp)) _⟩
            case measure => have := hkk.out; simp [intOf]; omega
          · have hd2 : (S == 0) = false := by rw [beq_eq_false_iff_ne]; exact hd
            by_cases hle : Z < O
            · have HN2 : Hid (downTo l (k + 1) = (u, Z)) := by show _ = _; rw [HN.out, if_pos (.inr hle)]
              go_wp2_with fail
              go_roundw
              case rel => exact ⟨k + 1, by omega, by have := hkk.out; go_num, hR2.far (p := ⟨w.heap.size + 1, 1, none⟩) (by simp) _ |>.far (p := ⟨w.heap.size + 1, 2, none⟩) (by simp) _, by rw [HN2.out]; exact (hH2.put 1 _).put 2 _, gr_put (gr_put hgr2 (.inr (by simp)) _) (.inr (by simp)) _⟩
              case measure => have := hkk.out; simp [intOf]; omega
            · have HN2 : Hid (downTo l (k + 1) = (S, O)) := by show _ = _; rw [HN.out, if_neg (by omega)]
              go_wp2_with fail
              go_roundw
              case rel => exact ⟨k + 1, by omega, by have := hkk.out; go_num, hR2, by rw [HN2.out]; exact hH2, hgr2⟩
              case measure => have := hkk.out; simp [intOf]; omega
    · obtain rfl : k = 2000 := by omega
      rw [HDH.out] at hH hbd
      have hU : (hearTo l 2000).1 = hearU l := rfl
      rw [hU] at hH hbd
      have HS : Hid (readL l (hearU l) = hearS l) := rfl
      have hz : (2000 : Int) - ((2000 : Nat) : Int) = 0 := rfl
      rw [hz]
      have HWU2 := Lib.hid (HWU.out wo (hearU l) hbd.1 (by omega) (HL.out.grown hgr) (HGL.out.quiet hgr))
      obtain ⟨s, hs, hsz⟩ : ∃ s : ByteArray, s = strB (hearS l) ∧ s.size = (hearS l).length := ⟨_, rfl, strB_size _⟩
      rw [HS.out, ← hs] at HWU2
      have HV : Hid (s = ⟨(hearS l).toArray⟩) := hs
      obtain ⟨c0, c1, c2⟩ := blk_cells3 hH
      generalize offL l (hearU l) = OF at *
      have HQ : Hid ((hearTo l 2000).2 = (hearTo l 2000).2) := rfl
      obtain ⟨Q, hQ⟩ : ∃ Q, (hearTo l 2000).2 = Q := ⟨_, rfl⟩
      obtain ⟨U, hUU⟩ : ∃ U, hearU l = U := ⟨_, rfl⟩
      rw [hUU] at HWU2 hH c1
      rw [hQ] at hH c2
      have HUQ : Hid (hearU l = U ∧ (hearTo l 2000).2 = Q) := ⟨hUU, hQ⟩
      clear hbd hU hs hUU hQ HN hz
      by_cases hle : s.size ≤ 500
      · have HM2 : Hid (hearB l = true) := by show _ = _; rw [HM.out, decide_eq_true_eq]; omega
        have hle2 : ¬ (500 < (s.size : Int)) := by omega
        clear hsz hle
        go_wp2_with fail
        refine HWU2.out.mono ?_
        rintro _ w2 ⟨rfl, hg2⟩
        have hR2 := hR.grown hg2 (by simp)
        have hH2 := hH.grown hg2 (by simp)
        have hgr2 := gr_trans hgr hg2
        obtain ⟨d0, d1, d2⟩ := blk_cells3 hH2
        have hf := hH2.free
        have hf2 := hR2.free
        have hH3 := hH2.put 0 (.string s)
        have hR3 := hR2.far (p := ⟨w.heap.size + 1, 0, none⟩) (by simp) (.string s)
        obtain ⟨e0, e1, e2⟩ := blk_cells3 (a := .string s) hH3
        obtain ⟨f0, f1, f2⟩ := blk_cells3 hR3
        have hlt2 := hH2.lt
        have hlt3 := hR2.lt
        clear c0 c1 c2
        go_wp2_with fail
        obtain ⟨q0, q1, q2⟩ := blk_ends3 hR3 (.string s) (.int .i64 U) (.int .i64 Q)
        refine bodyPost_ret (v := .tuple #[.agg #[.string s, .int .i64 U, .int .i64 Q], .bool true]) (by simp [results, Tryd.results20, go_sem, q0, q1, q2]) rfl ?_
        exact ⟨gr_puts3 (gr_put hgr2 (.inr (by simp)) _) (Nat.le_refl _) _ _ _, .inl ⟨HM2.out, by rw [HV.out, HUQ.out.1, HUQ.out.2]⟩⟩
      · have HM2 : Hid (hearB l = false) := by show _ = _; rw [HM.out, decide_eq_false_iff_not]; omega
        have hle2 : 500 < (s.size : Int) := by omega
        clear hsz hle
        go_wp2_with fail
        refine HWU2.out.mono ?_
        rintro _ w2 ⟨rfl, hg2⟩
        have hR2 := hR.grown hg2 (by simp)
        have hH2 := hH.grown hg2 (by simp)
        have hgr2 := gr_trans hgr hg2
        obtain ⟨d0, d1, d2⟩ := blk_cells3 hH2
        have hf := hH2.free
        have hf2 := hR2.free
        have hH3 := hH2.put 0 (.string s)
        have hR3 := hR2.far (p := ⟨w.heap.size + 1, 0, none⟩) (by simp) (.string s)
        obtain ⟨e0, e1, e2⟩ := blk_cells3 (a := .string s) hH3
        obtain ⟨f0, f1, f2⟩ := blk_cells3 hR3
        have hlt2 := hH2.lt
        have hlt3 := hR2.lt
        clear c0 c1 c2
        go_wp2_with fail
        obtain ⟨q0, q1, q2⟩ := blk_ends3 hR3 (.string ⟨#[]⟩) (.int .i64 0) (.int .i64 0)
        refine bodyPost_ret (v := .tuple #[.agg #[.string ⟨#[]⟩, .int .i64 0, .int .i64 0], .bool false]) (by simp [results, Tryd.results20, go_sem, q0, q1, q2]) rfl ?_
        exact ⟨gr_puts3 (gr_put hgr2 (.inr (by simp)) _) (Nat.le_refl _) _ _ _, .inr ⟨HM2.out, rfl⟩⟩
end Go.Proofs.YtcimnlcmpfagnaaDoor
