/- The walks over the closures that ask whether it is grey, over place.times and pileref1.AskedWindows with them: both find the windows of the plain law. Condition: sites and moments in their ranges. -/
import Derived.Test.YtngdjeggigkmlaaDoorWin
import Derived.Test.YtngdjeggigkmlaaDoorSky
namespace Go.Proofs.YtngdjeggigkmlaaDoor
open Go.RowKit
set_option linter.unusedVariables false

/-- What is known of the variables that a closure has caught. -/
structure SiteAt (w : World) (b : Nat) (n e : Int) : Prop where
  blk : Blk w b 27 #[.int .i64 n, .int .i64 e]
  n0 : -10000000 ≤ n
  n1 : n ≤ 10000000
  e0 : -10000000 ≤ e
  e1 : e ≤ 10000000
structure NumAt (w : World) (b : Nat) (v : Int) : Prop where
  blk : Blk w b 3 #[.int .i64 v]
  v0 : 0 ≤ v
  v1 : v ≤ 10000000
theorem SiteAt.grown {w w' : World} {b : Nat} {n e : Int} (h : SiteAt w b n e) (hg : w.grownBy w' none) : SiteAt w' b n e := ⟨h.blk.grown hg (by simp), h.n0, h.n1, h.e0, h.e1⟩
theorem NumAt.grown {w w' : World} {b : Nat} {v : Int} (h : NumAt w b v) (hg : w.grownBy w' none) : NumAt w' b v := ⟨h.blk.grown hg (by simp), h.v0, h.v1⟩

def grey1 (n e v : Int) : Int → Bool := fun x => greyB n e x v
def grey2 (n e n2 d2 v : Int) : Int → Bool := fun x => greyB n e x v && greyB n2 d2 x v


set_option maxHeartbeats 400000 in
theorem gt1_any (x n e v : Int) (bp bv : Nat) (w : World) (hp : SiteAt w bp n e) (hv : NumAt w bv v) (h0 : 0 ≤ x) (h1 : x ≤ 400000000000) :
    Calls Tryd.prog 42 #[.int .i64 x, .pointer (some ⟨bp, 0, none⟩), .pointer (some ⟨bv, 0, none⟩)] w fun r w' => r = .returned (.bool (grey1 n e v x)) ∧ w.grownBy w' none := by
  have c0 := hp.blk.cell 0
  have c1 := hp.blk.cell 1
  have d0 := hv.blk.cell 0
  simp only [List.getElem?_toArray, List.getElem?_cons_zero, List.getElem?_cons_succ] at c0 c1 d0
  go_enter Tryd.func42, Tryd.ntmps42
  go_wp2_with fail
  refine (grey_any _ _ _ _ _ h0 h1 hp.n0 hp.n1 hp.e0 hp.e1 hv.v0 hv.v1).mono ?_
  rintro r w1 ⟨rfl, hg1⟩
  go_wp2_with fail
  go_ret
  exact ⟨rfl, hg1⟩


/-- What a loop over windows knows of its world. -/
structure WinWorld (f : Int → Bool) (a every zt x : Int) (o : Bool) (v : Value) (w wr : World) (st : List (Int × Int) × Bool) : Prop where
  rel : WinRel f a every zt x st
  opened : o = st.2
  own : wr.ownsRow (w.heap.size + 1) 52 2 v st.1.length (wcells st.1)
  gr : w.grownBy wr none
  box : Blk wr w.heap.size 52 #[.int .i64 a, .int .i64 zt]
  low : a ≤ x
  high : x ≤ 345686400000 + 86400000

theorem WinWorld.grown {f : Int → Bool} {a every zt x : Int} {o : Bool} {v : Value} {w wr w' : World} {st : List (Int × Int) × Bool} (R : WinWorld f a every zt x o v w wr st) (hg : wr.grownBy w' none) : WinWorld f a every zt x o v w w' st :=
  ⟨R.rel, R.opened, ownsRow_grown R.own hg, gr_trans R.gr hg, R.box.grown hg (by simp), R.low, R.high⟩
theorem WinWorld.same {f : Int → Bool} {a every zt x : Int} {o : Bool} {v : Value} {w wr : World} {st : List (Int × Int) × Bool} (R : WinWorld f a every zt x o v w wr st) (hx : x < zt) (h0 : 1000 ≤ every) (h1 : every ≤ 86400000) (ht : zt ≤ 345686400000) (hb : f x = o) :
    WinWorld f a every zt (x + every) o v w wr (winStep zt (f x) st x) := by
  have e : (winStep zt (f x) st x).1 = st.1 := by
    rw [hb, R.opened]
    unfold winStep
    cases st.2 <;> rfl
  exact ⟨R.rel.next hx (by omega), hb.symm, by rw [e]; exact R.own, R.gr, R.box, by have := R.low; omega, by omega⟩
theorem WinWorld.snoc {f : Int → Bool} {a every zt x : Int} {v v' : Value} {w w1 w2 : World} {st : List (Int × Int) × Bool} (R : WinWorld f a every zt x false v w w1 st) (hx : x < zt) (h0 : 1000 ≤ every) (h1 : every ≤ 86400000) (ht : zt ≤ 345686400000) (hb : f x = true) {o : Obj}
    (hown : w2.ownsRow (w.heap.size + 1) 52 2 v' (st.1.length + 1) (wcells st.1 ++ [.int .i64 x, .int .i64 zt])) (hg : (w1.alloc o).grownBy w2 v.ownBlock) :
    WinWorld f a every zt (x + every) true v' w w2 (winStep zt (f x) st x) := by
  have e : (winStep zt (f x) st x).1 = st.1 ++ [(x, zt)] := by
    rw [hb]
    unfold winStep
    rw [← R.opened]
    rfl
  have hr : ∀ g, v.ownBlock = some g → w.heap.size + 1 ≤ g := fun g hgv => (R.own.lt g hgv).1
  refine ⟨R.rel.next hx (by omega), hb.symm, ?_, gr_grown (gr_alloc R.gr _) hg (fun g e => .inr (by have := hr g e; omega)), (R.box.alloc _).grown hg (fun e => by have := hr _ e.symm; omega), by have := R.low; omega, by omega⟩
  rw [e, wcells_snoc]
  simpa using hown
theorem WinWorld.stored {f : Int → Bool} {a every zt x : Int} {g m c : Nat} {w w1 : World} {st : List (Int × Int) × Bool} (R : WinWorld f a every zt x true (.slice (some ⟨g, 0, none⟩) (m + 1) c) w w1 st) (hm : st.1.length = m + 1) (hx : x < zt) (h0 : 1000 ≤ every) (h1 : every ≤ 86400000) (ht : zt ≤ 345686400000) (hb : f x = false) :
    WinWorld f a every zt (x + every) false (.slice (some ⟨g, 0, none⟩) (m + 1) c) w (w1.setCell ⟨g, m * 2 + 1, none⟩ (.int .i64 x)) (winStep zt (f x) st x) := by
  have hne : st.1 ≠ [] := by intro e; rw [e] at hm; simp at hm
  have e : (winStep zt (f x) st x).1 = setTo st.1 x := by
    rw [hb]
    unfold winStep
    rw [← R.opened]
    rfl
  have hown := R.own
  have hgB := hown.lt g rfl
  rw [hm] at hown
  have hs := hown.stored (m * 2 + 1) (.int .i64 x)
  refine ⟨R.rel.next hx (by omega), hb.symm, ?_, gr_put R.gr (.inr (by simp; omega)) _, R.box.far (by simp; omega) _, by have := R.low; omega, by omega⟩
  rw [e, setTo_len _ _ hne, hm, ← wcells_setTo _ _ hne, hm]
  exact hs.1


set_option maxHeartbeats 4000000 in
theorem times1_any (n e v a zt every : Int) (bp bv : Nat) (w : World) (hp : SiteAt w bp n e) (hv : NumAt w bv v) (ha : 0 ≤ a) (hat : a ≤ zt) (hto : zt ≤ 345686400000) (he0 : 1000 ≤ every) (he1 : every ≤ 86400000) :
    Calls Tryd.prog 41 #[.agg #[.int .i64 a, .int .i64 zt], .int .i64 every, .func (.func 42) #[] #[.pointer (some ⟨bp, 0, none⟩), .pointer (some ⟨bv, 0, none⟩)]] w fun r w' =>
      ∃ u, r = .returned u ∧ w'.ownsRow (w.heap.size + 1) 52 2 u (winAll (grey1 n e v) a every zt).length (wcells (winAll (grey1 n e v) a every zt)) ∧ w.grownBy w' none := by
  obtain ⟨F, hF⟩ : ∃ F, F = grey1 n e v := ⟨_, rfl⟩
  have HF := Lib.hid hF
  obtain ⟨i0, hi, hz0, hz1, hz2⟩ := info_parts winInfo
  go_enter Tryd.func41, Tryd.ntmps41
  go_wp2_with fail
  go_loopw [7, 8, 9] (fun v o x wr => ∃ (x' : Int) (st : List (Int × Int) × Bool) (o' : Bool), x = .int .i64 x' ∧ o = .bool o' ∧ WinWorld F a every zt x' o' v w wr st) (fun _ _ x _ => (zt - intOf x).toNat)
  case atStart => exact ⟨a, ([], false), false, rfl, rfl, ⟨WinRel.start _ _ _ _, rfl, World.ownsRow_nil _ _ _ _, World.grownBy_alloc _ _ _, Blk.new _ _ _, by omega, by omega⟩⟩
  case round =>
    obtain ⟨x, st, o', rfl, rfl, R⟩ := hrel
    have xlo := R.low
    have xhi := R.high
    obtain ⟨A, c, rfl, hlen, hA⟩ := ownsRow_shape R.own
    have b0 := R.box.cell 0
    have b1 := R.box.cell 1
    simp only [List.getElem?_toArray, List.getElem?_cons_zero, List.getElem?_cons_succ] at b0 b1
    have hA := Lib.hid hA
    by_cases hlt : x < zt
    · have hx0 : 0 ≤ x := by omega
      have hx1 : x ≤ 400000000000 := by omega
      have hgc := R.gr
      go_wp2_with fail
      refine (gt1_any x n e v bp bv _ (hp.grown hgc) (hv.grown hgc) hx0 hx1).mono ?_
      rintro _ w1 ⟨rfl, hg1⟩
      obtain ⟨b, hb⟩ : ∃ b, (grey1 n e v) x = b := ⟨_, rfl⟩
      have HB := Lib.hid hb
      have hFx : Hid (F x = b) := by show _ = _; rw [HF.out]; exact hb
      rw [hb]
      clear hb
      have R1 := R.grown hg1
      have d0 := R1.box.cell 0
      have d1 := R1.box.cell 1
      simp only [List.getElem?_toArray, List.getElem?_cons_zero, List.getElem?_cons_succ] at d0 d1
      clear b0 b1
      have e1 : x + every ≤ 345686400000 + 86400000 := by omega
      cases b <;> cases o'
      · have RN := R1.same hlt he0 he1 hto hFx.out
        go_wp2_with fail
        go_roundw
        case rel => exact ⟨x + every, _, false, rfl, rfl, RN⟩
        case measure => simp [intOf]; omega
      · have hne := R1.rel.ne R1.opened.symm
        have hpos : 0 < st.1.length := List.length_pos_iff.2 hne
        obtain ⟨g, rfl, hg0, hg2⟩ := hA.out hpos
        obtain ⟨m, hm⟩ : ∃ m, st.1.length = m + 1 := ⟨st.1.length - 1, by omega⟩
        have R2 := R1
        rw [hm] at R2
        have hown := R2.own
        rw [hm] at hown
        have hcl := wcells_at st.1 m (by omega)
        have s1 := hown.cellAt (m * 2 + 1) (by omega)
        rw [hcl.2] at s1
        have s2 := hown.frozenAt (m * 2 + 1)
        generalize (st.1[m]).2 = z at *
        have RN := R2.stored hm hlt he0 he1 hto hFx.out
        rw [hm]
        have hmb : m + 1 ≤ 9223372036854775807 := by omega
        have HM2 := Lib.hid hm
        have HRN := Lib.hid RN
        clear hcl hown hpos hA hlen hm hne R R1 R2 RN
        go_wp2_with fail
        go_roundw
        case rel => exact ⟨x + every, _, false, rfl, rfl, HRN.out⟩
        case measure => simp [intOf]; omega
      · have hlen2 := R1.rel.len
        have hlow := R1.low
        have hown1 := R1.own
        have hsz := R1.box.lt
        go_wp2_with (at_builtin; refine wpList_append_own _ rfl _ _ 53 rfl (w.heap.size + 1) 52 i0 _ 2 16 Tryd.underlying53 hi hz0 hz1 hz2 rfl (by decide) _ _ _ rfl (hown1.alloc _) ⟨w1.heap.size, 0, none⟩ 1 1 [.int .i64 x, .int .i64 zt] rfl rfl ?c1 ?c2 ?c3 ?c4 ?c5 ?_)
        case c1 => exact two_cells w1 x zt _
        case c2 => intro u hu; simp at hu; rcases hu with rfl | rfl <;> rfl
        case c3 => unfold maxLen; omega
        case c4 => omega
        case c5 => simp; omega
        intro v' w2 hown2 hgrow2 _
        have RN := R1.snoc hlt he0 he1 hto hFx.out hown2 hgrow2
        go_wp2_with fail
        go_roundw
        case rel => exact ⟨x + every, _, true, rfl, rfl, RN⟩
        case measure => simp [intOf]; omega
      · have RN := R1.same hlt he0 he1 hto hFx.out
        go_wp2_with fail
        go_roundw
        case rel => exact ⟨x + every, _, true, rfl, rfl, RN⟩
        case measure => simp [intOf]; omega
    · have hf := R.rel.fin (by omega)
      go_wp2_with fail
      go_ret
      rw [HF.out] at hf
      exact ⟨_, rfl, by rw [hf]; exact R.own, R.gr⟩


end Go.Proofs.YtngdjeggigkmlaaDoor
