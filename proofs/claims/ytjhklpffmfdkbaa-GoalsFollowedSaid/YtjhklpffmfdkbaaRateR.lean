/- The walks over rate.Rate and its twin in the reference. Condition: the window's end is no number beyond 2^60; times without error where the name says ok. -/
import Derived.Test.YtjhklpffmfdkbaaRateE
namespace Go.Proofs.Ytjhklpffmfdkbaa
open Go.RowKit
set_option linter.unusedVariables false

theorem ret_3 {a b c d : Int} {p : Bool} {e f : Int} (h : a = b) (h' : c = d) (h2 : e = f) :
    Ending.returned (.tuple #[.agg #[.int .i64 a, .int .i64 c], .bool p, .int .i64 e]) = .returned (.tuple #[.agg #[.int .i64 b, .int .i64 d], .bool p, .int .i64 f]) := by rw [h, h', h2]

set_option maxHeartbeats 1000000 in
theorem rate_bad (base : Nat) (v : Value) (l : List Int) (a to at_ long : Int) (w : World) (hl : IntsFrom base w v l) (hto : -1152921504606846976 ≤ to) (hto2 : to ≤ 1152921504606846976) (hE : lastE l a to at_ long ≠ 0) :
    Calls Try.prog 12 #[v, .agg #[.int .i64 a, .int .i64 to], .int .i64 at_, .int .i64 long] w fun r w' => r = .returned (.tuple #[.agg #[.int .i64 0, .int .i64 0], .bool false, .int .i64 (lastE l a to at_ long)]) ∧ w.grownBy w' none := by
  have hE1 : (lastE l a to at_ long != 0) = true := by rw [bne_iff_ne]; exact hE
  have hG := gr_alloc (World.grownBy_alloc w (.cells #[.int .i64 a, .int .i64 to] 27) none) (.cells #[.int .i64 0, .int .i64 0] 38)
  have HL := Lib.hid ((hl.alloc (.cells #[.int .i64 a, .int .i64 to] 27)).alloc (.cells #[.int .i64 0, .int .i64 0] 38))
  have hr0 := Blk.new (w.alloc (.cells #[.int .i64 a, .int .i64 to] 27)) 38 #[.int .i64 0, .int .i64 0]
  rw [World.size_alloc] at hr0
  have HE := Lib.hid hE
  clear hl hE
  go_enter Try.func12, Try.ntmps12
  go_wp2_with fail
  refine (lastFault_any base _ _ _ _ _ _ _ HL.out hto hto2).mono ?_
  rintro _ w1 ⟨rfl, hg1⟩
  have hr1 := hr0.grown hg1 (by simp)
  have d0 : w1.cell? ⟨w.heap.size + 1, 0, none⟩ = some (.int .i64 0) := hr1.cell 0
  have d1 : w1.cell? ⟨w.heap.size + 1, 1, none⟩ = some (.int .i64 0) := hr1.cell 1
  have f0 := hr1.free 0
  have f1 := hr1.free 1
  go_wp2_with fail
  refine bodyPost_ret (v := .tuple #[.agg #[.int .i64 0, .int .i64 0], .bool false, .int .i64 (lastE l a to at_ long)]) (by simp [results, Try.results12, go_sem, d0, d1]) rfl ?_
  exact ⟨rfl, gr_put (gr_put (gr_trans hG hg1) (.inr (by simp)) _) (.inr (by simp)) _⟩

theorem gr_put2 {a w : World} {g : Nat} (h : a.grownBy w (some g)) (i j : Nat) (u v : Value) : a.grownBy ((w.setCell ⟨g, i, none⟩ u).setCell ⟨g, j, none⟩ v) (some g) :=
  gr_put (p := ⟨g, j, none⟩) (gr_put (p := ⟨g, i, none⟩) h (.inl rfl) u) (.inl rfl) v
theorem many_scale {m d : Int} (h0 : 0 ≤ m) (h1 : m ≤ 2000) : 0 ≤ m * 3600000 ∧ m * 3600000 ≤ 1000000000000000000 := by omega

set_option maxRecDepth 100000 in
set_option maxHeartbeats 2000000 in
theorem rate_ok (base : Nat) (v : Value) (l : List Int) (a to at_ long : Int) (w : World) (hl : IntsFrom base w v l) (hE : timesE l a to = 0) (hM : mlE at_ long = 0) (hlt : lastA a at_ long < lastT to at_) :
    Calls Try.prog 12 #[v, .agg #[.int .i64 a, .int .i64 to], .int .i64 at_, .int .i64 long] w fun r w' =>
      r = .returned (.tuple #[.agg #[.int .i64 (lowN (manyI l (lastA a at_ long) (lastT to at_) * 3600000) (lastT to at_ - lastA a at_ long)), .int .i64 (lowD (manyI l (lastA a at_ long) (lastT to at_) * 3600000) (lastT to at_ - lastA a at_ long))], .bool true, .int .i64 0]) ∧ w.grownBy w' none := by
  have O := timesE_ok hE
  have hLE : lastE l a to at_ long = 0 := by unfold lastE; rw [if_pos hE, hM]
  obtain ⟨m0, m1, m2⟩ : mlE at_ long = 0 ∧ momE at_ = 0 ∧ longE long = 0 := by
    rcases mlE_01 at_ long with h | h
    · exact h
    · omega
  obtain ⟨r0, r1⟩ : 0 ≤ at_ ∧ at_ ≤ 345686399999 := by
    rcases momE_cases at_ with ⟨_, _, h1, h2⟩ | ⟨h, _⟩
    · exact ⟨h1, h2⟩
    · omega
  obtain ⟨r2, r3⟩ : 60000 ≤ long ∧ long ≤ 86400000 := by
    rcases longE_cases long with ⟨_, _, h1, h2⟩ | ⟨h, _⟩
    · exact ⟨h1, h2⟩
    · omega
  have hto := O.to_
  have ha0 := O.a0
  have hato := O.ato
  have hG := gr_alloc (World.grownBy_alloc w (.cells #[.int .i64 a, .int .i64 to] 27) none) (.cells #[.int .i64 0, .int .i64 0] 38)
  have HL := Lib.hid ((hl.alloc (.cells #[.int .i64 a, .int .i64 to] 27)).alloc (.cells #[.int .i64 0, .int .i64 0] 38))
  have hr0 := Blk.new (w.alloc (.cells #[.int .i64 a, .int .i64 to] 27)) 38 #[.int .i64 0, .int .i64 0]
  have hx0 := (Blk.new w 27 #[.int .i64 a, .int .i64 to]).alloc (.cells #[.int .i64 0, .int .i64 0] 38)
  rw [World.size_alloc] at hr0
  have hA0 : 0 ≤ lastA a at_ long := by unfold lastA; omega
  have hA1 : lastT to at_ ≤ 345686400000 := by unfold lastT; omega
  obtain ⟨A, hAd⟩ : ∃ A, lastA a at_ long = A := ⟨_, rfl⟩
  obtain ⟨T, hTd⟩ : ∃ T, lastT to at_ = T := ⟨_, rfl⟩
  rw [hAd, hTd] at hlt ⊢
  rw [hAd] at hA0
  rw [hTd] at hA1
  have hmb := manyI_bd l A T
  have hll := O.len
  obtain ⟨M, hMd⟩ : ∃ M, manyI l A T = M := ⟨_, rfl⟩
  rw [hMd] at hmb ⊢
  have hM0 : 0 ≤ M := hmb.1
  have hM1 : M ≤ 2000 := by omega
  have e1 : IntKind.i64.wrap (M * 3600000) = M * 3600000 := IntWalk.i64_in _ ⟨by omega, by omega⟩
  have e2 : IntKind.i64.wrap (T - A) = T - A := IntWalk.i64_in _ ⟨by omega, by omega⟩
  have HMd := Lib.hid hMd
  have HO := Lib.hid O
  have HE := Lib.hid hE
  have HM := Lib.hid hM
  have H0 := Lib.hid m0
  have H1 := Lib.hid m1
  have H2 := Lib.hid m2
  have HA := Lib.hid hAd
  have HT := Lib.hid hTd
  clear hl hE hM m0 m1 m2 O hmb hMd hAd hTd
  go_enter Try.func12, Try.ntmps12
  go_wp2_with fail
  refine (lastFault_any base _ _ _ _ _ _ _ HL.out (by omega) (by omega)).mono ?_
  rintro _ w1 ⟨rfl, hg1⟩
  have hr1 := hr0.grown hg1 (by simp)
  have hx1 := hx0.grown hg1 (by simp)
  have c0 : w1.cell? ⟨w.heap.size, 0, none⟩ = some (.int .i64 a) := hx1.cell 0
  have c1 : w1.cell? ⟨w.heap.size, 1, none⟩ = some (.int .i64 to) := hx1.cell 1
  rw [hLE]
  go_wp2_with fail
  refine (last_any _ _ _ _ _ (by omega) (by omega) (by omega) (by omega) (by omega) (by omega) (by omega) (by omega)).mono ?_
  rintro _ w2 ⟨rfl, hg2⟩
  rw [HA.out, HT.out]
  have hr2 := (hr1.grown hg2 (by simp)).alloc (.cells #[.int .i64 A, .int .i64 T] 27)
  have hL2 := ((HL.out.grown hg1).grown hg2).alloc (.cells #[.int .i64 A, .int .i64 T] 27)
  have hx2 := Blk.new w2 27 #[.int .i64 A, .int .i64 T]
  have hG2 := gr_alloc (gr_trans (gr_trans hG hg1) hg2) (.cells #[.int .i64 A, .int .i64 T] 27)
  have hlt2 := (hr1.grown hg2 (by simp)).lt
  clear c0 c1 hg1 hg2 hr1 hx1
  have hne : ¬ (T ≤ A) := by omega
  go_wp2_with fail
  generalize w2.alloc (.cells #[.int .i64 A, .int .i64 T] 27) = W at *
  have x0 : W.cell? ⟨w2.heap.size, 0, none⟩ = some (.int .i64 A) := hx2.cell 0
  have x1 : W.cell? ⟨w2.heap.size, 1, none⟩ = some (.int .i64 T) := hx2.cell 1
  have d0 : W.cell? ⟨w.heap.size + 1, 0, none⟩ = some (.int .i64 0) := hr2.cell 0
  have d1 : W.cell? ⟨w.heap.size + 1, 1, none⟩ = some (.int .i64 0) := hr2.cell 1
  have f0 := hr2.free 0
  have f1 := hr2.free 1
  have KS : Hid (∀ W' : World, W.grownBy W' none → W'.cell? ⟨w2.heap.size, 0, none⟩ = some (.int .i64 A) ∧ W'.cell? ⟨w2.heap.size, 1, none⟩ = some (.int .i64 T) ∧ W'.cell? ⟨w.heap.size + 1, 0, none⟩ = some (.int .i64 0) ∧ W'.cell? ⟨w.heap.size + 1, 1, none⟩ = some (.int .i64 0) ∧ W'.frozen? ⟨w.heap.size + 1, 0, none⟩ = false ∧ W'.frozen? ⟨w.heap.size + 1, 1, none⟩ = false ∧ W.grownBy W' none) :=
    fun W' hW => ⟨(hx2.grown hW (by simp)).cell 0, (hx2.grown hW (by simp)).cell 1, (hr2.grown hW (by simp)).cell 0, (hr2.grown hW (by simp)).cell 1, (hr2.grown hW (by simp)).free 0, (hr2.grown hW (by simp)).free 1, hW⟩
  have KX : Hid (∀ W' : World, W.grownBy W' (some (w.heap.size + 1)) → W'.cell? ⟨w2.heap.size, 0, none⟩ = some (.int .i64 A) ∧ W'.cell? ⟨w2.heap.size, 1, none⟩ = some (.int .i64 T) ∧ W.grownBy W' (some (w.heap.size + 1))) :=
    fun W' hW => ⟨(hx2.grown hW (by have := hr0.lt; simp; omega)).cell 0, (hx2.grown hW (by simp; omega)).cell 1, hW⟩
  go_region_held3 (fun W' => W'.cell? ⟨w2.heap.size, 0, none⟩ = some (.int .i64 A) ∧ W'.cell? ⟨w2.heap.size, 1, none⟩ = some (.int .i64 T) ∧ W.grownBy W' (some (w.heap.size + 1)))
    ((exact KX.out _ (by first | exact gr_refl _ _ | exact gr_drew (gr_refl _ _) | exact gr_weak (gr_of_drew (by assumption)) _ | exact gr_weak (gr_trans (gr_of_drew (by assumption)) (by assumption)) _ | exact gr_put2 (gr_weak (gr_trans (gr_of_drew (by assumption)) (by assumption)) _) _ _ _ _)))
    (first | (go_at_call 58; refine (in_many base _ _ _ _ _ (hL2.grown (by first | exact gr_refl _ _ | exact gr_drew (gr_refl _ _))) HO.out.sorted (by have := HO.out.len; omega)).mono ?_; rintro _ wA ⟨rfl, hgA⟩; rw [HMd.out]) | (go_at_call 61; refine (lowest_any _ _ _ (by omega) (by omega) (by omega) (by omega)).mono ?_; rintro _ wB ⟨rfl, hgC⟩; have hgD := gr_trans (gr_of_drew hgA) hgC; obtain ⟨z0, z1, z2, z3, z4, z5, z6⟩ := KS.out _ hgD))
  go_wp2_with fail
  refine bodyPost_ret (v := .tuple #[.agg #[.int .i64 (lowN (M * 3600000) (T - A)), .int .i64 (lowD (M * 3600000) (T - A))], .bool true, .int .i64 0]) (by simp [results, Try.results12, go_sem, z2, z3]) rfl ?_
  exact ⟨rfl, gr_put (gr_put (gr_trans hG2 hgD) (.inr (by simp)) _) (.inr (by simp)) _⟩

set_option maxRecDepth 100000 in
set_option maxHeartbeats 2000000 in
theorem rate_none (base : Nat) (v : Value) (l : List Int) (a to at_ long : Int) (w : World) (hl : IntsFrom base w v l) (hE : timesE l a to = 0) (hM : mlE at_ long = 0) (hlt : lastT to at_ ≤ lastA a at_ long) :
    Calls Try.prog 12 #[v, .agg #[.int .i64 a, .int .i64 to], .int .i64 at_, .int .i64 long] w fun r w' =>
      r = .returned (.tuple #[.agg #[.int .i64 0, .int .i64 0], .bool false, .int .i64 0]) ∧ w.grownBy w' none := by
  have O := timesE_ok hE
  have hLE : lastE l a to at_ long = 0 := by unfold lastE; rw [if_pos hE, hM]
  obtain ⟨m0, m1, m2⟩ : mlE at_ long = 0 ∧ momE at_ = 0 ∧ longE long = 0 := by
    rcases mlE_01 at_ long with h | h
    · exact h
    · omega
  obtain ⟨r0, r1⟩ : 0 ≤ at_ ∧ at_ ≤ 345686399999 := by
    rcases momE_cases at_ with ⟨_, _, h1, h2⟩ | ⟨h, _⟩
    · exact ⟨h1, h2⟩
    · omega
  obtain ⟨r2, r3⟩ : 60000 ≤ long ∧ long ≤ 86400000 := by
    rcases longE_cases long with ⟨_, _, h1, h2⟩ | ⟨h, _⟩
    · exact ⟨h1, h2⟩
    · omega
  have hto := O.to_
  have ha0 := O.a0
  have hato := O.ato
  have hG := gr_alloc (World.grownBy_alloc w (.cells #[.int .i64 a, .int .i64 to] 27) none) (.cells #[.int .i64 0, .int .i64 0] 38)
  have HL := Lib.hid ((hl.alloc (.cells #[.int .i64 a, .int .i64 to] 27)).alloc (.cells #[.int .i64 0, .int .i64 0] 38))
  have hr0 := Blk.new (w.alloc (.cells #[.int .i64 a, .int .i64 to] 27)) 38 #[.int .i64 0, .int .i64 0]
  have hx0 := (Blk.new w 27 #[.int .i64 a, .int .i64 to]).alloc (.cells #[.int .i64 0, .int .i64 0] 38)
  rw [World.size_alloc] at hr0
  have hA0 : 0 ≤ lastA a at_ long := by unfold lastA; omega
  have hA1 : lastT to at_ ≤ 345686400000 := by unfold lastT; omega
  obtain ⟨A, hAd⟩ : ∃ A, lastA a at_ long = A := ⟨_, rfl⟩
  obtain ⟨T, hTd⟩ : ∃ T, lastT to at_ = T := ⟨_, rfl⟩
  rw [hAd, hTd] at hlt
  rw [hAd] at hA0
  rw [hTd] at hA1
  have HO := Lib.hid O
  have HE := Lib.hid hE
  have HM := Lib.hid hM
  have H0 := Lib.hid m0
  have H1 := Lib.hid m1
  have H2 := Lib.hid m2
  have HA := Lib.hid hAd
  have HT := Lib.hid hTd
  clear hl hE hM m0 m1 m2 O hAd hTd
  go_enter Try.func12, Try.ntmps12
  go_wp2_with fail
  refine (lastFault_any base _ _ _ _ _ _ _ HL.out (by omega) (by omega)).mono ?_
  rintro _ w1 ⟨rfl, hg1⟩
  have hr1 := hr0.grown hg1 (by simp)
  have hx1 := hx0.grown hg1 (by simp)
  have c0 : w1.cell? ⟨w.heap.size, 0, none⟩ = some (.int .i64 a) := hx1.cell 0
  have c1 : w1.cell? ⟨w.heap.size, 1, none⟩ = some (.int .i64 to) := hx1.cell 1
  rw [hLE]
  go_wp2_with fail
  refine (last_any _ _ _ _ _ (by omega) (by omega) (by omega) (by omega) (by omega) (by omega) (by omega) (by omega)).mono ?_
  rintro _ w2 ⟨rfl, hg2⟩
  rw [HA.out, HT.out]
  have hr2 := hr1.grown hg2 (by simp)
  have hL2 := ((HL.out.grown hg1).grown hg2).alloc (.cells #[.int .i64 A, .int .i64 T] 27)
  have hx2 := Blk.new w2 27 #[.int .i64 A, .int .i64 T]
  have hG2 := gr_alloc (gr_trans (gr_trans hG hg1) hg2) (.cells #[.int .i64 A, .int .i64 T] 27)
  have hlt2 := (hr1.grown hg2 (by simp)).lt
  have hGw := gr_trans (gr_trans hG hg1) hg2
  clear c0 c1 hg1 hg2 hr1 hx1
  have d0 : w2.cell? ⟨w.heap.size + 1, 0, none⟩ = some (.int .i64 0) := hr2.cell 0
  have d1 : w2.cell? ⟨w.heap.size + 1, 1, none⟩ = some (.int .i64 0) := hr2.cell 1
  have f0 := hr2.free 0
  have f1 := hr2.free 1
  go_wp2_with fail
  have hz := ((hr2.put 0 (.int .i64 0)).put 1 (.int .i64 0)).alloc (.cells #[.int .i64 A, .int .i64 T] 27)
  have z0 := hz.cell 0
  have z1 := hz.cell 1
  simp only [List.setIfInBounds_toArray, List.set_cons_zero, List.set_cons_succ, List.getElem?_toArray, List.getElem?_cons_zero, List.getElem?_cons_succ] at z0 z1
  refine bodyPost_ret (v := .tuple #[.agg #[.int .i64 0, .int .i64 0], .bool false, .int .i64 0]) (by simp [results, Try.results12, go_sem, z0, z1]) rfl ?_
  exact ⟨rfl, gr_alloc (gr_put (gr_put hGw (.inr (by simp)) _) (.inr (by simp)) _) _⟩
set_option maxRecDepth 100000 in
set_option maxHeartbeats 2000000 in
theorem rateOf_ok (base : Nat) (v : Value) (l : List Int) (a to at_ long : Int) (w : World) (hl : IntsFrom base w v l) (hE : timesE l a to = 0) (hM : mlE at_ long = 0) (hlt : lastA a at_ long < lastT to at_) :
    Calls Try.prog 22 #[v, .agg #[.int .i64 a, .int .i64 to], .int .i64 at_, .int .i64 long] w fun r w' =>
      r = .returned (.tuple #[.agg #[.int .i64 (lowN (manyI l (lastA a at_ long) (lastT to at_) * 3600000) (lastT to at_ - lastA a at_ long)), .int .i64 (lowD (manyI l (lastA a at_ long) (lastT to at_) * 3600000) (lastT to at_ - lastA a at_ long))], .bool true]) ∧ w.grownBy w' none := by
  have O := timesE_ok hE
  have hLE : lastE l a to at_ long = 0 := by unfold lastE; rw [if_pos hE, hM]
  obtain ⟨m0, m1, m2⟩ : mlE at_ long = 0 ∧ momE at_ = 0 ∧ longE long = 0 := by
    rcases mlE_01 at_ long with h | h
    · exact h
    · omega
  obtain ⟨r0, r1⟩ : 0 ≤ at_ ∧ at_ ≤ 345686399999 := by
    rcases momE_cases at_ with ⟨_, _, h1, h2⟩ | ⟨h, _⟩
    · exact ⟨h1, h2⟩
    · omega
  obtain ⟨r2, r3⟩ : 60000 ≤ long ∧ long ≤ 86400000 := by
    rcases longE_cases long with ⟨_, _, h1, h2⟩ | ⟨h, _⟩
    · exact ⟨h1, h2⟩
    · omega
  have hto := O.to_
  have ha0 := O.a0
  have hato := O.ato
  have hG := gr_alloc (World.grownBy_alloc w (.cells #[.int .i64 a, .int .i64 to] 27) none) (.cells #[.int .i64 0, .int .i64 0] 38)
  have HL := Lib.hid ((hl.alloc (.cells #[.int .i64 a, .int .i64 to] 27)).alloc (.cells #[.int .i64 0, .int .i64 0] 38))
  have hr0 := Blk.new (w.alloc (.cells #[.int .i64 a, .int .i64 to] 27)) 38 #[.int .i64 0, .int .i64 0]
  have hx0 := (Blk.new w 27 #[.int .i64 a, .int .i64 to]).alloc (.cells #[.int .i64 0, .int .i64 0] 38)
  rw [World.size_alloc] at hr0
  have hA0 : 0 ≤ lastA a at_ long := by unfold lastA; omega
  have hA1 : lastT to at_ ≤ 345686400000 := by unfold lastT; omega
  obtain ⟨A, hAd⟩ : ∃ A, lastA a at_ long = A := ⟨_, rfl⟩
  obtain ⟨T, hTd⟩ : ∃ T, lastT to at_ = T := ⟨_, rfl⟩
  rw [hAd, hTd] at hlt ⊢
  rw [hAd] at hA0
  rw [hTd] at hA1
  have hmb := manyI_bd l A T
  have hll := O.len
  obtain ⟨M, hMd⟩ : ∃ M, manyI l A T = M := ⟨_, rfl⟩
  rw [hMd] at hmb ⊢
  have hM0 : 0 ≤ M := hmb.1
  have hM1 : M ≤ 2000 := by omega
  have e1 : IntKind.i64.wrap (M * 3600000) = M * 3600000 := IntWalk.i64_in _ ⟨by omega, by omega⟩
  have e2 : IntKind.i64.wrap (T - A) = T - A := IntWalk.i64_in _ ⟨by omega, by omega⟩
  have HMd := Lib.hid hMd
  have HO := Lib.hid O
  have HE := Lib.hid hE
  have HM := Lib.hid hM
  have H0 := Lib.hid m0
  have H1 := Lib.hid m1
  have H2 := Lib.hid m2
  have HA := Lib.hid hAd
  have HT := Lib.hid hTd
  clear hl hE hM m0 m1 m2 O hmb hMd hAd hTd
  go_enter Try.func22, Try.ntmps22
  go_wp2_with fail
  refine (lastR_any _ _ _ _ _ (by omega) (by omega) (by omega) (by omega) (by omega) (by omega) (by omega) (by omega)).mono ?_
  rintro _ w2 ⟨rfl, hg2⟩
  rw [HA.out, HT.out]
  have hr2 := (hr0.grown hg2 (by simp)).alloc (.cells #[.int .i64 A, .int .i64 T] 27)
  have hL2 := (HL.out.grown hg2).alloc (.cells #[.int .i64 A, .int .i64 T] 27)
  have hx2 := Blk.new w2 27 #[.int .i64 A, .int .i64 T]
  have hG2 := gr_alloc (gr_trans hG hg2) (.cells #[.int .i64 A, .int .i64 T] 27)
  have hlt2 := (hr0.grown hg2 (by simp)).lt
  clear hg2
  have hne : ¬ (T ≤ A) := by omega
  go_wp2_with fail
  generalize w2.alloc (.cells #[.int .i64 A, .int .i64 T] 27) = W at *
  have x0 : W.cell? ⟨w2.heap.size, 0, none⟩ = some (.int .i64 A) := hx2.cell 0
  have x1 : W.cell? ⟨w2.heap.size, 1, none⟩ = some (.int .i64 T) := hx2.cell 1
  have d0 : W.cell? ⟨w.heap.size + 1, 0, none⟩ = some (.int .i64 0) := hr2.cell 0
  have d1 : W.cell? ⟨w.heap.size + 1, 1, none⟩ = some (.int .i64 0) := hr2.cell 1
  have f0 := hr2.free 0
  have f1 := hr2.free 1
  have KS : Hid (∀ W' : World, W.grownBy W' none → W'.cell? ⟨w2.heap.size, 0, none⟩ = some (.int .i64 A) ∧ W'.cell? ⟨w2.heap.size, 1, none⟩ = some (.int .i64 T) ∧ W'.cell? ⟨w.heap.size + 1, 0, none⟩ = some (.int .i64 0) ∧ W'.cell? ⟨w.heap.size + 1, 1, none⟩ = some (.int .i64 0) ∧ W'.frozen? ⟨w.heap.size + 1, 0, none⟩ = false ∧ W'.frozen? ⟨w.heap.size + 1, 1, none⟩ = false ∧ W.grownBy W' none) :=
    fun W' hW => ⟨(hx2.grown hW (by simp)).cell 0, (hx2.grown hW (by simp)).cell 1, (hr2.grown hW (by simp)).cell 0, (hr2.grown hW (by simp)).cell 1, (hr2.grown hW (by simp)).free 0, (hr2.grown hW (by simp)).free 1, hW⟩
  have KX : Hid (∀ W' : World, W.grownBy W' (some (w.heap.size + 1)) → W'.cell? ⟨w2.heap.size, 0, none⟩ = some (.int .i64 A) ∧ W'.cell? ⟨w2.heap.size, 1, none⟩ = some (.int .i64 T) ∧ W.grownBy W' (some (w.heap.size + 1))) :=
    fun W' hW => ⟨(hx2.grown hW (by have := hr0.lt; simp; omega)).cell 0, (hx2.grown hW (by simp; omega)).cell 1, hW⟩
  go_region_held3 (fun W' => W'.cell? ⟨w2.heap.size, 0, none⟩ = some (.int .i64 A) ∧ W'.cell? ⟨w2.heap.size, 1, none⟩ = some (.int .i64 T) ∧ W.grownBy W' (some (w.heap.size + 1)))
    ((exact KX.out _ (by first | exact gr_refl _ _ | exact gr_drew (gr_refl _ _) | exact gr_weak (gr_of_drew (by assumption)) _ | exact gr_weak (gr_trans (gr_of_drew (by assumption)) (by assumption)) _ | exact gr_put2 (gr_weak (gr_trans (gr_of_drew (by assumption)) (by assumption)) _) _ _ _ _)))
    (first | (go_at_call 64; refine (manyIn_any base _ _ _ _ _ (hL2.grown (by first | exact gr_refl _ _ | exact gr_drew (gr_refl _ _))) (by have := HO.out.len; omega)).mono ?_; rintro _ wA ⟨rfl, hgA⟩; rw [HMd.out]) | (go_at_call 66; refine (lowestR_any _ _ _ (by omega) (by omega) (by omega) (by omega)).mono ?_; rintro _ wB ⟨rfl, hgC⟩; have hgD := gr_trans (gr_of_drew hgA) hgC; obtain ⟨z0, z1, z2, z3, z4, z5, z6⟩ := KS.out _ hgD))
  go_wp2_with fail
  refine bodyPost_ret (v := .tuple #[.agg #[.int .i64 (lowN (M * 3600000) (T - A)), .int .i64 (lowD (M * 3600000) (T - A))], .bool true]) (by simp [results, Try.results22, go_sem, z2, z3]) rfl ?_
  exact ⟨rfl, gr_put (gr_put (gr_trans hG2 hgD) (.inr (by simp)) _) (.inr (by simp)) _⟩

set_option maxRecDepth 100000 in
set_option maxHeartbeats 2000000 in
theorem rateOf_none (base : Nat) (v : Value) (l : List Int) (a to at_ long : Int) (w : World) (hl : IntsFrom base w v l) (hE : timesE l a to = 0) (hM : mlE at_ long = 0) (hlt : lastT to at_ ≤ lastA a at_ long) :
    Calls Try.prog 22 #[v, .agg #[.int .i64 a, .int .i64 to], .int .i64 at_, .int .i64 long] w fun r w' =>
      r = .returned (.tuple #[.agg #[.int .i64 0, .int .i64 0], .bool false]) ∧ w.grownBy w' none := by
  have O := timesE_ok hE
  have hLE : lastE l a to at_ long = 0 := by unfold lastE; rw [if_pos hE, hM]
  obtain ⟨m0, m1, m2⟩ : mlE at_ long = 0 ∧ momE at_ = 0 ∧ longE long = 0 := by
    rcases mlE_01 at_ long with h | h
    · exact h
    · omega
  obtain ⟨r0, r1⟩ : 0 ≤ at_ ∧ at_ ≤ 345686399999 := by
    rcases momE_cases at_ with ⟨_, _, h1, h2⟩ | ⟨h, _⟩
    · exact ⟨h1, h2⟩
    · omega
  obtain ⟨r2, r3⟩ : 60000 ≤ long ∧ long ≤ 86400000 := by
    rcases longE_cases long with ⟨_, _, h1, h2⟩ | ⟨h, _⟩
    · exact ⟨h1, h2⟩
    · omega
  have hto := O.to_
  have ha0 := O.a0
  have hato := O.ato
  have hG := gr_alloc (World.grownBy_alloc w (.cells #[.int .i64 a, .int .i64 to] 27) none) (.cells #[.int .i64 0, .int .i64 0] 38)
  have HL := Lib.hid ((hl.alloc (.cells #[.int .i64 a, .int .i64 to] 27)).alloc (.cells #[.int .i64 0, .int .i64 0] 38))
  have hr0 := Blk.new (w.alloc (.cells #[.int .i64 a, .int .i64 to] 27)) 38 #[.int .i64 0, .int .i64 0]
  have hx0 := (Blk.new w 27 #[.int .i64 a, .int .i64 to]).alloc (.cells #[.int .i64 0, .int .i64 0] 38)
  rw [World.size_alloc] at hr0
  have hA0 : 0 ≤ lastA a at_ long := by unfold lastA; omega
  have hA1 : lastT to at_ ≤ 345686400000 := by unfold lastT; omega
  obtain ⟨A, hAd⟩ : ∃ A, lastA a at_ long = A := ⟨_, rfl⟩
  obtain ⟨T, hTd⟩ : ∃ T, lastT to at_ = T := ⟨_, rfl⟩
  rw [hAd, hTd] at hlt
  rw [hAd] at hA0
  rw [hTd] at hA1
  have HO := Lib.hid O
  have HE := Lib.hid hE
  have HM := Lib.hid hM
  have H0 := Lib.hid m0
  have H1 := Lib.hid m1
  have H2 := Lib.hid m2
  have HA := Lib.hid hAd
  have HT := Lib.hid hTd
  clear hl hE hM m0 m1 m2 O hAd hTd
  go_enter Try.func22, Try.ntmps22
  go_wp2_with fail
  refine (lastR_any _ _ _ _ _ (by omega) (by omega) (by omega) (by omega) (by omega) (by omega) (by omega) (by omega)).mono ?_
  rintro _ w2 ⟨rfl, hg2⟩
  rw [HA.out, HT.out]
  have hr2 := hr0.grown hg2 (by simp)
  have hL2 := (HL.out.grown hg2).alloc (.cells #[.int .i64 A, .int .i64 T] 27)
  have hx2 := Blk.new w2 27 #[.int .i64 A, .int .i64 T]
  have hG2 := gr_alloc (gr_trans hG hg2) (.cells #[.int .i64 A, .int .i64 T] 27)
  have hlt2 := (hr0.grown hg2 (by simp)).lt
  have hGw := gr_trans hG hg2
  clear hg2
  have d0 : w2.cell? ⟨w.heap.size + 1, 0, none⟩ = some (.int .i64 0) := hr2.cell 0
  have d1 : w2.cell? ⟨w.heap.size + 1, 1, none⟩ = some (.int .i64 0) := hr2.cell 1
  have f0 := hr2.free 0
  have f1 := hr2.free 1
  go_wp2_with fail
  have hz := ((hr2.put 0 (.int .i64 0)).put 1 (.int .i64 0)).alloc (.cells #[.int .i64 A, .int .i64 T] 27)
  have z0 := hz.cell 0
  have z1 := hz.cell 1
  simp only [List.setIfInBounds_toArray, List.set_cons_zero, List.set_cons_succ, List.getElem?_toArray, List.getElem?_cons_zero, List.getElem?_cons_succ] at z0 z1
  refine bodyPost_ret (v := .tuple #[.agg #[.int .i64 0, .int .i64 0], .bool false]) (by simp [results, Try.results22, go_sem, z0, z1]) rfl ?_
  exact ⟨rfl, gr_alloc (gr_put (gr_put hGw (.inr (by simp)) _) (.inr (by simp)) _) _⟩
end Go.Proofs.Ytjhklpffmfdkbaa
