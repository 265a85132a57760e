/- The walk over the law RatesStay: it answers true whatever numbers come in. Condition: asciiSpace is Go's own table, MaxLen holds a number. -/
import Derived.Test.YtnapbnkbchaanaaGreatDoorTimesX2
import Derived.Test.YtnapbnkbchaanaaGreatDoorShiftsX
import Derived.Test.YtnapbnkbchaanaaGreatDoorCutRow
import Derived.Test.YtnapbnkbchaanaaGreatDoorRestsWorked
import Derived.Test.YtnapbnkbchaanaaGreatDoorShiftsE
import Derived.Test.YtnapbnkbchaanaaGreatDoorIntsEq
import Derived.Test.YtnapbnkbchaanaaGreatDoorReady
import Derived.Test.YtnapbnkbchaanaaGreatDoorStart
import Derived.Deep.RegionHeld3
import Derived.Deep.DeepCutAuto
namespace Go.Proofs.YtnapbnkbchaanaaGreatDoor
open Go.RowKit
set_option linter.unusedVariables false
set_option linter.unusedSimpArgs false

set_option maxHeartbeats 2000000 in
/-- slices.Equal at two slices of shifts that are equal. -/
theorem equalShifts_same (b1 b2 : Nat) (u v : Value) (l : List (Int × ByteArray)) (w : World) (hu : ShFrom b1 w u l) (hv : ShFrom b2 w v l) :
    Calls Tryz.prog 49 #[u, v] w fun r w' => r = .returned (.bool true) ∧ w.grownBy w' none := by
  obtain ⟨A, ca, rfl, ha, hA⟩ := ShFrom.shape hu
  obtain ⟨B, cb, rfl, hb, hB⟩ := ShFrom.shape hv
  have HU := Lib.hid hu
  have HV := Lib.hid hv
  have HA := Lib.hid hA
  have HB := Lib.hid hB
  clear hu hv hA hB
  go_enter Tryz.func49, Tryz.ntmps49
  go_wp2_with fail
  go_loopw [13] (fun i wr => ∃ k : Nat, k ≤ l.length ∧ i = .int .i64 k ∧ w.grownBy wr none) (fun i _ => l.length - (intOf i).toNat)
  case atStart => exact ⟨0, by omega, rfl, gr_refl _ _⟩
  case round =>
    obtain ⟨k, hk, rfl, hgr⟩ := hrel
    by_cases hlt : k < l.length
    · obtain ⟨ga, rfl, _, _⟩ := HA.out (by omega)
      obtain ⟨gb, rfl, _, _⟩ := HB.out (by omega)
      obtain ⟨a0, a1⟩ := ShFrom.at1 (ShFrom.grown HU.out hgr) k hlt
      obtain ⟨b0, b1⟩ := ShFrom.at1 (ShFrom.grown HV.out hgr) k hlt
      generalize l[k].1 = x at *
      generalize l[k].2 = y at *
      have hkl : (k : Int) < (l.length : Int) := by omega
      go_wp2_with fail
      go_quiet (fail)
      go_wp2_with fail
      go_roundw
      case rel => exact ⟨k + 1, by omega, by go_num, by repeat (first | exact hgr | refine gr_drewN ?_ _ | refine gr_drew ?_)⟩
      case measure => simp [intOf]; omega
    · have hkl : ¬ ((k : Int) < l.length) := by omega
      go_wp2_with fail
      go_ret
      exact ⟨rfl, hgr⟩

theorem scanT_take {a z : Int} : ∀ (p : Option Int) (l : List Int) (m : Nat), scanT a z p l = 0 → scanT a z p (l.take m) = 0
  | p, [], m, h => by simpa using h
  | p, x :: r, 0, h => by simp [scanT]
  | p, x :: r, m + 1, h => by
    unfold scanT at h
    rw [List.take_succ_cons]
    unfold scanT
    split at h
    · omega
    · rename_i h1
      split at h
      · omega
      · rename_i h2
        rw [if_neg h1, if_neg h2]
        exact scanT_take _ r m h
theorem timesE_take {l : List Int} {a z : Int} (m : Nat) (h : timesE l a z = 0) : timesE (l.take m) a z = 0 := by
  unfold timesE at h ⊢
  split at h
  · omega
  · rename_i h1
    split at h
    · omega
    · rename_i h2
      rw [if_neg h1, if_neg (by simp; omega)]
      exact scanT_take _ l m h
theorem own_far {w w' : World} {base : Nat} {e : TypeId} {s : Nat} {v : Value} {n : Nat} {xs : List Value} (h : w.ownsRow base e s v n xs) {row : Option Nat} (hg : w.grownBy w' row) (hr : ∀ g, row = some g → g < base) : w'.ownsRow base e s v n xs := by
  refine h.kept hg ?_
  cases hv : v.ownBlock with
  | none => exact .inl rfl
  | some g => exact .inr fun e => by have h1 := hr g e.symm; have h2 := (h.lt g hv).1; omega
theorem own_low {w w' : World} {base B : Nat} {e : TypeId} {s : Nat} {v : Value} {n : Nat} {xs : List Value} (h : w.ownsRow base e s v n xs) (hv : ∀ g, v.ownBlock = some g → g < B) {row : Option Nat} (hg : w.grownBy w' row) (hr : ∀ g, row = some g → B ≤ g) : w'.ownsRow base e s v n xs := by
  refine h.kept hg ?_
  cases hv' : v.ownBlock with
  | none => exact .inl rfl
  | some g => exact .inr fun e => by have h1 := hr g e.symm; have h2 := hv g hv'; omega
theorem two_streams (w : World) (A : Option Addr) (n c : Nat) : ∃ W, W = (w.alloc (.cells #[.slice A n c, .int .i64 0] 25)).alloc (.cells #[.slice A n c, .int .i64 0] 25) ∧ Blk W w.heap.size 25 #[.slice A n c, .int .i64 0] ∧ Blk W (w.heap.size + 1) 25 #[.slice A n c, .int .i64 0] ∧ W.heap.size = w.heap.size + 2 ∧ w.grownBy W none :=
  ⟨_, rfl, (Blk.new w _ _).alloc _, by simpa using Blk.new (w.alloc (.cells #[.slice A n c, .int .i64 0] 25)) 25 #[.slice A n c, .int .i64 0], by simp, gr_alloc (World.grownBy_alloc w _ none) _⟩

theorem ahead_half (base g c m : Nat) (ts : List Int) (a z : Int) (w : World) (hv : IntsFrom base w (.slice (some ⟨g, 0, none⟩) ts.length c) ts) (hE : timesE ts a z = 0) (hm : m ≤ ts.length) (hc : ts.length ≤ c) :
    Calls Tryz.prog 47 #[.slice (some ⟨g, 0, none⟩) ts.length c, .slice (some ⟨g, 0, none⟩) m m, .agg #[.int .i64 a, .int .i64 z]] w fun r w' => ∃ o ol, r = .returned (.tuple #[o, .int .i64 0]) ∧ WinsFrom w.heap.size w' o ol ∧ w.grownBy w' none := by
  have hE2 := timesE_take m hE
  have hv2 := hv.take m hm
  obtain ⟨l, hl⟩ : ∃ l, ts.take m = l := ⟨_, rfl⟩
  have hll : l.length = m := by rw [← hl]; simp; omega
  rw [hl] at hE2 hv2
  subst hll
  exact (ahead_cut base _ (some ⟨g, 0, none⟩) l.length c ts l a z w hv hv2 (fun h => by cases h) (Nat.le_refl _) (by omega) hE hE2).mono fun r w' ⟨o, he, ho, hg⟩ => ⟨o, _, he, ho.lowTo (by omega), hg⟩
theorem ahead_none (a z : Int) (w : World) (hE : timesE [] a z = 0) :
    Calls Tryz.prog 47 #[.slice none 0 0, .slice none 0 0, .agg #[.int .i64 a, .int .i64 z]] w fun r w' => ∃ o ol, r = .returned (.tuple #[o, .int .i64 0]) ∧ WinsFrom w.heap.size w' o ol ∧ w.grownBy w' none :=
  (ahead_ok 0 _ _ [] [] a z w (IntsFrom.nil _ _) (IntsFrom.nil _ _) hE hE).mono fun r w' ⟨o, he, ho, hg⟩ => ⟨o, _, he, ho.lowTo (by omega), hg⟩

set_option maxRecDepth 100000 in
set_option maxHeartbeats 8000000 in
theorem ratesStay (A : Option Addr) (n c : Nat) (w : World) (hin : InX w A n) (hgl : Gl w.heap.size w) :
    Calls Tryz.prog 7 #[.slice A n c] w fun r w' => r = .returned (.bool true) ∧ Below w.heap.size w w' := by
  obtain ⟨hn, L, hL, hcell⟩ := hin
  obtain ⟨W, hW, hb1, hb2, hsz, hG⟩ := two_streams w A n c
  have sA := SX.start hn hL hcell hG hb1 (Nat.le_refl _)
  have sB := SX.start hn hL hcell hG hb2 (Nat.le_succ _)
  have HGL := Lib.hid hgl
  have HW := Lib.hid hW
  have HWT := Lib.hid hG
  clear hn hL hcell hb1 hb2 hgl hW hG
  go_enter Tryz.func7, Tryz.ntmps7
  go_wp2_with fail
  rw [← HW.out]
  have hG : w.grownBy W none := HWT.out
  generalize hb : w.heap.size = b at *
  have HB := Lib.hid hb
  clear hb
  refine (rightTimes_x b b L 0 _ sA (by decide)).mono ?_
  rintro _ w1 ⟨v, ts, a, z, k1, HR, rfl, hv, hlen, hE, hz30, hk0, hk1, sA1, hg1⟩
  have sB1 := sB.grown hg1 (fun g e => by injection e with e; omega)
  have hG1 : w.grownBy w1 none := gr_grown hG hg1 (fun g e => by injection e with e; exact .inr (by have := HB.out; omega))
  have hv1 : IntsFrom (b + 2) w1 v ts := ownsRow_low hv (by omega)
  have hs1 := hg1.size
  have x1 := Blk.new w1 71 #[.int .i64 a, .int .i64 z]
  have sA2 := sA1.alloc (.cells #[.int .i64 a, .int .i64 z] 71)
  have sB2 := sB1.alloc (.cells #[.int .i64 a, .int .i64 z] 71)
  have hG2 := gr_alloc hG1 (.cells #[.int .i64 a, .int .i64 z] 71)
  have HV := Lib.hid (IntsFrom.grown hv1 (World.grownBy_alloc w1 (.cells #[.int .i64 a, .int .i64 z] 71) none))
  clear sA sB hG hg1 hv hv1 sA1 sB1 hG1
  go_wp2_with fail
  generalize w1.alloc (.cells #[.int .i64 a, .int .i64 z] 71) = W1 at *
  generalize w1.heap.size = X1 at *
  refine (rightTimes_x b (b + 1) L 0 _ sB2 (by decide)).mono ?_
  rintro _ w2 ⟨v2, ts2, a2, z2, k2, HR2, rfl, hv2, _, _, _, _, _, sB3, hg2⟩
  obtain ⟨rfl, rfl, rfl, rfl⟩ : ts = ts2 ∧ a = a2 ∧ z = z2 ∧ k1 = k2 := by
    have h := HR.out.symm.trans HR2.out
    simpa using h
  have sA3 := sA2.grown hg2 (fun g e => by injection e with e; omega)
  have hG3 : w.grownBy w2 none := gr_grown hG2 hg2 (fun g e => by injection e with e; exact .inr (by have := HB.out; omega))
  have HV3 := Lib.hid (IntsFrom.other HV.out hg2 (by omega))
  have hs2 := hg2.size
  have hx1l := x1.lt
  have hv2' : IntsFrom (b + 2) w2 v2 ts := ownsRow_low hv2 (by omega)
  have x2 := x1.grown hg2 (by simp; omega)
  have x3 := x2.alloc (.cells #[.int .i64 a, .int .i64 z] 71)
  have sA4 := sA3.alloc (.cells #[.int .i64 a, .int .i64 z] 71)
  have sB4 := sB3.alloc (.cells #[.int .i64 a, .int .i64 z] 71)
  have hG4 := gr_alloc hG3 (.cells #[.int .i64 a, .int .i64 z] 71)
  have HV4 := Lib.hid (IntsFrom.alloc HV3.out (.cells #[.int .i64 a, .int .i64 z] 71))
  have HU4 := Lib.hid (IntsFrom.alloc hv2' (.cells #[.int .i64 a, .int .i64 z] 71))
  clear sA2 sB2 sA3 sB3 hG2 hG3 hg2 hv2 hv2' x1 x2 HV HV3 HR HR2
  go_wp2_with fail
  generalize w2.alloc (.cells #[.int .i64 a, .int .i64 z] 71) = W2 at *
  generalize w2.heap.size = X2 at *
  refine (shifts_x b b L k1 _ sA4 (by omega)).mono ?_
  rintro _ w3 ⟨sv, sh, k3, HS, rfl, hsh, hF, _, _, _, sA5, hg3⟩
  have sB5 := sB4.grown hg3 (fun g e => by injection e with e; omega)
  have hG5 : w.grownBy w3 none := gr_grown hG4 hg3 (fun g e => by injection e with e; exact .inr (by have := HB.out; omega))
  have HV5 := Lib.hid (IntsFrom.other HV4.out hg3 (by omega))
  have HU5 := Lib.hid (IntsFrom.other HU4.out hg3 (by omega))
  have hx3l := x3.lt
  have hs3 := hg3.size
  have x5 := x3.grown hg3 (by simp; omega)
  have HSH5 : Hid (ShFrom (b + 2) w3 sv sh) := ShFrom.lowTo hsh (by omega)
  clear sA4 sB4 hG4 hg3 HV4 HU4 x3 hsh sA5
  go_wp2_with fail
  refine (shifts_x b (b + 1) L k1 _ sB5 (by omega)).mono ?_
  rintro _ w4 ⟨sv2, sh2, k4, HS2, rfl, hsh2, _, _, _, _, sB6, hg4⟩
  obtain ⟨rfl, rfl⟩ : sh = sh2 ∧ k3 = k4 := by
    have h := HS.out.symm.trans HS2.out
    simpa using h
  have hG6 : w.grownBy w4 none := gr_grown hG5 hg4 (fun g e => by injection e with e; exact .inr (by have := HB.out; omega))
  have HV6 := Lib.hid (IntsFrom.other HV5.out hg4 (by omega))
  have HU6 := Lib.hid (IntsFrom.other HU5.out hg4 (by omega))
  have x6 := x5.grown hg4 (by simp; omega)
  have HSH6 := Lib.hid (ShFrom.other HSH5.out hg4 (by omega))
  have HSI6 : Hid (ShFrom (b + 2) w4 sv2 sh) := ShFrom.lowTo hsh2 (by omega)
  have HF := Lib.hid hF
  have hs4 := hg4.size
  clear sB5 sB6 hG5 hg4 HV5 HU5 x5 HSH5 hsh2 HS HS2 hF
  have O := timesE_ok hE
  have oa := O.a0
  have oz := O.ato
  have hh1000 : hoursI a z ≤ 1000 := by unfold hoursI; omega
  have HE := Lib.hid hE
  have HE2 := Lib.hid (timesE_take (ts.length / 2) hE)
  have HRE : Hid (restE ts a z 1000 = 0) := by show _ = _; unfold restE; rw [hE]; rfl
  have H1000 := Lib.hid hh1000
  clear O hE hh1000
  obtain ⟨c0, c1⟩ := x6.cells2
  go_wp2_with fail
  refine (hours_new (b + 2) _ ts a z _ HV6.out HE.out H1000.out).mono ?_
  rintro _ w5 ⟨hv, rfl, hh, hg5⟩
  have x7 := x6.grown hg5 (by simp)
  obtain ⟨d0, d1⟩ := x7.cells2
  go_wp2_with fail
  refine (off_new (b + 2) _ ts a z 1000 _ (HV6.out.grown hg5) (by omega) (by omega)).mono ?_
  rintro _ w6 ⟨ov, rfl, ho, hg6⟩
  rw [HRE.out]
  go_wp2_with fail
  have hG8 := gr_trans hg5 hg6
  have x8 := x7.grown hg6 (by simp)
  obtain ⟨e0, e1⟩ := x8.cells2
  have HV8 := Lib.hid (fun W' (hW : w6.grownBy W' none) => (HV6.out.grown hG8).grown hW)
  have KX : Hid (∀ W' : World, w6.grownBy W' none → W'.cell? ⟨X1, 0, none⟩ = some (.int .i64 a) ∧ W'.cell? ⟨X1, 1, none⟩ = some (.int .i64 z) ∧ w6.grownBy W' none) := fun W' hW => ⟨(x8.grown hW (by simp)).cell 0, (x8.grown hW (by simp)).cell 1, hW⟩
  have HSH := Lib.hid (ints_none HV6.out)
  have HCAP := Lib.hid HV6.out
  clear c0 c1 d0 d1
  go_cut [15, 16] (fun s15 s16 wr => s16 = .int .i64 0 ∧ (∃ ol, WinsFrom w6.heap.size wr s15 ol) ∧ w6.grownBy wr none)
  case first =>
    as_aux_lemma =>
      have z0 : w6.drew.cell? ⟨X1, 0, none⟩ = some (.int .i64 a) := e0
      have z1 : w6.drew.cell? ⟨X1, 1, none⟩ = some (.int .i64 z) := e1
      rcases HSH.out with ⟨rfl, rfl⟩ | ⟨g, c', rfl, hg0, hg1⟩
      · have q1 : IntKind.i64.wrap ((0 : Int).tdiv 2) = 0 := by decide
        have q2 : IntKind.i64.wrap (0 : Int) = 0 := by decide
        go_region_held3 (fun W' => W'.cell? ⟨X1, 0, none⟩ = some (.int .i64 a) ∧ W'.cell? ⟨X1, 1, none⟩ = some (.int .i64 z) ∧ w6.grownBy W' none)
          ((exact KX.out _ (by repeat (first | exact gr_refl _ _ | assumption | refine gr_drew ?_ | refine gr_alloc ?_ _ | refine gr_trans ?_ (by assumption)))))
          (first | (go_at_call 47; refine (ahead_none _ _ _ HE.out).mono ?_; rintro _ wA ⟨o, ol, rfl, hol, hgA⟩) | fail)
        all_goals
          go_wp2_with fail
          go_meet
          exact ⟨rfl, ⟨ol, hol⟩, gr_trans (gr_drew (gr_refl _ _)) hgA⟩
      · have hcap := HCAP.out.cap
        obtain ⟨m, hm⟩ : ∃ m, ts.length / 2 = m := ⟨_, rfl⟩
        have hm1 : m ≤ ts.length := by omega
        have hm2 : m ≤ c' := by omega
        have hq0 : (ts.length : Int).tdiv 2 = (m : Int) := by rw [Int.tdiv_eq_ediv_of_nonneg (by omega)]; omega
        have hq : IntKind.i64.wrap ((ts.length : Int).tdiv 2) = (m : Int) := by rw [hq0]; exact i64_in _ ⟨by omega, by omega⟩
        have hq2 : (ts.length : Int) / 2 = (m : Int) := by omega
        have HM := Lib.hid hm
        clear hm
        have hwm : IntKind.i64.wrap (m : Int) = (m : Int) := i64_in _ ⟨by omega, by omega⟩
        have hmI : (m : Int) ≤ (c' : Int) := by omega
        clear hq0
        go_region_held3 (fun W' => W'.cell? ⟨X1, 0, none⟩ = some (.int .i64 a) ∧ W'.cell? ⟨X1, 1, none⟩ = some (.int .i64 z) ∧ w6.grownBy W' none)
          ((exact KX.out _ (by repeat (first | exact gr_refl _ _ | assumption | refine gr_drew ?_ | refine gr_alloc ?_ _ | refine gr_trans ?_ (by assumption)))))
          (first | (go_at_call 47; refine (ahead_half _ g c' _ ts _ _ _ (HV8.out _ (by repeat (first | exact gr_refl _ _ | refine gr_drew ?_))) HE.out (by first | omega | exact Nat.zero_le _) hcap).mono ?_; rintro _ wA ⟨o, ol, rfl, hol, hgA⟩) | fail)
        all_goals
          go_wp2_with fail
          go_meet
          exact ⟨rfl, ⟨ol, hol⟩, gr_trans (gr_drew (gr_refl _ _)) hgA⟩
  case rest =>
    obtain ⟨rfl, ⟨gl, hgw⟩, hg7⟩ := hcut
    have H4 := gr_trans hG8 hg7
    have hHlt : ∀ g, hv.ownBlock = some g → w4.heap.size ≤ g ∧ g < w5.heap.size := hh.lt
    have hOlt : ∀ g, ov.ownBlock = some g → w5.heap.size ≤ g ∧ g < w6.heap.size := ho.lt
    have hGlt : ∀ g, u15.ownBlock = some g → w6.heap.size ≤ g ∧ g < wc.heap.size := hgw.lt
    obtain ⟨N, xs, hN⟩ : ∃ N xs, wc.ownsRow w4.heap.size 3 1 hv N xs := ⟨_, _, ownsRow_grown hh (gr_trans hg6 hg7)⟩
    obtain ⟨No, xo, hO⟩ : ∃ No xo, wc.ownsRow w5.heap.size 71 2 ov No xo := ⟨_, _, ownsRow_grown ho hg7⟩
    obtain ⟨Ng, xg, hGw⟩ : ∃ Ng xg, wc.ownsRow w6.heap.size 71 2 u15 Ng xg := ⟨_, _, hgw⟩
    have hs56 := hg6.size
    have hs45 := hg5.size
    have hs6c := hg7.size
    clear hh ho hgw hg5 hg6 hg7 hG8 e0 e1 x7 x8 KX HV8 HSH HCAP HE2 HRE H1000
    obtain ⟨hA, hcp, rfl, hNl, hAs⟩ := ownsRow_shape hN
    obtain ⟨oA, oc, rfl, hOl, hOs⟩ := ownsRow_shape hO
    obtain ⟨gA, gc, rfl, hGl, hGs⟩ := ownsRow_shape hGw
    have HAS := Lib.hid hAs
    have HOS := Lib.hid hOs
    have HGS := Lib.hid hGs
    clear hAs hOs hGs
    go_wp2_with fail
    go_loopw [82] (fun i wr => ∃ k : Nat, k ≤ N ∧ i = .int .i64 k ∧ (∃ xs, wr.ownsRow w4.heap.size 3 1 (.slice hA N hcp) N xs) ∧ wc.grownBy wr (Value.slice hA N hcp).ownBlock) (fun i _ => N - (intOf i).toNat)
    case atStart => exact ⟨0, by omega, rfl, ⟨_, hN⟩, gr_refl _ _⟩
    case round =>
      obtain ⟨k, hk, rfl, ⟨ys, hrow⟩, hgr⟩ := hrel
      by_cases hlt : k < N
      · have hki : (k : Int) < (N : Int) := by omega
        obtain ⟨g, rfl, hg0, hg1⟩ := HAS.out (by omega)
        have hc := hrow.cellAt k (by omega)
        have hlen := hrow.1
        obtain ⟨u, hu⟩ : ∃ u, ys[k]? = some u := ⟨_, List.getElem?_eq_getElem (by omega)⟩
        rw [hu] at hc
        have hfz := hrow.frozenAt k
        have hst := hrow.stored k (.int .i64 777)
        have HST := Lib.hid hst
        clear hu hst hlen
        go_wp2_with fail
        go_roundw
        case rel => exact ⟨k + 1, by omega, by go_num, ⟨_, HST.out.1⟩, gr_trans hgr HST.out.2⟩
        case measure => simp [intOf]; omega
      · have hki : ¬ (k : Int) < (N : Int) := by omega
        have H5 : w4.grownBy wr none := gr_grown H4 hgr (fun g e => .inr (hHlt g e).1)
        have hO2 := own_far hO hgr (fun g e => (hHlt g e).2)
        have hG2 := own_far hGw hgr (fun g e => by have := (hHlt g e).2; omega)
        have hsc := hgr.size
        clear hrow hgr hN hO hGw H4
        go_wp2_with fail
        have hS := Blk.new wr 77 #[.slice oA No oc, .slice gA Ng gc]
        have H6 := gr_alloc H5 (.cells #[.slice oA No oc, .slice gA Ng gc] 77)
        have hO3 := ownsRow_grown hO2 (World.grownBy_alloc wr (.cells #[.slice oA No oc, .slice gA Ng gc] 77) none)
        have hG3 := ownsRow_grown hG2 (World.grownBy_alloc wr (.cells #[.slice oA No oc, .slice gA Ng gc] 77) none)
        have hSV := hS.lt
        have hsV : wr.heap.size < (wr.alloc (.cells #[.slice oA No oc, .slice gA Ng gc] 77)).heap.size := by simp
        clear hO2 hG2 H5
        generalize wr.alloc (.cells #[.slice oA No oc, .slice gA Ng gc] 77) = V at *
        generalize wr.heap.size = S at *
        go_loopw [93] (fun i wr => ∃ q : Nat, q ≤ 2 ∧ i = .int .i64 q ∧ (∃ xs, wr.ownsRow w5.heap.size 71 2 (.slice oA No oc) No xs) ∧ (∃ xs, wr.ownsRow w6.heap.size 71 2 (.slice gA Ng gc) Ng xs) ∧ Blk wr S 77 #[.slice oA No oc, .slice gA Ng gc] ∧ w4.grownBy wr none) (fun i _ => 2 - (intOf i).toNat)
        case atStart => exact ⟨0, by omega, rfl, ⟨_, hO3⟩, ⟨_, hG3⟩, hS, H6⟩
        case round =>
          obtain ⟨q, hq, rfl, ⟨xo2, hOr⟩, ⟨xg2, hGr⟩, hSr, hgr⟩ := hrel
          have s0 := hSr.cell 0
          have s1 := hSr.cell 1
          simp only [List.getElem?_toArray, List.getElem?_cons_zero, List.getElem?_cons_succ] at s0 s1
          rcases (show q = 0 ∨ q = 1 ∨ q = 2 by omega) with rfl | rfl | rfl
          · rename World => wo
            go_wp2_with fail
            go_loopw [99] (fun i wr => ∃ k : Nat, k ≤ No ∧ i = .int .i64 k ∧ (∃ xs, wr.ownsRow w5.heap.size 71 2 (.slice oA No oc) No xs) ∧ wo.grownBy wr (Value.slice oA No oc).ownBlock) (fun i _ => No - (intOf i).toNat)
            case atStart => exact ⟨0, by omega, rfl, ⟨_, hOr⟩, gr_refl _ _⟩
            case round =>
              obtain ⟨k, hk, rfl, ⟨ys, hrow⟩, hgr2⟩ := hrel
              by_cases hlt : k < No
              · have hki : (k : Int) < (No : Int) := by omega
                obtain ⟨g, rfl, hg0, hg1⟩ := HOS.out (by omega)
                have hc := hrow.cellAt (k * 2) (by omega)
                have hlen := hrow.1
                obtain ⟨u, hu⟩ : ∃ u, ys[k * 2]? = some u := ⟨_, List.getElem?_eq_getElem (by omega)⟩
                rw [hu] at hc
                have hfz := hrow.frozenAt (k * 2)
                have hst := hrow.stored (k * 2) (.int .i64 777)
                have HST := Lib.hid hst
                clear hu hst hlen
                go_wp2_with fail
                go_roundw
                case rel => exact ⟨k + 1, by omega, by go_num, ⟨_, HST.out.1⟩, gr_trans hgr2 HST.out.2⟩
                case measure => simp [intOf]; omega
              · have hki : ¬ (k : Int) < (No : Int) := by omega
                go_wp2_with fail
                go_roundw
                case rel => exact ⟨1, by omega, rfl, ⟨_, hrow⟩, ⟨_, own_far hGr hgr2 (fun g e => (hOlt g e).2)⟩, hSr.grown hgr2 (fun e => by have := (hOlt S e.symm).2; omega), gr_grown hgr hgr2 (fun g e => .inr (by have := (hOlt g e).1; omega))⟩
                case measure => simp [intOf]
          · rename World => wo
            go_wp2_with fail
            go_loopw [99] (fun i wr => ∃ k : Nat, k ≤ Ng ∧ i = .int .i64 k ∧ (∃ xs, wr.ownsRow w6.heap.size 71 2 (.slice gA Ng gc) Ng xs) ∧ wo.grownBy wr (Value.slice gA Ng gc).ownBlock) (fun i _ => Ng - (intOf i).toNat)
            case atStart => exact ⟨0, by omega, rfl, ⟨_, hGr⟩, gr_refl _ _⟩
            case round =>
              obtain ⟨k, hk, rfl, ⟨ys, hrow⟩, hgr2⟩ := hrel
              by_cases hlt : k < Ng
              · have hki : (k : Int) < (Ng : Int) := by omega
                obtain ⟨g, rfl, hg0, hg1⟩ := HGS.out (by omega)
                have hc := hrow.cellAt (k * 2) (by omega)
                have hlen := hrow.1
                obtain ⟨u, hu⟩ : ∃ u, ys[k * 2]? = some u := ⟨_, List.getElem?_eq_getElem (by omega)⟩
                rw [hu] at hc
                have hfz := hrow.frozenAt (k * 2)
                have hst := hrow.stored (k * 2) (.int .i64 777)
                have HST := Lib.hid hst
                clear hu hst hlen
                go_wp2_with fail
                go_roundw
                case rel => exact ⟨k + 1, by omega, by go_num, ⟨_, HST.out.1⟩, gr_trans hgr2 HST.out.2⟩
                case measure => simp [intOf]; omega
              · have hki : ¬ (k : Int) < (Ng : Int) := by omega
                go_wp2_with fail
                go_roundw
                case rel => exact ⟨2, by omega, rfl, ⟨_, own_low hOr (fun g e => (hOlt g e).2) hgr2 (fun g e => (hGlt g e).1)⟩, ⟨_, hrow⟩, hSr.grown hgr2 (fun e => by have := (hGlt S e.symm).2; omega), gr_grown hgr hgr2 (fun g e => .inr (by have := (hGlt g e).1; omega))⟩
                case measure => simp [intOf]
          · clear s0 s1 hSr hOr hGr
            obtain ⟨c0, c1⟩ := (x6.grown hgr (by simp)).cells2
            have HVf := Lib.hid (HV6.out.grown hgr)
            have HUf := Lib.hid (HU6.out.grown hgr)
            have HSf := Lib.hid (ShFrom.grown HSH6.out hgr)
            have HTf := Lib.hid (ShFrom.grown HSI6.out hgr)
            have hGf := gr_trans hG6 hgr
            clear hgr hG6 x6 HV6 HU6 HSH6 HSI6 hO3 hG3 hS H6 hHlt hOlt hGlt
            go_wp2_with fail
            refine (countsE_any (b + 2) (b + 2) _ _ ts sh a z _ HVf.out HSf.out HF.out (by omega) (by omega)).mono ?_
            rintro _ wn ⟨u, rfl, hcn, hgn⟩
            obtain ⟨M, xs2, hM⟩ : ∃ M xs, wn.ownsRow (wr.heap.size + 1) 86 3 u M xs := ⟨_, _, hcn⟩
            obtain ⟨E, hEd⟩ : ∃ E, orE (timesE ts a z) (scanS none sh) = E := ⟨_, rfl⟩
            rw [hEd]
            have hgw := hgn.size
            clear hcn hEd c0 c1
            obtain ⟨uA, uc, rfl, hMl, hMs⟩ := ownsRow_shape hM
            have HMS := Lib.hid hMs
            clear hMs
            go_upto_if 116 with fail
            go_cut [22] (fun s22 wr2 => s22 = .int .i64 E ∧ wr.grownBy wr2 none)
            case first =>
              by_cases hE0 : E = 0
              · subst hE0
                go_wp2_with fail
                go_loopw [119] (fun i wr2 => ∃ k : Nat, k ≤ M ∧ i = .int .i64 k ∧ (∃ xs, wr2.ownsRow (wr.heap.size + 1) 86 3 (.slice uA M uc) M xs) ∧ wr.grownBy wr2 none) (fun i _ => M - (intOf i).toNat)
                case atStart => exact ⟨0, by omega, rfl, ⟨_, hM⟩, hgn⟩
                case round =>
                  obtain ⟨k, hk, rfl, ⟨ys, hrow⟩, hgr2⟩ := hrel
                  by_cases hlt : k < M
                  · have hki : (k : Int) < (M : Int) := by omega
                    obtain ⟨g, rfl, hg0, hg1⟩ := HMS.out (by omega)
                    have hc := hrow.cellAt (k * 3) (by omega)
                    have hlen := hrow.1
                    obtain ⟨u, hu⟩ : ∃ u, ys[k * 3]? = some u := ⟨_, List.getElem?_eq_getElem (by omega)⟩
                    rw [hu] at hc
                    have hfz := hrow.frozenAt (k * 3)
                    have hst := hrow.stored (k * 3) (.string ⟨#[115, 112, 111, 105, 108, 116]⟩)
                    have HST := Lib.hid hst
                    clear hu hst hlen
                    go_wp2_with fail
                    go_roundw
                    case rel => exact ⟨k + 1, by omega, by go_num, ⟨_, HST.out.1⟩, gr_grown hgr2 HST.out.2 (fun gg e => by injection e with e; exact .inr (by omega))⟩
                    case measure => simp [intOf]; omega
                  · have hki : ¬ (k : Int) < (M : Int) := by omega
                    go_wp2_with fail
                    go_meet
                    exact ⟨rfl, hgr2⟩
              · have hE1 : (E == 0) = false := by simpa using hE0
                go_wp2_with fail
                go_meet
                exact ⟨rfl, hgn⟩
            case rest =>
              obtain ⟨rfl, hgz⟩ := hcut
              have hGz := gr_trans hGf hgz
              go_wp2_with fail
              refine (equalInts_same _ _ ts _ (HVf.out.grown hgz).low (HUf.out.grown hgz).low).mono ?_
              rintro _ wy ⟨rfl, hgy⟩
              go_wp2_with fail
              refine (equalShifts_same _ _ _ _ sh _ (ShFrom.grown (ShFrom.grown HSf.out hgz) hgy) (ShFrom.grown (ShFrom.grown HTf.out hgz) hgy)).mono ?_
              rintro _ wx ⟨rfl, hgx⟩
              have hGx := gr_trans (gr_trans hGz hgy) hgx
              go_wp2_with fail
              refine (ready_any b _ (HGL.out.quiet hGx)).mono ?_
              rintro _ wv ⟨rfl, hgv⟩
              go_wp2_with fail
              go_ret
              exact ⟨rfl, gr_below (gr_trans hGx hgv)⟩
end Go.Proofs.YtnapbnkbchaanaaGreatDoor
