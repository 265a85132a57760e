/- The walks over rate.needFault and rate.TooLong. Condition: the window's end is at most 2^60. -/
import Derived.Test.YtlbhphfmckhimaaRestsWorked
namespace Go.Proofs.Ytlbhphfmckhimaa
open Go.RowKit
set_option linter.unusedVariables false

/-- Where the next rest begins. -/
def lastF : Int → List Int → Int
  | f, [] => f
  | _, x :: r => lastF (x + 1) r
theorem restsL_snoc (least : Int) : ∀ (l : List Int) (f y : Int), restsL least f (l ++ [y]) = restsL least f l ++ (if longB least (lastF f l, y) then [(lastF f l, y)] else [])
  | [], f, y => by rw [List.nil_append, restsL_cons]; exact List.append_nil _
  | x :: r, f, y => by rw [List.cons_append, restsL_cons, restsL_cons, restsL_snoc least r (x + 1) y, List.append_assoc]; rfl
theorem lastF_snoc : ∀ (l : List Int) (f y : Int), lastF f (l ++ [y]) = y + 1
  | [], f, y => rfl
  | x :: r, f, y => lastF_snoc r (x + 1) y
theorem sumW_app (a b : List (Int × Int)) : sumW (a ++ b) = sumW a + sumW b := by
  have key : ∀ (b : List (Int × Int)) (n : Int), b.foldl (fun n p => n + (p.2 - p.1)) n = n + b.foldl (fun n p => n + (p.2 - p.1)) 0 := by
    intro b
    induction b with
    | nil => intro n; simp
    | cons p r ih => intro n; simp only [List.foldl_cons]; rw [ih (n + (p.2 - p.1)), ih (0 + (p.2 - p.1))]; omega
  unfold sumW
  rw [List.foldl_append, key]
/-- What is rested in the first k gaps; so much that is left if it is long enough. -/
def restK (l : List Int) (a least : Int) (k : Nat) : Int := sumW (restsL least a (l.take k))
def longV (least n : Int) : Int := if least ≤ n then n else 0
theorem longV_sum (least f y : Int) : sumW (if longB least (f, y) then [(f, y)] else []) = longV least (y - f) := by
  unfold longB longV
  by_cases h : least ≤ y - f <;> simp [h, sumW]
theorem restK_succ (l : List Int) (a least : Int) (k : Nat) (h : k < l.length) : restK l a least (k + 1) = restK l a least k + longV least (l[k] - lastF a (l.take k)) := by
  unfold restK
  rw [List.take_succ_eq_append_getElem h, restsL_snoc, sumW_app, longV_sum]
theorem lastF_succ (l : List Int) (a : Int) (k : Nat) (h : k < l.length) : lastF a (l.take (k + 1)) = l[k] + 1 := by
  rw [List.take_succ_eq_append_getElem h, lastF_snoc]
/-- What is rested if the first k are all. -/
theorem offL_take (l : List Int) (a to_ least : Int) (k : Nat) : sumW (offL (l.take k) a to_ least) = restK l a least k + longV least (to_ - lastF a (l.take k)) := by
  unfold offL restK
  rw [restsL_snoc, sumW_app, longV_sum]
def tooB (l : List Int) (a z need least : Int) (i : Nat) : Bool := decide (sumW (offL (l.take (i + 1)) a z least) < need)
/-- The first contact with which too much is worked, from place k on. -/
def tooFrom (l : List Int) (a z need least : Int) : Nat → Nat → Option Nat
  | _, 0 => none
  | k, n + 1 => if tooB l a z need least k then some k else tooFrom l a z need least (k + 1) n
def tooI (l : List Int) (a z need least : Int) : Option Nat := tooFrom l a z need least 0 l.length

def restsE (a z need least : Int) : Int := if spanE need 0 (z - a) = 0 then spanE least 1000 86400000 else spanE need 0 (z - a)
def needE (l : List Int) (a z need least : Int) : Int := orE (timesE l a z) (restsE a z need least)
theorem restsE_cases (a z need least : Int) : (restsE a z need least = 0 ∧ 0 ≤ need ∧ need ≤ z - a ∧ 1000 ≤ least ∧ least ≤ 86400000) ∨ (restsE a z need least = 1 ∧ ((outB need 0 (z - a) = true) ∨ (outB need 0 (z - a) = false ∧ outB least 1000 86400000 = true))) := by
  unfold restsE
  rcases spanE_cases need 0 (z - a) with ⟨h, h1, h2⟩ | ⟨h, h1⟩
  · rw [if_pos h]
    rcases spanE_cases least 1000 86400000 with ⟨h', h3, h4⟩ | ⟨h', h3⟩
    · exact .inl ⟨h', h1, h2, h3, h4⟩
    · exact .inr ⟨h', .inr ⟨outB_no h1 h2, outB_yes h3⟩⟩
  · rw [if_neg (by omega)]
    exact .inr ⟨h, .inl (outB_yes h1)⟩

set_option maxHeartbeats 1000000 in
theorem needFault_any (base : Nat) (v : Value) (l : List Int) (a z need least : Int) (w : World) (hl : IntsFrom base w v l) (hto : -1152921504606846976 ≤ z) (hto2 : z ≤ 1152921504606846976) :
    Calls Try.prog 31 #[v, .agg #[.int .i64 a, .int .i64 z], .agg #[.int .i64 need, .int .i64 least]] w fun r w' => r = .returned (.int .i64 (needE l a z need least)) ∧ w.grownBy w' none := by
  have hG := gr_alloc (World.grownBy_alloc w (.cells #[.int .i64 a, .int .i64 z] 27) none) (.cells #[.int .i64 need, .int .i64 least] 32)
  have HL := Lib.hid (hl.grown hG)
  have hx0 := (Blk.new w 27 #[.int .i64 a, .int .i64 z]).alloc (.cells #[.int .i64 need, .int .i64 least] 32)
  have hy0 := Blk.new (w.alloc (.cells #[.int .i64 a, .int .i64 z] 27)) 32 #[.int .i64 need, .int .i64 least]
  rw [World.size_alloc] at hy0
  clear hl
  obtain ⟨T, hTd⟩ : ∃ T, timesE l a z = T := ⟨_, rfl⟩
  have hEd : needE l a z need least = orE T (restsE a z need least) := by unfold needE; rw [hTd]
  have HT := Lib.hid hTd
  have HE := Lib.hid hEd
  clear hTd hEd
  by_cases hT : T = 0
  · have b0 : (T != 0) = false := by simpa using hT
    have O := timesE_ok (HT.out.trans hT)
    have o1 := O.a0
    have o2 := O.ato
    have o3 := O.to_
    have H0 := Lib.hid hT
    clear hT O
    have hc := restsE_cases a z need least
    have hc2 : (restsE a z need least = 0 ∧ outB need 0 (z - a) = false ∧ outB least 1000 86400000 = false) ∨ (restsE a z need least = 1 ∧ outB need 0 (z - a) = true) ∨ (restsE a z need least = 1 ∧ outB need 0 (z - a) = false ∧ outB least 1000 86400000 = true) := by
      rcases hc with ⟨h, h1, h2, h3, h4⟩ | ⟨h, h1 | h1⟩
      · exact .inl ⟨h, outB_no h1 h2, outB_no h3 h4⟩
      · exact .inr (.inl ⟨h, h1⟩)
      · exact .inr (.inr ⟨h, h1⟩)
    clear hc
    go_enter Try.func31, Try.ntmps31
    go_wp2_with fail
    refine (checkTimes_any base _ _ _ _ _ HL.out hto hto2).mono ?_
    rintro _ w1 ⟨rfl, hg⟩
    rw [HT.out]
    replace hx0 := hx0.grown hg (by simp)
    replace hy0 := hy0.grown hg (by simp)
    have c0 : w1.cell? ⟨w.heap.size, 0, none⟩ = some (.int .i64 a) := hx0.cell 0
    have c1 : w1.cell? ⟨w.heap.size, 1, none⟩ = some (.int .i64 z) := hx0.cell 1
    have d0 : w1.cell? ⟨w.heap.size + 1, 0, none⟩ = some (.int .i64 need) := hy0.cell 0
    have d1 : w1.cell? ⟨w.heap.size + 1, 1, none⟩ = some (.int .i64 least) := hy0.cell 1
    go_wp2_with fail
    rcases hc2 with ⟨hr, q1, q2⟩ | ⟨hr, q1⟩ | ⟨hr, q1, q2⟩
    · have HR := Lib.hid hr
      have Q1 := Lib.hid q1
      have Q2 := Lib.hid q2
      clear hr q1 q2
      refine (outside_any _ _ _ _).mono ?_
      rintro _ w' ⟨rfl, rfl⟩
      rw [Q1.out]
      go_wp2_with fail
      refine (outside_any _ _ _ _).mono ?_
      rintro _ w' ⟨rfl, rfl⟩
      rw [Q2.out]
      go_wp2_with fail
      go_ret
      exact ⟨by rw [HE.out, orE_z H0.out, HR.out]; rfl, gr_trans hG hg⟩
    · have HR := Lib.hid hr
      have Q1 := Lib.hid q1
      clear hr q1
      refine (outside_any _ _ _ _).mono ?_
      rintro _ w' ⟨rfl, rfl⟩
      rw [Q1.out]
      go_wp2_with fail
      go_ret
      exact ⟨by rw [HE.out, orE_z H0.out, HR.out]; rfl, gr_trans hG hg⟩
    · have HR := Lib.hid hr
      have Q1 := Lib.hid q1
      have Q2 := Lib.hid q2
      clear hr q1 q2
      refine (outside_any _ _ _ _).mono ?_
      rintro _ w' ⟨rfl, rfl⟩
      rw [Q1.out]
      go_wp2_with fail
      refine (outside_any _ _ _ _).mono ?_
      rintro _ w' ⟨rfl, rfl⟩
      rw [Q2.out]
      go_wp2_with fail
      go_ret
      exact ⟨by rw [HE.out, orE_z H0.out, HR.out]; rfl, gr_trans hG hg⟩
  · have b0 : (T != 0) = true := by rw [bne_iff_ne]; exact hT
    have H0 := Lib.hid hT
    clear hT
    go_enter Try.func31, Try.ntmps31
    go_wp2_with fail
    refine (checkTimes_any base _ _ _ _ _ HL.out hto hto2).mono ?_
    rintro _ w1 ⟨rfl, hg⟩
    rw [HT.out]
    go_wp2_with fail
    go_ret
    exact ⟨by rw [HE.out, orE_ne H0.out]; rfl, gr_trans hG hg⟩

theorem lastF_bd {l : List Int} {a z : Int} (O : TimesOk l a z) : ∀ k, k ≤ l.length → 0 ≤ lastF a (l.take k) ∧ lastF a (l.take k) ≤ 345686400001
  | 0, _ => by have := O.a0; have := O.ato; have := O.to_; simp [lastF]; omega
  | k + 1, h => by
    rw [lastF_succ l a k (by omega)]
    have := O.mem l[k] (List.getElem_mem _)
    have := O.a0; have := O.to_
    omega
theorem longV_bd (least n : Int) (h : 0 ≤ least) : 0 ≤ longV least n ∧ (longV least n = 0 ∨ longV least n = n) := by
  unfold longV
  split
  · exact ⟨by omega, .inr rfl⟩
  · exact ⟨by omega, .inl rfl⟩
theorem restK_bd {l : List Int} {a z : Int} (least : Int) (O : TimesOk l a z) (hl : 0 ≤ least) : ∀ k, k ≤ l.length → 0 ≤ restK l a least k ∧ restK l a least k ≤ 345686400001 * (k : Int)
  | 0, _ => by simp [restK, restsL, gapsL, sumW]
  | k + 1, h => by
    have ih := restK_bd least O hl k (by omega)
    have h1 := lastF_bd O k (by omega)
    have h2 := O.mem l[k] (List.getElem_mem _)
    have h3 := longV_bd least (l[k] - lastF a (l.take k)) hl
    have := O.to_
    rw [restK_succ l a least k (by omega)]
    rcases h3.2 with h | h <;> rw [h] <;> rw [h] at h3 <;> omega

def tooN (o : Option Nat) : Int := match o with | none => 0 | some i => i
set_option maxRecDepth 100000 in
set_option maxHeartbeats 2000000 in
theorem tooLong_ok (base : Nat) (v : Value) (l : List Int) (a z need least : Int) (w : World) (hl : IntsFrom base w v l) (hE : needE l a z need least = 0) :
    Calls Try.prog 13 #[v, .agg #[.int .i64 a, .int .i64 z], .agg #[.int .i64 need, .int .i64 least]] w fun r w' =>
      r = .returned (.tuple #[.int .i64 (tooN (tooI l a z need least)), .bool (tooI l a z need least).isSome, .int .i64 0]) ∧ w.grownBy w' none := by
  obtain ⟨t0, r0⟩ := orE_0' hE
  have O := timesE_ok t0
  obtain ⟨n0, n1, n2, n3⟩ : 0 ≤ need ∧ need ≤ z - a ∧ 1000 ≤ least ∧ least ≤ 86400000 := by
    rcases restsE_cases a z need least with ⟨_, h⟩ | ⟨h, _⟩
    · exact h
    · omega
  have o1 := O.a0
  have o2 := O.ato
  have o3 := O.to_
  have o4 := O.len
  obtain ⟨A, ca, rfl, hla, hA⟩ := hl.shape
  have hG := gr_alloc (World.grownBy_alloc w (.cells #[.int .i64 a, .int .i64 z] 27) none) (.cells #[.int .i64 need, .int .i64 least] 32)
  have HL := Lib.hid (hl.grown hG)
  have hx0 := (Blk.new w 27 #[.int .i64 a, .int .i64 z]).alloc (.cells #[.int .i64 need, .int .i64 least] 32)
  have hy0 := Blk.new (w.alloc (.cells #[.int .i64 a, .int .i64 z] 27)) 32 #[.int .i64 need, .int .i64 least]
  rw [World.size_alloc] at hy0
  have HE := Lib.hid hE
  have HM := Lib.hid O.mem
  have HLB := Lib.hid (lastF_bd O)
  have HRB := Lib.hid (restK_bd least O (by omega))
  have HRS := Lib.hid (restK_succ l a least)
  have HLS := Lib.hid (lastF_succ l a)
  have HOT := Lib.hid (offL_take l a z least)
  obtain ⟨o, ho⟩ : ∃ o, tooI l a z need least = o := ⟨_, rfl⟩
  have HO : Hid (o = tooFrom l a z need least 0 l.length) := ho.symm
  rw [ho]
  clear hl hE t0 r0 O ho
  go_enter Try.func13, Try.ntmps13
  go_wp2_with fail
  refine (needFault_any base _ _ _ _ _ _ _ HL.out (by omega) (by omega)).mono ?_
  rintro _ w1 ⟨rfl, hg⟩
  rw [HE.out]
  replace hx0 := hx0.grown hg (by simp)
  replace hy0 := hy0.grown hg (by simp)
  have c0 : w1.cell? ⟨w.heap.size, 0, none⟩ = some (.int .i64 a) := hx0.cell 0
  have c1 : w1.cell? ⟨w.heap.size, 1, none⟩ = some (.int .i64 z) := hx0.cell 1
  have d0 : w1.cell? ⟨w.heap.size + 1, 0, none⟩ = some (.int .i64 need) := hy0.cell 0
  have d1 : w1.cell? ⟨w.heap.size + 1, 1, none⟩ = some (.int .i64 least) := hy0.cell 1
  have HL1 := Lib.hid (HL.out.grown hg)
  go_wp2_with fail
  go_quiet (fail)
  go_wp2_with fail
  go_loopw [10, 11, 26] (fun r f i wr => ∃ k : Nat, k ≤ l.length ∧ i = .int .i64 k ∧ r = .int .i64 (restK l a least k) ∧ f = .int .i64 (lastF a (l.take k)) ∧ Hid (o = tooFrom l a z need least k (l.length - k)) ∧ w1.grownBy wr none) (fun _ _ i _ => l.length - (intOf i).toNat)
  case atStart => exact ⟨0, by omega, rfl, rfl, rfl, HO.out, gr_drewN (gr_refl _ _) _⟩
  case round =>
    obtain ⟨k, hk, rfl, rfl, rfl, HK, hgr⟩ := hrel
    have hx1 := hx0.grown hgr (by simp)
    have hy1 := hy0.grown hgr (by simp)
    have c0 : wr.cell? ⟨w.heap.size, 0, none⟩ = some (.int .i64 a) := hx1.cell 0
    have c1 : wr.cell? ⟨w.heap.size, 1, none⟩ = some (.int .i64 z) := hx1.cell 1
    have d0 : wr.cell? ⟨w.heap.size + 1, 0, none⟩ = some (.int .i64 need) := hy1.cell 0
    have d1 : wr.cell? ⟨w.heap.size + 1, 1, none⟩ = some (.int .i64 least) := hy1.cell 1
    have hlb := HLB.out k hk
    have hrb := HRB.out k hk
    by_cases hlt : k < l.length
    · obtain ⟨g, rfl, _, _⟩ := hA (by omega)
      have hkl : (k : Int) < (l.length : Int) := by omega
      have cx := (HL1.out.grown hgr).at_ k hlt
      have hm := HM.out l[k] (List.getElem_mem hlt)
      have hrs := HRS.out k hlt
      have hls := HLS.out k hlt
      have hot := HOT.out (k + 1)
      obtain ⟨x, hx⟩ : ∃ x, x = l[k] := ⟨_, rfl⟩
      rw [← hx] at cx hm hrs hls
      rw [hrs, hls] at hot
      have hkk : l.length - k = (l.length - (k + 1)) + 1 := by omega
      have hst : o = if tooB l a z need least k then some k else tooFrom l a z need least (k + 1) (l.length - (k + 1)) := by rw [HK.out, hkk]; rfl
      obtain ⟨R, hR⟩ : ∃ R, restK l a least k = R := ⟨_, rfl⟩
      obtain ⟨F, hF⟩ : ∃ F, lastF a (l.take k) = F := ⟨_, rfl⟩
      rw [hR] at hrb hrs hot ⊢
      rw [hF] at hlb hrs hot ⊢
      have HR := Lib.hid hrs
      have HF := Lib.hid hls
      have HT : Hid (tooB l a z need least k = decide (R + longV least (x - F) + longV least (z - (x + 1)) < need)) := by show _ = _; unfold tooB; rw [hot]
      have HS := Lib.hid hst
      clear hx hrs hls hot hkk hst hR hF HK
      by_cases h1 : least ≤ x - F
      all_goals by_cases h2 : z - (x + 1) < least
      all_goals
        have v1 : longV least (x - F) = if least ≤ x - F then x - F else 0 := rfl
        have v2 : longV least (z - (x + 1)) = if least ≤ z - (x + 1) then z - (x + 1) else 0 := rfl
      all_goals first | rw [if_pos h1] at v1 | rw [if_neg h1] at v1
      all_goals first | rw [if_neg (by omega)] at v2 | rw [if_pos (by omega)] at v2
      all_goals
        rw [v1] at HR HT
        rw [v2] at HT
        clear v1 v2
        go_wp2_with fail
      all_goals first
        | (go_roundw
           case rel => exact ⟨k + 1, by omega, by go_num, by rw [HR.out]; first | done | go_num, by rw [HF.out], by show _ = _; rw [HS.out, HT.out]; exact if_neg (by simp; omega), hgr⟩
           case measure => simp [intOf]; omega)
        | (go_ret3
           have ho : o = some k := by rw [HS.out, HT.out]; exact if_pos (by simp; omega)
           rw [ho]
           exact ⟨rfl, gr_trans (gr_trans hG hg) hgr⟩)
    · have hkl : ¬ (k : Int) < (l.length : Int) := by omega
      have HN : Hid (o = none) := by show _ = _; rw [HK.out, show l.length - k = 0 by omega]; rfl
      go_wp2_with fail
      go_ret3
      rw [HN.out]
      exact ⟨rfl, gr_trans (gr_trans hG hg) hgr⟩
end Go.Proofs.Ytlbhphfmckhimaa
