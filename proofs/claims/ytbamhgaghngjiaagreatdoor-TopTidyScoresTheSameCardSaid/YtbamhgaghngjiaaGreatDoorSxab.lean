/- Parts of a proof: RateA, KeyName, Tab, KeyA. Conditions: as each statement says. -/
import Derived.Test.YtbamhgaghngjiaaGreatDoorSxaa
import Derived.Deep.RegionHeld3
import Derived.Shelf.Strings.SlTrimAscii
import Derived.Lib.IndexAny
import Derived.Lib.Fields
import Derived.Lib.SmallJoins
import Derived.Deep.AppendLies
import Derived.Maps.OwnOps
import Derived.Maps.Views
import Derived.Maps.StringElems
namespace Go.Proofs.YtbamhgaghngjiaaGreatDoor
set_option linter.unusedVariables false

def ja0 (a zt x : Int) : Bool := decide (a ≤ x ∧ x < zt)
def x8 (a zt : Int) : Bool := decide (0 ≤ a ∧ a < zt ∧ zt ≤ 345686400000)
def jav (a zt : Int) : Int := if x8 a zt then 0 else 1
def zw (a zt : Int) : Option Int → List Int → Int
 | _, [] => 0
 | p, x :: r => if ja0 a zt x = false then 1 else if p.any (fun y => decide (x < y)) then 7 else zw a zt (some x) r
def jan (l : List Int) (a zt : Int) : Int := if x8 a zt = false then 1 else if 2000 < l.length then 2 else zw a zt none l
theorem joh (a zt : Int) : ∀ (p : Option Int) (l : List Int), zw a zt p l = 0 → l.Pairwise (· ≤ ·) ∧ (∀ x ∈ l, a ≤ x ∧ x < zt) ∧ ∀ y, p = some y → ∀ x ∈ l, y ≤ x
 | p, [], _ => ⟨List.Pairwise.nil, by simp, by simp⟩
 | p, x :: r, h => by
   unfold zw at h
   split at h
   ·omega
   split at h
   ·omega
   rename_i h1 h2
   have ih := joh a zt (some x) r h
   have hx : a ≤ x ∧ x < zt := by simpa [ja0] using h1
   refine ⟨List.pairwise_cons.2 ⟨fun y hy => ih.2.2 x rfl y hy, ih.1⟩, ?_, ?_⟩
   ·intro y hy
    rcases List.mem_cons.1 hy with rfl | hy
    ·exact hx
    exact ih.2.1 y hy
   intro y hy z hz
   subst hy
   have hyx : y ≤ x := by simpa using h2
   rcases List.mem_cons.1 hz with rfl | hz
   ·exact hyx
   exact Int.le_trans hyx (ih.2.2 x rfl z hz)
structure TimesOk (l : List Int) (a zt : Int) : Prop where
 a0 : 0 ≤ a
 ato : a < zt
 to_ : zt ≤ 345686400000
 len : l.length ≤ 2000
 sorted : l.Pairwise (· ≤ ·)
 mem : ∀ x ∈ l, a ≤ x ∧ x < zt
theorem jrm {l : List Int} {a zt : Int} (h : jan l a zt = 0) : TimesOk l a zt := by
 unfold jan at h
 split at h
 ·omega
 split at h
 ·omega
 rename_i h1 h2
 have h3 : 0 ≤ a ∧ a < zt ∧ zt ≤ 345686400000 := by simpa [x8] using h1
 have := joh a zt none l h
 exact ⟨h3.1, h3.2.1, h3.2.2, by omega, this.1, this.2.1⟩
def jcj (l : List Int) (x : Int) : Int := (l.countP (fun y => decide (y < x)) : Nat)
def jcn (l : List Int) (a zt : Int) : Int := (l.countP (fun x => ja0 a zt x) : Nat)
def inI (l : List Int) (a zt : Int) : Int := max 0 (jcj l zt - jcj l a)
theorem jif (l : List Int) (x : Int) : 0 ≤ jcj l x ∧ jcj l x ≤ l.length := by
 unfold jcj
 have := List.countP_le_length (p := fun y => decide (y < x)) (l := l)
 omega
theorem joz (l : List Int) (a zt : Int) : 0 ≤ jcn l a zt ∧ jcn l a zt ≤ l.length := by
 unfold jcn
 have := List.countP_le_length (p := fun x => ja0 a zt x) (l := l)
 omega
theorem jut (l : List Int) (a zt : Int) (h : a ≤ zt) : jcj l zt - jcj l a = jcn l a zt := by
 unfold jcj jcn
 induction l with
 | nil => rfl
 | cons x r ih =>
   simp only [List.countP_cons, ja0, decide_eq_true_eq] at ih ⊢
   by_cases h1 : x < zt <;> by_cases h2 : x < a <;> by_cases h3 : a ≤ x <;> simp [h1, h2, h3] at ih ⊢ <;> omega
theorem jvf (l : List Int) (a zt : Int) (h : zt ≤ a) : jcj l zt ≤ jcj l a := by
 unfold jcj
 have := List.countP_mono_left (l := l) (p := fun y => decide (y < zt)) (q := fun y => decide (y < a)) (fun x _ hx => by simp at hx ⊢; omega)
 omega
theorem juz (l : List Int) (a zt : Int) (h : zt < a) : jcn l a zt = 0 ∧ jcj l zt ≤ jcj l a := by
 refine ⟨?_, jvf l a zt (by omega)⟩
 unfold jcn
 have : l.countP (fun x => ja0 a zt x) = 0 := List.countP_eq_zero.2 (fun x _ => by unfold ja0; simp; omega)
 omega
theorem jvw (l : List Int) (a zt : Int) : inI l a zt = jcn l a zt := by
 unfold inI
 have hb := joz l a zt
 by_cases h : a ≤ zt
 ·rw [jut l a zt h]; omega
 have := juz l a zt (by omega); omega
def yy (l : List Int) (long : Int) (st : Int × Int) (x : Int) : Int × Int := if st.2 < jcn l x (x + long) then (x, jcn l x (x + long)) else st
def jln (l : List Int) (a long : Int) : Int × Int := l.foldl (yy l long) (a, jcn l a (a + long))
end Go.Proofs.YtbamhgaghngjiaaGreatDoor

namespace Go.Proofs.YtbamhgaghngjiaaGreatDoor
open Go.RowKit
set_option linter.unusedVariables false

theorem jrd {a zt : Int} (h : 0 ≤ a ∧ a < zt ∧ zt ≤ 345686400000) : x8 a zt = true := by unfold x8; simpa using h
theorem je6 {a zt : Int} (h : ¬ (0 ≤ a ∧ a < zt ∧ zt ≤ 345686400000)) : x8 a zt = false := by unfold x8; simpa using h
set_option maxHeartbeats 400000 in
theorem zp (a zt : Int) (w : World) (hto : -1152921504606846976 ≤ zt) (hto2 : zt ≤ 1152921504606846976) :
 Calls Tryz.prog 150 #[.agg #[.int .i64 a, .int .i64 zt]] w fun r w' => r = .returned (.bool (x8 a zt)) ∧ w.grownBy w' none := by
 by_cases h1 : 0 ≤ a ∧ a ≤ zt - 1
 ·have hb : qy a 0 (zt - 1) = false := jae h1.1 h1.2
  have HE : Hid (x8 a zt = decide (zt ≤ 345686400000)) := by
   show _ = _
   unfold x8
   by_cases h : zt ≤ 345686400000 <;> simp [h] <;> omega
  go_enter Tryz.func150, Tryz.ntmps150
  go_wp2_with fail
  refine (qf _ _ _ _).mono ?_
  rintro r w' ⟨rfl, rfl⟩
  go_wp2_with fail
  go_ret
  exact ⟨yg HE.out.symm, jd (je _ _) _⟩
 have hb : qy a 0 (zt - 1) = true := xr (by omega)
 have HE := Lib.hid (je6 (a := a) (zt := zt) (by omega))
 go_enter Tryz.func150, Tryz.ntmps150
 go_wp2_with fail
 refine (qf _ _ _ _).mono ?_
 rintro r w' ⟨rfl, rfl⟩
 go_wp2_with fail
 go_ret
 exact ⟨yg HE.out.symm, jd (je _ _) _⟩
set_option maxHeartbeats 400000 in
theorem jbc (a zt : Int) (w : World) :
 Calls Tryz.prog 37 #[.agg #[.int .i64 a, .int .i64 zt]] w fun r w' => r = .returned (.int .i64 (jav a zt)) ∧ w.grownBy w' none := by
 by_cases k1 : a < 0
 ·have HE : Hid (jav a zt = 1) := by show _ = _; unfold jav; rw [je6 (by omega)]; rfl
  go_enter Tryz.func37, Tryz.ntmps37
  go_wp2_with fail
  go_ret
  exact ⟨ji HE.out.symm, jd (je _ _) _⟩
 by_cases k2 : zt ≤ a
 ·have HE : Hid (jav a zt = 1) := by show _ = _; unfold jav; rw [je6 (by omega)]; rfl
  go_enter Tryz.func37, Tryz.ntmps37
  go_wp2_with fail
  go_ret
  exact ⟨ji HE.out.symm, jd (je _ _) _⟩
 by_cases k3 : 345686400000 < zt
 ·have HE : Hid (jav a zt = 1) := by show _ = _; unfold jav; rw [je6 (by omega)]; rfl
  go_enter Tryz.func37, Tryz.ntmps37
  go_wp2_with fail
  go_ret
  exact ⟨ji HE.out.symm, jd (je _ _) _⟩
 have HE : Hid (jav a zt = 0) := by show _ = _; unfold jav; rw [jrd (by omega)]; rfl
 go_enter Tryz.func37, Tryz.ntmps37
 go_wp2_with fail
 go_ret
 exact ⟨ji HE.out.symm, jd (je _ _) _⟩
theorem jx0 {a zt x : Int} (h : a ≤ x) : ja0 a zt x = decide (x < zt) := by unfold ja0; simp [h]
theorem jxm {a zt x : Int} (h : ¬ a ≤ x) : ja0 a zt x = false := by unfold ja0; simp [h]
set_option maxHeartbeats 400000 in
theorem jcv (a zt x : Int) (w : World) :
 Calls Tryz.prog 49 #[.agg #[.int .i64 a, .int .i64 zt], .int .i64 x] w fun r w' => r = .returned (.bool (ja0 a zt x)) ∧ w.grownBy w' none := by
 by_cases k1 : a ≤ x
 ·have HE := Lib.hid (jx0 (zt := zt) k1)
  go_enter Tryz.func49, Tryz.ntmps49
  go_wp2_with fail
  go_ret
  exact ⟨yg HE.out.symm, jd (je _ _) _⟩
 have HE := Lib.hid (jxm (zt := zt) k1)
 go_enter Tryz.func49, Tryz.ntmps49
 go_wp2_with fail
 go_ret
 exact ⟨yg HE.out.symm, jd (je _ _) _⟩
def jbh (b : Bool) : Int := if b then 1 else 0
set_option maxHeartbeats 400000 in
theorem jll (b : Bool) (w : World) :
 Calls Tryz.prog 134 #[.bool b] w fun r w' => r = .returned (.int .i64 (jbh b)) ∧ w = w' := by
 cases b
 all_goals
  go_enter Tryz.func134, Tryz.ntmps134
  go_wp2_with fail
  go_ret
  exact ⟨rfl, rfl⟩
def jgx (l : List Int) (k : Nat) : Option Int := if k = 0 then none else l[k - 1]?
theorem jqk (l : List Int) (k : Nat) (h : k < l.length) : jgx l (k + 1) = some l[k] := by unfold jgx; simp [h]
theorem jr3 (l : List Int) (k : Nat) (h0 : 0 < k) (h : k < l.length) : jgx l k = some (l[k - 1]'(by omega)) := by
 unfold jgx; rw [if_neg (by omega)]; exact List.getElem?_eq_getElem (by omega)
theorem js0 {a zt x : Int} {p : Option Int} {r : List Int} (h : ja0 a zt x = false) : zw a zt p (x :: r) = 1 := by simp [zw, h]
theorem jlz {a zt x y : Int} {r : List Int} (h : ja0 a zt x = true) (hxy : x < y) : zw a zt (some y) (x :: r) = 7 := by simp [zw, h, hxy]
theorem jhl {a zt x : Int} {p : Option Int} {r : List Int} (h : ja0 a zt x = true) (hp : ∀ y, p = some y → ¬ x < y) : zw a zt p (x :: r) = zw a zt (some x) r := by
 cases p with
 | none => simp [zw, h]
 | some y => have := hp y rfl; simp [zw, h]; omega
set_option maxHeartbeats 2000000 in
theorem jgu (base : Nat) (v : Value) (l : List Int) (a zt : Int) (w : World) (hl : IntsFrom base w v l) (hto : -1152921504606846976 ≤ zt) (hto2 : zt ≤ 1152921504606846976) :
 Calls Tryz.prog 89 #[v, .agg #[.int .i64 a, .int .i64 zt]] w fun r w' => r = .returned (.int .i64 (jan l a zt)) ∧ w.grownBy w' none := by
 obtain ⟨A, c, rfl, hlen, hA⟩ := hl.shape
 rcases hb : x8 a zt
 ·have HE : Hid (jan l a zt = 1) := by show _ = _; unfold jan; rw [if_pos hb]
  go_enter Tryz.func89, Tryz.ntmps89
  go_wp2_with fail
  refine (zp _ _ _ hto hto2).mono ?_
  rintro r w1 ⟨rfl, hg1⟩
  go_wp2_with fail
  go_ret
  exact ⟨ji HE.out.symm, ja (World.grownBy_alloc w _ none) hg1⟩
 by_cases hbig : 2000 < l.length
 ·have HE : Hid (jan l a zt = 2) := by show _ = _; unfold jan; rw [if_neg (by simp [hb]), if_pos hbig]
  have hbig' : (2000 : Int) < (l.length : Int) := by omega
  go_enter Tryz.func89, Tryz.ntmps89
  go_wp2_with fail
  refine (zp _ _ _ hto hto2).mono ?_
  rintro r w1 ⟨rfl, hg1⟩
  go_wp2_with fail
  go_ret
  exact ⟨ji HE.out.symm, ja (World.grownBy_alloc w _ none) hg1⟩
 have HE : Hid (jan l a zt = zw a zt none l) := by show _ = _; unfold jan; rw [if_neg (by simp [hb]), if_neg hbig]
 have hbig' : ¬ (2000 : Int) < (l.length : Int) := by omega
 have HL := Lib.hid hl
 clear hl
 go_enter Tryz.func89, Tryz.ntmps89
 go_wp2_with fail
 refine (zp _ _ _ hto hto2).mono ?_
 rintro r w1 ⟨rfl, hg1⟩
 have hw1 := (Blk.new w 29 #[.int .i64 a, .int .i64 zt]).grown hg1 (by simp)
 have hG1 := ja (World.grownBy_alloc w (.cells #[.int .i64 a, .int .i64 zt] 29) none) hg1
 clear hg1
 go_wp2_with fail
 go_loopw [15] (fun i wr => ∃ k : Nat, k ≤ l.length ∧ i = .int .i64 k ∧ Hid (zw a zt none l = zw a zt (jgx l k) (l.drop k)) ∧ w.grownBy wr none ∧ Blk wr w.heap.size 29 #[.int .i64 a, .int .i64 zt]) (fun i _ => l.length - (intOf i).toNat)
 case atStart => exact ⟨0, by omega, rfl, rfl, hG1, hw1⟩
 case round =>
  obtain ⟨k, hk, rfl, HR, hG, hW⟩ := hrel
  by_cases hlt : k < l.length
  ·obtain ⟨g, rfl, hg0, hg1⟩ := hA (by omega)
   have hkl : (k : Int) < (l.length : Int) := by omega
   have cx := (HL.out.grown hG).at_ k hlt
   have b0 : wr.cell? ⟨w.heap.size, 0, none⟩ = some (.int .i64 a) := hW.cell 0
   have b1 : wr.cell? ⟨w.heap.size, 1, none⟩ = some (.int .i64 zt) := hW.cell 1
   have hd := List.drop_eq_getElem_cons hlt
   have hpn := jqk l k hlt
   have hpk := fun h0 => jr3 l k h0 hlt
   have HN : Hid (zw a zt none l = zw a zt (jgx l k) (l[k] :: l.drop (k + 1))) := by show _ = _; rw [HR.out, hd]
   have HP := Lib.hid hpn
   have HQ := Lib.hid hpk
   clear hd hpn hpk
   have cp : 0 < k → wr.cell? ⟨g, k - 1, none⟩ = some (.int .i64 (l[k - 1]'(by omega))) := fun h0 => (HL.out.grown hG).at_ (k - 1) (by omega)
   obtain ⟨x, hx⟩ : ∃ x, x = l[k] := ⟨_, rfl⟩
   rw [← hx] at cx HN HP
   clear hx HR
   rcases hh : ja0 a zt x
   ·have HF := Lib.hid (HN.out.trans (js0 hh))
    go_wp2_with fail
    refine (jcv _ _ _ _).mono ?_
    rintro _ w2 ⟨rfl, hg2⟩
    go_wp2_with fail
    go_ret
    exact ⟨ji (HE.out.trans HF.out).symm, ja hG hg2⟩
   by_cases h0 : 0 < k
   ·have c1 := cp h0
    have hq := HQ.out h0
    obtain ⟨y, hy⟩ : ∃ y, y = l[k - 1]'(by omega) := ⟨_, rfl⟩
    rw [← hy] at c1 hq
    have HY := Lib.hid hq
    clear hy cp hq HQ
    obtain ⟨m, rfl⟩ : ∃ m, k = m + 1 := ⟨k - 1, by omega⟩
    have c2 : wr.cell? ⟨g, m, none⟩ = some (.int .i64 y) := c1
    clear c1
    have hkp : (0 : Int) < ((m + 1 : Nat) : Int) := by omega
    by_cases hxy : x < y
    ·have HF : Hid (zw a zt none l = 7) := by show _ = _; rw [HN.out, HY.out]; exact jlz hh hxy
     go_wp2_with fail
     refine (jcv _ _ _ _).mono ?_
     rintro _ w2 ⟨rfl, hg2⟩
     have c3 : w2.cell? ⟨g, m, none⟩ = some (.int .i64 y) := hg2.cell c2 (by simp)
     clear c2
     go_wp2_with fail
     go_ret
     exact ⟨ji (HE.out.trans HF.out).symm, ja hG hg2⟩
    have HF : Hid (zw a zt none l = zw a zt (jgx l (m + 1 + 1)) (l.drop (m + 1 + 1))) := by
     show _ = _
     rw [HN.out, HP.out, HY.out]
     exact jhl hh (fun z hz => by injection hz with hz; omega)
    go_wp2_with fail
    refine (jcv _ _ _ _).mono ?_
    rintro _ w2 ⟨rfl, hg2⟩
    have c3 : w2.cell? ⟨g, m, none⟩ = some (.int .i64 y) := hg2.cell c2 (by simp)
    clear c2
    have hG2 := ja hG hg2
    have hW2 := hW.grown hg2 (by simp)
    go_wp2_with fail
    go_roundw
    case rel => exact ⟨m + 1 + 1, by omega, by go_num, HF, hG2, hW2⟩
    case measure => simp [intOf]; omega
   obtain rfl : k = 0 := by omega
   have HF : Hid (zw a zt none l = zw a zt (jgx l (0 + 1)) (l.drop (0 + 1))) := by
    show _ = _
    rw [HN.out, HP.out]
    exact jhl hh (fun z hz => by simp [jgx] at hz)
   clear cp HQ
   go_wp2_with fail
   refine (jcv _ _ _ _).mono ?_
   rintro _ w2 ⟨rfl, hg2⟩
   have hG2 := ja hG hg2
   have hW2 := hW.grown hg2 (by simp)
   go_wp2_with fail
   go_roundw
   case rel => exact ⟨0 + 1, by omega, by go_num, HF, hG2, hW2⟩
   case measure => simp [intOf]; omega
  have HF : Hid (zw a zt none l = 0) := by
   show _ = _
   rw [HR.out, List.drop_of_length_le (by omega)]
   cases jgx l k <;> rfl
  have hkl : ¬ (k : Int) < (l.length : Int) := by omega
  go_wp2_with fail
  go_ret
  exact ⟨ji (HE.out.trans HF.out).symm, hG⟩
end Go.Proofs.YtbamhgaghngjiaaGreatDoor

namespace Go.Proofs.YtbamhgaghngjiaaGreatDoor
open Go.RowKit
set_option linter.unusedVariables false

theorem jw0 {P : Program} {f : FuncId} {args : Array Value} {w : World} {v : Value} (h : Calls P f args w fun e w' => e = .returned v ∧ ∃ m, w' = w.drewN m) : Calls P f args w fun e w'' => e = .returned v ∧ ∃ m, w'' = w.drewN m := h
theorem jty {P : Program} {f : FuncId} {args : Array Value} {w : World} {n : Nat} {v : Value}
 (h : Calls P f args (w.drewN n) fun e w' => e = .returned v ∧ ∃ m, w' = (w.drewN n).drewN m) : Calls P f args (w.drewN n) fun e w'' => e = .returned v ∧ ∃ m, w'' = w.drewN m :=
 h.mono fun _ _ ⟨he, m, hm⟩ => ⟨he, n + m, by rw [hm, World.drewN_drewN]⟩
theorem jpu {P : Program} {f : FuncId} {args : Array Value} {w : World} {a n : Nat} {v : Value}
 (h : Calls P f args (w.drewN (a + n)) fun e w' => e = .returned v ∧ ∃ m, w' = (w.drewN (a + n)).drewN m) :
 Calls P f args (w.drewN (a + n)) fun e w'' => e = .returned v ∧ ∃ m, w'' = w.drewN (a + m) :=
 h.mono fun _ _ ⟨he, m, hm⟩ => ⟨he, n + m, by rw [hm, World.drewN_drewN, Nat.add_assoc]⟩
set_option maxHeartbeats 400000 in
theorem jed (base : Nat) (v : Value) (l : List Int) (x : Int) (w : World) (hl : IntsFrom base w v l) (hs : l.Pairwise (· ≤ ·)) (hn : l.length ≤ 1000000) :
 Calls Tryz.prog 151 #[v, .int .i64 x] w fun r w' => r = .returned (.int .i64 (jcj l x)) ∧ ∃ m, w' = w.drewN m := by
 obtain ⟨A, c, rfl, hlen, hA⟩ := hl.shape
 have hb := jif l x
 rcases Nat.eq_zero_or_pos l.length with h0 | h0
 ·have hl0 : l = [] := List.eq_nil_of_length_eq_zero h0
  subst hl0
  have HA := Lib.hid hA
  have HL := Lib.hid hl
  clear hA hl
  go_enter Tryz.func151, Tryz.ntmps151
  go_wp2_with fail
  refine (Tryz.slices_BinarySearch_int_empty A c x _).mono ?_
  rintro _ w1 ⟨rfl, rfl⟩
  go_wp2_with fail
  go_ret
  exact ⟨rfl, 0, rfl⟩
 obtain ⟨g, rfl, _, _⟩ := hA h0
 have hc : ∀ j, j < l.length → w.cell? ⟨g, 0 + j, none⟩ = some (.int .i64 (l.getD j 0)) := fun j hj => by
  rw [Nat.zero_add, hl.at_ j hj]
  simp [List.getD, hj]
 have htk : l.take l.length = l := List.take_length
 have HB := Tryz.slices_BinarySearch_int g 0 l.length c l x w (Nat.le_refl _) (by omega) hc (by rw [htk]; exact hs)
 rw [htk] at HB
 have HB2 := Lib.hid HB
 have HL := Lib.hid hl
 have HS := Lib.hid hs
 clear HB hc hA hl hs htk
 go_enter Tryz.func151, Tryz.ntmps151
 go_wp2_with fail
 refine HB2.out.mono ?_
 rintro _ w1 ⟨rfl, q, rfl⟩
 go_wp2_with fail
 go_ret
 exact ⟨rfl, q, rfl⟩
theorem IntsFrom.drewN {base : Nat} {w : World} {v : Value} {l : List Int} (h : IntsFrom base w v l) (n : Nat) : IntsFrom base (w.drewN n) v l := h
theorem IntsFrom.alloc {base : Nat} {w : World} {v : Value} {l : List Int} (h : IntsFrom base w v l) (o : Obj) : IntsFrom base (w.alloc o) v l := World.ownsRow.alloc h o
set_option maxHeartbeats 1000000 in
theorem jta (base : Nat) (v : Value) (l : List Int) (a zt : Int) (w : World) (hl : IntsFrom base w v l) (hs : l.Pairwise (· ≤ ·)) (hn : l.length ≤ 1000000) :
 Calls Tryz.prog 91 #[v, .agg #[.int .i64 a, .int .i64 zt]] w fun r w' => r = .returned (.int .i64 (jcn l a zt)) ∧ w.grownBy w' none := by
 have HE := Lib.hid (jvw l a zt)
 unfold inI at HE
 obtain ⟨p, hp⟩ : ∃ p, jcj l zt = p := ⟨_, rfl⟩
 obtain ⟨q, hq⟩ : ∃ q, jcj l a = q := ⟨_, rfl⟩
 have hp1 := jif l zt
 have hq1 := jif l a
 rw [hp] at HE hp1
 rw [hq] at HE hq1
 obtain ⟨p0, p1⟩ := hp1
 obtain ⟨q0, q1⟩ := hq1
 have m1 : IntKind.i64.wrap (p - q) = p - q := IntWalk.i64_in _ ⟨by omega, by omega⟩
 have HL := Lib.hid hl
 have HS := Lib.hid hs
 clear hl hs
 go_enter Tryz.func91, Tryz.ntmps91
 go_wp2_with fail
 go_quiet ((go_at_call 151; first | exact jw0 (jed base v l _ _ (HL.out.alloc _) HS.out hn) | exact jty (jed base v l _ _ ((HL.out.alloc _).drewN _) HS.out hn) | exact jpu (jed base v l _ _ ((HL.out.alloc _).drewN _) HS.out hn)))
 all_goals go_wp2_with fail
 go_ret
 exact ⟨ji HE.out, xg (World.grownBy_alloc w _ none) _⟩
def jr7 (n : Int) : Int := jdf n 60000 86400000
theorem jm7 (n : Int) : (jr7 n = 0 ∧ qy n 60000 86400000 = false ∧ 60000 ≤ n ∧ n ≤ 86400000) ∨ (jr7 n = 1 ∧ qy n 60000 86400000 = true) := by
 unfold jr7
 rcases jc7 n 60000 86400000 with ⟨h, h1, h2⟩ | ⟨h, h1⟩
 ·exact .inl ⟨h, jae h1 h2, h1, h2⟩
 exact .inr ⟨h, xr h1⟩
set_option maxHeartbeats 400000 in
theorem jqe (n : Int) (w : World) :
 Calls Tryz.prog 90 #[.int .i64 n] w fun e w' => e = .returned (.bool (!qy n 60000 86400000)) ∧ w = w' := by
 go_enter Tryz.func90, Tryz.ntmps90
 go_wp2_with fail
 refine (qf _ _ _ _).mono ?_
 rintro e w' ⟨rfl, rfl⟩
 go_wp2_with fail
 go_ret
 exact ⟨rfl, rfl⟩
end Go.Proofs.YtbamhgaghngjiaaGreatDoor

namespace Go.Proofs.YtbamhgaghngjiaaGreatDoor
open Go.RowKit
set_option linter.unusedVariables false

end Go.Proofs.YtbamhgaghngjiaaGreatDoor

namespace Go.Proofs.YtbamhgaghngjiaaGreatDoor
open Go.RowKit
set_option linter.unusedVariables false

theorem jpk {w w' : World} {row : Option Nat} (h : w.drew.grownBy w' row) : w.grownBy w' row := ⟨h.os, h.tape, h.output, h.size, h.block⟩
theorem TimesOk.E0 {l : List Int} {a zt : Int} (h : jan l a zt = 0) : (jan l a zt != 0) = false := by rw [h]; rfl
end Go.Proofs.YtbamhgaghngjiaaGreatDoor
namespace Go.Proofs.YtbamhgaghngjiaaGreatDoor
open Go.RowKit
set_option linter.unusedVariables false

theorem jxo : (Tryz.prog.info? 199).map (fun i => (i.zero, i.size)) = some (some (.agg (Array.replicate 256 (.bool false))), 256) := by kernel_rfl
theorem jol (s cutset : ByteArray) (w : World) (hs : s.size ≤ 9223372036854775807) (hc : cutset.size ≤ 1000) (ha : cutset.data.toList.all (fun b => decide (b.toNat < 128)) = true) :
 Calls Tryz.prog 82 #[.string s, .string cutset] w fun e w' => e = .returned (.string ⟨(Lib.trimS s.data.toList cutset.data.toList).toArray⟩) ∧ w.grownBy w' none :=
 (Any.strings_Trim_laid Tryz.lays160 jxo s cutset w hs (by omega) (ascii_of_all ha)).mono fun e w' ⟨he, hb⟩ => ⟨he, jfw hb⟩
theorem zh {α : Type} (p : α → Bool) : ∀ l : List α, l.dropWhile p = [] ↔ l.all p = true
 | [] => by simp
 | a :: r => by
   rw [List.dropWhile_cons, List.all_cons]
   cases h : p a
   ·simp
   simp [zh p r]
theorem jdt (l cs : List UInt8) : Lib.trimS l cs = [] ↔ l.all cs.contains = true := by
 unfold Lib.trimS Lib.trimLeftS Lib.trimRightS
 rw [zh]
 have e : ∀ m : List UInt8, (m.reverse.dropWhile (cs.contains ·)).reverse.all cs.contains = true ↔ m.all cs.contains = true := by
  intro m
  rw [List.all_reverse]
  constructor
  ·intro h
   cases hd : m.reverse.dropWhile (cs.contains ·) with
   | nil =>
     have := (zh _ _).1 hd
     rwa [List.all_reverse] at this
   | cons x r =>
     rw [hd, List.all_cons] at h
     have h2 := List.head?_dropWhile_not (p := (cs.contains ·)) (l := m.reverse)
     rw [hd] at h2
     simp at h2
     simp [h2] at h
  intro h
  have : m.reverse.dropWhile (cs.contains ·) = [] := (zh _ _).2 (by rwa [List.all_reverse])
  rw [this]
  rfl
 exact e l
def smallL : List UInt8 := [97, 98, 99, 100, 101, 102, 103, 104, 105, 106, 107, 108, 109, 110, 111, 112, 113, 114, 115, 116, 117, 118, 119, 120, 121, 122]
def keyL : List UInt8 := smallL ++ [48, 49, 50, 51, 52, 53, 54, 55, 56, 57, 45, 95]
def jaz (l : List UInt8) : Bool := decide (1 ≤ l.length) && decide (l.length ≤ 40) && smallL.contains (l.headD 0) && l.all keyL.contains
def jix (l : List UInt8) : Bool := l.isEmpty || jaz l
theorem zg (s : ByteArray) : s.size = s.data.toList.length := by rw [Lib.size_eq]
theorem xm {a b : Bool} (h : a = b) : Ending.returned (.bool a) = .returned (.bool b) := by rw [h]
inductive KeyWay (s : ByteArray) : Prop
 | none (h : s.size = 0) (e : s.toList = []) (k : jaz s.data.toList = false)
 | long (h : 40 < s.size) (e : s.toList.isEmpty = false) (k : jaz s.data.toList = false)
 | odd (h0 : 1 ≤ s.size) (h : s.size ≤ 40) (e : s.toList.isEmpty = false) (n : Lib.indexByte smallL (s[0]'(by omega)) < 0) (k : jaz s.data.toList = false)
 | bad (h0 : 1 ≤ s.size) (h : s.size ≤ 40) (e : s.toList.isEmpty = false) (n : 0 ≤ Lib.indexByte smallL (s[0]'(by omega))) (t : (Lib.trimS s.data.toList keyL).isEmpty = false) (k : jaz s.data.toList = false)
 | ok (h0 : 1 ≤ s.size) (h : s.size ≤ 40) (e : s.toList.isEmpty = false) (n : 0 ≤ Lib.indexByte smallL (s[0]'(by omega))) (t : Lib.trimS s.data.toList keyL = []) (k : jaz s.data.toList = true)
theorem jq5 (s : ByteArray) (h : 0 < s.size) : s.data.toList.headD 0 = s[0] := by
 have hl : 0 < s.data.toList.length := by rw [← zg]; exact h
 cases hd : s.data.toList with
 | nil => rw [hd] at hl; exact absurd hl (by decide)
 | cons a r =>
   have : s[0] = s.data.toList[0]'hl := rfl
   rw [this]
   simp [hd]
theorem jv5 (s : ByteArray) : KeyWay s := by
 have hsz := zg s
 by_cases h0 : s.size = 0
 ·have hl : s.data.toList = [] := List.eq_nil_of_length_eq_zero (by omega)
  exact .none h0 (by rw [Lib.toList_data, hl]) (by rw [hl]; rfl)
 have hne : s.toList.isEmpty = false := by
  rw [Lib.toList_data]
  cases hd : s.data.toList with
  | nil => rw [hd] at hsz; exact absurd hsz h0
  | cons a r => rfl
 by_cases h1 : 40 < s.size
 ·exact .long h1 hne (by unfold jaz; have : decide (s.data.toList.length ≤ 40) = false := by simp; omega
                         rw [this]; simp)
 have d1 : decide (1 ≤ s.data.toList.length) = true := by simp; omega
 have d2 : decide (s.data.toList.length ≤ 40) = true := by simp; omega
 have hk : jaz s.data.toList = (smallL.contains s[0] && s.data.toList.all keyL.contains) := by
  unfold jaz
  rw [d1, d2, jq5 s (by omega)]
  rfl
 have hc := Lib.contains_iff_indexByte smallL s[0]
 by_cases h2 : 0 ≤ Lib.indexByte smallL s[0]
 ·have hc1 : smallL.contains s[0] = true := by rw [hc]; simpa using h2
  cases ht : s.data.toList.all keyL.contains
  ·have : Lib.trimS s.data.toList keyL ≠ [] := fun e => by rw [(jdt _ _).1 e] at ht; cases ht
   exact .bad (by omega) (by omega) hne h2 (by cases hh : Lib.trimS s.data.toList keyL with | nil => exact absurd hh this | cons a r => rfl) (by rw [hk, hc1, ht]; rfl)
  exact .ok (by omega) (by omega) hne h2 ((jdt _ _).2 ht) (by rw [hk, hc1, ht]; rfl)
 have hc1 : smallL.contains s[0] = false := by rw [hc]; simpa using h2
 exact .odd (by omega) (by omega) hne (by omega) (by rw [hk, hc1]; rfl)
theorem zr (x : UInt8) (w : World) : Calls Tryz.prog 83 #[.string ⟨#[97, 98, 99, 100, 101, 102, 103, 104, 105, 106, 107, 108, 109, 110, 111, 112, 113, 114, 115, 116, 117, 118, 119, 120, 121, 122]⟩, .int .u8 x.toNat] w fun e w' => e = .returned (.int .i64 (Lib.indexByte smallL x)) ∧ w = w' :=
 (Tryz.strings_IndexByte _ _ w).mono fun e w' ⟨he, hw⟩ => ⟨by
  rw [he]
  have : ((x.toNat : Int)).toNat.toUInt8 = x := by simp
  rw [this]
  rfl, hw.symm⟩
theorem jd1 (s : ByteArray) (w : World) (hs : s.size ≤ 1000000000) : Calls Tryz.prog 82 #[.string s, .string ⟨#[97, 98, 99, 100, 101, 102, 103, 104, 105, 106, 107, 108, 109, 110, 111, 112, 113, 114, 115, 116, 117, 118, 119, 120, 121, 122, 48, 49, 50, 51, 52, 53, 54, 55, 56, 57, 45, 95]⟩] w fun e w' => e = .returned (.string ⟨(Lib.trimS s.data.toList keyL).toArray⟩) ∧ w.grownBy w' none :=
 jol s _ w (by omega) (by decide) (by decide +kernel)
set_option maxRecDepth 100000 in
set_option maxHeartbeats 2000000 in
theorem jgi (s : ByteArray) (w : World) (hs : s.size ≤ 1000000000) :
 Calls Tryz.prog 114 #[.string s] w fun e w' => e = .returned (.bool (jaz s.data.toList)) ∧ w.grownBy w' none := by
 cases jv5 s with
 | none h e k =>
   have HK := Lib.hid k
   clear k
   go_enter Tryz.func114, Tryz.ntmps114
   go_wp2_with fail
   go_ret
   exact ⟨xm HK.out.symm, je _ _⟩
 | long h e k =>
   have HK := Lib.hid k
   have h2 : (40 : Int) < (s.size : Int) := by omega
   clear k
   go_enter Tryz.func114, Tryz.ntmps114
   go_wp2_with fail
   go_ret
   exact ⟨xm HK.out.symm, je _ _⟩
 | odd h0 h e n k =>
   have HK := Lib.hid k
   have h1 : (0 : Int) < (s.size : Int) := by omega
   have h2 : (s.size : Int) ≤ 40 := by omega
   clear k
   go_enter Tryz.func114, Tryz.ntmps114
   go_wp2_with fail
   refine (zr _ _).mono ?_
   rintro _ _ ⟨rfl, rfl⟩
   go_wp2_with fail
   go_ret
   exact ⟨xm HK.out.symm, je _ _⟩
 | bad h0 h e n t k =>
   have HK := Lib.hid k
   have h1 : (0 : Int) < (s.size : Int) := by omega
   have h2 : (s.size : Int) ≤ 40 := by omega
   have HT := Lib.hid t
   clear k t
   go_enter Tryz.func114, Tryz.ntmps114
   go_wp2_with fail
   refine (zr _ _).mono ?_
   rintro _ _ ⟨rfl, rfl⟩
   go_wp2_with fail
   refine (jd1 _ _ hs).mono ?_
   rintro _ w1 ⟨rfl, hg⟩
   obtain ⟨T, hT⟩ : ∃ T : ByteArray, T = ⟨(Lib.trimS s.data.toList keyL).toArray⟩ := ⟨_, rfl⟩
   have hTe : T.toList.isEmpty = false := by rw [Lib.toList_data, hT]; exact HT.out
   rw [← hT]
   clear hT
   go_wp2_with fail
   go_ret
   exact ⟨xm HK.out.symm, hg⟩
 | ok h0 h e n t k =>
   have HK := Lib.hid k
   have h1 : (0 : Int) < (s.size : Int) := by omega
   have h2 : (s.size : Int) ≤ 40 := by omega
   have HT := Lib.hid t
   clear k t
   go_enter Tryz.func114, Tryz.ntmps114
   go_wp2_with fail
   refine (zr _ _).mono ?_
   rintro _ _ ⟨rfl, rfl⟩
   go_wp2_with fail
   refine (jd1 _ _ hs).mono ?_
   rintro _ w1 ⟨rfl, hg⟩
   obtain ⟨T, hT⟩ : ∃ T : ByteArray, T = ⟨(Lib.trimS s.data.toList keyL).toArray⟩ := ⟨_, rfl⟩
   have hTe : T.toList = [] := by rw [Lib.toList_data, hT]; exact HT.out
   rw [← hT]
   clear hT
   go_wp2_with fail
   go_ret
   exact ⟨xm HK.out.symm, hg⟩
set_option maxRecDepth 100000 in
set_option maxHeartbeats 2000000 in
theorem jaq (s : ByteArray) (w : World) (hs : s.size ≤ 1000000000) :
 Calls Tryz.prog 39 #[.string s] w fun e w' => e = .returned (.bool (jaz s.data.toList)) ∧ w.grownBy w' none := by
 have hin : ∀ W : World, Calls Tryz.prog 38 #[.int .i64 s.size, .int .i64 1, .int .i64 40] W fun e w' => e = .returned (.bool (decide (1 ≤ s.size ∧ s.size ≤ 40))) ∧ W = w' := fun W =>
  (yd _ _ _ W).mono fun e w' ⟨he, hw⟩ => ⟨by
   rw [he]
   refine xm ?_
   by_cases hh : 1 ≤ s.size ∧ s.size ≤ 40
   ·rw [jae (by omega) (by omega)]; simp [hh]
   rw [xr (by omega)]; simp; omega, hw⟩
 have HIN := Lib.hid hin
 clear hin
 cases jv5 s with
 | none h e k =>
   have HK := Lib.hid k
   have hd : decide (1 ≤ s.size ∧ s.size ≤ 40) = false := by simp; omega
   have HH := Lib.hid h
   clear k h
   go_enter Tryz.func39, Tryz.ntmps39
   go_wp2_with fail
   refine (HIN.out _).mono ?_
   rintro _ _ ⟨rfl, rfl⟩
   rw [hd]
   go_wp2_with fail
   go_ret
   exact ⟨xm HK.out.symm, je _ _⟩
 | long h e k =>
   have HK := Lib.hid k
   have hd : decide (1 ≤ s.size ∧ s.size ≤ 40) = false := by simp; omega
   clear k
   go_enter Tryz.func39, Tryz.ntmps39
   go_wp2_with fail
   refine (HIN.out _).mono ?_
   rintro _ _ ⟨rfl, rfl⟩
   rw [hd]
   go_wp2_with fail
   go_ret
   exact ⟨xm HK.out.symm, je _ _⟩
 | odd h0 h e n k =>
   have HK := Lib.hid k
   have hd : decide (1 ≤ s.size ∧ s.size ≤ 40) = true := by simp; omega
   have h1 : (0 : Int) < (s.size : Int) := by omega
   clear k
   go_enter Tryz.func39, Tryz.ntmps39
   go_wp2_with fail
   refine (HIN.out _).mono ?_
   rintro _ _ ⟨rfl, rfl⟩
   rw [hd]
   go_wp2_with fail
   refine (jd1 _ _ hs).mono ?_
   rintro _ w1 ⟨rfl, hg⟩
   obtain ⟨T, hT⟩ : ∃ T : ByteArray, T = ⟨(Lib.trimS s.data.toList keyL).toArray⟩ := ⟨_, rfl⟩
   rw [← hT]
   clear hT
   cases hTe : T.toList.isEmpty
   ·go_wp2_with fail
    go_ret
    exact ⟨xm HK.out.symm, hg⟩
   have hTn : T.toList = [] := by simpa using hTe
   clear hTe
   go_wp2_with fail
   refine (zr _ _).mono ?_
   rintro _ _ ⟨rfl, rfl⟩
   go_wp2_with fail
   go_ret
   exact ⟨xm (by rw [HK.out]; exact decide_eq_false (by omega)), hg⟩
 | bad h0 h e n t k =>
   have HK := Lib.hid k
   have hd : decide (1 ≤ s.size ∧ s.size ≤ 40) = true := by simp; omega
   have HT := Lib.hid t
   clear k t
   go_enter Tryz.func39, Tryz.ntmps39
   go_wp2_with fail
   refine (HIN.out _).mono ?_
   rintro _ _ ⟨rfl, rfl⟩
   rw [hd]
   go_wp2_with fail
   refine (jd1 _ _ hs).mono ?_
   rintro _ w1 ⟨rfl, hg⟩
   obtain ⟨T, hT⟩ : ∃ T : ByteArray, T = ⟨(Lib.trimS s.data.toList keyL).toArray⟩ := ⟨_, rfl⟩
   have hTe : T.toList.isEmpty = false := by rw [Lib.toList_data, hT]; exact HT.out
   rw [← hT]
   clear hT
   go_wp2_with fail
   go_ret
   exact ⟨xm HK.out.symm, hg⟩
 | ok h0 h e n t k =>
   have HK := Lib.hid k
   have hd : decide (1 ≤ s.size ∧ s.size ≤ 40) = true := by simp; omega
   have h1 : (0 : Int) < (s.size : Int) := by omega
   have HT := Lib.hid t
   clear k t
   go_enter Tryz.func39, Tryz.ntmps39
   go_wp2_with fail
   refine (HIN.out _).mono ?_
   rintro _ _ ⟨rfl, rfl⟩
   rw [hd]
   go_wp2_with fail
   refine (jd1 _ _ hs).mono ?_
   rintro _ w1 ⟨rfl, hg⟩
   obtain ⟨T, hT⟩ : ∃ T : ByteArray, T = ⟨(Lib.trimS s.data.toList keyL).toArray⟩ := ⟨_, rfl⟩
   have hTe : T.toList = [] := by rw [Lib.toList_data, hT]; exact HT.out
   rw [← hT]
   clear hT
   go_wp2_with fail
   refine (zr _ _).mono ?_
   rintro _ _ ⟨rfl, rfl⟩
   go_wp2_with fail
   go_ret
   exact ⟨xm (by rw [HK.out]; exact decide_eq_true n), hg⟩
set_option maxHeartbeats 400000 in
theorem jee (s : ByteArray) (w : World) (hs : s.size ≤ 1000000000) :
 Calls Tryz.prog 115 #[.string s] w fun e w' => e = .returned (.bool (jix s.data.toList)) ∧ w.grownBy w' none := by
 cases he : s.toList.isEmpty
 ·have HK : Hid (jix s.data.toList = jaz s.data.toList) := by
   show _ = _
   rw [Lib.toList_data] at he
   unfold jix
   rw [he]
   rfl
  go_enter Tryz.func115, Tryz.ntmps115
  go_wp2_with fail
  refine (jgi _ _ hs).mono ?_
  rintro _ w1 ⟨rfl, hg⟩
  go_wp2_with fail
  go_ret
  exact ⟨xm HK.out.symm, hg⟩
 have HK : Hid (jix s.data.toList = true) := by
  show _ = _
  rw [Lib.toList_data] at he
  unfold jix
  rw [he]
  rfl
 have hn : s.toList = [] := by simpa using he
 clear he
 go_enter Tryz.func115, Tryz.ntmps115
 go_wp2_with fail
 go_ret
 exact ⟨xm HK.out.symm, je _ _⟩
theorem jaj {α : Type} (enc : α → List Value) (m : Nat) (hm : ∀ x, (enc x).length = m) : ∀ l : List α, (l.flatMap enc).length = l.length * m
 | [] => by simp
 | x :: r => by
   rw [List.flatMap_cons, List.length_append, jaj enc m hm r, hm x, List.length_cons, Nat.add_mul]
   omega
theorem jc6 {α : Type} (enc : α → List Value) (m : Nat) (hm : ∀ x, (enc x).length = m) : ∀ (l : List α) (k j : Nat) (hk : k < l.length), j < m → (l.flatMap enc)[k * m + j]? = (enc l[k])[j]?
 | x :: r, 0, j, hk, hj => by
   rw [List.flatMap_cons, Nat.zero_mul, Nat.zero_add, List.getElem?_append_left (by rw [hm]; exact hj)]
   rfl
 | x :: r, k + 1, j, hk, hj => by
   have ih := jc6 enc m hm r k j (by simpa using hk) hj
   rw [List.flatMap_cons, List.getElem?_append_right (by rw [hm, Nat.add_mul]; omega), hm, show (k + 1) * m + j - m = k * m + j by rw [Nat.add_mul]; omega, ih]
   rfl
structure Ent where
 key : ByteArray
 cont : Int
 zone : Int
 a : Int
 z : Int
structure Pfx where
 beg : ByteArray
 ent : ByteArray
 a : Int
 z : Int
 whole : Bool
 zone : Int
def jy1 (e : Ent) : List Value := [.string e.key, .int .i64 e.cont, .int .i64 e.zone, .int .i64 e.a, .int .i64 e.z]
def jvj (p : Pfx) : List Value := [.string p.beg, .string p.ent, .int .i64 p.a, .int .i64 p.z, .bool p.whole, .int .i64 p.zone]
def EntsFrom (base : Nat) (w : World) (v : Value) (l : List Ent) : Prop := w.ownsRow base 139 5 v l.length (l.flatMap jy1)
def PfxsFrom (base : Nat) (w : World) (v : Value) (l : List Pfx) : Prop := w.ownsRow base 134 6 v l.length (l.flatMap jvj)
theorem EntsFrom.grown {base : Nat} {w w' : World} {v : Value} {l : List Ent} (h : EntsFrom base w v l) (hg : w.grownBy w' none) : EntsFrom base w' v l := j4 h hg
theorem PfxsFrom.grown {base : Nat} {w w' : World} {v : Value} {l : List Pfx} (h : PfxsFrom base w v l) (hg : w.grownBy w' none) : PfxsFrom base w' v l := j4 h hg
theorem EntsFrom.other {base b : Nat} {w w' : World} {v : Value} {l : List Ent} (h : EntsFrom base w v l) (hg : w.grownBy w' (some b)) (hb : b < base) : EntsFrom base w' v l := jx h hg hb
theorem PfxsFrom.other {base b : Nat} {w w' : World} {v : Value} {l : List Pfx} (h : PfxsFrom base w v l) (hg : w.grownBy w' (some b)) (hb : b < base) : PfxsFrom base w' v l := jx h hg hb
theorem EntsFrom.shape {base : Nat} {w : World} {v : Value} {l : List Ent} (h : EntsFrom base w v l) :
 ∃ A c, v = .slice A l.length c ∧ l.length ≤ 9223372036854775807 ∧ (0 < l.length → ∃ g, A = some ⟨g, 0, none⟩ ∧ base ≤ g ∧ g < w.heap.size) := jw h
theorem PfxsFrom.shape {base : Nat} {w : World} {v : Value} {l : List Pfx} (h : PfxsFrom base w v l) :
 ∃ A c, v = .slice A l.length c ∧ l.length ≤ 9223372036854775807 ∧ (0 < l.length → ∃ g, A = some ⟨g, 0, none⟩ ∧ base ≤ g ∧ g < w.heap.size) := jw h
theorem EntsFrom.at_ {base : Nat} {w : World} {g c : Nat} {l : List Ent} (h : EntsFrom base w (.slice (some ⟨g, 0, none⟩) l.length c) l) (k : Nat) (hk : k < l.length) :
 w.cell? ⟨g, k * 5, none⟩ = some (.string l[k].key) ∧ w.cell? ⟨g, k * 5 + 1, none⟩ = some (.int .i64 l[k].cont) ∧ w.cell? ⟨g, k * 5 + 2, none⟩ = some (.int .i64 l[k].zone) ∧ w.cell? ⟨g, k * 5 + 3, none⟩ = some (.int .i64 l[k].a) ∧ w.cell? ⟨g, k * 5 + 4, none⟩ = some (.int .i64 l[k].z) := by
 have hf := jc6 jy1 5 (fun _ => rfl) l k
 have h0 := hf 0 hk (by decide)
 rw [Nat.add_zero] at h0
 refine ⟨?_, ?_, ?_, ?_, ?_⟩
 ·rw [World.ownsRow.cellAt h _ (by omega), h0]; rfl
 ·rw [World.ownsRow.cellAt h _ (by omega), hf 1 hk (by decide)]; rfl
 ·rw [World.ownsRow.cellAt h _ (by omega), hf 2 hk (by decide)]; rfl
 ·rw [World.ownsRow.cellAt h _ (by omega), hf 3 hk (by decide)]; rfl
 rw [World.ownsRow.cellAt h _ (by omega), hf 4 hk (by decide)]; rfl
theorem PfxsFrom.at_ {base : Nat} {w : World} {g c : Nat} {l : List Pfx} (h : PfxsFrom base w (.slice (some ⟨g, 0, none⟩) l.length c) l) (k : Nat) (hk : k < l.length) :
 w.cell? ⟨g, k * 6, none⟩ = some (.string l[k].beg) ∧ w.cell? ⟨g, k * 6 + 1, none⟩ = some (.string l[k].ent) ∧ w.cell? ⟨g, k * 6 + 2, none⟩ = some (.int .i64 l[k].a) ∧ w.cell? ⟨g, k * 6 + 3, none⟩ = some (.int .i64 l[k].z) ∧ w.cell? ⟨g, k * 6 + 4, none⟩ = some (.bool l[k].whole) ∧ w.cell? ⟨g, k * 6 + 5, none⟩ = some (.int .i64 l[k].zone) := by
 have hf := jc6 jvj 6 (fun _ => rfl) l k
 have h0 := hf 0 hk (by decide)
 rw [Nat.add_zero] at h0
 refine ⟨?_, ?_, ?_, ?_, ?_, ?_⟩
 ·rw [World.ownsRow.cellAt h _ (by omega), h0]; rfl
 ·rw [World.ownsRow.cellAt h _ (by omega), hf 1 hk (by decide)]; rfl
 ·rw [World.ownsRow.cellAt h _ (by omega), hf 2 hk (by decide)]; rfl
 ·rw [World.ownsRow.cellAt h _ (by omega), hf 3 hk (by decide)]; rfl
 ·rw [World.ownsRow.cellAt h _ (by omega), hf 4 hk (by decide)]; rfl
 rw [World.ownsRow.cellAt h _ (by omega), hf 5 hk (by decide)]; rfl
def leS (a b : ByteArray) : Bool := Op.bytesLess a.toList b.toList || a.toList == b.toList
def xb {α : Type} (l : List α) (k : Nat) : Option α := if k = 0 then none else l[k - 1]?
theorem yu {α : Type} (l : List α) (k : Nat) (h : k < l.length) : xb l (k + 1) = some l[k] := by unfold xb; simp [h]
def jdq (p : Option Ent) (e : Ent) : Int :=
 if jaz e.key.data.toList = false then 5
 else if qy e.cont 1 7 then 4
 else if qy e.zone 1 90 then 1
 else if x8 e.a e.z = false then 1
 else match p with
  | none => 0
  | some q => if leS e.key q.key then 7 else 0
def xe : Option Ent → List Ent → Int
 | _, [] => 0
 | p, e :: r => if jdq p e = 0 then xe (some e) r else jdq p e
def xk (l : List Ent) : Int := if 400 < l.length then 2 else xe none l
theorem jdx (l : List Ent) (k : Nat) (h : k < l.length) : xe (xb l k) (l.drop k) = if jdq (xb l k) l[k] = 0 then xe (xb l (k + 1)) (l.drop (k + 1)) else jdq (xb l k) l[k] := by
 rw [List.drop_eq_getElem_cons h, yu l k h]
 rfl
theorem jeo (l : List Ent) (p : Option Ent) : xe p (l.drop l.length) = 0 := by rw [List.drop_length]; rfl
theorem ja8 (p : Option Ent) (e : Ent) : (jaz e.key.data.toList = false ∧ jdq p e = 5) ∨ (jaz e.key.data.toList = true ∧ qy e.cont 1 7 = true ∧ jdq p e = 4) ∨ (jaz e.key.data.toList = true ∧ qy e.cont 1 7 = false ∧ qy e.zone 1 90 = true ∧ jdq p e = 1) ∨ (jaz e.key.data.toList = true ∧ qy e.cont 1 7 = false ∧ qy e.zone 1 90 = false ∧ x8 e.a e.z = false ∧ jdq p e = 1) ∨
 (jaz e.key.data.toList = true ∧ qy e.cont 1 7 = false ∧ qy e.zone 1 90 = false ∧ x8 e.a e.z = true ∧ jdq p e = match p with | none => 0 | some q => if leS e.key q.key then 7 else 0) := by
 unfold jdq
 cases jaz e.key.data.toList <;> cases qy e.cont 1 7 <;> cases qy e.zone 1 90 <;> cases x8 e.a e.z <;> simp
def jhz (e : Ent) : Prop := e.key.size ≤ 1000000000 ∧ -1152921504606846976 ≤ e.z ∧ e.z ≤ 1152921504606846976
def codeT : List (UInt8 × List UInt8) := [
 (97, [46, 45]), (98, [45, 46, 46, 46]), (99, [45, 46, 45, 46]), (100, [45, 46, 46]), (101, [46]), (102, [46, 46, 45, 46]), (103, [45, 45, 46]), (104, [46, 46, 46, 46]),
 (105, [46, 46]), (106, [46, 45, 45, 45]), (107, [45, 46, 45]), (108, [46, 45, 46, 46]), (109, [45, 45]), (110, [45, 46]), (111, [45, 45, 45]), (112, [46, 45, 45, 46]),
 (113, [45, 45, 46, 45]), (114, [46, 45, 46]), (115, [46, 46, 46]), (116, [45]), (117, [46, 46, 45]), (118, [46, 46, 46, 45]), (119, [46, 45, 45]), (120, [45, 46, 46, 45]),
 (121, [45, 46, 45, 45]), (122, [45, 45, 46, 46]), (48, [45, 45, 45, 45, 45]), (49, [46, 45, 45, 45, 45]), (50, [46, 46, 45, 45, 45]), (51, [46, 46, 46, 45, 45]), (52, [46, 46, 46, 46, 45]), (53, [46, 46, 46, 46, 46]),
 (54, [45, 46, 46, 46, 46]), (55, [45, 45, 46, 46, 46]), (56, [45, 45, 45, 46, 46]), (57, [45, 45, 45, 45, 46]), (47, [45, 46, 46, 45, 46]), (63, [46, 46, 45, 45, 46, 46]), (61, [45, 46, 46, 46, 45]), (43, [46, 45, 46, 45, 46])]
theorem xw : codeT.length = 40 := by decide +kernel
def jal (c : UInt8) : List UInt8 := ((codeT.find? fun p => p.1 == c).map (·.2)).getD []
def wdL (l : List (UInt8 × List UInt8)) : List (List UInt8) := l.flatMap fun p => [[p.1], p.2]
def x9 (l : List (UInt8 × List UInt8)) : List Value := l.flatMap fun p => [.string ⟨#[p.1]⟩, .string ⟨p.2.toArray⟩]
theorem jky (l : List (UInt8 × List UInt8)) (x : UInt8) (y : List UInt8) : x9 (l ++ [(x, y)]) = x9 l ++ [.string ⟨#[x]⟩, .string ⟨y.toArray⟩] := by
 simp [x9]
theorem jhh (l : List (UInt8 × List UInt8)) (k : Nat) (h : k < l.length) : (x9 l)[k * 2]? = some (.string ⟨#[l[k].1]⟩) ∧ (x9 l)[k * 2 + 1]? = some (.string ⟨l[k].2.toArray⟩) := by
 induction l generalizing k with
 | nil => simp at h
 | cons p r ih =>
   have e : x9 (p :: r) = .string ⟨#[p.1]⟩ :: .string ⟨p.2.toArray⟩ :: x9 r := rfl
   rw [e]
   cases k with
   | zero => simp
   | succ k =>
     have := ih k (by simpa using h)
     rw [show (k + 1) * 2 = k * 2 + 1 + 1 from by omega]
     simpa using this
theorem jp3 (l : List (UInt8 × List UInt8)) : (wdL l).map (fun x => Value.string ⟨x.toArray⟩) = x9 l := by
 induction l with
 | nil => rfl
 | cons p r ih => simp only [wdL, x9, List.flatMap_cons, List.map_append] at ih ⊢; rw [ih]; rfl
def jwl (s : ByteArray) : Bool := decide (s.size < 100000) && s.data.toList.all (fun b => decide (b.toNat < 128)) && (Lib.fields s.data.toList == wdL codeT)
theorem jv0 {s : ByteArray} (h : jwl s = true) : s.size < 4294967281 ∧ (∀ (j : Nat) b, s.data.toList[j]? = some b → b.toNat < 128) ∧ Lib.fields s.data.toList = wdL codeT := by
 unfold jwl at h
 rw [Bool.and_eq_true, Bool.and_eq_true, decide_eq_true_eq, List.all_eq_true, beq_iff_eq] at h
 obtain ⟨⟨h1, h2⟩, h3⟩ := h
 exact ⟨by omega, fun j b hb => by simpa using h2 b (List.mem_of_getElem? hb), h3⟩
def SgnFrom (base : Nat) (w : World) (v : Value) (l : List (UInt8 × List UInt8)) : Prop := w.ownsRow base 246 2 v l.length (x9 l)
theorem SgnFrom.low {base base' : Nat} {w : World} {v : Value} {l : List (UInt8 × List UInt8)} (h : SgnFrom base w v l) (hb : base' ≤ base) : SgnFrom base' w v l := jt h hb
theorem SgnFrom.grown {base : Nat} {w w' : World} {v : Value} {l : List (UInt8 × List UInt8)} (h : SgnFrom base w v l) (hg : w.grownBy w' none) : SgnFrom base w' v l := j4 h hg
theorem SgnFrom.other {base b : Nat} {w w' : World} {v : Value} {l : List (UInt8 × List UInt8)} (h : SgnFrom base w v l) (hg : w.grownBy w' (some b)) (hb : b < base) : SgnFrom base w' v l := jx h hg hb
theorem SgnFrom.nil (base : Nat) (w : World) : SgnFrom base w (.slice none 0 0) [] := World.ownsRow_nil _ _ _ _
theorem SgnFrom.shape {base : Nat} {w : World} {v : Value} {l : List (UInt8 × List UInt8)} (h : SgnFrom base w v l) :
 ∃ A c, v = .slice A l.length c ∧ l.length ≤ 9223372036854775807 ∧ (0 < l.length → ∃ g, A = some ⟨g, 0, none⟩ ∧ base ≤ g ∧ g < w.heap.size) := jw h
theorem SgnFrom.at1 {base : Nat} {w : World} {g c : Nat} {l : List (UInt8 × List UInt8)} (h : SgnFrom base w (.slice (some ⟨g, 0, none⟩) l.length c) l) (k : Nat) (hk : k < l.length) : w.cell? ⟨g, k * 2, none⟩ = some (.string ⟨#[l[k].1]⟩) ∧ w.cell? ⟨g, k * 2 + 1, none⟩ = some (.string ⟨l[k].2.toArray⟩) := by
 have hc := jhh l k hk
 rw [World.ownsRow.cellAt h (k * 2) (by omega), World.ownsRow.cellAt h (k * 2 + 1) (by omega)]
 exact hc
theorem jw5 : (Tryz.prog.info? 246).map (fun i => (i.zero, i.size, i.bytes)) = some (some (.agg #[.string ⟨#[]⟩, .string ⟨#[]⟩]), 2, 32) := by kernel_rfl
theorem jfz (w : World) (cs : List Value) (t : TypeId) : ∀ j u, cs[j]? = some u → (w.alloc (.cells cs.toArray t)).cell? ((⟨w.heap.size, 0, none⟩ : Addr).add j) = some u := by
 intro j u hu
 have hb := (Blk.new w t cs.toArray).cell j
 have hadd : (⟨w.heap.size, 0, none⟩ : Addr).add j = ⟨w.heap.size, j, none⟩ := by unfold Addr.add; split <;> simp_all
 rw [hadd, hb]
 simpa using hu
theorem jxk (x y : ByteArray) : ∀ u ∈ [Value.string x, .string y], u.oneCell' = true := by
 intro u hu; simp at hu; rcases hu with rfl | rfl <;> rfl
end Go.Proofs.YtbamhgaghngjiaaGreatDoor

namespace Go.Proofs.YtbamhgaghngjiaaGreatDoor
open Go.RowKit
set_option linter.unusedVariables false

structure Gl (b : Nat) (w : World) : Prop where
 mx : ∃ m : Int, w.cell? ⟨0, 0, none⟩ = some (.int .i64 m)
 sp : Lib.TabIs Tryz.prog w "strings.asciiSpace" .u8 Lib.asciiSpaceTab
 lm : 0 < b
 ls : 3 < b
 lb : b ≤ w.heap.size
theorem jli {w w' : World} {row : Option Nat} {g : Nat} {n : String} {k : IntKind} {zs : List Int} (hn : Tryz.prog.globalNamed n = some g) (h : Lib.TabIs Tryz.prog w n k zs) (hg : w.grownBy w' row) (hb : g < w.heap.size) (hr : some g ≠ row) : Lib.TabIs Tryz.prog w' n k zs := by
 unfold Lib.TabIs World.var? at h ⊢
 rw [hn] at h ⊢
 simp only [Option.bind_some] at h ⊢
 rw [hg.block g hb hr]
 exact h
theorem Gl.grown {b : Nat} {w w' : World} {row : Option Nat} (h : Gl b w) (hg : w.grownBy w' row) (hr : ∀ g, row = some g → b ≤ g) : Gl b w' := by
 obtain ⟨⟨m, hm⟩, hs, h1, h2, h3⟩ := h
 refine ⟨⟨m, ?_⟩, jli (by kernel_rfl) hs hg (Nat.lt_of_lt_of_le h2 h3) (fun e => by have h9 : b ≤ 3 := hr _ e.symm; omega), h1, h2, Nat.le_trans h3 hg.size⟩
 exact (World.cell?_of_block (hg.block _ (Nat.lt_of_lt_of_le h1 h3) (fun e => by have h9 : b ≤ 0 := hr _ e.symm; omega))).trans hm
theorem Gl.quiet {b : Nat} {w w' : World} (h : Gl b w) (hg : w.grownBy w' none) : Gl b w' := h.grown hg (by simp)
end Go.Proofs.YtbamhgaghngjiaaGreatDoor

namespace Go.Proofs.YtbamhgaghngjiaaGreatDoor
open Go.RowKit
set_option linter.unusedVariables false

theorem jpt (s : ByteArray) (w : World) (h : jwl s = true) (hs : Lib.TabIs Tryz.prog w "strings.asciiSpace" .u8 Lib.asciiSpaceTab) :
 Calls Tryz.prog 216 #[.string s] w fun e w' => e = .returned (.slice (some ⟨w.heap.size, 0, none⟩) 80 80) ∧ w' = w.alloc (.cells (x9 codeT).toArray 9) := by
 obtain ⟨h1, h2, h3⟩ := jv0 h
 refine (Tryz.strings_Fields s w h1 h2 hs).mono ?_
 rintro e w' ⟨he, hw⟩
 rw [h3] at he hw
 rw [jp3] at hw
 exact ⟨he, hw⟩
def jwm (l : List (UInt8 × List UInt8)) (w : World) (e : Ending) (w' : World) : Prop := ∃ v, e = .returned v ∧ SgnFrom w.heap.size w' v l ∧ w.grownBy w' none
set_option maxRecDepth 100000 in
set_option maxHeartbeats 2000000 in
theorem jrz (b : Nat) (w : World) (hgl : Gl b w) :
 Calls Tryz.prog 195 #[] w (jwm codeT w) := by
 have HGL := Lib.hid hgl
 clear hgl
 obtain ⟨i0, hi, hz0, hz1, hz2⟩ := info_parts jw5
 go_enter Tryz.func195, Tryz.ntmps195
 go_wp2_with fail
 refine (jpt _ _ (by kernel_rfl) HGL.out.sp).mono ?_
 rintro _ w1 ⟨rfl, hw1⟩
 have hG1 : w.grownBy w1 none := by rw [hw1]; exact World.grownBy_alloc w _ none
 have hW1 : Blk w1 w.heap.size 9 (x9 codeT).toArray := by rw [hw1]; exact Blk.new _ _ _
 have HW1 := Lib.hid hw1
 clear hw1
 go_wp2_with fail
 go_loopw [2, 3] (fun o i wr => ∃ k j : Nat, k ≤ 40 ∧ Hid (j = k * 2) ∧ j ≤ 80 ∧ i = .int .i64 j ∧ SgnFrom w1.heap.size wr o (codeT.take k) ∧ w1.grownBy wr none) (fun _ i _ => 82 - (intOf i).toNat)
 case atStart => exact ⟨0, 0, by omega, rfl, by omega, rfl, SgnFrom.nil _ _, je _ _⟩
 case round =>
  obtain ⟨k, j, hk, HJ, hj, rfl, hown, hgr⟩ := hrel
  have hlen : (codeT.take k).length = k := by rw [List.length_take, xw]; omega
  have hown1 : wr.ownsRow w1.heap.size 246 2 u2 k (x9 (codeT.take k)) := by
   have h := hown
   unfold SgnFrom at h
   rwa [hlen] at h
  clear hown
  obtain ⟨A2, c2, rfl, hk9, hA2⟩ := jw hown1
  by_cases hlt : k < 40
  ·have hkl : k < codeT.length := by rw [xw]; exact hlt
   have hat1 := jhh codeT k hkl
   have htk : codeT.take (k + 1) = codeT.take k ++ [(codeT[k].1, codeT[k].2)] := by
    rw [List.take_succ_eq_append_getElem hkl]
   obtain ⟨x, hx⟩ : ∃ x, codeT[k].1 = x := ⟨_, rfl⟩
   obtain ⟨y, hy⟩ : ∃ y, codeT[k].2 = y := ⟨_, rfl⟩
   rw [hx, hy] at hat1 htk
   have HJ2 := HJ.out
   rw [← HJ2] at hat1
   have KX : Hid (∀ W' : World, w1.grownBy W' none → W'.cell? ⟨w.heap.size, j, none⟩ = some (.string ⟨#[x]⟩) ∧ W'.cell? ⟨w.heap.size, j + 1, none⟩ = some (.string ⟨y.toArray⟩) ∧ w1.grownBy W' none) :=
    fun W' hW => ⟨((hW1.grown hW (by simp)).cell j).trans (by simpa using hat1.1), ((hW1.grown hW (by simp)).cell (j + 1)).trans (by simpa using hat1.2), hW⟩
   have HT := Lib.hid htk
   have HO := Lib.hid hown1
   obtain ⟨q1, q2, -⟩ := KX.out wr hgr
   have hj1 : (j : Int) < 80 := by omega
   have hj2 : (j : Int) + 1 < 80 := by omega
   have hj3 : (0 : Int) ≤ (j : Int) + 1 := by omega
   have hj4 : j < 80 := by omega
   have hj5 : j + 1 < 80 := by omega
   have e1 : IntKind.i64.wrap ((j : Int) + 1) = (j : Int) + 1 := IntWalk.i64_in _ ⟨by omega, by omega⟩
   have e2 : ((j : Int) + 1).toNat = j + 1 := by omega
   have hzw := hgr.size
   clear hat1 htk hx hy HJ2 hown1 hlen hA2
   go_wp2_with fail
   go_region_held3 (fun W' => W'.cell? ⟨w.heap.size, j, none⟩ = some (.string ⟨#[x]⟩) ∧ W'.cell? ⟨w.heap.size, j + 1, none⟩ = some (.string ⟨y.toArray⟩) ∧ w1.grownBy W' none)
    ((exact KX.out _ (by first | exact jh (show w1.grownBy _ none from (by repeat (first | exact je _ _ | assumption | refine jd ?_ _ | refine xg ?_ _ | refine jk ?_))) hgq (fun kk h => .inr (HO.out.lt kk h).1) | exact (by repeat (first | exact je _ _ | assumption | refine jd ?_ _ | refine xg ?_ _ | refine jk ?_)))))
    ((refine step_append_lies _ (by rfl) (.tmp 11) (.tmp 22) 243 (by rfl) w1.heap.size 246 i0 _ 2 32 Tryz.underlying243 hi hz0 hz1 hz2 rfl (by decide) _ k (x9 (codeT.take k)) (by simp [Act.eval]) (World.ownsRow.alloc (show World.ownsRow _ w1.heap.size 246 2 _ k (x9 (codeT.take k)) from HO.out) _) ⟨_, 0, none⟩ 1 1 [.string ⟨#[x]⟩, .string ⟨y.toArray⟩] (by simp [Act.eval]) rfl (jfz _ _ _) (jxk _ _) (by decide) (by unfold maxLen; omega) (by omega) (by simp; omega) _ rfl ?_; intro gq cap w9 hqq hgq hat hglt))
   have hgF : w1.grownBy w9 none := jh (show w1.grownBy _ none from (by repeat (first | exact je _ _ | assumption | refine jd ?_ _ | refine xg ?_ _ | refine jk ?_))) hgq (fun kk h => .inr (HO.out.lt kk h).1)
   have hw9 : SgnFrom w1.heap.size w9 (.slice (some ⟨gq, 0, none⟩) (k + 1) cap) (codeT.take (k + 1)) := by
    unfold SgnFrom
    rw [HT.out, jky, show (codeT.take k ++ [(x, y)]).length = k + 1 by simp [xw]; omega]
    exact hqq
   go_wp2_with fail
   go_roundw
   case rel => exact ⟨k + 1, j + 2, by omega, by show _ = _; have := HJ.out; omega, by have := HJ.out; omega, by go_num, hw9, hgF⟩
   case measure => simp [intOf]; omega
  have hf : codeT.take k = codeT := List.take_of_length_le (by rw [xw]; omega)
  have HF := Lib.hid hf
  have hj0 : ¬ (j : Int) < 80 := by have := HJ.out; omega
  have HO := Lib.hid hown1
  clear hf hown1 hlen hA2
  go_wp2_with fail
  go_ret
  refine ⟨_, rfl, ?_, ja hG1 hgr⟩
  have h := HO.out
  rw [HF.out] at h
  obtain rfl : k = 40 := by omega
  unfold SgnFrom
  rw [xw]
  exact jt h hG1.size
end Go.Proofs.YtbamhgaghngjiaaGreatDoor

namespace Go.Proofs.YtbamhgaghngjiaaGreatDoor
open Go.RowKit
set_option linter.unusedVariables false

def look (l : List (UInt8 × List UInt8)) (c : UInt8) : List UInt8 := l.foldl (fun acc p => if p.1 = c then p.2 else acc) []
theorem jsj (l : List (UInt8 × List UInt8)) (x : UInt8) (y : List UInt8) (c : UInt8) : look (l ++ [(x, y)]) c = if x = c then y else look l c := by simp [look]
theorem jpr (c : UInt8) : look codeT c = jal c := by
 have h : ∀ n : Fin 256, look codeT (UInt8.ofNat n.val) = jal (UInt8.ofNat n.val) := by decide +kernel
 have := h ⟨c.toNat, c.toNat_lt⟩
 simpa using this
def MapB (w : World) (bm n : Nat) (l : List (UInt8 × List UInt8)) : Prop :=
 ∃ D : DataW Unit, w.ownsMap Tryz.prog 5 (plainElem Tryz.prog 9) bm n D ∧ Maps.IsMap D ∧ ∀ c : UInt8, D.atKey (.int .u8 c.toNat) (.lit (.string [])) = .lit (.string (look l c))
theorem MapB.lt {w : World} {bm n : Nat} {l : List (UInt8 × List UInt8)} (h : MapB w bm n l) : bm < w.heap.size := by obtain ⟨D, h1, _⟩ := h; exact h1.lt
theorem MapB.made (w : World) : MapB (w.alloc (.map #[] 0)) w.heap.size 0 [] := ⟨_, World.ownsMap_made w _ _ _, Maps.isMap_empty, fun c => rfl⟩
theorem MapB.kept {w w' : World} {bm n : Nat} {l : List (UInt8 × List UInt8)} (h : MapB w bm n l) {row : Option Nat} (hg : w.grownBy w' row) (hr : some bm ≠ row) : MapB w' bm n l := by
 obtain ⟨D, h1, h2, h3⟩ := h
 exact ⟨D, h1.kept hg hr, h2, h3⟩
theorem MapB.quiet {w w' : World} {bm n : Nat} {l : List (UInt8 × List UInt8)} (h : MapB w bm n l) (hg : w.grownBy w' none) : MapB w' bm n l := h.kept hg (by simp)
theorem jzs (c : UInt8) : (Lit.int .u8 (c.toNat : Int)).wf = true := by
 have := c.toNat_lt
 simp [Lit.wf, IntKind.min, IntKind.max, IntKind.signed, IntKind.bits]
 omega
theorem jv7 (c : UInt8) : keyOf Tryz.prog 5 (.int .u8 (c.toNat : Int)) = some (.int .u8 (c.toNat : Int)) := Maps.keyOf_int_mk Tryz.underlying5 (jzs c)
theorem MapB.look {w : World} {bm n : Nat} {l : List (UInt8 × List UInt8)} (h : MapB w bm n l) (c : UInt8) :
 (Instr.lookup 140 (.map (some bm)) (.int .u8 (c.toNat : Int)) false).run Tryz.prog w = .ok (.string ⟨(look l c).toArray⟩) w := by
 obtain ⟨D, h1, h2, h3⟩ := h
 obtain ⟨v, ps, hrun, hv⟩ := h1.lookup (Maps.int_keyed Tryz.underlying5) Tryz.underlying140 (z := .string ⟨#[]⟩) (by kernel_rfl) (plainElem_string Tryz.underlying9 (by decide)) (jv7 c)
 rw [show (⟨#[]⟩ : ByteArray).data.toList = [] from rfl, h3 c] at hv
 obtain ⟨s, rfl, hs, _⟩ := plainElem_string_inv Tryz.underlying9 hv
 simp only [Prod.mk.injEq, DataW.lit.injEq, Lit.string.injEq] at hs
 rw [hs.1]
 exact hrun
theorem MapB.put {w : World} {bm n : Nat} {l : List (UInt8 × List UInt8)} (h : MapB w bm n l) (hn : n ≤ 1000000) (x : UInt8) (y : List UInt8) (hy : y.length ≤ 1000000) :
 ∃ w', (Instr.mapUpdate 140 (.map (some bm)) (.int .u8 (x.toNat : Int)) (.string ⟨y.toArray⟩)).run Tryz.prog w = .ok () w' ∧ MapB w' bm (n + 1) (l ++ [(x, y)]) ∧ w.grownBy w' (some bm) := by
 obtain ⟨D, h1, h2, h3⟩ := h
 obtain ⟨w', hrun, ho, hg⟩ := h1.update (Maps.int_keyed Tryz.underlying5) Tryz.underlying140 (by unfold maxLen; omega) (jv7 x) (plainElem_string (s := ⟨y.toArray⟩) Tryz.underlying9 (by unfold maxLen; show y.toArray.size ≤ _; simp; omega))
 refine ⟨w', hrun, ⟨_, ho, h2.put _ _, fun c => ?_⟩, hg⟩
 rw [jsj]
 by_cases e : x = c
 ·subst e
  rw [if_pos rfl, Maps.atKey_put_same h2 (k := .int .u8 x.toNat) (by trivial)]
 rw [if_neg e, Maps.atKey_put_other (by
  intro h
  injection h with _ h
  exact e (UInt8.toNat_inj.1 (by omega)).symm), h3 c]
end Go.Proofs.YtbamhgaghngjiaaGreatDoor

namespace Go.Proofs.YtbamhgaghngjiaaGreatDoor
open Go.RowKit
set_option linter.unusedVariables false

theorem jly : ∀ p ∈ codeT, p.2.length ≤ 6 := by decide +kernel
def jw6 (w : World) (e : Ending) (w' : World) : Prop := ∃ bm, e = .returned (.map (some bm)) ∧ w.heap.size ≤ bm ∧ MapB w' bm 40 codeT ∧ w.grownBy w' none
set_option maxRecDepth 100000 in
set_option maxHeartbeats 2000000 in
theorem jfh (b : Nat) (w : World) (hgl : Gl b w) :
 Calls Tryz.prog 148 #[] w (jw6 w) := by
 have HGL := Lib.hid hgl
 clear hgl
 have hmm := @run_makeMap Tryz.prog
 go_enter Tryz.func148, Tryz.ntmps148
 go_wp2_with fail
 clear hmm
 have hM0 := MapB.made w
 have hlt0 := hM0.lt
 refine (jrz b _ (HGL.out.quiet (World.grownBy_alloc w _ none))).mono ?_
 rintro _ w1 ⟨v, rfl, hv, hg1⟩
 have hM1 := hM0.quiet hg1
 have hG1 := ja (World.grownBy_alloc w (.map #[] 0) none) hg1
 obtain ⟨A, c, hve, hvl, hvA⟩ := hv.shape
 subst hve
 obtain ⟨g, hAg, hg0, _⟩ := hvA (by rw [xw]; decide)
 subst hAg
 rw [xw] at hv ⊢
 have hgm : w.heap.size < g := by simp at hg0; omega
 have HV := Lib.hid (show SgnFrom (w.alloc (.map #[] 0)).heap.size w1 (.slice (some ⟨g, 0, none⟩) codeT.length c) codeT by rw [xw]; exact hv)
 have hsz1 := hg1.size
 clear hv hvl hvA hM0 hg1
 go_wp2_with fail
 go_loopw [7] (fun i wr => ∃ k : Nat, k ≤ 40 ∧ i = .int .i64 k ∧ MapB wr w.heap.size k (codeT.take k) ∧ w1.grownBy wr (some w.heap.size)) (fun i _ => 40 - (intOf i).toNat)
 case atStart => exact ⟨0, by omega, rfl, hM1, je _ _⟩
 case round =>
  obtain ⟨k, hk, rfl, hM, hgr⟩ := hrel
  by_cases hlt : k < 40
  ·have hkl : k < codeT.length := by rw [xw]; exact hlt
   have hat1 := (SgnFrom.other HV.out hgr (by simp)).at1 k hkl
   have hsh := jly codeT[k] (List.getElem_mem hkl)
   have htk : codeT.take (k + 1) = codeT.take k ++ [(codeT[k].1, codeT[k].2)] := by
    rw [List.take_succ_eq_append_getElem hkl]
   obtain ⟨x, hx⟩ : ∃ x, codeT[k].1 = x := ⟨_, rfl⟩
   obtain ⟨y, hy⟩ : ∃ y, codeT[k].2 = y := ⟨_, rfl⟩
   rw [hx, hy] at hat1 htk
   rw [hy] at hsh
   obtain ⟨q1, q2⟩ := hat1
   have HT := Lib.hid htk
   have hlt2 : (k : Int) < 40 := by omega
   have hzr := hgr.size
   have hMlt := hM.lt
   clear htk hx hy hM1
   go_wp2_with fail
   have hB := Blk.new wr 246 #[.string ⟨#[x]⟩, .string ⟨y.toArray⟩]
   have hMA := hM.quiet (World.grownBy_alloc wr (.cells #[.string ⟨#[x]⟩, .string ⟨y.toArray⟩] 246) none)
   have hGA := jd hgr (.cells #[.string ⟨#[x]⟩, .string ⟨y.toArray⟩] 246)
   have hBl : wr.heap.size < (wr.alloc (.cells #[.string ⟨#[x]⟩, .string ⟨y.toArray⟩] 246)).heap.size := hB.lt
   generalize wr.alloc (.cells #[.string ⟨#[x]⟩, .string ⟨y.toArray⟩] 246) = W at *
   have b0 : W.cell? ⟨wr.heap.size, 0, none⟩ = some (.string ⟨#[x]⟩) := hB.cell 0
   have b1 : W.cell? ⟨wr.heap.size, 1, none⟩ = some (.string ⟨y.toArray⟩) := hB.cell 1
   obtain ⟨w9, hrun, hM9, hg9⟩ := MapB.put (w := W.drew) hMA (by omega) x y (by omega)
   have hrun' : (Instr.mapUpdate 140 (.map (some w.heap.size)) (.int .u8 (((⟨#[x]⟩ : ByteArray)[0]'(by show 0 < 1; decide)).toNat : Int)) (.string ⟨y.toArray⟩)).run Tryz.prog W.drew = .ok () w9 := hrun
   clear hrun
   go_region
   go_wp2_with fail
   go_roundw
   case rel => exact ⟨k + 1, by omega, by go_num, by rw [HT.out]; exact hM9, jh (jk hGA) hg9 (fun g e => .inl e)⟩
   case measure => simp [intOf]; omega
  have hf : codeT.take k = codeT := List.take_of_length_le (by rw [xw]; omega)
  rw [hf] at hM
  obtain rfl : k = 40 := by omega
  clear hf hM1
  go_wp2_with fail
  go_ret
  exact ⟨_, rfl, Nat.le_refl _, hM, jh hG1 hgr (fun g e => by injection e with e; exact .inr (by omega))⟩
end Go.Proofs.YtbamhgaghngjiaaGreatDoor
