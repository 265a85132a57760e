/- Parts of a proof: CallRef, TabAt, TabSort, Con, StreamA, StrX, SpanOf, RtPlain, StayBase. Conditions: as each statement says. -/
import Derived.Lib.AppendZeros
import Derived.Laws.AppendOwnNone
import Derived.Deep.RegionWith
import Derived.Test.YtbamhgaghngjiaaGreatDoorCoae
import Derived.Sort.Walk0
import Derived.ProofKit
import Derived.OpenShut
import Derived.ShutString
import Derived.ChangeOld
import Derived.Below
namespace Go.Proofs.YtbamhgaghngjiaaGreatDoor
open Go.RowKit
set_option linter.unusedVariables false
set_option linter.unusedSimpArgs false

def jdx (s : ByteArray) : Int := if xl s = true then 0 else 3
theorem js5 {s : ByteArray} (h : xl s = true) : jdx s = 0 := by unfold jdx; rw [if_pos h]
theorem js6 {s : ByteArray} (h : xl s = false) : jdx s = 3 := by unfold jdx; rw [if_neg (by rw [h]; simp)]
set_option maxHeartbeats 1000000 in
theorem jgl (s : ByteArray) (w : World) (hs : s.size ≤ 1000) (ha : Ascii s) :
 Calls Tryz.prog 36 #[.string s] w fun e w' => e = .returned (.int .i64 (jdx s)) ∧ w.grownBy w' none := by
 have HI := Lib.hid (yh s w (by omega) ha)
 rw [show (jo s).isSome = xl s from rfl] at HI
 clear hs ha
 cases hc : xl s
 ·rw [hc] at HI
  rw [js6 hc]
  clear hc
  go_enter Tryz.func36, Tryz.ntmps36
  go_wp2_with fail
  refine HI.out.mono ?_
  rintro _ w1 ⟨rfl, hg1⟩
  go_wp2_with fail
  go_ret
  exact ⟨rfl, hg1⟩
 rw [hc] at HI
 rw [js5 hc]
 clear hc
 go_enter Tryz.func36, Tryz.ntmps36
 go_wp2_with fail
 refine HI.out.mono ?_
 rintro _ w1 ⟨rfl, hg1⟩
 go_wp2_with fail
 go_ret
 exact ⟨rfl, hg1⟩
def jaz (a b : ByteArray) : Int := Lib.compareBytes a.data.toList b.data.toList
theorem zd : ∀ a b : List UInt8, (Lib.compareBytes a b = -1 ∧ a < b) ∨ (Lib.compareBytes a b = 0 ∧ a = b) ∨ (Lib.compareBytes a b = 1 ∧ b < a)
 | [], [] => .inr (.inl ⟨rfl, rfl⟩)
 | [], _ :: _ => .inl ⟨rfl, by simp⟩
 | _ :: _, [] => .inr (.inr ⟨rfl, by simp⟩)
 | x :: a, y :: b => by
   unfold Lib.compareBytes
   by_cases h1 : x < y
   ·rw [if_pos h1]
    exact .inl ⟨rfl, List.cons_lt_cons_iff.2 (.inl h1)⟩
   rw [if_neg h1]
   by_cases h2 : y < x
   ·rw [if_pos h2]
    exact .inr (.inr ⟨rfl, List.cons_lt_cons_iff.2 (.inl h2)⟩)
   rw [if_neg h2]
   have hxy : x = y := UInt8.le_antisymm (UInt8.not_lt.1 h2) (UInt8.not_lt.1 h1)
   subst hxy
   rcases zd a b with ⟨h, h3⟩ | ⟨h, h3⟩ | ⟨h, h3⟩
   ·exact .inl ⟨h, List.cons_lt_cons_iff.2 (.inr ⟨rfl, h3⟩)⟩
   ·exact .inr (.inl ⟨h, by rw [h3]⟩)
   exact .inr (.inr ⟨h, List.cons_lt_cons_iff.2 (.inr ⟨rfl, h3⟩)⟩)
theorem jtm (a b : ByteArray) : -1 ≤ jaz a b ∧ jaz a b ≤ 1 := by
 unfold jaz
 rcases zd a.data.toList b.data.toList with ⟨h, _⟩ | ⟨h, _⟩ | ⟨h, _⟩ <;> omega
theorem cmpS_0 {a b : ByteArray} : jaz a b = 0 ↔ a = b := by
 unfold jaz
 rcases zd a.data.toList b.data.toList with ⟨h, h2⟩ | ⟨h, h2⟩ | ⟨h, h2⟩
 ·rw [h]
  refine ⟨fun e => by omega, fun e => ?_⟩
  rw [e] at h2
  exact absurd h2 (List.lt_irrefl _)
 ·rw [h]
  refine ⟨fun _ => ?_, fun _ => rfl⟩
  have : a.data = b.data := by
   apply Array.ext'
   exact h2
  cases a; cases b; simp_all
 rw [h]
 refine ⟨fun e => by omega, fun e => ?_⟩
 rw [e] at h2
 exact absurd h2 (List.lt_irrefl _)
theorem cmpS_lt {a b : ByteArray} : jaz a b < 0 ↔ a.data.toList < b.data.toList := by
 unfold jaz
 rcases zd a.data.toList b.data.toList with ⟨h, h2⟩ | ⟨h, h2⟩ | ⟨h, h2⟩
 ·rw [h]; exact ⟨fun _ => h2, fun _ => by decide⟩
 ·rw [h, h2]
  exact ⟨fun e => by omega, fun e => absurd e (List.lt_irrefl _)⟩
 rw [h]
 exact ⟨fun e => by omega, fun e => absurd (List.lt_trans e h2) (List.lt_irrefl _)⟩
theorem jso (K s : ByteArray) (a b c d : Int) (w : World) :
 Calls Tryz.prog 202 #[.agg #[.string K, .int .i64 a, .int .i64 b, .int .i64 c, .int .i64 d], .string s] w fun r w' => r = .returned (.int .i64 (jaz K s)) ∧ w.grownBy w' none := by
 have HC : Hid (∀ W, Calls Tryz.prog 132 #[.string K, .string s] W fun e w' => e = .returned (.int .i64 (jaz K s)) ∧ W = w') := fun W => (Tryz.strings_Compare K s W).mono fun e w' ⟨h1, h2⟩ => ⟨h1, h2.symm⟩
 have hB := (Blk.new w 139 #[.string K, .int .i64 a, .int .i64 b, .int .i64 c, .int .i64 d]).cell 0
 simp only [List.getElem?_toArray, List.getElem?_cons_zero] at hB
 generalize jaz K s = R at *
 go_enter Tryz.func202, Tryz.ntmps202
 go_wp2_with fail
 refine (HC.out _).mono ?_
 rintro _ _ ⟨rfl, rfl⟩
 go_wp2_with fail
 go_ret
 exact ⟨rfl, World.grownBy_alloc w _ _⟩
def jft (l : List Ent) (s : ByteArray) (w : World) (r : Ending) (w' : World) : Prop :=
 ∃ (i : Nat) (f : Bool), r = .returned (.tuple #[.int .i64 i, .bool f]) ∧ i ≤ l.length ∧ (∀ q (hq : q < l.length), q < i → jaz l[q].key s < 0) ∧ (∀ q (hq : q < l.length), i ≤ q → 0 ≤ jaz l[q].key s) ∧ (f = true ↔ ∃ h : i < l.length, l[i].key = s) ∧ w.grownBy w' none
set_option maxRecDepth 100000 in
set_option maxHeartbeats 4000000 in
theorem jpi (base : Nat) (v : Value) (l : List Ent) (s : ByteArray) (w : World) (hl : EntsFrom base w v l) (hbig : l.length ≤ 1000) (hmono : ∀ p q (hp : p < l.length) (hq : q < l.length), p ≤ q → jaz l[q].key s < 0 → jaz l[p].key s < 0) :
 Calls Tryz.prog 201 #[v, .string s, .func (.func 202) #[] #[]] w (jft l s w) := by
 obtain ⟨A, c, rfl, hlen, hA⟩ := hl.shape
 have HL := Lib.hid hl
 have HA := Lib.hid hA
 have HMO := Lib.hid hmono
 clear hl hA hmono
 go_enter Tryz.func201, Tryz.ntmps201
 go_wp2_with fail
 go_loopw [9, 10] (fun iv jv wr => ∃ i j : Nat, iv = .int .i64 i ∧ jv = .int .i64 j ∧ i ≤ j ∧ j ≤ l.length ∧ Hid (∀ q (hq : q < l.length), q < i → jaz l[q].key s < 0) ∧ Hid (∀ q (hq : q < l.length), j ≤ q → 0 ≤ jaz l[q].key s) ∧ w.grownBy wr none) (fun iv jv _ => (intOf jv).toNat - (intOf iv).toNat)
 case atStart => exact ⟨0, l.length, rfl, rfl, by omega, by omega, fun q hq h => by omega, fun q hq h => by omega, jf _ _⟩
 case round =>
  obtain ⟨i, j, rfl, rfl, hij, hj, HI, HJ, hg⟩ := hrel
  have hgs := hg.size
  by_cases hlt : i < j
  ·obtain ⟨g, rfl, hg0, hg1⟩ := HA.out (by omega)
   obtain ⟨h, hh⟩ : ∃ h : Nat, (i + j) / 2 = h := ⟨_, rfl⟩
   have hh1 : i ≤ h ∧ h < j := by omega
   have hhl : h < l.length := by omega
   obtain ⟨q0, q1, q2, q3, q4⟩ := (HL.out.grown hg).at_ h hhl
   have HK : Hid (∀ x : Int, x = jaz l[h].key s → (x < 0 → (∀ q (hq : q < l.length), q < h + 1 → jaz l[q].key s < 0)) ∧ (0 ≤ x → ∀ q (hq : q < l.length), h ≤ q → 0 ≤ jaz l[q].key s)) := fun x hx => by
    refine ⟨fun h2 q hq hqh => ?_, fun h2 q hq hqh => Int.not_lt.1 fun h3 => ?_⟩
    ·exact HMO.out q h hq hhl (by omega) (by rw [← hx]; exact h2)
    have := HMO.out h q hhl hq hqh h3
    omega
   have HC := Lib.hid (fun W => jso l[h].key s l[h].cont l[h].zone l[h].a l[h].z W)
   have HBD := jtm l[h].key s
   have HX := HK.out _ rfl
   generalize jaz l[h].key s = X at *
   generalize l[h].key = K at *
   generalize l[h].cont = C at *
   generalize l[h].zone = Z at *
   generalize l[h].a = ea at *
   generalize l[h].z = ez at *
   have HX2 := Lib.hid HX
   clear HX HK
   obtain ⟨S, hS⟩ : ∃ S : Int, (i : Int) + (j : Int) = S := ⟨_, rfl⟩
   have e1 : IntKind.i64.wrap S = S := by rw [IntKind.wrap_i64]; omega
   have e2 : IntKind.u64.wrap S = S := by rw [IntKind.wrap_u64]; omega
   have e3 : S / 2 = (h : Int) := by omega
   have e4 : IntKind.i64.wrap (h : Int) = (h : Int) := by rw [IntKind.wrap_i64]; omega
   have e5 : IntKind.u64.wrap (h : Int) = (h : Int) := by rw [IntKind.wrap_u64]; omega
   have e6 : IntKind.i64.wrap ((h : Int) + 1) = (h : Int) + 1 := by rw [IntKind.wrap_i64]; omega
   have hlti : (i : Int) < (j : Int) := by omega
   have hh0 : (0 : Int) ≤ (h : Int) := by omega
   have hhi : (h : Int) < (l.length : Int) := by omega
   have HH := Lib.hid hh
   clear hh
   go_wp2_with fail
   refine (HC.out _).mono ?_
   rintro _ w2 ⟨rfl, hg2⟩
   by_cases hx : X < 0
   ·have HI2 : Hid (∀ q (hq : q < l.length), q < h + 1 → jaz l[q].key s < 0) := HX2.out.1 hx
    go_wp2_with fail
    go_roundw
    case rel => exact ⟨h + 1, j, by go_num, rfl, by omega, by omega, HI2, HJ, ja hg hg2⟩
    case measure => simp [intOf]; omega
   have HJ2 : Hid (∀ q (hq : q < l.length), h ≤ q → 0 ≤ jaz l[q].key s) := HX2.out.2 (Int.not_lt.1 hx)
   go_wp2_with fail
   go_roundw
   case rel => exact ⟨i, h, rfl, rfl, by omega, by omega, HI, HJ2, ja hg hg2⟩
   case measure => simp [intOf]; omega
  obtain rfl : j = i := by omega
  have hlti : ¬ (j : Int) < (j : Int) := by omega
  by_cases hjn : j < l.length
  ·obtain ⟨g, rfl, hg0, hg1⟩ := HA.out (by omega)
   obtain ⟨q0, q1, q2, q3, q4⟩ := (HL.out.grown hg).at_ j hjn
   have HC := Lib.hid (fun W => jso l[j].key s l[j].cont l[j].zone l[j].a l[j].z W)
   have HQ : Hid (jaz l[j].key s = 0 ↔ l[j].key = s) := cmpS_0
   have HQ2 : Hid ((∃ h : j < l.length, l[j].key = s) ↔ l[j].key = s) := ⟨fun ⟨_, h⟩ => h, fun h => ⟨hjn, h⟩⟩
   have hjni : (j : Int) < (l.length : Int) := by omega
   have hj0 : (0 : Int) ≤ (j : Int) := by omega
   generalize jaz l[j].key s = X at *
   generalize l[j].key = K at *
   generalize l[j].cont = C at *
   generalize l[j].zone = Z at *
   generalize l[j].a = ea at *
   generalize l[j].z = ez at *
   obtain ⟨B, hB⟩ : ∃ B, (X == 0) = B := ⟨_, rfl⟩
   have HBX : Hid (B = true ↔ K = s) := by
    show _ ↔ _
    rw [← hB, beq_iff_eq]
    exact HQ.out
   go_wp2_with fail
   refine (HC.out _).mono ?_
   rintro _ w2 ⟨rfl, hg2⟩
   go_wp2_with fail
   go_ret2
   exact ⟨j, B, rfl, hj, HI.out, HJ.out, by rw [HQ2.out]; exact HBX.out, ja hg hg2⟩
  have hjni : ¬ (j : Int) < (l.length : Int) := by omega
  go_wp2_with fail
  go_ret2
  exact ⟨j, false, rfl, hj, HI.out, HJ.out, ⟨fun h => by simp at h, fun ⟨h, _⟩ => absurd h hjn⟩, hg⟩
theorem jvq {a b : ByteArray} (h : leS a b = false) : b.data.toList < a.data.toList := by
 unfold leS at h
 rw [Proofs.bytesLess_eq, Lib.toList_data, Lib.toList_data] at h
 simp only [Bool.or_eq_false_iff, decide_eq_false_iff_not, beq_eq_false_iff_ne] at h
 rcases zd a.data.toList b.data.toList with ⟨_, h2⟩ | ⟨_, h2⟩ | ⟨_, h2⟩
 ·exact absurd h2 h.1
 ·exact absurd h2 h.2
 exact h2
theorem ja7 : ∀ (l : List Ent) (p : Option Ent), q8 p l = 0 → l.Pairwise (fun x y => x.key.data.toList < y.key.data.toList) ∧ ∀ q, p = some q → ∀ x ∈ l, q.key.data.toList < x.key.data.toList
 | [], _, _ => ⟨List.Pairwise.nil, fun _ _ _ h => by simp at h⟩
 | e :: r, p, h => by
   unfold q8 at h
   split at h
   ·rename_i h0
    obtain ⟨h1, h2⟩ := ja7 r (some e) h
    have h3 := h2 e rfl
    refine ⟨List.pairwise_cons.2 ⟨h3, h1⟩, fun q hq x hx => ?_⟩
    subst hq
    have hle : q.key.data.toList < e.key.data.toList := by
     rcases jao (some q) e with h | h | h | h | h
     ·omega
     ·omega
     ·omega
     ·omega
     obtain ⟨_, _, _, _, h⟩ := h
     rw [h] at h0
     cases hl : leS e.key q.key
     ·exact jvq hl
     have h5 : (if leS e.key q.key = true then (7 : Int) else 0) = 0 := h0
     rw [hl] at h5
     simp at h5
    rcases List.mem_cons.1 hx with rfl | hx
    ·exact hle
    exact List.lt_trans hle (h3 x hx)
   rename_i h0
   exact absurd h h0
structure EntsOk (l : List Ent) : Prop where
 len : l.length ≤ 400
 sorted : l.Pairwise (fun x y => x.key.data.toList < y.key.data.toList)
 times : ∀ e ∈ l, xu e.a e.z = true ∧ jaq e.key.data.toList = true ∧ 1 ≤ e.cont ∧ e.cont ≤ 7 ∧ 1 ≤ e.zone ∧ e.zone ≤ 90
theorem jdn : ∀ (l : List Ent) (p : Option Ent), q8 p l = 0 → ∀ e ∈ l, xu e.a e.z = true ∧ jaq e.key.data.toList = true ∧ 1 ≤ e.cont ∧ e.cont ≤ 7 ∧ 1 ≤ e.zone ∧ e.zone ≤ 90
 | [], _, _, e, h => by simp at h
 | e :: r, p, h, x, hx => by
   unfold q8 at h
   split at h
   ·rename_i h0
    rcases List.mem_cons.1 hx with rfl | hx
    ·have hin : ∀ n lo hi : Int, qu n lo hi = false → lo ≤ n ∧ n ≤ hi := fun n lo hi hh => by
      unfold qu at hh
      simp at hh
      omega
     rcases jao p x with h | h | h | h | ⟨h1, h2, h3, h4, _⟩
     ·omega
     ·omega
     ·omega
     ·omega
     have q1 := hin _ _ _ h2
     have q2 := hin _ _ _ h3
     exact ⟨h4, h1, q1.1, q1.2, q2.1, q2.2⟩
    exact jdn r (some e) h x hx
   rename_i h0
   exact absurd h h0
theorem jd2 {l : List Ent} (h : xj l = 0) : EntsOk l := by
 unfold xj at h
 split at h
 ·omega
 exact ⟨by omega, (ja7 l none h).1, jdn l none h⟩
def xi (l : List Ent) (s : ByteArray) : Option Ent := l.find? fun e => decide (e.key = s)
theorem EntsOk.lt {l : List Ent} (h : EntsOk l) {p q : Nat} (hp : p < l.length) (hq : q < l.length) (hpq : p < q) : l[p].key.data.toList < l[q].key.data.toList := List.pairwise_iff_getElem.1 h.sorted p q hp hq hpq
theorem EntsOk.mono {l : List Ent} (h : EntsOk l) (s : ByteArray) : ∀ p q (hp : p < l.length) (hq : q < l.length), p ≤ q → jaz l[q].key s < 0 → jaz l[p].key s < 0 := fun p q hp hq hpq hc => by
 rcases Nat.lt_or_eq_of_le hpq with h1 | rfl
 ·exact cmpS_lt.2 (List.lt_trans (h.lt hp hq h1) (cmpS_lt.1 hc))
 exact hc
theorem jkz {l : List Ent} (h : EntsOk l) {i : Nat} (hi : i < l.length) : xi l l[i].key = some l[i] := by
 unfold xi
 rw [List.find?_eq_some_iff_getElem]
 refine ⟨by simp, i, hi, rfl, fun j hj => ?_⟩
 have hlt := h.lt (p := j) (q := i) (by omega) hi hj
 simp only [Bool.not_eq_true', decide_eq_false_iff_not]
 intro e
 rw [e] at hlt
 exact List.lt_irrefl _ hlt
theorem jen {l : List Ent} {s : ByteArray} {e : Ent} (h : xi l s = some e) : e ∈ l ∧ e.key = s := by
 unfold xi at h
 exact ⟨List.mem_of_find?_eq_some h, by simpa using List.find?_some h⟩
def jsl (l : List Ent) (s : ByteArray) (w : World) (r : Ending) (w' : World) : Prop :=
 ∃ i : Nat, r = .returned (.tuple #[.int .i64 i, .bool (xi l s).isSome]) ∧ (∀ e, xi l s = some e → ∃ h : i < l.length, l[i] = e) ∧ w.grownBy w' none
theorem jb6 (base : Nat) (v : Value) (l : List Ent) (s : ByteArray) (w : World) (hl : EntsFrom base w v l) (hO : EntsOk l) :
 Calls Tryz.prog 166 #[v, .string s] w (jsl l s w) := by
 have HS := Lib.hid (jpi base v l s w hl (by have := hO.len; omega) (hO.mono s))
 have HP : Hid (∀ r w', jft l s w r w' → jsl l s w r w') := by
  rintro r w' ⟨i, f, rfl, hi, h1, h2, h3, hg⟩
  have hf : f = (xi l s).isSome := by
   cases hfe : xi l s with
   | none =>
     cases f
     ·rfl
     obtain ⟨h4, h5⟩ := h3.1 rfl
     have := jkz hO h4
     rw [h5, hfe] at this
     simp at this
   | some e =>
     obtain ⟨hm, hk⟩ := jen hfe
     obtain ⟨q, hq, rfl⟩ := List.mem_iff_getElem.1 hm
     have hq0 : jaz l[q].key s = 0 := cmpS_0.2 hk
     have hiq : i ≤ q := by
      refine Nat.not_lt.1 fun hlt => ?_
      have := h1 q hq hlt
      omega
     have hqi : i = q := by
      rcases Nat.lt_or_eq_of_le hiq with h4 | h4
      ·have h5 := hO.lt (p := i) (q := q) (by omega) hq h4
       rw [hk] at h5
       have h6 := h2 i (by omega) (Nat.le_refl _)
       have h7 := cmpS_lt.2 h5
       omega
      exact h4
     subst hqi
     exact (h3.2 ⟨hq, hk⟩)
  refine ⟨i, by rw [← hf], fun e he => ?_, hg⟩
  rw [he] at hf
  obtain ⟨h4, h5⟩ := h3.1 hf
  refine ⟨h4, ?_⟩
  have := jkz hO h4
  rw [h5, he] at this
  exact (Option.some.inj this).symm
 clear hl
 go_enter Tryz.func166, Tryz.ntmps166
 go_wp2_with fail
 refine HS.out.mono ?_
 intro r w' hp
 have HQ := Lib.hid (HP.out _ _ hp)
 obtain ⟨i, rfl, _, _⟩ := HP.out _ _ hp
 clear hp HP
 generalize (xi l s).isSome = F at *
 go_wp2_with fail
 go_ret2
 exact HQ.out
def jbt (b : Bool) : Int := if b then 1 else 0
def ja5 (o x : Pfx) : Int := if jaz o.beg x.beg ≠ 0 then jaz o.beg x.beg else if jbt o.whole - jbt x.whole ≠ 0 then jbt o.whole - jbt x.whole else o.a - x.a
def jjs (x : Pfx) : Bool := if x.whole then !(jo x.beg).isSome else !jr x.beg.data.toList
def jd1 (l : List Ent) (p : Option Pfx) (x : Pfx) : Int :=
 if jjs x then 3
 else if (xi l x.ent).isSome = false then 8
 else if xu x.a x.z = false then 1
 else if qu x.zone 0 90 then 1
 else match p with
  | none => 0
  | some o => if 0 ≤ ja5 o x then 7 else if o.beg = x.beg ∧ o.whole = x.whole ∧ x.a < o.z then 13 else 0
def xr (l : List Ent) : Option Pfx → List Pfx → Int
 | _, [] => 0
 | p, x :: r => if jd1 l p x = 0 then xr l (some x) r else jd1 l p x
def jah (l : List Ent) (p : List Pfx) : Int := if xj l ≠ 0 then xj l else if 2000 < p.length then 2 else xr l none p
theorem jdt (l : List Ent) (p : List Pfx) (k : Nat) (h : k < p.length) : xr l (qy p k) (p.drop k) = if jd1 l (qy p k) p[k] = 0 then xr l (qy p (k + 1)) (p.drop (k + 1)) else jd1 l (qy p k) p[k] := by
 rw [List.drop_eq_getElem_cons h, yq p k h]
 rfl
theorem je4 (l : List Ent) (p : List Pfx) (o : Option Pfx) : xr l o (p.drop p.length) = 0 := by rw [List.drop_length]; rfl
def jlq (x : Pfx) : Prop := x.beg.size ≤ 1000000000 ∧ Ascii x.beg ∧ x.ent.size ≤ 1000000000 ∧ -1152921504606846976 ≤ x.a ∧ x.a ≤ 1152921504606846976 ∧ -1152921504606846976 ≤ x.z ∧ x.z ≤ 1152921504606846976
structure Con where
 tm : Int
 mode : Int
 band : ByteArray
 call : ByteArray
 sent : Int
 heard : Int
 gave : ByteArray
 got : ByteArray
structure Rul where
 rel : Int
 mode : Int
 band : ByteArray
 points : Int
structure Mul where
 what : Int
 byBand : Bool
 byMode : Bool
def ja6 (c : Con) : List Value := [.int .i64 c.tm, .int .i64 c.mode, .string c.band, .string c.call, .int .i64 c.sent, .int .i64 c.heard, .string c.gave, .string c.got]
def jwc (r : Rul) : List Value := [.int .i64 r.rel, .int .i64 r.mode, .string r.band, .int .i64 r.points]
def jwb (m : Mul) : List Value := [.int .i64 m.what, .bool m.byBand, .bool m.byMode]
def ConsFrom (base : Nat) (w : World) (v : Value) (l : List Con) : Prop := w.ownsRow base 50 8 v l.length (l.flatMap ja6)
def RulsFrom (base : Nat) (w : World) (v : Value) (l : List Rul) : Prop := w.ownsRow base 77 4 v l.length (l.flatMap jwc)
def MulsFrom (base : Nat) (w : World) (v : Value) (l : List Mul) : Prop := w.ownsRow base 38 3 v l.length (l.flatMap jwb)
theorem ConsFrom.grown {base : Nat} {w w' : World} {v : Value} {l : List Con} (h : ConsFrom base w v l) (hg : w.grownBy w' none) : ConsFrom base w' v l := j7 h hg
theorem RulsFrom.grown {base : Nat} {w w' : World} {v : Value} {l : List Rul} (h : RulsFrom base w v l) (hg : w.grownBy w' none) : RulsFrom base w' v l := j7 h hg
theorem MulsFrom.grown {base : Nat} {w w' : World} {v : Value} {l : List Mul} (h : MulsFrom base w v l) (hg : w.grownBy w' none) : MulsFrom base w' v l := j7 h hg
theorem ConsFrom.other {base b : Nat} {w w' : World} {v : Value} {l : List Con} (h : ConsFrom base w v l) (hg : w.grownBy w' (some b)) (hb : b < base) : ConsFrom base w' v l := jy h hg hb
theorem RulsFrom.other {base b : Nat} {w w' : World} {v : Value} {l : List Rul} (h : RulsFrom base w v l) (hg : w.grownBy w' (some b)) (hb : b < base) : RulsFrom base w' v l := jy h hg hb
theorem MulsFrom.other {base b : Nat} {w w' : World} {v : Value} {l : List Mul} (h : MulsFrom base w v l) (hg : w.grownBy w' (some b)) (hb : b < base) : MulsFrom base w' v l := jy h hg hb
theorem ConsFrom.shape {base : Nat} {w : World} {v : Value} {l : List Con} (h : ConsFrom base w v l) :
 ∃ A c, v = .slice A l.length c ∧ l.length ≤ 9223372036854775807 ∧ (0 < l.length → ∃ g, A = some ⟨g, 0, none⟩ ∧ base ≤ g ∧ g < w.heap.size) := j1 h
theorem RulsFrom.shape {base : Nat} {w : World} {v : Value} {l : List Rul} (h : RulsFrom base w v l) :
 ∃ A c, v = .slice A l.length c ∧ l.length ≤ 9223372036854775807 ∧ (0 < l.length → ∃ g, A = some ⟨g, 0, none⟩ ∧ base ≤ g ∧ g < w.heap.size) := j1 h
theorem MulsFrom.shape {base : Nat} {w : World} {v : Value} {l : List Mul} (h : MulsFrom base w v l) :
 ∃ A c, v = .slice A l.length c ∧ l.length ≤ 9223372036854775807 ∧ (0 < l.length → ∃ g, A = some ⟨g, 0, none⟩ ∧ base ≤ g ∧ g < w.heap.size) := j1 h
theorem ConsFrom.at_ {base : Nat} {w : World} {g c : Nat} {l : List Con} (h : ConsFrom base w (.slice (some ⟨g, 0, none⟩) l.length c) l) (k : Nat) (hk : k < l.length) :
 w.cell? ⟨g, k * 8, none⟩ = some (.int .i64 l[k].tm) ∧ w.cell? ⟨g, k * 8 + 1, none⟩ = some (.int .i64 l[k].mode) ∧ w.cell? ⟨g, k * 8 + 2, none⟩ = some (.string l[k].band) ∧ w.cell? ⟨g, k * 8 + 3, none⟩ = some (.string l[k].call) ∧ w.cell? ⟨g, k * 8 + 4, none⟩ = some (.int .i64 l[k].sent) ∧ w.cell? ⟨g, k * 8 + 5, none⟩ = some (.int .i64 l[k].heard) ∧ w.cell? ⟨g, k * 8 + 6, none⟩ = some (.string l[k].gave) ∧ w.cell? ⟨g, k * 8 + 7, none⟩ = some (.string l[k].got) := by
 have hf := jb7 ja6 8 (fun _ => rfl) l k
 have h0 := hf 0 hk (by decide)
 rw [Nat.add_zero] at h0
 refine ⟨?_, ?_, ?_, ?_, ?_, ?_, ?_, ?_⟩
 ·rw [World.ownsRow.cellAt h _ (by omega), h0]; rfl
 ·rw [World.ownsRow.cellAt h _ (by omega), hf 1 hk (by decide)]; rfl
 ·rw [World.ownsRow.cellAt h _ (by omega), hf 2 hk (by decide)]; rfl
 ·rw [World.ownsRow.cellAt h _ (by omega), hf 3 hk (by decide)]; rfl
 ·rw [World.ownsRow.cellAt h _ (by omega), hf 4 hk (by decide)]; rfl
 ·rw [World.ownsRow.cellAt h _ (by omega), hf 5 hk (by decide)]; rfl
 ·rw [World.ownsRow.cellAt h _ (by omega), hf 6 hk (by decide)]; rfl
 rw [World.ownsRow.cellAt h _ (by omega), hf 7 hk (by decide)]; rfl
theorem RulsFrom.at_ {base : Nat} {w : World} {g c : Nat} {l : List Rul} (h : RulsFrom base w (.slice (some ⟨g, 0, none⟩) l.length c) l) (k : Nat) (hk : k < l.length) :
 w.cell? ⟨g, k * 4, none⟩ = some (.int .i64 l[k].rel) ∧ w.cell? ⟨g, k * 4 + 1, none⟩ = some (.int .i64 l[k].mode) ∧ w.cell? ⟨g, k * 4 + 2, none⟩ = some (.string l[k].band) ∧ w.cell? ⟨g, k * 4 + 3, none⟩ = some (.int .i64 l[k].points) := by
 have hf := jb7 jwc 4 (fun _ => rfl) l k
 have h0 := hf 0 hk (by decide)
 rw [Nat.add_zero] at h0
 refine ⟨?_, ?_, ?_, ?_⟩
 ·rw [World.ownsRow.cellAt h _ (by omega), h0]; rfl
 ·rw [World.ownsRow.cellAt h _ (by omega), hf 1 hk (by decide)]; rfl
 ·rw [World.ownsRow.cellAt h _ (by omega), hf 2 hk (by decide)]; rfl
 rw [World.ownsRow.cellAt h _ (by omega), hf 3 hk (by decide)]; rfl
theorem MulsFrom.at_ {base : Nat} {w : World} {g c : Nat} {l : List Mul} (h : MulsFrom base w (.slice (some ⟨g, 0, none⟩) l.length c) l) (k : Nat) (hk : k < l.length) :
 w.cell? ⟨g, k * 3, none⟩ = some (.int .i64 l[k].what) ∧ w.cell? ⟨g, k * 3 + 1, none⟩ = some (.bool l[k].byBand) ∧ w.cell? ⟨g, k * 3 + 2, none⟩ = some (.bool l[k].byMode) := by
 have hf := jb7 jwb 3 (fun _ => rfl) l k
 have h0 := hf 0 hk (by decide)
 rw [Nat.add_zero] at h0
 refine ⟨?_, ?_, ?_⟩
 ·rw [World.ownsRow.cellAt h _ (by omega), h0]; rfl
 ·rw [World.ownsRow.cellAt h _ (by omega), hf 1 hk (by decide)]; rfl
 rw [World.ownsRow.cellAt h _ (by omega), hf 2 hk (by decide)]; rfl
def yb {α : Type} (f : α → Int) : List α → Int
 | [] => 0
 | x :: r => if f x = 0 then yb f r else f x
theorem jbq {α : Type} (f : α → Int) (l : List α) (k : Nat) (h : k < l.length) : yb f (l.drop k) = if f l[k] = 0 then yb f (l.drop (k + 1)) else f l[k] := by
 rw [List.drop_eq_getElem_cons h]
 rfl
theorem jcz {α : Type} (f : α → Int) (l : List α) : yb f (l.drop l.length) = 0 := by rw [List.drop_length]; rfl
theorem jkn {α : Type} (f : α → Int) : ∀ {l : List α}, yb f l = 0 → ∀ x ∈ l, f x = 0
 | [], _, x, hx => by simp at hx
 | y :: r, h, x, hx => by
   have h' : (if f y = 0 then yb f r else f y) = 0 := h
   by_cases hy : f y = 0
   ·rw [if_pos hy] at h'
    rcases List.mem_cons.1 hx with rfl | hx
    ·exact hy
    exact jkn f h' x hx
   rw [if_neg hy] at h'; exact absurd h' hy
theorem jhg {α : Type} (f : α → Int) : ∀ {l : List α}, (∀ x ∈ l, f x = 0) → yb f l = 0
 | [], _ => rfl
 | y :: r, h => by
   show (if f y = 0 then yb f r else f y) = 0
   rw [if_pos (h y (List.mem_cons_self ..))]
   exact jhg f fun x hx => h x (List.mem_cons_of_mem _ hx)
def zq (c : Con) : Int :=
 if qu c.tm 0 345686399999 then 1
 else if qu c.mode 1 3 then 4
 else if jaq c.band.data.toList = false then 5
 else if xl c.call = false then 3
 else if qu c.sent 0 99999 then 1
 else if qu c.heard 0 99999 then 1
 else if jg5 c.gave.data.toList = false then 5
 else if jg5 c.got.data.toList = false then 5
 else 0
def qm (l : List Con) : Int := if 2000 < l.length then 2 else yb zq l
def jb0 (r : Rul) : Int :=
 if qu r.rel 0 5 then 4
 else if qu r.mode 0 3 then 4
 else if jg5 r.band.data.toList = false then 5
 else if qu r.points 0 1000 then 1
 else 0
def yj (l : List Rul) : Int := if 100 < l.length then 2 else yb jb0 l
def jba (a b : Mul) : Bool := a.what == b.what && (a.byBand == b.byBand && a.byMode == b.byMode)
def jmf (p : List Mul) (m : Mul) : Int := if qu m.what 1 5 then 4 else if p.any (jba m) then 6 else 0
def jbb (p : List Mul) : List Mul → Int
 | [] => 0
 | m :: r => if jmf p m = 0 then jbb (p ++ [m]) r else jmf p m
def zj (l : List Mul) : Int := if 10 < l.length then 2 else jbb [] l
theorem je0 (l : List Mul) (k : Nat) (h : k < l.length) : jbb (l.take k) (l.drop k) = if jmf (l.take k) l[k] = 0 then jbb (l.take (k + 1)) (l.drop (k + 1)) else jmf (l.take k) l[k] := by
 rw [List.drop_eq_getElem_cons h, List.take_succ_eq_append_getElem h]
 rfl
theorem jf4 (l : List Mul) : jbb (l.take l.length) (l.drop l.length) = 0 := by rw [List.drop_length]; rfl
structure Cst where
 ents : List Ent
 pfxs : List Pfx
 own : ByteArray
 beg : Int
 fin : Int
 ruls : List Rul
 muls : List Mul
 byMode : Bool
def jfw (c : Cst) : Int := orL [jah c.ents c.pfxs, jdx c.own, jaj c.beg c.fin, yj c.ruls, zj c.muls]
def zy (c : Con) : Prop := c.band.size ≤ 1000 ∧ c.call.size ≤ 1000 ∧ Ascii c.call ∧ c.gave.size ≤ 1000 ∧ c.got.size ≤ 1000
def jlt (r : Rul) : Prop := r.band.size ≤ 1000
structure CstFrom (base : Nat) (w : World) (ev pv rv mv : Value) (c : Cst) : Prop where
 ents : EntsFrom base w ev c.ents
 pfxs : PfxsFrom base w pv c.pfxs
 ruls : RulsFrom base w rv c.ruls
 muls : MulsFrom base w mv c.muls
theorem CstFrom.grown {base : Nat} {w w' : World} {ev pv rv mv : Value} {c : Cst} (h : CstFrom base w ev pv rv mv c) (hg : w.grownBy w' none) : CstFrom base w' ev pv rv mv c := ⟨h.ents.grown hg, h.pfxs.grown hg, h.ruls.grown hg, h.muls.grown hg⟩
structure CstSm (c : Cst) : Prop where
 ents : ∀ e ∈ c.ents, jjc e
 pfxs : ∀ x ∈ c.pfxs, jlq x
 own : c.own.size ≤ 1000
 asc : Ascii c.own
 ruls : ∀ r ∈ c.ruls, jlt r
 fin0 : -1152921504606846976 ≤ c.fin
 fin1 : c.fin ≤ 1152921504606846976
def jp9 (b k : Nat) (w : World) (e : Ending) (w' : World) : Prop :=
 ∃ v : Bool, e = .returned (.bool v) ∧ Str w' b (k + 1) ∧ w.grownBy w' (some b)
set_option maxHeartbeats 400000 in
theorem jda (b k : Nat) (n : Int) (w : World) (hs : Str w b k) (hk : k ≤ 1000000000000) (h1 : 1 ≤ n) (h2 : n ≤ 4611686018427387904) :
 Calls Tryz.prog 28 #[.pointer (some ⟨b, 0, none⟩), .int .i64 n] w (jp9 b k w) := by
 go_enter Tryz.func28, Tryz.ntmps28
 go_wp2_with fail
 refine (y8 b k n _ hs hk h1 h2).mono ?_
 rintro e w1 ⟨v, hv0, hv1, rfl, hs1, hg1⟩
 go_wp2_with fail
 all_goals go_ret
 all_goals exact ⟨_, rfl, hs1, hg1⟩
def jnh (b k : Nat) (low high : Int) (w : World) (e : Ending) (w' : World) : Prop :=
 ∃ v : Int, low ≤ v ∧ v ≤ high ∧ e = .returned (.int .i64 v) ∧ Str w' b (k + 1) ∧ w.grownBy w' (some b)
set_option maxHeartbeats 400000 in
theorem jld (b k : Nat) (low high : Int) (w : World) (hs : Str w b k) (hk : k ≤ 1000000000000) (h1 : -1152921504606846976 ≤ low) (h2 : low ≤ high) (h3 : high ≤ 1152921504606846976) :
 Calls Tryz.prog 30 #[.pointer (some ⟨b, 0, none⟩), .int .i64 low, .int .i64 high] w (jnh b k low high w) := by
 go_enter Tryz.func30, Tryz.ntmps30
 go_wp2_with fail
 refine (y8 b k _ _ hs hk (by omega) (by omega)).mono ?_
 rintro e w1 ⟨v, hv0, hv1, rfl, hs1, hg1⟩
 go_wp2_with fail
 go_ret
 exact ⟨_, by omega, by omega, rfl, hs1, hg1⟩
def jgc (b k : Nat) (xs : List Int) (w : World) (e : Ending) (w' : World) : Prop :=
 ∃ v : Int, v ∈ xs ∧ e = .returned (.int .i64 v) ∧ Str w' b (k + 1) ∧ w.grownBy w' (some b)
theorem jod {xs : List Int} {i : Nat} (h : i < xs.length) : ((xs.map (Value.int .i64)).toArray)[i]? = some (.int .i64 xs[i]) := by simp [h]
set_option maxHeartbeats 400000 in
theorem jua (b k g m c : Nat) (xs : List Int) (w : World) (hs : Str w b k) (hk : k ≤ 1000000000000) (hg : Blk w g 3 (xs.map (Value.int .i64)).toArray) (hne : g ≠ b) (hm : m = xs.length) (h1 : 1 ≤ m) (h2 : m ≤ 1000) :
 Calls Tryz.prog 27 #[.pointer (some ⟨b, 0, none⟩), .slice (some ⟨g, 0, none⟩) m c] w (jgc b k xs w) := by
 have HM := Lib.hid hm
 clear hm
 go_enter Tryz.func27, Tryz.ntmps27
 go_wp2_with fail
 refine (y8 b k _ _ hs hk (by omega) (by omega)).mono ?_
 rintro e w1 ⟨v, hv0, hv1, rfl, hs1, hg1⟩
 obtain ⟨i, rfl⟩ := Int.eq_ofNat_of_zero_le hv0
 have hi : i < xs.length := by have := HM.out; omega
 have hc := (hg.grown hg1 (by simpa using hne)).cell i
 rw [jod hi] at hc
 obtain ⟨z, hz⟩ : ∃ z, z = xs[i] := ⟨_, rfl⟩
 have hmem : z ∈ xs := by rw [hz]; exact List.getElem_mem hi
 rw [← hz] at hc
 clear hz
 go_wp2_with fail
 go_ret
 exact ⟨z, hmem, rfl, hs1, hg1⟩
theorem jlb (b k m c : Nat) (xs : List Int) (w : World) (hs : Str w b k) (hk : k ≤ 1000000000000) (hm : m = xs.length) (h1 : 1 ≤ m) (h2 : m ≤ 1000) :
 Calls Tryz.prog 27 #[.pointer (some ⟨b, 0, none⟩), .slice (some ⟨w.heap.size, 0, none⟩) m c] (w.alloc (.cells (xs.map (Value.int .i64)).toArray 3)) (jgc b k xs w) :=
 (jua b k _ m c xs _ (hs.alloc _) hk (Blk.new _ _ _) (by have := hs.lt; omega) hm h1 h2).mono fun e w' ⟨v, hv, he, hs', hg⟩ =>
  ⟨v, hv, he, hs', ja (World.grownBy_alloc w _ _) hg⟩
theorem jkc (b k g m c : Nat) (xs : List Int) (w : World) (hs : Str w b k) (hg : g = w.heap.size) (hk : k ≤ 1000000000000) (hm : m = xs.length) (h1 : 1 ≤ m) (h2 : m ≤ 1000) :
 Calls Tryz.prog 27 #[.pointer (some ⟨b, 0, none⟩), .slice (some ⟨g, 0, none⟩) m c] (w.alloc (.cells (xs.map (Value.int .i64)).toArray 3)) (jgc b k xs w) := by
 subst hg
 exact jlb b k m c xs w hs hk hm h1 h2
theorem Str.setCell {w : World} {b k : Nat} (h : Str w b k) {p : Addr} (hp : b < p.block) (u : Value) : Str (w.setCell p u) b k :=
 h.grown (jg (jf w (some p.block)) (.inl rfl) u) (fun g e => by injection e with e; omega)
theorem Blk.cells2 {w : World} {g : Nat} {t : TypeId} {a0 a1 : Value} (h : Blk w g t #[a0, a1]) : w.cell? ⟨g, 0, none⟩ = some a0 ∧ w.cell? ⟨g, 1, none⟩ = some a1 := ⟨h.cell 0, h.cell 1⟩
theorem Blk.put01 {w : World} {g : Nat} {t : TypeId} {a0 a1 : Value} (h : Blk w g t #[a0, a1]) (b0 b1 : Value) : Blk ((w.setCell ⟨g, 0, none⟩ b0).setCell ⟨g, 1, none⟩ b1) g t #[b0, b1] := by
 have := (h.put 0 b0).put 1 b1
 simpa using this
end Go.Proofs.YtbamhgaghngjiaaGreatDoor

namespace Go.Proofs.YtbamhgaghngjiaaGreatDoor
set_option linter.unusedVariables false
open Go.RowKit

def jkv (b k : Nat) (xs : List ByteArray) (w : World) (e : Ending) (w' : World) : Prop :=
 ∃ v : ByteArray, v ∈ xs ∧ e = .returned (.string v) ∧ Str w' b (k + 1) ∧ w.grownBy w' (some b)
theorem jof {xs : List ByteArray} {i : Nat} (h : i < xs.length) : ((xs.map Value.string).toArray)[i]? = some (.string xs[i]) := by simp [h]
set_option maxHeartbeats 400000 in
theorem juo (b k g m c : Nat) (xs : List ByteArray) (w : World) (hs : Str w b k) (hk : k ≤ 1000000000000) (hg : Blk w g 9 (xs.map Value.string).toArray) (hne : g ≠ b) (hm : m = xs.length) (h1 : 1 ≤ m) (h2 : m ≤ 1000) :
 Calls Tryz.prog 31 #[.pointer (some ⟨b, 0, none⟩), .slice (some ⟨g, 0, none⟩) m c] w (jkv b k xs w) := by
 have HM := Lib.hid hm
 clear hm
 go_enter Tryz.func31, Tryz.ntmps31
 go_wp2_with fail
 refine (y8 b k _ _ hs hk (by omega) (by omega)).mono ?_
 rintro e w1 ⟨v, hv0, hv1, rfl, hs1, hg1⟩
 obtain ⟨i, rfl⟩ := Int.eq_ofNat_of_zero_le hv0
 have hi : i < xs.length := by have := HM.out; omega
 have hc := (hg.grown hg1 (by simpa using hne)).cell i
 rw [jof hi] at hc
 obtain ⟨z, hz⟩ : ∃ z, z = xs[i] := ⟨_, rfl⟩
 have hmem : z ∈ xs := by rw [hz]; exact List.getElem_mem hi
 rw [← hz] at hc
 clear hz
 go_wp2_with fail
 go_ret
 exact ⟨z, hmem, rfl, hs1, hg1⟩
theorem jav (b k g m c : Nat) (xs : List ByteArray) (w : World) (hs : Str w b k) (hg : g = w.heap.size) (hk : k ≤ 1000000000000) (hm : m = xs.length) (h1 : 1 ≤ m) (h2 : m ≤ 1000) :
 Calls Tryz.prog 31 #[.pointer (some ⟨b, 0, none⟩), .slice (some ⟨g, 0, none⟩) m c] (w.alloc (.cells (xs.map Value.string).toArray 9)) (jkv b k xs w) := by
 subst hg
 exact (juo b k _ m c xs _ (hs.alloc _) hk (Blk.new _ _ _) (by have := hs.lt; omega) hm h1 h2).mono fun e w' ⟨v, hv, he, hs', hg⟩ =>
  ⟨v, hv, he, hs', ja (World.grownBy_alloc w _ _) hg⟩
end Go.Proofs.YtbamhgaghngjiaaGreatDoor

namespace Go.Proofs.YtbamhgaghngjiaaGreatDoor
open Go.RowKit
set_option linter.unusedVariables false

def In (w : World) (A : Option Addr) (n : Nat) : Prop :=
 n ≤ 9223372036854775807 ∧ (0 < n → ∃ ad, A = some ad ∧ ad.block < w.heap.size ∧ ∀ j, j < n → ∃ z : Int, w.cell? (ad.add j) = some (.int .i64 z))
theorem Str.start {w : World} {A : Option Addr} {n c : Nat} (h : In w A n) :
 Str (w.alloc (.cells #[.slice A n c, .int .i64 0] 25)) w.heap.size 0 := by
 obtain ⟨h1, h2⟩ := h
 refine ⟨A, n, c, 0, Blk.new _ _ _, by omega, by omega, h1, fun hn => ?_⟩
 obtain ⟨ad, e, hb, hc⟩ := h2 hn
 refine ⟨ad, e, hb, fun j hj => ?_⟩
 obtain ⟨z, hz⟩ := hc j hj
 exact ⟨z, (World.cell?_alloc_lt w _ _ (by rw [xd]; exact hb)).trans hz⟩
def jqa (k : IntKind) (w : World) (a : Option Addr) (len cap : Nat) (zs : List Int) : Prop :=
 (a = none ∧ len = 0 ∧ cap = 0 ∧ zs = []) ∨
 ∃ x, a = some x ∧ len ≤ cap ∧ cap ≤ maxLen ∧ zs.length = cap ∧ (∀ i, i < zs.length → w.cell? (x.add i) = some (.int k (zs.getD i 0))) ∧ ∀ n ∈ zs, (Lit.int k n).wf = true
theorem In.of_row {w : World} {a : Option Addr} {len cap : Nat} {zs : List Int} (h : jqa .i64 w a len cap zs) : In w a len := by
 rcases h with ⟨_, rfl, _, _⟩ | ⟨x, rfl, h1, h2, h3, h4, _⟩
 ·exact ⟨by omega, fun h => absurd h (by omega)⟩
 unfold maxLen at h2
 refine ⟨by omega, fun hn => ⟨x, rfl, ?_, fun j hj => ⟨_, h4 j (by omega)⟩⟩⟩
 have := World.block_lt_of_cell? w _ (h4 0 (by omega))
 rwa [xd] at this
def SX (base : Nat) (w : World) (b : Nat) (L : List Int) (k : Nat) : Prop :=
 ∃ (A : Option Addr) (c : Nat), Blk w b 25 #[.slice A L.length c, .int .i64 (k : Int)] ∧ base ≤ b ∧ L.length ≤ 9223372036854775807 ∧
   (0 < L.length → ∃ ad, A = some ad ∧ ad.block < base ∧ ∀ j, j < L.length → w.cell? (ad.add j) = some (.int .i64 (L.getD j 0)))
theorem SX.lt {base : Nat} {w : World} {b k : Nat} {L : List Int} (h : SX base w b L k) : b < w.heap.size := by
 obtain ⟨A, c, h1, h2, h3, h4⟩ := h
 exact h1.lt
theorem SX.base {base : Nat} {w : World} {b k : Nat} {L : List Int} (h : SX base w b L k) : base ≤ b := by
 obtain ⟨A, c, h1, h2, h3, h4⟩ := h
 exact h2
theorem SX.grown {base : Nat} {w w' : World} {b k : Nat} {L : List Int} (h : SX base w b L k) {row : Option Nat} (hg : w.grownBy w' row) (hr : ∀ g, row = some g → g ≠ b ∧ base ≤ g) : SX base w' b L k := by
 obtain ⟨A, c, h1, h2, h3, h4⟩ := h
 have hlt := h1.lt
 refine ⟨A, c, h1.grown hg (fun e => (hr b e.symm).1 rfl), h2, h3, fun hn => ?_⟩
 obtain ⟨ad, e, hb, hc⟩ := h4 hn
 exact ⟨ad, e, hb, fun j hj => (World.cell?_of_block (hg.block _ (by rw [xd]; omega) (fun e' => by have := (hr _ e'.symm).2; rw [xd] at this; omega))).trans (hc j hj)⟩
theorem SX.alloc {base : Nat} {w : World} {b k : Nat} {L : List Int} (h : SX base w b L k) (o : Obj) : SX base (w.alloc o) b L k := h.grown (World.grownBy_alloc w o none) (by simp)
theorem SX.drew {base : Nat} {w : World} {b k : Nat} {L : List Int} (h : SX base w b L k) : SX base w.drew b L k := h
theorem SX.drewN {base : Nat} {w : World} {b k : Nat} {L : List Int} (h : SX base w b L k) (n : Nat) : SX base (w.drewN n) b L k := h
theorem SX.str {base : Nat} {w : World} {b k : Nat} {L : List Int} (h : SX base w b L k) : Str w b k := by
 obtain ⟨A, c, h1, h2, h3, h4⟩ := h
 refine ⟨A, _, c, _, h1, by omega, by omega, h3, fun hn => ?_⟩
 obtain ⟨ad, e, hb, hc⟩ := h4 hn
 exact ⟨ad, e, by omega, fun j hj => ⟨_, hc j hj⟩⟩
def jwm (L : List Int) (k : Nat) : Int :=
 if L.length = 0 then ((k : Int) + 1) * 7919
 else wrap64 (L.getD (k % L.length) 0 % 1073741824 + wrap64 (((k / L.length : Nat) : Int) * wrap64 (7919 + ((k % L.length : Nat) : Int))))
def qx (L : List Int) (k : Nat) (n : Int) : Int := jwm L k % n
theorem zu (L : List Int) (k : Nat) {n : Int} (h : 1 ≤ n) : 0 ≤ qx L k n ∧ qx L k n < n := ⟨Int.emod_nonneg _ (by omega), Int.emod_lt_of_pos _ (by omega)⟩
theorem jpy {x n : Int} (h : 1 ≤ n) (hx : x.tmod n < 0) : x.tmod n + n = x % n := by
 have h2 : x.tmod n = x - n * x.tdiv n := by have := Int.mul_tdiv_add_tmod x n; omega
 have h3 := jdi x n h
 have h4 : (x.tmod n + n) % n = x % n := by
  rw [Int.add_emod_right, h2, Int.sub_mul_emod_self_left]
 rw [← h4]
 exact (Int.emod_eq_of_lt (by omega) (by omega)).symm
theorem jpz {x n : Int} (h : 1 ≤ n) (hx : ¬ x.tmod n < 0) : x.tmod n = x % n := by
 have h2 : x.tmod n = x - n * x.tdiv n := by have := Int.mul_tdiv_add_tmod x n; omega
 have h3 := jdi x n h
 have h4 : (x.tmod n) % n = x % n := by
  rw [h2, Int.sub_mul_emod_self_left]
 rw [← h4]
 exact (Int.emod_eq_of_lt (by omega) (by omega)).symm
set_option maxHeartbeats 400000 in
theorem jji (x n : Int) (w : World) (h1 : 1 ≤ n) (h2 : n ≤ 4611686018427387904) :
 Calls Tryz.prog 127 #[.int .i64 x, .int .i64 n] w fun e w' => e = .returned (.int .i64 (x % n)) ∧ w = w' := by
 have ht := jdi x n h1
 obtain ⟨t1, t2⟩ := ht
 have HN := Lib.hid (fun h => jpy (x := x) h1 h)
 have HP := Lib.hid (fun h => jpz (x := x) h1 h)
 by_cases hx : x.tmod n < 0
 ·go_enter Tryz.func127, Tryz.ntmps127
  go_wp2
  go_ret
  exact ⟨ji (HN.out hx), rfl⟩
 go_enter Tryz.func127, Tryz.ntmps127
 go_wp2
 go_ret
 exact ⟨ji (HP.out hx), rfl⟩
def jng (base b : Nat) (L : List Int) (k : Nat) (n : Int) (w : World) (e : Ending) (w' : World) : Prop :=
 e = .returned (.int .i64 (qx L k n)) ∧ SX base w' b L (k + 1) ∧ w.grownBy w' (some b)
set_option maxHeartbeats 1000000 in
theorem jil (base b : Nat) (L : List Int) (k : Nat) (n : Int) (w : World) (hs : SX base w b L k) (hk : k ≤ 1000000000000) (h1 : 1 ≤ n) (h2 : n ≤ 4611686018427387904) :
 Calls Tryz.prog 72 #[.pointer (some ⟨b, 0, none⟩), .int .i64 n] w (jng base b L k n w) := by
 obtain ⟨A, c, hb, hbs, hn, hcell⟩ := hs
 have c0 := hb.cell 0
 have c1 := hb.cell 1
 have f1 := hb.free 1
 simp only [geA, geZ, geS] at c0 c1
 obtain ⟨len, hlen⟩ : ∃ len, L.length = len := ⟨_, rfl⟩
 rw [hlen] at hn hcell c0 hb
 rcases Nat.eq_zero_or_pos len with h0 | h0
 ·subst h0
  have HV : Hid (qx L k n = (((k : Int) + 1) * 7919) % n) := by show _ = _; unfold qx jwm; rw [if_pos hlen]
  have H5 := Lib.hid hcell
  clear hcell
  have HLN := Lib.hid hlen
  clear hlen
  go_enter Tryz.func72, Tryz.ntmps72
  go_wp2_with fail
  refine (jji _ _ _ h1 h2).mono ?_
  rintro e w' ⟨rfl, rfl⟩
  go_wp2_with fail
  go_ret
  have hb' := hb.put 1 (.int .i64 (k + 1))
  exact ⟨ji HV.out.symm, ⟨A, c, by rw [HLN.out]; exact hb', hbs, by rw [HLN.out]; exact hn, fun h => absurd h (by rw [HLN.out]; omega)⟩, jg (jf _ _) (.inl rfl) _⟩
 obtain ⟨ad, rfl, hab, hx⟩ := hcell h0
 have H5 := Lib.hid hcell
 clear hcell
 obtain ⟨i, hi⟩ : ∃ i, k % len = i := ⟨_, rfl⟩
 obtain ⟨r, hr⟩ : ∃ r, k / len = r := ⟨_, rfl⟩
 have hil : i < len := by rw [← hi]; exact Nat.mod_lt _ h0
 have hrk : r ≤ k := by rw [← hr]; exact Nat.div_le_self _ _
 have m1 : (k : Int) % (len : Int) = (i : Int) := by rw [← hi]; exact (Int.natCast_emod _ _).symm
 have m2 : (k : Int) / (len : Int) = (r : Int) := by rw [← hr]; exact (Int.natCast_ediv _ _).symm
 have q0 : 0 ≤ (k : Int) % (len : Int) := by omega
 have q1 : (k : Int) % (len : Int) < (len : Int) := by omega
 have q2 : 0 ≤ (k : Int) / (len : Int) := by omega
 have q3 : (k : Int) / (len : Int) ≤ (k : Int) := by omega
 have hlenb : ((len : Int) == 0) = false := by rw [beq_eq_false_iff_ne]; omega
 have hz := hx i hil
 obtain ⟨z, hzz⟩ : ∃ z, L.getD i 0 = z := ⟨_, rfl⟩
 rw [hzz] at hz
 have hz' : (w.setCell ⟨b, 1, none⟩ (.int .i64 (k + 1))).cell? (ad.add i) = some (.int .i64 z) :=
  (World.cell?_setCell_other w _ _ _ (fun e => by have := xd ad i; rw [← e] at this; simp at this; omega)).trans hz
 have HV : Hid (qx L k n = wrap64 (z % 1073741824 + wrap64 ((r : Int) * wrap64 (7919 + (i : Int)))) % n) := by
  show _ = _
  unfold qx jwm
  rw [if_neg (by omega), hlen, hi, hr, hzz]
 have HX := Lib.hid hx
 have HI := Lib.hid hi
 have HR := Lib.hid hr
 have HLN := Lib.hid hlen
 have HZZ := Lib.hid hzz
 have M1 := Lib.hid m1
 have M2 := Lib.hid m2
 clear hx hz hi hr hlen hzz
 go_enter Tryz.func72, Tryz.ntmps72
 go_wp2_with fail
 go_quiet (fail)
 go_wp2_with fail
 go_quiet (fail)
 go_wp2_with fail
 refine (jji _ _ _ (by omega) (by omega)).mono ?_
 rintro e w' ⟨rfl, rfl⟩
 go_wp2_with fail
 refine (jji _ _ _ h1 h2).mono ?_
 rintro e w' ⟨rfl, rfl⟩
 go_wp2_with fail
 go_ret
 have hb' := hb.put 1 (.int .i64 (k + 1))
 exact ⟨ji HV.out.symm, ⟨some ad, c, by rw [HLN.out]; exact hb', hbs, by rw [HLN.out]; exact hn, fun _ => ⟨ad, rfl, hab, fun j hj => by
  rw [HLN.out] at hj
  exact (World.cell?_setCell_other w _ _ _ (fun e => by have := xd ad j; rw [← e] at this; simp at this; omega)).trans (HX.out j hj)⟩⟩,
  by repeat (first | exact jg (jf _ _) (.inl rfl) _ | refine q9 ?_ _ | refine jn ?_)⟩
def jne (base b : Nat) (L : List Int) (k : Nat) (n : Int) (w : World) (e : Ending) (w' : World) : Prop :=
 e = .returned (.bool (decide (qx L k n = 0))) ∧ SX base w' b L (k + 1) ∧ w.grownBy w' (some b)
set_option maxHeartbeats 400000 in
theorem jvn (base b : Nat) (L : List Int) (k : Nat) (n : Int) (w : World) (hs : SX base w b L k) (hk : k ≤ 1000000000000) (h1 : 1 ≤ n) (h2 : n ≤ 4611686018427387904) :
 Calls Tryz.prog 28 #[.pointer (some ⟨b, 0, none⟩), .int .i64 n] w (jne base b L k n w) := by
 have HN := Lib.hid (fun W (h : SX base W b L k) => jil base b L k n W h hk h1 h2)
 obtain ⟨v, hv⟩ : ∃ v, qx L k n = v := ⟨_, rfl⟩
 have HV := Lib.hid hv
 by_cases h0 : v = 0
 ·have HD : Hid (decide (qx L k n = 0) = true) := by show _ = _; rw [HV.out]; simpa using h0
  subst h0
  clear hv
  go_enter Tryz.func28, Tryz.ntmps28
  go_wp2_with fail
  refine (HN.out _ hs).mono ?_
  rintro e w1 ⟨rfl, hs1, hg1⟩
  rw [HV.out]
  go_wp2_with fail
  go_ret
  exact ⟨ys HD.out.symm, hs1, hg1⟩
 have HD : Hid (decide (qx L k n = 0) = false) := by show _ = _; rw [HV.out]; simpa using h0
 have h0b : (v == 0) = false := by simpa using h0
 clear hv
 go_enter Tryz.func28, Tryz.ntmps28
 go_wp2_with fail
 refine (HN.out _ hs).mono ?_
 rintro e w1 ⟨rfl, hs1, hg1⟩
 rw [HV.out]
 go_wp2_with fail
 go_ret
 exact ⟨ys HD.out.symm, hs1, hg1⟩
def jbe (L : List Int) (k : Nat) (low high : Int) : Int := low + qx L k (high - low + 1)
theorem jip (L : List Int) (k : Nat) {low high : Int} (h : low ≤ high) : low ≤ jbe L k low high ∧ jbe L k low high ≤ high := by
 have := zu L k (n := high - low + 1) (by omega)
 unfold jbe
 omega
def jls (base b : Nat) (L : List Int) (k : Nat) (low high : Int) (w : World) (e : Ending) (w' : World) : Prop :=
 e = .returned (.int .i64 (jbe L k low high)) ∧ SX base w' b L (k + 1) ∧ w.grownBy w' (some b)
set_option maxHeartbeats 400000 in
theorem juc (base b : Nat) (L : List Int) (k : Nat) (low high : Int) (w : World) (hs : SX base w b L k) (hk : k ≤ 1000000000000) (h1 : -1152921504606846976 ≤ low) (h2 : low ≤ high) (h3 : high ≤ 1152921504606846976) :
 Calls Tryz.prog 30 #[.pointer (some ⟨b, 0, none⟩), .int .i64 low, .int .i64 high] w (jls base b L k low high w) := by
 have HN := Lib.hid (fun W (h : SX base W b L k) => jil base b L k (high - low + 1) W h hk (by omega) (by omega))
 have hbd := zu L k (n := high - low + 1) (by omega)
 obtain ⟨v, hv⟩ : ∃ v, qx L k (high - low + 1) = v := ⟨_, rfl⟩
 have HV := Lib.hid hv
 have HR : Hid (jbe L k low high = low + v) := by show _ = _; unfold jbe; rw [hv]
 rw [hv] at hbd
 clear hv
 go_enter Tryz.func30, Tryz.ntmps30
 go_wp2_with fail
 refine (HN.out _ hs).mono ?_
 rintro e w1 ⟨rfl, hs1, hg1⟩
 rw [HV.out]
 go_wp2_with fail
 go_ret
 exact ⟨ji HR.out.symm, hs1, hg1⟩
def zm (L : List Int) (k : Nat) (xs : List Int) : Int := xs.getD (qx L k (xs.length : Int)).toNat 0
theorem jin (L : List Int) (k : Nat) {xs : List Int} (h : 0 < xs.length) : zm L k xs ∈ xs := by
 have := zu L k (n := (xs.length : Int)) (by omega)
 unfold zm
 rw [List.getD_eq_getElem?_getD, List.getElem?_eq_getElem (by omega)]
 exact List.getElem_mem _
def jhu (base b : Nat) (L : List Int) (k : Nat) (xs : List Int) (w : World) (e : Ending) (w' : World) : Prop :=
 e = .returned (.int .i64 (zm L k xs)) ∧ SX base w' b L (k + 1) ∧ w.grownBy w' (some b)
set_option maxHeartbeats 400000 in
theorem jst (base b : Nat) (L : List Int) (k g m c : Nat) (xs : List Int) (w : World) (hs : SX base w b L k) (hk : k ≤ 1000000000000) (hg : Blk w g 3 (xs.map (Value.int .i64)).toArray) (hne : g ≠ b) (hm : m = xs.length) (h1 : 1 ≤ m) (h2 : m ≤ 1000) :
 Calls Tryz.prog 27 #[.pointer (some ⟨b, 0, none⟩), .slice (some ⟨g, 0, none⟩) m c] w (jhu base b L k xs w) := by
 subst hm
 have HN := Lib.hid (fun W (h : SX base W b L k) => jil base b L k (xs.length : Int) W h hk (by omega) (by omega))
 have hbd := zu L k (n := (xs.length : Int)) (by omega)
 obtain ⟨v, hv⟩ : ∃ v, qx L k (xs.length : Int) = v := ⟨_, rfl⟩
 rw [hv] at hbd
 obtain ⟨hv0, hv1⟩ := hbd
 obtain ⟨i, rfl⟩ := Int.eq_ofNat_of_zero_le hv0
 have HV := Lib.hid hv
 have hi : i < xs.length := by omega
 obtain ⟨z, hz⟩ : ∃ z, xs[i] = z := ⟨_, rfl⟩
 have HR : Hid (zm L k xs = z) := by
  show _ = _
  unfold zm
  rw [hv, List.getD_eq_getElem?_getD, Int.toNat_natCast, List.getElem?_eq_getElem hi]
  exact hz
 have HC : Hid (∀ W : World, w.grownBy W (some b) → W.cell? ⟨g, i, none⟩ = some (.int .i64 z)) := fun W hW => by
  rw [(hg.grown hW (by simpa using hne)).cell i, jod hi, hz]
 clear hv hz
 generalize hM : xs.length = M at *
 have HMM := Lib.hid hM
 clear hM
 go_enter Tryz.func27, Tryz.ntmps27
 go_wp2_with fail
 refine (HN.out _ hs).mono ?_
 rintro e w1 ⟨rfl, hs1, hg1⟩
 have hc := HC.out _ hg1
 rw [HV.out]
 go_wp2_with fail
 go_ret
 exact ⟨ji HR.out.symm, hs1, hg1⟩
theorem jrz (base b : Nat) (L : List Int) (k g m c : Nat) (xs : List Int) (w : World) (hs : SX base w b L k) (hg : g = w.heap.size) (hk : k ≤ 1000000000000) (hm : m = xs.length) (h1 : 1 ≤ m) (h2 : m ≤ 1000) :
 Calls Tryz.prog 27 #[.pointer (some ⟨b, 0, none⟩), .slice (some ⟨g, 0, none⟩) m c] (w.alloc (.cells (xs.map (Value.int .i64)).toArray 3)) (jhu base b L k xs w) := by
 subst hg
 exact (jst base b L k _ m c xs _ (hs.alloc _) hk (Blk.new _ _ _) (by have := hs.lt; omega) hm h1 h2).mono fun e w' ⟨he, hs', hg⟩ =>
  ⟨he, hs', ja (World.grownBy_alloc w _ _) hg⟩
def jcg (L : List Int) (k : Nat) (xs : List ByteArray) : ByteArray := xs.getD (qx L k (xs.length : Int)).toNat default
theorem je9 (L : List Int) (k : Nat) {xs : List ByteArray} (h : 0 < xs.length) : jcg L k xs ∈ xs := by
 have := zu L k (n := (xs.length : Int)) (by omega)
 unfold jcg
 rw [List.getD_eq_getElem?_getD, List.getElem?_eq_getElem (by omega)]
 exact List.getElem_mem _
def jhw (base b : Nat) (L : List Int) (k : Nat) (xs : List ByteArray) (w : World) (e : Ending) (w' : World) : Prop :=
 e = .returned (.string (jcg L k xs)) ∧ SX base w' b L (k + 1) ∧ w.grownBy w' (some b)
set_option maxHeartbeats 400000 in
theorem jsw (base b : Nat) (L : List Int) (k g m c : Nat) (xs : List ByteArray) (w : World) (hs : SX base w b L k) (hk : k ≤ 1000000000000) (hg : Blk w g 9 (xs.map Value.string).toArray) (hne : g ≠ b) (hm : m = xs.length) (h1 : 1 ≤ m) (h2 : m ≤ 1000) :
 Calls Tryz.prog 31 #[.pointer (some ⟨b, 0, none⟩), .slice (some ⟨g, 0, none⟩) m c] w (jhw base b L k xs w) := by
 subst hm
 have HN := Lib.hid (fun W (h : SX base W b L k) => jil base b L k (xs.length : Int) W h hk (by omega) (by omega))
 have hbd := zu L k (n := (xs.length : Int)) (by omega)
 obtain ⟨v, hv⟩ : ∃ v, qx L k (xs.length : Int) = v := ⟨_, rfl⟩
 rw [hv] at hbd
 obtain ⟨hv0, hv1⟩ := hbd
 obtain ⟨i, rfl⟩ := Int.eq_ofNat_of_zero_le hv0
 have HV := Lib.hid hv
 have hi : i < xs.length := by omega
 obtain ⟨z, hz⟩ : ∃ z, xs[i] = z := ⟨_, rfl⟩
 have HR : Hid (jcg L k xs = z) := by
  show _ = _
  unfold jcg
  rw [hv, List.getD_eq_getElem?_getD, Int.toNat_natCast, List.getElem?_eq_getElem hi]
  exact hz
 have HC : Hid (∀ W : World, w.grownBy W (some b) → W.cell? ⟨g, i, none⟩ = some (.string z)) := fun W hW => by
  rw [(hg.grown hW (by simpa using hne)).cell i, jof hi, hz]
 clear hv hz
 generalize hM : xs.length = M at *
 have HMM := Lib.hid hM
 clear hM
 go_enter Tryz.func31, Tryz.ntmps31
 go_wp2_with fail
 refine (HN.out _ hs).mono ?_
 rintro e w1 ⟨rfl, hs1, hg1⟩
 have hc := HC.out _ hg1
 rw [HV.out]
 go_wp2_with fail
 go_ret
 exact ⟨by rw [HR.out]; rfl, hs1, hg1⟩
theorem jsc (base b : Nat) (L : List Int) (k g m c : Nat) (xs : List ByteArray) (w : World) (hs : SX base w b L k) (hg : g = w.heap.size) (hk : k ≤ 1000000000000) (hm : m = xs.length) (h1 : 1 ≤ m) (h2 : m ≤ 1000) :
 Calls Tryz.prog 31 #[.pointer (some ⟨b, 0, none⟩), .slice (some ⟨g, 0, none⟩) m c] (w.alloc (.cells (xs.map Value.string).toArray 9)) (jhw base b L k xs w) := by
 subst hg
 exact (jsw base b L k _ m c xs _ (hs.alloc _) hk (Blk.new _ _ _) (by have := hs.lt; omega) hm h1 h2).mono fun e w' ⟨he, hs', hg⟩ =>
  ⟨he, hs', ja (World.grownBy_alloc w _ _) hg⟩
/-! ### The same with the value under a name, the equation hidden. -/
def jnf (base b : Nat) (L : List Int) (k : Nat) (n : Int) (w : World) (e : Ending) (w' : World) : Prop :=
 ∃ v : Int, 0 ≤ v ∧ v < n ∧ Hid (qx L k n = v) ∧ e = .returned (.int .i64 v) ∧ SX base w' b L (k + 1) ∧ w.grownBy w' (some b)
theorem jf7 (base b : Nat) (L : List Int) (k : Nat) (n : Int) (w : World) (hs : SX base w b L k) (hk : k ≤ 1000000000000) (h1 : 1 ≤ n) (h2 : n ≤ 4611686018427387904) :
 Calls Tryz.prog 72 #[.pointer (some ⟨b, 0, none⟩), .int .i64 n] w (jnf base b L k n w) :=
 (jil base b L k n w hs hk h1 h2).mono fun e w' ⟨he, hs', hg⟩ => ⟨_, (zu L k h1).1, (zu L k h1).2, (rfl : _ = _), he, hs', hg⟩
def jnd (base b : Nat) (L : List Int) (k : Nat) (n : Int) (w : World) (e : Ending) (w' : World) : Prop :=
 ∃ v : Bool, Hid (decide (qx L k n = 0) = v) ∧ e = .returned (.bool v) ∧ SX base w' b L (k + 1) ∧ w.grownBy w' (some b)
theorem jac (base b : Nat) (L : List Int) (k : Nat) (n : Int) (w : World) (hs : SX base w b L k) (hk : k ≤ 1000000000000) (h1 : 1 ≤ n) (h2 : n ≤ 4611686018427387904) :
 Calls Tryz.prog 28 #[.pointer (some ⟨b, 0, none⟩), .int .i64 n] w (jnd base b L k n w) :=
 (jvn base b L k n w hs hk h1 h2).mono fun e w' ⟨he, hs', hg⟩ => ⟨_, (rfl : _ = _), he, hs', hg⟩
def jlr (base b : Nat) (L : List Int) (k : Nat) (low high : Int) (w : World) (e : Ending) (w' : World) : Prop :=
 ∃ v : Int, low ≤ v ∧ v ≤ high ∧ Hid (jbe L k low high = v) ∧ e = .returned (.int .i64 v) ∧ SX base w' b L (k + 1) ∧ w.grownBy w' (some b)
theorem jat (base b : Nat) (L : List Int) (k : Nat) (low high : Int) (w : World) (hs : SX base w b L k) (hk : k ≤ 1000000000000) (h1 : -1152921504606846976 ≤ low) (h2 : low ≤ high) (h3 : high ≤ 1152921504606846976) :
 Calls Tryz.prog 30 #[.pointer (some ⟨b, 0, none⟩), .int .i64 low, .int .i64 high] w (jlr base b L k low high w) :=
 (juc base b L k low high w hs hk h1 h2 h3).mono fun e w' ⟨he, hs', hg⟩ => ⟨_, (jip L k h2).1, (jip L k h2).2, (rfl : _ = _), he, hs', hg⟩
def jht (base b : Nat) (L : List Int) (k : Nat) (xs : List Int) (w : World) (e : Ending) (w' : World) : Prop :=
 ∃ v : Int, v ∈ xs ∧ Hid (zm L k xs = v) ∧ e = .returned (.int .i64 v) ∧ SX base w' b L (k + 1) ∧ w.grownBy w' (some b)
theorem jae (base b : Nat) (L : List Int) (k g m c : Nat) (xs : List Int) (w : World) (hs : SX base w b L k) (hk : k ≤ 1000000000000) (hg : Blk w g 3 (xs.map (Value.int .i64)).toArray) (hne : g ≠ b) (hm : m = xs.length) (h1 : 1 ≤ m) (h2 : m ≤ 1000) :
 Calls Tryz.prog 27 #[.pointer (some ⟨b, 0, none⟩), .slice (some ⟨g, 0, none⟩) m c] w (jht base b L k xs w) :=
 (jst base b L k g m c xs w hs hk hg hne hm h1 h2).mono fun e w' ⟨he, hs', hg⟩ => ⟨_, jin L k (by omega), (rfl : _ = _), he, hs', hg⟩
theorem jbp (base b : Nat) (L : List Int) (k g m c : Nat) (xs : List Int) (w : World) (hs : SX base w b L k) (hg : g = w.heap.size) (hk : k ≤ 1000000000000) (hm : m = xs.length) (h1 : 1 ≤ m) (h2 : m ≤ 1000) :
 Calls Tryz.prog 27 #[.pointer (some ⟨b, 0, none⟩), .slice (some ⟨g, 0, none⟩) m c] (w.alloc (.cells (xs.map (Value.int .i64)).toArray 3)) (jht base b L k xs w) :=
 (jrz base b L k g m c xs w hs hg hk hm h1 h2).mono fun e w' ⟨he, hs', hg⟩ => ⟨_, jin L k (by omega), (rfl : _ = _), he, hs', hg⟩
def jhv (base b : Nat) (L : List Int) (k : Nat) (xs : List ByteArray) (w : World) (e : Ending) (w' : World) : Prop :=
 ∃ v : ByteArray, v ∈ xs ∧ Hid (jcg L k xs = v) ∧ e = .returned (.string v) ∧ SX base w' b L (k + 1) ∧ w.grownBy w' (some b)
theorem jsv (base b : Nat) (L : List Int) (k g m c : Nat) (xs : List ByteArray) (w : World) (hs : SX base w b L k) (hk : k ≤ 1000000000000) (hg : Blk w g 9 (xs.map Value.string).toArray) (hne : g ≠ b) (hm : m = xs.length) (h1 : 1 ≤ m) (h2 : m ≤ 1000) :
 Calls Tryz.prog 31 #[.pointer (some ⟨b, 0, none⟩), .slice (some ⟨g, 0, none⟩) m c] w (jhv base b L k xs w) :=
 (jsw base b L k g m c xs w hs hk hg hne hm h1 h2).mono fun e w' ⟨he, hs', hg⟩ => ⟨_, je9 L k (by omega), (rfl : _ = _), he, hs', hg⟩
theorem jd5 (base b : Nat) (L : List Int) (k g m c : Nat) (xs : List ByteArray) (w : World) (hs : SX base w b L k) (hg : g = w.heap.size) (hk : k ≤ 1000000000000) (hm : m = xs.length) (h1 : 1 ≤ m) (h2 : m ≤ 1000) :
 Calls Tryz.prog 31 #[.pointer (some ⟨b, 0, none⟩), .slice (some ⟨g, 0, none⟩) m c] (w.alloc (.cells (xs.map Value.string).toArray 9)) (jhv base b L k xs w) :=
 (jsc base b L k g m c xs w hs hg hk hm h1 h2).mono fun e w' ⟨he, hs', hg⟩ => ⟨_, je9 L k (by omega), (rfl : _ = _), he, hs', hg⟩
def InX (w : World) (A : Option Addr) (n : Nat) : Prop :=
 n ≤ 9223372036854775807 ∧ ∃ L : List Int, L.length = n ∧ (0 < n → ∃ ad, A = some ad ∧ ad.block < w.heap.size ∧ ∀ j, j < n → w.cell? (ad.add j) = some (.int .i64 (L.getD j 0)))
theorem SX.start {w w' : World} {A : Option Addr} {n c b : Nat} {L : List Int} (hn : n ≤ 9223372036854775807) (hL : L.length = n) (h : 0 < n → ∃ ad, A = some ad ∧ ad.block < w.heap.size ∧ ∀ j, j < n → w.cell? (ad.add j) = some (.int .i64 (L.getD j 0)))
 (hg : w.grownBy w' none) (hb : Blk w' b 25 #[.slice A n c, .int .i64 0]) (hbs : w.heap.size ≤ b) : SX w.heap.size w' b L 0 := by
 subst hL
 refine ⟨A, c, hb, hbs, hn, fun h0 => ?_⟩
 obtain ⟨ad, e, hlt, hc⟩ := h h0
 exact ⟨ad, e, hlt, fun j hj => (World.cell?_of_block (hg.block _ (by rw [xd]; exact hlt) (by simp))).trans (hc j hj)⟩
theorem js8 (K s : ByteArray) (a b c d : Int) (x : Nat) (w : World) (hx : w.cell? ⟨x, 0, none⟩ = some (.string s)) :
 Calls Tryz.prog 75 #[.agg #[.string K, .int .i64 a, .int .i64 b, .int .i64 c, .int .i64 d], .pointer (some ⟨x, 0, none⟩)] w fun r w' => r = .returned (.bool (decide (K = s))) ∧ w.grownBy w' none := by
 have hlx : x < w.heap.size := World.block_lt_of_cell? w _ hx
 have hB := (Blk.new w 139 #[.string K, .int .i64 a, .int .i64 b, .int .i64 c, .int .i64 d]).cell 0
 simp only [List.getElem?_toArray, List.getElem?_cons_zero] at hB
 obtain ⟨B, hB2⟩ : ∃ B, (K.toList == s.toList) = B := ⟨_, rfl⟩
 have HBX : Hid (decide (K = s) = B) := by
  show _ = _
  rw [← hB2]
  by_cases h : K = s
  ·rw [h]; simp
  have : ¬ K.toList = s.toList := fun e => h (by
   have h1 : K.data.toList = s.data.toList := by rw [← Lib.toList_data, ← Lib.toList_data]; exact e
   have h2 : K.data = s.data := Array.ext' h1
   cases K; cases s; simp_all)
  rw [decide_eq_false h]
  symm
  rw [beq_eq_false_iff_ne]
  exact this
 go_enter Tryz.func75, Tryz.ntmps75
 go_wp2_with fail
 go_ret
 exact ⟨ys HBX.out.symm, World.grownBy_alloc w _ _⟩
def ja0 (l : List Ent) (s : ByteArray) : Bool := l.any fun e => decide (e.key = s)
def jvb (l : List Ent) (s : ByteArray) (w : World) (e : Ending) (w' : World) : Prop := ∃ i : Int, e = .returned (.int .i64 i) ∧ (i = -1 ∧ ja0 l s = false ∨ 0 ≤ i ∧ ja0 l s = true) ∧ w.grownBy w' none
set_option maxRecDepth 100000 in
set_option maxHeartbeats 2000000 in
theorem jrm (base x : Nat) (v : Value) (l : List Ent) (s : ByteArray) (w : World) (hl : EntsFrom base w v l) (hbig : l.length ≤ 1000) (hx : w.cell? ⟨x, 0, none⟩ = some (.string s)) :
 Calls Tryz.prog 128 #[v, .func (.func 75) #[] #[.pointer (some ⟨x, 0, none⟩)]] w (jvb l s w) := by
 obtain ⟨A, c, rfl, hlen, hA⟩ := hl.shape
 have HL := Lib.hid hl
 have HA := Lib.hid hA
 have HX : Hid (∀ W, w.grownBy W none → W.cell? ⟨x, 0, none⟩ = some (.string s)) := fun W h => h.cell hx (by simp)
 clear hl hA hx
 go_enter Tryz.func128, Tryz.ntmps128
 go_wp2_with fail
 go_loopw [8] (fun i wr => ∃ k : Nat, k ≤ l.length ∧ i = .int .i64 k ∧ Hid (ja0 (l.take k) s = false) ∧ w.grownBy wr none) (fun i _ => l.length - (intOf i).toNat)
 case atStart => exact ⟨0, by omega, rfl, by show List.any (List.take 0 l) _ = _; simp, jf _ _⟩
 case round =>
  obtain ⟨k, hk, rfl, HN, hg⟩ := hrel
  by_cases hlt : k < l.length
  ·obtain ⟨g, rfl, _, hgl⟩ := HA.out (by omega)
   obtain ⟨q0, q1, q2, q3, q4⟩ := (HL.out.grown hg).at_ k hlt
   have hkl : (k : Int) < (l.length : Int) := by omega
   have htk : ja0 (l.take (k + 1)) s = (ja0 (l.take k) s || decide (l[k].key = s)) := by
    unfold ja0
    rw [List.take_succ_eq_append_getElem hlt, List.any_append]; simp
   have hyes : l[k].key = s → ja0 l s = true := fun h => List.any_eq_true.2 ⟨l[k], List.getElem_mem hlt, by simpa using h⟩
   rw [HN.out] at htk
   have HC := Lib.hid (fun W hW => js8 l[k].key s l[k].cont l[k].zone l[k].a l[k].z x W (HX.out W hW))
   generalize l[k].key = K at *
   generalize l[k].cont = C at *
   generalize l[k].zone = Z at *
   generalize l[k].a = ea at *
   generalize l[k].z = ez at *
   by_cases hd : K = s
   ·have HY := Lib.hid (hyes hd)
    have hdd : Hid (decide (K = s) = true) := by show _ = _; simpa using hd
    clear htk hyes hd
    go_wp2_with fail
    refine (HC.out _ hg).mono ?_
    rintro _ w1 ⟨rfl, hg1⟩
    rw [hdd.out]
    go_wp2_with fail
    go_ret
    exact ⟨k, rfl, .inr ⟨by omega, HY.out⟩, ja hg hg1⟩
   have hdd : Hid (decide (K = s) = false) := by show _ = _; simpa using hd
   have HN2 : Hid (ja0 (l.take (k + 1)) s = false) := by show _ = _; rw [htk, hdd.out]; rfl
   clear htk hyes hd
   go_wp2_with fail
   refine (HC.out _ hg).mono ?_
   rintro _ w1 ⟨rfl, hg1⟩
   rw [hdd.out]
   go_wp2_with fail
   go_roundw
   case rel => exact ⟨k + 1, by omega, by go_num, HN2, ja hg hg1⟩
   case measure => simp [intOf]; omega
  have hkl : ¬ (k : Int) < (l.length : Int) := by omega
  have HN3 : Hid (ja0 l s = false) := by
   show _ = _
   have := HN.out
   rwa [List.take_of_length_le (by omega)] at this
  go_wp2_with fail
  go_ret
  exact ⟨-1, rfl, .inl ⟨rfl, HN3.out⟩, hg⟩
theorem jl7 (base x : Nat) (v : Value) (l : List Ent) (s : ByteArray) (w : World) (hl : EntsFrom base w v l) (hbig : l.length ≤ 1000) (hx : w.cell? ⟨x, 0, none⟩ = some (.string s)) :
 Calls Tryz.prog 74 #[v, .func (.func 75) #[] #[.pointer (some ⟨x, 0, none⟩)]] w fun r w' => r = .returned (.bool (ja0 l s)) ∧ w.grownBy w' none := by
 have HI := Lib.hid (jrm base x v l s w hl hbig hx)
 clear hl hx
 go_enter Tryz.func74, Tryz.ntmps74
 go_wp2_with fail
 refine HI.out.mono ?_
 rintro _ w1 ⟨i, rfl, hi, hg⟩
 rcases hi with ⟨rfl, h⟩ | ⟨h0, h⟩
 ·have H := Lib.hid h
  clear h
  go_wp2_with fail
  go_ret
  exact ⟨ys (by rw [H.out]), hg⟩
 have H := Lib.hid h
 clear h
 go_wp2_with fail
 go_ret
 exact ⟨ys (by rw [H.out]), hg⟩
def spA (L : List Int) (k : Nat) : Int := zm L k [0, 0, 0, 100]
def spZ (L : List Int) (k : Nat) : Int := zm L k [345686400000, 345686400000, 345686400000, 200, 300]
def jni (base b : Nat) (L : List Int) (k : Nat) (w : World) (e : Ending) (w' : World) : Prop :=
 ∃ a z : Int, e = .returned (.agg #[.int .i64 a, .int .i64 z]) ∧ Hid (spA L k = a) ∧ Hid (spZ L (k + 1) = z) ∧ 0 ≤ a ∧ a ≤ 100 ∧ 200 ≤ z ∧ z ≤ 345686400000 ∧ SX base w' b L (k + 1 + 1) ∧ w.grownBy w' (some b)
set_option maxRecDepth 100000 in
set_option maxHeartbeats 1000000 in
theorem qi (base b : Nat) (L : List Int) (k : Nat) (w : World) (hs : SX base w b L k) (hk : k ≤ 10000000000) :
 Calls Tryz.prog 73 #[.pointer (some ⟨b, 0, none⟩)] w (jni base b L k w) := by
 have hbs := hs.lt
 have hbb := hs.base
 have hs0 := hs.alloc (.cells #[.int .i64 0, .int .i64 0] 29)
 have hr0 := Blk.new w 29 #[.int .i64 0, .int .i64 0]
 have hG0 := World.grownBy_alloc w (.cells #[.int .i64 0, .int .i64 0] 29) (some b)
 obtain ⟨R, hR⟩ : ∃ r, w.heap.size = r := ⟨_, rfl⟩
 have HR := Lib.hid hR
 clear hR
 go_enter Tryz.func73, Tryz.ntmps73
 go_upto_region 1 with fail
 generalize w.alloc (.cells #[.int .i64 0, .int .i64 0] 29) = W0 at *
 rw [HR.out] at hr0 hbs
 (try rw [HR.out])
 go_wp2_with fail
 refine (jbp base b L k _ 4 4 [0, 0, 0, 100] _ hs0 rfl (by omega) rfl (by decide) (by decide)).mono ?_
 rintro e w1 ⟨a, ha, HA, rfl, hs1, hg1⟩
 have hab : 0 ≤ a ∧ a ≤ 100 := by simp at ha; omega
 have hr1 := hr0.grown hg1 (by simp; omega)
 have hG1 := ja hG0 hg1
 clear ha hs0 hr0 hG0 hg1
 go_wp2_with fail
 refine (jbp base b L _ _ 5 5 [345686400000, 345686400000, 345686400000, 200, 300] _ hs1 rfl (by omega) rfl (by decide) (by decide)).mono ?_
 rintro e w2 ⟨z, hz, HZ, rfl, hs2, hg2⟩
 have hzb : 200 ≤ z ∧ z ≤ 345686400000 := by simp at hz; omega
 have hr2 := hr1.grown hg2 (by simp; omega)
 have hG2 := ja hG1 hg2
 clear hz hs1 hr1 hG1 hg2
 obtain ⟨x0, x1⟩ := hr2.cells2
 have hf := hr2.free
 go_wp2_with fail
 obtain ⟨e0, e1⟩ := (hr2.put01 (.int .i64 a) (.int .i64 z)).cells2
 refine bodyPost_ret (v := .agg #[.int .i64 a, .int .i64 z]) (by simp [results, Tryz.results73, go_sem, e0, e1]) rfl ?_
 have hw := HR.out
 exact ⟨a, z, rfl, HA, HZ, by omega, by omega, by omega, by omega, (hs2.grown (jg (p := ⟨R, 0, none⟩) (jf _ (some R)) (.inl rfl) (.int .i64 a)) (fun g e => by injection e with e; omega)).grown (jg (p := ⟨R, 1, none⟩) (jf _ (some R)) (.inl rfl) (.int .i64 z)) (fun g e => by injection e with e; omega), jg (p := ⟨R, 1, none⟩) (jg (p := ⟨R, 0, none⟩) hG2 (.inr (by show _ ≤ R; omega)) (.int .i64 a)) (.inr (by show _ ≤ R; omega)) (.int .i64 z)⟩
def nmL : List ByteArray := [⟨#[97, 108, 97, 110, 100]⟩, ⟨#[101, 110, 103, 108, 97, 110, 100]⟩, ⟨#[102, 105, 110, 108, 97, 110, 100]⟩, ⟨#[115, 119, 97, 122, 105]⟩, ⟨#[117, 115, 97]⟩]
def jn3 (i : Nat) : ByteArray := nmL.getD i default
def jq8 (i : Nat) : Int := [4, 4, 4, 1, 5].getD i 0
def jra (i : Nat) : Int := [15, 14, 15, 38, 5].getD i 0
def rtE (L : List Int) (k : Nat) : Nat → List Ent × Nat
 | 0 => ([], k)
 | i + 1 => if decide (qx L (rtE L k i).2 8 = 0) then ((rtE L k i).1, (rtE L k i).2 + 1)
   else ((rtE L k i).1 ++ [⟨jn3 i, jq8 i, jra i, spA L ((rtE L k i).2 + 1), spZ L ((rtE L k i).2 + 1 + 1)⟩], (rtE L k i).2 + 1 + 1 + 1)
theorem jv5 {L : List Int} {k i P : Nat} {l : List Ent} (h : rtE L k i = (l, P)) (hF : decide (qx L P 8 = 0) = true) : rtE L k (i + 1) = (l, P + 1) := by
 unfold rtE; simp only [h, hF, if_true]
theorem jug {L : List Int} {k i P : Nat} {l : List Ent} {a z : Int} (h : rtE L k i = (l, P)) (hF : decide (qx L P 8 = 0) = false) (ha : spA L (P + 1) = a) (hz : spZ L (P + 1 + 1) = z) : rtE L k (i + 1) = (l ++ [⟨jn3 i, jq8 i, jra i, a, z⟩], P + 1 + 1 + 1) := by
 unfold rtE; simp only [h, hF, ha, hz]; rfl
def jwe : Ent := ⟨⟨#[117, 115, 97]⟩, 5, 5, 0, 345686400000⟩
def jcj (j : Nat) : ByteArray := [⟨#[51, 100]⟩, ⟨#[51, 100, 97]⟩, ⟨#[100, 108]⟩, ⟨#[103]⟩, ⟨#[107]⟩, ⟨#[107, 49]⟩, ⟨#[107, 49, 97, 98]⟩, ⟨#[107, 52]⟩, ⟨#[111, 104]⟩, ⟨#[111, 104, 48]⟩, ⟨#[111, 104, 50]⟩, ⟨#[119]⟩].getD j (⟨#[]⟩ : ByteArray)
def ju6 (j : Nat) : ByteArray := [⟨#[115, 119, 97, 122, 105]⟩, ⟨#[115, 119, 97, 122, 105]⟩, ⟨#[101, 110, 103, 108, 97, 110, 100]⟩, ⟨#[101, 110, 103, 108, 97, 110, 100]⟩, ⟨#[117, 115, 97]⟩, ⟨#[117, 115, 97]⟩, ⟨#[117, 115, 97]⟩, ⟨#[117, 115, 97]⟩, ⟨#[102, 105, 110, 108, 97, 110, 100]⟩, ⟨#[102, 105, 110, 108, 97, 110, 100]⟩, ⟨#[102, 105, 110, 108, 97, 110, 100]⟩, ⟨#[117, 115, 97]⟩].getD j (⟨#[]⟩ : ByteArray)
def jjx (l : List Ent) (i : Nat) : ByteArray := match l[i]? with | none => ⟨#[]⟩ | some e => e.key
theorem jg2 (l : List Ent) (i : Nat) (h : i < l.length) : jjx l i = l[i].key := by unfold jjx; rw [List.getElem?_eq_getElem h]
def jdl (L : List Int) (l : List Ent) (j P : Nat) : ByteArray :=
 if decide (qx L (P + 1 + 1) 2 = 0) then ju6 j else jjx l (qx L (P + 1) (l.length : Int)).toNat
def jh6 (l : List Ent) (e : ByteArray) : ByteArray := if ja0 l e then e else jjx l 0
def rtR (L : List Int) (l : List Ent) (j P : Nat) : List Pfx × Nat :=
 if decide (qx L P 4 = 0) then ([], P + 1)
 else if decide (qx L (P + 6) 5 = 0) then
  ([⟨jcj j, jh6 l (jdl L l j P), min (spA L (P + 3)) 100, 150, false, zm L (P + 5) [0, 0, 3]⟩,
    ⟨jcj j, jjx l (qx L (P + 9) (l.length : Int)).toNat, zm L (P + 7) [150, 160], zm L (P + 8) [250, 345686400000], false, zm L (P + 5) [0, 0, 3]⟩], P + 10)
 else ([⟨jcj j, jh6 l (jdl L l j P), spA L (P + 3), spZ L (P + 4), false, zm L (P + 5) [0, 0, 3]⟩], P + 7)
def rtP (L : List Int) (l : List Ent) (k : Nat) : Nat → List Pfx × Nat
 | 0 => ([], k)
 | j + 1 => ((rtP L l k j).1 ++ (rtR L l j (rtP L l k j).2).1, (rtR L l j (rtP L l k j).2).2)
theorem jlg {L : List Int} {l : List Ent} {k j P P' : Nat} {p r : List Pfx} (h : rtP L l k j = (p, P)) (hr : rtR L l j P = (r, P')) : rtP L l k (j + 1) = (p ++ r, P') := by
 unfold rtP; simp only [h, hr]
def k1ab : ByteArray := ⟨#[107, 49, 97, 98]⟩
def yl (p : List Pfx) (i : Nat) : ByteArray := match p[i]? with | none => ⟨#[]⟩ | some x => x.beg
def jea (p : List Pfx) (i : Nat) : Bool := decide (yl p i = k1ab) && ((decide (i = 0) || !decide (yl p (i - 1) = k1ab)) && (decide (i + 1 = p.length) || !decide (yl p (i + 1) = k1ab)))
def ji8 (x : Pfx) : Pfx := ⟨x.beg, x.ent, x.a, x.z, true, x.zone⟩
def rtW (p : List Pfx) : Nat → List Pfx
 | 0 => p
 | i + 1 => match p[i]? with
   | none => rtW p i
   | some x => if jea p i && !x.whole then (rtW p i).set i (ji8 x) else rtW p i
def jfn (L : List Int) (k : Nat) : List Ent × List Pfx × Nat :=
 let r := rtE L k 5
 let l := if r.1.length = 0 then r.1 ++ [jwe] else r.1
 let q := rtP L l r.2 12
 if decide (qx L q.2 3 = 0) then (l, rtW q.1 q.1.length, q.2 + 1) else (l, q.1, q.2 + 1)
theorem InX.of_row {w : World} {a : Option Addr} {len cap : Nat} {zs : List Int} (h : jqa .i64 w a len cap zs) : InX w a len := by
 rcases h with ⟨_, rfl, _, _⟩ | ⟨x, rfl, h1, h2, h3, h4, _⟩
 ·exact ⟨by omega, [], rfl, fun h => absurd h (by omega)⟩
 unfold maxLen at h2
 refine ⟨by omega, zs.take len, by simp; omega, fun hn => ⟨x, rfl, ?_, fun j hj => ?_⟩⟩
 ·have := World.block_lt_of_cell? w _ (h4 0 (by omega))
  rwa [xd] at this
 rw [h4 j (by omega), List.getD_eq_getElem?_getD, List.getD_eq_getElem?_getD, List.getElem?_take_of_lt hj]
theorem jas {w w' : World} {base B : Nat} {e : TypeId} {s : Nat} {v : Value} {n : Nat} {xs : List Value} (h : w.ownsRow base e s v n xs) (hv : ∀ g, v.ownBlock = some g → g < B) {row : Option Nat} (hg : w.grownBy w' row) (hr : ∀ g, row = some g → B ≤ g) : w'.ownsRow base e s v n xs := by
 refine h.kept hg ?_
 cases hv' : v.ownBlock with
 | none => exact .inl rfl
 | some g => exact .inr fun e => by have h1 := hr g e.symm; have h2 := hv g hv'; omega
end Go.Proofs.YtbamhgaghngjiaaGreatDoor
