/- Parts of a proof: Call, IsCall. Conditions: as each statement says. -/
import Derived.Lib.AsciiSet
import Derived.Lib.IndexLaws
import Derived.Test.YtbamhgaghngjiaaGreatDoorCoac
import Derived.StillTailTactics
import Derived.Lib.UnsafeStr
import Derived.Lib.AppendStr
import Derived.Maps.OwnSet
namespace Go.Proofs.YtbamhgaghngjiaaGreatDoor
set_option linter.unusedVariables false

def dgB (c : UInt8) : Bool := decide (48 ≤ c.toNat) && decide (c.toNat ≤ 57)
def ltB (c : UInt8) : Bool := decide (97 ≤ c.toNat) && decide (c.toNat ≤ 122)
def plB (c : UInt8) : Bool := ltB c || dgB c
def qz (l : List UInt8) : Bool := l.all plB
def xn (l : List UInt8) : Nat := l.countP ltB
theorem je5 (l : List UInt8) (c : UInt8) : qz (l ++ [c]) = (qz l && plB c) := by simp [qz]
theorem jf2 (l : List UInt8) (c : UInt8) : xn (l ++ [c]) = xn l + if ltB c then 1 else 0 := by
 unfold xn; rw [List.countP_append]; cases h : ltB c <;> simp [h]
theorem jrq (l : List UInt8) : xn l ≤ l.length := List.countP_le_length
def qg (p : UInt8 → Bool) : List UInt8 → Int
 | [] => -1
 | c :: r => if 0 ≤ qg p r then qg p r + 1 else if p c then 0 else -1
theorem jk5 (p : UInt8 → Bool) (l : List UInt8) : -1 ≤ qg p l ∧ qg p l < l.length := by
 induction l with
 | nil => simp [qg]
 | cons c r ih =>
   simp only [qg, List.length_cons]
   split
   ·omega
   split <;> omega
theorem jf1 (p : UInt8 → Bool) (l : List UInt8) (h : ∀ j (hj : j < l.length), p l[j] = false) : qg p l = -1 := by
 induction l with
 | nil => rfl
 | cons c r ih =>
   have h0 := h 0 (by simp)
   have ih' := ih (fun j hj => by have := h (j + 1) (by simp; omega); simpa using this)
   simp only [List.getElem_cons_zero] at h0
   simp [qg, ih', h0]
theorem jro (p : UInt8 → Bool) (l : List UInt8) (k : Nat) (hk : k < l.length) (h0 : p l[k] = true) (h : ∀ j (hj : j < l.length), k < j → p l[j] = false) : qg p l = k := by
 induction l generalizing k with
 | nil => simp at hk
 | cons c r ih =>
   cases k with
   | zero =>
     have hr : qg p r = -1 := jf1 p r (fun j hj => by have := h (j + 1) (by simp; omega) (by omega); simpa using this)
     simp only [List.getElem_cons_zero] at h0
     simp [qg, hr, h0]
   | succ k =>
     have hr := ih k (by simpa using hk) (by simpa using h0) (fun j hj hkj => by have := h (j + 1) (by simp; omega) (by omega); simpa using this)
     simp only [qg, hr]
     rw [if_pos (by omega)]
     omega
def jp (l : List UInt8) : Int :=
 let d := qg dgB l
 if qz l = true ∧ l.length ≤ 10 ∧ 1 ≤ d ∧ d ≤ 3 ∧ 1 ≤ (l.length : Int) - d - 1 ∧ (l.length : Int) - d - 1 ≤ 4 ∧ 0 < xn (l.take d.toNat) then d else -1
def jr (l : List UInt8) : Bool := qz l && decide (0 < xn l) && decide (l.length ≤ 4)
theorem xk (l : List UInt8) : jp l = -1 ∨ (jp l = qg dgB l ∧ qz l = true ∧ l.length ≤ 10 ∧ 1 ≤ jp l ∧ jp l ≤ 3 ∧ 1 ≤ (l.length : Int) - jp l - 1 ∧ (l.length : Int) - jp l - 1 ≤ 4 ∧ 0 < xn (l.take (jp l).toNat)) := by
 by_cases h : qz l = true ∧ l.length ≤ 10 ∧ 1 ≤ qg dgB l ∧ qg dgB l ≤ 3 ∧ 1 ≤ (l.length : Int) - qg dgB l - 1 ∧ (l.length : Int) - qg dgB l - 1 ≤ 4 ∧ 0 < xn (l.take (qg dgB l).toNat)
 ·have e : jp l = qg dgB l := by unfold jp; exact if_pos h
  rw [e]
  exact .inr ⟨rfl, h⟩
 exact .inl (by unfold jp; exact if_neg h)
theorem jal (l : List UInt8) (h : ¬ (qz l = true ∧ l.length ≤ 10 ∧ 1 ≤ qg dgB l ∧ qg dgB l ≤ 3 ∧ 1 ≤ (l.length : Int) - qg dgB l - 1 ∧ (l.length : Int) - qg dgB l - 1 ≤ 4 ∧ 0 < xn (l.take (qg dgB l).toNat))) : jp l = -1 := by
 unfold jp; exact if_neg h
theorem jnn (l : List UInt8) (h : qz l = true ∧ l.length ≤ 10 ∧ 1 ≤ qg dgB l ∧ qg dgB l ≤ 3 ∧ 1 ≤ (l.length : Int) - qg dgB l - 1 ∧ (l.length : Int) - qg dgB l - 1 ≤ 4 ∧ 0 < xn (l.take (qg dgB l).toNat)) : jp l = qg dgB l := by
 unfold jp; exact if_pos h
def qk (l : List UInt8) : Int :=
 if l = [112] then 3 else if l = [109] then 4 else if l = [109, 109] then 5 else if l = [97, 109] then 6
 else if l.length = 1 ∧ l.all dgB = true then 2 else if jr l then 1 else 0
end Go.Proofs.YtbamhgaghngjiaaGreatDoor

namespace Go.Proofs.YtbamhgaghngjiaaGreatDoor
open Go.RowKit
set_option linter.unusedVariables false

theorem jn0 (c : UInt8) (b : Bool) (h : (48 ≤ c.toNat ∧ c.toNat ≤ 57) ↔ b = true) : dgB c = b := by
 unfold dgB
 cases b
 ·by_cases h1 : 48 ≤ c.toNat <;> by_cases h2 : c.toNat ≤ 57 <;> simp_all
 obtain ⟨h1, h2⟩ := h.2 rfl
 simp [h1, h2]
theorem joq (c : UInt8) (b : Bool) (h : (97 ≤ c.toNat ∧ c.toNat ≤ 122) ↔ b = true) : ltB c = b := by
 unfold ltB
 cases b
 ·by_cases h1 : 97 ≤ c.toNat <;> by_cases h2 : c.toNat ≤ 122 <;> simp_all
 obtain ⟨h1, h2⟩ := h.2 rfl
 simp [h1, h2]
set_option maxHeartbeats 400000 in
theorem jap (c : UInt8) (w : World) :
 Calls Tryz.prog 193 #[.int .u8 (c.toNat : Int)] w fun e w' => e = .returned (.bool (dgB c)) ∧ w = w' := by
 by_cases h1 : (48 : Int) ≤ (c.toNat : Int)
 ·by_cases h2 : (c.toNat : Int) ≤ 57
  ·have HE := Lib.hid (jn0 c true (by simp; omega))
   go_enter Tryz.func193, Tryz.ntmps193
   go_wp2_with fail
   go_ret
   exact ⟨ys HE.out.symm, rfl⟩
  have HE := Lib.hid (jn0 c false (by simp; omega))
  go_enter Tryz.func193, Tryz.ntmps193
  go_wp2_with fail
  go_ret
  exact ⟨ys HE.out.symm, rfl⟩
 have HE := Lib.hid (jn0 c false (by simp; omega))
 go_enter Tryz.func193, Tryz.ntmps193
 go_wp2_with fail
 go_ret
 exact ⟨ys HE.out.symm, rfl⟩
set_option maxHeartbeats 400000 in
theorem ja9 (c : UInt8) (w : World) :
 Calls Tryz.prog 214 #[.int .u8 (c.toNat : Int)] w fun e w' => e = .returned (.bool (ltB c)) ∧ w = w' := by
 by_cases h1 : (97 : Int) ≤ (c.toNat : Int)
 ·by_cases h2 : (c.toNat : Int) ≤ 122
  ·have HE := Lib.hid (joq c true (by simp; omega))
   go_enter Tryz.func214, Tryz.ntmps214
   go_wp2_with fail
   go_ret
   exact ⟨ys HE.out.symm, rfl⟩
  have HE := Lib.hid (joq c false (by simp; omega))
  go_enter Tryz.func214, Tryz.ntmps214
  go_wp2_with fail
  go_ret
  exact ⟨ys HE.out.symm, rfl⟩
 have HE := Lib.hid (joq c false (by simp; omega))
 go_enter Tryz.func214, Tryz.ntmps214
 go_wp2_with fail
 go_ret
 exact ⟨ys HE.out.symm, rfl⟩
theorem jpv (s : ByteArray) (k : Nat) (h : k < s.size) : s.data.toList.take (k + 1) = s.data.toList.take k ++ [s[k]] := by
 rw [List.take_succ_eq_append_getElem (by simpa using h)]; rfl
theorem jke (s : ByteArray) (k : Nat) (h : k < s.size) (hb : plB s[k] = false) : qz s.data.toList = false := by
 unfold qz
 rw [List.all_eq_false]
 exact ⟨s[k], by show s.data[k] ∈ _; simp, by simp [hb]⟩
def plN (l : List UInt8) : Int := if qz l then (xn l : Int) else 0
theorem jpa {a b : Int} {c d : Bool} (h : a = b) (h' : c = d) : Ending.returned (.tuple #[.int .i64 a, .bool c]) = .returned (.tuple #[.int .i64 b, .bool d]) := by rw [h, h']
set_option maxHeartbeats 1000000 in
theorem qv (s : ByteArray) (w : World) (hs : s.size ≤ 9223372036854775807) :
 Calls Tryz.prog 192 #[.string s] w fun e w' => e = .returned (.tuple #[.int .i64 (plN s.data.toList), .bool (qz s.data.toList)]) ∧ w = w' := by
 go_enter Tryz.func192, Tryz.ntmps192
 go_wp2_with fail
 go_loop [2, 7] (fun n i => ∃ k m : Nat, k ≤ s.size ∧ i = .int .i64 k ∧ n = .int .i64 m ∧ m ≤ k ∧ Hid (qz (s.data.toList.take k) = true ∧ xn (s.data.toList.take k) = m)) (fun _ i => s.size - (intOf i).toNat)
 case atStart => exact ⟨0, 0, Nat.zero_le _, rfl, rfl, Nat.le_refl _, ⟨rfl, rfl⟩⟩
 case round =>
  obtain ⟨k, m, hk, rfl, rfl, hm, HP⟩ := hrel
  by_cases hlt : k < s.size
  ·have hlt2 : (k : Int) < (s.size : Int) := by omega
   have HT := Lib.hid (jpv s k hlt)
   obtain ⟨c, hc⟩ : ∃ c, c = s[k] := ⟨_, rfl⟩
   by_cases hl : ltB c = true
   ·have HL : Hid (qz (s.data.toList.take (k + 1)) = true ∧ xn (s.data.toList.take (k + 1)) = m + 1) := by
     show _ ∧ _
     rw [HT.out, je5, jf2, HP.out.1, HP.out.2, ← hc, hl]
     simp [plB, hl]
    have HC := Lib.hid hc
    clear hc
    go_wp2_with (first | (go_at_call 214; rw [← HC.out]; refine (ja9 _ _).mono ?_; rintro _ _ ⟨rfl, rfl⟩; rw [hl]) | fail)
    go_round
    case rel => exact ⟨k + 1, m + 1, by omega, by go_num, by go_num, by omega, HL⟩
    case measure => simp [intOf]; omega
   have hl' : ltB c = false := by simpa using hl
   clear hl
   by_cases hd : dgB c = true
   ·have HL : Hid (qz (s.data.toList.take (k + 1)) = true ∧ xn (s.data.toList.take (k + 1)) = m) := by
     show _ ∧ _
     rw [HT.out, je5, jf2, HP.out.1, HP.out.2, ← hc, hl']
     simp [plB, hd]
    have HC := Lib.hid hc
    clear hc
    go_wp2_with (first | (go_at_call 214; rw [← HC.out]; refine (ja9 _ _).mono ?_; rintro _ _ ⟨rfl, rfl⟩; rw [hl']) | (go_at_call 193; rw [← HC.out]; refine (jap _ _).mono ?_; rintro _ _ ⟨rfl, rfl⟩; rw [hd]) | fail)
    go_round
    case rel => exact ⟨k + 1, m, by omega, by go_num, by go_num, by omega, HL⟩
    case measure => simp [intOf]; omega
   have hd' : dgB c = false := by simpa using hd
   have HF := Lib.hid (jke s k hlt (by rw [← hc]; simp [plB, hl', hd']))
   have HC := Lib.hid hc
   clear hc hd
   go_wp2_with (first | (go_at_call 214; rw [← HC.out]; refine (ja9 _ _).mono ?_; rintro _ _ ⟨rfl, rfl⟩; rw [hl']) | (go_at_call 193; rw [← HC.out]; refine (jap _ _).mono ?_; rintro _ _ ⟨rfl, rfl⟩; rw [hd']) | fail)
   go_ret2
   exact ⟨jpa (by unfold plN; rw [HF.out]; rfl) HF.out.symm, rfl⟩
  have hlt2 : ¬ (k : Int) < (s.size : Int) := by omega
  have HE : Hid (qz s.data.toList = true ∧ xn s.data.toList = m) := by
   have := HP.out
   rwa [List.take_of_length_le (by simp; omega)] at this
  go_wp2_with fail
  go_ret2
  exact ⟨jpa (by unfold plN; rw [HE.out.1, HE.out.2]; rfl) HE.out.1.symm, rfl⟩
set_option maxHeartbeats 400000 in
theorem zi (s : ByteArray) (w : World) (hs : s.size ≤ 9223372036854775807) :
 Calls Tryz.prog 145 #[.string s] w fun e w' => e = .returned (.bool (jr s.data.toList)) ∧ w = w' := by
 have hl : s.data.toList.length = s.size := by simp
 rcases hp : qz s.data.toList
 ·have HE : Hid (jr s.data.toList = false) := by show _ = _; simp [jr, hp]
  clear hl
  go_enter Tryz.func145, Tryz.ntmps145
  go_wp2_with (go_at_call 192; refine (qv _ _ hs).mono ?_; rintro _ _ ⟨rfl, rfl⟩)
  go_ret
  exact ⟨ys HE.out.symm, rfl⟩
 have hn : plN s.data.toList = (xn s.data.toList : Int) := by unfold plN; rw [hp]; rfl
 obtain ⟨m, hm⟩ : ∃ m, xn s.data.toList = m := ⟨_, rfl⟩
 rw [hm] at hn
 by_cases h1 : 0 < m
 ·have HE : Hid (jr s.data.toList = decide ((s.size : Int) ≤ 4)) := by
   show _ = _; unfold jr; rw [hp, hm, hl]
   by_cases h2 : s.size ≤ 4
   ·have h3 : (s.size : Int) ≤ 4 := by omega
    simp [h1, h2, h3]
   have h3 : ¬ (s.size : Int) ≤ 4 := by omega
   simp [h2, h3]
  clear hl hm
  go_enter Tryz.func145, Tryz.ntmps145
  go_wp2_with (go_at_call 192; refine (qv _ _ hs).mono ?_; rintro _ _ ⟨rfl, rfl⟩)
  go_ret
  exact ⟨ys HE.out.symm, rfl⟩
 have HE : Hid (jr s.data.toList = false) := by show _ = _; unfold jr; rw [hp, hm]; simp; omega
 clear hl hm
 go_enter Tryz.func145, Tryz.ntmps145
 go_wp2_with (go_at_call 192; refine (qv _ _ hs).mono ?_; rintro _ _ ⟨rfl, rfl⟩)
 go_ret
 exact ⟨ys HE.out.symm, rfl⟩
end Go.Proofs.YtbamhgaghngjiaaGreatDoor

namespace Go.Proofs.YtbamhgaghngjiaaGreatDoor
open Go.RowKit
set_option linter.unusedVariables false

theorem xp {P : Program} {f : FuncId} {args : Array Value} {w : World} {v : Ending} (h : Calls P f args w fun e w' => e = v ∧ w' = w) : Calls P f args w fun e w' => e = v ∧ w = w' :=
 h.mono fun _ _ ⟨he, hm⟩ => ⟨he, hm.symm⟩
def Ascii (s : ByteArray) : Prop := ∀ (j : Nat) b, s.data.toList[j]? = some b → b.toNat < 128
theorem Ascii.at_ {s : ByteArray} (h : Ascii s) (k : Nat) (hk : k < s.size) : (s[k].toNat : Int) < 128 := by
 have := h k s[k] (by rw [List.getElem?_eq_getElem (by simpa using hk)]; rfl)
 omega
set_option maxHeartbeats 400000 in
theorem jd0 (t : ByteArray) (k : Nat) (c : UInt8) (w : World) (ht : t.size ≤ 9223372036854775807) (hk : t.size = k + 1) (hc : t.data.toList[k]? = some c) (h1 : (c.toNat : Int) < 128) :
 Calls Tryz.prog 188 #[.string t] w fun e w' => e = .returned (.tuple #[.int .i32 (c.toNat : Int), .int .i64 1]) ∧ w = w' := by
 have hkt : k < t.size := by omega
 have hc' : t[k] = c := by
  rw [List.getElem?_eq_getElem (by simpa using hkt)] at hc
  injection hc
 have hz : (t.size : Int) - 1 = (k : Int) := by omega
 have h0 : ((t.size : Int) == 0) = false := by rw [beq_eq_false_iff_ne]; omega
 have hk2 : (k : Int) < (t.size : Int) := by omega
 have hk3 : (0 : Int) ≤ (k : Int) := by omega
 have HK := Lib.hid hk
 have HC := Lib.hid hc
 clear hk hc
 go_enter Tryz.func188, Tryz.ntmps188
 go_wp2_with fail
 go_ret2
 exact ⟨rfl, rfl⟩
theorem jex (p : UInt8 → Bool) (s : ByteArray) (z : Int) (h : -1 ≤ z) (H : ∀ j (hj : j < s.size), z < (j : Int) → p s[j] = false) (hz : z < 0) : qg p s.data.toList = -1 :=
 jf1 p _ (fun j hj => H j (by simpa using hj) (by omega))
theorem jif (p : UInt8 → Bool) (s : ByteArray) (k : Nat) (hk : k < s.size) (h0 : p s[k] = true) (H : ∀ j (hj : j < s.size), (k : Int) < (j : Int) → p s[j] = false) : qg p s.data.toList = (k : Int) :=
 jro p _ k (by simpa using hk) h0 (fun j hj hkj => H j (by simpa using hj) (by omega))
theorem ju1 (w : World) : (zeroValue 199).run Tryz.prog w = .ok (.agg (Array.replicate 256 (.bool false))) w := by kernel_rfl
set_option maxRecDepth 100000 in
set_option maxHeartbeats 2000000 in
theorem jj0 (s chars : ByteArray) (w : World) (hs : s.size < 4294967281) (h8 : 8 < s.size) (hc : chars.size < 4294967281) (hne : chars.toList.isEmpty = false) (hca : Ascii chars) :
 Calls Tryz.prog 206 #[.string s, .string chars] w fun e w' => e = .returned (.int .i64 (qg chars.data.toList.contains s.data.toList)) ∧ w.grownBy w' none := by
 have h8b : (8 : Int) < (s.size : Int) := by omega
 have h1 : ((s.size : Int) == 1) = false := by rw [beq_eq_false_iff_ne]; omega
 have H8 := Lib.hid h8
 have HCA := Lib.hid hca
 clear hca
 go_enter Tryz.func206, Tryz.ntmps206
 go_wp2_with fail
 refine (xp (Tryz.strings_shouldUseASCIISet _ _)).mono ?_
 rintro _ _ ⟨rfl, rfl⟩
 go_wp2_with fail
 refine (Tryz.strings_makeASCIISet ju1 chars _ hc HCA.out).mono ?_
 rintro _ w1 ⟨rfl, hw1⟩
 have hsz := Lib.setCells_size chars.data.toList
 have hws : w1.heap.size = w.heap.size + 1 := by rw [hw1]; simp
 have hg1 : w.grownBy w1 none := by rw [hw1]; exact World.grownBy_alloc w _ none
 have hsc : (storeCells ⟨w1.heap.size, 0, none⟩ (Lib.setCells chars.data.toList).toList 0).run Tryz.prog (w1.alloc (.cells Tryz.zeroCells199 199)) = .ok () (w1.alloc (.cells (Lib.setCells chars.data.toList) 199)) :=
  run_storeCells_new (P := Tryz.prog) w1 199 Tryz.zeroCells199 (Lib.setCells chars.data.toList) (by rw [Lib.setCells_size]; kernel_rfl) (by rw [Lib.setCells_size]; kernel_rfl) (Lib.setCells_one _)
 have HWS := Lib.hid hws
 have HW1 := Lib.hid hw1
 clear hws hw1
 have HC : Hid (∀ x : UInt8, (w1.alloc (.cells (Lib.setCells chars.data.toList) 199)).cell? ⟨w1.heap.size, x.toNat, none⟩ = some (.bool (chars.data.toList.contains x))) := fun x => by
  rw [World.cell?_alloc_at _ _ _ _ (by simp), Lib.setCells_at]
 go_wp2_with fail
 have hgf : w.grownBy (w1.alloc (.cells (Lib.setCells chars.data.toList) 199)) none := jd hg1 _
 have HGF := Lib.hid hgf
 clear hg1 hsc hsz hgf
 generalize w1.alloc (.cells (Lib.setCells chars.data.toList) 199) = W at *
 generalize w1.heap.size = B at *
 go_loop [8] (fun i => ∃ z : Int, i = .int .i64 z ∧ -1 ≤ z ∧ z < s.size ∧ Hid (∀ j (hj : j < s.size), z < (j : Int) → chars.data.toList.contains s[j] = false)) (fun i => (intOf i + 1).toNat)
 case atStart => exact ⟨(s.size : Int) - 1, rfl, by omega, by omega, fun j hj h => by omega⟩
 case round =>
  obtain ⟨z, rfl, hz0, hz1, HR⟩ := hrel
  by_cases hz : z < 0
  ·have HE := Lib.hid (jex chars.data.toList.contains s z hz0 HR.out hz)
   have hz2 : ¬ 0 ≤ z := by omega
   go_wp2_with fail
   go_ret
   exact ⟨ji HE.out.symm, HGF.out⟩
  obtain ⟨k, rfl⟩ := Int.eq_ofNat_of_zero_le (show 0 ≤ z by omega)
  have hk' : k < s.size := by omega
  obtain ⟨c, hc⟩ : ∃ c, s[k] = c := ⟨_, rfl⟩
  have hcc := HC.out c
  by_cases hi : chars.data.toList.contains c = true
  ·have HE : Hid ((k : Int) = qg chars.data.toList.contains s.data.toList) := by
    show _ = _
    rw [jif _ s k hk' (by rw [hc]; exact hi) HR.out]
   rw [hi] at hcc
   have HK := Lib.hid hk'
   go_wp2_with fail
   refine (xp (Tryz.asciiSet_contains _ c true _ hcc)).mono ?_
   rintro _ _ ⟨rfl, rfl⟩
   go_wp2_with fail
   go_ret
   exact ⟨ji HE.out, HGF.out⟩
  have hi' : chars.data.toList.contains c = false := by simpa using hi
  have HN : Hid (∀ j (hj : j < s.size), (k : Int) - 1 < (j : Int) → chars.data.toList.contains s[j] = false) := fun j hj h => by
   by_cases e : j = k
   ·subst e; rw [hc]; exact hi'
   exact HR.out j hj (by omega)
  rw [hi'] at hcc
  clear hi hi'
  go_wp2_with fail
  refine (xp (Tryz.asciiSet_contains _ c false _ hcc)).mono ?_
  rintro _ _ ⟨rfl, rfl⟩
  go_wp2_with fail
  go_round
  case rel => exact ⟨(k : Int) - 1, rfl, by omega, by omega, HN⟩
  case measure => simp [intOf]
set_option maxRecDepth 100000 in
set_option maxHeartbeats 2000000 in
theorem jjz (s chars : ByteArray) (w : World) (hs : s.size = 1) (hne : chars.toList.isEmpty = false) (ha : Ascii s) :
 Calls Tryz.prog 206 #[.string s, .string chars] w fun e w' => e = .returned (.int .i64 (qg chars.data.toList.contains s.data.toList)) ∧ w = w' := by
 have h0 : 0 < s.size := by omega
 obtain ⟨c, hc⟩ : ∃ c, s[0] = c := ⟨_, rfl⟩
 have hca : (c.toNat : Int) < 128 := by rw [← hc]; exact ha.at_ 0 h0
 have hz : ((s.size : Int) == 1) = true := by rw [beq_iff_eq]; omega
 have hsl : s.data.toList = [c] := by
  have hl : s.data.toList.length = 1 := by simpa using hs
  obtain ⟨x, hx⟩ := List.length_eq_one_iff.1 hl
  have : s.data.toList[0]'(by omega) = c := hc
  simp only [hx, List.getElem_cons_zero] at this
  rw [hx, this]
 have HR : Hid (qg chars.data.toList.contains s.data.toList = if 0 ≤ Lib.indexByte chars.data.toList c then 0 else -1) := by
  show _ = _
  have := Lib.contains_iff_indexByte chars.data.toList c
  rw [hsl]
  have hm : qg chars.data.toList.contains [c] = if chars.data.toList.contains c then 0 else -1 := by
   have h : ¬ 0 ≤ qg chars.data.toList.contains [] := by simp [qg]
   exact if_neg h
  rw [hm, this]
  by_cases h : 0 ≤ Lib.indexByte chars.data.toList c <;> simp [h]
 have hcc : ((c.toNat : Int)).toNat.toUInt8 = c := by simp
 have HS := Lib.hid hs
 have HL := Lib.hid hsl
 clear hs hsl
 by_cases hi : 0 ≤ Lib.indexByte chars.data.toList c
 ·have HE : Hid (0 = qg chars.data.toList.contains s.data.toList) := by show _ = _; rw [HR.out, if_pos hi]
  go_enter Tryz.func206, Tryz.ntmps206
  go_wp2_with fail
  refine (xp (Tryz.strings_IndexRune_ascii chars _ _ (by omega) hca)).mono ?_
  rintro _ _ ⟨rfl, rfl⟩
  rw [hcc]
  go_wp2_with fail
  go_ret
  exact ⟨ji HE.out, rfl⟩
 have HE : Hid (-1 = qg chars.data.toList.contains s.data.toList) := by show _ = _; rw [HR.out, if_neg hi]
 go_enter Tryz.func206, Tryz.ntmps206
 go_wp2_with fail
 refine (xp (Tryz.strings_IndexRune_ascii chars _ _ (by omega) hca)).mono ?_
 rintro _ _ ⟨rfl, rfl⟩
 rw [hcc]
 go_wp2_with fail
 go_ret
 exact ⟨ji HE.out, rfl⟩
set_option maxRecDepth 100000 in
set_option maxHeartbeats 2000000 in
theorem jg3 (s chars : ByteArray) (w : World) (hs : s.size ≤ 8) (hs1 : ¬ s.size = 1) (hne : chars.toList.isEmpty = false) (hc1 : 2 ≤ chars.size) (ha : Ascii s) :
 Calls Tryz.prog 206 #[.string s, .string chars] w fun e w' => e = .returned (.int .i64 (qg chars.data.toList.contains s.data.toList)) ∧ w = w' := by
 have h8b : ¬ (8 : Int) < (s.size : Int) := by omega
 have h1 : ((s.size : Int) == 1) = false := by rw [beq_eq_false_iff_ne]; omega
 have h2 : ((chars.size : Int) == 1) = false := by rw [beq_eq_false_iff_ne]; omega
 have HS1 := Lib.hid hs1
 have HA := Lib.hid ha
 clear hs1 ha
 go_enter Tryz.func206, Tryz.ntmps206
 go_wp2_with fail
 refine (xp (Tryz.strings_shouldUseASCIISet _ _)).mono ?_
 rintro _ _ ⟨rfl, rfl⟩
 go_wp2_with fail
 go_loop [13] (fun i => ∃ k : Nat, k ≤ s.size ∧ i = .int .i64 k ∧ Hid (∀ j (hj : j < s.size), (k : Int) - 1 < (j : Int) → chars.data.toList.contains s[j] = false)) (fun i => (intOf i).toNat)
 case atStart => exact ⟨s.size, Nat.le_refl _, rfl, fun j hj h => by omega⟩
 case round =>
  obtain ⟨k, hk, rfl, HR⟩ := hrel
  cases k with
  | zero =>
    have HE := Lib.hid (jex chars.data.toList.contains s (-1) (by omega) (fun j hj h => HR.out j hj (by simpa using h)) (by omega))
    go_wp2_with fail
    go_ret
    exact ⟨ji HE.out.symm, rfl⟩
  | succ k =>
    have hk' : k < s.size := by omega
    obtain ⟨c, hc⟩ : ∃ c, s[k] = c := ⟨_, rfl⟩
    have hca : (c.toNat : Int) < 128 := by rw [← hc]; exact HA.out.at_ k hk'
    have hcc : ((c.toNat : Int)).toNat.toUInt8 = c := by simp
    have hcont := Lib.contains_iff_indexByte chars.data.toList c
    have hk0 : (0 : Int) < ((k + 1 : Nat) : Int) := by omega
    have HD : ∀ W : World, Calls Tryz.prog 188 #[.string (s.extract 0 (k + 1))] W fun e w' => e = .returned (.tuple #[.int .i32 (c.toNat : Int), .int .i64 1]) ∧ W = w' := fun W =>
     jd0 _ k c W (by simp; omega) (by simp; omega) (by
      rw [← hc]
      simp [ByteArray.data_extract, hk']
      rfl) hca
    have HK := Lib.hid hk'
    by_cases hi : 0 ≤ Lib.indexByte chars.data.toList c
    ·have HE : Hid ((k : Int) = qg chars.data.toList.contains s.data.toList) := by
      show _ = _
      rw [jif _ s k hk' (by rw [hc, hcont]; simpa using hi) (fun j hj h => HR.out j hj (by omega))]
     have HC := Lib.hid hc
     have HCT := Lib.hid hcont
     have HDD := Lib.hid HD
     clear hc hcont HD
     go_wp2_with fail
     refine (HDD.out _).mono ?_
     rintro _ _ ⟨rfl, rfl⟩
     go_wp2_with fail
     refine (xp (Tryz.strings_IndexRune_ascii chars _ _ (by omega) hca)).mono ?_
     rintro _ _ ⟨rfl, rfl⟩
     rw [hcc]
     go_wp2_with fail
     go_ret
     exact ⟨ji HE.out, rfl⟩
    have HN : Hid (∀ j (hj : j < s.size), (k : Int) - 1 < (j : Int) → chars.data.toList.contains s[j] = false) := fun j hj h => by
     by_cases e : j = k
     ·subst e; rw [hc, hcont]; simpa using hi
     exact HR.out j hj (by omega)
    have HC := Lib.hid hc
    have HCT := Lib.hid hcont
    have HDD := Lib.hid HD
    clear hc hcont HD
    go_wp2_with fail
    refine (HDD.out _).mono ?_
    rintro _ _ ⟨rfl, rfl⟩
    go_wp2_with fail
    refine (xp (Tryz.strings_IndexRune_ascii chars _ _ (by omega) hca)).mono ?_
    rintro _ _ ⟨rfl, rfl⟩
    rw [hcc]
    go_wp2_with fail
    go_round
    case rel => exact ⟨k, by omega, by go_num, HN⟩
    case measure => simp [intOf]
theorem jjy (s chars : ByteArray) (w : World) (hs : s.size < 4294967281) (hc : chars.size < 4294967281) (hc1 : 2 ≤ chars.size) (ha : Ascii s) (hca : Ascii chars) :
 Calls Tryz.prog 206 #[.string s, .string chars] w fun e w' => e = .returned (.int .i64 (qg chars.data.toList.contains s.data.toList)) ∧ w.grownBy w' none := by
 have hne : chars.toList.isEmpty = false := by
  rw [Lib.toList_data]
  cases h : chars.data.toList with
  | nil => have := Lib.size_eq chars; rw [h, List.length_nil] at this; omega
  | cons _ _ => rfl
 by_cases h1 : s.size = 1
 ·exact (jjz s chars w h1 hne ha).mono fun e w' ⟨he, hw⟩ => ⟨he, by rw [← hw]; exact jf _ _⟩
 by_cases h8 : 8 < s.size
 ·exact jj0 s chars w hs h8 hc hne hca
 exact (jg3 s chars w (by omega) h1 hne hc1 ha).mono fun e w' ⟨he, hw⟩ => ⟨he, by rw [← hw]; exact jf _ _⟩
def digS : ByteArray := ⟨#[48, 49, 50, 51, 52, 53, 54, 55, 56, 57]⟩
theorem jq6 (c : UInt8) : digS.data.toList.contains c = dgB c := by
 revert c
 have h : ∀ n : Fin 256, digS.data.toList.contains (UInt8.ofNat n.val) = dgB (UInt8.ofNat n.val) := by decide +kernel
 intro c
 have := h ⟨c.toNat, c.toNat_lt⟩
 simpa using this
theorem jj1 {p q : UInt8 → Bool} (h : ∀ c, p c = q c) (l : List UInt8) : qg p l = qg q l := by
 have : p = q := funext h
 rw [this]
theorem jl1 : Ascii digS := by
 intro j b h
 have hm : b ∈ digS.data.toList := List.mem_of_getElem? h
 have hall : ∀ b ∈ digS.data.toList, b.toNat < 128 := by decide +kernel
 exact hall b hm
theorem yo (s : ByteArray) (w : World) (hs : s.size < 4294967281) (ha : Ascii s) :
 Calls Tryz.prog 206 #[.string s, .string ⟨#[48, 49, 50, 51, 52, 53, 54, 55, 56, 57]⟩] w fun e w' => e = .returned (.int .i64 (qg dgB s.data.toList)) ∧ w.grownBy w' none := by
 have h := jjy s digS w hs (by decide) (by decide) ha jl1
 rw [jj1 jq6] at h
 exact h
end Go.Proofs.YtbamhgaghngjiaaGreatDoor

namespace Go.Proofs.YtbamhgaghngjiaaGreatDoor
open Go.RowKit
set_option linter.unusedVariables false

theorem jcs (s : ByteArray) (k : Nat) : (s.extract 0 k).data.toList = s.data.toList.take k := by simp [ByteArray.data_extract]
theorem jrd (s : ByteArray) (k : Nat) : (s.extract k s.size).data.toList = s.data.toList.drop k := by
 simp [ByteArray.data_extract]
 rw [List.take_of_length_le (by simp)]
theorem Ascii.take {s : ByteArray} (h : Ascii s) (k : Nat) : Ascii (s.extract 0 k) := by
 intro j b hb
 rw [jcs] at hb
 rw [List.getElem?_take] at hb
 split at hb
 ·exact h j b hb
 cases hb
theorem Ascii.drop {s : ByteArray} (h : Ascii s) (k : Nat) : Ascii (s.extract k s.size) := by
 intro j b hb
 rw [jrd, List.getElem?_drop] at hb
 exact h _ b hb
theorem jkf {l : List UInt8} (h : qz l = true) (k : Nat) : qz (l.take k) = true := by
 unfold qz at h ⊢
 rw [List.all_eq_true] at h ⊢
 exact fun x hx => h x (List.mem_of_mem_take hx)
def jhx (s : ByteArray) (w : World) (e : Ending) (w' : World) : Prop :=
 ∃ d : Int, e = .returned (.tuple #[.int .i64 d, .bool (decide (0 ≤ jp s.data.toList))]) ∧ (0 ≤ jp s.data.toList → d = jp s.data.toList) ∧ w.grownBy w' none
theorem zg {s : ByteArray} {w w' : World} {d : Int} (hb : jp s.data.toList = -1) (hg : w.grownBy w' none) : jhx s w (.returned (.tuple #[.int .i64 d, .bool false])) w' :=
 ⟨d, by rw [hb]; rfl, fun h => by omega, hg⟩
set_option maxHeartbeats 2000000 in
theorem ji1 (s : ByteArray) (w : World) (hs : s.size < 4294967281) (ha : Ascii s) :
 Calls Tryz.prog 190 #[.string s] w (jhx s w) := by
 have hl : s.data.toList.length = s.size := by simp
 have hbd := jk5 dgB s.data.toList
 rw [hl] at hbd
 obtain ⟨b1, b2⟩ := hbd
 obtain ⟨D, hD⟩ : ∃ D, qg dgB s.data.toList = D := ⟨_, rfl⟩
 rw [hD] at b1 b2
 rcases hp : qz s.data.toList
 ·have HB := Lib.hid (jal s.data.toList (by rw [hp]; simp))
  clear hl hD
  go_enter Tryz.func190, Tryz.ntmps190
  go_wp2_with (go_at_call 192; refine (qv _ _ (by omega)).mono ?_; rintro _ _ ⟨rfl, rfl⟩)
  go_ret2
  exact zg HB.out (jf _ _)
 by_cases h10 : 10 < s.size
 ·have HB := Lib.hid (jal s.data.toList (by rw [hl]; omega))
  have h10' : (10 : Int) < (s.size : Int) := by omega
  clear hl hD
  go_enter Tryz.func190, Tryz.ntmps190
  go_wp2_with (go_at_call 192; refine (qv _ _ (by omega)).mono ?_; rintro _ _ ⟨rfl, rfl⟩)
  go_ret2
  exact zg HB.out (jf _ _)
 have h10' : ¬ (10 : Int) < (s.size : Int) := by omega
 by_cases h1 : D < 1
 ·have HB := Lib.hid (jal s.data.toList (by rw [hD]; omega))
  have HD := Lib.hid hD
  clear hl hD
  go_enter Tryz.func190, Tryz.ntmps190
  go_wp2_with (first | (go_at_call 192; refine (qv _ _ (by omega)).mono ?_; rintro _ _ ⟨rfl, rfl⟩) | (go_at_call 206; refine (yo _ _ hs ha).mono ?_; rintro _ _ ⟨rfl, hg⟩; rw [HD.out]))
  go_ret2
  exact zg HB.out hg
 by_cases h3 : 3 < D
 ·have HB := Lib.hid (jal s.data.toList (by rw [hD]; omega))
  have HD := Lib.hid hD
  clear hl hD
  go_enter Tryz.func190, Tryz.ntmps190
  go_wp2_with (first | (go_at_call 192; refine (qv _ _ (by omega)).mono ?_; rintro _ _ ⟨rfl, rfl⟩) | (go_at_call 206; refine (yo _ _ hs ha).mono ?_; rintro _ _ ⟨rfl, hg⟩; rw [HD.out]))
  go_ret2
  exact zg HB.out hg
 by_cases h4 : (s.size : Int) - D - 1 < 1
 ·have HB := Lib.hid (jal s.data.toList (by rw [hD, hl]; omega))
  have HD := Lib.hid hD
  clear hl hD
  go_enter Tryz.func190, Tryz.ntmps190
  go_wp2_with (first | (go_at_call 192; refine (qv _ _ (by omega)).mono ?_; rintro _ _ ⟨rfl, rfl⟩) | (go_at_call 206; refine (yo _ _ hs ha).mono ?_; rintro _ _ ⟨rfl, hg⟩; rw [HD.out]))
  go_ret2
  exact zg HB.out hg
 by_cases h5 : 4 < (s.size : Int) - D - 1
 ·have HB := Lib.hid (jal s.data.toList (by rw [hD, hl]; omega))
  have HD := Lib.hid hD
  clear hl hD
  go_enter Tryz.func190, Tryz.ntmps190
  go_wp2_with (first | (go_at_call 192; refine (qv _ _ (by omega)).mono ?_; rintro _ _ ⟨rfl, rfl⟩) | (go_at_call 206; refine (yo _ _ hs ha).mono ?_; rintro _ _ ⟨rfl, hg⟩; rw [HD.out]))
  go_ret2
  exact zg HB.out hg
 obtain ⟨k, rfl⟩ := Int.eq_ofNat_of_zero_le (show 0 ≤ D by omega)
 have hpt := jkf hp k
 have hplN : plN (s.extract 0 k).data.toList = (xn (s.data.toList.take k) : Int) := by
  rw [jcs]; unfold plN; rw [hpt]; rfl
 have hplB : qz (s.extract 0 k).data.toList = true := by rw [jcs]; exact hpt
 obtain ⟨m, hm⟩ : ∃ m, xn (s.data.toList.take k) = m := ⟨_, rfl⟩
 rw [hm] at hplN
 have hkn : k ≤ s.size := by omega
 have HB : Hid (jp s.data.toList = if 0 < m then (k : Int) else -1) := by
  show _ = _
  by_cases h : 0 < m
  ·rw [if_pos h, jnn s.data.toList ⟨hp, by rw [hl]; omega, by rw [hD]; omega, by rw [hD]; omega, by rw [hD, hl]; omega, by rw [hD, hl]; omega, by rw [hD, Int.toNat_natCast, hm]; exact h⟩, hD]
  rw [if_neg h, jal]
  rw [hD, Int.toNat_natCast, hm]
  omega
 have HD := Lib.hid hD
 have HP := Lib.hid hplN
 have HQ := Lib.hid hplB
 have hes : (s.extract 0 k).size ≤ 9223372036854775807 := by simp; omega
 clear hl hD hm hplN hplB hpt
 have HR : ∀ W : World, Calls Tryz.prog 192 #[.string (s.extract 0 k)] W fun e w' => e = .returned (.tuple #[.int .i64 (m : Int), .bool true]) ∧ W = w' := fun W => by
  have := qv (s.extract 0 k) W hes
  rw [HP.out, HQ.out] at this
  exact this
 have HRR := Lib.hid HR
 clear HR hes
 go_enter Tryz.func190, Tryz.ntmps190
 go_wp2_with fail
 refine (qv _ _ (by omega)).mono ?_
 rintro _ _ ⟨rfl, rfl⟩
 go_wp2_with fail
 refine (yo _ _ hs ha).mono ?_
 rintro _ _ ⟨rfl, hg⟩
 rw [HD.out]
 go_wp2_with fail
 refine (HRR.out _).mono ?_
 rintro _ _ ⟨rfl, rfl⟩
 go_wp2_with fail
 go_ret2
 refine ⟨(k : Int), jpa rfl ?_, fun h => ?_, hg⟩
 ·rw [HB.out]
  by_cases h : 0 < m
  ·rw [if_pos h]; simp [h]
  rw [if_neg h]; simp; omega
 have := HB.out
 by_cases h' : 0 < m
 ·rw [if_pos h'] at this; exact this.symm
 rw [if_neg h'] at this; omega
def xb (s : ByteArray) : ByteArray := if qk s.data.toList = 1 ∨ qk s.data.toList = 2 then s else ⟨#[]⟩
def jge (s : ByteArray) (w : World) (e : Ending) (w' : World) : Prop :=
 ∃ (d : Int) (t : ByteArray), e = .returned (.tuple #[.int .i64 d, .string t, .bool (decide (qk s.data.toList ≠ 0))]) ∧ (qk s.data.toList ≠ 0 → d = qk s.data.toList ∧ t = xb s) ∧ w = w'
theorem jai {s : ByteArray} {w : World} {d : Int} {t : ByteArray} (h : qk s.data.toList = d) (hd : d ≠ 0) (ht : t = xb s) : jge s w (.returned (.tuple #[.int .i64 d, .string t, .bool true])) w :=
 ⟨d, t, by rw [h]; simp [hd], fun _ => ⟨h.symm, ht⟩, rfl⟩
theorem ji4 {s : ByteArray} (h : qk s.data.toList = 1 ∨ qk s.data.toList = 2) : s = xb s := by unfold xb; rw [if_pos h]
theorem jbr {s : ByteArray} (h1 : qk s.data.toList ≠ 1) (h2 : qk s.data.toList ≠ 2) : (⟨#[]⟩ : ByteArray) = xb s := by unfold xb; rw [if_neg (by omega)]
set_option maxHeartbeats 2000000 in
theorem jsh (s : ByteArray) (w : World) (hs : s.size < 4294967281) :
 Calls Tryz.prog 146 #[.string s] w (jge s w) := by
 have hl : s.data.toList.length = s.size := by simp
 have hd : s.toList = s.data.toList := Lib.toList_data s
 by_cases h1 : (s.toList == [112]) = true
 ·have HK : Hid (qk s.data.toList = 3) := by
   show _ = _
   rw [hd, beq_iff_eq] at h1; unfold qk; rw [if_pos h1]
  clear hl hd
  go_enter Tryz.func146, Tryz.ntmps146
  go_wp2_with fail
  go_ret3
  exact jai HK.out (by decide) (jbr (by rw [HK.out]; decide) (by rw [HK.out]; decide))
 have n1 : (s.toList == [112]) = false := by simpa using h1
 have m1 : ¬ s.data.toList = [112] := by rw [← hd]; simpa using h1
 clear h1
 by_cases h1 : (s.toList == [109]) = true
 ·have HK : Hid (qk s.data.toList = 4) := by
   show _ = _
   rw [hd, beq_iff_eq] at h1; unfold qk; rw [if_neg m1, if_pos h1]
  clear hl hd m1
  go_enter Tryz.func146, Tryz.ntmps146
  go_wp2_with fail
  go_ret3
  exact jai HK.out (by decide) (jbr (by rw [HK.out]; decide) (by rw [HK.out]; decide))
 have n2 : (s.toList == [109]) = false := by simpa using h1
 have m2 : ¬ s.data.toList = [109] := by rw [← hd]; simpa using h1
 clear h1
 by_cases h1 : (s.toList == [109, 109]) = true
 ·have HK : Hid (qk s.data.toList = 5) := by
   show _ = _
   rw [hd, beq_iff_eq] at h1; unfold qk; rw [if_neg m1, if_neg m2, if_pos h1]
  clear hl hd m1 m2
  go_enter Tryz.func146, Tryz.ntmps146
  go_wp2_with fail
  go_ret3
  exact jai HK.out (by decide) (jbr (by rw [HK.out]; decide) (by rw [HK.out]; decide))
 have n3 : (s.toList == [109, 109]) = false := by simpa using h1
 have m3 : ¬ s.data.toList = [109, 109] := by rw [← hd]; simpa using h1
 clear h1
 by_cases h1 : (s.toList == [97, 109]) = true
 ·have HK : Hid (qk s.data.toList = 6) := by
   show _ = _
   rw [hd, beq_iff_eq] at h1; unfold qk; rw [if_neg m1, if_neg m2, if_neg m3, if_pos h1]
  clear hl hd m1 m2 m3
  go_enter Tryz.func146, Tryz.ntmps146
  go_wp2_with fail
  go_ret3
  exact jai HK.out (by decide) (jbr (by rw [HK.out]; decide) (by rw [HK.out]; decide))
 have n4 : (s.toList == [97, 109]) = false := by simpa using h1
 have m4 : ¬ s.data.toList = [97, 109] := by rw [← hd]; simpa using h1
 clear h1
 have HT : Hid (qk s.data.toList = if s.data.toList.length = 1 ∧ s.data.toList.all dgB = true then 2 else if jr s.data.toList then 1 else 0) := by
  show _ = _
  unfold qk; rw [if_neg m1, if_neg m2, if_neg m3, if_neg m4]
 clear m1 m2 m3 m4
 have HFin : ∀ (W : World), W = w → Hid (qk s.data.toList = if jr s.data.toList then 1 else 0) → jge s w (.returned (.tuple #[.int .i64 1, .string s, .bool (jr s.data.toList)])) W := fun W hW H => by
  subst hW
  cases hb : jr s.data.toList
  ·have h0 : qk s.data.toList = 0 := by rw [H.out, hb]; rfl
   exact ⟨1, s, by rw [h0]; rfl, fun h => absurd h0 h, rfl⟩
  have h0 : qk s.data.toList = 1 := by rw [H.out, hb]; rfl
  exact jai h0 (by decide) (ji4 (.inl h0))
 have HF := Lib.hid HFin
 clear HFin
 by_cases h1 : s.size = 1
 ·have h0 : 0 < s.size := by omega
  have hz : ((s.size : Int) == 1) = true := by rw [beq_iff_eq]; omega
  obtain ⟨c, hc⟩ : ∃ c, s[0] = c := ⟨_, rfl⟩
  have hsl : s.data.toList = [c] := by
   obtain ⟨x, hx⟩ := List.length_eq_one_iff.1 (hl.trans h1)
   have : s.data.toList[0]'(by omega) = c := hc
   simp only [hx, List.getElem_cons_zero] at this
   rw [hx, this]
  have HC : Hid (s.data.toList.length = 1 ∧ s.data.toList.all dgB = dgB c) := ⟨by rw [hl, h1], by rw [hsl]; simp⟩
  have HS1 := Lib.hid h1
  clear hl hd hsl h1
  cases hdg : dgB c
  ·have HK : Hid (qk s.data.toList = if jr s.data.toList then 1 else 0) := by
    show _ = _
    rw [HT.out, if_neg (by rw [HC.out.2, hdg]; simp)]
   go_enter Tryz.func146, Tryz.ntmps146
   go_wp2_with fail
   refine (jap _ _).mono ?_
   rintro _ _ ⟨rfl, rfl⟩
   rw [hdg]
   go_wp2_with fail
   refine (zi _ _ (by omega)).mono ?_
   rintro _ _ ⟨rfl, rfl⟩
   go_wp2_with fail
   go_ret3
   exact HF.out _ rfl HK
  have HK : Hid (qk s.data.toList = 2) := by
   show _ = _
   rw [HT.out, if_pos ⟨HC.out.1, by rw [HC.out.2, hdg]⟩]
  go_enter Tryz.func146, Tryz.ntmps146
  go_wp2_with fail
  refine (jap _ _).mono ?_
  rintro _ _ ⟨rfl, rfl⟩
  rw [hdg]
  go_wp2_with fail
  go_ret3
  exact jai HK.out (by decide) (ji4 (.inr HK.out))
 have hz : ((s.size : Int) == 1) = false := by rw [beq_eq_false_iff_ne]; omega
 have HK : Hid (qk s.data.toList = if jr s.data.toList then 1 else 0) := by
  show _ = _
  rw [HT.out, if_neg (by omega)]
 clear hl hd h1
 go_enter Tryz.func146, Tryz.ntmps146
 go_wp2_with fail
 refine (zi _ _ (by omega)).mono ?_
 rintro _ _ ⟨rfl, rfl⟩
 go_wp2_with fail
 go_ret3
 exact HF.out _ rfl HK
theorem jq5 : (decide ((0 : Int) ≤ -1)) = false := by decide
set_option maxHeartbeats 2000000 in
theorem jqh (s : ByteArray) (w : World) (hs : s.size < 4294967281) (ha : Ascii s) (hb : jp s.data.toList = -1) :
 Calls Tryz.prog 143 #[.string s] w fun e w' => e = .returned (.tuple #[.agg #[.string ⟨#[]⟩, .string ⟨#[]⟩, .string ⟨#[]⟩, .int .i64 0, .string ⟨#[]⟩], .bool false]) ∧ w.grownBy w' none := by
 have HB := Lib.hid hb
 clear hb
 go_enter Tryz.func143, Tryz.ntmps143
 go_wp2_with fail
 refine (ji1 s _ hs ha).mono ?_
 rintro _ w1 ⟨d, rfl, -, hg⟩
 rw [HB.out, jq5]
 have hB := (Blk.new w 87 #[.string ⟨#[]⟩, .string ⟨#[]⟩, .string ⟨#[]⟩, .int .i64 0, .string ⟨#[]⟩]).grown hg (by simp)
 have c0 := hB.cell 0
 have c1 := hB.cell 1
 have c2 := hB.cell 2
 have c3 := hB.cell 3
 have c4 := hB.cell 4
 have f0 := hB.free 0
 have f1 := hB.free 1
 have f2 := hB.free 2
 have f3 := hB.free 3
 have f4 := hB.free 4
 simp only [geA, geZ, geS] at c0 c1 c2 c3 c4
 go_wp2_with fail
 refine bodyPost_ret (v := .tuple #[.agg #[.string ⟨#[]⟩, .string ⟨#[]⟩, .string ⟨#[]⟩, .int .i64 0, .string ⟨#[]⟩], .bool false]) (by simp [results, Tryz.results143, go_sem, c0, c1, c2, c3, c4]) rfl ?_
 refine ⟨rfl, ?_⟩
 have hg0 := ja (World.grownBy_alloc w _ none) hg
 exact jg (jg (jg (jg (jg hg0 (.inr (Nat.le_refl _)) _) (.inr (Nat.le_refl _)) _) (.inr (Nat.le_refl _)) _) (.inr (Nat.le_refl _)) _) (.inr (Nat.le_refl _)) _
set_option maxHeartbeats 2000000 in
theorem jhz (s : ByteArray) (k : Nat) (w : World) (hs : s.size < 4294967281) (ha : Ascii s) (hb : jp s.data.toList = k) :
 Calls Tryz.prog 143 #[.string s] w fun e w' => e = .returned (.tuple #[.agg #[.string s, .string (s.extract 0 (k + 1)), .string (s.extract (k + 1) s.size), .int .i64 0, .string ⟨#[]⟩], .bool true]) ∧ w.grownBy w' none := by
 have hl : s.data.toList.length = s.size := by simp
 have hk1 : k + 1 ≤ s.size := by
  have := xk s.data.toList
  rw [hb, hl] at this
  omega
 have HB := Lib.hid hb
 have e1 : IntKind.i64.wrap ((k : Int) + 1) = (k : Int) + 1 := IntWalk.i64_in _ ⟨by omega, by omega⟩
 have e2 : ((k : Int) + 1).toNat = k + 1 := by omega
 have e3 : (0 : Int) ≤ (k : Int) + 1 := by omega
 have e4 : (k : Int) + 1 ≤ (s.size : Int) := by omega
 have e5 : decide (0 ≤ (k : Int)) = true := by simp
 clear hb hl
 go_enter Tryz.func143, Tryz.ntmps143
 go_wp2_with fail
 refine (ji1 s _ hs ha).mono ?_
 rintro _ w1 ⟨d, rfl, hd, hg⟩
 rw [HB.out] at hd
 obtain rfl := hd (by omega)
 rw [HB.out, e5]
 have hB := (Blk.new w 87 #[.string ⟨#[]⟩, .string ⟨#[]⟩, .string ⟨#[]⟩, .int .i64 0, .string ⟨#[]⟩]).grown hg (by simp)
 have c0 := hB.cell 0
 have c1 := hB.cell 1
 have c2 := hB.cell 2
 have c3 := hB.cell 3
 have c4 := hB.cell 4
 have f0 := hB.free 0
 have f1 := hB.free 1
 have f2 := hB.free 2
 have f3 := hB.free 3
 have f4 := hB.free 4
 simp only [geA, geZ, geS] at c0 c1 c2 c3 c4
 clear hd e5
 go_wp2_with fail
 go_region
 go_wp2_with fail
 refine bodyPost_ret (v := .tuple #[.agg #[.string s, .string (s.extract 0 (k + 1)), .string (s.extract (k + 1) s.size), .int .i64 0, .string ⟨#[]⟩], .bool true]) (by simp [results, Tryz.results143, go_sem, c0, c1, c2, c3, c4]) rfl ?_
 refine ⟨rfl, ?_⟩
 have hg0 := ja (World.grownBy_alloc w _ none) hg
 exact jn (jg (jg (jg (jg (jg hg0 (.inr (Nat.le_refl _)) _) (.inr (Nat.le_refl _)) _) (.inr (Nat.le_refl _)) _) (.inr (Nat.le_refl _)) _) (.inr (Nat.le_refl _)) _)
end Go.Proofs.YtbamhgaghngjiaaGreatDoor

namespace Go.Proofs.YtbamhgaghngjiaaGreatDoor
open Go.RowKit
set_option linter.unusedVariables false

theorem jg0 (s : ByteArray) (c : UInt8) (i : Nat) (h : Lib.indexByte s.data.toList c = (i : Int)) : i < s.size := by
 have := (Lib.indexByte_some h).1
 have h2 := (List.getElem?_eq_some_iff.1 this).1
 simpa using h2
set_option maxHeartbeats 1000000 in
theorem jrp (s : ByteArray) (c : UInt8) (i : Nat) (w : World) (hs : s.size < 4294967281) (h : Lib.indexByte s.data.toList c = (i : Int)) :
 Calls Tryz.prog 191 #[.string s, .string ⟨#[c]⟩] w fun e w' => e = .returned (.tuple #[.string (s.extract 0 i), .string (s.extract (i + 1) s.size), .bool true]) ∧ w.grownBy w' none := by
 have hi := jg0 s c i h
 have h1 : (i : Int) + 1 ≤ (s.size : Int) := by omega
 have h2 : (0 : Int) ≤ (i : Int) + 1 := by omega
 have h3 : ((i : Int) + 1).toNat = i + 1 := by omega
 have h4 : i ≤ s.size := by omega
 have e1 : IntKind.i64.wrap ((i : Int) + 1) = (i : Int) + 1 := IntWalk.i64_in _ ⟨by omega, by omega⟩
 have HH := Lib.hid h
 clear h
 go_enter Tryz.func191, Tryz.ntmps191
 go_wp2_with fail
 refine (xp (Tryz.stringslite_Index_one s c _)).mono ?_
 rintro _ _ ⟨rfl, rfl⟩
 rw [HH.out]
 go_wp2_with fail
 go_quiet (fail)
 go_wp2_with fail
 go_ret3
 exact ⟨rfl, by repeat (first | exact jf _ _ | refine q9 ?_ _ | refine jn ?_)⟩
set_option maxHeartbeats 1000000 in
theorem joj (s : ByteArray) (c : UInt8) (w : World) (hs : s.size < 4294967281) (h : Lib.indexByte s.data.toList c = -1) :
 Calls Tryz.prog 191 #[.string s, .string ⟨#[c]⟩] w fun e w' => e = .returned (.tuple #[.string s, .string ⟨#[]⟩, .bool false]) ∧ w.grownBy w' none := by
 have HH := Lib.hid h
 clear h
 go_enter Tryz.func191, Tryz.ntmps191
 go_wp2_with fail
 refine (xp (Tryz.stringslite_Index_one s c _)).mono ?_
 rintro _ _ ⟨rfl, rfl⟩
 rw [HH.out]
 go_wp2_with fail
 go_ret3
 exact ⟨rfl, jf _ _⟩
set_option maxHeartbeats 1000000 in
theorem qr (s : ByteArray) (c : UInt8) (i : Nat) (w : World) (hs : s.size < 4294967281) (h : Lib.indexByte s.data.toList c = (i : Int)) :
 Calls Tryz.prog 144 #[.string s, .string ⟨#[c]⟩] w fun e w' => e = .returned (.tuple #[.string (s.extract 0 i), .string (s.extract (i + 1) s.size), .bool true]) ∧ w.grownBy w' none := by
 have HH := Lib.hid (jrp s c i w hs h)
 clear h
 go_enter Tryz.func144, Tryz.ntmps144
 go_wp2_with fail
 refine HH.out.mono ?_
 rintro _ w1 ⟨rfl, hg⟩
 go_wp2_with fail
 go_ret3
 exact ⟨rfl, hg⟩
set_option maxHeartbeats 1000000 in
theorem jgs (s : ByteArray) (c : UInt8) (w : World) (hs : s.size < 4294967281) (h : Lib.indexByte s.data.toList c = -1) :
 Calls Tryz.prog 144 #[.string s, .string ⟨#[c]⟩] w fun e w' => e = .returned (.tuple #[.string s, .string ⟨#[]⟩, .bool false]) ∧ w.grownBy w' none := by
 have HH := Lib.hid (joj s c w hs h)
 clear h
 go_enter Tryz.func144, Tryz.ntmps144
 go_wp2_with fail
 refine HH.out.mono ?_
 rintro _ w1 ⟨rfl, hg⟩
 go_wp2_with fail
 go_ret3
 exact ⟨rfl, hg⟩
def jo (s : ByteArray) : Option (ByteArray × Nat × Int × ByteArray) :=
 if 14 < s.size then none
 else if 0 ≤ jp s.data.toList then some (s, (jp s.data.toList).toNat, 0, ⟨#[]⟩)
 else if Lib.indexByte s.data.toList 47 < 0 then none
 else
  let i := (Lib.indexByte s.data.toList 47).toNat
  let a := s.extract 0 i
  let b := s.extract (i + 1) s.size
  if 0 ≤ jp b.data.toList ∧ jr a.data.toList = true then some (b, (jp b.data.toList).toNat, 1, a)
  else if 0 ≤ jp a.data.toList ∧ qk b.data.toList ≠ 0 then some (a, (jp a.data.toList).toNat, qk b.data.toList, xb b)
  else none
theorem jds {s : ByteArray} (h : 14 < s.size) : jo s = none := by unfold jo; rw [if_pos h]
theorem jdq {s : ByteArray} (h : ¬ 14 < s.size) (hb : 0 ≤ jp s.data.toList) : jo s = some (s, (jp s.data.toList).toNat, 0, ⟨#[]⟩) := by unfold jo; rw [if_neg h, if_pos hb]
theorem jdp {s : ByteArray} (h : ¬ 14 < s.size) (hb : ¬ 0 ≤ jp s.data.toList) (hi : Lib.indexByte s.data.toList 47 < 0) : jo s = none := by unfold jo; rw [if_neg h, if_neg hb, if_pos hi]
theorem zl {s : ByteArray} {i : Nat} (h : ¬ 14 < s.size) (hb : ¬ 0 ≤ jp s.data.toList) (hi : Lib.indexByte s.data.toList 47 = (i : Int)) :
 jo s = if 0 ≤ jp (s.extract (i + 1) s.size).data.toList ∧ jr (s.extract 0 i).data.toList = true then some (s.extract (i + 1) s.size, (jp (s.extract (i + 1) s.size).data.toList).toNat, 1, s.extract 0 i)
 else if 0 ≤ jp (s.extract 0 i).data.toList ∧ qk (s.extract (i + 1) s.size).data.toList ≠ 0 then some (s.extract 0 i, (jp (s.extract 0 i).data.toList).toNat, qk (s.extract (i + 1) s.size).data.toList, xb (s.extract (i + 1) s.size))
 else none := by
 unfold jo
 rw [if_neg h, if_neg hb, if_neg (by omega)]
 simp only [hi, Int.toNat_natCast]
def ju (s : ByteArray) (w : World) (e : Ending) (w' : World) : Prop :=
 w.grownBy w' none ∧ ((jo s = none ∧ e = .returned (.tuple #[.agg #[.string ⟨#[]⟩, .string ⟨#[]⟩, .string ⟨#[]⟩, .int .i64 0, .string ⟨#[]⟩], .bool false])) ∨
 ∃ t k kd ad, jo s = some (t, k, kd, ad) ∧ e = .returned (.tuple #[.agg #[.string t, .string (t.extract 0 (k + 1)), .string (t.extract (k + 1) t.size), .int .i64 kd, .string ad], .bool true]))
theorem yg {s : ByteArray} {w w' : World} (h : jo s = none) (hg : w.grownBy w' none) : ju s w (.returned (.tuple #[.agg #[.string ⟨#[]⟩, .string ⟨#[]⟩, .string ⟨#[]⟩, .int .i64 0, .string ⟨#[]⟩], .bool false])) w' :=
 ⟨hg, .inl ⟨h, rfl⟩⟩
theorem ql {s : ByteArray} {w w' : World} {t : ByteArray} {k : Nat} {kd : Int} {ad : ByteArray} (h : jo s = some (t, k, kd, ad)) (hg : w.grownBy w' none) :
 ju s w (.returned (.tuple #[.agg #[.string t, .string (t.extract 0 (k + 1)), .string (t.extract (k + 1) t.size), .int .i64 kd, .string ad], .bool true])) w' :=
 ⟨hg, .inr ⟨t, k, kd, ad, h, rfl⟩⟩
set_option maxRecDepth 100000 in
set_option maxHeartbeats 2000000 in
theorem jmk (s : ByteArray) (w : World) (hs : s.size < 4294967281) (h : 14 < s.size) :
 Calls Tryz.prog 85 #[.string s] w (ju s w) := by
 have h14 : (14 : Int) < (s.size : Int) := by omega
 have HP := Lib.hid (jds h)
 go_enter Tryz.func85, Tryz.ntmps85
 go_wp2_with fail
 refine bodyPost_ret (v := .tuple #[.agg #[.string ⟨#[]⟩, .string ⟨#[]⟩, .string ⟨#[]⟩, .int .i64 0, .string ⟨#[]⟩], .bool false]) (by simp [results, Tryz.results85, go_sem]) rfl ?_
 exact yg HP.out (by repeat (first | exact jf _ _ | refine jd ?_ _))
theorem Blk.put5 {w : World} {g : Nat} {t : TypeId} {a0 a1 a2 a3 a4 : Value} (h : Blk w g t #[a0, a1, a2, a3, a4]) (b0 b1 b2 b3 b4 : Value) :
 Blk (((((w.setCell ⟨g, 0, none⟩ b0).setCell ⟨g, 1, none⟩ b1).setCell ⟨g, 2, none⟩ b2).setCell ⟨g, 3, none⟩ b3).setCell ⟨g, 4, none⟩ b4) g t #[b0, b1, b2, b3, b4] := by
 have := ((((h.put 0 b0).put 1 b1).put 2 b2).put 3 b3).put 4 b4
 simpa using this
theorem Blk.cells5 {w : World} {g : Nat} {t : TypeId} {a0 a1 a2 a3 a4 : Value} (h : Blk w g t #[a0, a1, a2, a3, a4]) :
 w.cell? ⟨g, 0, none⟩ = some a0 ∧ w.cell? ⟨g, 1, none⟩ = some a1 ∧ w.cell? ⟨g, 2, none⟩ = some a2 ∧ w.cell? ⟨g, 3, none⟩ = some a3 ∧ w.cell? ⟨g, 4, none⟩ = some a4 :=
 ⟨h.cell 0, h.cell 1, h.cell 2, h.cell 3, h.cell 4⟩
theorem qj {a w : World} {g : Nat} (h : a.grownBy w none) (hg : a.heap.size ≤ g) (b0 b1 b2 b3 b4 : Value) :
 a.grownBy (((((w.setCell ⟨g, 0, none⟩ b0).setCell ⟨g, 1, none⟩ b1).setCell ⟨g, 2, none⟩ b2).setCell ⟨g, 3, none⟩ b3).setCell ⟨g, 4, none⟩ b4) none :=
 jg (jg (jg (jg (jg h (.inr hg) _) (.inr hg) _) (.inr hg) _) (.inr hg) _) (.inr hg) _
def jnb (s : ByteArray) (b : Bool) (w : World) (e : Ending) (w' : World) : Prop :=
 ∃ t0 t1 t2 : ByteArray, e = .returned (.tuple #[.agg #[.string t0, .string t1, .string t2, .int .i64 0, .string ⟨#[]⟩], .bool b]) ∧ w.grownBy w' none ∧
   (b = true → t0 = s ∧ t1 = s.extract 0 ((jp s.data.toList).toNat + 1) ∧ t2 = s.extract ((jp s.data.toList).toNat + 1) s.size)
theorem zz (s : ByteArray) (b : Bool) (w : World) (hs : s.size < 4294967281) (ha : Ascii s) (hb : decide (0 ≤ jp s.data.toList) = b) :
 Calls Tryz.prog 143 #[.string s] w (jnb s b w) := by
 by_cases h : 0 ≤ jp s.data.toList
 ·obtain rfl : b = true := by rw [← hb]; simpa using h
  obtain ⟨k, hk⟩ := Int.eq_ofNat_of_zero_le h
  exact (jhz s k w hs ha hk).mono fun e w' ⟨he, hg⟩ => ⟨_, _, _, he, hg, fun _ => by rw [hk]; exact ⟨rfl, rfl, rfl⟩⟩
 obtain rfl : b = false := by rw [← hb]; simpa using h
 have h1 := xk s.data.toList
 exact (jqh s w hs ha (by omega)).mono fun e w' ⟨he, hg⟩ => ⟨_, _, _, he, hg, fun h => by cases h⟩
set_option maxRecDepth 100000 in
set_option maxHeartbeats 2000000 in
theorem jmi (s : ByteArray) (w : World) (hs : s.size < 4294967281) (ha : Ascii s) (h : ¬ 14 < s.size) (hb : 0 ≤ jp s.data.toList) :
 Calls Tryz.prog 85 #[.string s] w (ju s w) := by
 have h14 : ¬ (14 : Int) < (s.size : Int) := by omega
 have HP := Lib.hid (jdq h hb)
 obtain ⟨k, hk⟩ := Int.eq_ofNat_of_zero_le hb
 rw [hk, Int.toNat_natCast] at HP
 have HK := Lib.hid hk
 clear hk hb
 go_enter Tryz.func85, Tryz.ntmps85
 go_wp2_with fail
 refine (jhz s k _ hs ha HK.out).mono ?_
 rintro _ w1 ⟨rfl, hg⟩
 have hB := (Blk.new w 87 #[.string ⟨#[]⟩, .string ⟨#[]⟩, .string ⟨#[]⟩, .int .i64 0, .string ⟨#[]⟩]).grown hg (by simp)
 obtain ⟨c0, c1, c2, c3, c4⟩ := hB.cells5
 have hf := hB.free
 have hlt := hB.lt
 go_wp2_with fail
 obtain ⟨d0, d1, d2, d3, d4⟩ := ((hB.put5 (.string s) (.string (s.extract 0 (k + 1))) (.string (s.extract (k + 1) s.size)) (.int .i64 0) (.string ⟨#[]⟩)).alloc (.cells #[.string s, .string (s.extract 0 (k + 1)), .string (s.extract (k + 1) s.size), .int .i64 0, .string ⟨#[]⟩] 87)).cells5
 refine bodyPost_ret (v := .tuple #[.agg #[.string s, .string (s.extract 0 (k + 1)), .string (s.extract (k + 1) s.size), .int .i64 0, .string ⟨#[]⟩], .bool true]) (by simp [results, Tryz.results85, go_sem, d0, d1, d2, d3, d4]) rfl ?_
 exact ql HP.out (jd (qj (ja (World.grownBy_alloc w _ none) hg) (Nat.le_refl _) _ _ _ _ _) _)
theorem jeb {l : List UInt8} (h : ¬ 0 ≤ jp l) : decide (0 ≤ jp l) = false := by simpa using h
set_option maxRecDepth 100000 in
set_option maxHeartbeats 2000000 in
theorem jmh (s : ByteArray) (w : World) (hs : s.size < 4294967281) (ha : Ascii s) (h : ¬ 14 < s.size) (hb : ¬ 0 ≤ jp s.data.toList) (hi : Lib.indexByte s.data.toList 47 = -1) :
 Calls Tryz.prog 85 #[.string s] w (ju s w) := by
 have h14 : ¬ (14 : Int) < (s.size : Int) := by omega
 have HP := Lib.hid (jdp h hb (by omega))
 have HI := Lib.hid hi
 have HB := Lib.hid (jeb hb)
 clear hi hb
 go_enter Tryz.func85, Tryz.ntmps85
 go_wp2_with fail
 refine (zz s false _ hs ha HB.out).mono ?_
 rintro _ w1 ⟨t0, t1, t2, rfl, hg, -⟩
 have hB := (Blk.new w 87 #[.string ⟨#[]⟩, .string ⟨#[]⟩, .string ⟨#[]⟩, .int .i64 0, .string ⟨#[]⟩]).grown hg (by simp)
 have hG := ja (World.grownBy_alloc w (.cells #[.string ⟨#[]⟩, .string ⟨#[]⟩, .string ⟨#[]⟩, .int .i64 0, .string ⟨#[]⟩] 87) none) hg
 clear hg
 go_wp2_with fail
 refine (jgs s 47 _ hs HI.out).mono ?_
 rintro _ w2 ⟨rfl, hg⟩
 replace hB := hB.grown (ja (World.grownBy_alloc w1 _ none) hg) (by simp)
 replace hG := ja hG (ja (World.grownBy_alloc w1 _ none) hg)
 have c0 := hB.cell 0
 have c1 := hB.cell 1
 have c2 := hB.cell 2
 have c3 := hB.cell 3
 have c4 := hB.cell 4
 have hf := hB.free
 have hlt := hB.lt
 simp only [geA, geZ, geS] at c0 c1 c2 c3 c4
 go_wp2_with fail
 refine bodyPost_ret (v := .tuple #[.agg #[.string ⟨#[]⟩, .string ⟨#[]⟩, .string ⟨#[]⟩, .int .i64 0, .string ⟨#[]⟩], .bool false]) (by simp [results, Tryz.results85, go_sem, c0, c1, c2, c3, c4]) rfl ?_
 exact yg HP.out (jg (jg (jg (jg (jg hG (.inr (Nat.le_refl _)) _) (.inr (Nat.le_refl _)) _) (.inr (Nat.le_refl _)) _) (.inr (Nat.le_refl _)) _) (.inr (Nat.le_refl _)) _)
set_option maxRecDepth 100000 in
set_option maxHeartbeats 4000000 in
theorem jj9 (s a b : ByteArray) (i : Nat) (w : World) (hs : s.size < 4294967281) (ha : Ascii s) (h : ¬ 14 < s.size) (hb : ¬ 0 ≤ jp s.data.toList) (hi : Lib.indexByte s.data.toList 47 = (i : Int))
 (hea : s.extract 0 i = a) (heb : s.extract (i + 1) s.size = b) (h1 : 0 ≤ jp b.data.toList) (h2 : jr a.data.toList = true) :
 Calls Tryz.prog 85 #[.string s] w (ju s w) := by
 have h14 : ¬ (14 : Int) < (s.size : Int) := by omega
 have hii := jg0 s 47 i hi
 have has : a.size < 4294967281 := by rw [← hea]; simp; omega
 have hbs : b.size < 4294967281 := by rw [← heb]; simp; omega
 have haa : Ascii a := by rw [← hea]; exact ha.take _
 have hba : Ascii b := by rw [← heb]; exact ha.drop _
 have HP : Hid (jo s = some (b, (jp b.data.toList).toNat, 1, a)) := by
  show _ = _
  rw [zl h hb hi, hea, heb, if_pos ⟨h1, h2⟩]
 have HC : Hid (∀ W : World, Calls Tryz.prog 144 #[.string s, .string ⟨#[47]⟩] W fun e w' => e = .returned (.tuple #[.string a, .string b, .bool true]) ∧ W.grownBy w' none) := fun W => by
  have := qr s 47 i W hs hi
  rw [hea, heb] at this
  exact this
 have HB := Lib.hid (jeb hb)
 have H1 : Hid (decide (0 ≤ jp b.data.toList) = true) := by show _ = _; simpa using h1
 have H2 := Lib.hid h2
 clear hi hb hea heb h1 h2
 go_enter Tryz.func85, Tryz.ntmps85
 go_wp2_with fail
 refine (zz s false _ hs ha HB.out).mono ?_
 rintro _ w1 ⟨t0, t1, t2, rfl, hg, -⟩
 have hB := (Blk.new w 87 #[.string ⟨#[]⟩, .string ⟨#[]⟩, .string ⟨#[]⟩, .int .i64 0, .string ⟨#[]⟩]).grown hg (by simp)
 have hG := ja (World.grownBy_alloc w (.cells #[.string ⟨#[]⟩, .string ⟨#[]⟩, .string ⟨#[]⟩, .int .i64 0, .string ⟨#[]⟩] 87) none) hg
 clear hg
 go_wp2_with fail
 refine (HC.out _).mono ?_
 rintro _ w2 ⟨rfl, hg⟩
 replace hB := hB.grown (ja (World.grownBy_alloc w1 _ none) hg) (by simp)
 replace hG := ja hG (ja (World.grownBy_alloc w1 _ none) hg)
 clear hg
 go_wp2_with fail
 refine (zz b true _ hbs hba H1.out).mono ?_
 rintro _ w3 ⟨u0, u1, u2, rfl, hg, hu⟩
 obtain ⟨e0, e1, e2⟩ := hu rfl
 have E0 := Lib.hid e0
 have E1 := Lib.hid e1
 have E2 := Lib.hid e2
 clear e0 e1 e2 hu
 replace hB := hB.grown hg (by simp)
 replace hG := ja hG hg
 clear hg
 have hf := hB.free
 have hlt := hB.lt
 obtain ⟨c0, c1, c2, c3, c4⟩ := hB.cells5
 go_wp2_with fail
 refine (zi a _ (by omega)).mono ?_
 rintro _ _ ⟨rfl, rfl⟩
 rw [H2.out]
 go_wp2_with fail
 obtain ⟨d0, d1, d2, d3, d4⟩ := ((hB.put5 (.string u0) (.string u1) (.string u2) (.int .i64 1) (.string a)).alloc (.cells #[.string u0, .string u1, .string u2, .int .i64 1, .string a] 87)).cells5
 refine bodyPost_ret (v := .tuple #[.agg #[.string u0, .string u1, .string u2, .int .i64 1, .string a], .bool true]) (by simp [results, Tryz.results85, go_sem, d0, d1, d2, d3, d4]) rfl ?_
 rw [E1.out, E2.out]
 obtain rfl := E0.out
 exact ql HP.out (jd (qj hG (Nat.le_refl _) _ _ _ _ _) _)
set_option maxRecDepth 100000 in
set_option maxHeartbeats 4000000 in
theorem jf8 (s a b : ByteArray) (i : Nat) (β γ α τ : Bool) (w : World) (hs : s.size < 4294967281) (ha : Ascii s) (h : ¬ 14 < s.size) (hb : ¬ 0 ≤ jp s.data.toList) (hi : Lib.indexByte s.data.toList 47 = (i : Int))
 (hea : s.extract 0 i = a) (heb : s.extract (i + 1) s.size = b) (h1 : decide (0 ≤ jp b.data.toList) = β) (h2 : jr a.data.toList = γ) (hn : (β && γ) = false)
 (h3 : decide (0 ≤ jp a.data.toList) = α) (h4 : decide (qk b.data.toList ≠ 0) = τ) :
 Calls Tryz.prog 85 #[.string s] w (ju s w) := by
 have h14 : ¬ (14 : Int) < (s.size : Int) := by omega
 have hii := jg0 s 47 i hi
 have has : a.size < 4294967281 := by rw [← hea]; simp; omega
 have hbs : b.size < 4294967281 := by rw [← heb]; simp; omega
 have haa : Ascii a := by rw [← hea]; exact ha.take _
 have hba : Ascii b := by rw [← heb]; exact ha.drop _
 have HP : Hid (jo s = if (α && τ) = true then some (a, (jp a.data.toList).toNat, qk b.data.toList, xb b) else none) := by
  show _ = _
  rw [zl h hb hi, hea, heb, if_neg (by rw [← h1, ← h2] at hn; intro hh; simp [hh.1, hh.2] at hn)]
  by_cases hh : 0 ≤ jp a.data.toList ∧ qk b.data.toList ≠ 0
  ·rw [if_pos hh, if_pos (by rw [← h3, ← h4]; simp [hh.1, hh.2])]
  rw [if_neg hh, if_neg (by rw [← h3, ← h4]; simpa using hh)]
 have HC : Hid (∀ W : World, Calls Tryz.prog 144 #[.string s, .string ⟨#[47]⟩] W fun e w' => e = .returned (.tuple #[.string a, .string b, .bool true]) ∧ W.grownBy w' none) := fun W => by
  have := qr s 47 i W hs hi
  rw [hea, heb] at this
  exact this
 have HT : Hid (τ = true → qk b.data.toList ≠ 0) := fun e => by rw [e] at h4; simpa using h4
 have HB := Lib.hid (jeb hb)
 have H1 := Lib.hid h1
 have H2 := Lib.hid h2
 have H3 := Lib.hid h3
 have H4 := Lib.hid h4
 clear hi hb hea heb h1 h2 h3 h4
 go_enter Tryz.func85, Tryz.ntmps85
 go_wp2_with fail
 refine (zz s false _ hs ha HB.out).mono ?_
 rintro _ w1 ⟨t0, t1, t2, rfl, hg, -⟩
 have hB := (Blk.new w 87 #[.string ⟨#[]⟩, .string ⟨#[]⟩, .string ⟨#[]⟩, .int .i64 0, .string ⟨#[]⟩]).grown hg (by simp)
 have hG := ja (World.grownBy_alloc w (.cells #[.string ⟨#[]⟩, .string ⟨#[]⟩, .string ⟨#[]⟩, .int .i64 0, .string ⟨#[]⟩] 87) none) hg
 clear hg
 go_wp2_with fail
 refine (HC.out _).mono ?_
 rintro _ w2 ⟨rfl, hg⟩
 replace hB := hB.grown (ja (World.grownBy_alloc w1 _ none) hg) (by simp)
 replace hG := ja hG (ja (World.grownBy_alloc w1 _ none) hg)
 clear hg
 go_wp2_with fail
 refine (zz b β _ hbs hba H1.out).mono ?_
 rintro _ w3 ⟨v0, v1, v2, rfl, hg, -⟩
 replace hB := hB.grown hg (by simp)
 replace hG := ja hG hg
 clear hg
 cases β <;> cases γ <;> try (exfalso; revert hn; decide)
 all_goals
  clear hn
  go_wp2_with (go_at_call 145; refine (zi a _ (by omega)).mono ?_; rintro _ _ ⟨rfl, rfl⟩; rw [H2.out])
  refine (zz a α _ has haa H3.out).mono ?_
  rintro _ w4 ⟨u0, u1, u2, rfl, hg, hu⟩
  have HU := Lib.hid hu
  clear hu
  replace hB := hB.grown (ja (World.grownBy_alloc w3 _ none) hg) (by simp)
  replace hG := ja hG (ja (World.grownBy_alloc w3 _ none) hg)
  clear hg
  go_wp2_with fail
  refine (jsh b _ hbs).mono ?_
  rintro _ w5 ⟨kd, ad, rfl, hk, hw5⟩
  rw [H4.out]
  have HKK := Lib.hid hk
  have hg5 : w.grownBy w5 none := by rw [← hw5]; exact jd hG _
  have hB5 : Blk w5 w.heap.size 87 #[.string ⟨#[]⟩, .string ⟨#[]⟩, .string ⟨#[]⟩, .int .i64 0, .string ⟨#[]⟩] := by rw [← hw5]; exact hB.alloc _
  have hX5 : Blk w5 w4.heap.size 87 #[.string u0, .string u1, .string u2, .int .i64 0, .string ⟨#[]⟩] := by rw [← hw5]; exact Blk.new _ _ _
  have hlt4 := hB.lt
  clear hk hw5 hB hG
  obtain ⟨c0, c1, c2, c3, c4⟩ := hB5.cells5
  obtain ⟨x0, x1, x2, x3, x4⟩ := hX5.cells5
  have hf := hB5.free
  have hxf := hX5.free
  cases α <;> cases τ
  case true.true =>
   obtain ⟨e0, e1, e2⟩ := HU.out rfl
   obtain ⟨k1, k2⟩ := HKK.out (HT.out rfl)
   have HS : Hid (jo s = some (a, (jp a.data.toList).toNat, qk b.data.toList, xb b)) := by show _ = _; rw [HP.out]; rfl
   have E0 := Lib.hid e0
   have E1 := Lib.hid e1
   have E2 := Lib.hid e2
   have K1 := Lib.hid k1
   have K2 := Lib.hid k2
   clear e0 e1 e2 k1 k2
   go_wp2_with fail
   have hBn : Blk ((w5.setCell ⟨w4.heap.size, 3, none⟩ (.int .i64 kd)).setCell ⟨w4.heap.size, 4, none⟩ (.string ad)) w.heap.size 87 #[.string ⟨#[]⟩, .string ⟨#[]⟩, .string ⟨#[]⟩, .int .i64 0, .string ⟨#[]⟩] :=
    (hB5.far (by simp; omega) _).far (by simp; omega) _
   obtain ⟨d0, d1, d2, d3, d4⟩ := (hBn.put5 (.string u0) (.string u1) (.string u2) (.int .i64 kd) (.string ad)).cells5
   refine bodyPost_ret (v := .tuple #[.agg #[.string u0, .string u1, .string u2, .int .i64 kd, .string ad], .bool true]) (by simp [results, Tryz.results85, go_sem, d0, d1, d2, d3, d4]) rfl ?_
   rw [E1.out, E2.out, K1.out, K2.out]
   obtain rfl := E0.out
   exact ql HS.out (qj (jg (jg hg5 (.inr (Nat.le_of_lt hlt4)) _) (.inr (Nat.le_of_lt hlt4)) _) (Nat.le_refl _) _ _ _ _ _)
  all_goals
   have HN : Hid (jo s = none) := by show _ = _; rw [HP.out]; rfl
   go_wp2_with fail
   obtain ⟨d0, d1, d2, d3, d4⟩ := (hB5.put5 (.string ⟨#[]⟩) (.string ⟨#[]⟩) (.string ⟨#[]⟩) (.int .i64 0) (.string ⟨#[]⟩)).cells5
   refine bodyPost_ret (v := .tuple #[.agg #[.string ⟨#[]⟩, .string ⟨#[]⟩, .string ⟨#[]⟩, .int .i64 0, .string ⟨#[]⟩], .bool false]) (by simp [results, Tryz.results85, go_sem, d0, d1, d2, d3, d4]) rfl ?_
   exact yg HN.out (qj hg5 (Nat.le_refl _) _ _ _ _ _)
theorem jbd (s : ByteArray) (w : World) (hs : s.size < 4294967281) (ha : Ascii s) :
 Calls Tryz.prog 85 #[.string s] w (ju s w) := by
 by_cases h : 14 < s.size
 ·exact jmk s w hs h
 by_cases hb : 0 ≤ jp s.data.toList
 ·exact jmi s w hs ha h hb
 by_cases hi : Lib.indexByte s.data.toList 47 < 0
 ·have := Lib.indexByte_ge s.data.toList 47
  exact jmh s w hs ha h hb (by omega)
 obtain ⟨i, hi'⟩ := Int.eq_ofNat_of_zero_le (show 0 ≤ Lib.indexByte s.data.toList 47 by omega)
 rcases h1 : decide (0 ≤ jp (s.extract (i + 1) s.size).data.toList)
 ·exact jf8 s _ _ i false _ _ _ w hs ha h hb hi' rfl rfl h1 rfl (by simp) rfl rfl
 rcases h2 : jr (s.extract 0 i).data.toList
 ·exact jf8 s _ _ i true false _ _ w hs ha h hb hi' rfl rfl h1 h2 rfl rfl rfl
 exact jj9 s _ _ i w hs ha h hb hi' rfl rfl (by simpa using h1) h2
def jna (s : ByteArray) (w : World) (e : Ending) (w' : World) : Prop :=
 w.grownBy w' none ∧ ((jo s = none ∧ e = .returned (.tuple #[.agg #[.string ⟨#[]⟩, .string ⟨#[]⟩, .string ⟨#[]⟩, .int .i64 0, .string ⟨#[]⟩], .int .i64 3])) ∨
 ∃ t k kd ad, jo s = some (t, k, kd, ad) ∧ e = .returned (.tuple #[.agg #[.string t, .string (t.extract 0 (k + 1)), .string (t.extract (k + 1) t.size), .int .i64 kd, .string ad], .int .i64 0]))
set_option maxRecDepth 100000 in
set_option maxHeartbeats 2000000 in
theorem jnm (s : ByteArray) (w : World) (hs : s.size < 4294967281) (ha : Ascii s) :
 Calls Tryz.prog 41 #[.string s] w (jna s w) := by
 go_enter Tryz.func41, Tryz.ntmps41
 go_wp2_with fail
 refine (jbd s _ hs ha).mono ?_
 rintro _ w1 ⟨hg, hpost⟩
 have hB := (Blk.new w 87 #[.string ⟨#[]⟩, .string ⟨#[]⟩, .string ⟨#[]⟩, .int .i64 0, .string ⟨#[]⟩]).grown hg (by simp)
 have hG := ja (World.grownBy_alloc w (.cells #[.string ⟨#[]⟩, .string ⟨#[]⟩, .string ⟨#[]⟩, .int .i64 0, .string ⟨#[]⟩] 87) none) hg
 clear hg
 obtain ⟨c0, c1, c2, c3, c4⟩ := hB.cells5
 have hf := hB.free
 have hlt := hB.lt
 rcases hpost with ⟨hn, rfl⟩ | ⟨t, k, kd, ad, hn, rfl⟩
 ·have HN := Lib.hid hn
  clear hn
  go_wp2_with fail
  obtain ⟨d0, d1, d2, d3, d4⟩ := ((hB.put5 (.string ⟨#[]⟩) (.string ⟨#[]⟩) (.string ⟨#[]⟩) (.int .i64 0) (.string ⟨#[]⟩)).alloc (.cells #[.string ⟨#[]⟩, .string ⟨#[]⟩, .string ⟨#[]⟩, .int .i64 0, .string ⟨#[]⟩] 87)).cells5
  refine bodyPost_ret (v := .tuple #[.agg #[.string ⟨#[]⟩, .string ⟨#[]⟩, .string ⟨#[]⟩, .int .i64 0, .string ⟨#[]⟩], .int .i64 3]) (by simp [results, Tryz.results41, go_sem, d0, d1, d2, d3, d4]) rfl ?_
  exact ⟨jd (qj hG (Nat.le_refl _) _ _ _ _ _) _, .inl ⟨HN.out, rfl⟩⟩
 have HN := Lib.hid hn
 clear hn
 go_wp2_with fail
 obtain ⟨d0, d1, d2, d3, d4⟩ := ((hB.put5 (.string t) (.string (t.extract 0 (k + 1))) (.string (t.extract (k + 1) t.size)) (.int .i64 kd) (.string ad)).alloc (.cells #[.string t, .string (t.extract 0 (k + 1)), .string (t.extract (k + 1) t.size), .int .i64 kd, .string ad] 87)).cells5
 refine bodyPost_ret (v := .tuple #[.agg #[.string t, .string (t.extract 0 (k + 1)), .string (t.extract (k + 1) t.size), .int .i64 kd, .string ad], .int .i64 0]) (by simp [results, Tryz.results41, go_sem, d0, d1, d2, d3, d4]) rfl ?_
 exact ⟨jd (qj hG (Nat.le_refl _) _ _ _ _ _) _, .inr ⟨t, k, kd, ad, HN.out, rfl⟩⟩
theorem jcw : jo ⟨#[111, 104, 50, 97, 98, 99, 47, 52]⟩ = some (⟨#[111, 104, 50, 97, 98, 99]⟩, 2, 2, ⟨#[52]⟩) := by decide +kernel
end Go.Proofs.YtbamhgaghngjiaaGreatDoor
namespace Go.Proofs.YtbamhgaghngjiaaGreatDoor
open Go.RowKit
set_option linter.unusedVariables false
set_option linter.unusedSimpArgs false

def xl (s : ByteArray) : Bool := (jo s).isSome
theorem jmj {s : ByteArray} {w w' : World} {e : Ending} (h : ju s w e w') : w.grownBy w' none ∧ ∃ (t0 t1 t2 t4 : ByteArray) (kd : Int), e = .returned (.tuple #[.agg #[.string t0, .string t1, .string t2, .int .i64 kd, .string t4], .bool (xl s)]) := by
 obtain ⟨hg, ⟨hn, he⟩ | ⟨t, k, kd, ad, hn, he⟩⟩ := h
 ·have hb : xl s = false := by unfold xl; rw [hn]; rfl
  rw [hb]
  exact ⟨hg, _, _, _, _, _, he⟩
 have hb : xl s = true := by unfold xl; rw [hn]; rfl
 rw [hb]
 exact ⟨hg, _, _, _, _, _, he⟩
set_option maxHeartbeats 1000000 in
theorem jf0 (s : ByteArray) (w : World) (hs : s.size < 4294967281) (ha : Ascii s) :
 Calls Tryz.prog 53 #[.string s] w fun e w' => e = .returned (.bool (xl s)) ∧ w.grownBy w' none := by
 have HP := Lib.hid ((jbd s w hs ha).mono fun e w' h => jmj h)
 clear hs ha
 generalize xl s = B at *
 go_enter Tryz.func53, Tryz.ntmps53
 go_wp2_with fail
 refine HP.out.mono ?_
 rintro _ w1 ⟨hg1, t0, t1, t2, t4, kd, rfl⟩
 have hG := jd hg1 (.cells #[.string t0, .string t1, .string t2, .int .i64 kd, .string t4] 87)
 go_wp2_with fail
 go_ret
 exact ⟨rfl, hG⟩
end Go.Proofs.YtbamhgaghngjiaaGreatDoor
