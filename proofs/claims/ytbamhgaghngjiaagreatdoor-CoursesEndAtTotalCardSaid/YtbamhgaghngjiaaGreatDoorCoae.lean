/- Plain law: the reference's base call is the program's; a base call is its own, stands in the call sign, and is its prefix and its suffix. No condition. The reference's way to take call signs apart: plain, begin, baseAt, the base's parts. Condition: strings of ASCII. The jm9 jo1 the reference's baseAt: the place of the last digit of a base call. Condition: a string of ASCII. The jm9 jo1 the closure of the reference's PartsOf: the parts of a base call. Condition: a base call of ASCII. The jm9 jo1 the reference's PartsOf: it takes call signs apart as the program does. Condition: a string of ASCII. The jm9 jo1 the reference's PartsOf, with a slash. Condition: a string of ASCII. The jm9 jo1 the reference's PartsOf, with a slash, where it is no begin ahead of a base call; printed by gen_parts.py. Condition: a string of ASCII. The reference takes call signs apart as the program does: PartsOf, IsCall. Condition: a string of ASCII. -/
import Derived.Test.YtbamhgaghngjiaaGreatDoorCoad
import Derived.Lib.IndexMore
namespace Go.Proofs.YtbamhgaghngjiaaGreatDoor
set_option linter.unusedVariables false

theorem jdo (cs : List UInt8) : ∀ l : List UInt8, Lib.containsAny l cs = l.any cs.contains
 | [] => by simp [Lib.containsAny, Lib.indexAny]
 | c :: r => by
   have ih := jdo cs r
   have hg := Lib.indexAny_ge cs r
   unfold Lib.containsAny at ih ⊢
   unfold Lib.indexAny
   rw [List.any_cons, ← ih]
   cases h : cs.contains c
   ·simp only [Bool.false_eq_true, if_false, Bool.false_or]
    split
    ·rename_i h1
     have : Lib.indexAny r cs = -1 := by simpa using h1
     rw [this]
    rename_i h1
    have : Lib.indexAny r cs ≠ -1 := by simpa using h1
    congr 1
    simp only [eq_iff_iff]
    omega
   simp
theorem jsb (c : UInt8) : smallL.contains c = ltB c := by
 have h : ∀ n : Fin 256, smallL.contains (UInt8.ofNat n.val) = ltB (UInt8.ofNat n.val) := by decide +kernel
 have := h ⟨c.toNat, c.toNat_lt⟩
 simpa using this
def plL : List UInt8 := smallL ++ [48, 49, 50, 51, 52, 53, 54, 55, 56, 57]
theorem jvz (c : UInt8) : plL.contains c = plB c := by
 have h : ∀ n : Fin 256, plL.contains (UInt8.ofNat n.val) = plB (UInt8.ofNat n.val) := by decide +kernel
 have := h ⟨c.toNat, c.toNat_lt⟩
 simpa using this
theorem jnl (l : List UInt8) : l.any smallL.contains = decide (0 < xn l) := by
 induction l with
 | nil => rfl
 | cons c r ih =>
   rw [List.any_cons, ih, jsb]
   unfold xn
   rw [List.countP_cons]
   cases ltB c <;> simp
theorem jve (l : List UInt8) : l.all plL.contains = qz l := by
 unfold qz
 congr 1
 funext c
 exact jvz c
def y9 (l : List UInt8) (low high : Int) : Bool := decide (low ≤ (l.length : Int) ∧ (l.length : Int) ≤ high) && qz l && decide (0 < xn l)
theorem jjh (l : List UInt8) : y9 l 1 4 = jr l := by
 unfold y9 jr
 have := jrq l
 by_cases h : 0 < xn l
 ·have h1 : 1 ≤ (l.length : Int) := by omega
  by_cases h2 : l.length ≤ 4
  ·have h3 : (l.length : Int) ≤ 4 := by omega
   first
    | (simp [h, h1, h2, h3]; done)
    | (simp [h, h1, h2, h3]; omega)
  have h3 : ¬ (l.length : Int) ≤ 4 := by omega
  simp [h2, h3]
 simp [h]
def jjf (l : List UInt8) : Int :=
 let k := qg dgB l
 if y9 l 3 10 = true ∧ (1 ≤ k ∧ k ≤ 3) ∧ (1 ≤ (l.length : Int) - 1 - k ∧ (l.length : Int) - 1 - k ≤ 4) ∧ 0 < xn (l.take k.toNat) then k else -1
theorem jqf (l : List UInt8) : jjf l = jp l := by
 unfold jjf jp
 simp only
 have hsub : xn (l.take (qg dgB l).toNat) ≤ xn l := (List.take_sublist _ _).countP_le
 split
 ·rename_i h
  obtain ⟨h1, h2, h3, h4⟩ := h
  unfold y9 at h1
  simp only [Bool.and_eq_true, decide_eq_true_eq] at h1
  rw [if_pos ⟨h1.1.2, by omega, by omega, by omega, by omega, by omega, h4⟩]
 rename_i h
 rw [if_neg]
 rintro ⟨h1, h2, h3, h4, h5, h6, h7⟩
 refine h ⟨?_, ⟨h3, h4⟩, ⟨by omega, by omega⟩, h7⟩
 unfold y9
 simp only [Bool.and_eq_true, decide_eq_true_eq]
 exact ⟨⟨⟨by omega, by omega⟩, h1⟩, by omega⟩
end Go.Proofs.YtbamhgaghngjiaaGreatDoor

namespace Go.Proofs.YtbamhgaghngjiaaGreatDoor
open Go.RowKit
set_option linter.unusedVariables false
set_option linter.unusedSimpArgs false

theorem jp0 (s : ByteArray) (w : World) (hs : s.size ≤ 1000000000) : Calls Tryz.prog 82 #[.string s, .string ⟨#[97, 98, 99, 100, 101, 102, 103, 104, 105, 106, 107, 108, 109, 110, 111, 112, 113, 114, 115, 116, 117, 118, 119, 120, 121, 122, 48, 49, 50, 51, 52, 53, 54, 55, 56, 57]⟩] w fun e w' => e = .returned (.string ⟨(Lib.trimS s.data.toList plL).toArray⟩) ∧ w.grownBy w' none :=
 jlo s _ w (by omega) (by decide) (by decide +kernel)
theorem jga (l : List UInt8) : ((⟨(Lib.trimS l plL).toArray⟩ : ByteArray).toList.isEmpty) = qz l := by
 rw [ByteArray.toList_eq]
 have h : (⟨(Lib.trimS l plL).toArray⟩ : ByteArray).data.toList = Lib.trimS l plL := by simp
 rw [h, ← jve]
 cases h2 : l.all plL.contains
 ·have := jc1 l plL
  rw [h2] at this
  cases h3 : Lib.trimS l plL with
  | nil => exact absurd (this.1 h3) (by simp)
  | cons a r => rfl
 rw [(jc1 l plL).2 h2]; rfl
theorem jkp : ∀ (j : Nat) b, (⟨#[97, 98, 99, 100, 101, 102, 103, 104, 105, 106, 107, 108, 109, 110, 111, 112, 113, 114, 115, 116, 117, 118, 119, 120, 121, 122]⟩ : ByteArray).data.toList[j]? = some b → b.toNat < 128 := by
 intro j b h
 have hm := List.mem_of_getElem? h
 have hall : ∀ b ∈ (⟨#[97, 98, 99, 100, 101, 102, 103, 104, 105, 106, 107, 108, 109, 110, 111, 112, 113, 114, 115, 116, 117, 118, 119, 120, 121, 122]⟩ : ByteArray).data.toList, b.toNat < 128 := by decide +kernel
 exact hall b hm
theorem jcp (s : ByteArray) (w : World) (hs : s.size < 4294967281) (ha : Ascii s) :
 Calls Tryz.prog 182 #[.string s, .string ⟨#[97, 98, 99, 100, 101, 102, 103, 104, 105, 106, 107, 108, 109, 110, 111, 112, 113, 114, 115, 116, 117, 118, 119, 120, 121, 122]⟩] w fun e w' => e = .returned (.bool (decide (0 < xn s.data.toList))) ∧ w.grownBy w' none := by
 refine (Tryz.strings_ContainsAny_laid s _ w hs (by decide) ha jkp).mono ?_
 rintro e w' ⟨he, hb⟩
 refine ⟨?_, jep hb⟩
 rw [he, jdo]
 have : s.data.toList.any (List.contains (⟨#[97, 98, 99, 100, 101, 102, 103, 104, 105, 106, 107, 108, 109, 110, 111, 112, 113, 114, 115, 116, 117, 118, 119, 120, 121, 122]⟩ : ByteArray).data.toList) = decide (0 < xn s.data.toList) := jnl s.data.toList
 rw [this]
set_option maxRecDepth 100000 in
set_option maxHeartbeats 1000000 in
theorem jdu (s : ByteArray) (low high : Int) (w : World) (hs : s.size ≤ 1000000000) (ha : Ascii s) :
 Calls Tryz.prog 130 #[.string s, .int .i64 low, .int .i64 high] w fun e w' => e = .returned (.bool (y9 s.data.toList low high)) ∧ w.grownBy w' none := by
 have hin : Hid (∀ W : World, Calls Tryz.prog 38 #[.int .i64 s.size, .int .i64 low, .int .i64 high] W fun e w' => e = .returned (.bool (!qu s.size low high)) ∧ W = w') := fun W => xx _ _ _ W
 by_cases h1 : low ≤ (s.size : Int) ∧ (s.size : Int) ≤ high
 ·have hb : qu s.size low high = false := zx h1.1 h1.2
  cases h2 : qz s.data.toList
  ·have HR : Hid (y9 s.data.toList low high = false) := by show _ = _; unfold y9; rw [h2]; simp
   have HT : Hid ((⟨(Lib.trimS s.data.toList plL).toArray⟩ : ByteArray).toList.isEmpty = false) := by show _ = _; rw [jga, h2]
   obtain ⟨T, hT⟩ : ∃ T : ByteArray, (⟨(Lib.trimS s.data.toList plL).toArray⟩ : ByteArray) = T := ⟨_, rfl⟩
   rw [hT] at HT
   have HTR : Hid (∀ W : World, Calls Tryz.prog 82 #[.string s, .string ⟨#[97, 98, 99, 100, 101, 102, 103, 104, 105, 106, 107, 108, 109, 110, 111, 112, 113, 114, 115, 116, 117, 118, 119, 120, 121, 122, 48, 49, 50, 51, 52, 53, 54, 55, 56, 57]⟩] W fun e w' => e = .returned (.string T) ∧ W.grownBy w' none) := fun W => by rw [← hT]; exact jp0 s W hs
   have hT2 := HT.out
   clear hT h2
   go_enter Tryz.func130, Tryz.ntmps130
   go_wp2_with fail
   refine (hin.out _).mono ?_
   rintro _ _ ⟨rfl, rfl⟩
   rw [hb]
   go_wp2_with fail
   refine (HTR.out _).mono ?_
   rintro _ w1 ⟨rfl, hg1⟩
   go_wp2_with fail
   go_ret
   exact ⟨ys HR.out.symm, hg1⟩
  have HR : Hid (y9 s.data.toList low high = decide (0 < xn s.data.toList)) := by
   show _ = _
   unfold y9
   rw [h2]
   have hsz := zw s
   have h3 : low ≤ (s.data.toList.length : Int) ∧ (s.data.toList.length : Int) ≤ high := by omega
   rw [decide_eq_true h3, Bool.true_and, Bool.true_and]
  have HT : Hid ((⟨(Lib.trimS s.data.toList plL).toArray⟩ : ByteArray).toList.isEmpty = true) := by show _ = _; rw [jga, h2]
  obtain ⟨T, hT⟩ : ∃ T : ByteArray, (⟨(Lib.trimS s.data.toList plL).toArray⟩ : ByteArray) = T := ⟨_, rfl⟩
  rw [hT] at HT
  have HTR : Hid (∀ W : World, Calls Tryz.prog 82 #[.string s, .string ⟨#[97, 98, 99, 100, 101, 102, 103, 104, 105, 106, 107, 108, 109, 110, 111, 112, 113, 114, 115, 116, 117, 118, 119, 120, 121, 122, 48, 49, 50, 51, 52, 53, 54, 55, 56, 57]⟩] W fun e w' => e = .returned (.string T) ∧ W.grownBy w' none) := fun W => by rw [← hT]; exact jp0 s W hs
  have hT2 := HT.out
  have HA := Lib.hid ha
  clear hT h2 ha
  go_enter Tryz.func130, Tryz.ntmps130
  go_wp2_with fail
  refine (hin.out _).mono ?_
  rintro _ _ ⟨rfl, rfl⟩
  rw [hb]
  go_wp2_with fail
  refine (HTR.out _).mono ?_
  rintro _ w1 ⟨rfl, hg1⟩
  have hT3 : T.toList = [] := by simpa using hT2
  go_wp2_with fail
  refine (jcp s _ (by omega) HA.out).mono ?_
  rintro _ w2 ⟨rfl, hg2⟩
  go_wp2_with fail
  go_ret
  exact ⟨ys HR.out.symm, ja hg1 hg2⟩
 have hb : qu s.size low high = true := xq (by omega)
 have HR : Hid (y9 s.data.toList low high = false) := by
  show _ = _
  unfold y9
  have hsz := zw s
  have h3 : ¬ (low ≤ (s.data.toList.length : Int) ∧ (s.data.toList.length : Int) ≤ high) := by omega
  rw [decide_eq_false h3, Bool.false_and, Bool.false_and]
 go_enter Tryz.func130, Tryz.ntmps130
 go_wp2_with fail
 refine (hin.out _).mono ?_
 rintro _ _ ⟨rfl, rfl⟩
 rw [hb]
 go_wp2_with fail
 go_ret
 exact ⟨ys HR.out.symm, jf _ _⟩
theorem jw (s : ByteArray) (w : World) (hs : s.size ≤ 1000000000) (ha : Ascii s) :
 Calls Tryz.prog 80 #[.string s] w fun e w' => e = .returned (.bool (jr s.data.toList)) ∧ w.grownBy w' none := by
 have HA := Lib.hid ha
 clear ha
 go_enter Tryz.func80, Tryz.ntmps80
 go_wp2_with fail
 refine (jdu s 1 4 _ hs HA.out).mono ?_
 rintro _ w1 ⟨rfl, hg1⟩
 rw [jjh]
 go_wp2_with fail
 go_ret
 exact ⟨rfl, hg1⟩
end Go.Proofs.YtbamhgaghngjiaaGreatDoor

namespace Go.Proofs.YtbamhgaghngjiaaGreatDoor
open Go.RowKit
set_option linter.unusedVariables false
set_option linter.unusedSimpArgs false

theorem jqg {l : List UInt8} (h : ¬ (y9 l 3 10 = true ∧ (1 ≤ qg dgB l ∧ qg dgB l ≤ 3) ∧ (1 ≤ (l.length : Int) - 1 - qg dgB l ∧ (l.length : Int) - 1 - qg dgB l ≤ 4) ∧ 0 < xn (l.take (qg dgB l).toNat))) : jjf l = -1 := by
 unfold jjf; simp only; rw [if_neg h]
theorem jno {l : List UInt8} (h : y9 l 3 10 = true ∧ (1 ≤ qg dgB l ∧ qg dgB l ≤ 3) ∧ (1 ≤ (l.length : Int) - 1 - qg dgB l ∧ (l.length : Int) - 1 - qg dgB l ≤ 4) ∧ 0 < xn (l.take (qg dgB l).toNat)) : jjf l = qg dgB l := by
 unfold jjf; simp only; rw [if_pos h]
set_option maxRecDepth 100000 in
set_option maxHeartbeats 2000000 in
theorem jm (s : ByteArray) (w : World) (hs : s.size ≤ 1000000000) (ha : Ascii s) :
 Calls Tryz.prog 180 #[.string s] w fun e w' => e = .returned (.int .i64 (jp s.data.toList)) ∧ w.grownBy w' none := by
 rw [← jqf]
 have HA := Lib.hid ha
 have hbd := jk5 dgB s.data.toList
 rw [← zw] at hbd
 have HNO := Lib.hid (@jqg s.data.toList)
 have HYES := Lib.hid (@jno s.data.toList)
 rw [← zw] at HNO HYES
 have HLAST : Hid (∀ W : World, Calls Tryz.prog 206 #[.string s, .string ⟨#[48, 49, 50, 51, 52, 53, 54, 55, 56, 57]⟩] W fun e w' => e = .returned (.int .i64 (qg dgB s.data.toList)) ∧ W.grownBy w' none) := fun W => yo s W (by omega) HA.out
 have HPL : Hid (∀ W : World, Calls Tryz.prog 130 #[.string s, .int .i64 3, .int .i64 10] W fun e w' => e = .returned (.bool (y9 s.data.toList 3 10)) ∧ W.grownBy w' none) := fun W => jdu s 3 10 W hs HA.out
 obtain ⟨R, hR⟩ : ∃ R, jjf s.data.toList = R := ⟨_, rfl⟩
 rw [hR] at HNO HYES ⊢
 obtain ⟨k, hk⟩ : ∃ k, qg dgB s.data.toList = k := ⟨_, rfl⟩
 rw [hk] at HNO HYES HLAST hbd
 obtain ⟨hb0, hb1⟩ := hbd
 clear ha hR hk
 rcases hp : y9 s.data.toList 3 10
 ·have hr : R = -1 := HNO.out (fun h => by rw [hp] at h; simp at h)
  rw [hp] at HPL
  clear hp HNO HYES
  subst hr
  go_enter Tryz.func180, Tryz.ntmps180
  go_wp2_with fail
  refine (HLAST.out _).mono ?_
  rintro _ w1 ⟨rfl, hg1⟩
  go_wp2_with fail
  refine (HPL.out _).mono ?_
  rintro _ w2 ⟨rfl, hg2⟩
  go_wp2_with fail
  go_ret
  exact ⟨rfl, ja hg1 hg2⟩
 rw [hp] at HPL
 have HP := Lib.hid hp
 clear hp
 by_cases h1 : 1 ≤ k ∧ k ≤ 3
 ·have ho1 : (!qu k 1 3) = true := by rw [zx h1.1 h1.2]; rfl
  by_cases h2 : 1 ≤ (s.size : Int) - 1 - k ∧ (s.size : Int) - 1 - k ≤ 4
  ·have ho2 : (!qu ((s.size : Int) - 1 - k) 1 4) = true := by rw [zx h2.1 h2.2]; rfl
   obtain ⟨q, rfl⟩ := Int.eq_ofNat_of_zero_le (show 0 ≤ k by omega)
   have HCT : Hid (∀ W : World, Calls Tryz.prog 182 #[.string (s.extract 0 q), .string ⟨#[97, 98, 99, 100, 101, 102, 103, 104, 105, 106, 107, 108, 109, 110, 111, 112, 113, 114, 115, 116, 117, 118, 119, 120, 121, 122]⟩] W fun e w' => e = .returned (.bool (decide (0 < xn (s.data.toList.take q)))) ∧ W.grownBy w' none) := fun W => by
    have h := jcp (s.extract 0 q) W (by have h1 := zw (s.extract 0 q); rw [jcs, List.length_take] at h1; omega) (HA.out.take q)
    rw [jcs] at h
    exact h
   have hqs : (q : Int) ≤ (s.size : Int) := by omega
   have hq0 : (0 : Int) ≤ (q : Int) := by omega
   by_cases h3 : 0 < xn (s.data.toList.take q)
   ·have hr : R = (q : Int) := HYES.out ⟨HP.out, h1, h2, by simpa using h3⟩
    rw [decide_eq_true h3] at HCT
    clear HNO HYES h3
    subst hr
    go_enter Tryz.func180, Tryz.ntmps180
    go_wp2_with fail
    refine (HLAST.out _).mono ?_
    rintro _ w1 ⟨rfl, hg1⟩
    go_wp2_with fail
    refine (HPL.out _).mono ?_
    rintro _ w2 ⟨rfl, hg2⟩
    go_wp2_with fail
    refine (xx _ 1 3 _).mono ?_
    rintro _ _ ⟨rfl, rfl⟩
    rw [ho1]
    go_wp2_with fail
    refine (xx _ 1 4 _).mono ?_
    rintro _ _ ⟨rfl, rfl⟩
    rw [ho2]
    go_wp2_with fail
    refine (HCT.out _).mono ?_
    rintro _ w3 ⟨rfl, hg3⟩
    go_wp2_with fail
    go_ret
    exact ⟨rfl, ja (ja hg1 hg2) hg3⟩
   have hr : R = -1 := HNO.out (fun h => h3 (by simpa using h.2.2.2))
   rw [decide_eq_false h3] at HCT
   clear HNO HYES h3
   subst hr
   go_enter Tryz.func180, Tryz.ntmps180
   go_wp2_with fail
   refine (HLAST.out _).mono ?_
   rintro _ w1 ⟨rfl, hg1⟩
   go_wp2_with fail
   refine (HPL.out _).mono ?_
   rintro _ w2 ⟨rfl, hg2⟩
   go_wp2_with fail
   refine (xx _ 1 3 _).mono ?_
   rintro _ _ ⟨rfl, rfl⟩
   rw [ho1]
   go_wp2_with fail
   refine (xx _ 1 4 _).mono ?_
   rintro _ _ ⟨rfl, rfl⟩
   rw [ho2]
   go_wp2_with fail
   refine (HCT.out _).mono ?_
   rintro _ w3 ⟨rfl, hg3⟩
   go_wp2_with fail
   go_ret
   exact ⟨rfl, ja (ja hg1 hg2) hg3⟩
  have ho2 : (!qu ((s.size : Int) - 1 - k) 1 4) = false := by rw [xq (by omega)]; rfl
  have hr : R = -1 := HNO.out (fun h => h2 h.2.2.1)
  clear HNO HYES
  subst hr
  go_enter Tryz.func180, Tryz.ntmps180
  go_wp2_with fail
  refine (HLAST.out _).mono ?_
  rintro _ w1 ⟨rfl, hg1⟩
  go_wp2_with fail
  refine (HPL.out _).mono ?_
  rintro _ w2 ⟨rfl, hg2⟩
  go_wp2_with fail
  refine (xx _ 1 3 _).mono ?_
  rintro _ _ ⟨rfl, rfl⟩
  rw [ho1]
  go_wp2_with fail
  refine (xx _ 1 4 _).mono ?_
  rintro _ _ ⟨rfl, rfl⟩
  rw [ho2]
  go_wp2_with fail
  go_ret
  exact ⟨rfl, ja hg1 hg2⟩
 have ho1 : (!qu k 1 3) = false := by rw [xq (by omega)]; rfl
 have hr : R = -1 := HNO.out (fun h => h1 h.2.1)
 clear HNO HYES
 subst hr
 go_enter Tryz.func180, Tryz.ntmps180
 go_wp2_with fail
 refine (HLAST.out _).mono ?_
 rintro _ w1 ⟨rfl, hg1⟩
 go_wp2_with fail
 refine (HPL.out _).mono ?_
 rintro _ w2 ⟨rfl, hg2⟩
 go_wp2_with fail
 refine (xx _ 1 3 _).mono ?_
 rintro _ _ ⟨rfl, rfl⟩
 rw [ho1]
 go_wp2_with fail
 go_ret
 exact ⟨rfl, ja hg1 hg2⟩
end Go.Proofs.YtbamhgaghngjiaaGreatDoor

namespace Go.Proofs.YtbamhgaghngjiaaGreatDoor
open Go.RowKit
set_option linter.unusedVariables false
set_option linter.unusedSimpArgs false

set_option maxRecDepth 100000 in
set_option maxHeartbeats 2000000 in
theorem j2 (s : ByteArray) (k : Nat) (w : World) (hs : s.size ≤ 1000000000) (ha : Ascii s) (hb : jp s.data.toList = k) :
 Calls Tryz.prog 179 #[.string s] w fun e w' => e = .returned (.agg #[.string s, .string (s.extract 0 (k + 1)), .string (s.extract (k + 1) s.size), .int .i64 0, .string ⟨#[]⟩]) ∧ w.grownBy w' none := by
 have hl : s.data.toList.length = s.size := by simp
 have hk1 : k + 1 ≤ s.size := by
  have := xk s.data.toList
  rw [hb, hl] at this
  omega
 have HB := Lib.hid hb
 have HA := Lib.hid ha
 have e1 : IntKind.i64.wrap ((k : Int) + 1) = (k : Int) + 1 := IntWalk.i64_in _ ⟨by omega, by omega⟩
 have e2 : ((k : Int) + 1).toNat = k + 1 := by omega
 have e3 : (0 : Int) ≤ (k : Int) + 1 := by omega
 have e4 : (k : Int) + 1 ≤ (s.size : Int) := by omega
 clear hb hl ha
 go_enter Tryz.func179, Tryz.ntmps179
 go_wp2_with fail
 refine (jm s _ hs HA.out).mono ?_
 rintro _ w1 ⟨rfl, hg⟩
 rw [HB.out]
 have hB := (Blk.new w 87 #[.string ⟨#[]⟩, .string ⟨#[]⟩, .string ⟨#[]⟩, .int .i64 0, .string ⟨#[]⟩]).grown hg (by simp)
 have c0 := hB.cell 0
 have c1 := hB.cell 1
 have c2 := hB.cell 2
 have c3 := hB.cell 3
 have c4 := hB.cell 4
 have f0 := hB.free 0
 have f1 := hB.free 1
 have f2 := hB.free 2
 have f3 := hB.free 3
 have f4 := hB.free 4
 simp only [geA, geZ, geS] at c0 c1 c2 c3 c4
 go_wp2_with fail
 go_region
 go_wp2_with fail
 refine bodyPost_ret (v := .agg #[.string s, .string (s.extract 0 (k + 1)), .string (s.extract (k + 1) s.size), .int .i64 0, .string ⟨#[]⟩]) (by simp [results, Tryz.results179, go_sem, c0, c1, c2, c3, c4]) rfl ?_
 refine ⟨rfl, ?_⟩
 have hg0 := ja (World.grownBy_alloc w _ none) hg
 exact jn (jg (jg (jg (jg (jg hg0 (.inr (Nat.le_refl _)) _) (.inr (Nat.le_refl _)) _) (.inr (Nat.le_refl _)) _) (.inr (Nat.le_refl _)) _) (.inr (Nat.le_refl _)) _)
end Go.Proofs.YtbamhgaghngjiaaGreatDoor

namespace Go.Proofs.YtbamhgaghngjiaaGreatDoor
open Go.RowKit
set_option linter.unusedVariables false
set_option linter.unusedSimpArgs false

theorem jdg {s : ByteArray} {i : Nat} (hi : Lib.indexByte s.data.toList 47 = (i : Int)) : ¬ 0 ≤ jp s.data.toList := by
 intro h
 have h1 := (Lib.indexByte_some hi).1
 rcases xk s.data.toList with h2 | ⟨_, h2, _⟩
 ·omega
 have h3 := List.all_eq_true.1 h2 47 (List.mem_of_getElem? h1)
 exact absurd h3 (by decide)
set_option maxRecDepth 100000 in
set_option maxHeartbeats 4000000 in
theorem jcy (s a b : ByteArray) (f : Bool) (w : World) (h : 14 < s.size) (HC : ∀ W : World, Calls Tryz.prog 144 #[.string s, .string ⟨#[47]⟩] W fun e w' => e = .returned (.tuple #[.string a, .string b, .bool f]) ∧ W.grownBy w' none) :
 Calls Tryz.prog 126 #[.string s] w (ju s w) := by
 have h14 : (14 : Int) < (s.size : Int) := by omega
 have HP := Lib.hid (jds h)
 have HC' := Lib.hid HC
 clear HC h
 go_enter Tryz.func126, Tryz.ntmps126
 go_wp2_with fail
 refine (HC'.out _).mono ?_
 rintro _ w1 ⟨rfl, hg⟩
 have hB := (Blk.new w 87 #[.string ⟨#[]⟩, .string ⟨#[]⟩, .string ⟨#[]⟩, .int .i64 0, .string ⟨#[]⟩]).grown hg (by simp)
 have hG := ja (World.grownBy_alloc w (.cells #[.string ⟨#[]⟩, .string ⟨#[]⟩, .string ⟨#[]⟩, .int .i64 0, .string ⟨#[]⟩] 87) none) hg
 have hf := hB.free
 obtain ⟨c0, c1, c2, c3, c4⟩ := hB.cells5
 clear hg
 go_wp2_with fail
 refine bodyPost_ret (v := .tuple #[.agg #[.string ⟨#[]⟩, .string ⟨#[]⟩, .string ⟨#[]⟩, .int .i64 0, .string ⟨#[]⟩], .bool false]) (by simp [results, Tryz.results126, go_sem, c0, c1, c2, c3, c4]) rfl ?_
 exact yg HP.out (qj hG (Nat.le_refl _) _ _ _ _ _)
set_option maxRecDepth 100000 in
set_option maxHeartbeats 4000000 in
theorem jg8 (s : ByteArray) (w : World) (hs : s.size ≤ 1000000000) (ha : Ascii s) (h : ¬ 14 < s.size) (hi : Lib.indexByte s.data.toList 47 = -1) :
 Calls Tryz.prog 126 #[.string s] w (ju s w) := by
 have h14 : ¬ (14 : Int) < (s.size : Int) := by omega
 have HC : Hid (∀ W : World, Calls Tryz.prog 144 #[.string s, .string ⟨#[47]⟩] W fun e w' => e = .returned (.tuple #[.string s, .string ⟨#[]⟩, .bool false]) ∧ W.grownBy w' none) := fun W => jgs s 47 W (by omega) hi
 have HA := Lib.hid ha
 by_cases hb : 0 ≤ jp s.data.toList
 ·obtain ⟨k, hk⟩ := Int.eq_ofNat_of_zero_le hb
  have HP : Hid (jo s = some (s, k, 0, ⟨#[]⟩)) := by show _ = _; rw [jdq h hb, hk]; rfl
  have HK := Lib.hid hk
  have hk0 : ¬ (k : Int) < 0 := by omega
  clear ha h hi hb hk
  go_enter Tryz.func126, Tryz.ntmps126
  go_wp2_with fail
  refine (HC.out _).mono ?_
  rintro _ w1 ⟨rfl, hg⟩
  have hB := (Blk.new w 87 #[.string ⟨#[]⟩, .string ⟨#[]⟩, .string ⟨#[]⟩, .int .i64 0, .string ⟨#[]⟩]).grown hg (by simp)
  have hG := ja (World.grownBy_alloc w (.cells #[.string ⟨#[]⟩, .string ⟨#[]⟩, .string ⟨#[]⟩, .int .i64 0, .string ⟨#[]⟩] 87) none) hg
  clear hg
  go_wp2_with fail
  refine (jm s _ hs HA.out).mono ?_
  rintro _ w2 ⟨rfl, hg⟩
  rw [HK.out]
  replace hB := hB.grown hg (by simp)
  replace hG := ja hG hg
  clear hg
  go_wp2_with fail
  refine (j2 s k _ hs HA.out HK.out).mono ?_
  rintro _ w3 ⟨rfl, hg⟩
  replace hB := hB.grown hg (by simp)
  replace hG := ja hG hg
  clear hg
  have hf := hB.free
  obtain ⟨c0, c1, c2, c3, c4⟩ := hB.cells5
  go_wp2_with fail
  refine bodyPost_ret (v := .tuple #[.agg #[.string s, .string (s.extract 0 (k + 1)), .string (s.extract (k + 1) s.size), .int .i64 0, .string ⟨#[]⟩], .bool true]) (by simp [results, Tryz.results126, go_sem, c0, c1, c2, c3, c4]) rfl ?_
  exact ql HP.out (qj hG (Nat.le_refl _) _ _ _ _ _)
 have hbn : jp s.data.toList = -1 := by
  rcases xk s.data.toList with h1 | ⟨_, _, _, h1, _⟩
  ·exact h1
  omega
 have HP : Hid (jo s = none) := jdp h hb (by omega)
 have HK := Lib.hid hbn
 clear ha h hi hb hbn
 go_enter Tryz.func126, Tryz.ntmps126
 go_wp2_with fail
 refine (HC.out _).mono ?_
 rintro _ w1 ⟨rfl, hg⟩
 have hB := (Blk.new w 87 #[.string ⟨#[]⟩, .string ⟨#[]⟩, .string ⟨#[]⟩, .int .i64 0, .string ⟨#[]⟩]).grown hg (by simp)
 have hG := ja (World.grownBy_alloc w (.cells #[.string ⟨#[]⟩, .string ⟨#[]⟩, .string ⟨#[]⟩, .int .i64 0, .string ⟨#[]⟩] 87) none) hg
 clear hg
 go_wp2_with fail
 refine (jm s _ hs HA.out).mono ?_
 rintro _ w2 ⟨rfl, hg⟩
 rw [HK.out]
 replace hB := hB.grown hg (by simp)
 replace hG := ja hG hg
 clear hg
 have hf := hB.free
 obtain ⟨c0, c1, c2, c3, c4⟩ := hB.cells5
 go_wp2_with fail
 refine bodyPost_ret (v := .tuple #[.agg #[.string ⟨#[]⟩, .string ⟨#[]⟩, .string ⟨#[]⟩, .int .i64 0, .string ⟨#[]⟩], .bool false]) (by simp [results, Tryz.results126, go_sem, c0, c1, c2, c3, c4]) rfl ?_
 exact yg HP.out (qj hG (Nat.le_refl _) _ _ _ _ _)
end Go.Proofs.YtbamhgaghngjiaaGreatDoor

namespace Go.Proofs.YtbamhgaghngjiaaGreatDoor
open Go.RowKit
set_option linter.unusedVariables false
set_option linter.unusedSimpArgs false

set_option maxRecDepth 100000 in
set_option maxHeartbeats 4000000 in
theorem jfj (s a b : ByteArray) (i : Nat) (w : World) (hs : s.size ≤ 1000000000) (ha : Ascii s) (h : ¬ 14 < s.size) (hi : Lib.indexByte s.data.toList 47 = (i : Int))
 (hea : s.extract 0 i = a) (heb : s.extract (i + 1) s.size = b) (h1 : 0 ≤ jp b.data.toList) (h2 : jr a.data.toList = true) :
 Calls Tryz.prog 126 #[.string s] w (ju s w) := by
 have h14 : ¬ (14 : Int) < (s.size : Int) := by omega
 have has : a.size ≤ 1000000000 := by rw [← hea]; simp; omega
 have hbs : b.size ≤ 1000000000 := by rw [← heb]; simp; omega
 have haa := Lib.hid (show Ascii a by rw [← hea]; exact ha.take _)
 have hba := Lib.hid (show Ascii b by rw [← heb]; exact ha.drop _)
 obtain ⟨k, hk⟩ := Int.eq_ofNat_of_zero_le h1
 have HP : Hid (jo s = some (b, k, 1, a)) := by
  show _ = _
  rw [zl h (jdg hi) hi, hea, heb, if_pos ⟨h1, h2⟩, hk]; rfl
 have HC : Hid (∀ W : World, Calls Tryz.prog 144 #[.string s, .string ⟨#[47]⟩] W fun e w' => e = .returned (.tuple #[.string a, .string b, .bool true]) ∧ W.grownBy w' none) := fun W => by
  have := qr s 47 i W (by omega) hi
  rw [hea, heb] at this
  exact this
 have HK := Lib.hid hk
 have H2 := Lib.hid h2
 have hk0 : (0 : Int) ≤ (k : Int) := by omega
 clear hi hea heb h1 h2 ha h hk
 go_enter Tryz.func126, Tryz.ntmps126
 go_wp2_with fail
 refine (HC.out _).mono ?_
 rintro _ w1 ⟨rfl, hg⟩
 have hB := (Blk.new w 87 #[.string ⟨#[]⟩, .string ⟨#[]⟩, .string ⟨#[]⟩, .int .i64 0, .string ⟨#[]⟩]).grown hg (by simp)
 have hG := ja (World.grownBy_alloc w (.cells #[.string ⟨#[]⟩, .string ⟨#[]⟩, .string ⟨#[]⟩, .int .i64 0, .string ⟨#[]⟩] 87) none) hg
 clear hg
 go_wp2_with fail
 refine (jm b _ hbs hba.out).mono ?_
 rintro _ w2 ⟨rfl, hg⟩
 rw [HK.out]
 replace hB := hB.grown hg (by simp)
 replace hG := ja hG hg
 clear hg
 go_wp2_with fail
 refine (jw a _ has haa.out).mono ?_
 rintro _ w3 ⟨rfl, hg⟩
 rw [H2.out]
 replace hB := hB.grown hg (by simp)
 replace hG := ja hG hg
 clear hg
 go_wp2_with fail
 refine (j2 b k _ hbs hba.out HK.out).mono ?_
 rintro _ w4 ⟨rfl, hg⟩
 replace hB := hB.grown hg (by simp)
 replace hG := ja hG hg
 clear hg
 have hlt := hB.lt
 have hf := hB.free
 obtain ⟨c0, c1, c2, c3, c4⟩ := hB.cells5
 go_wp2_with fail
 obtain ⟨d0, d1, d2, d3, d4⟩ := ((hB.put5 (.string b) (.string (b.extract 0 (k + 1))) (.string (b.extract (k + 1) b.size)) (.int .i64 1) (.string a)).alloc (.cells #[.string b, .string (b.extract 0 (k + 1)), .string (b.extract (k + 1) b.size), .int .i64 1, .string a] 87)).cells5
 refine bodyPost_ret (v := .tuple #[.agg #[.string b, .string (b.extract 0 (k + 1)), .string (b.extract (k + 1) b.size), .int .i64 1, .string a], .bool true]) (by simp [results, Tryz.results126, go_sem, d0, d1, d2, d3, d4]) rfl ?_
 exact ql HP.out (jd (qj hG (Nat.le_refl _) _ _ _ _ _) _)
end Go.Proofs.YtbamhgaghngjiaaGreatDoor

namespace Go.Proofs.YtbamhgaghngjiaaGreatDoor
open Go.RowKit
set_option linter.unusedVariables false
set_option linter.unusedSimpArgs false

theorem jc8 (c : UInt8) (W : World) : Calls Tryz.prog 181 #[.string ⟨#[48, 49, 50, 51, 52, 53, 54, 55, 56, 57]⟩, .string ⟨#[c]⟩] W fun e w' => e = .returned (.bool (dgB c)) ∧ W = w' :=
 (Tryz.strings_Contains_one _ c W).mono fun e w' ⟨he, hw⟩ => ⟨by
  rw [he]
  have h : ∀ n : Fin 256, decide (0 ≤ Lib.indexByte (⟨#[48, 49, 50, 51, 52, 53, 54, 55, 56, 57]⟩ : ByteArray).data.toList (UInt8.ofNat n.val)) = dgB (UInt8.ofNat n.val) := by decide +kernel
  have := h ⟨c.toNat, c.toNat_lt⟩
  simp only [UInt8.ofNat_toNat] at this
  rw [this], hw.symm⟩
theorem qq {s a b : ByteArray} {i k : Nat} (h : ¬ 14 < s.size) (hi : Lib.indexByte s.data.toList 47 = (i : Int)) (hea : s.extract 0 i = a) (heb : s.extract (i + 1) s.size = b)
 (hn : ¬ (0 ≤ jp b.data.toList ∧ jr a.data.toList = true)) (hk : jp a.data.toList = (k : Int)) (ht : qk b.data.toList ≠ 0) : jo s = some (a, k, qk b.data.toList, xb b) := by
 rw [zl h (jdg hi) hi, hea, heb, if_neg hn, if_pos ⟨by omega, ht⟩, hk]; rfl
theorem zf {s a b : ByteArray} {i : Nat} (h : ¬ 14 < s.size) (hi : Lib.indexByte s.data.toList 47 = (i : Int)) (hea : s.extract 0 i = a) (heb : s.extract (i + 1) s.size = b)
 (hn : ¬ (0 ≤ jp b.data.toList ∧ jr a.data.toList = true)) (ht : ¬ (0 ≤ jp a.data.toList ∧ qk b.data.toList ≠ 0)) : jo s = none := by
 rw [zl h (jdg hi) hi, hea, heb, if_neg hn, if_neg ht]
set_option maxRecDepth 100000 in
set_option maxHeartbeats 4000000 in
theorem jhb (s a b : ByteArray) (i : Nat) (w : World) (hs : s.size ≤ 1000000000) (ha : Ascii s) (h : ¬ 14 < s.size) (hi : Lib.indexByte s.data.toList 47 = (i : Int)) (hea : s.extract 0 i = a) (heb : s.extract (i + 1) s.size = b) (hv : jp b.data.toList = -1) (hk : jp a.data.toList = -1) :
 Calls Tryz.prog 126 #[.string s] w (ju s w) := by
 have h14 : ¬ (14 : Int) < (s.size : Int) := by omega
 have has : a.size ≤ 1000000000 := by rw [← hea]; simp; omega
 have hbs : b.size ≤ 1000000000 := by rw [← heb]; simp; omega
 have haa := Lib.hid (show Ascii a by rw [← hea]; exact ha.take _)
 have hba := Lib.hid (show Ascii b by rw [← heb]; exact ha.drop _)
 have hn : ¬ (0 ≤ jp b.data.toList ∧ jr a.data.toList = true) := fun hh => by omega
 have HP := Lib.hid (zf h hi hea heb hn (fun hh => by omega))
 have HC : Hid (∀ W : World, Calls Tryz.prog 144 #[.string s, .string ⟨#[47]⟩] W fun e w' => e = .returned (.tuple #[.string a, .string b, .bool true]) ∧ W.grownBy w' none) := fun W => by
  have := qr s 47 i W (by omega) hi
  rw [hea, heb] at this
  exact this
 have HV := Lib.hid hv
 have HK := Lib.hid hk
 clear hi hea heb ha h hn hv hk
 go_enter Tryz.func126, Tryz.ntmps126
 go_wp2_with fail
 refine (HC.out _).mono ?_
 rintro _ w1 ⟨rfl, hg⟩
 have hB := (Blk.new w 87 #[.string ⟨#[]⟩, .string ⟨#[]⟩, .string ⟨#[]⟩, .int .i64 0, .string ⟨#[]⟩]).grown hg (by simp)
 have hG := ja (World.grownBy_alloc w (.cells #[.string ⟨#[]⟩, .string ⟨#[]⟩, .string ⟨#[]⟩, .int .i64 0, .string ⟨#[]⟩] 87) none) hg
 clear hg
 go_wp2_with fail
 refine (jm b _ hbs hba.out).mono ?_
 rintro _ w2 ⟨rfl, hg⟩
 rw [HV.out]
 replace hB := hB.grown hg (by simp)
 replace hG := ja hG hg
 clear hg
 go_wp2_with fail
 refine (jm a _ has haa.out).mono ?_
 rintro _ w4 ⟨rfl, hg⟩
 rw [HK.out]
 replace hB := hB.grown hg (by simp)
 replace hG := ja hG hg
 clear hg
 have hf := hB.free
 have hlt := hB.lt
 obtain ⟨c0, c1, c2, c3, c4⟩ := hB.cells5
 go_wp2_with fail
 refine bodyPost_ret (v := .tuple #[.agg #[.string ⟨#[]⟩, .string ⟨#[]⟩, .string ⟨#[]⟩, .int .i64 0, .string ⟨#[]⟩], .bool false]) (by simp [results, Tryz.results126, go_sem, c0, c1, c2, c3, c4]) rfl ?_
 exact yg HP.out (qj hG (Nat.le_refl _) _ _ _ _ _)
set_option maxRecDepth 100000 in
set_option maxHeartbeats 4000000 in
theorem jis (s a b : ByteArray) (i : Nat) (w : World) (hs : s.size ≤ 1000000000) (ha : Ascii s) (h : ¬ 14 < s.size) (hi : Lib.indexByte s.data.toList 47 = (i : Int)) (hea : s.extract 0 i = a) (heb : s.extract (i + 1) s.size = b) (hv : jp b.data.toList = -1) (k : Nat) (hk : jp a.data.toList = (k : Int)) (yp : (b.toList == [112]) = true) (hT : qk b.data.toList = 3) :
 Calls Tryz.prog 126 #[.string s] w (ju s w) := by
 have h14 : ¬ (14 : Int) < (s.size : Int) := by omega
 have has : a.size ≤ 1000000000 := by rw [← hea]; simp; omega
 have hbs : b.size ≤ 1000000000 := by rw [← heb]; simp; omega
 have haa := Lib.hid (show Ascii a by rw [← hea]; exact ha.take _)
 have hba := Lib.hid (show Ascii b by rw [← heb]; exact ha.drop _)
 have hn : ¬ (0 ≤ jp b.data.toList ∧ jr a.data.toList = true) := fun hh => by omega
 have HP : Hid (jo s = some (a, k, 3, ⟨#[]⟩)) := by
  show _ = _
  rw [qq h hi hea heb hn hk (by omega), hT]
  have : xb b = ⟨#[]⟩ := by unfold xb; rw [if_neg (by omega)]
  rw [this]
 have HC : Hid (∀ W : World, Calls Tryz.prog 144 #[.string s, .string ⟨#[47]⟩] W fun e w' => e = .returned (.tuple #[.string a, .string b, .bool true]) ∧ W.grownBy w' none) := fun W => by
  have := qr s 47 i W (by omega) hi
  rw [hea, heb] at this
  exact this
 have HV := Lib.hid hv
 have HK := Lib.hid hk
 have hka : ¬ (k : Int) < 0 := by omega
 clear hi hea heb ha h hn hv hk hT
 go_enter Tryz.func126, Tryz.ntmps126
 go_wp2_with fail
 refine (HC.out _).mono ?_
 rintro _ w1 ⟨rfl, hg⟩
 have hB := (Blk.new w 87 #[.string ⟨#[]⟩, .string ⟨#[]⟩, .string ⟨#[]⟩, .int .i64 0, .string ⟨#[]⟩]).grown hg (by simp)
 have hG := ja (World.grownBy_alloc w (.cells #[.string ⟨#[]⟩, .string ⟨#[]⟩, .string ⟨#[]⟩, .int .i64 0, .string ⟨#[]⟩] 87) none) hg
 clear hg
 go_wp2_with fail
 refine (jm b _ hbs hba.out).mono ?_
 rintro _ w2 ⟨rfl, hg⟩
 rw [HV.out]
 replace hB := hB.grown hg (by simp)
 replace hG := ja hG hg
 clear hg
 go_wp2_with fail
 refine (jm a _ has haa.out).mono ?_
 rintro _ w4 ⟨rfl, hg⟩
 rw [HK.out]
 replace hB := hB.grown hg (by simp)
 replace hG := ja hG hg
 clear hg
 go_wp2_with fail
 refine (j2 a k _ has haa.out HK.out).mono ?_
 rintro _ w5 ⟨rfl, hg⟩
 replace hB := hB.grown hg (by simp)
 replace hG := ja hG hg
 clear hg
 have hf := hB.free
 have hlt := hB.lt
 obtain ⟨c0, c1, c2, c3, c4⟩ := hB.cells5
 go_wp2_with fail
 obtain ⟨d0, d1, d2, d3, d4⟩ := ((hB.put5 (.string a) (.string (a.extract 0 (k + 1))) (.string (a.extract (k + 1) a.size)) (.int .i64 3) (.string ⟨#[]⟩)).alloc (.cells #[.string a, .string (a.extract 0 (k + 1)), .string (a.extract (k + 1) a.size), .int .i64 3, .string ⟨#[]⟩] 87)).cells5
 refine bodyPost_ret (v := .tuple #[.agg #[.string a, .string (a.extract 0 (k + 1)), .string (a.extract (k + 1) a.size), .int .i64 3, .string ⟨#[]⟩], .bool true]) (by simp [results, Tryz.results126, go_sem, d0, d1, d2, d3, d4]) rfl ?_
 exact ql HP.out (jd (qj hG (Nat.le_refl _) _ _ _ _ _) _)
set_option maxRecDepth 100000 in
set_option maxHeartbeats 4000000 in
theorem jir (s a b : ByteArray) (i : Nat) (w : World) (hs : s.size ≤ 1000000000) (ha : Ascii s) (h : ¬ 14 < s.size) (hi : Lib.indexByte s.data.toList 47 = (i : Int)) (hea : s.extract 0 i = a) (heb : s.extract (i + 1) s.size = b) (hv : jp b.data.toList = -1) (k : Nat) (hk : jp a.data.toList = (k : Int)) (np : (b.toList == [112]) = false) (ym : (b.toList == [109]) = true) (hT : qk b.data.toList = 4) :
 Calls Tryz.prog 126 #[.string s] w (ju s w) := by
 have h14 : ¬ (14 : Int) < (s.size : Int) := by omega
 have has : a.size ≤ 1000000000 := by rw [← hea]; simp; omega
 have hbs : b.size ≤ 1000000000 := by rw [← heb]; simp; omega
 have haa := Lib.hid (show Ascii a by rw [← hea]; exact ha.take _)
 have hba := Lib.hid (show Ascii b by rw [← heb]; exact ha.drop _)
 have hn : ¬ (0 ≤ jp b.data.toList ∧ jr a.data.toList = true) := fun hh => by omega
 have HP : Hid (jo s = some (a, k, 4, ⟨#[]⟩)) := by
  show _ = _
  rw [qq h hi hea heb hn hk (by omega), hT]
  have : xb b = ⟨#[]⟩ := by unfold xb; rw [if_neg (by omega)]
  rw [this]
 have HC : Hid (∀ W : World, Calls Tryz.prog 144 #[.string s, .string ⟨#[47]⟩] W fun e w' => e = .returned (.tuple #[.string a, .string b, .bool true]) ∧ W.grownBy w' none) := fun W => by
  have := qr s 47 i W (by omega) hi
  rw [hea, heb] at this
  exact this
 have HV := Lib.hid hv
 have HK := Lib.hid hk
 have hka : ¬ (k : Int) < 0 := by omega
 clear hi hea heb ha h hn hv hk hT
 go_enter Tryz.func126, Tryz.ntmps126
 go_wp2_with fail
 refine (HC.out _).mono ?_
 rintro _ w1 ⟨rfl, hg⟩
 have hB := (Blk.new w 87 #[.string ⟨#[]⟩, .string ⟨#[]⟩, .string ⟨#[]⟩, .int .i64 0, .string ⟨#[]⟩]).grown hg (by simp)
 have hG := ja (World.grownBy_alloc w (.cells #[.string ⟨#[]⟩, .string ⟨#[]⟩, .string ⟨#[]⟩, .int .i64 0, .string ⟨#[]⟩] 87) none) hg
 clear hg
 go_wp2_with fail
 refine (jm b _ hbs hba.out).mono ?_
 rintro _ w2 ⟨rfl, hg⟩
 rw [HV.out]
 replace hB := hB.grown hg (by simp)
 replace hG := ja hG hg
 clear hg
 go_wp2_with fail
 refine (jm a _ has haa.out).mono ?_
 rintro _ w4 ⟨rfl, hg⟩
 rw [HK.out]
 replace hB := hB.grown hg (by simp)
 replace hG := ja hG hg
 clear hg
 go_wp2_with fail
 refine (j2 a k _ has haa.out HK.out).mono ?_
 rintro _ w5 ⟨rfl, hg⟩
 replace hB := hB.grown hg (by simp)
 replace hG := ja hG hg
 clear hg
 have hf := hB.free
 have hlt := hB.lt
 obtain ⟨c0, c1, c2, c3, c4⟩ := hB.cells5
 go_wp2_with fail
 obtain ⟨d0, d1, d2, d3, d4⟩ := ((hB.put5 (.string a) (.string (a.extract 0 (k + 1))) (.string (a.extract (k + 1) a.size)) (.int .i64 4) (.string ⟨#[]⟩)).alloc (.cells #[.string a, .string (a.extract 0 (k + 1)), .string (a.extract (k + 1) a.size), .int .i64 4, .string ⟨#[]⟩] 87)).cells5
 refine bodyPost_ret (v := .tuple #[.agg #[.string a, .string (a.extract 0 (k + 1)), .string (a.extract (k + 1) a.size), .int .i64 4, .string ⟨#[]⟩], .bool true]) (by simp [results, Tryz.results126, go_sem, d0, d1, d2, d3, d4]) rfl ?_
 exact ql HP.out (jd (qj hG (Nat.le_refl _) _ _ _ _ _) _)
set_option maxRecDepth 100000 in
set_option maxHeartbeats 4000000 in
theorem jha (s a b : ByteArray) (i : Nat) (w : World) (hs : s.size ≤ 1000000000) (ha : Ascii s) (h : ¬ 14 < s.size) (hi : Lib.indexByte s.data.toList 47 = (i : Int)) (hea : s.extract 0 i = a) (heb : s.extract (i + 1) s.size = b) (hv : jp b.data.toList = -1) (k : Nat) (hk : jp a.data.toList = (k : Int)) (np : (b.toList == [112]) = false) (nm : (b.toList == [109]) = false) (ymm : (b.toList == [109, 109]) = true) (hT : qk b.data.toList = 5) :
 Calls Tryz.prog 126 #[.string s] w (ju s w) := by
 have h14 : ¬ (14 : Int) < (s.size : Int) := by omega
 have has : a.size ≤ 1000000000 := by rw [← hea]; simp; omega
 have hbs : b.size ≤ 1000000000 := by rw [← heb]; simp; omega
 have haa := Lib.hid (show Ascii a by rw [← hea]; exact ha.take _)
 have hba := Lib.hid (show Ascii b by rw [← heb]; exact ha.drop _)
 have hn : ¬ (0 ≤ jp b.data.toList ∧ jr a.data.toList = true) := fun hh => by omega
 have HP : Hid (jo s = some (a, k, 5, ⟨#[]⟩)) := by
  show _ = _
  rw [qq h hi hea heb hn hk (by omega), hT]
  have : xb b = ⟨#[]⟩ := by unfold xb; rw [if_neg (by omega)]
  rw [this]
 have HC : Hid (∀ W : World, Calls Tryz.prog 144 #[.string s, .string ⟨#[47]⟩] W fun e w' => e = .returned (.tuple #[.string a, .string b, .bool true]) ∧ W.grownBy w' none) := fun W => by
  have := qr s 47 i W (by omega) hi
  rw [hea, heb] at this
  exact this
 have HV := Lib.hid hv
 have HK := Lib.hid hk
 have hka : ¬ (k : Int) < 0 := by omega
 clear hi hea heb ha h hn hv hk hT
 go_enter Tryz.func126, Tryz.ntmps126
 go_wp2_with fail
 refine (HC.out _).mono ?_
 rintro _ w1 ⟨rfl, hg⟩
 have hB := (Blk.new w 87 #[.string ⟨#[]⟩, .string ⟨#[]⟩, .string ⟨#[]⟩, .int .i64 0, .string ⟨#[]⟩]).grown hg (by simp)
 have hG := ja (World.grownBy_alloc w (.cells #[.string ⟨#[]⟩, .string ⟨#[]⟩, .string ⟨#[]⟩, .int .i64 0, .string ⟨#[]⟩] 87) none) hg
 clear hg
 go_wp2_with fail
 refine (jm b _ hbs hba.out).mono ?_
 rintro _ w2 ⟨rfl, hg⟩
 rw [HV.out]
 replace hB := hB.grown hg (by simp)
 replace hG := ja hG hg
 clear hg
 go_wp2_with fail
 refine (jm a _ has haa.out).mono ?_
 rintro _ w4 ⟨rfl, hg⟩
 rw [HK.out]
 replace hB := hB.grown hg (by simp)
 replace hG := ja hG hg
 clear hg
 go_wp2_with fail
 refine (j2 a k _ has haa.out HK.out).mono ?_
 rintro _ w5 ⟨rfl, hg⟩
 replace hB := hB.grown hg (by simp)
 replace hG := ja hG hg
 clear hg
 have hf := hB.free
 have hlt := hB.lt
 obtain ⟨c0, c1, c2, c3, c4⟩ := hB.cells5
 go_wp2_with fail
 obtain ⟨d0, d1, d2, d3, d4⟩ := ((hB.put5 (.string a) (.string (a.extract 0 (k + 1))) (.string (a.extract (k + 1) a.size)) (.int .i64 5) (.string ⟨#[]⟩)).alloc (.cells #[.string a, .string (a.extract 0 (k + 1)), .string (a.extract (k + 1) a.size), .int .i64 5, .string ⟨#[]⟩] 87)).cells5
 refine bodyPost_ret (v := .tuple #[.agg #[.string a, .string (a.extract 0 (k + 1)), .string (a.extract (k + 1) a.size), .int .i64 5, .string ⟨#[]⟩], .bool true]) (by simp [results, Tryz.results126, go_sem, d0, d1, d2, d3, d4]) rfl ?_
 exact ql HP.out (jd (qj hG (Nat.le_refl _) _ _ _ _ _) _)
set_option maxRecDepth 100000 in
set_option maxHeartbeats 4000000 in
theorem jg9 (s a b : ByteArray) (i : Nat) (w : World) (hs : s.size ≤ 1000000000) (ha : Ascii s) (h : ¬ 14 < s.size) (hi : Lib.indexByte s.data.toList 47 = (i : Int)) (hea : s.extract 0 i = a) (heb : s.extract (i + 1) s.size = b) (hv : jp b.data.toList = -1) (k : Nat) (hk : jp a.data.toList = (k : Int)) (np : (b.toList == [112]) = false) (nm : (b.toList == [109]) = false) (nmm : (b.toList == [109, 109]) = false) (yam : (b.toList == [97, 109]) = true) (hT : qk b.data.toList = 6) :
 Calls Tryz.prog 126 #[.string s] w (ju s w) := by
 have h14 : ¬ (14 : Int) < (s.size : Int) := by omega
 have has : a.size ≤ 1000000000 := by rw [← hea]; simp; omega
 have hbs : b.size ≤ 1000000000 := by rw [← heb]; simp; omega
 have haa := Lib.hid (show Ascii a by rw [← hea]; exact ha.take _)
 have hba := Lib.hid (show Ascii b by rw [← heb]; exact ha.drop _)
 have hn : ¬ (0 ≤ jp b.data.toList ∧ jr a.data.toList = true) := fun hh => by omega
 have HP : Hid (jo s = some (a, k, 6, ⟨#[]⟩)) := by
  show _ = _
  rw [qq h hi hea heb hn hk (by omega), hT]
  have : xb b = ⟨#[]⟩ := by unfold xb; rw [if_neg (by omega)]
  rw [this]
 have HC : Hid (∀ W : World, Calls Tryz.prog 144 #[.string s, .string ⟨#[47]⟩] W fun e w' => e = .returned (.tuple #[.string a, .string b, .bool true]) ∧ W.grownBy w' none) := fun W => by
  have := qr s 47 i W (by omega) hi
  rw [hea, heb] at this
  exact this
 have HV := Lib.hid hv
 have HK := Lib.hid hk
 have hka : ¬ (k : Int) < 0 := by omega
 clear hi hea heb ha h hn hv hk hT
 go_enter Tryz.func126, Tryz.ntmps126
 go_wp2_with fail
 refine (HC.out _).mono ?_
 rintro _ w1 ⟨rfl, hg⟩
 have hB := (Blk.new w 87 #[.string ⟨#[]⟩, .string ⟨#[]⟩, .string ⟨#[]⟩, .int .i64 0, .string ⟨#[]⟩]).grown hg (by simp)
 have hG := ja (World.grownBy_alloc w (.cells #[.string ⟨#[]⟩, .string ⟨#[]⟩, .string ⟨#[]⟩, .int .i64 0, .string ⟨#[]⟩] 87) none) hg
 clear hg
 go_wp2_with fail
 refine (jm b _ hbs hba.out).mono ?_
 rintro _ w2 ⟨rfl, hg⟩
 rw [HV.out]
 replace hB := hB.grown hg (by simp)
 replace hG := ja hG hg
 clear hg
 go_wp2_with fail
 refine (jm a _ has haa.out).mono ?_
 rintro _ w4 ⟨rfl, hg⟩
 rw [HK.out]
 replace hB := hB.grown hg (by simp)
 replace hG := ja hG hg
 clear hg
 go_wp2_with fail
 refine (j2 a k _ has haa.out HK.out).mono ?_
 rintro _ w5 ⟨rfl, hg⟩
 replace hB := hB.grown hg (by simp)
 replace hG := ja hG hg
 clear hg
 have hf := hB.free
 have hlt := hB.lt
 obtain ⟨c0, c1, c2, c3, c4⟩ := hB.cells5
 go_wp2_with fail
 obtain ⟨d0, d1, d2, d3, d4⟩ := ((hB.put5 (.string a) (.string (a.extract 0 (k + 1))) (.string (a.extract (k + 1) a.size)) (.int .i64 6) (.string ⟨#[]⟩)).alloc (.cells #[.string a, .string (a.extract 0 (k + 1)), .string (a.extract (k + 1) a.size), .int .i64 6, .string ⟨#[]⟩] 87)).cells5
 refine bodyPost_ret (v := .tuple #[.agg #[.string a, .string (a.extract 0 (k + 1)), .string (a.extract (k + 1) a.size), .int .i64 6, .string ⟨#[]⟩], .bool true]) (by simp [results, Tryz.results126, go_sem, d0, d1, d2, d3, d4]) rfl ?_
 exact ql HP.out (jd (qj hG (Nat.le_refl _) _ _ _ _ _) _)
set_option maxRecDepth 100000 in
set_option maxHeartbeats 4000000 in
theorem jfk (s a b : ByteArray) (i : Nat) (w : World) (hs : s.size ≤ 1000000000) (ha : Ascii s) (h : ¬ 14 < s.size) (hi : Lib.indexByte s.data.toList 47 = (i : Int)) (hea : s.extract 0 i = a) (heb : s.extract (i + 1) s.size = b) (hv : jp b.data.toList = -1) (k : Nat) (hk : jp a.data.toList = (k : Int)) (np : (b.toList == [112]) = false) (nm : (b.toList == [109]) = false) (nmm : (b.toList == [109, 109]) = false) (nam : (b.toList == [97, 109]) = false) (c : UInt8) (hbc : b = ⟨#[c]⟩) (hz : ((b.size : Int) == 1) = true) (hd : dgB c = true) (hT : qk b.data.toList = 2) :
 Calls Tryz.prog 126 #[.string s] w (ju s w) := by
 have h14 : ¬ (14 : Int) < (s.size : Int) := by omega
 have has : a.size ≤ 1000000000 := by rw [← hea]; simp; omega
 have hbs : b.size ≤ 1000000000 := by rw [← heb]; simp; omega
 have haa := Lib.hid (show Ascii a by rw [← hea]; exact ha.take _)
 have hba := Lib.hid (show Ascii b by rw [← heb]; exact ha.drop _)
 have hn : ¬ (0 ≤ jp b.data.toList ∧ jr a.data.toList = true) := fun hh => by omega
 have HP : Hid (jo s = some (a, k, 2, b)) := by
  show _ = _
  rw [qq h hi hea heb hn hk (by omega), hT]
  have : xb b = b := by unfold xb; rw [if_pos (by omega)]
  rw [this]
 have HC : Hid (∀ W : World, Calls Tryz.prog 144 #[.string s, .string ⟨#[47]⟩] W fun e w' => e = .returned (.tuple #[.string a, .string b, .bool true]) ∧ W.grownBy w' none) := fun W => by
  have := qr s 47 i W (by omega) hi
  rw [hea, heb] at this
  exact this
 have HV := Lib.hid hv
 have HK := Lib.hid hk
 have hka : ¬ (k : Int) < 0 := by omega
 have HD : Hid (∀ W : World, Calls Tryz.prog 181 #[.string ⟨#[48, 49, 50, 51, 52, 53, 54, 55, 56, 57]⟩, .string b] W fun e w' => e = .returned (.bool (dgB c)) ∧ W = w') := fun W => by rw [hbc]; exact jc8 c W
 rw [hd] at HD
 clear hi hea heb ha h hn hv hk hT hbc hd
 go_enter Tryz.func126, Tryz.ntmps126
 go_wp2_with fail
 refine (HC.out _).mono ?_
 rintro _ w1 ⟨rfl, hg⟩
 have hB := (Blk.new w 87 #[.string ⟨#[]⟩, .string ⟨#[]⟩, .string ⟨#[]⟩, .int .i64 0, .string ⟨#[]⟩]).grown hg (by simp)
 have hG := ja (World.grownBy_alloc w (.cells #[.string ⟨#[]⟩, .string ⟨#[]⟩, .string ⟨#[]⟩, .int .i64 0, .string ⟨#[]⟩] 87) none) hg
 clear hg
 go_wp2_with fail
 refine (jm b _ hbs hba.out).mono ?_
 rintro _ w2 ⟨rfl, hg⟩
 rw [HV.out]
 replace hB := hB.grown hg (by simp)
 replace hG := ja hG hg
 clear hg
 go_wp2_with fail
 refine (jm a _ has haa.out).mono ?_
 rintro _ w4 ⟨rfl, hg⟩
 rw [HK.out]
 replace hB := hB.grown hg (by simp)
 replace hG := ja hG hg
 clear hg
 go_wp2_with fail
 refine (j2 a k _ has haa.out HK.out).mono ?_
 rintro _ w5 ⟨rfl, hg⟩
 replace hB := hB.grown hg (by simp)
 replace hG := ja hG hg
 clear hg
 have hP := Blk.new w5 87 #[.string a, .string (a.extract 0 (k + 1)), .string (a.extract (k + 1) a.size), .int .i64 0, .string ⟨#[]⟩]
 replace hG := jd hG (.cells #[.string a, .string (a.extract 0 (k + 1)), .string (a.extract (k + 1) a.size), .int .i64 0, .string ⟨#[]⟩] 87)
 have hne : ¬ w.heap.size = w5.heap.size := by have := hB.lt; omega
 have hww : w.heap.size ≤ w5.heap.size := by have := hB.lt; omega
 replace hB := hB.alloc (.cells #[.string a, .string (a.extract 0 (k + 1)), .string (a.extract (k + 1) a.size), .int .i64 0, .string ⟨#[]⟩] 87)
 go_wp2_with fail
 generalize w5.alloc (.cells #[.string a, .string (a.extract 0 (k + 1)), .string (a.extract (k + 1) a.size), .int .i64 0, .string ⟨#[]⟩] 87) = W5 at *
 refine (HD.out _).mono ?_
 rintro _ _ ⟨rfl, rfl⟩
 have hf := hB.free
 have hlt := hB.lt
 have hpf := hP.free
 have hplt := hP.lt
 obtain ⟨c0, c1, c2, c3, c4⟩ := hB.cells5
 obtain ⟨p0, p1, p2, p3, p4⟩ := hP.cells5
 go_wp2_with fail
 refine bodyPost_ret (v := .tuple #[.agg #[.string a, .string (a.extract 0 (k + 1)), .string (a.extract (k + 1) a.size), .int .i64 2, .string b], .bool true]) (by simp [results, Tryz.results126, go_sem, c0, c1, c2, c3, c4]) rfl ?_
 exact ql HP.out (qj (jg (jg hG (.inr hww) _) (.inr hww) _) (Nat.le_refl _) _ _ _ _ _)
set_option maxRecDepth 100000 in
set_option maxHeartbeats 4000000 in
theorem jbx (s a b : ByteArray) (i : Nat) (w : World) (hs : s.size ≤ 1000000000) (ha : Ascii s) (h : ¬ 14 < s.size) (hi : Lib.indexByte s.data.toList 47 = (i : Int)) (hea : s.extract 0 i = a) (heb : s.extract (i + 1) s.size = b) (hv : jp b.data.toList = -1) (k : Nat) (hk : jp a.data.toList = (k : Int)) (np : (b.toList == [112]) = false) (nm : (b.toList == [109]) = false) (nmm : (b.toList == [109, 109]) = false) (nam : (b.toList == [97, 109]) = false) (c : UInt8) (hbc : b = ⟨#[c]⟩) (hz : ((b.size : Int) == 1) = true) (hd : dgB c = false) (hgb : jr b.data.toList = true) (hT : qk b.data.toList = 1) :
 Calls Tryz.prog 126 #[.string s] w (ju s w) := by
 have h14 : ¬ (14 : Int) < (s.size : Int) := by omega
 have has : a.size ≤ 1000000000 := by rw [← hea]; simp; omega
 have hbs : b.size ≤ 1000000000 := by rw [← heb]; simp; omega
 have haa := Lib.hid (show Ascii a by rw [← hea]; exact ha.take _)
 have hba := Lib.hid (show Ascii b by rw [← heb]; exact ha.drop _)
 have hn : ¬ (0 ≤ jp b.data.toList ∧ jr a.data.toList = true) := fun hh => by omega
 have HP : Hid (jo s = some (a, k, 1, b)) := by
  show _ = _
  rw [qq h hi hea heb hn hk (by omega), hT]
  have : xb b = b := by unfold xb; rw [if_pos (by omega)]
  rw [this]
 have HC : Hid (∀ W : World, Calls Tryz.prog 144 #[.string s, .string ⟨#[47]⟩] W fun e w' => e = .returned (.tuple #[.string a, .string b, .bool true]) ∧ W.grownBy w' none) := fun W => by
  have := qr s 47 i W (by omega) hi
  rw [hea, heb] at this
  exact this
 have HV := Lib.hid hv
 have HK := Lib.hid hk
 have hka : ¬ (k : Int) < 0 := by omega
 have HD : Hid (∀ W : World, Calls Tryz.prog 181 #[.string ⟨#[48, 49, 50, 51, 52, 53, 54, 55, 56, 57]⟩, .string b] W fun e w' => e = .returned (.bool (dgB c)) ∧ W = w') := fun W => by rw [hbc]; exact jc8 c W
 rw [hd] at HD
 have HGB := Lib.hid hgb
 clear hi hea heb ha h hn hv hk hT hbc hd hgb
 go_enter Tryz.func126, Tryz.ntmps126
 go_wp2_with fail
 refine (HC.out _).mono ?_
 rintro _ w1 ⟨rfl, hg⟩
 have hB := (Blk.new w 87 #[.string ⟨#[]⟩, .string ⟨#[]⟩, .string ⟨#[]⟩, .int .i64 0, .string ⟨#[]⟩]).grown hg (by simp)
 have hG := ja (World.grownBy_alloc w (.cells #[.string ⟨#[]⟩, .string ⟨#[]⟩, .string ⟨#[]⟩, .int .i64 0, .string ⟨#[]⟩] 87) none) hg
 clear hg
 go_wp2_with fail
 refine (jm b _ hbs hba.out).mono ?_
 rintro _ w2 ⟨rfl, hg⟩
 rw [HV.out]
 replace hB := hB.grown hg (by simp)
 replace hG := ja hG hg
 clear hg
 go_wp2_with fail
 refine (jm a _ has haa.out).mono ?_
 rintro _ w4 ⟨rfl, hg⟩
 rw [HK.out]
 replace hB := hB.grown hg (by simp)
 replace hG := ja hG hg
 clear hg
 go_wp2_with fail
 refine (j2 a k _ has haa.out HK.out).mono ?_
 rintro _ w5 ⟨rfl, hg⟩
 replace hB := hB.grown hg (by simp)
 replace hG := ja hG hg
 clear hg
 have hP := Blk.new w5 87 #[.string a, .string (a.extract 0 (k + 1)), .string (a.extract (k + 1) a.size), .int .i64 0, .string ⟨#[]⟩]
 replace hG := jd hG (.cells #[.string a, .string (a.extract 0 (k + 1)), .string (a.extract (k + 1) a.size), .int .i64 0, .string ⟨#[]⟩] 87)
 have hne : ¬ w.heap.size = w5.heap.size := by have := hB.lt; omega
 have hww : w.heap.size ≤ w5.heap.size := by have := hB.lt; omega
 replace hB := hB.alloc (.cells #[.string a, .string (a.extract 0 (k + 1)), .string (a.extract (k + 1) a.size), .int .i64 0, .string ⟨#[]⟩] 87)
 go_wp2_with fail
 generalize w5.alloc (.cells #[.string a, .string (a.extract 0 (k + 1)), .string (a.extract (k + 1) a.size), .int .i64 0, .string ⟨#[]⟩] 87) = W5 at *
 refine (HD.out _).mono ?_
 rintro _ _ ⟨rfl, rfl⟩
 go_wp2_with fail
 refine (jw b _ hbs hba.out).mono ?_
 rintro _ w6 ⟨rfl, hg⟩
 rw [HGB.out]
 replace hP := hP.grown hg (by simp)
 replace hB := hB.grown hg (by simp)
 replace hG := ja hG hg
 clear hg
 have hf := hB.free
 have hlt := hB.lt
 have hpf := hP.free
 have hplt := hP.lt
 obtain ⟨c0, c1, c2, c3, c4⟩ := hB.cells5
 obtain ⟨p0, p1, p2, p3, p4⟩ := hP.cells5
 go_wp2_with fail
 refine bodyPost_ret (v := .tuple #[.agg #[.string a, .string (a.extract 0 (k + 1)), .string (a.extract (k + 1) a.size), .int .i64 1, .string b], .bool true]) (by simp [results, Tryz.results126, go_sem, c0, c1, c2, c3, c4]) rfl ?_
 exact ql HP.out (qj (jg (jg hG (.inr hww) _) (.inr hww) _) (Nat.le_refl _) _ _ _ _ _)
set_option maxRecDepth 100000 in
set_option maxHeartbeats 4000000 in
theorem jcb (s a b : ByteArray) (i : Nat) (w : World) (hs : s.size ≤ 1000000000) (ha : Ascii s) (h : ¬ 14 < s.size) (hi : Lib.indexByte s.data.toList 47 = (i : Int)) (hea : s.extract 0 i = a) (heb : s.extract (i + 1) s.size = b) (hv : jp b.data.toList = -1) (k : Nat) (hk : jp a.data.toList = (k : Int)) (np : (b.toList == [112]) = false) (nm : (b.toList == [109]) = false) (nmm : (b.toList == [109, 109]) = false) (nam : (b.toList == [97, 109]) = false) (c : UInt8) (hbc : b = ⟨#[c]⟩) (hz : ((b.size : Int) == 1) = true) (hd : dgB c = false) (hgb : jr b.data.toList = false) (hT : qk b.data.toList = 0) :
 Calls Tryz.prog 126 #[.string s] w (ju s w) := by
 have h14 : ¬ (14 : Int) < (s.size : Int) := by omega
 have has : a.size ≤ 1000000000 := by rw [← hea]; simp; omega
 have hbs : b.size ≤ 1000000000 := by rw [← heb]; simp; omega
 have haa := Lib.hid (show Ascii a by rw [← hea]; exact ha.take _)
 have hba := Lib.hid (show Ascii b by rw [← heb]; exact ha.drop _)
 have hn : ¬ (0 ≤ jp b.data.toList ∧ jr a.data.toList = true) := fun hh => by omega
 have HP := Lib.hid (zf h hi hea heb hn (fun hh => hh.2 hT))
 have HC : Hid (∀ W : World, Calls Tryz.prog 144 #[.string s, .string ⟨#[47]⟩] W fun e w' => e = .returned (.tuple #[.string a, .string b, .bool true]) ∧ W.grownBy w' none) := fun W => by
  have := qr s 47 i W (by omega) hi
  rw [hea, heb] at this
  exact this
 have HV := Lib.hid hv
 have HK := Lib.hid hk
 have hka : ¬ (k : Int) < 0 := by omega
 have HD : Hid (∀ W : World, Calls Tryz.prog 181 #[.string ⟨#[48, 49, 50, 51, 52, 53, 54, 55, 56, 57]⟩, .string b] W fun e w' => e = .returned (.bool (dgB c)) ∧ W = w') := fun W => by rw [hbc]; exact jc8 c W
 rw [hd] at HD
 have HGB := Lib.hid hgb
 clear hi hea heb ha h hn hv hk hT hbc hd hgb
 go_enter Tryz.func126, Tryz.ntmps126
 go_wp2_with fail
 refine (HC.out _).mono ?_
 rintro _ w1 ⟨rfl, hg⟩
 have hB := (Blk.new w 87 #[.string ⟨#[]⟩, .string ⟨#[]⟩, .string ⟨#[]⟩, .int .i64 0, .string ⟨#[]⟩]).grown hg (by simp)
 have hG := ja (World.grownBy_alloc w (.cells #[.string ⟨#[]⟩, .string ⟨#[]⟩, .string ⟨#[]⟩, .int .i64 0, .string ⟨#[]⟩] 87) none) hg
 clear hg
 go_wp2_with fail
 refine (jm b _ hbs hba.out).mono ?_
 rintro _ w2 ⟨rfl, hg⟩
 rw [HV.out]
 replace hB := hB.grown hg (by simp)
 replace hG := ja hG hg
 clear hg
 go_wp2_with fail
 refine (jm a _ has haa.out).mono ?_
 rintro _ w4 ⟨rfl, hg⟩
 rw [HK.out]
 replace hB := hB.grown hg (by simp)
 replace hG := ja hG hg
 clear hg
 go_wp2_with fail
 refine (j2 a k _ has haa.out HK.out).mono ?_
 rintro _ w5 ⟨rfl, hg⟩
 replace hB := hB.grown hg (by simp)
 replace hG := ja hG hg
 clear hg
 have hP := Blk.new w5 87 #[.string a, .string (a.extract 0 (k + 1)), .string (a.extract (k + 1) a.size), .int .i64 0, .string ⟨#[]⟩]
 replace hG := jd hG (.cells #[.string a, .string (a.extract 0 (k + 1)), .string (a.extract (k + 1) a.size), .int .i64 0, .string ⟨#[]⟩] 87)
 have hne : ¬ w.heap.size = w5.heap.size := by have := hB.lt; omega
 have hww : w.heap.size ≤ w5.heap.size := by have := hB.lt; omega
 replace hB := hB.alloc (.cells #[.string a, .string (a.extract 0 (k + 1)), .string (a.extract (k + 1) a.size), .int .i64 0, .string ⟨#[]⟩] 87)
 go_wp2_with fail
 generalize w5.alloc (.cells #[.string a, .string (a.extract 0 (k + 1)), .string (a.extract (k + 1) a.size), .int .i64 0, .string ⟨#[]⟩] 87) = W5 at *
 refine (HD.out _).mono ?_
 rintro _ _ ⟨rfl, rfl⟩
 go_wp2_with fail
 refine (jw b _ hbs hba.out).mono ?_
 rintro _ w6 ⟨rfl, hg⟩
 rw [HGB.out]
 replace hP := hP.grown hg (by simp)
 replace hB := hB.grown hg (by simp)
 replace hG := ja hG hg
 clear hg
 have hf := hB.free
 have hlt := hB.lt
 have hpf := hP.free
 have hplt := hP.lt
 obtain ⟨c0, c1, c2, c3, c4⟩ := hB.cells5
 obtain ⟨p0, p1, p2, p3, p4⟩ := hP.cells5
 go_wp2_with fail
 refine bodyPost_ret (v := .tuple #[.agg #[.string ⟨#[]⟩, .string ⟨#[]⟩, .string ⟨#[]⟩, .int .i64 0, .string ⟨#[]⟩], .bool false]) (by simp [results, Tryz.results126, go_sem, c0, c1, c2, c3, c4]) rfl ?_
 exact yg HP.out (qj hG (Nat.le_refl _) _ _ _ _ _)
set_option maxRecDepth 100000 in
set_option maxHeartbeats 4000000 in
theorem jbf (s a b : ByteArray) (i : Nat) (w : World) (hs : s.size ≤ 1000000000) (ha : Ascii s) (h : ¬ 14 < s.size) (hi : Lib.indexByte s.data.toList 47 = (i : Int)) (hea : s.extract 0 i = a) (heb : s.extract (i + 1) s.size = b) (hv : jp b.data.toList = -1) (k : Nat) (hk : jp a.data.toList = (k : Int)) (np : (b.toList == [112]) = false) (nm : (b.toList == [109]) = false) (nmm : (b.toList == [109, 109]) = false) (nam : (b.toList == [97, 109]) = false) (hz : ((b.size : Int) == 1) = false) (hgb : jr b.data.toList = true) (hT : qk b.data.toList = 1) :
 Calls Tryz.prog 126 #[.string s] w (ju s w) := by
 have h14 : ¬ (14 : Int) < (s.size : Int) := by omega
 have has : a.size ≤ 1000000000 := by rw [← hea]; simp; omega
 have hbs : b.size ≤ 1000000000 := by rw [← heb]; simp; omega
 have haa := Lib.hid (show Ascii a by rw [← hea]; exact ha.take _)
 have hba := Lib.hid (show Ascii b by rw [← heb]; exact ha.drop _)
 have hn : ¬ (0 ≤ jp b.data.toList ∧ jr a.data.toList = true) := fun hh => by omega
 have HP : Hid (jo s = some (a, k, 1, b)) := by
  show _ = _
  rw [qq h hi hea heb hn hk (by omega), hT]
  have : xb b = b := by unfold xb; rw [if_pos (by omega)]
  rw [this]
 have HC : Hid (∀ W : World, Calls Tryz.prog 144 #[.string s, .string ⟨#[47]⟩] W fun e w' => e = .returned (.tuple #[.string a, .string b, .bool true]) ∧ W.grownBy w' none) := fun W => by
  have := qr s 47 i W (by omega) hi
  rw [hea, heb] at this
  exact this
 have HV := Lib.hid hv
 have HK := Lib.hid hk
 have hka : ¬ (k : Int) < 0 := by omega
 have HGB := Lib.hid hgb
 clear hi hea heb ha h hn hv hk hT hgb
 go_enter Tryz.func126, Tryz.ntmps126
 go_wp2_with fail
 refine (HC.out _).mono ?_
 rintro _ w1 ⟨rfl, hg⟩
 have hB := (Blk.new w 87 #[.string ⟨#[]⟩, .string ⟨#[]⟩, .string ⟨#[]⟩, .int .i64 0, .string ⟨#[]⟩]).grown hg (by simp)
 have hG := ja (World.grownBy_alloc w (.cells #[.string ⟨#[]⟩, .string ⟨#[]⟩, .string ⟨#[]⟩, .int .i64 0, .string ⟨#[]⟩] 87) none) hg
 clear hg
 go_wp2_with fail
 refine (jm b _ hbs hba.out).mono ?_
 rintro _ w2 ⟨rfl, hg⟩
 rw [HV.out]
 replace hB := hB.grown hg (by simp)
 replace hG := ja hG hg
 clear hg
 go_wp2_with fail
 refine (jm a _ has haa.out).mono ?_
 rintro _ w4 ⟨rfl, hg⟩
 rw [HK.out]
 replace hB := hB.grown hg (by simp)
 replace hG := ja hG hg
 clear hg
 go_wp2_with fail
 refine (j2 a k _ has haa.out HK.out).mono ?_
 rintro _ w5 ⟨rfl, hg⟩
 replace hB := hB.grown hg (by simp)
 replace hG := ja hG hg
 clear hg
 have hP := Blk.new w5 87 #[.string a, .string (a.extract 0 (k + 1)), .string (a.extract (k + 1) a.size), .int .i64 0, .string ⟨#[]⟩]
 replace hG := jd hG (.cells #[.string a, .string (a.extract 0 (k + 1)), .string (a.extract (k + 1) a.size), .int .i64 0, .string ⟨#[]⟩] 87)
 have hne : ¬ w.heap.size = w5.heap.size := by have := hB.lt; omega
 have hww : w.heap.size ≤ w5.heap.size := by have := hB.lt; omega
 replace hB := hB.alloc (.cells #[.string a, .string (a.extract 0 (k + 1)), .string (a.extract (k + 1) a.size), .int .i64 0, .string ⟨#[]⟩] 87)
 go_wp2_with fail
 generalize w5.alloc (.cells #[.string a, .string (a.extract 0 (k + 1)), .string (a.extract (k + 1) a.size), .int .i64 0, .string ⟨#[]⟩] 87) = W5 at *
 clear hz
 refine (jw b _ hbs hba.out).mono ?_
 rintro _ w6 ⟨rfl, hg⟩
 rw [HGB.out]
 replace hP := hP.grown hg (by simp)
 replace hB := hB.grown hg (by simp)
 replace hG := ja hG hg
 clear hg
 have hf := hB.free
 have hlt := hB.lt
 have hpf := hP.free
 have hplt := hP.lt
 obtain ⟨c0, c1, c2, c3, c4⟩ := hB.cells5
 obtain ⟨p0, p1, p2, p3, p4⟩ := hP.cells5
 go_wp2_with fail
 refine bodyPost_ret (v := .tuple #[.agg #[.string a, .string (a.extract 0 (k + 1)), .string (a.extract (k + 1) a.size), .int .i64 1, .string b], .bool true]) (by simp [results, Tryz.results126, go_sem, c0, c1, c2, c3, c4]) rfl ?_
 exact ql HP.out (qj (jg (jg hG (.inr hww) _) (.inr hww) _) (Nat.le_refl _) _ _ _ _ _)
set_option maxRecDepth 100000 in
set_option maxHeartbeats 4000000 in
theorem jbw (s a b : ByteArray) (i : Nat) (w : World) (hs : s.size ≤ 1000000000) (ha : Ascii s) (h : ¬ 14 < s.size) (hi : Lib.indexByte s.data.toList 47 = (i : Int)) (hea : s.extract 0 i = a) (heb : s.extract (i + 1) s.size = b) (hv : jp b.data.toList = -1) (k : Nat) (hk : jp a.data.toList = (k : Int)) (np : (b.toList == [112]) = false) (nm : (b.toList == [109]) = false) (nmm : (b.toList == [109, 109]) = false) (nam : (b.toList == [97, 109]) = false) (hz : ((b.size : Int) == 1) = false) (hgb : jr b.data.toList = false) (hT : qk b.data.toList = 0) :
 Calls Tryz.prog 126 #[.string s] w (ju s w) := by
 have h14 : ¬ (14 : Int) < (s.size : Int) := by omega
 have has : a.size ≤ 1000000000 := by rw [← hea]; simp; omega
 have hbs : b.size ≤ 1000000000 := by rw [← heb]; simp; omega
 have haa := Lib.hid (show Ascii a by rw [← hea]; exact ha.take _)
 have hba := Lib.hid (show Ascii b by rw [← heb]; exact ha.drop _)
 have hn : ¬ (0 ≤ jp b.data.toList ∧ jr a.data.toList = true) := fun hh => by omega
 have HP := Lib.hid (zf h hi hea heb hn (fun hh => hh.2 hT))
 have HC : Hid (∀ W : World, Calls Tryz.prog 144 #[.string s, .string ⟨#[47]⟩] W fun e w' => e = .returned (.tuple #[.string a, .string b, .bool true]) ∧ W.grownBy w' none) := fun W => by
  have := qr s 47 i W (by omega) hi
  rw [hea, heb] at this
  exact this
 have HV := Lib.hid hv
 have HK := Lib.hid hk
 have hka : ¬ (k : Int) < 0 := by omega
 have HGB := Lib.hid hgb
 clear hi hea heb ha h hn hv hk hT hgb
 go_enter Tryz.func126, Tryz.ntmps126
 go_wp2_with fail
 refine (HC.out _).mono ?_
 rintro _ w1 ⟨rfl, hg⟩
 have hB := (Blk.new w 87 #[.string ⟨#[]⟩, .string ⟨#[]⟩, .string ⟨#[]⟩, .int .i64 0, .string ⟨#[]⟩]).grown hg (by simp)
 have hG := ja (World.grownBy_alloc w (.cells #[.string ⟨#[]⟩, .string ⟨#[]⟩, .string ⟨#[]⟩, .int .i64 0, .string ⟨#[]⟩] 87) none) hg
 clear hg
 go_wp2_with fail
 refine (jm b _ hbs hba.out).mono ?_
 rintro _ w2 ⟨rfl, hg⟩
 rw [HV.out]
 replace hB := hB.grown hg (by simp)
 replace hG := ja hG hg
 clear hg
 go_wp2_with fail
 refine (jm a _ has haa.out).mono ?_
 rintro _ w4 ⟨rfl, hg⟩
 rw [HK.out]
 replace hB := hB.grown hg (by simp)
 replace hG := ja hG hg
 clear hg
 go_wp2_with fail
 refine (j2 a k _ has haa.out HK.out).mono ?_
 rintro _ w5 ⟨rfl, hg⟩
 replace hB := hB.grown hg (by simp)
 replace hG := ja hG hg
 clear hg
 have hP := Blk.new w5 87 #[.string a, .string (a.extract 0 (k + 1)), .string (a.extract (k + 1) a.size), .int .i64 0, .string ⟨#[]⟩]
 replace hG := jd hG (.cells #[.string a, .string (a.extract 0 (k + 1)), .string (a.extract (k + 1) a.size), .int .i64 0, .string ⟨#[]⟩] 87)
 have hne : ¬ w.heap.size = w5.heap.size := by have := hB.lt; omega
 have hww : w.heap.size ≤ w5.heap.size := by have := hB.lt; omega
 replace hB := hB.alloc (.cells #[.string a, .string (a.extract 0 (k + 1)), .string (a.extract (k + 1) a.size), .int .i64 0, .string ⟨#[]⟩] 87)
 go_wp2_with fail
 generalize w5.alloc (.cells #[.string a, .string (a.extract 0 (k + 1)), .string (a.extract (k + 1) a.size), .int .i64 0, .string ⟨#[]⟩] 87) = W5 at *
 clear hz
 refine (jw b _ hbs hba.out).mono ?_
 rintro _ w6 ⟨rfl, hg⟩
 rw [HGB.out]
 replace hP := hP.grown hg (by simp)
 replace hB := hB.grown hg (by simp)
 replace hG := ja hG hg
 clear hg
 have hf := hB.free
 have hlt := hB.lt
 have hpf := hP.free
 have hplt := hP.lt
 obtain ⟨c0, c1, c2, c3, c4⟩ := hB.cells5
 obtain ⟨p0, p1, p2, p3, p4⟩ := hP.cells5
 go_wp2_with fail
 refine bodyPost_ret (v := .tuple #[.agg #[.string ⟨#[]⟩, .string ⟨#[]⟩, .string ⟨#[]⟩, .int .i64 0, .string ⟨#[]⟩], .bool false]) (by simp [results, Tryz.results126, go_sem, c0, c1, c2, c3, c4]) rfl ?_
 exact yg HP.out (qj hG (Nat.le_refl _) _ _ _ _ _)
set_option maxRecDepth 100000 in
set_option maxHeartbeats 4000000 in
theorem jhe (s a b : ByteArray) (i : Nat) (w : World) (hs : s.size ≤ 1000000000) (ha : Ascii s) (h : ¬ 14 < s.size) (hi : Lib.indexByte s.data.toList 47 = (i : Int)) (hea : s.extract 0 i = a) (heb : s.extract (i + 1) s.size = b) (kb : Nat) (hv : jp b.data.toList = (kb : Int)) (hga : jr a.data.toList = false) (hk : jp a.data.toList = -1) :
 Calls Tryz.prog 126 #[.string s] w (ju s w) := by
 have h14 : ¬ (14 : Int) < (s.size : Int) := by omega
 have has : a.size ≤ 1000000000 := by rw [← hea]; simp; omega
 have hbs : b.size ≤ 1000000000 := by rw [← heb]; simp; omega
 have haa := Lib.hid (show Ascii a by rw [← hea]; exact ha.take _)
 have hba := Lib.hid (show Ascii b by rw [← heb]; exact ha.drop _)
 have hn : ¬ (0 ≤ jp b.data.toList ∧ jr a.data.toList = true) := fun hh => by rw [hga] at hh; simp at hh
 have HP := Lib.hid (zf h hi hea heb hn (fun hh => by omega))
 have HC : Hid (∀ W : World, Calls Tryz.prog 144 #[.string s, .string ⟨#[47]⟩] W fun e w' => e = .returned (.tuple #[.string a, .string b, .bool true]) ∧ W.grownBy w' none) := fun W => by
  have := qr s 47 i W (by omega) hi
  rw [hea, heb] at this
  exact this
 have HV := Lib.hid hv
 have HK := Lib.hid hk
 have HGA := Lib.hid hga
 have hkb : (0 : Int) ≤ (kb : Int) := by omega
 clear hi hea heb ha h hn hv hk hga
 go_enter Tryz.func126, Tryz.ntmps126
 go_wp2_with fail
 refine (HC.out _).mono ?_
 rintro _ w1 ⟨rfl, hg⟩
 have hB := (Blk.new w 87 #[.string ⟨#[]⟩, .string ⟨#[]⟩, .string ⟨#[]⟩, .int .i64 0, .string ⟨#[]⟩]).grown hg (by simp)
 have hG := ja (World.grownBy_alloc w (.cells #[.string ⟨#[]⟩, .string ⟨#[]⟩, .string ⟨#[]⟩, .int .i64 0, .string ⟨#[]⟩] 87) none) hg
 clear hg
 go_wp2_with fail
 refine (jm b _ hbs hba.out).mono ?_
 rintro _ w2 ⟨rfl, hg⟩
 rw [HV.out]
 replace hB := hB.grown hg (by simp)
 replace hG := ja hG hg
 clear hg
 go_wp2_with fail
 refine (jw a _ has haa.out).mono ?_
 rintro _ w3 ⟨rfl, hg⟩
 rw [HGA.out]
 replace hB := hB.grown hg (by simp)
 replace hG := ja hG hg
 clear hg
 go_wp2_with fail
 refine (jm a _ has haa.out).mono ?_
 rintro _ w4 ⟨rfl, hg⟩
 rw [HK.out]
 replace hB := hB.grown hg (by simp)
 replace hG := ja hG hg
 clear hg
 have hf := hB.free
 have hlt := hB.lt
 obtain ⟨c0, c1, c2, c3, c4⟩ := hB.cells5
 go_wp2_with fail
 refine bodyPost_ret (v := .tuple #[.agg #[.string ⟨#[]⟩, .string ⟨#[]⟩, .string ⟨#[]⟩, .int .i64 0, .string ⟨#[]⟩], .bool false]) (by simp [results, Tryz.results126, go_sem, c0, c1, c2, c3, c4]) rfl ?_
 exact yg HP.out (qj hG (Nat.le_refl _) _ _ _ _ _)
set_option maxRecDepth 100000 in
set_option maxHeartbeats 4000000 in
theorem jiu (s a b : ByteArray) (i : Nat) (w : World) (hs : s.size ≤ 1000000000) (ha : Ascii s) (h : ¬ 14 < s.size) (hi : Lib.indexByte s.data.toList 47 = (i : Int)) (hea : s.extract 0 i = a) (heb : s.extract (i + 1) s.size = b) (kb : Nat) (hv : jp b.data.toList = (kb : Int)) (hga : jr a.data.toList = false) (k : Nat) (hk : jp a.data.toList = (k : Int)) (yp : (b.toList == [112]) = true) (hT : qk b.data.toList = 3) :
 Calls Tryz.prog 126 #[.string s] w (ju s w) := by
 have h14 : ¬ (14 : Int) < (s.size : Int) := by omega
 have has : a.size ≤ 1000000000 := by rw [← hea]; simp; omega
 have hbs : b.size ≤ 1000000000 := by rw [← heb]; simp; omega
 have haa := Lib.hid (show Ascii a by rw [← hea]; exact ha.take _)
 have hba := Lib.hid (show Ascii b by rw [← heb]; exact ha.drop _)
 have hn : ¬ (0 ≤ jp b.data.toList ∧ jr a.data.toList = true) := fun hh => by rw [hga] at hh; simp at hh
 have HP : Hid (jo s = some (a, k, 3, ⟨#[]⟩)) := by
  show _ = _
  rw [qq h hi hea heb hn hk (by omega), hT]
  have : xb b = ⟨#[]⟩ := by unfold xb; rw [if_neg (by omega)]
  rw [this]
 have HC : Hid (∀ W : World, Calls Tryz.prog 144 #[.string s, .string ⟨#[47]⟩] W fun e w' => e = .returned (.tuple #[.string a, .string b, .bool true]) ∧ W.grownBy w' none) := fun W => by
  have := qr s 47 i W (by omega) hi
  rw [hea, heb] at this
  exact this
 have HV := Lib.hid hv
 have HK := Lib.hid hk
 have HGA := Lib.hid hga
 have hkb : (0 : Int) ≤ (kb : Int) := by omega
 have hka : ¬ (k : Int) < 0 := by omega
 clear hi hea heb ha h hn hv hk hga hT
 go_enter Tryz.func126, Tryz.ntmps126
 go_wp2_with fail
 refine (HC.out _).mono ?_
 rintro _ w1 ⟨rfl, hg⟩
 have hB := (Blk.new w 87 #[.string ⟨#[]⟩, .string ⟨#[]⟩, .string ⟨#[]⟩, .int .i64 0, .string ⟨#[]⟩]).grown hg (by simp)
 have hG := ja (World.grownBy_alloc w (.cells #[.string ⟨#[]⟩, .string ⟨#[]⟩, .string ⟨#[]⟩, .int .i64 0, .string ⟨#[]⟩] 87) none) hg
 clear hg
 go_wp2_with fail
 refine (jm b _ hbs hba.out).mono ?_
 rintro _ w2 ⟨rfl, hg⟩
 rw [HV.out]
 replace hB := hB.grown hg (by simp)
 replace hG := ja hG hg
 clear hg
 go_wp2_with fail
 refine (jw a _ has haa.out).mono ?_
 rintro _ w3 ⟨rfl, hg⟩
 rw [HGA.out]
 replace hB := hB.grown hg (by simp)
 replace hG := ja hG hg
 clear hg
 go_wp2_with fail
 refine (jm a _ has haa.out).mono ?_
 rintro _ w4 ⟨rfl, hg⟩
 rw [HK.out]
 replace hB := hB.grown hg (by simp)
 replace hG := ja hG hg
 clear hg
 go_wp2_with fail
 refine (j2 a k _ has haa.out HK.out).mono ?_
 rintro _ w5 ⟨rfl, hg⟩
 replace hB := hB.grown hg (by simp)
 replace hG := ja hG hg
 clear hg
 have hf := hB.free
 have hlt := hB.lt
 obtain ⟨c0, c1, c2, c3, c4⟩ := hB.cells5
 go_wp2_with fail
 obtain ⟨d0, d1, d2, d3, d4⟩ := ((hB.put5 (.string a) (.string (a.extract 0 (k + 1))) (.string (a.extract (k + 1) a.size)) (.int .i64 3) (.string ⟨#[]⟩)).alloc (.cells #[.string a, .string (a.extract 0 (k + 1)), .string (a.extract (k + 1) a.size), .int .i64 3, .string ⟨#[]⟩] 87)).cells5
 refine bodyPost_ret (v := .tuple #[.agg #[.string a, .string (a.extract 0 (k + 1)), .string (a.extract (k + 1) a.size), .int .i64 3, .string ⟨#[]⟩], .bool true]) (by simp [results, Tryz.results126, go_sem, d0, d1, d2, d3, d4]) rfl ?_
 exact ql HP.out (jd (qj hG (Nat.le_refl _) _ _ _ _ _) _)
set_option maxRecDepth 100000 in
set_option maxHeartbeats 4000000 in
theorem jit (s a b : ByteArray) (i : Nat) (w : World) (hs : s.size ≤ 1000000000) (ha : Ascii s) (h : ¬ 14 < s.size) (hi : Lib.indexByte s.data.toList 47 = (i : Int)) (hea : s.extract 0 i = a) (heb : s.extract (i + 1) s.size = b) (kb : Nat) (hv : jp b.data.toList = (kb : Int)) (hga : jr a.data.toList = false) (k : Nat) (hk : jp a.data.toList = (k : Int)) (np : (b.toList == [112]) = false) (ym : (b.toList == [109]) = true) (hT : qk b.data.toList = 4) :
 Calls Tryz.prog 126 #[.string s] w (ju s w) := by
 have h14 : ¬ (14 : Int) < (s.size : Int) := by omega
 have has : a.size ≤ 1000000000 := by rw [← hea]; simp; omega
 have hbs : b.size ≤ 1000000000 := by rw [← heb]; simp; omega
 have haa := Lib.hid (show Ascii a by rw [← hea]; exact ha.take _)
 have hba := Lib.hid (show Ascii b by rw [← heb]; exact ha.drop _)
 have hn : ¬ (0 ≤ jp b.data.toList ∧ jr a.data.toList = true) := fun hh => by rw [hga] at hh; simp at hh
 have HP : Hid (jo s = some (a, k, 4, ⟨#[]⟩)) := by
  show _ = _
  rw [qq h hi hea heb hn hk (by omega), hT]
  have : xb b = ⟨#[]⟩ := by unfold xb; rw [if_neg (by omega)]
  rw [this]
 have HC : Hid (∀ W : World, Calls Tryz.prog 144 #[.string s, .string ⟨#[47]⟩] W fun e w' => e = .returned (.tuple #[.string a, .string b, .bool true]) ∧ W.grownBy w' none) := fun W => by
  have := qr s 47 i W (by omega) hi
  rw [hea, heb] at this
  exact this
 have HV := Lib.hid hv
 have HK := Lib.hid hk
 have HGA := Lib.hid hga
 have hkb : (0 : Int) ≤ (kb : Int) := by omega
 have hka : ¬ (k : Int) < 0 := by omega
 clear hi hea heb ha h hn hv hk hga hT
 go_enter Tryz.func126, Tryz.ntmps126
 go_wp2_with fail
 refine (HC.out _).mono ?_
 rintro _ w1 ⟨rfl, hg⟩
 have hB := (Blk.new w 87 #[.string ⟨#[]⟩, .string ⟨#[]⟩, .string ⟨#[]⟩, .int .i64 0, .string ⟨#[]⟩]).grown hg (by simp)
 have hG := ja (World.grownBy_alloc w (.cells #[.string ⟨#[]⟩, .string ⟨#[]⟩, .string ⟨#[]⟩, .int .i64 0, .string ⟨#[]⟩] 87) none) hg
 clear hg
 go_wp2_with fail
 refine (jm b _ hbs hba.out).mono ?_
 rintro _ w2 ⟨rfl, hg⟩
 rw [HV.out]
 replace hB := hB.grown hg (by simp)
 replace hG := ja hG hg
 clear hg
 go_wp2_with fail
 refine (jw a _ has haa.out).mono ?_
 rintro _ w3 ⟨rfl, hg⟩
 rw [HGA.out]
 replace hB := hB.grown hg (by simp)
 replace hG := ja hG hg
 clear hg
 go_wp2_with fail
 refine (jm a _ has haa.out).mono ?_
 rintro _ w4 ⟨rfl, hg⟩
 rw [HK.out]
 replace hB := hB.grown hg (by simp)
 replace hG := ja hG hg
 clear hg
 go_wp2_with fail
 refine (j2 a k _ has haa.out HK.out).mono ?_
 rintro _ w5 ⟨rfl, hg⟩
 replace hB := hB.grown hg (by simp)
 replace hG := ja hG hg
 clear hg
 have hf := hB.free
 have hlt := hB.lt
 obtain ⟨c0, c1, c2, c3, c4⟩ := hB.cells5
 go_wp2_with fail
 obtain ⟨d0, d1, d2, d3, d4⟩ := ((hB.put5 (.string a) (.string (a.extract 0 (k + 1))) (.string (a.extract (k + 1) a.size)) (.int .i64 4) (.string ⟨#[]⟩)).alloc (.cells #[.string a, .string (a.extract 0 (k + 1)), .string (a.extract (k + 1) a.size), .int .i64 4, .string ⟨#[]⟩] 87)).cells5
 refine bodyPost_ret (v := .tuple #[.agg #[.string a, .string (a.extract 0 (k + 1)), .string (a.extract (k + 1) a.size), .int .i64 4, .string ⟨#[]⟩], .bool true]) (by simp [results, Tryz.results126, go_sem, d0, d1, d2, d3, d4]) rfl ?_
 exact ql HP.out (jd (qj hG (Nat.le_refl _) _ _ _ _ _) _)
set_option maxRecDepth 100000 in
set_option maxHeartbeats 4000000 in
theorem jhd (s a b : ByteArray) (i : Nat) (w : World) (hs : s.size ≤ 1000000000) (ha : Ascii s) (h : ¬ 14 < s.size) (hi : Lib.indexByte s.data.toList 47 = (i : Int)) (hea : s.extract 0 i = a) (heb : s.extract (i + 1) s.size = b) (kb : Nat) (hv : jp b.data.toList = (kb : Int)) (hga : jr a.data.toList = false) (k : Nat) (hk : jp a.data.toList = (k : Int)) (np : (b.toList == [112]) = false) (nm : (b.toList == [109]) = false) (ymm : (b.toList == [109, 109]) = true) (hT : qk b.data.toList = 5) :
 Calls Tryz.prog 126 #[.string s] w (ju s w) := by
 have h14 : ¬ (14 : Int) < (s.size : Int) := by omega
 have has : a.size ≤ 1000000000 := by rw [← hea]; simp; omega
 have hbs : b.size ≤ 1000000000 := by rw [← heb]; simp; omega
 have haa := Lib.hid (show Ascii a by rw [← hea]; exact ha.take _)
 have hba := Lib.hid (show Ascii b by rw [← heb]; exact ha.drop _)
 have hn : ¬ (0 ≤ jp b.data.toList ∧ jr a.data.toList = true) := fun hh => by rw [hga] at hh; simp at hh
 have HP : Hid (jo s = some (a, k, 5, ⟨#[]⟩)) := by
  show _ = _
  rw [qq h hi hea heb hn hk (by omega), hT]
  have : xb b = ⟨#[]⟩ := by unfold xb; rw [if_neg (by omega)]
  rw [this]
 have HC : Hid (∀ W : World, Calls Tryz.prog 144 #[.string s, .string ⟨#[47]⟩] W fun e w' => e = .returned (.tuple #[.string a, .string b, .bool true]) ∧ W.grownBy w' none) := fun W => by
  have := qr s 47 i W (by omega) hi
  rw [hea, heb] at this
  exact this
 have HV := Lib.hid hv
 have HK := Lib.hid hk
 have HGA := Lib.hid hga
 have hkb : (0 : Int) ≤ (kb : Int) := by omega
 have hka : ¬ (k : Int) < 0 := by omega
 clear hi hea heb ha h hn hv hk hga hT
 go_enter Tryz.func126, Tryz.ntmps126
 go_wp2_with fail
 refine (HC.out _).mono ?_
 rintro _ w1 ⟨rfl, hg⟩
 have hB := (Blk.new w 87 #[.string ⟨#[]⟩, .string ⟨#[]⟩, .string ⟨#[]⟩, .int .i64 0, .string ⟨#[]⟩]).grown hg (by simp)
 have hG := ja (World.grownBy_alloc w (.cells #[.string ⟨#[]⟩, .string ⟨#[]⟩, .string ⟨#[]⟩, .int .i64 0, .string ⟨#[]⟩] 87) none) hg
 clear hg
 go_wp2_with fail
 refine (jm b _ hbs hba.out).mono ?_
 rintro _ w2 ⟨rfl, hg⟩
 rw [HV.out]
 replace hB := hB.grown hg (by simp)
 replace hG := ja hG hg
 clear hg
 go_wp2_with fail
 refine (jw a _ has haa.out).mono ?_
 rintro _ w3 ⟨rfl, hg⟩
 rw [HGA.out]
 replace hB := hB.grown hg (by simp)
 replace hG := ja hG hg
 clear hg
 go_wp2_with fail
 refine (jm a _ has haa.out).mono ?_
 rintro _ w4 ⟨rfl, hg⟩
 rw [HK.out]
 replace hB := hB.grown hg (by simp)
 replace hG := ja hG hg
 clear hg
 go_wp2_with fail
 refine (j2 a k _ has haa.out HK.out).mono ?_
 rintro _ w5 ⟨rfl, hg⟩
 replace hB := hB.grown hg (by simp)
 replace hG := ja hG hg
 clear hg
 have hf := hB.free
 have hlt := hB.lt
 obtain ⟨c0, c1, c2, c3, c4⟩ := hB.cells5
 go_wp2_with fail
 obtain ⟨d0, d1, d2, d3, d4⟩ := ((hB.put5 (.string a) (.string (a.extract 0 (k + 1))) (.string (a.extract (k + 1) a.size)) (.int .i64 5) (.string ⟨#[]⟩)).alloc (.cells #[.string a, .string (a.extract 0 (k + 1)), .string (a.extract (k + 1) a.size), .int .i64 5, .string ⟨#[]⟩] 87)).cells5
 refine bodyPost_ret (v := .tuple #[.agg #[.string a, .string (a.extract 0 (k + 1)), .string (a.extract (k + 1) a.size), .int .i64 5, .string ⟨#[]⟩], .bool true]) (by simp [results, Tryz.results126, go_sem, d0, d1, d2, d3, d4]) rfl ?_
 exact ql HP.out (jd (qj hG (Nat.le_refl _) _ _ _ _ _) _)
set_option maxRecDepth 100000 in
set_option maxHeartbeats 4000000 in
theorem jhc (s a b : ByteArray) (i : Nat) (w : World) (hs : s.size ≤ 1000000000) (ha : Ascii s) (h : ¬ 14 < s.size) (hi : Lib.indexByte s.data.toList 47 = (i : Int)) (hea : s.extract 0 i = a) (heb : s.extract (i + 1) s.size = b) (kb : Nat) (hv : jp b.data.toList = (kb : Int)) (hga : jr a.data.toList = false) (k : Nat) (hk : jp a.data.toList = (k : Int)) (np : (b.toList == [112]) = false) (nm : (b.toList == [109]) = false) (nmm : (b.toList == [109, 109]) = false) (yam : (b.toList == [97, 109]) = true) (hT : qk b.data.toList = 6) :
 Calls Tryz.prog 126 #[.string s] w (ju s w) := by
 have h14 : ¬ (14 : Int) < (s.size : Int) := by omega
 have has : a.size ≤ 1000000000 := by rw [← hea]; simp; omega
 have hbs : b.size ≤ 1000000000 := by rw [← heb]; simp; omega
 have haa := Lib.hid (show Ascii a by rw [← hea]; exact ha.take _)
 have hba := Lib.hid (show Ascii b by rw [← heb]; exact ha.drop _)
 have hn : ¬ (0 ≤ jp b.data.toList ∧ jr a.data.toList = true) := fun hh => by rw [hga] at hh; simp at hh
 have HP : Hid (jo s = some (a, k, 6, ⟨#[]⟩)) := by
  show _ = _
  rw [qq h hi hea heb hn hk (by omega), hT]
  have : xb b = ⟨#[]⟩ := by unfold xb; rw [if_neg (by omega)]
  rw [this]
 have HC : Hid (∀ W : World, Calls Tryz.prog 144 #[.string s, .string ⟨#[47]⟩] W fun e w' => e = .returned (.tuple #[.string a, .string b, .bool true]) ∧ W.grownBy w' none) := fun W => by
  have := qr s 47 i W (by omega) hi
  rw [hea, heb] at this
  exact this
 have HV := Lib.hid hv
 have HK := Lib.hid hk
 have HGA := Lib.hid hga
 have hkb : (0 : Int) ≤ (kb : Int) := by omega
 have hka : ¬ (k : Int) < 0 := by omega
 clear hi hea heb ha h hn hv hk hga hT
 go_enter Tryz.func126, Tryz.ntmps126
 go_wp2_with fail
 refine (HC.out _).mono ?_
 rintro _ w1 ⟨rfl, hg⟩
 have hB := (Blk.new w 87 #[.string ⟨#[]⟩, .string ⟨#[]⟩, .string ⟨#[]⟩, .int .i64 0, .string ⟨#[]⟩]).grown hg (by simp)
 have hG := ja (World.grownBy_alloc w (.cells #[.string ⟨#[]⟩, .string ⟨#[]⟩, .string ⟨#[]⟩, .int .i64 0, .string ⟨#[]⟩] 87) none) hg
 clear hg
 go_wp2_with fail
 refine (jm b _ hbs hba.out).mono ?_
 rintro _ w2 ⟨rfl, hg⟩
 rw [HV.out]
 replace hB := hB.grown hg (by simp)
 replace hG := ja hG hg
 clear hg
 go_wp2_with fail
 refine (jw a _ has haa.out).mono ?_
 rintro _ w3 ⟨rfl, hg⟩
 rw [HGA.out]
 replace hB := hB.grown hg (by simp)
 replace hG := ja hG hg
 clear hg
 go_wp2_with fail
 refine (jm a _ has haa.out).mono ?_
 rintro _ w4 ⟨rfl, hg⟩
 rw [HK.out]
 replace hB := hB.grown hg (by simp)
 replace hG := ja hG hg
 clear hg
 go_wp2_with fail
 refine (j2 a k _ has haa.out HK.out).mono ?_
 rintro _ w5 ⟨rfl, hg⟩
 replace hB := hB.grown hg (by simp)
 replace hG := ja hG hg
 clear hg
 have hf := hB.free
 have hlt := hB.lt
 obtain ⟨c0, c1, c2, c3, c4⟩ := hB.cells5
 go_wp2_with fail
 obtain ⟨d0, d1, d2, d3, d4⟩ := ((hB.put5 (.string a) (.string (a.extract 0 (k + 1))) (.string (a.extract (k + 1) a.size)) (.int .i64 6) (.string ⟨#[]⟩)).alloc (.cells #[.string a, .string (a.extract 0 (k + 1)), .string (a.extract (k + 1) a.size), .int .i64 6, .string ⟨#[]⟩] 87)).cells5
 refine bodyPost_ret (v := .tuple #[.agg #[.string a, .string (a.extract 0 (k + 1)), .string (a.extract (k + 1) a.size), .int .i64 6, .string ⟨#[]⟩], .bool true]) (by simp [results, Tryz.results126, go_sem, d0, d1, d2, d3, d4]) rfl ?_
 exact ql HP.out (jd (qj hG (Nat.le_refl _) _ _ _ _ _) _)
set_option maxRecDepth 100000 in
set_option maxHeartbeats 4000000 in
theorem jfl (s a b : ByteArray) (i : Nat) (w : World) (hs : s.size ≤ 1000000000) (ha : Ascii s) (h : ¬ 14 < s.size) (hi : Lib.indexByte s.data.toList 47 = (i : Int)) (hea : s.extract 0 i = a) (heb : s.extract (i + 1) s.size = b) (kb : Nat) (hv : jp b.data.toList = (kb : Int)) (hga : jr a.data.toList = false) (k : Nat) (hk : jp a.data.toList = (k : Int)) (np : (b.toList == [112]) = false) (nm : (b.toList == [109]) = false) (nmm : (b.toList == [109, 109]) = false) (nam : (b.toList == [97, 109]) = false) (c : UInt8) (hbc : b = ⟨#[c]⟩) (hz : ((b.size : Int) == 1) = true) (hd : dgB c = true) (hT : qk b.data.toList = 2) :
 Calls Tryz.prog 126 #[.string s] w (ju s w) := by
 have h14 : ¬ (14 : Int) < (s.size : Int) := by omega
 have has : a.size ≤ 1000000000 := by rw [← hea]; simp; omega
 have hbs : b.size ≤ 1000000000 := by rw [← heb]; simp; omega
 have haa := Lib.hid (show Ascii a by rw [← hea]; exact ha.take _)
 have hba := Lib.hid (show Ascii b by rw [← heb]; exact ha.drop _)
 have hn : ¬ (0 ≤ jp b.data.toList ∧ jr a.data.toList = true) := fun hh => by rw [hga] at hh; simp at hh
 have HP : Hid (jo s = some (a, k, 2, b)) := by
  show _ = _
  rw [qq h hi hea heb hn hk (by omega), hT]
  have : xb b = b := by unfold xb; rw [if_pos (by omega)]
  rw [this]
 have HC : Hid (∀ W : World, Calls Tryz.prog 144 #[.string s, .string ⟨#[47]⟩] W fun e w' => e = .returned (.tuple #[.string a, .string b, .bool true]) ∧ W.grownBy w' none) := fun W => by
  have := qr s 47 i W (by omega) hi
  rw [hea, heb] at this
  exact this
 have HV := Lib.hid hv
 have HK := Lib.hid hk
 have HGA := Lib.hid hga
 have hkb : (0 : Int) ≤ (kb : Int) := by omega
 have hka : ¬ (k : Int) < 0 := by omega
 have HD : Hid (∀ W : World, Calls Tryz.prog 181 #[.string ⟨#[48, 49, 50, 51, 52, 53, 54, 55, 56, 57]⟩, .string b] W fun e w' => e = .returned (.bool (dgB c)) ∧ W = w') := fun W => by rw [hbc]; exact jc8 c W
 rw [hd] at HD
 clear hi hea heb ha h hn hv hk hga hT hbc hd
 go_enter Tryz.func126, Tryz.ntmps126
 go_wp2_with fail
 refine (HC.out _).mono ?_
 rintro _ w1 ⟨rfl, hg⟩
 have hB := (Blk.new w 87 #[.string ⟨#[]⟩, .string ⟨#[]⟩, .string ⟨#[]⟩, .int .i64 0, .string ⟨#[]⟩]).grown hg (by simp)
 have hG := ja (World.grownBy_alloc w (.cells #[.string ⟨#[]⟩, .string ⟨#[]⟩, .string ⟨#[]⟩, .int .i64 0, .string ⟨#[]⟩] 87) none) hg
 clear hg
 go_wp2_with fail
 refine (jm b _ hbs hba.out).mono ?_
 rintro _ w2 ⟨rfl, hg⟩
 rw [HV.out]
 replace hB := hB.grown hg (by simp)
 replace hG := ja hG hg
 clear hg
 go_wp2_with fail
 refine (jw a _ has haa.out).mono ?_
 rintro _ w3 ⟨rfl, hg⟩
 rw [HGA.out]
 replace hB := hB.grown hg (by simp)
 replace hG := ja hG hg
 clear hg
 go_wp2_with fail
 refine (jm a _ has haa.out).mono ?_
 rintro _ w4 ⟨rfl, hg⟩
 rw [HK.out]
 replace hB := hB.grown hg (by simp)
 replace hG := ja hG hg
 clear hg
 go_wp2_with fail
 refine (j2 a k _ has haa.out HK.out).mono ?_
 rintro _ w5 ⟨rfl, hg⟩
 replace hB := hB.grown hg (by simp)
 replace hG := ja hG hg
 clear hg
 have hP := Blk.new w5 87 #[.string a, .string (a.extract 0 (k + 1)), .string (a.extract (k + 1) a.size), .int .i64 0, .string ⟨#[]⟩]
 replace hG := jd hG (.cells #[.string a, .string (a.extract 0 (k + 1)), .string (a.extract (k + 1) a.size), .int .i64 0, .string ⟨#[]⟩] 87)
 have hne : ¬ w.heap.size = w5.heap.size := by have := hB.lt; omega
 have hww : w.heap.size ≤ w5.heap.size := by have := hB.lt; omega
 replace hB := hB.alloc (.cells #[.string a, .string (a.extract 0 (k + 1)), .string (a.extract (k + 1) a.size), .int .i64 0, .string ⟨#[]⟩] 87)
 go_wp2_with fail
 generalize w5.alloc (.cells #[.string a, .string (a.extract 0 (k + 1)), .string (a.extract (k + 1) a.size), .int .i64 0, .string ⟨#[]⟩] 87) = W5 at *
 refine (HD.out _).mono ?_
 rintro _ _ ⟨rfl, rfl⟩
 have hf := hB.free
 have hlt := hB.lt
 have hpf := hP.free
 have hplt := hP.lt
 obtain ⟨c0, c1, c2, c3, c4⟩ := hB.cells5
 obtain ⟨p0, p1, p2, p3, p4⟩ := hP.cells5
 go_wp2_with fail
 refine bodyPost_ret (v := .tuple #[.agg #[.string a, .string (a.extract 0 (k + 1)), .string (a.extract (k + 1) a.size), .int .i64 2, .string b], .bool true]) (by simp [results, Tryz.results126, go_sem, c0, c1, c2, c3, c4]) rfl ?_
 exact ql HP.out (qj (jg (jg hG (.inr hww) _) (.inr hww) _) (Nat.le_refl _) _ _ _ _ _)
set_option maxRecDepth 100000 in
set_option maxHeartbeats 4000000 in
theorem jbz (s a b : ByteArray) (i : Nat) (w : World) (hs : s.size ≤ 1000000000) (ha : Ascii s) (h : ¬ 14 < s.size) (hi : Lib.indexByte s.data.toList 47 = (i : Int)) (hea : s.extract 0 i = a) (heb : s.extract (i + 1) s.size = b) (kb : Nat) (hv : jp b.data.toList = (kb : Int)) (hga : jr a.data.toList = false) (k : Nat) (hk : jp a.data.toList = (k : Int)) (np : (b.toList == [112]) = false) (nm : (b.toList == [109]) = false) (nmm : (b.toList == [109, 109]) = false) (nam : (b.toList == [97, 109]) = false) (c : UInt8) (hbc : b = ⟨#[c]⟩) (hz : ((b.size : Int) == 1) = true) (hd : dgB c = false) (hgb : jr b.data.toList = true) (hT : qk b.data.toList = 1) :
 Calls Tryz.prog 126 #[.string s] w (ju s w) := by
 have h14 : ¬ (14 : Int) < (s.size : Int) := by omega
 have has : a.size ≤ 1000000000 := by rw [← hea]; simp; omega
 have hbs : b.size ≤ 1000000000 := by rw [← heb]; simp; omega
 have haa := Lib.hid (show Ascii a by rw [← hea]; exact ha.take _)
 have hba := Lib.hid (show Ascii b by rw [← heb]; exact ha.drop _)
 have hn : ¬ (0 ≤ jp b.data.toList ∧ jr a.data.toList = true) := fun hh => by rw [hga] at hh; simp at hh
 have HP : Hid (jo s = some (a, k, 1, b)) := by
  show _ = _
  rw [qq h hi hea heb hn hk (by omega), hT]
  have : xb b = b := by unfold xb; rw [if_pos (by omega)]
  rw [this]
 have HC : Hid (∀ W : World, Calls Tryz.prog 144 #[.string s, .string ⟨#[47]⟩] W fun e w' => e = .returned (.tuple #[.string a, .string b, .bool true]) ∧ W.grownBy w' none) := fun W => by
  have := qr s 47 i W (by omega) hi
  rw [hea, heb] at this
  exact this
 have HV := Lib.hid hv
 have HK := Lib.hid hk
 have HGA := Lib.hid hga
 have hkb : (0 : Int) ≤ (kb : Int) := by omega
 have hka : ¬ (k : Int) < 0 := by omega
 have HD : Hid (∀ W : World, Calls Tryz.prog 181 #[.string ⟨#[48, 49, 50, 51, 52, 53, 54, 55, 56, 57]⟩, .string b] W fun e w' => e = .returned (.bool (dgB c)) ∧ W = w') := fun W => by rw [hbc]; exact jc8 c W
 rw [hd] at HD
 have HGB := Lib.hid hgb
 clear hi hea heb ha h hn hv hk hga hT hbc hd hgb
 go_enter Tryz.func126, Tryz.ntmps126
 go_wp2_with fail
 refine (HC.out _).mono ?_
 rintro _ w1 ⟨rfl, hg⟩
 have hB := (Blk.new w 87 #[.string ⟨#[]⟩, .string ⟨#[]⟩, .string ⟨#[]⟩, .int .i64 0, .string ⟨#[]⟩]).grown hg (by simp)
 have hG := ja (World.grownBy_alloc w (.cells #[.string ⟨#[]⟩, .string ⟨#[]⟩, .string ⟨#[]⟩, .int .i64 0, .string ⟨#[]⟩] 87) none) hg
 clear hg
 go_wp2_with fail
 refine (jm b _ hbs hba.out).mono ?_
 rintro _ w2 ⟨rfl, hg⟩
 rw [HV.out]
 replace hB := hB.grown hg (by simp)
 replace hG := ja hG hg
 clear hg
 go_wp2_with fail
 refine (jw a _ has haa.out).mono ?_
 rintro _ w3 ⟨rfl, hg⟩
 rw [HGA.out]
 replace hB := hB.grown hg (by simp)
 replace hG := ja hG hg
 clear hg
 go_wp2_with fail
 refine (jm a _ has haa.out).mono ?_
 rintro _ w4 ⟨rfl, hg⟩
 rw [HK.out]
 replace hB := hB.grown hg (by simp)
 replace hG := ja hG hg
 clear hg
 go_wp2_with fail
 refine (j2 a k _ has haa.out HK.out).mono ?_
 rintro _ w5 ⟨rfl, hg⟩
 replace hB := hB.grown hg (by simp)
 replace hG := ja hG hg
 clear hg
 have hP := Blk.new w5 87 #[.string a, .string (a.extract 0 (k + 1)), .string (a.extract (k + 1) a.size), .int .i64 0, .string ⟨#[]⟩]
 replace hG := jd hG (.cells #[.string a, .string (a.extract 0 (k + 1)), .string (a.extract (k + 1) a.size), .int .i64 0, .string ⟨#[]⟩] 87)
 have hne : ¬ w.heap.size = w5.heap.size := by have := hB.lt; omega
 have hww : w.heap.size ≤ w5.heap.size := by have := hB.lt; omega
 replace hB := hB.alloc (.cells #[.string a, .string (a.extract 0 (k + 1)), .string (a.extract (k + 1) a.size), .int .i64 0, .string ⟨#[]⟩] 87)
 go_wp2_with fail
 generalize w5.alloc (.cells #[.string a, .string (a.extract 0 (k + 1)), .string (a.extract (k + 1) a.size), .int .i64 0, .string ⟨#[]⟩] 87) = W5 at *
 refine (HD.out _).mono ?_
 rintro _ _ ⟨rfl, rfl⟩
 go_wp2_with fail
 refine (jw b _ hbs hba.out).mono ?_
 rintro _ w6 ⟨rfl, hg⟩
 rw [HGB.out]
 replace hP := hP.grown hg (by simp)
 replace hB := hB.grown hg (by simp)
 replace hG := ja hG hg
 clear hg
 have hf := hB.free
 have hlt := hB.lt
 have hpf := hP.free
 have hplt := hP.lt
 obtain ⟨c0, c1, c2, c3, c4⟩ := hB.cells5
 obtain ⟨p0, p1, p2, p3, p4⟩ := hP.cells5
 go_wp2_with fail
 refine bodyPost_ret (v := .tuple #[.agg #[.string a, .string (a.extract 0 (k + 1)), .string (a.extract (k + 1) a.size), .int .i64 1, .string b], .bool true]) (by simp [results, Tryz.results126, go_sem, c0, c1, c2, c3, c4]) rfl ?_
 exact ql HP.out (qj (jg (jg hG (.inr hww) _) (.inr hww) _) (Nat.le_refl _) _ _ _ _ _)
set_option maxRecDepth 100000 in
set_option maxHeartbeats 4000000 in
theorem jcc (s a b : ByteArray) (i : Nat) (w : World) (hs : s.size ≤ 1000000000) (ha : Ascii s) (h : ¬ 14 < s.size) (hi : Lib.indexByte s.data.toList 47 = (i : Int)) (hea : s.extract 0 i = a) (heb : s.extract (i + 1) s.size = b) (kb : Nat) (hv : jp b.data.toList = (kb : Int)) (hga : jr a.data.toList = false) (k : Nat) (hk : jp a.data.toList = (k : Int)) (np : (b.toList == [112]) = false) (nm : (b.toList == [109]) = false) (nmm : (b.toList == [109, 109]) = false) (nam : (b.toList == [97, 109]) = false) (c : UInt8) (hbc : b = ⟨#[c]⟩) (hz : ((b.size : Int) == 1) = true) (hd : dgB c = false) (hgb : jr b.data.toList = false) (hT : qk b.data.toList = 0) :
 Calls Tryz.prog 126 #[.string s] w (ju s w) := by
 have h14 : ¬ (14 : Int) < (s.size : Int) := by omega
 have has : a.size ≤ 1000000000 := by rw [← hea]; simp; omega
 have hbs : b.size ≤ 1000000000 := by rw [← heb]; simp; omega
 have haa := Lib.hid (show Ascii a by rw [← hea]; exact ha.take _)
 have hba := Lib.hid (show Ascii b by rw [← heb]; exact ha.drop _)
 have hn : ¬ (0 ≤ jp b.data.toList ∧ jr a.data.toList = true) := fun hh => by rw [hga] at hh; simp at hh
 have HP := Lib.hid (zf h hi hea heb hn (fun hh => hh.2 hT))
 have HC : Hid (∀ W : World, Calls Tryz.prog 144 #[.string s, .string ⟨#[47]⟩] W fun e w' => e = .returned (.tuple #[.string a, .string b, .bool true]) ∧ W.grownBy w' none) := fun W => by
  have := qr s 47 i W (by omega) hi
  rw [hea, heb] at this
  exact this
 have HV := Lib.hid hv
 have HK := Lib.hid hk
 have HGA := Lib.hid hga
 have hkb : (0 : Int) ≤ (kb : Int) := by omega
 have hka : ¬ (k : Int) < 0 := by omega
 have HD : Hid (∀ W : World, Calls Tryz.prog 181 #[.string ⟨#[48, 49, 50, 51, 52, 53, 54, 55, 56, 57]⟩, .string b] W fun e w' => e = .returned (.bool (dgB c)) ∧ W = w') := fun W => by rw [hbc]; exact jc8 c W
 rw [hd] at HD
 have HGB := Lib.hid hgb
 clear hi hea heb ha h hn hv hk hga hT hbc hd hgb
 go_enter Tryz.func126, Tryz.ntmps126
 go_wp2_with fail
 refine (HC.out _).mono ?_
 rintro _ w1 ⟨rfl, hg⟩
 have hB := (Blk.new w 87 #[.string ⟨#[]⟩, .string ⟨#[]⟩, .string ⟨#[]⟩, .int .i64 0, .string ⟨#[]⟩]).grown hg (by simp)
 have hG := ja (World.grownBy_alloc w (.cells #[.string ⟨#[]⟩, .string ⟨#[]⟩, .string ⟨#[]⟩, .int .i64 0, .string ⟨#[]⟩] 87) none) hg
 clear hg
 go_wp2_with fail
 refine (jm b _ hbs hba.out).mono ?_
 rintro _ w2 ⟨rfl, hg⟩
 rw [HV.out]
 replace hB := hB.grown hg (by simp)
 replace hG := ja hG hg
 clear hg
 go_wp2_with fail
 refine (jw a _ has haa.out).mono ?_
 rintro _ w3 ⟨rfl, hg⟩
 rw [HGA.out]
 replace hB := hB.grown hg (by simp)
 replace hG := ja hG hg
 clear hg
 go_wp2_with fail
 refine (jm a _ has haa.out).mono ?_
 rintro _ w4 ⟨rfl, hg⟩
 rw [HK.out]
 replace hB := hB.grown hg (by simp)
 replace hG := ja hG hg
 clear hg
 go_wp2_with fail
 refine (j2 a k _ has haa.out HK.out).mono ?_
 rintro _ w5 ⟨rfl, hg⟩
 replace hB := hB.grown hg (by simp)
 replace hG := ja hG hg
 clear hg
 have hP := Blk.new w5 87 #[.string a, .string (a.extract 0 (k + 1)), .string (a.extract (k + 1) a.size), .int .i64 0, .string ⟨#[]⟩]
 replace hG := jd hG (.cells #[.string a, .string (a.extract 0 (k + 1)), .string (a.extract (k + 1) a.size), .int .i64 0, .string ⟨#[]⟩] 87)
 have hne : ¬ w.heap.size = w5.heap.size := by have := hB.lt; omega
 have hww : w.heap.size ≤ w5.heap.size := by have := hB.lt; omega
 replace hB := hB.alloc (.cells #[.string a, .string (a.extract 0 (k + 1)), .string (a.extract (k + 1) a.size), .int .i64 0, .string ⟨#[]⟩] 87)
 go_wp2_with fail
 generalize w5.alloc (.cells #[.string a, .string (a.extract 0 (k + 1)), .string (a.extract (k + 1) a.size), .int .i64 0, .string ⟨#[]⟩] 87) = W5 at *
 refine (HD.out _).mono ?_
 rintro _ _ ⟨rfl, rfl⟩
 go_wp2_with fail
 refine (jw b _ hbs hba.out).mono ?_
 rintro _ w6 ⟨rfl, hg⟩
 rw [HGB.out]
 replace hP := hP.grown hg (by simp)
 replace hB := hB.grown hg (by simp)
 replace hG := ja hG hg
 clear hg
 have hf := hB.free
 have hlt := hB.lt
 have hpf := hP.free
 have hplt := hP.lt
 obtain ⟨c0, c1, c2, c3, c4⟩ := hB.cells5
 obtain ⟨p0, p1, p2, p3, p4⟩ := hP.cells5
 go_wp2_with fail
 refine bodyPost_ret (v := .tuple #[.agg #[.string ⟨#[]⟩, .string ⟨#[]⟩, .string ⟨#[]⟩, .int .i64 0, .string ⟨#[]⟩], .bool false]) (by simp [results, Tryz.results126, go_sem, c0, c1, c2, c3, c4]) rfl ?_
 exact yg HP.out (qj hG (Nat.le_refl _) _ _ _ _ _)
set_option maxRecDepth 100000 in
set_option maxHeartbeats 4000000 in
theorem jbg (s a b : ByteArray) (i : Nat) (w : World) (hs : s.size ≤ 1000000000) (ha : Ascii s) (h : ¬ 14 < s.size) (hi : Lib.indexByte s.data.toList 47 = (i : Int)) (hea : s.extract 0 i = a) (heb : s.extract (i + 1) s.size = b) (kb : Nat) (hv : jp b.data.toList = (kb : Int)) (hga : jr a.data.toList = false) (k : Nat) (hk : jp a.data.toList = (k : Int)) (np : (b.toList == [112]) = false) (nm : (b.toList == [109]) = false) (nmm : (b.toList == [109, 109]) = false) (nam : (b.toList == [97, 109]) = false) (hz : ((b.size : Int) == 1) = false) (hgb : jr b.data.toList = true) (hT : qk b.data.toList = 1) :
 Calls Tryz.prog 126 #[.string s] w (ju s w) := by
 have h14 : ¬ (14 : Int) < (s.size : Int) := by omega
 have has : a.size ≤ 1000000000 := by rw [← hea]; simp; omega
 have hbs : b.size ≤ 1000000000 := by rw [← heb]; simp; omega
 have haa := Lib.hid (show Ascii a by rw [← hea]; exact ha.take _)
 have hba := Lib.hid (show Ascii b by rw [← heb]; exact ha.drop _)
 have hn : ¬ (0 ≤ jp b.data.toList ∧ jr a.data.toList = true) := fun hh => by rw [hga] at hh; simp at hh
 have HP : Hid (jo s = some (a, k, 1, b)) := by
  show _ = _
  rw [qq h hi hea heb hn hk (by omega), hT]
  have : xb b = b := by unfold xb; rw [if_pos (by omega)]
  rw [this]
 have HC : Hid (∀ W : World, Calls Tryz.prog 144 #[.string s, .string ⟨#[47]⟩] W fun e w' => e = .returned (.tuple #[.string a, .string b, .bool true]) ∧ W.grownBy w' none) := fun W => by
  have := qr s 47 i W (by omega) hi
  rw [hea, heb] at this
  exact this
 have HV := Lib.hid hv
 have HK := Lib.hid hk
 have HGA := Lib.hid hga
 have hkb : (0 : Int) ≤ (kb : Int) := by omega
 have hka : ¬ (k : Int) < 0 := by omega
 have HGB := Lib.hid hgb
 clear hi hea heb ha h hn hv hk hga hT hgb
 go_enter Tryz.func126, Tryz.ntmps126
 go_wp2_with fail
 refine (HC.out _).mono ?_
 rintro _ w1 ⟨rfl, hg⟩
 have hB := (Blk.new w 87 #[.string ⟨#[]⟩, .string ⟨#[]⟩, .string ⟨#[]⟩, .int .i64 0, .string ⟨#[]⟩]).grown hg (by simp)
 have hG := ja (World.grownBy_alloc w (.cells #[.string ⟨#[]⟩, .string ⟨#[]⟩, .string ⟨#[]⟩, .int .i64 0, .string ⟨#[]⟩] 87) none) hg
 clear hg
 go_wp2_with fail
 refine (jm b _ hbs hba.out).mono ?_
 rintro _ w2 ⟨rfl, hg⟩
 rw [HV.out]
 replace hB := hB.grown hg (by simp)
 replace hG := ja hG hg
 clear hg
 go_wp2_with fail
 refine (jw a _ has haa.out).mono ?_
 rintro _ w3 ⟨rfl, hg⟩
 rw [HGA.out]
 replace hB := hB.grown hg (by simp)
 replace hG := ja hG hg
 clear hg
 go_wp2_with fail
 refine (jm a _ has haa.out).mono ?_
 rintro _ w4 ⟨rfl, hg⟩
 rw [HK.out]
 replace hB := hB.grown hg (by simp)
 replace hG := ja hG hg
 clear hg
 go_wp2_with fail
 refine (j2 a k _ has haa.out HK.out).mono ?_
 rintro _ w5 ⟨rfl, hg⟩
 replace hB := hB.grown hg (by simp)
 replace hG := ja hG hg
 clear hg
 have hP := Blk.new w5 87 #[.string a, .string (a.extract 0 (k + 1)), .string (a.extract (k + 1) a.size), .int .i64 0, .string ⟨#[]⟩]
 replace hG := jd hG (.cells #[.string a, .string (a.extract 0 (k + 1)), .string (a.extract (k + 1) a.size), .int .i64 0, .string ⟨#[]⟩] 87)
 have hne : ¬ w.heap.size = w5.heap.size := by have := hB.lt; omega
 have hww : w.heap.size ≤ w5.heap.size := by have := hB.lt; omega
 replace hB := hB.alloc (.cells #[.string a, .string (a.extract 0 (k + 1)), .string (a.extract (k + 1) a.size), .int .i64 0, .string ⟨#[]⟩] 87)
 go_wp2_with fail
 generalize w5.alloc (.cells #[.string a, .string (a.extract 0 (k + 1)), .string (a.extract (k + 1) a.size), .int .i64 0, .string ⟨#[]⟩] 87) = W5 at *
 clear hz
 refine (jw b _ hbs hba.out).mono ?_
 rintro _ w6 ⟨rfl, hg⟩
 rw [HGB.out]
 replace hP := hP.grown hg (by simp)
 replace hB := hB.grown hg (by simp)
 replace hG := ja hG hg
 clear hg
 have hf := hB.free
 have hlt := hB.lt
 have hpf := hP.free
 have hplt := hP.lt
 obtain ⟨c0, c1, c2, c3, c4⟩ := hB.cells5
 obtain ⟨p0, p1, p2, p3, p4⟩ := hP.cells5
 go_wp2_with fail
 refine bodyPost_ret (v := .tuple #[.agg #[.string a, .string (a.extract 0 (k + 1)), .string (a.extract (k + 1) a.size), .int .i64 1, .string b], .bool true]) (by simp [results, Tryz.results126, go_sem, c0, c1, c2, c3, c4]) rfl ?_
 exact ql HP.out (qj (jg (jg hG (.inr hww) _) (.inr hww) _) (Nat.le_refl _) _ _ _ _ _)
set_option maxRecDepth 100000 in
set_option maxHeartbeats 4000000 in
theorem jby (s a b : ByteArray) (i : Nat) (w : World) (hs : s.size ≤ 1000000000) (ha : Ascii s) (h : ¬ 14 < s.size) (hi : Lib.indexByte s.data.toList 47 = (i : Int)) (hea : s.extract 0 i = a) (heb : s.extract (i + 1) s.size = b) (kb : Nat) (hv : jp b.data.toList = (kb : Int)) (hga : jr a.data.toList = false) (k : Nat) (hk : jp a.data.toList = (k : Int)) (np : (b.toList == [112]) = false) (nm : (b.toList == [109]) = false) (nmm : (b.toList == [109, 109]) = false) (nam : (b.toList == [97, 109]) = false) (hz : ((b.size : Int) == 1) = false) (hgb : jr b.data.toList = false) (hT : qk b.data.toList = 0) :
 Calls Tryz.prog 126 #[.string s] w (ju s w) := by
 have h14 : ¬ (14 : Int) < (s.size : Int) := by omega
 have has : a.size ≤ 1000000000 := by rw [← hea]; simp; omega
 have hbs : b.size ≤ 1000000000 := by rw [← heb]; simp; omega
 have haa := Lib.hid (show Ascii a by rw [← hea]; exact ha.take _)
 have hba := Lib.hid (show Ascii b by rw [← heb]; exact ha.drop _)
 have hn : ¬ (0 ≤ jp b.data.toList ∧ jr a.data.toList = true) := fun hh => by rw [hga] at hh; simp at hh
 have HP := Lib.hid (zf h hi hea heb hn (fun hh => hh.2 hT))
 have HC : Hid (∀ W : World, Calls Tryz.prog 144 #[.string s, .string ⟨#[47]⟩] W fun e w' => e = .returned (.tuple #[.string a, .string b, .bool true]) ∧ W.grownBy w' none) := fun W => by
  have := qr s 47 i W (by omega) hi
  rw [hea, heb] at this
  exact this
 have HV := Lib.hid hv
 have HK := Lib.hid hk
 have HGA := Lib.hid hga
 have hkb : (0 : Int) ≤ (kb : Int) := by omega
 have hka : ¬ (k : Int) < 0 := by omega
 have HGB := Lib.hid hgb
 clear hi hea heb ha h hn hv hk hga hT hgb
 go_enter Tryz.func126, Tryz.ntmps126
 go_wp2_with fail
 refine (HC.out _).mono ?_
 rintro _ w1 ⟨rfl, hg⟩
 have hB := (Blk.new w 87 #[.string ⟨#[]⟩, .string ⟨#[]⟩, .string ⟨#[]⟩, .int .i64 0, .string ⟨#[]⟩]).grown hg (by simp)
 have hG := ja (World.grownBy_alloc w (.cells #[.string ⟨#[]⟩, .string ⟨#[]⟩, .string ⟨#[]⟩, .int .i64 0, .string ⟨#[]⟩] 87) none) hg
 clear hg
 go_wp2_with fail
 refine (jm b _ hbs hba.out).mono ?_
 rintro _ w2 ⟨rfl, hg⟩
 rw [HV.out]
 replace hB := hB.grown hg (by simp)
 replace hG := ja hG hg
 clear hg
 go_wp2_with fail
 refine (jw a _ has haa.out).mono ?_
 rintro _ w3 ⟨rfl, hg⟩
 rw [HGA.out]
 replace hB := hB.grown hg (by simp)
 replace hG := ja hG hg
 clear hg
 go_wp2_with fail
 refine (jm a _ has haa.out).mono ?_
 rintro _ w4 ⟨rfl, hg⟩
 rw [HK.out]
 replace hB := hB.grown hg (by simp)
 replace hG := ja hG hg
 clear hg
 go_wp2_with fail
 refine (j2 a k _ has haa.out HK.out).mono ?_
 rintro _ w5 ⟨rfl, hg⟩
 replace hB := hB.grown hg (by simp)
 replace hG := ja hG hg
 clear hg
 have hP := Blk.new w5 87 #[.string a, .string (a.extract 0 (k + 1)), .string (a.extract (k + 1) a.size), .int .i64 0, .string ⟨#[]⟩]
 replace hG := jd hG (.cells #[.string a, .string (a.extract 0 (k + 1)), .string (a.extract (k + 1) a.size), .int .i64 0, .string ⟨#[]⟩] 87)
 have hne : ¬ w.heap.size = w5.heap.size := by have := hB.lt; omega
 have hww : w.heap.size ≤ w5.heap.size := by have := hB.lt; omega
 replace hB := hB.alloc (.cells #[.string a, .string (a.extract 0 (k + 1)), .string (a.extract (k + 1) a.size), .int .i64 0, .string ⟨#[]⟩] 87)
 go_wp2_with fail
 generalize w5.alloc (.cells #[.string a, .string (a.extract 0 (k + 1)), .string (a.extract (k + 1) a.size), .int .i64 0, .string ⟨#[]⟩] 87) = W5 at *
 clear hz
 refine (jw b _ hbs hba.out).mono ?_
 rintro _ w6 ⟨rfl, hg⟩
 rw [HGB.out]
 replace hP := hP.grown hg (by simp)
 replace hB := hB.grown hg (by simp)
 replace hG := ja hG hg
 clear hg
 have hf := hB.free
 have hlt := hB.lt
 have hpf := hP.free
 have hplt := hP.lt
 obtain ⟨c0, c1, c2, c3, c4⟩ := hB.cells5
 obtain ⟨p0, p1, p2, p3, p4⟩ := hP.cells5
 go_wp2_with fail
 refine bodyPost_ret (v := .tuple #[.agg #[.string ⟨#[]⟩, .string ⟨#[]⟩, .string ⟨#[]⟩, .int .i64 0, .string ⟨#[]⟩], .bool false]) (by simp [results, Tryz.results126, go_sem, c0, c1, c2, c3, c4]) rfl ?_
 exact yg HP.out (qj hG (Nat.le_refl _) _ _ _ _ _)
end Go.Proofs.YtbamhgaghngjiaaGreatDoor

namespace Go.Proofs.YtbamhgaghngjiaaGreatDoor
open Go.RowKit
set_option linter.unusedVariables false
set_option linter.unusedSimpArgs false

theorem j4 {b : ByteArray} {l : List UInt8} (h : ¬ b.data.toList = l) : (b.toList == l) = false := by
 rw [Lib.toList_data]; simpa using h
theorem ja4 {b : ByteArray} {l : List UInt8} (h : b.data.toList = l) : (b.toList == l) = true := by
 rw [Lib.toList_data]; simpa using h
theorem jam {l : List UInt8} (h1 : ¬ l = [112]) (h2 : ¬ l = [109]) (h3 : ¬ l = [109, 109]) (h4 : ¬ l = [97, 109]) (h5 : ¬ (l.length = 1 ∧ l.all dgB = true)) : qk l = if jr l then 1 else 0 := by
 unfold qk
 rw [if_neg h1, if_neg h2, if_neg h3, if_neg h4, if_neg h5]
theorem jss {b : ByteArray} (h : b.data.toList.length = 1) : ∃ c, b = ⟨#[c]⟩ := by
 obtain ⟨⟨l⟩⟩ := b
 simp only at h
 match l, h with
 | [c], _ => exact ⟨c, rfl⟩
theorem jiq (s : ByteArray) (w : World) (hs : s.size ≤ 1000000000) (ha : Ascii s) :
 Calls Tryz.prog 126 #[.string s] w (ju s w) := by
 have hge := Lib.indexByte_ge s.data.toList 47
 by_cases hi : Lib.indexByte s.data.toList 47 < 0
 ·by_cases h : 14 < s.size
  ·exact jcy s s ⟨#[]⟩ false w h (fun W => jgs s 47 W (by omega) (by omega))
  exact jg8 s w hs ha h (by omega)
 obtain ⟨i, hi'⟩ := Int.eq_ofNat_of_zero_le (show 0 ≤ Lib.indexByte s.data.toList 47 by omega)
 by_cases h : 14 < s.size
 ·exact jcy s _ _ true w h (fun W => qr s 47 i W (by omega) hi')
 obtain ⟨a, hea⟩ : ∃ a, s.extract 0 i = a := ⟨_, rfl⟩
 obtain ⟨b, heb⟩ : ∃ b, s.extract (i + 1) s.size = b := ⟨_, rfl⟩
 have hbb : jp b.data.toList = -1 ∨ ∃ kb : Nat, jp b.data.toList = (kb : Int) := by
  rcases xk b.data.toList with h1 | ⟨_, _, _, h1, _⟩
  ·exact .inl h1
  exact .inr (Int.eq_ofNat_of_zero_le (by omega))
 have haa : jp a.data.toList = -1 ∨ ∃ k : Nat, jp a.data.toList = (k : Int) := by
  rcases xk a.data.toList with h1 | ⟨_, _, _, h1, _⟩
  ·exact .inl h1
  exact .inr (Int.eq_ofNat_of_zero_le (by omega))
 have hsz1 : b.data.toList.length = b.size := by simp
 have hz1 : b.data.toList.length = 1 → ((b.size : Int) == 1) = true := fun h => by rw [← hsz1, h]; rfl
 have hz0 : ¬ b.data.toList.length = 1 → ((b.size : Int) == 1) = false := fun h => by
  rw [← hsz1]
  have : ¬ (b.data.toList.length : Int) = 1 := by omega
  simpa using this
 rcases hbb with hv | ⟨kb, hv⟩
 ·rcases haa with hk | ⟨k, hk⟩
  ·exact jhb s a b i w hs ha h hi' hea heb hv hk
  by_cases e1 : b.data.toList = [112]
  ·exact jis s a b i w hs ha h hi' hea heb hv k hk (ja4 e1) (by rw [e1]; rfl)
  by_cases e2 : b.data.toList = [109]
  ·exact jir s a b i w hs ha h hi' hea heb hv k hk (j4 e1) (ja4 e2) (by rw [e2]; rfl)
  by_cases e3 : b.data.toList = [109, 109]
  ·exact jha s a b i w hs ha h hi' hea heb hv k hk (j4 e1) (j4 e2) (ja4 e3) (by rw [e3]; rfl)
  by_cases e4 : b.data.toList = [97, 109]
  ·exact jg9 s a b i w hs ha h hi' hea heb hv k hk (j4 e1) (j4 e2) (j4 e3) (ja4 e4) (by rw [e4]; rfl)
  by_cases e5 : b.data.toList.length = 1
  ·obtain ⟨c, hc⟩ := jss e5
   by_cases hd : dgB c = true
   ·exact jfk s a b i w hs ha h hi' hea heb hv k hk (j4 e1) (j4 e2) (j4 e3) (j4 e4) c hc (hz1 e5) hd (by unfold qk; rw [if_neg e1, if_neg e2, if_neg e3, if_neg e4, if_pos ⟨e5, by rw [hc]; simpa using hd⟩])
   have hd' : dgB c = false := by simpa using hd
   have hT := jam e1 e2 e3 e4 (fun hh => hd (by have := hh.2; rw [hc] at this; simpa using this))
   cases hgb : jr b.data.toList with
   | true => exact jbx s a b i w hs ha h hi' hea heb hv k hk (j4 e1) (j4 e2) (j4 e3) (j4 e4) c hc (hz1 e5) hd' hgb (by rw [hT, hgb]; rfl)
   | false => exact jcb s a b i w hs ha h hi' hea heb hv k hk (j4 e1) (j4 e2) (j4 e3) (j4 e4) c hc (hz1 e5) hd' hgb (by rw [hT, hgb]; rfl)
  have hT := jam e1 e2 e3 e4 (fun hh => e5 hh.1)
  cases hgb : jr b.data.toList with
  | true => exact jbf s a b i w hs ha h hi' hea heb hv k hk (j4 e1) (j4 e2) (j4 e3) (j4 e4) (hz0 e5) hgb (by rw [hT, hgb]; rfl)
  | false => exact jbw s a b i w hs ha h hi' hea heb hv k hk (j4 e1) (j4 e2) (j4 e3) (j4 e4) (hz0 e5) hgb (by rw [hT, hgb]; rfl)
 cases hga : jr a.data.toList with
 | true => exact jfj s a b i w hs ha h hi' hea heb (by omega) hga
 | false =>
   rcases haa with hk | ⟨k, hk⟩
   ·exact jhe s a b i w hs ha h hi' hea heb kb hv hga hk
   by_cases e1 : b.data.toList = [112]
   ·exact jiu s a b i w hs ha h hi' hea heb kb hv hga k hk (ja4 e1) (by rw [e1]; rfl)
   by_cases e2 : b.data.toList = [109]
   ·exact jit s a b i w hs ha h hi' hea heb kb hv hga k hk (j4 e1) (ja4 e2) (by rw [e2]; rfl)
   by_cases e3 : b.data.toList = [109, 109]
   ·exact jhd s a b i w hs ha h hi' hea heb kb hv hga k hk (j4 e1) (j4 e2) (ja4 e3) (by rw [e3]; rfl)
   by_cases e4 : b.data.toList = [97, 109]
   ·exact jhc s a b i w hs ha h hi' hea heb kb hv hga k hk (j4 e1) (j4 e2) (j4 e3) (ja4 e4) (by rw [e4]; rfl)
   by_cases e5 : b.data.toList.length = 1
   ·obtain ⟨c, hc⟩ := jss e5
    by_cases hd : dgB c = true
    ·exact jfl s a b i w hs ha h hi' hea heb kb hv hga k hk (j4 e1) (j4 e2) (j4 e3) (j4 e4) c hc (hz1 e5) hd (by unfold qk; rw [if_neg e1, if_neg e2, if_neg e3, if_neg e4, if_pos ⟨e5, by rw [hc]; simpa using hd⟩])
    have hd' : dgB c = false := by simpa using hd
    have hT := jam e1 e2 e3 e4 (fun hh => hd (by have := hh.2; rw [hc] at this; simpa using this))
    cases hgb : jr b.data.toList with
    | true => exact jbz s a b i w hs ha h hi' hea heb kb hv hga k hk (j4 e1) (j4 e2) (j4 e3) (j4 e4) c hc (hz1 e5) hd' hgb (by rw [hT, hgb]; rfl)
    | false => exact jcc s a b i w hs ha h hi' hea heb kb hv hga k hk (j4 e1) (j4 e2) (j4 e3) (j4 e4) c hc (hz1 e5) hd' hgb (by rw [hT, hgb]; rfl)
   have hT := jam e1 e2 e3 e4 (fun hh => e5 hh.1)
   cases hgb : jr b.data.toList with
   | true => exact jbg s a b i w hs ha h hi' hea heb kb hv hga k hk (j4 e1) (j4 e2) (j4 e3) (j4 e4) (hz0 e5) hgb (by rw [hT, hgb]; rfl)
   | false => exact jby s a b i w hs ha h hi' hea heb kb hv hga k hk (j4 e1) (j4 e2) (j4 e3) (j4 e4) (hz0 e5) hgb (by rw [hT, hgb]; rfl)
set_option maxHeartbeats 2000000 in
theorem yh (s : ByteArray) (w : World) (hs : s.size ≤ 1000000000) (ha : Ascii s) :
 Calls Tryz.prog 71 #[.string s] w fun e w' => e = .returned (.bool (jo s).isSome) ∧ w.grownBy w' none := by
 go_enter Tryz.func71, Tryz.ntmps71
 go_wp2_with fail
 refine (jiq s _ hs ha).mono ?_
 rintro _ w1 ⟨hg, ⟨hn, rfl⟩ | ⟨t, k, kd, ad, hn, rfl⟩⟩
 ·have HN := Lib.hid hn
  clear hn
  go_wp2_with fail
  go_ret
  exact ⟨by rw [HN.out]; rfl, jd hg _⟩
 have HN := Lib.hid hn
 clear hn
 go_wp2_with fail
 go_ret
 exact ⟨by rw [HN.out]; rfl, jd hg _⟩
end Go.Proofs.YtbamhgaghngjiaaGreatDoor
