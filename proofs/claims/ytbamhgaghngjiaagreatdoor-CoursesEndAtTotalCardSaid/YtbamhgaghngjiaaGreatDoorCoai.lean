/- Parts of a proof: Changed, RtFacts, CallOf, ChangedX, CallX, HeldLate. Conditions: as each statement says. -/
import Derived.Test.YtbamhgaghngjiaaGreatDoorCoah
import Derived.StillTail
namespace Go.Proofs.YtbamhgaghngjiaaGreatDoor
open Go.RowKit
set_option linter.unusedVariables false
set_option linter.unusedSimpArgs false

theorem jh5 (c : UInt8) (h : c.toNat < 128) : Utf8.encode ((c.toNat : Nat) : Int) = ⟨#[c]⟩ := by
 have h' : ∀ n : Fin 128, Utf8.encode ((n.val : Nat) : Int) = ⟨#[UInt8.ofNat n.val]⟩ := by decide +kernel
 have := h' ⟨c.toNat, h⟩
 simpa using this
theorem Ascii.mem_ {s : ByteArray} (h : Ascii s) : ∀ c ∈ s.data.toList, c.toNat < 128 := fun c hc => by
 obtain ⟨j, hj, e⟩ := List.getElem_of_mem hc
 exact h j c (by rw [List.getElem?_eq_getElem hj, e])
theorem Ascii.of_mem {s : ByteArray} (h : ∀ c ∈ s.data.toList, c.toNat < 128) : Ascii s := fun j c hc => h c (List.mem_of_getElem? hc)
theorem Ascii.app {s t : ByteArray} (h1 : Ascii s) (h2 : Ascii t) : Ascii (s ++ t) := Ascii.of_mem fun c hc => by
 rw [ByteArray.data_append, Array.toList_append] at hc
 rcases List.mem_append.1 hc with h | h
 ·exact h1.mem_ c h
 exact h2.mem_ c h
theorem Ascii.one {c : UInt8} (h : c.toNat < 128) : Ascii ⟨#[c]⟩ := Ascii.of_mem fun x hx => by
 simp only [List.mem_singleton] at hx
 rw [hx]; exact h
theorem jbl {t : ByteArray} (h : t.toList.isEmpty = false) : 0 < t.size := by
 rw [Lib.toList_data] at h
 have hl : t.data.toList.length = t.size := by simp
 rcases Nat.eq_zero_or_pos t.size with h0 | h0
 ·rw [h0] at hl
  rw [List.eq_nil_of_length_eq_zero hl] at h
  simp at h
 exact h0
def jd8 (b k : Nat) (t x : ByteArray) (w : World) (e : Ending) (w' : World) : Prop :=
 ∃ u : ByteArray, e = .returned (.string u) ∧ u.size ≤ t.size + x.size ∧ Ascii u ∧ Str w' b (k + 3) ∧ w.grownBy w' (some b)
set_option maxRecDepth 100000 in
set_option maxHeartbeats 4000000 in
theorem jbk (b k : Nat) (t x : ByteArray) (w : World) (hs : Str w b k) (hk : k ≤ 100000000000) (ht : t.size ≤ 1000000) (hx : x.size ≤ 1000) (ha : Ascii t) (hb : Ascii x) :
 Calls Tryz.prog 125 #[.pointer (some ⟨b, 0, none⟩), .string t, .string x] w (jd8 b k t x w) := by
 have HA := Lib.hid ha
 have HB := Lib.hid hb
 clear ha hb
 rcases he : t.toList.isEmpty
 case true =>
  have hn : t.toList = [] := by simpa using he
  clear he
  go_enter Tryz.func125, Tryz.ntmps125
  go_wp2_with fail
  go_ret
  exact ⟨x, rfl, by omega, HB.out, hs.mono (by omega), jf _ _⟩
 rcases hf : x.toList.isEmpty
 case true =>
  have hn : x.toList = [] := by simpa using hf
  clear hf
  go_enter Tryz.func125, Tryz.ntmps125
  go_wp2_with fail
  go_ret
  exact ⟨x, rfl, by omega, HB.out, hs.mono (by omega), jf _ _⟩
 have ht0 := jbl he
 have hx0 := jbl hf
 go_enter Tryz.func125, Tryz.ntmps125
 go_wp2_with fail
 refine (y8 b k _ _ hs (by omega) (by omega) (by omega)).mono ?_
 rintro _ w1 ⟨i', hi0, hi1, rfl, hs1, hg1⟩
 obtain ⟨i, rfl⟩ := Int.eq_ofNat_of_zero_le hi0
 go_wp2_with fail
 refine (y8 b _ _ _ hs1 (by omega) (by omega) (by omega)).mono ?_
 rintro _ w2 ⟨j', hj0, hj1, rfl, hs2, hg2⟩
 obtain ⟨j, rfl⟩ := Int.eq_ofNat_of_zero_le hj0
 have hG2 := ja hg1 hg2
 have hjx : j < x.size := by omega
 have hcA := HB.out.at_ j hjx
 go_wp2_with fail
 generalize x[j] = c at *
 refine (y8 b _ _ _ hs2 (by omega) (by omega) (by omega)).mono ?_
 rintro _ w3 ⟨q, hq0, hq1, rfl, hs3, hg3⟩
 have hG3 := ja hG2 hg3
 have e1 : IntKind.i64.wrap ((i : Int) + 1) = (i : Int) + 1 := IntWalk.i64_in _ ⟨by omega, by omega⟩
 have e2 : ((i : Int) + 1).toNat = i + 1 := by omega
 have e3 : (0 : Int) ≤ (i : Int) + 1 := by omega
 have e4 : (i : Int) + 1 ≤ (t.size : Int) := by omega
 have e5 : (i : Int) ≤ (t.size : Int) := by omega
 have hsA : (t.extract 0 i).size = i := by simp; omega
 have hsB : (t.extract (i + 1) t.size).size = t.size - (i + 1) := by simp
 have hsC : (t.extract i t.size).size = t.size - i := by simp
 have hc1 : (⟨#[c]⟩ : ByteArray).size = 1 := rfl
 have HC := Lib.hid (Ascii.one (c := c) (by omega))
 have HE := Lib.hid (jh5 c (by omega))
 have hfin : ∀ u W', u.size ≤ t.size + x.size → Ascii u → w3.grownBy W' none → jd8 b k t x w (.returned (.string u)) W' := fun u W' h1 h2 h3 =>
  ⟨u, rfl, h1, h2, hs3.grown h3 (by simp), ja hG3 (jb8 h3 _)⟩
 have hz : (Utf8.encode (c.toNat : Int)).size = 1 := by rw [HE.out]; exact hc1
 have HA1 := Lib.hid (HA.out.take i)
 have HA2 := Lib.hid (HA.out.drop (i + 1))
 have HA3 := Lib.hid (HA.out.drop i)
 have hq : q = 0 ∨ q = 1 ∨ q = 2 := by omega
 rcases hq with rfl | rfl | rfl
 ·go_wp2_with fail
  go_quiet (fail)
  go_wp2_with fail
  go_ret
  refine hfin _ _ ?_ ?_ (q9 (jf _ _) _)
  ·rw [HE.out]; simp; omega
  rw [HE.out]; exact (HA1.out.app HC.out).app HA2.out
 ·go_wp2_with fail
  go_quiet (fail)
  go_wp2_with fail
  go_ret
  refine hfin _ _ ?_ ?_ (q9 (jf _ _) _)
  ·rw [HE.out]; simp; omega
  rw [HE.out]; exact (HA1.out.app HC.out).app HA3.out
 go_wp2_with fail
 go_quiet (fail)
 go_wp2_with fail
 go_ret
 refine hfin _ _ ?_ ?_ (q9 (jf _ _) _)
 ·simp; omega
 exact HA1.out.app HA2.out
theorem jjg (j : Nat) : Ascii (jcj j) := by
 by_cases hj : j < 12
 ·rcases (show j = 0 ∨ j = 1 ∨ j = 2 ∨ j = 3 ∨ j = 4 ∨ j = 5 ∨ j = 6 ∨ j = 7 ∨ j = 8 ∨ j = 9 ∨ j = 10 ∨ j = 11 by omega) with rfl | rfl | rfl | rfl | rfl | rfl | rfl | rfl | rfl | rfl | rfl | rfl <;> exact Ascii.of_mem (by decide +kernel)
 have : jcj j = ⟨#[]⟩ := by unfold jcj; rw [List.getD_eq_getElem?_getD, List.getElem?_eq_none (by simp; omega)]; rfl
 rw [this]
 exact Ascii.of_mem (by simp)
theorem jpb (L : List Int) (l : List Ent) (k : Nat) : ∀ j, ∀ x ∈ (rtP L l k j).1, ∃ i, x.beg = jcj i
 | 0, x, h => by simp [rtP] at h
 | j + 1, x, h => by
   unfold rtP at h
   rcases List.mem_append.1 h with h | h
   ·exact jpb L l k j x h
   unfold rtR at h
   split at h
   ·simp at h
   split at h
   ·simp at h
    rcases h with rfl | rfl <;> exact ⟨j, rfl⟩
   simp at h
   subst h
   exact ⟨j, rfl⟩
theorem jli (p : List Pfx) (P : ByteArray → Prop) (h : ∀ x ∈ p, P x.beg) : ∀ i, ∀ x ∈ rtW p i, P x.beg
 | 0, x, hx => h x hx
 | i + 1, x, hx => by
   have ih := jli p P h i
   unfold rtW at hx
   split at hx
   ·exact ih x hx
   rename_i y hy
   split at hx
   ·rcases List.mem_or_eq_of_mem_set hx with h1 | h1
    ·exact ih x h1
    subst h1
    exact h y (List.mem_of_getElem? hy)
   exact ih x hx
theorem jki {L : List Int} {k k' : Nat} {l : List Ent} {p : List Pfx} (h : jfn L k = (l, p, k')) : ∀ x ∈ p, Ascii x.beg := by
 have hb : ∀ (l2 : List Ent) (P : Nat), ∀ x ∈ (rtP L l2 P 12).1, Ascii x.beg := fun l2 P x hx => by
  obtain ⟨i, hi⟩ := jpb L l2 P 12 x hx
  rw [hi]
  exact jjg i
 unfold jfn at h
 simp only at h
 generalize (if (rtE L k 5).1.length = 0 then (rtE L k 5).1 ++ [jwe] else (rtE L k 5).1) = l2 at h
 split at h
 ·simp only [Prod.mk.injEq] at h
  obtain ⟨_, rfl, _⟩ := h
  exact jli _ Ascii (hb _ _) _
 simp only [Prod.mk.injEq] at h
 obtain ⟨_, rfl, _⟩ := h
 exact hb _ _
theorem jtq {l : List Ent} (h : ju9 l) : ∀ e ∈ l, jjc e := fun e he => by
 obtain ⟨h1, h2, h3, h4, h5⟩ := h e he
 exact ⟨by omega, by omega, by omega⟩
theorem jt9 {p : List Pfx} (h : ju2 p) (ha : ∀ x ∈ p, Ascii x.beg) : ∀ x ∈ p, jlq x := fun x hx => by
 obtain ⟨h1, h2, h3, h4, h5, h6⟩ := h x hx
 exact ⟨by omega, ha x hx, by omega, by omega, by omega, by omega, by omega⟩
def jwl (n : Nat) (v : ByteArray) : Bool := decide (v.size ≤ n) && v.data.toList.all fun c => decide (c.toNat < 128)
theorem yd {n : Nat} {v : ByteArray} (h : jwl n v = true) : v.size ≤ n ∧ Ascii v := by
 simp only [jwl, Bool.and_eq_true, decide_eq_true_eq, List.all_eq_true] at h
 exact ⟨h.1, Ascii.of_mem h.2⟩
theorem ja8 {n : Nat} {l : List ByteArray} (h : l.all (jwl n) = true) {v : ByteArray} (hv : v ∈ l) : v.size ≤ n ∧ Ascii v := yd (List.all_eq_true.1 h v hv)
def jaa : List ByteArray := [⟨#[107, 49, 97, 98]⟩, ⟨#[107, 52, 97, 98]⟩, ⟨#[111, 104, 50, 97, 98, 99]⟩, ⟨#[111, 104, 48, 120]⟩, ⟨#[51, 100, 97, 48, 120, 121]⟩, ⟨#[103, 51, 97]⟩, ⟨#[100, 108, 49, 122, 122]⟩, ⟨#[119, 49, 97, 119]⟩, ⟨#[107, 49, 98, 97]⟩]
def jeg : List ByteArray := [⟨#[47, 112]⟩, ⟨#[47, 109]⟩, ⟨#[47, 109, 109]⟩, ⟨#[47, 97, 109]⟩, ⟨#[47, 52]⟩, ⟨#[47, 48]⟩]
def jef : List ByteArray := [⟨#[111, 104, 48]⟩, ⟨#[103]⟩, ⟨#[51, 97]⟩, ⟨#[100, 108]⟩]
def jgk : List ByteArray := [⟨#[111, 104, 48]⟩, ⟨#[103]⟩, ⟨#[119, 50, 98]⟩, ⟨#[107]⟩]
def jlp (b k : Nat) (w : World) (e : Ending) (w' : World) : Prop :=
 ∃ u : ByteArray, e = .returned (.string u) ∧ u.size ≤ 30 ∧ Ascii u ∧ Str w' b (k + 8) ∧ w.grownBy w' (some b)
theorem jau : Ascii ⟨#[47]⟩ := (yd (n := 1) (by decide)).2
set_option maxRecDepth 100000 in
set_option maxHeartbeats 4000000 in
theorem jh1 (b k : Nat) (w : World) (hs : Str w b k) (hk : k ≤ 10000000000) :
 Calls Tryz.prog 70 #[.pointer (some ⟨b, 0, none⟩)] w (jlp b k w) := by
 go_enter Tryz.func70, Tryz.ntmps70
 go_wp2_with fail
 refine (jav b k _ 9 9 jaa _ hs (by first | rfl | simp) (by omega) rfl (by decide) (by decide)).mono ?_
 rintro _ w1 ⟨v, hv, rfl, hs1, hg1⟩
 obtain ⟨hvs, hva⟩ := ja8 (n := 6) (by decide) hv
 have HVA := Lib.hid hva
 clear hv hva
 go_wp2_with fail
 refine (y8 b _ _ _ hs1 (by omega) (by omega) (by omega)).mono ?_
 rintro _ w2 ⟨q, hq0, hq1, rfl, hs2, hg2⟩
 have hG2 := ja hg1 hg2
 clear hg1 hg2 hs1
 by_cases q0 : q = 0
 ·subst q0
  go_wp2_with fail
  refine (jav b _ _ 6 6 jeg _ hs2 (by first | rfl | simp) (by omega) rfl (by decide) (by decide)).mono ?_
  rintro _ w3 ⟨u, hu, rfl, hs3, hg3⟩
  obtain ⟨hus, hua⟩ := ja8 (n := 3) (by decide) hu
  have HUA := Lib.hid (HVA.out.app hua)
  have hG3 := ja hG2 hg3
  have hsz : (v ++ u).size ≤ 9 := by simp; omega
  clear hu hua hg3 hs2
  go_wp2_with fail
  generalize v ++ u = t at *
  refine (jda b _ _ _ hs3 (by omega) (by omega) (by omega)).mono ?_
  rintro _ w4 ⟨fl, rfl, hs4, hg4⟩
  have hG4 := ja hG3 hg4
  cases fl
  ·go_wp2_with fail
   go_ret
   exact ⟨t, rfl, by omega, HUA.out, hs4.mono (by omega), hG4⟩
  go_wp2_with fail
  refine (jbk b _ t ⟨#[97, 48, 47, 107, 49, 45]⟩ _ hs4 (by omega) (by omega) (by decide) HUA.out (yd (n := 6) (by decide)).2).mono ?_
  rintro _ w5 ⟨z, rfl, hz, hza, hs5, hg5⟩
  have hz2 : z.size ≤ 30 := by
   have : (⟨#[97, 48, 47, 107, 49, 45]⟩ : ByteArray).size = 6 := rfl
   omega
  have HZ := Lib.hid hza
  clear hza hz
  go_wp2_with fail
  go_ret
  exact ⟨z, rfl, hz2, HZ.out, hs5.mono (by omega), ja hG4 hg5⟩
 by_cases q1 : q = 1
 ·subst q1
  go_wp2_with fail
  refine (jav b _ _ 4 4 jef _ hs2 (by first | rfl | simp) (by omega) rfl (by decide) (by decide)).mono ?_
  rintro _ w3 ⟨u, hu, rfl, hs3, hg3⟩
  obtain ⟨hus, hua⟩ := ja8 (n := 3) (by decide) hu
  have HUA := Lib.hid ((hua.app jau).app HVA.out)
  have hG3 := ja hG2 hg3
  have hsz : (u ++ ⟨#[47]⟩ ++ v).size ≤ 10 := by
   have h47 : (⟨#[47]⟩ : ByteArray).size = 1 := rfl
   simp; omega
  clear hu hua hg3 hs2
  go_wp2_with fail
  generalize u ++ ⟨#[47]⟩ ++ v = t at *
  refine (jda b _ _ _ hs3 (by omega) (by omega) (by omega)).mono ?_
  rintro _ w4 ⟨fl, rfl, hs4, hg4⟩
  have hG4 := ja hG3 hg4
  cases fl
  ·go_wp2_with fail
   go_ret
   exact ⟨t, rfl, by omega, HUA.out, hs4.mono (by omega), hG4⟩
  go_wp2_with fail
  refine (jbk b _ t ⟨#[97, 48, 47, 107, 49, 45]⟩ _ hs4 (by omega) (by omega) (by decide) HUA.out (yd (n := 6) (by decide)).2).mono ?_
  rintro _ w5 ⟨z, rfl, hz, hza, hs5, hg5⟩
  have hz2 : z.size ≤ 30 := by
   have : (⟨#[97, 48, 47, 107, 49, 45]⟩ : ByteArray).size = 6 := rfl
   omega
  have HZ := Lib.hid hza
  clear hza hz
  go_wp2_with fail
  go_ret
  exact ⟨z, rfl, hz2, HZ.out, hs5.mono (by omega), ja hG4 hg5⟩
 by_cases q2 : q = 2
 ·subst q2
  go_wp2_with fail
  refine (jav b _ _ 4 4 jgk _ hs2 (by first | rfl | simp) (by omega) rfl (by decide) (by decide)).mono ?_
  rintro _ w3 ⟨u, hu, rfl, hs3, hg3⟩
  obtain ⟨hus, hua⟩ := ja8 (n := 3) (by decide) hu
  have HUA := Lib.hid ((HVA.out.app jau).app hua)
  have hG3 := ja hG2 hg3
  have hsz : (v ++ ⟨#[47]⟩ ++ u).size ≤ 10 := by
   have h47 : (⟨#[47]⟩ : ByteArray).size = 1 := rfl
   simp; omega
  clear hu hua hg3 hs2
  go_wp2_with fail
  generalize v ++ ⟨#[47]⟩ ++ u = t at *
  refine (jda b _ _ _ hs3 (by omega) (by omega) (by omega)).mono ?_
  rintro _ w4 ⟨fl, rfl, hs4, hg4⟩
  have hG4 := ja hG3 hg4
  cases fl
  ·go_wp2_with fail
   go_ret
   exact ⟨t, rfl, by omega, HUA.out, hs4.mono (by omega), hG4⟩
  go_wp2_with fail
  refine (jbk b _ t ⟨#[97, 48, 47, 107, 49, 45]⟩ _ hs4 (by omega) (by omega) (by decide) HUA.out (yd (n := 6) (by decide)).2).mono ?_
  rintro _ w5 ⟨z, rfl, hz, hza, hs5, hg5⟩
  have hz2 : z.size ≤ 30 := by
   have : (⟨#[97, 48, 47, 107, 49, 45]⟩ : ByteArray).size = 6 := rfl
   omega
  have HZ := Lib.hid hza
  clear hza hz
  go_wp2_with fail
  go_ret
  exact ⟨z, rfl, hz2, HZ.out, hs5.mono (by omega), ja hG4 hg5⟩
 have hs3 := hs2
 have hG3 := hG2
 have HUA := HVA
 have hsz : v.size ≤ 10 := by omega
 clear hs2 hG2
 go_wp2_with fail
 generalize v = t at *
 refine (jda b _ _ _ hs3 (by omega) (by omega) (by omega)).mono ?_
 rintro _ w4 ⟨fl, rfl, hs4, hg4⟩
 have hG4 := ja hG3 hg4
 cases fl
 ·go_wp2_with fail
  go_ret
  exact ⟨t, rfl, by omega, HUA.out, hs4.mono (by omega), hG4⟩
 go_wp2_with fail
 refine (jbk b _ t ⟨#[97, 48, 47, 107, 49, 45]⟩ _ hs4 (by omega) (by omega) (by decide) HUA.out (yd (n := 6) (by decide)).2).mono ?_
 rintro _ w5 ⟨z, rfl, hz, hza, hs5, hg5⟩
 have hz2 : z.size ≤ 30 := by
  have : (⟨#[97, 48, 47, 107, 49, 45]⟩ : ByteArray).size = 6 := rfl
  omega
 have HZ := Lib.hid hza
 clear hza hz
 go_wp2_with fail
 go_ret
 exact ⟨z, rfl, hz2, HZ.out, hs5.mono (by omega), ja hG4 hg5⟩
def jgd (b k : Nat) (w : World) (e : Ending) (w' : World) : Prop :=
 ∃ u : ByteArray, e = .returned (.string u) ∧ u.size ≤ 30 ∧ Ascii u ∧ (jo u).isSome = true ∧ Str w' b (k + 48) ∧ w.grownBy w' (some b)
theorem jdr : (jo ⟨#[107, 49, 97, 98]⟩).isSome = true := by decide +kernel
set_option maxRecDepth 100000 in
set_option maxHeartbeats 4000000 in
theorem jiw (b k : Nat) (w : World) (hs : Str w b k) (hk : k ≤ 1000000000) :
 Calls Tryz.prog 26 #[.pointer (some ⟨b, 0, none⟩)] w (jgd b k w) := by
 go_enter Tryz.func26, Tryz.ntmps26
 go_wp2_with fail
 go_loopw [4] (fun i wr => ∃ j : Nat, j ≤ 6 ∧ i = .int .i64 j ∧ Str wr b (k + 8 * j) ∧ w.grownBy wr (some b)) (fun i _ => 6 - (intOf i).toNat)
 case atStart => exact ⟨0, by omega, rfl, hs, jf _ _⟩
 case round =>
  obtain ⟨j, hj, rfl, hsr, hgr⟩ := hrel
  by_cases hlt : j < 6
  ·have hjl : (j : Int) < 6 := by omega
   go_wp2_with fail
   refine (jh1 b _ _ hsr (by omega)).mono ?_
   rintro _ w1 ⟨u, rfl, hu, hua, hs1, hg1⟩
   have HUA := Lib.hid hua
   have hG1 := ja hgr hg1
   clear hua hg1 hsr
   go_wp2_with fail
   refine (yh u _ (by omega) HUA.out).mono ?_
   rintro _ w2 ⟨rfl, hg2⟩
   have hs2 := hs1.grown hg2 (by simp)
   have hG2 := ja hG1 (jb8 hg2 (some b))
   cases hP : (jo u).isSome with
   | true =>
     have HP := Lib.hid hP
     clear hP
     go_wp2_with fail
     go_ret
     exact ⟨u, rfl, hu, HUA.out, HP.out, hs2.mono (by omega), hG2⟩
   | false =>
     clear hP
     go_wp2_with fail
     go_roundw
     case rel => exact ⟨j + 1, by omega, by go_num, hs2.mono (by omega), hG2⟩
     case measure => simp [intOf]; omega
  have hjl : ¬ (j : Int) < 6 := by omega
  go_wp2_with fail
  go_ret
  exact ⟨_, rfl, by decide, (yd (n := 4) (by decide)).2, jdr, hsr.mono (by omega), hgr⟩
def ju4 (t : ByteArray) (i : Nat) (c : UInt8) (q : Int) : ByteArray :=
 if q = 0 then t.extract 0 i ++ Utf8.encode ((c.toNat : Nat) : Int) ++ t.extract (i + 1) t.size
 else if q = 1 then t.extract 0 i ++ Utf8.encode ((c.toNat : Nat) : Int) ++ t.extract i t.size
 else t.extract 0 i ++ t.extract (i + 1) t.size
def za (L : List Int) (k : Nat) (t x : ByteArray) : ByteArray × Nat :=
 if t.size = 0 ∨ x.size = 0 then (x, k)
 else (ju4 t (qx L k (t.size : Int)).toNat (x.data.toList.getD (qx L (k + 1) (x.size : Int)).toNat 0) (qx L (k + 1 + 1) 3), k + 1 + 1 + 1)
def jdj (base b : Nat) (L : List Int) (k : Nat) (t x : ByteArray) (w : World) (e : Ending) (w' : World) : Prop :=
 ∃ (u : ByteArray) (k' : Nat), Hid (za L k t x = (u, k')) ∧ e = .returned (.string u) ∧ u.size ≤ t.size + x.size ∧ Ascii u ∧ k ≤ k' ∧ k' ≤ k + 3 ∧ SX base w' b L k' ∧ w.grownBy w' (some b)
set_option maxRecDepth 100000 in
set_option maxHeartbeats 4000000 in
theorem jcl (base b : Nat) (L : List Int) (k : Nat) (t x : ByteArray) (w : World) (hs : SX base w b L k) (hk : k ≤ 100000000000) (ht : t.size ≤ 1000000) (hx : x.size ≤ 1000) (ha : Ascii t) (hb : Ascii x) :
 Calls Tryz.prog 125 #[.pointer (some ⟨b, 0, none⟩), .string t, .string x] w (jdj base b L k t x w) := by
 have hbase := hs.base
 have HA := Lib.hid ha
 have HB := Lib.hid hb
 clear ha hb
 rcases he : t.toList.isEmpty
 case true =>
  have hn : t.toList = [] := by simpa using he
  have HCF : Hid (za L k t x = (x, k)) := by show _ = _; unfold za; rw [if_pos (.inl (by rw [Lib.toList_data] at hn; simpa using congrArg List.length hn))]
  clear he
  go_enter Tryz.func125, Tryz.ntmps125
  go_wp2_with fail
  go_ret
  exact ⟨x, k, HCF, rfl, by omega, HB.out, by omega, by omega, hs, jf _ _⟩
 rcases hf : x.toList.isEmpty
 case true =>
  have hn : x.toList = [] := by simpa using hf
  have HCF : Hid (za L k t x = (x, k)) := by show _ = _; unfold za; rw [if_pos (.inr (by rw [Lib.toList_data] at hn; simpa using congrArg List.length hn))]
  clear hf
  go_enter Tryz.func125, Tryz.ntmps125
  go_wp2_with fail
  go_ret
  exact ⟨x, k, HCF, rfl, by omega, HB.out, by omega, by omega, hs, jf _ _⟩
 have ht0 := jbl he
 have hx0 := jbl hf
 go_enter Tryz.func125, Tryz.ntmps125
 go_wp2_with fail
 refine (jf7 base b L k _ _ hs (by omega) (by omega) (by omega)).mono ?_
 rintro _ w1 ⟨i', hi0, hi1, HI, rfl, hs1, hg1⟩
 obtain ⟨i, rfl⟩ := Int.eq_ofNat_of_zero_le hi0
 go_wp2_with fail
 refine (jf7 base b L _ _ _ hs1 (by omega) (by omega) (by omega)).mono ?_
 rintro _ w2 ⟨j', hj0, hj1, HJ, rfl, hs2, hg2⟩
 obtain ⟨j, rfl⟩ := Int.eq_ofNat_of_zero_le hj0
 have hG2 := ja hg1 hg2
 have hjx : j < x.size := by omega
 have hcA := HB.out.at_ j hjx
 have HCC : Hid (∀ q : Int, qx L (k + 1 + 1) 3 = q → za L k t x = (ju4 t i x[j] q, k + 1 + 1 + 1)) := fun q hq => by
  unfold za
  rw [if_neg (by omega), HI.out, HJ.out, hq]
  simp only [Int.toNat_natCast]
  rw [show x.data.toList.getD j 0 = x[j] by rw [List.getD_eq_getElem?_getD, List.getElem?_eq_getElem (by simpa using hjx)]; rfl]
 go_wp2_with fail
 generalize x[j] = c at *
 refine (jf7 base b L _ _ _ hs2 (by omega) (by omega) (by omega)).mono ?_
 rintro _ w3 ⟨q, hq0, hq1, HQ, rfl, hs3, hg3⟩
 have HCF := Lib.hid (HCC.out q HQ.out)
 have hG3 := ja hG2 hg3
 have e1 : IntKind.i64.wrap ((i : Int) + 1) = (i : Int) + 1 := IntWalk.i64_in _ ⟨by omega, by omega⟩
 have e2 : ((i : Int) + 1).toNat = i + 1 := by omega
 have e3 : (0 : Int) ≤ (i : Int) + 1 := by omega
 have e4 : (i : Int) + 1 ≤ (t.size : Int) := by omega
 have e5 : (i : Int) ≤ (t.size : Int) := by omega
 have hsA : (t.extract 0 i).size = i := by simp; omega
 have hsB : (t.extract (i + 1) t.size).size = t.size - (i + 1) := by simp
 have hsC : (t.extract i t.size).size = t.size - i := by simp
 have hc1 : (⟨#[c]⟩ : ByteArray).size = 1 := rfl
 have HC := Lib.hid (Ascii.one (c := c) (by omega))
 have HE := Lib.hid (jh5 c (by omega))
 have hfin : ∀ u W', ju4 t i c q = u → u.size ≤ t.size + x.size → Ascii u → w3.grownBy W' none → jdj base b L k t x w (.returned (.string u)) W' := fun u W' h0 h1 h2 h3 =>
  ⟨u, _, by show _ = _; rw [HCF.out, h0], rfl, h1, h2, by omega, by omega, hs3.grown h3 (by simp), ja hG3 (jb8 h3 _)⟩
 have hz : (Utf8.encode (c.toNat : Int)).size = 1 := by rw [HE.out]; exact hc1
 have HA1 := Lib.hid (HA.out.take i)
 have HA2 := Lib.hid (HA.out.drop (i + 1))
 have HA3 := Lib.hid (HA.out.drop i)
 have hq : q = 0 ∨ q = 1 ∨ q = 2 := by omega
 rcases hq with rfl | rfl | rfl
 ·go_wp2_with fail
  go_quiet (fail)
  go_wp2_with fail
  go_ret
  refine hfin _ _ ?_ ?_ ?_ (q9 (jf _ _) _)
  ·first | rfl | (unfold ju4; simp)
  ·rw [HE.out]; simp; omega
  rw [HE.out]; exact (HA1.out.app HC.out).app HA2.out
 ·go_wp2_with fail
  go_quiet (fail)
  go_wp2_with fail
  go_ret
  refine hfin _ _ ?_ ?_ ?_ (q9 (jf _ _) _)
  ·first | rfl | (unfold ju4; simp)
  ·rw [HE.out]; simp; omega
  rw [HE.out]; exact (HA1.out.app HC.out).app HA3.out
 go_wp2_with fail
 go_quiet (fail)
 go_wp2_with fail
 go_ret
 refine hfin _ _ ?_ ?_ ?_ (q9 (jf _ _) _)
 ·first | rfl | (unfold ju4; simp)
 ·simp; omega
 exact HA1.out.app HA2.out
def cofX : ByteArray := ⟨#[97, 48, 47, 107, 49, 45]⟩
def jjo (L : List Int) (k : Nat) : ByteArray × Nat :=
 if qx L (k + 1) 9 = 0 then (jcg L k jaa ++ jcg L (k + 1 + 1) jeg, k + 1 + 1 + 1)
 else if qx L (k + 1) 9 = 1 then (jcg L (k + 1 + 1) jef ++ ⟨#[47]⟩ ++ jcg L k jaa, k + 1 + 1 + 1)
 else if qx L (k + 1) 9 = 2 then (jcg L k jaa ++ ⟨#[47]⟩ ++ jcg L (k + 1 + 1) jgk, k + 1 + 1 + 1)
 else (jcg L k jaa, k + 1 + 1)
def jp6 (L : List Int) (k : Nat) : ByteArray × Nat := if decide (qx L (jjo L k).2 12 = 0) then za L ((jjo L k).2 + 1) (jjo L k).1 cofX else ((jjo L k).1, (jjo L k).2 + 1)
theorem jkx {L : List Int} {k K : Nat} {t : ByteArray} (h : jjo L k = (t, K)) (hf : decide (qx L K 12 = 0) = false) : jp6 L k = (t, K + 1) := by unfold jp6; simp only [h, hf]; rfl
theorem jgp {L : List Int} {k K k' : Nat} {t z : ByteArray} (h : jjo L k = (t, K)) (hf : decide (qx L K 12 = 0) = true) (hc : za L (K + 1) t ⟨#[97, 48, 47, 107, 49, 45]⟩ = (z, k')) : jp6 L k = (z, k') := by unfold jp6; simp only [h, hf, if_true]; exact hc
def jjb (base b : Nat) (L : List Int) (k : Nat) (w : World) (e : Ending) (w' : World) : Prop :=
 ∃ (u : ByteArray) (k' : Nat), Hid (jp6 L k = (u, k')) ∧ e = .returned (.string u) ∧ u.size ≤ 30 ∧ Ascii u ∧ k ≤ k' ∧ k' ≤ k + 8 ∧ SX base w' b L k' ∧ w.grownBy w' (some b)
set_option maxRecDepth 100000 in
set_option maxHeartbeats 4000000 in
theorem jqk (base b : Nat) (L : List Int) (k : Nat) (w : World) (hs : SX base w b L k) (hk : k ≤ 10000000000) :
 Calls Tryz.prog 70 #[.pointer (some ⟨b, 0, none⟩)] w (jjb base b L k w) := by
 go_enter Tryz.func70, Tryz.ntmps70
 go_wp2_with fail
 refine (jd5 base b L k _ 9 9 jaa _ hs (by first | rfl | simp) (by omega) rfl (by decide) (by decide)).mono ?_
 rintro _ w1 ⟨v, hv, HV, rfl, hs1, hg1⟩
 obtain ⟨hvs, hva⟩ := ja8 (n := 6) (by decide) hv
 have HVA := Lib.hid hva
 clear hv hva
 go_wp2_with fail
 refine (jf7 base b L _ _ _ hs1 (by omega) (by omega) (by omega)).mono ?_
 rintro _ w2 ⟨q, hq0, hq1, HQ, rfl, hs2, hg2⟩
 have hG2 := ja hg1 hg2
 clear hg1 hg2 hs1
 by_cases q0 : q = 0
 ·subst q0
  go_wp2_with fail
  refine (jd5 base b L _ _ 6 6 jeg _ hs2 (by first | rfl | simp) (by omega) rfl (by decide) (by decide)).mono ?_
  rintro _ w3 ⟨u, hu, HUV, rfl, hs3, hg3⟩
  obtain ⟨hus, hua⟩ := ja8 (n := 3) (by decide) hu
  have HUA := Lib.hid (HVA.out.app hua)
  have hG3 := ja hG2 hg3
  have hsz : (v ++ u).size ≤ 9 := by simp; omega
  clear hu hua hg3 hs2
  have HT : Hid (jjo L k = (v ++ u, k + 1 + 1 + 1)) := by
   show _ = _
   unfold jjo
   rw [if_pos HQ.out, HV.out, HUV.out]
  go_wp2_with fail
  generalize v ++ u = t at *
  refine (jac base b L _ _ _ hs3 (by omega) (by omega) (by omega)).mono ?_
  rintro _ w4 ⟨fl, HF, rfl, hs4, hg4⟩
  have hG4 := ja hG3 hg4
  cases fl
  ·go_wp2_with fail
   go_ret
   exact ⟨t, _, jkx HT.out HF.out, rfl, by omega, HUA.out, by omega, by omega, hs4, hG4⟩
  go_wp2_with fail
  refine (jcl base b L _ t ⟨#[97, 48, 47, 107, 49, 45]⟩ _ hs4 (by omega) (by omega) (by decide) HUA.out (yd (n := 6) (by decide)).2).mono ?_
  rintro _ w5 ⟨z, kz, HZC, rfl, hz, hza, hkz0, hkz1, hs5, hg5⟩
  have hz2 : z.size ≤ 30 := by
   have : (⟨#[97, 48, 47, 107, 49, 45]⟩ : ByteArray).size = 6 := rfl
   omega
  have HZ := Lib.hid hza
  clear hza hz
  go_wp2_with fail
  go_ret
  exact ⟨z, kz, jgp HT.out HF.out HZC.out, rfl, hz2, HZ.out, by omega, by omega, hs5, ja hG4 hg5⟩
 by_cases q1 : q = 1
 ·subst q1
  go_wp2_with fail
  refine (jd5 base b L _ _ 4 4 jef _ hs2 (by first | rfl | simp) (by omega) rfl (by decide) (by decide)).mono ?_
  rintro _ w3 ⟨u, hu, HUV, rfl, hs3, hg3⟩
  obtain ⟨hus, hua⟩ := ja8 (n := 3) (by decide) hu
  have HUA := Lib.hid ((hua.app jau).app HVA.out)
  have hG3 := ja hG2 hg3
  have hsz : (u ++ ⟨#[47]⟩ ++ v).size ≤ 10 := by
   have h47 : (⟨#[47]⟩ : ByteArray).size = 1 := rfl
   simp; omega
  clear hu hua hg3 hs2
  have HT : Hid (jjo L k = (u ++ ⟨#[47]⟩ ++ v, k + 1 + 1 + 1)) := by
   show _ = _
   unfold jjo
   rw [if_neg (by rw [HQ.out]; decide), if_pos HQ.out, HV.out, HUV.out]
  go_wp2_with fail
  generalize u ++ ⟨#[47]⟩ ++ v = t at *
  refine (jac base b L _ _ _ hs3 (by omega) (by omega) (by omega)).mono ?_
  rintro _ w4 ⟨fl, HF, rfl, hs4, hg4⟩
  have hG4 := ja hG3 hg4
  cases fl
  ·go_wp2_with fail
   go_ret
   exact ⟨t, _, jkx HT.out HF.out, rfl, by omega, HUA.out, by omega, by omega, hs4, hG4⟩
  go_wp2_with fail
  refine (jcl base b L _ t ⟨#[97, 48, 47, 107, 49, 45]⟩ _ hs4 (by omega) (by omega) (by decide) HUA.out (yd (n := 6) (by decide)).2).mono ?_
  rintro _ w5 ⟨z, kz, HZC, rfl, hz, hza, hkz0, hkz1, hs5, hg5⟩
  have hz2 : z.size ≤ 30 := by
   have : (⟨#[97, 48, 47, 107, 49, 45]⟩ : ByteArray).size = 6 := rfl
   omega
  have HZ := Lib.hid hza
  clear hza hz
  go_wp2_with fail
  go_ret
  exact ⟨z, kz, jgp HT.out HF.out HZC.out, rfl, hz2, HZ.out, by omega, by omega, hs5, ja hG4 hg5⟩
 by_cases q2 : q = 2
 ·subst q2
  go_wp2_with fail
  refine (jd5 base b L _ _ 4 4 jgk _ hs2 (by first | rfl | simp) (by omega) rfl (by decide) (by decide)).mono ?_
  rintro _ w3 ⟨u, hu, HUV, rfl, hs3, hg3⟩
  obtain ⟨hus, hua⟩ := ja8 (n := 3) (by decide) hu
  have HUA := Lib.hid ((HVA.out.app jau).app hua)
  have hG3 := ja hG2 hg3
  have hsz : (v ++ ⟨#[47]⟩ ++ u).size ≤ 10 := by
   have h47 : (⟨#[47]⟩ : ByteArray).size = 1 := rfl
   simp; omega
  clear hu hua hg3 hs2
  have HT : Hid (jjo L k = (v ++ ⟨#[47]⟩ ++ u, k + 1 + 1 + 1)) := by
   show _ = _
   unfold jjo
   rw [if_neg (by rw [HQ.out]; decide), if_neg (by rw [HQ.out]; decide), if_pos HQ.out, HV.out, HUV.out]
  go_wp2_with fail
  generalize v ++ ⟨#[47]⟩ ++ u = t at *
  refine (jac base b L _ _ _ hs3 (by omega) (by omega) (by omega)).mono ?_
  rintro _ w4 ⟨fl, HF, rfl, hs4, hg4⟩
  have hG4 := ja hG3 hg4
  cases fl
  ·go_wp2_with fail
   go_ret
   exact ⟨t, _, jkx HT.out HF.out, rfl, by omega, HUA.out, by omega, by omega, hs4, hG4⟩
  go_wp2_with fail
  refine (jcl base b L _ t ⟨#[97, 48, 47, 107, 49, 45]⟩ _ hs4 (by omega) (by omega) (by decide) HUA.out (yd (n := 6) (by decide)).2).mono ?_
  rintro _ w5 ⟨z, kz, HZC, rfl, hz, hza, hkz0, hkz1, hs5, hg5⟩
  have hz2 : z.size ≤ 30 := by
   have : (⟨#[97, 48, 47, 107, 49, 45]⟩ : ByteArray).size = 6 := rfl
   omega
  have HZ := Lib.hid hza
  clear hza hz
  go_wp2_with fail
  go_ret
  exact ⟨z, kz, jgp HT.out HF.out HZC.out, rfl, hz2, HZ.out, by omega, by omega, hs5, ja hG4 hg5⟩
 have hs3 := hs2
 have hG3 := hG2
 have HUA := HVA
 have hsz : v.size ≤ 10 := by omega
 clear hs2 hG2
 have HT : Hid (jjo L k = (v, k + 1 + 1)) := by
  show _ = _
  unfold jjo
  rw [if_neg (by rw [HQ.out]; exact q0), if_neg (by rw [HQ.out]; exact q1), if_neg (by rw [HQ.out]; exact q2), HV.out]
 go_wp2_with fail
 generalize v = t at *
 refine (jac base b L _ _ _ hs3 (by omega) (by omega) (by omega)).mono ?_
 rintro _ w4 ⟨fl, HF, rfl, hs4, hg4⟩
 have hG4 := ja hG3 hg4
 cases fl
 ·go_wp2_with fail
  go_ret
  exact ⟨t, _, jkx HT.out HF.out, rfl, by omega, HUA.out, by omega, by omega, hs4, hG4⟩
 go_wp2_with fail
 refine (jcl base b L _ t ⟨#[97, 48, 47, 107, 49, 45]⟩ _ hs4 (by omega) (by omega) (by decide) HUA.out (yd (n := 6) (by decide)).2).mono ?_
 rintro _ w5 ⟨z, kz, HZC, rfl, hz, hza, hkz0, hkz1, hs5, hg5⟩
 have hz2 : z.size ≤ 30 := by
  have : (⟨#[97, 48, 47, 107, 49, 45]⟩ : ByteArray).size = 6 := rfl
  omega
 have HZ := Lib.hid hza
 clear hza hz
 go_wp2_with fail
 go_ret
 exact ⟨z, kz, jgp HT.out HF.out HZC.out, rfl, hz2, HZ.out, by omega, by omega, hs5, ja hG4 hg5⟩
def rcF (L : List Int) : Nat → Nat → ByteArray × Nat
 | 0, k => (⟨#[107, 49, 97, 98]⟩, k)
 | j + 1, k => if (jo (jp6 L k).1).isSome = true then jp6 L k else rcF L j (jp6 L k).2
theorem jud {L : List Int} {j k k' : Nat} {u : ByteArray} (h : jp6 L k = (u, k')) (hp : (jo u).isSome = true) : rcF L (j + 1) k = (u, k') := by
 show (if _ then _ else _) = _
 rw [h, if_pos hp]
theorem jv3 {L : List Int} {j k k' : Nat} {u : ByteArray} (h : jp6 L k = (u, k')) (hp : (jo u).isSome = false) : rcF L (j + 1) k = rcF L j k' := by
 show (if _ then _ else _) = _
 rw [h, if_neg (by rw [hp]; simp)]
def jfe (base b : Nat) (L : List Int) (k : Nat) (w : World) (e : Ending) (w' : World) : Prop :=
 ∃ (u : ByteArray) (k' : Nat), Hid (rcF L 6 k = (u, k')) ∧ e = .returned (.string u) ∧ u.size ≤ 30 ∧ Ascii u ∧ (jo u).isSome = true ∧ k ≤ k' ∧ k' ≤ k + 48 ∧ SX base w' b L k' ∧ w.grownBy w' (some b)
set_option maxRecDepth 100000 in
set_option maxHeartbeats 4000000 in
theorem jkh (base b : Nat) (L : List Int) (k : Nat) (w : World) (hs : SX base w b L k) (hk : k ≤ 1000000000) :
 Calls Tryz.prog 26 #[.pointer (some ⟨b, 0, none⟩)] w (jfe base b L k w) := by
 go_enter Tryz.func26, Tryz.ntmps26
 go_wp2_with fail
 go_loopw [4] (fun i wr => ∃ j k2 : Nat, j ≤ 6 ∧ i = .int .i64 j ∧ Hid (rcF L 6 k = rcF L (6 - j) k2) ∧ k ≤ k2 ∧ k2 ≤ k + 8 * j ∧ SX base wr b L k2 ∧ w.grownBy wr (some b)) (fun i _ => 6 - (intOf i).toNat)
 case atStart => exact ⟨0, k, by omega, rfl, rfl, by omega, by omega, hs, jf _ _⟩
 case round =>
  obtain ⟨j, k2, hj, rfl, HR, hk0, hk1, hsr, hgr⟩ := hrel
  by_cases hlt : j < 6
  ·have hjl : (j : Int) < 6 := by omega
   obtain ⟨m, hm⟩ : ∃ m, 6 - j = m + 1 := ⟨5 - j, by omega⟩
   have HR2 : Hid (rcF L 6 k = rcF L (m + 1) k2) := by show _ = _; rw [← hm]; exact HR.out
   have HM : Hid (6 - (j + 1) = m) := by show _ = _; omega
   clear hm
   go_wp2_with fail
   refine (jqk base b L k2 _ hsr (by omega)).mono ?_
   rintro _ w1 ⟨u, k3, HC, rfl, hu, hua, hk30, hk31, hs1, hg1⟩
   have HUA := Lib.hid hua
   have hG1 := ja hgr hg1
   clear hua hg1 hsr
   go_wp2_with fail
   refine (yh u _ (by omega) HUA.out).mono ?_
   rintro _ w2 ⟨rfl, hg2⟩
   have hs2 := hs1.grown hg2 (by simp)
   have hG2 := ja hG1 (jb8 hg2 (some b))
   cases hP : (jo u).isSome with
   | true =>
     have HP := Lib.hid hP
     clear hP
     go_wp2_with fail
     go_ret
     exact ⟨u, k3, HR2.out.trans (jud HC.out HP.out), rfl, hu, HUA.out, HP.out, by omega, by omega, hs2, hG2⟩
   | false =>
     have HP := Lib.hid hP
     clear hP
     go_wp2_with fail
     go_roundw
     case rel => exact ⟨j + 1, k3, by omega, by go_num, by show _ = _; rw [HM.out]; exact HR2.out.trans (jv3 HC.out HP.out), by omega, by omega, hs2, hG2⟩
     case measure => simp [intOf]; omega
  have hjl : ¬ (j : Int) < 6 := by omega
  have HE : Hid (rcF L 6 k = (⟨#[107, 49, 97, 98]⟩, k2)) := by
   show _ = _
   have h := HR.out
   rw [show 6 - j = 0 by omega] at h
   exact h
  go_wp2_with fail
  go_ret
  exact ⟨_, k2, HE, rfl, by decide, (yd (n := 4) (by decide)).2, jdr, by omega, by omega, hsr, hgr⟩
end Go.Proofs.YtbamhgaghngjiaaGreatDoor
namespace Go.Proofs.YtbamhgaghngjiaaGreatDoor
open Go Go.RowKit
set_option linter.unusedVariables false
set_option linter.unusedSimpArgs false

section
variable {P : Program} {ops : Array Oper} {Q : Exit → Act → World → Prop} {md : Region.Mode} {S : World → Prop} {late : List Nat}
def zk (late : List Nat) (listed : Array Bool) : Bool := late.all fun k => !listed.getD k false
def yi (P : Program) (md : Region.Mode) (ops : Array Oper) (Q : Exit → Act → World → Prop) (late : List Nat) (S : World → Prop) : Nat → Array Bool → Act → World → Prop
 | 0, listed, a, w => Region.ready md ops listed = [] ∧ Q .normal a w
 | f + 1, listed, a, w => (Region.ready md ops listed = [] → Q .normal a w) ∧ ∀ i ∈ Region.ready md ops listed, wpOp P ops Q i (fun a' w' => (zk late (listed.setIfInBounds i true) = true → S w') ∧ yi P md ops Q late S f (listed.setIfInBounds i true) a' w') a w
theorem jc3 : ∀ (f : Nat) (listed : Array Bool) (a : Act) (w : World), yi P md ops Q late S f listed a w → wpAny P md ops Q f listed a w
 | 0, _, _, _, h => h
 | f + 1, _, _, _, h => ⟨h.1, fun i hi => wpOp_mono (fun a' w' h' => jc3 f _ a' w' h'.2) (h.2 i hi)⟩
theorem jbn {i : Nat} (hi : late.contains i = false) (listed : Array Bool) : zk late (listed.setIfInBounds i true) = zk late listed := by
 unfold zk
 have hn : ∀ k ∈ late, (listed.setIfInBounds i true).getD k false = listed.getD k false := fun k hk => by
  refine getD_set_ne false ?_
  rintro rfl
  have : late.contains i = true := by simpa using hk
  rw [this] at hi
  cases hi
 clear hi
 induction late with
 | nil => rfl
 | cons x r ih => rw [List.all_cons, List.all_cons, hn x (by simp), ih (fun k hk => hn k (by simp [hk]))]
theorem jdw {T : World → Prop} {i : Nat} {oi : Oper} {v : Value} (hi : ops[i]? = some oi) (hil : late.contains i = false) (hsel : ∀ (j : Nat) (o : Oper) cs b, ops[j]? = some o → o.op ≠ .select cs b)
 (hQ : ∀ c a w, Q (.panic c) (a.put oi.dst v) w → Q (.panic c) a w) (hT : (∀ w, T w) ∨ ((∀ w, S w → T w) ∧ ∀ k ∈ late, Region.waitsFor md ops k i = true)) :
 ∀ (f : Nat) (listed : Array Bool) (a : Act) (w : World),
   (∀ j oj, ops[j]? = some oj → j ≠ i → listed.getD j true = false → (∀ e ∈ oj.after, Region.binds md e = true → e.on ≠ i) → oi.apart ops oj = true) →
   i ∈ Region.ready md ops listed → YieldsIf P ops T oi v a → (zk late listed = true → S w) → ((∀ w, T w) ∨ zk late listed = true) →
   yi P md ops Q late S f (listed.setIfInBounds i true) (a.put oi.dst v) w → yi P md ops Q late S (f + 1) listed a w := by
 intro f
 induction f with
 | zero =>
   intro listed a w _ hr hy hS hN H
   have hTw : T w := by
    rcases hT with h | ⟨h, _⟩
    ·exact h w
    rcases hN with h' | h'
    ·exact h' w
    exact h w (hS h')
   refine ⟨fun h => (by rw [h] at hr; cases hr), fun j hj => ?_⟩
   by_cases hji : j = i
   ·subst hji; exact hy.wpOp hi hTw ⟨fun h => hS (by rwa [jbn hil] at h), H⟩
   have := ready_mono hj hji
   rw [H.1] at this
   cases this
 | succ f ih =>
   intro listed a w hfree hr hy hS hN H
   have hTw : T w := by
    rcases hT with h | ⟨h, _⟩
    ·exact h w
    rcases hN with h' | h'
    ·exact h' w
    exact h w (hS h')
   refine ⟨fun h => (by rw [h] at hr; cases hr), fun j hj => ?_⟩
   by_cases hji : j = i
   ·subst hji; exact hy.wpOp hi hTw ⟨fun h => hS (by rwa [jbn hil] at h), H⟩
   have h1 := H.2 j (ready_mono hj hji)
   obtain ⟨hjun, oj, hoj, hall⟩ := mem_ready.1 hj
   have hiun : listed.getD i false = false := getD_both (mem_ready.1 hr).1
   have hnot : ∀ e ∈ oj.after, Region.binds md e = true → e.on ≠ i := fun e he hb heq => by
    have h1 := hall e he hb
    rw [heq, hiun] at h1
    cases h1
   have h2 := wpOp_putIf hoj (hfree j oj hoj hji hjun hnot) (fun cs b => hsel i oi cs b hi) (fun cs b => hsel j oj cs b hoj) hQ hy h1
   have hfree' : ∀ k ok, ops[k]? = some ok → k ≠ i → (listed.setIfInBounds j true).getD k true = false →
    (∀ e ∈ ok.after, Region.binds md e = true → e.on ≠ i) → oi.apart ops ok = true := fun k ok hk hki hun hno => by
    refine hfree k ok hk hki ?_ hno
    by_cases hjk : j = k
    ·subst hjk; exact hjun
    rw [getD_set_ne true hjk] at hun; exact hun
   have hN' : (∀ w, T w) ∨ zk late (listed.setIfInBounds j true) = true := by
    rcases hT with h | ⟨_, hw⟩
    ·exact .inl h
    rcases hN with h' | h'
    ·exact .inl h'
    right
    rw [jbn ?_]
    ·exact h'
    cases hc : late.contains j with
    | false => rfl
    | true =>
      have hjl : j ∈ late := by simpa using hc
      obtain ⟨o2, ho2, e, he, hb, hon⟩ := Region.waitsFor_spec (hw j hjl)
      have : o2 = oj := Option.some.inj (ho2.symm.trans hoj)
      subst this
      exact absurd hon (hnot e he hb)
   have hnn : zk late ((listed.setIfInBounds i true).setIfInBounds j true) = zk late (listed.setIfInBounds j true) := by
    rw [Array.setIfInBounds_comm _ _ (Ne.symm hji), jbn hil]
   refine wpOp_mono (fun a' w' h3 => ⟨fun h => h3.2.1 (by rw [hnn]; exact h), ih (listed.setIfInBounds j true) a' w' hfree' (ready_mono hr (Ne.symm hji)) h3.1 (fun h => h3.2.1 (by rw [hnn]; exact h)) hN' ?_⟩) h2
   rw [Array.setIfInBounds_comm _ _ hji]
   exact h3.2.2
theorem jkt {i : Nat} {oi : Oper} {v : Value} {f : Nat} {listed : Array Bool} {a : Act} {w : World} (hi : ops[i]? = some oi)
 (hs : Region.noSelect ops = true) (hf : Region.free md ops listed i = true) (hr : (Region.ready md ops listed).contains i = true) (hil : late.contains i = false) (hw : (late.all fun k => Region.waitsFor md ops k i) = true) (hn : zk late listed = true)
 (hQ : ∀ c a w, Q (.panic c) (a.put oi.dst v) w → Q (.panic c) a w) (hy : YieldsIf P ops S oi v a) (hS : S w)
 (h : yi P md ops Q late S f (listed.setIfInBounds i true) (a.put oi.dst v) w) : yi P md ops Q late S (f + 1) listed a w :=
 jdw (T := S) hi hil (Region.noSelect_spec hs) hQ (.inr ⟨fun _ h => h, List.all_eq_true.1 hw⟩) f listed a w (Region.free_spec hi hf) (by simpa using hr) hy (fun _ => hS) (.inr hn) h
theorem jfr {i : Nat} {oi : Oper} {v : Value} {f : Nat} {listed : Array Bool} {a : Act} {w : World} (hi : ops[i]? = some oi)
 (hs : Region.noSelect ops = true) (hf : Region.free md ops listed i = true) (hr : (Region.ready md ops listed).contains i = true) (hil : late.contains i = false)
 (hQ : ∀ c a w, Q (.panic c) (a.put oi.dst v) w → Q (.panic c) a w) (hy : YieldsIf P ops (fun _ => True) oi v a) (hS : zk late listed = true → S w)
 (h : yi P md ops Q late S f (listed.setIfInBounds i true) (a.put oi.dst v) w) : yi P md ops Q late S (f + 1) listed a w :=
 jdw (T := fun _ => True) hi hil (Region.noSelect_spec hs) hQ (.inl fun _ => trivial) f listed a w (Region.free_spec hi hf) (by simpa using hr) hy hS (.inl fun _ => trivial) h
def AllLate (P : Program) (md : Region.Mode) (ops : Array Oper) (Q : Exit → Act → World → Prop) (late : List Nat) (S : World → Prop) (f : Nat) (listed : Array Bool) (a : Act) (w : World) (rs : List Nat) : Prop :=
 ∀ i ∈ rs, wpOp P ops Q i (fun a' w' => (zk late (listed.setIfInBounds i true) = true → S w') ∧ yi P md ops Q late S f (listed.setIfInBounds i true) a' w') a w
theorem AllLate.nil {f : Nat} {listed : Array Bool} {a : Act} {w : World} : AllLate P md ops Q late S f listed a w [] := fun _ h => by cases h
theorem AllLate.cons {f : Nat} {listed : Array Bool} {a : Act} {w : World} {i : Nat} {o : Oper} {rs : List Nat} (ho : ops[i]? = some o)
 (h : ∀ K' : Act → World → Prop, Shut (∀ a w, (zk late (listed.setIfInBounds i true) = true → S w) → yi P md ops Q late S f (listed.setIfInBounds i true) a w → K' a w) → if Region.wanted o (yielded ops a.tmps) = true then Oper.wp P o a w K' Q else K' (a.put o.dst undef) w)
 (hs : AllLate P md ops Q late S f listed a w rs) : AllLate P md ops Q late S f listed a w (i :: rs) := fun j hj => by
 rcases List.mem_cons.1 hj with rfl | hj
 ·exact wpOp_step ho (fun K' hK => h K' (fun a w hS hW => hK a w ⟨hS, hW⟩))
 exact hs j hj
theorem je {rs : List Nat} {f : Nat} {listed : Array Bool} {a : Act} {w : World} (hr : Region.ready md ops listed = rs) (hne : rs ≠ [])
 (h : AllLate P md ops Q late S f listed a w rs) : yi P md ops Q late S (f + 1) listed a w := ⟨fun h0 => absurd (hr ▸ h0) hne, hr ▸ h⟩
theorem qe {listed : Array Bool} {a : Act} {w : World} (hr : Region.ready md ops listed = []) (h : Q .normal a w) : ∀ f, yi P md ops Q late S f listed a w
 | 0 => ⟨hr, h⟩
 | _ + 1 => ⟨fun _ => h, by rw [hr]; simp⟩
theorem jx {id : Nat} {a : Act} {w : World} (late : List Nat) (S : World → Prop) (hm : P.follows .mixedOrders = true)
 (h : yi P .any ops Q late S ops.size (Array.replicate ops.size false) a w.drew) : (Code.region id ops true).wp P Q a w :=
 wp_region_any hm (jc3 _ _ _ _ h)
theorem jh {f : Nat} {listed listed' : Array Bool} {a : Act} {w : World} (h : listed = listed') (H : yi P md ops Q late S f listed' a w) : yi P md ops Q late S f listed a w := by rw [h]; exact H
end
structure Shared (p : Prop) : Prop where
 out : p
theorem qf {p g : Prop} (h : p) (k : Shared p → g) : g := k ⟨h⟩
theorem tkL {P : Program} {ops : Array Oper} {Q : Exit → Act → World → Prop} {md : Region.Mode} {S : World → Prop} {late : List Nat} {oi : Oper} {v : Value} {f : Nat} {listed : Array Bool} {a : Act} {w : World} (i d : Nat) (hS : S w)
 (h : yi P md ops Q late S f (listed.setIfInBounds i true) (a.put (some d) v) w) (hi : ops[i]? = some oi := by rfl) (hd : oi.dst = some d := by rfl) (h5 : ∀ w, S w → (execOp a.eval oi).run P w = .ok (.value v) w := by intro w hSw; (try dsimp only at hSw); (repeat (have hS0 := hSw.1; replace hSw := hSw.2)); go_simp; (try with_reducible rfl)) (hs : Region.noSelect ops = true := by kernel_rfl) (hf : Region.free md ops listed i = true := by kernel_rfl) (hr : (Region.ready md ops listed).contains i = true := by kernel_rfl) (hil : late.contains i = false := by kernel_rfl)
 (hw : (late.all fun k => Region.waitsFor md ops k i) = true := by kernel_rfl) (hn : zk late listed = true := by kernel_rfl) (hg : Region.wanted oi (yielded ops a.tmps) = true := by kernel_rfl) (hQ : ∀ c a w, Q (.panic c) (a.put oi.dst v) w → Q (.panic c) a w := by exact fun _ _ _ h => h) : yi P md ops Q late S (f + 1) listed a w :=
 jkt hi hs hf hr hil hw hn hQ (.inl ⟨hg, h5⟩) hS (by rw [hd]; exact h)
theorem tkA {P : Program} {ops : Array Oper} {Q : Exit → Act → World → Prop} {md : Region.Mode} {S : World → Prop} {late : List Nat} {oi : Oper} {v : Value} {f : Nat} {listed : Array Bool} {a : Act} {w : World} (i d : Nat) (hS : zk late listed = true → S w)
 (h : yi P md ops Q late S f (listed.setIfInBounds i true) (a.put (some d) v) w) (hi : ops[i]? = some oi := by rfl) (hd : oi.dst = some d := by rfl) (h5 : ∀ w, (fun _ => True) w → (execOp a.eval oi).run P w = .ok (.value v) w := by intro w hSw; (try dsimp only at hSw); (repeat (have hS0 := hSw.1; replace hSw := hSw.2)); go_simp; (try with_reducible rfl)) (hs : Region.noSelect ops = true := by kernel_rfl) (hf : Region.free md ops listed i = true := by kernel_rfl) (hr : (Region.ready md ops listed).contains i = true := by kernel_rfl) (hil : late.contains i = false := by kernel_rfl)
 (hg : Region.wanted oi (yielded ops a.tmps) = true := by kernel_rfl) (hQ : ∀ c a w, Q (.panic c) (a.put oi.dst v) w → Q (.panic c) a w := by exact fun _ _ _ h => h) : yi P md ops Q late S (f + 1) listed a w :=
 jfr hi hs hf hr hil hQ (.inl ⟨hg, h5⟩) hS (by rw [hd]; exact h)
end Go.Proofs.YtbamhgaghngjiaaGreatDoor
