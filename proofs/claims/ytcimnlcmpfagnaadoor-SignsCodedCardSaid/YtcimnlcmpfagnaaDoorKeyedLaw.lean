/- The law MarksKeyed: Key is as specified for all strings and units. Condition: an argument that lies in its block, and package-level variables of the library as its text lays them. -/
import Derived.Test.YtcimnlcmpfagnaaDoorKeyedMarks
import Derived.Test.YtcimnlcmpfagnaaDoorSayW
import Derived.Test.YtcimnlcmpfagnaaDoorRefSaid
import Derived.Test.YtcimnlcmpfagnaaDoorIntsEq
import Derived.Test.YtcimnlcmpfagnaaDoorStart
namespace Go.Proofs.YtcimnlcmpfagnaaDoor
open Go.RowKit
set_option linter.unusedVariables false
set_option linter.unusedSimpArgs false

set_option maxHeartbeats 1000000 in
theorem keyedC_any (b : Nat) (w : World) (hgl : Gl b w) : Calls Tryd.prog 22 #[] w fun r w' => r = .returned (.bool true) ∧ w.grownBy w' none := by
  have hu := units_any b parisS w hgl (by decide)
  rw [paris_ok, paris_units] at hu
  have HU : Hid (Calls Tryd.prog 34 #[.string ⟨#[112, 97, 114, 105, 115]⟩] w fun e w' => e = .returned (.tuple #[.int .i64 43, .int .i64 0]) ∧ w.grownBy w' none) := hu
  clear hu hgl
  go_enter Tryd.func22, Tryd.ntmps22
  go_wp2_with fail
  refine HU.out.mono ?_
  rintro _ w1 ⟨rfl, hg1⟩
  go_wp2_with fail
  go_ret
  exact ⟨rfl, hg1⟩
def keyingE (u sl : Int) : Int := if spanE u 1 2000 = 0 then spanE sl u 2000 else spanE u 1 2000
set_option maxHeartbeats 1000000 in
theorem keying_any (u sl : Int) (w : World) : Calls Tryd.prog 26 #[.int .i64 u, .int .i64 sl] w fun e w' => e = .returned (.int .i64 (keyingE u sl)) ∧ w.grownBy w' none := by
  have H1 := Lib.hid (fun W => spanFault_any u 1 2000 W)
  have H2 := Lib.hid (fun W => spanFault_any sl u 2000 W)
  have HK : Hid (keyingE u sl = if spanE u 1 2000 = 0 then spanE sl u 2000 else spanE u 1 2000) := rfl
  generalize spanE u 1 2000 = a at *
  generalize spanE sl u 2000 = c at *
  go_enter Tryd.func26, Tryd.ntmps26
  go_wp2_with fail
  refine (H1.out _).mono ?_
  rintro _ _ ⟨rfl, rfl⟩
  go_wp2_with fail
  refine (H2.out _).mono ?_
  rintro _ _ ⟨rfl, rfl⟩
  go_wp2_with fail
  refine (or2_any a c _).mono ?_
  rintro _ w2 ⟨rfl, hg2⟩
  rw [← HK.out]
  go_wp2_with fail
  go_ret
  exact ⟨rfl, hg2⟩
theorem keyE_or (s : ByteArray) (u sl : Int) : (if saidE s = 0 then keyingE u sl else saidE s) = keyE s u sl := by
  unfold keyE keyingE spanE
  cases outB u 1 2000 <;> cases outB sl u 2000 <;> simp
theorem keyE_zero {s : ByteArray} {u sl : Int} (h : keyE s u sl = 0) : saidE s = 0 ∧ (1 ≤ u ∧ u ≤ 2000) ∧ (u ≤ sl ∧ sl ≤ 2000) := by
  unfold keyE at h
  by_cases h0 : saidE s = 0
  · rw [if_pos h0] at h
    cases h1 : outB u 1 2000
    · cases h2 : outB sl u 2000
      · exact ⟨h0, outB_is h1, outB_is h2⟩
      · rw [h1, h2] at h; simp at h
    · rw [h1] at h; simp at h
  · rw [if_neg h0] at h; exact absurd h h0
set_option maxRecDepth 100000 in
set_option maxHeartbeats 4000000 in
theorem keyedLaw (A : Option Addr) (n c : Nat) (w : World) (hin : In w A n) (hgl : Gl w.heap.size w) :
    Calls Tryd.prog 4 #[.slice A n c] w fun r w' => r = .returned (.bool true) ∧ Below w.heap.size w w' := by
  have hs0 := Str.start (c := c) hin
  have HGL := Lib.hid hgl
  clear hin hgl
  go_enter Tryd.func4, Tryd.ntmps4
  go_wp2_with fail
  have hG0 := World.grownBy_alloc w (.cells #[.slice A n c, .int .i64 0] 25) none
  generalize w.alloc (.cells #[.slice A n c, .int .i64 0] 25) = W0 at *
  generalize hb : w.heap.size = b at *
  have HB := Lib.hid hb
  clear hb
  refine (saying_in b 0 _ hs0 (by decide)).mono ?_
  rintro _ w1 ⟨t, rfl, ht40, hta, hs1, hg1⟩
  have hG1 : w.grownBy w1 none := gr_grown hG0 hg1 (fun g e => by injection e with e; exact .inr (by have := HB.out; omega))
  have HTA := Lib.hid hta
  clear hs0 hG0 hg1 hta
  go_wp2_with fail
  refine (pick_at b _ _ 4 4 [1, 60, 100, 0] _ hs1 (by first | rfl | simp) (by decide) rfl (by decide) (by decide)).mono ?_
  rintro _ w2 ⟨u, hu, rfl, hs2, hg2⟩
  have hG2 : w.grownBy w2 none := gr_grown hG1 hg2 (fun g e => by injection e with e; exact .inr (by have := HB.out; omega))
  clear hs1 hG1 hg2 hu
  go_wp2_with fail
  refine (pick_at b _ _ 5 5 [1, 60, 100, 250, 2001] _ hs2 (by first | rfl | simp) (by decide) rfl (by decide) (by decide)).mono ?_
  rintro _ w3 ⟨sl, hsl, rfl, hs3, hg3⟩
  have hG3 : w.grownBy w3 none := gr_grown hG2 hg3 (fun g e => by injection e with e; exact .inr (by have := HB.out; omega))
  clear hs2 hs3 hG2 hg3 hsl
  have HK := Lib.hid (key_any b t u sl w3 (HGL.out.quiet hG3) (by omega))
  unfold KeyPost at HK
  have HRS := Lib.hid (fun W (h : Gl b W) => refSaid_any b t W h HTA.out (by omega))
  have HKO := Lib.hid (keyE_or t u sl)
  have HKZ := Lib.hid (fun h => keyE_zero (s := t) (u := u) (sl := sl) h)
  have HKS := Lib.hid (fun h => keyed_same (s := t) h u sl)
  have HKK : Hid (keyK t u sl = if keyE t u sl = 0 then sL u sl (codesOf t) else []) := rfl
  have HKR := Lib.hid (fun W (h : Gl b W) h1 h2 h3 h4 h5 h6 => keyedOf_any b t u sl W h h1 h2 h3 h4 h5 h6)
  have HSO := Lib.hid (fun h => (saidE_is t).1 h)
  generalize keyE t u sl = E at *
  generalize keyK t u sl = K at *
  generalize saidE t = S at *
  go_wp2_with fail
  refine HK.out.mono ?_
  rintro _ w4 ⟨v, rfl, hv, _, hg4⟩
  have hG4 := gr_trans hG3 hg4
  have hvl := Lib.hid (IntsFrom.low hv)
  obtain ⟨vA, vc, rfl, _, _⟩ := IntsFrom.shape hv
  clear hG3 hg4 hv HK
  go_wp2_with fail
  refine (HRS.out _ (HGL.out.quiet hG4)).mono ?_
  rintro _ w5 ⟨rfl, hg5⟩
  have hG5 := gr_trans hG4 hg5
  go_wp2_with fail
  refine (keying_any u sl _).mono ?_
  rintro _ w6 ⟨rfl, hg6⟩
  have hG6 := gr_trans hG5 hg6
  go_wp2_with fail
  refine (or2_any _ _ _).mono ?_
  rintro _ w7 ⟨rfl, hg7⟩
  rw [HKO.out]
  have hG7 := gr_trans hG6 hg7
  have hv7 := Lib.hid (((hvl.out.grown hg5).grown hg6).grown hg7)
  clear hG4 hg5 hG5 hg6 hG6 hg7 hvl HKO
  by_cases h0 : E = 0
  · subst h0
    obtain ⟨s0, ⟨u0, u1⟩, l0, l1⟩ := HKZ.out rfl
    obtain ⟨z0, z1, z2⟩ := HSO.out s0
    have hk : keyedL t.data.toList u sl = K := by rw [HKS.out s0, HKK.out, if_pos rfl]
    have HR := Lib.hid (HKR.out w7 (HGL.out.quiet hG7) z0 z2 (by omega) (by omega) (by omega) (by omega))
    rw [hk] at HR
    clear s0 z0 z1 z2 hk
    go_wp2_with fail
    refine HR.out.mono ?_
    rintro _ w8 ⟨x, rfl, hx, hg8⟩
    have hG8 := gr_trans hG7 hg8
    have HQ := Lib.hid (equalInts_same _ x K w8 (hv7.out.grown hg8) (IntsFrom.low hx))
    clear hx
    go_wp2_with fail
    refine HQ.out.mono ?_
    rintro _ w9 ⟨rfl, hg9⟩
    have hG9 := gr_trans hG8 hg9
    go_wp2_with fail
    refine (keyedC_any b _ (HGL.out.quiet hG9)).mono ?_
    rintro _ w10 ⟨rfl, hg10⟩
    go_wp2_with fail
    go_ret
    exact ⟨rfl, gr_below (gr_trans hG9 hg10)⟩
  · have hb : (E != 0) = true := by rw [bne_iff_ne]; exact h0
    have hK : K = [] := by rw [HKK.out, if_neg h0]
    subst hK
    have hEE : (E == E) = true := by simp
    go_wp2_with fail
    refine (keyedC_any b _ (HGL.out.quiet hG7)).mono ?_
    rintro _ w10 ⟨rfl, hg10⟩
    go_wp2_with fail
    go_ret
    exact ⟨rfl, gr_below (gr_trans hG7 hg10)⟩
end Go.Proofs.YtcimnlcmpfagnaaDoor
