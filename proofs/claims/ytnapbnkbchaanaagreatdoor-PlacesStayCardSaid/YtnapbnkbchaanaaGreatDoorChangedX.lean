/- The stream's Changed, told exactly. Condition: strings of ASCII; the stream has handed out at most 10^11 numbers. -/
import Derived.Test.YtnapbnkbchaanaaGreatDoorStrX
import Derived.Test.YtnapbnkbchaanaaGreatDoorChanged
namespace Go.Proofs.YtnapbnkbchaanaaGreatDoor
open Go.RowKit
set_option linter.unusedVariables false
set_option linter.unusedSimpArgs false

/-- A text with a byte changed, put in or taken out. -/
def chOf (t : ByteArray) (i : Nat) (c : UInt8) (q : Int) : ByteArray :=
  if q = 0 then t.extract 0 i ++ Utf8.encode ((c.toNat : Nat) : Int) ++ t.extract (i + 1) t.size
  else if q = 1 then t.extract 0 i ++ Utf8.encode ((c.toNat : Nat) : Int) ++ t.extract i t.size
  else t.extract 0 i ++ t.extract (i + 1) t.size
def changedF (L : List Int) (k : Nat) (t x : ByteArray) : ByteArray × Nat :=
  if t.size = 0 ∨ x.size = 0 then (x, k)
  else (chOf t (nextV L k (t.size : Int)).toNat (x.data.toList.getD (nextV L (k + 1) (x.size : Int)).toNat 0) (nextV L (k + 1 + 1) 3), k + 1 + 1 + 1)
def ChangedXPost (base b : Nat) (L : List Int) (k : Nat) (t x : ByteArray) (w : World) (e : Ending) (w' : World) : Prop :=
  ∃ (u : ByteArray) (k' : Nat), Hid (changedF L k t x = (u, k')) ∧ e = .returned (.string u) ∧ u.size ≤ t.size + x.size ∧ Ascii u ∧ k ≤ k' ∧ k' ≤ k + 3 ∧ SX base w' b L k' ∧ w.grownBy w' (some b)

set_option maxRecDepth 100000 in
set_option maxHeartbeats 4000000 in
theorem changed_e (base b : Nat) (L : List Int) (k : Nat) (t x : ByteArray) (w : World) (hs : SX base w b L k) (hk : k ≤ 100000000000) (ht : t.size ≤ 1000000) (hx : x.size ≤ 1000) (ha : Ascii t) (hb : Ascii x) :
    Calls Tryz.prog 53 #[.pointer (some ⟨b, 0, none⟩), .string t, .string x] w (ChangedXPost base b L k t x w) := by
  have hbase := hs.base
  have HA := Lib.hid ha
  have HB := Lib.hid hb
  clear ha hb
  rcases he : t.toList.isEmpty
  case true =>
    have hn : t.toList = [] := by simpa using he
    have HCF : Hid (changedF L k t x = (x, k)) := by show _ = _; unfold changedF; rw [if_pos (.inl (by rw [Lib.toList_data] at hn; simpa using congrArg List.length hn))]
    clear he
    go_enter Tryz.func53, Tryz.ntmps53
    go_wp2_with fail
    go_ret
    exact ⟨x, k, HCF, rfl, by omega, HB.out, by omega, by omega, hs, gr_refl _ _⟩
  rcases hf : x.toList.isEmpty
  case true =>
    have hn : x.toList = [] := by simpa using hf
    have HCF : Hid (changedF L k t x = (x, k)) := by show _ = _; unfold changedF; rw [if_pos (.inr (by rw [Lib.toList_data] at hn; simpa using congrArg List.length hn))]
    clear hf
    go_enter Tryz.func53, Tryz.ntmps53
    go_wp2_with fail
    go_ret
    exact ⟨x, k, HCF, rfl, by omega, HB.out, by omega, by omega, hs, gr_refl _ _⟩
  have ht0 := empty_size he
  have hx0 := empty_size hf
  go_enter Tryz.func53, Tryz.ntmps53
  go_wp2_with fail
  refine (next_e base b L k _ _ hs (by omega) (by omega) (by omega)).mono ?_
  rintro _ w1 ⟨i', hi0, hi1, HI, rfl, hs1, hg1⟩
  obtain ⟨i, rfl⟩ := Int.eq_ofNat_of_zero_le hi0
  go_wp2_with fail
  refine (next_e base b L _ _ _ hs1 (by omega) (by omega) (by omega)).mono ?_
  rintro _ w2 ⟨j', hj0, hj1, HJ, rfl, hs2, hg2⟩
  obtain ⟨j, rfl⟩ := Int.eq_ofNat_of_zero_le hj0
  have hG2 := gr_trans hg1 hg2
  have hjx : j < x.size := by omega
  have hcA := HB.out.at_ j hjx
  have HCC : Hid (∀ q : Int, nextV L (k + 1 + 1) 3 = q → changedF L k t x = (chOf t i x[j] q, k + 1 + 1 + 1)) := fun q hq => by
    unfold changedF
    rw [if_neg (by omega), HI.out, HJ.out, hq]
    simp only [Int.toNat_natCast]
    rw [show x.data.toList.getD j 0 = x[j] by rw [List.getD_eq_getElem?_getD, List.getElem?_eq_getElem (by simpa using hjx)]; rfl]
  go_wp2_with fail
  generalize x[j] = c at *
  refine (next_e base b L _ _ _ hs2 (by omega) (by omega) (by omega)).mono ?_
  rintro _ w3 ⟨q, hq0, hq1, HQ, rfl, hs3, hg3⟩
  have HCF := Lib.hid (HCC.out q HQ.out)
  have hG3 := gr_trans hG2 hg3
  have e1 : IntKind.i64.wrap ((i : Int) + 1) = (i : Int) + 1 := IntWalk.i64_in _ ⟨by omega, by omega⟩
  have e2 : ((i : Int) + 1).toNat = i + 1 := by omega
  have e3 : (0 : Int) ≤ (i : Int) + 1 := by omega
  have e4 : (i : Int) + 1 ≤ (t.size : Int) := by omega
  have e5 : (i : Int) ≤ (t.size : Int) := by omega
  have hsA : (t.extract 0 i).size = i := by simp; omega
  have hsB : (t.extract (i + 1) t.size).size = t.size - (i + 1) := by simp
  have hsC : (t.extract i t.size).size = t.size - i := by simp
  have hc1 : (⟨#[c]⟩ : ByteArray).size = 1 := rfl
  have HC := Lib.hid (Ascii.one (c := c) (by omega))
  have HE := Lib.hid (enc_ascii c (by omega))
  have hfin : ∀ u W', chOf t i c q = u → u.size ≤ t.size + x.size → Ascii u → w3.grownBy W' none → ChangedXPost base b L k t x w (.returned (.string u)) W' := fun u W' h0 h1 h2 h3 =>
    ⟨u, _, by show _ = _; rw [HCF.out, h0], rfl, h1, h2, by omega, by omega, hs3.grown h3 (by simp), gr_trans hG3 (gr_weak h3 _)⟩
  have hz : (Utf8.encode (c.toNat : Int)).size = 1 := by rw [HE.out]; exact hc1
  have HA1 := Lib.hid (HA.out.take i)
  have HA2 := Lib.hid (HA.out.drop (i + 1))
  have HA3 := Lib.hid (HA.out.drop i)
  have hq : q = 0 ∨ q = 1 ∨ q = 2 := by omega
  rcases hq with rfl | rfl | rfl
  · go_wp2_with fail
    go_quiet (fail)
    go_wp2_with fail
    go_ret
    refine hfin _ _ ?_ ?_ ?_ (gr_drewN (gr_refl _ _) _)
    · first | rfl | (unfold chOf; simp)
    · rw [HE.out]; simp; omega
    · rw [HE.out]; exact (HA1.out.app HC.out).app HA2.out
  · go_wp2_with fail
    go_quiet (fail)
    go_wp2_with fail
    go_ret
    refine hfin _ _ ?_ ?_ ?_ (gr_drewN (gr_refl _ _) _)
    · first | rfl | (unfold chOf; simp)
    · rw [HE.out]; simp; omega
    · rw [HE.out]; exact (HA1.out.app HC.out).app HA3.out
  · go_wp2_with fail
    go_quiet (fail)
    go_wp2_with fail
    go_ret
    refine hfin _ _ ?_ ?_ ?_ (gr_drewN (gr_refl _ _) _)
    · first | rfl | (unfold chOf; simp)
    · simp; omega
    · exact HA1.out.app HA2.out
end Go.Proofs.YtnapbnkbchaanaaGreatDoor
