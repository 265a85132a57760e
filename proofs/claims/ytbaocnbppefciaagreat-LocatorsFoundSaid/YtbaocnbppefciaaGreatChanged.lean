/- The walk over the stream's Changed: a string with a byte that is changed, added or removed. Condition: strings of ASCII; the stream has handed out at most 10^11 numbers. -/
import Derived.Test.YtbaocnbppefciaaGreatStreamA
import Derived.Test.YtbaocnbppefciaaGreatCall
namespace Go.Proofs.YtbaocnbppefciaaGreat
open Go.RowKit
set_option linter.unusedVariables false
set_option linter.unusedSimpArgs false

theorem enc_ascii (c : UInt8) (h : c.toNat < 128) : Utf8.encode ((c.toNat : Nat) : Int) = ⟨#[c]⟩ := by
  have h' : ∀ n : Fin 128, Utf8.encode ((n.val : Nat) : Int) = ⟨#[UInt8.ofNat n.val]⟩ := by decide +kernel
  have := h' ⟨c.toNat, h⟩
  simpa using this
theorem Ascii.mem_ {s : ByteArray} (h : Ascii s) : ∀ c ∈ s.data.toList, c.toNat < 128 := fun c hc => by
  obtain ⟨j, hj, e⟩ := List.getElem_of_mem hc
  exact h j c (by rw [List.getElem?_eq_getElem hj, e])
theorem Ascii.of_mem {s : ByteArray} (h : ∀ c ∈ s.data.toList, c.toNat < 128) : Ascii s := fun j c hc => h c (List.mem_of_getElem? hc)
theorem Ascii.app {s t : ByteArray} (h1 : Ascii s) (h2 : Ascii t) : Ascii (s ++ t) := Ascii.of_mem fun c hc => by
  rw [ByteArray.data_append, Array.toList_append] at hc
  rcases List.mem_append.1 hc with h | h
  · exact h1.mem_ c h
  · exact h2.mem_ c h
theorem Ascii.one {c : UInt8} (h : c.toNat < 128) : Ascii ⟨#[c]⟩ := Ascii.of_mem fun x hx => by
  simp only [List.mem_singleton] at hx
  rw [hx]; exact h
theorem empty_size {t : ByteArray} (h : t.toList.isEmpty = false) : 0 < t.size := by
  rw [Lib.toList_data] at h
  have hl : t.data.toList.length = t.size := by simp
  rcases Nat.eq_zero_or_pos t.size with h0 | h0
  · rw [h0] at hl
    rw [List.eq_nil_of_length_eq_zero hl] at h
    simp at h
  · exact h0
def ChangedPost (b k : Nat) (t x : ByteArray) (w : World) (e : Ending) (w' : World) : Prop :=
  ∃ u : ByteArray, e = .returned (.string u) ∧ u.size ≤ t.size + x.size ∧ Ascii u ∧ Str w' b (k + 3) ∧ w.grownBy w' (some b)

set_option maxRecDepth 100000 in
set_option maxHeartbeats 4000000 in
theorem changed_in (b k : Nat) (t x : ByteArray) (w : World) (hs : Str w b k) (hk : k ≤ 100000000000) (ht : t.size ≤ 1000000) (hx : x.size ≤ 1000) (ha : Ascii t) (hb : Ascii x) :
    Calls Tryz.prog 33 #[.pointer (some ⟨b, 0, none⟩), .string t, .string x] w (ChangedPost b k t x w) := by
  have HA := Lib.hid ha
  have HB := Lib.hid hb
  clear ha hb
  rcases he : t.toList.isEmpty
  case true =>
    have hn : t.toList = [] := by simpa using he
    clear he
    go_enter Tryz.func33, Tryz.ntmps33
    go_wp2_with fail
    go_ret
    exact ⟨x, rfl, by omega, HB.out, hs.mono (by omega), gr_refl _ _⟩
  rcases hf : x.toList.isEmpty
  case true =>
    have hn : x.toList = [] := by simpa using hf
    clear hf
    go_enter Tryz.func33, Tryz.ntmps33
    go_wp2_with fail
    go_ret
    exact ⟨x, rfl, by omega, HB.out, hs.mono (by omega), gr_refl _ _⟩
  have ht0 := empty_size he
  have hx0 := empty_size hf
  go_enter Tryz.func33, Tryz.ntmps33
  go_wp2_with fail
  refine (next_in b k _ _ hs (by omega) (by omega) (by omega)).mono ?_
  rintro _ w1 ⟨i', hi0, hi1, rfl, hs1, hg1⟩
  obtain ⟨i, rfl⟩ := Int.eq_ofNat_of_zero_le hi0
  go_wp2_with fail
  refine (next_in b _ _ _ hs1 (by omega) (by omega) (by omega)).mono ?_
  rintro _ w2 ⟨j', hj0, hj1, rfl, hs2, hg2⟩
  obtain ⟨j, rfl⟩ := Int.eq_ofNat_of_zero_le hj0
  have hG2 := gr_trans hg1 hg2
  have hjx : j < x.size := by omega
  have hcA := HB.out.at_ j hjx
  go_wp2_with fail
  generalize x[j] = c at *
  refine (next_in b _ _ _ hs2 (by omega) (by omega) (by omega)).mono ?_
  rintro _ w3 ⟨q, hq0, hq1, rfl, hs3, hg3⟩
  have hG3 := gr_trans hG2 hg3
  have e1 : IntKind.i64.wrap ((i : Int) + 1) = (i : Int) + 1 := IntWalk.i64_in _ ⟨by omega, by omega⟩
  have e2 : ((i : Int) + 1).toNat = i + 1 := by omega
  have e3 : (0 : Int) ≤ (i : Int) + 1 := by omega
  have e4 : (i : Int) + 1 ≤ (t.size : Int) := by omega
  have e5 : (i : Int) ≤ (t.size : Int) := by omega
  have hsA : (t.extract 0 i).size = i := by simp; omega
  have hsB : (t.extract (i + 1) t.size).size = t.size - (i + 1) := by simp
  have hsC : (t.extract i t.size).size = t.size - i := by simp
  have hc1 : (⟨#[c]⟩ : ByteArray).size = 1 := rfl
  have HC := Lib.hid (Ascii.one (c := c) (by omega))
  have HE := Lib.hid (enc_ascii c (by omega))
  have hfin : ∀ u W', u.size ≤ t.size + x.size → Ascii u → w3.grownBy W' none → ChangedPost b k t x w (.returned (.string u)) W' := fun u W' h1 h2 h3 =>
    ⟨u, rfl, h1, h2, hs3.grown h3 (by simp), gr_trans hG3 (gr_weak h3 _)⟩
  have hz : (Utf8.encode (c.toNat : Int)).size = 1 := by rw [HE.out]; exact hc1
  have HA1 := Lib.hid (HA.out.take i)
  have HA2 := Lib.hid (HA.out.drop (i + 1))
  have HA3 := Lib.hid (HA.out.drop i)
  have hq : q = 0 ∨ q = 1 ∨ q = 2 := by omega
  rcases hq with rfl | rfl | rfl
  · go_wp2_with fail
    go_quiet (fail)
    go_wp2_with fail
    go_ret
    refine hfin _ _ ?_ ?_ (gr_drewN (gr_refl _ _) _)
    · rw [HE.out]; simp; omega
    · rw [HE.out]; exact (HA1.out.app HC.out).app HA2.out
  · go_wp2_with fail
    go_quiet (fail)
    go_wp2_with fail
    go_ret
    refine hfin _ _ ?_ ?_ (gr_drewN (gr_refl _ _) _)
    · rw [HE.out]; simp; omega
    · rw [HE.out]; exact (HA1.out.app HC.out).app HA3.out
  · go_wp2_with fail
    go_quiet (fail)
    go_wp2_with fail
    go_ret
    refine hfin _ _ ?_ ?_ (gr_drewN (gr_refl _ _) _)
    · simp; omega
    · exact HA1.out.app HA2.out
end Go.Proofs.YtbaocnbppefciaaGreat
