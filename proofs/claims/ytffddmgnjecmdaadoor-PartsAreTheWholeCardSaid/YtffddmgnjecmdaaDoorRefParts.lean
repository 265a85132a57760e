/- The reference takes call signs apart as the program does: PartsOf, IsCall. Condition: a string of ASCII. -/
import Derived.Test.YtffddmgnjecmdaaDoorPartsRest
namespace Go.Proofs.YtffddmgnjecmdaaDoor
open Go.RowKit
set_option linter.unusedVariables false
set_option linter.unusedSimpArgs false

theorem beq_no {b : ByteArray} {l : List UInt8} (h : ¬ b.data.toList = l) : (b.toList == l) = false := by
  rw [Lib.toList_data]; simpa using h
theorem beq_yes {b : ByteArray} {l : List UInt8} (h : b.data.toList = l) : (b.toList == l) = true := by
  rw [Lib.toList_data]; simpa using h
theorem beginB_only {l : List UInt8} (h1 : ¬ l = [112]) (h2 : ¬ l = [109]) (h3 : ¬ l = [109, 109]) (h4 : ¬ l = [97, 109]) (h5 : ¬ (l.length = 1 ∧ l.all dgB = true)) : tailK l = if beginB l then 1 else 0 := by
  unfold tailK
  rw [if_neg h1, if_neg h2, if_neg h3, if_neg h4, if_neg h5]
theorem one_of {b : ByteArray} (h : b.data.toList.length = 1) : ∃ c, b = ⟨#[c]⟩ := by
  obtain ⟨⟨l⟩⟩ := b
  simp only at h
  match l, h with
  | [c], _ => exact ⟨c, rfl⟩

theorem refParts_any (s : ByteArray) (w : World) (hs : s.size ≤ 1000000000) (ha : Ascii s) :
    Calls Tryd.prog 10 #[.string s] w (PartsPost s w) := by
  have hge := Lib.indexByte_ge s.data.toList 47
  by_cases hi : Lib.indexByte s.data.toList 47 < 0
  · by_cases h : 14 < s.size
    · exact refParts_long s s ⟨#[]⟩ false w h (fun W => cut_miss s 47 W (by omega) (by omega))
    · exact refParts_bare s w hs ha h (by omega)
  obtain ⟨i, hi'⟩ := Int.eq_ofNat_of_zero_le (show 0 ≤ Lib.indexByte s.data.toList 47 by omega)
  by_cases h : 14 < s.size
  · exact refParts_long s _ _ true w h (fun W => cut_hit s 47 i W (by omega) hi')
  obtain ⟨a, hea⟩ : ∃ a, s.extract 0 i = a := ⟨_, rfl⟩
  obtain ⟨b, heb⟩ : ∃ b, s.extract (i + 1) s.size = b := ⟨_, rfl⟩
  have hbb : baseI b.data.toList = -1 ∨ ∃ kb : Nat, baseI b.data.toList = (kb : Int) := by
    rcases baseI_cases b.data.toList with h1 | ⟨_, _, _, h1, _⟩
    · exact .inl h1
    · exact .inr (Int.eq_ofNat_of_zero_le (by omega))
  have haa : baseI a.data.toList = -1 ∨ ∃ k : Nat, baseI a.data.toList = (k : Int) := by
    rcases baseI_cases a.data.toList with h1 | ⟨_, _, _, h1, _⟩
    · exact .inl h1
    · exact .inr (Int.eq_ofNat_of_zero_le (by omega))
  have hsz1 : b.data.toList.length = b.size := by simp
  have hz1 : b.data.toList.length = 1 → ((b.size : Int) == 1) = true := fun h => by rw [← hsz1, h]; rfl
  have hz0 : ¬ b.data.toList.length = 1 → ((b.size : Int) == 1) = false := fun h => by
    rw [← hsz1]
    have : ¬ (b.data.toList.length : Int) = 1 := by omega
    simpa using this
  rcases hbb with hv | ⟨kb, hv⟩
  · rcases haa with hk | ⟨k, hk⟩
    · exact refParts_n_no s a b i w hs ha h hi' hea heb hv hk
    by_cases e1 : b.data.toList = [112]
    · exact refParts_n_p s a b i w hs ha h hi' hea heb hv k hk (beq_yes e1) (by rw [e1]; rfl)
    by_cases e2 : b.data.toList = [109]
    · exact refParts_n_m s a b i w hs ha h hi' hea heb hv k hk (beq_no e1) (beq_yes e2) (by rw [e2]; rfl)
    by_cases e3 : b.data.toList = [109, 109]
    · exact refParts_n_mm s a b i w hs ha h hi' hea heb hv k hk (beq_no e1) (beq_no e2) (beq_yes e3) (by rw [e3]; rfl)
    by_cases e4 : b.data.toList = [97, 109]
    · exact refParts_n_am s a b i w hs ha h hi' hea heb hv k hk (beq_no e1) (beq_no e2) (beq_no e3) (beq_yes e4) (by rw [e4]; rfl)
    by_cases e5 : b.data.toList.length = 1
    · obtain ⟨c, hc⟩ := one_of e5
      by_cases hd : dgB c = true
      · exact refParts_n_dig s a b i w hs ha h hi' hea heb hv k hk (beq_no e1) (beq_no e2) (beq_no e3) (beq_no e4) c hc (hz1 e5) hd (by unfold tailK; rw [if_neg e1, if_neg e2, if_neg e3, if_neg e4, if_pos ⟨e5, by rw [hc]; simpa using hd⟩])
      · have hd' : dgB c = false := by simpa using hd
        have hT := beginB_only e1 e2 e3 e4 (fun hh => hd (by have := hh.2; rw [hc] at this; simpa using this))
        cases hgb : beginB b.data.toList with
        | true => exact refParts_n_one_begin s a b i w hs ha h hi' hea heb hv k hk (beq_no e1) (beq_no e2) (beq_no e3) (beq_no e4) c hc (hz1 e5) hd' hgb (by rw [hT, hgb]; rfl)
        | false => exact refParts_n_one_none s a b i w hs ha h hi' hea heb hv k hk (beq_no e1) (beq_no e2) (beq_no e3) (beq_no e4) c hc (hz1 e5) hd' hgb (by rw [hT, hgb]; rfl)
    · have hT := beginB_only e1 e2 e3 e4 (fun hh => e5 hh.1)
      cases hgb : beginB b.data.toList with
      | true => exact refParts_n_many_begin s a b i w hs ha h hi' hea heb hv k hk (beq_no e1) (beq_no e2) (beq_no e3) (beq_no e4) (hz0 e5) hgb (by rw [hT, hgb]; rfl)
      | false => exact refParts_n_many_none s a b i w hs ha h hi' hea heb hv k hk (beq_no e1) (beq_no e2) (beq_no e3) (beq_no e4) (hz0 e5) hgb (by rw [hT, hgb]; rfl)
  · cases hga : beginB a.data.toList with
    | true => exact refParts_begin s a b i w hs ha h hi' hea heb (by omega) hga
    | false =>
      rcases haa with hk | ⟨k, hk⟩
      · exact refParts_y_no s a b i w hs ha h hi' hea heb kb hv hga hk
      by_cases e1 : b.data.toList = [112]
      · exact refParts_y_p s a b i w hs ha h hi' hea heb kb hv hga k hk (beq_yes e1) (by rw [e1]; rfl)
      by_cases e2 : b.data.toList = [109]
      · exact refParts_y_m s a b i w hs ha h hi' hea heb kb hv hga k hk (beq_no e1) (beq_yes e2) (by rw [e2]; rfl)
      by_cases e3 : b.data.toList = [109, 109]
      · exact refParts_y_mm s a b i w hs ha h hi' hea heb kb hv hga k hk (beq_no e1) (beq_no e2) (beq_yes e3) (by rw [e3]; rfl)
      by_cases e4 : b.data.toList = [97, 109]
      · exact refParts_y_am s a b i w hs ha h hi' hea heb kb hv hga k hk (beq_no e1) (beq_no e2) (beq_no e3) (beq_yes e4) (by rw [e4]; rfl)
      by_cases e5 : b.data.toList.length = 1
      · obtain ⟨c, hc⟩ := one_of e5
        by_cases hd : dgB c = true
        · exact refParts_y_dig s a b i w hs ha h hi' hea heb kb hv hga k hk (beq_no e1) (beq_no e2) (beq_no e3) (beq_no e4) c hc (hz1 e5) hd (by unfold tailK; rw [if_neg e1, if_neg e2, if_neg e3, if_neg e4, if_pos ⟨e5, by rw [hc]; simpa using hd⟩])
        · have hd' : dgB c = false := by simpa using hd
          have hT := beginB_only e1 e2 e3 e4 (fun hh => hd (by have := hh.2; rw [hc] at this; simpa using this))
          cases hgb : beginB b.data.toList with
          | true => exact refParts_y_one_begin s a b i w hs ha h hi' hea heb kb hv hga k hk (beq_no e1) (beq_no e2) (beq_no e3) (beq_no e4) c hc (hz1 e5) hd' hgb (by rw [hT, hgb]; rfl)
          | false => exact refParts_y_one_none s a b i w hs ha h hi' hea heb kb hv hga k hk (beq_no e1) (beq_no e2) (beq_no e3) (beq_no e4) c hc (hz1 e5) hd' hgb (by rw [hT, hgb]; rfl)
      · have hT := beginB_only e1 e2 e3 e4 (fun hh => e5 hh.1)
        cases hgb : beginB b.data.toList with
        | true => exact refParts_y_many_begin s a b i w hs ha h hi' hea heb kb hv hga k hk (beq_no e1) (beq_no e2) (beq_no e3) (beq_no e4) (hz0 e5) hgb (by rw [hT, hgb]; rfl)
        | false => exact refParts_y_many_none s a b i w hs ha h hi' hea heb kb hv hga k hk (beq_no e1) (beq_no e2) (beq_no e3) (beq_no e4) (hz0 e5) hgb (by rw [hT, hgb]; rfl)

set_option maxHeartbeats 2000000 in
theorem refIsCall_any (s : ByteArray) (w : World) (hs : s.size ≤ 1000000000) (ha : Ascii s) :
    Calls Tryd.prog 99 #[.string s] w fun e w' => e = .returned (.bool (partsOf s).isSome) ∧ w.grownBy w' none := by
  go_enter Tryd.func99, Tryd.ntmps99
  go_wp2_with fail
  refine (refParts_any s _ hs ha).mono ?_
  rintro _ w1 ⟨hg, ⟨hn, rfl⟩ | ⟨t, k, kd, ad, hn, rfl⟩⟩
  · have HN := Lib.hid hn
    clear hn
    go_wp2_with fail
    go_ret
    exact ⟨by rw [HN.out]; rfl, gr_alloc hg _⟩
  · have HN := Lib.hid hn
    clear hn
    go_wp2_with fail
    go_ret
    exact ⟨by rw [HN.out]; rfl, gr_alloc hg _⟩
end Go.Proofs.YtffddmgnjecmdaaDoor
