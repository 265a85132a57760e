/- slices.DeleteFunc at windows that the call owns, with the closure of OffOf: those that are long enough stay, in their order. Condition: at most 3000 windows, numbers up to 10^15. -/
import Derived.Test.YtlbhphfmckhimaaRestsWorked
import Derived.Lib.SliceRun
namespace Go.Proofs.Ytlbhphfmckhimaa
open Go.RowKit
set_option linter.unusedVariables false

def shortB (least : Int) (p : Int × Int) : Bool := decide (p.2 - p.1 < least)
set_option maxHeartbeats 400000 in
theorem short_any (x y least : Int) (B : Nat) (w : World) (hB : Blk w B 3 #[.int .i64 least]) (h0 : -1000000000000000 ≤ x) (h1 : x ≤ 1000000000000000) (h2 : -1000000000000000 ≤ y) (h3 : y ≤ 1000000000000000) :
    Calls Try.prog 40 #[.agg #[.int .i64 x, .int .i64 y], .pointer (some ⟨B, 0, none⟩)] w fun r w' => r = .returned (.bool (shortB least (x, y))) ∧ w.grownBy w' none := by
  have c0 := hB.cell 0
  have hl := hB.lt
  simp only [List.getElem?_toArray, List.getElem?_cons_zero] at c0
  go_enter Try.func40, Try.ntmps40
  go_wp2_with fail
  go_ret
  exact ⟨rfl, gr_alloc (gr_refl _ _) _⟩

def IdxWPost (l : List (Int × Int)) (least : Int) (w : World) (e : Ending) (w' : World) : Prop :=
  ∃ i : Int, e = .returned (.int .i64 i) ∧ (i = -1 ∧ (∀ p ∈ l, shortB least p = false) ∨ ∃ k : Nat, i = k ∧ ∃ h : k < l.length, shortB least l[k] = true ∧ ∀ p ∈ l.take k, shortB least p = false) ∧ w.grownBy w' none
set_option maxHeartbeats 1000000 in
theorem indexW_any (base B : Nat) (u : Value) (l : List (Int × Int)) (least : Int) (w : World) (hu : WinsFrom base w u l) (hB : Blk w B 3 #[.int .i64 least]) (hb : ∀ p ∈ l, -1000000000000000 ≤ p.1 ∧ p.1 ≤ 1000000000000000 ∧ -1000000000000000 ≤ p.2 ∧ p.2 ≤ 1000000000000000) :
    Calls Try.prog 58 #[u, .func (.func 40) #[] #[.pointer (some ⟨B, 0, none⟩)]] w (IdxWPost l least w) := by
  obtain ⟨A, ca, rfl, hla, hA⟩ := hu.shape
  have HU := Lib.hid hu
  have HB := Lib.hid hb
  clear hu hb
  go_enter Try.func58, Try.ntmps58
  go_wp2_with fail
  go_loopw [8] (fun i wr => ∃ k : Nat, k ≤ l.length ∧ i = .int .i64 k ∧ Hid (∀ p ∈ l.take k, shortB least p = false) ∧ w.grownBy wr none) (fun i _ => l.length - (intOf i).toNat)
  case atStart => exact ⟨0, by omega, rfl, (fun p hp => by simp at hp), gr_refl _ _⟩
  case round =>
    obtain ⟨k, hk, rfl, HK, hgr⟩ := hrel
    by_cases hlt : k < l.length
    · obtain ⟨g, rfl, _, _⟩ := hA (by omega)
      obtain ⟨c0, c1⟩ := WinsFrom.at1 (HU.out.grown hgr) k hlt
      have hm := HB.out l[k] (List.getElem_mem hlt)
      have hBr := hB.grown hgr (by simp)
      have hkl : (k : Int) < (l.length : Int) := by omega
      have hts := List.take_succ_eq_append_getElem hlt
      obtain ⟨q, hq⟩ : ∃ q, l[k] = q := ⟨_, rfl⟩
      rw [hq] at c0 c1 hm hts
      obtain ⟨x, y⟩ := q
      dsimp only at c0 c1 hm
      have HQ := Lib.hid hq
      have HTS := Lib.hid hts
      obtain ⟨m0, m1, m2, m3⟩ := hm
      clear hq hts
      rcases hd : shortB least (x, y)
      · have HD := Lib.hid hd
        clear hd
        go_wp2_with fail
        refine (short_any x y least B wr hBr m0 m1 m2 m3).mono ?_
        rintro _ w1 ⟨rfl, hg⟩
        rw [HD.out]
        go_wp2_with fail
        go_roundw
        case rel => exact ⟨k + 1, by omega, by go_num, (fun p hp => by rw [HTS.out] at hp; rcases List.mem_append.1 hp with h | h; exact HK.out p h; (simp at h; rw [h]; exact HD.out)), gr_trans hgr hg⟩
        case measure => simp [intOf]; omega
      · have HD := Lib.hid hd
        clear hd
        go_wp2_with fail
        refine (short_any x y least B wr hBr m0 m1 m2 m3).mono ?_
        rintro _ w1 ⟨rfl, hg⟩
        rw [HD.out]
        go_wp2_with fail
        go_ret
        exact ⟨k, rfl, .inr ⟨k, rfl, hlt, by rw [HQ.out]; exact HD.out, HK.out⟩, gr_trans hgr hg⟩
    · have hkl : ¬ (k : Int) < (l.length : Int) := by omega
      have hd : l.take k = l := List.take_of_length_le (by omega)
      have HK2 : Hid (∀ p ∈ l, shortB least p = false) := fun p hp => HK.out p (by rw [hd]; exact hp)
      clear hd
      go_wp2_with fail
      go_ret
      exact ⟨-1, rfl, .inl ⟨rfl, HK2.out⟩, hgr⟩
end Go.Proofs.Ytlbhphfmckhimaa
