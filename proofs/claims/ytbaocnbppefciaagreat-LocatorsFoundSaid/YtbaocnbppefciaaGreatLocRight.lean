/- The walks over the reference's LocatorRight, LocatorFault, LocatorsFault. Condition: strings of ASCII of at most 10^9 bytes. -/
import Derived.Test.YtbaocnbppefciaaGreatIsLoc
import Derived.Test.YtbaocnbppefciaaGreatKeyB
namespace Go.Proofs.YtbaocnbppefciaaGreat
open Go.RowKit
set_option linter.unusedVariables false
set_option linter.unusedSimpArgs false

theorem lit_grown {a w : World} (h : a.grownBy w none) {k : Nat} (hk : a.heap.size ≤ k) (s : ByteArray) (p : Nat) : a.grownBy (w.iterAt k s p) none :=
  gr_grown h ⟨rfl, rfl, rfl, by rw [Lib.iterAt_size]; exact Nat.le_refl _, fun i hi hne => Lib.iterAt_other w k i s p (fun e => hne (by rw [e]))⟩ (fun g e => by injection e with e; exact .inr (by omega))

set_option maxRecDepth 100000 in
set_option maxHeartbeats 8000000 in
theorem locatorRight_any (s : ByteArray) (w : World) (hs : s.size ≤ 1000000000) (ha : Ascii s) :
    Calls Tryz.prog 36 #[.string s] w fun r w' => r = .returned (.bool (locB s)) ∧ w.grownBy w' none := by
  have HA := Lib.hid ha
  clear ha
  have hway : (((s.size : Int) != 2) = true ∧ ((s.size : Int) != 4) = true ∧ ((s.size : Int) != 6) = true) ∨ ((s.size = 2 ∨ s.size = 4 ∨ s.size = 6) ∧ (((s.size : Int) != 2) = false ∨ (((s.size : Int) != 2) = true ∧ ((s.size : Int) != 4) = false) ∨ (((s.size : Int) != 2) = true ∧ ((s.size : Int) != 4) = true ∧ ((s.size : Int) != 6) = false))) := by
    by_cases h2 : s.size = 2
    · exact .inr ⟨.inl h2, .inl (by rw [h2]; rfl)⟩
    · have n2 : ((s.size : Int) != 2) = true := by simp; omega
      by_cases h4 : s.size = 4
      · exact .inr ⟨.inr (.inl h4), .inr (.inl ⟨n2, by rw [h4]; rfl⟩)⟩
      · have n4 : ((s.size : Int) != 4) = true := by simp; omega
        by_cases h6 : s.size = 6
        · exact .inr ⟨.inr (.inr h6), .inr (.inr ⟨n2, n4, by rw [h6]; rfl⟩)⟩
        · exact .inl ⟨n2, n4, by simp; omega⟩
  rcases hway with ⟨n2, n4, n6⟩ | ⟨hz, hway⟩
  · have HLB := Lib.hid (loc_long n2 n4 n6)
    go_enter Tryz.func36, Tryz.ntmps36
    go_wp2_with fail
    go_ret
    exact ⟨by rw [HLB.out]; rfl, gr_refl _ _⟩
  have HLB := Lib.hid (loc_of hz)
  have hb6 : s.size ≤ 6 := by omega
  have hit0 := World.iter_heap w s 0
  have hgi : w.grownBy (w.iter s 0) none := World.grownBy_alloc w _ none
  clear hz
  rcases hway with w1 | ⟨w1, w2⟩ | ⟨w1, w2, w3⟩
  all_goals
    go_enter Tryz.func36, Tryz.ntmps36
    go_wp2_with fail
    generalize w.iter s 0 = W3 at *
    go_loopw [3] (fun _ wr => ∃ p : Nat, p ≤ s.size ∧ wr.heap[w.heap.size]? = some (.stringIter s p) ∧ Hid (signsTo s.data.toList p = true) ∧ w.grownBy wr none) (fun _ wr => s.size - wr.iterPos w.heap.size)
    case atStart => exact ⟨0, by omega, hit0, rfl, hgi⟩
    case round =>
      obtain ⟨p, hp, hit, HK, hgr⟩ := hrel
      by_cases hlt : p < s.size
      · have hmu : wr.iterPos w.heap.size = p := by simp [World.iterPos, hit]
        have HMU := Lib.hid hmu
        have h128 : (s[p]'hlt).toNat < 128 := by have := HA.out.at_ p hlt; omega
        have hnext : ∀ ty, (Instr.next (.pointer (some ⟨w.heap.size, 0, none⟩)) true ty).run Tryz.prog wr = _ := fun ty => Lib.run_next_ascii_at wr w.heap.size s p ty hit hlt h128
        have hit1 := Lib.iterAt_heap wr w.heap.size s p (p + 1) hit
        have hG1 := lit_grown hgr (Nat.le_refl _) s (p + 1)
        generalize wr.iterAt w.heap.size s (p + 1) = W1 at *
        have hgd : s.data.toList.getD p 0 = s[p] := by
          have hl : p < s.data.toList.length := by simpa using hlt
          simp only [List.getD, List.getElem?_eq_getElem hl]
          rfl
        have hsb : signB s.data.toList p = (decide (lvFirst (p / 2) ≤ ((s[p].toNat : Nat) : Int)) && decide (((s[p].toNat : Nat) : Int) < lvFirst (p / 2) + lvMany (p / 2))) := by unfold signB; rw [hgd]
        clear hmu hit hgr hgd h128
        rcases (by omega : (p = 0 ∨ p = 1) ∨ (p = 2 ∨ p = 3) ∨ (p = 4 ∨ p = 5)) with hpj | hpj | hpj
        · have hp6 : p < (⟨#[114, 114, 57, 57, 120, 120]⟩ : ByteArray).size := by show p < 6; omega
          have hL : ((⟨#[114, 114, 57, 57, 120, 120]⟩ : ByteArray)[p]'hp6).toNat = 114 := by rcases hpj with rfl | rfl <;> rfl
          have hS2 : signsTo s.data.toList (p + 1) = (decide ((97 : Int) ≤ ((s[p].toNat : Nat) : Int)) && decide (((s[p].toNat : Nat) : Int) < 115)) := by
            unfold signsTo
            rw [HK.out, hsb]
            rcases hpj with rfl | rfl <;> rfl
          clear hpj
          by_cases h1 : ((s[p].toNat : Nat) : Int) < 97
          · have h1n : s[p].toNat < 97 := by omega
            have HN : Hid (locB s = false) := by
              show _ = _
              rw [HLB.out]
              exact signsTo_no _ (p + 1) (by rw [hS2, decide_eq_false (by omega)]; rfl) _ hlt
            clear hS2
            go_wp2_with fail
            go_ret
            exact ⟨by rw [HN.out]; rfl, hG1⟩
          · have h1n : ¬ s[p].toNat < 97 := by omega
            by_cases h2 : 114 < s[p].toNat
            · have h2n : (114 : Int) < ((s[p].toNat : Nat) : Int) := by omega
              have HN : Hid (locB s = false) := by
                show _ = _
                rw [HLB.out]
                exact signsTo_no _ (p + 1) (by rw [hS2, decide_eq_false (p := ((s[p].toNat : Nat) : Int) < 115) (by omega), Bool.and_false]) _ hlt
              clear hS2
              go_wp2_with fail
              go_ret
              exact ⟨by rw [HN.out]; rfl, hG1⟩
            · have h2n : ¬ (114 : Int) < ((s[p].toNat : Nat) : Int) := by omega
              have HS3 : Hid (signsTo s.data.toList (p + 1) = true) := by
                show _ = _
                rw [hS2, decide_eq_true (by omega), decide_eq_true (by omega)]
                rfl
              clear hS2
              go_wp2_with fail
              go_roundw
              case rel => exact ⟨p + 1, by omega, hit1, HS3, hG1⟩
              case measure =>
                have h3 : W1.iterPos w.heap.size = p + 1 := by simp [World.iterPos, hit1]
                rw [HMU.out, h3]; omega
        · have hp6 : p < (⟨#[114, 114, 57, 57, 120, 120]⟩ : ByteArray).size := by show p < 6; omega
          have hL : ((⟨#[114, 114, 57, 57, 120, 120]⟩ : ByteArray)[p]'hp6).toNat = 57 := by rcases hpj with rfl | rfl <;> rfl
          have hS2 : signsTo s.data.toList (p + 1) = (decide ((48 : Int) ≤ ((s[p].toNat : Nat) : Int)) && decide (((s[p].toNat : Nat) : Int) < 58)) := by
            unfold signsTo
            rw [HK.out, hsb]
            rcases hpj with rfl | rfl <;> rfl
          clear hpj
          by_cases h1 : ((s[p].toNat : Nat) : Int) < 48
          · have h1n : s[p].toNat < 48 := by omega
            have HN : Hid (locB s = false) := by
              show _ = _
              rw [HLB.out]
              exact signsTo_no _ (p + 1) (by rw [hS2, decide_eq_false (by omega)]; rfl) _ hlt
            clear hS2
            go_wp2_with fail
            go_ret
            exact ⟨by rw [HN.out]; rfl, hG1⟩
          · have h1n : ¬ s[p].toNat < 48 := by omega
            by_cases h2 : 57 < s[p].toNat
            · have h2n : (57 : Int) < ((s[p].toNat : Nat) : Int) := by omega
              have HN : Hid (locB s = false) := by
                show _ = _
                rw [HLB.out]
                exact signsTo_no _ (p + 1) (by rw [hS2, decide_eq_false (p := ((s[p].toNat : Nat) : Int) < 58) (by omega), Bool.and_false]) _ hlt
              clear hS2
              go_wp2_with fail
              go_ret
              exact ⟨by rw [HN.out]; rfl, hG1⟩
            · have h2n : ¬ (57 : Int) < ((s[p].toNat : Nat) : Int) := by omega
              have HS3 : Hid (signsTo s.data.toList (p + 1) = true) := by
                show _ = _
                rw [hS2, decide_eq_true (by omega), decide_eq_true (by omega)]
                rfl
              clear hS2
              go_wp2_with fail
              go_roundw
              case rel => exact ⟨p + 1, by omega, hit1, HS3, hG1⟩
              case measure =>
                have h3 : W1.iterPos w.heap.size = p + 1 := by simp [World.iterPos, hit1]
                rw [HMU.out, h3]; omega
        · have hp6 : p < (⟨#[114, 114, 57, 57, 120, 120]⟩ : ByteArray).size := by show p < 6; omega
          have hL : ((⟨#[114, 114, 57, 57, 120, 120]⟩ : ByteArray)[p]'hp6).toNat = 120 := by rcases hpj with rfl | rfl <;> rfl
          have hS2 : signsTo s.data.toList (p + 1) = (decide ((97 : Int) ≤ ((s[p].toNat : Nat) : Int)) && decide (((s[p].toNat : Nat) : Int) < 121)) := by
            unfold signsTo
            rw [HK.out, hsb]
            rcases hpj with rfl | rfl <;> rfl
          clear hpj
          by_cases h1 : ((s[p].toNat : Nat) : Int) < 97
          · have h1n : s[p].toNat < 97 := by omega
            have HN : Hid (locB s = false) := by
              show _ = _
              rw [HLB.out]
              exact signsTo_no _ (p + 1) (by rw [hS2, decide_eq_false (by omega)]; rfl) _ hlt
            clear hS2
            go_wp2_with fail
            go_ret
            exact ⟨by rw [HN.out]; rfl, hG1⟩
          · have h1n : ¬ s[p].toNat < 97 := by omega
            by_cases h2 : 120 < s[p].toNat
            · have h2n : (120 : Int) < ((s[p].toNat : Nat) : Int) := by omega
              have HN : Hid (locB s = false) := by
                show _ = _
                rw [HLB.out]
                exact signsTo_no _ (p + 1) (by rw [hS2, decide_eq_false (p := ((s[p].toNat : Nat) : Int) < 121) (by omega), Bool.and_false]) _ hlt
              clear hS2
              go_wp2_with fail
              go_ret
              exact ⟨by rw [HN.out]; rfl, hG1⟩
            · have h2n : ¬ (120 : Int) < ((s[p].toNat : Nat) : Int) := by omega
              have HS3 : Hid (signsTo s.data.toList (p + 1) = true) := by
                show _ = _
                rw [hS2, decide_eq_true (by omega), decide_eq_true (by omega)]
                rfl
              clear hS2
              go_wp2_with fail
              go_roundw
              case rel => exact ⟨p + 1, by omega, hit1, HS3, hG1⟩
              case measure =>
                have h3 : W1.iterPos w.heap.size = p + 1 := by simp [World.iterPos, hit1]
                rw [HMU.out, h3]; omega
      · have hnext : ∀ ty, (Instr.next (.pointer (some ⟨w.heap.size, 0, none⟩)) true ty).run Tryz.prog wr = _ := fun ty => Lib.run_next_end_at wr w.heap.size s p ty hit hlt
        have hpe : p = s.size := by omega
        have HN : Hid (locB s = true) := by show _ = _; rw [HLB.out, ← hpe, HK.out]
        clear hpe
        go_wp2_with fail
        go_ret
        exact ⟨by rw [HN.out]; rfl, hgr⟩

/-- ErrForm of a locator. -/
def locE (s : ByteArray) : Int := if locB s then 0 else 3
theorem locatorFault_any (s : ByteArray) (w : World) (hs : s.size ≤ 1000000000) (ha : Ascii s) :
    Calls Tryz.prog 10 #[.string s] w fun r w' => r = .returned (.int .i64 (locE s)) ∧ w.grownBy w' none := by
  have HR := Lib.hid (fun W => locatorRight_any s W hs ha)
  unfold locE
  cases hb : locB s with
  | true =>
    rw [hb] at HR
    go_enter Tryz.func10, Tryz.ntmps10
    go_wp2_with fail
    refine (HR.out _).mono ?_
    rintro _ w1 ⟨rfl, hg⟩
    go_wp2_with fail
    go_ret
    exact ⟨rfl, hg⟩
  | false =>
    rw [hb] at HR
    go_enter Tryz.func10, Tryz.ntmps10
    go_wp2_with fail
    refine (HR.out _).mono ?_
    rintro _ w1 ⟨rfl, hg⟩
    go_wp2_with fail
    go_ret
    exact ⟨rfl, hg⟩
end Go.Proofs.YtbaocnbppefciaaGreat
