/- The walk over key.Hear: the text with the unit that fits best, or the error. Condition: asciiSpace is Go's own table. -/
import Derived.Test.YtcimnlcmpfagnaaDoorRead
import Derived.Test.YtcimnlcmpfagnaaDoorMarks
namespace Go.Proofs.YtcimnlcmpfagnaaDoor
open Go.RowKit
set_option linter.unusedVariables false
set_option linter.unusedSimpArgs false

theorem blk_cells3 {w : World} {g : Nat} {t : TypeId} {a b c : Value} (h : Blk w g t #[a, b, c]) : w.cell? ⟨g, 0, none⟩ = some a ∧ w.cell? ⟨g, 1, none⟩ = some b ∧ w.cell? ⟨g, 2, none⟩ = some c := ⟨h.cell 0, h.cell 1, h.cell 2⟩
theorem blk_put3 {w : World} {g : Nat} {t : TypeId} {a b c : Value} (h : Blk w g t #[a, b, c]) (x y z : Value) : Blk (((w.setCell ⟨g, 0, none⟩ x).setCell ⟨g, 1, none⟩ y).setCell ⟨g, 2, none⟩ z) g t #[x, y, z] := ((h.put 0 x).put 1 y).put 2 z
theorem blk_ends3 {w : World} {g : Nat} {t : TypeId} {a b c : Value} (h : Blk w g t #[a, b, c]) (x y z : Value) : (w.setCell ⟨g, 0, none⟩ x).cell? ⟨g, 0, none⟩ = some x ∧ ((w.setCell ⟨g, 0, none⟩ x).setCell ⟨g, 1, none⟩ y).cell? ⟨g, 1, none⟩ = some y ∧ (((w.setCell ⟨g, 0, none⟩ x).setCell ⟨g, 1, none⟩ y).setCell ⟨g, 2, none⟩ z).cell? ⟨g, 2, none⟩ = some z := ⟨(h.put 0 x).cell 0, ((h.put 0 x).put 1 y).cell 1, (((h.put 0 x).put 1 y).put 2 z).cell 2⟩
theorem gr_puts3 {a w : World} {g : Nat} (h : a.grownBy w none) (hg : a.heap.size ≤ g) (x y z : Value) : a.grownBy (((w.setCell ⟨g, 0, none⟩ x).setCell ⟨g, 1, none⟩ y).setCell ⟨g, 2, none⟩ z) none := gr_put (gr_put (gr_put h (.inr hg) x) (.inr hg) y) (.inr hg) z

def hearU (l : List Int) : Int := (hearTo l 2000).1
def hearS (l : List Int) : List UInt8 := readL l (hearU l)
/-- Is something heard? -/
def hearB (l : List Int) : Bool := decide (marksE l = 0) && decide ((hearS l).length ≤ 500)
def HearPost (l : List Int) (w : World) (e : Ending) (w' : World) : Prop :=
  w.grownBy w' none ∧ ((hearB l = true ∧ e = .returned (.tuple #[.agg #[.string ⟨(hearS l).toArray⟩, .int .i64 (hearU l), .int .i64 (hearTo l 2000).2], .bool true, .int .i64 0])) ∨
    (hearB l = false ∧ e = .returned (.tuple #[.agg #[.string ⟨#[]⟩, .int .i64 0, .int .i64 0], .bool false, .int .i64 (marksE l)])))
theorem hearTo_bd {l : List Int} (hl : ∀ x ∈ l, 0 ≤ x ∧ x ≤ 1000000) (hn : l.length ≤ 20000) (k : Nat) (hk : k ≤ 2000) : 0 ≤ (hearTo l k).1 ∧ (hearTo l k).1 ≤ (k : Int) ∧ 0 ≤ (hearTo l k).2 ∧ (hearTo l k).2 ≤ 20000000000 := by
  rcases Nat.eq_zero_or_pos k with h0 | h0
  · subst h0; simp [hearTo]
  · obtain ⟨h1, h2, h3, _⟩ := hearTo_ok l k h0
    have := offTo_bd hl (u := (hearTo l k).1) (by omega) (by omega) l.length
    unfold offL at h3
    omega

set_option maxRecDepth 100000 in
set_option maxHeartbeats 4000000 in
theorem hear_any (base b : Nat) (v : Value) (l : List Int) (w : World) (hl : IntsFrom base w v l) (hgl : Gl b w) :
    Calls Tryd.prog 13 #[v] w (HearPost l w) := by
  have hB0 := Blk.new w 35 #[.string ⟨#[]⟩, .int .i64 0, .int .i64 0]
  have hG0 := World.grownBy_alloc w (.cells #[.string ⟨#[]⟩, .int .i64 0, .int .i64 0] 35) none
  have HC := Lib.hid (checkMarks_any base v l _ (hl.grown hG0))
  by_cases h0 : marksE l = 0
  · obtain ⟨m1, m2, m3⟩ := marksE_ok h0
    have m4 : ∀ x ∈ l, 0 ≤ x ∧ x ≤ 1000000 := fun x hx => by have := m3 x hx; omega
    have HL := Lib.hid (hl.grown hG0)
    have HGL := Lib.hid (hgl.quiet hG0)
    have HO := Lib.hid (fun W u (h : IntsFrom base W v l) => offOf_any base v l u W h m2 m4)
    have HR := Lib.hid (fun W u (h : IntsFrom base W v l) (a : 0 ≤ u) (c : u ≤ 100000) (hg : Gl b W) => read_ok base b v l u W h m1 m2 m4 a c hg)
    have HB := Lib.hid (fun k hk => hearTo_bd m4 m2 k hk)
    have HRL := Lib.hid (fun u => readL_len l u)
    have HM : Hid (hearB l = decide ((hearS l).length ≤ 500)) := by show _ = _; unfold hearB; rw [h0]; rfl
    have HOB := Lib.hid (fun u (a : 0 ≤ u) (c : u ≤ 100000) => offTo_bd m4 (u := u) a c l.length)
    have HE := Lib.hid h0
    rw [h0] at HC
    clear hl hgl h0 m1 m3 m4
    go_enter Tryd.func13, Tryd.ntmps13
    go_wp2_with fail
    refine HC.out.mono ?_
    rintro _ _ ⟨rfl, rfl⟩
    go_wp2_with fail
    go_loop [6, 7, 8] (fun s o i => ∃ k : Nat, k ≤ 2000 ∧ i = .int .i64 ((k : Int) + 1) ∧ s = .int .i64 (hearTo l k).1 ∧ o = .int .i64 (hearTo l k).2) (fun _ _ i => 2001 - (intOf i).toNat)
    case atStart => exact ⟨0, by omega, rfl, rfl, rfl⟩
    case round =>
      obtain ⟨k, hk, rfl, rfl, rfl⟩ := hrel
      obtain ⟨b1, b2, b3, b4⟩ := HB.out k hk
      have HN : Hid (hearTo l (k + 1) = if (hearTo l k).1 = 0 ∨ offL l ((k : Int) + 1) ≤ (hearTo l k).2 then ((k : Int) + 1, offL l ((k : Int) + 1)) else hearTo l k) := rfl
      obtain ⟨S, hS⟩ : ∃ S, (hearTo l k).1 = S := ⟨_, rfl⟩
      obtain ⟨O, hO⟩ : ∃ O, (hearTo l k).2 = O := ⟨_, rfl⟩
      have hSO : hearTo l k = (S, O) := by rw [← hS, ← hO]
      rw [hS] at b1 b2
      rw [hO] at b3 b4
      by_cases hlt : k < 2000
      · have hk1 : (k : Int) + 1 ≤ 2000 := by omega
        obtain ⟨c1, c2⟩ := HOB.out ((k : Int) + 1) (by omega) (by omega)
        have HO1 := Lib.hid (fun W h => HO.out W ((k : Int) + 1) h (by omega) (by omega))
        have c1' : 0 ≤ offL l ((k : Int) + 1) := c1
        have c2' : offL l ((k : Int) + 1) ≤ 20000000000 := by have : offL l ((k : Int) + 1) ≤ 1000000 * (l.length : Int) := c2; omega
        have hp1 : 0 < (k : Int) + 1 := by omega
        have hw1 : IntKind.i64.wrap ((k : Int) + 1 + 1) = (k : Int) + 1 + 1 := IntWalk.i64_in _ ⟨by omega, by omega⟩
        rw [hSO] at HN ⊢
        simp only at HN ⊢
        clear c1 c2 hS hO hSO
        generalize offL l ((k : Int) + 1) = D at *
        by_cases hd : S = 0
        · subst hd
          have HN2 : Hid (hearTo l (k + 1) = ((k : Int) + 1, D)) := by show _ = _; rw [HN.out, if_pos (.inl rfl)]
          go_wp2_with fail
          refine (HO1.out _ HL.out).mono ?_
          rintro _ _ ⟨rfl, rfl⟩
          go_wp2_with fail
          go_round
          case rel => exact ⟨k + 1, by omega, by push_cast; rfl, by rw [HN2.out], by rw [HN2.out]⟩
          case measure => simp [intOf]; omega
        · by_cases hle : D ≤ O
          · have HN2 : Hid (hearTo l (k + 1) = ((k : Int) + 1, D)) := by show _ = _; rw [HN.out, if_pos (.inr hle)]
            have hd2 : (S == 0) = false := by rw [beq_eq_false_iff_ne]; exact hd
            go_wp2_with fail
            refine (HO1.out _ HL.out).mono ?_
            rintro _ _ ⟨rfl, rfl⟩
            go_wp2_with fail
            go_round
            case rel => exact ⟨k + 1, by omega, by push_cast; rfl, by rw [HN2.out], by rw [HN2.out]⟩
            case measure => simp [intOf]; omega
          · have HN2 : Hid (hearTo l (k + 1) = (S, O)) := by show _ = _; rw [HN.out, if_neg (by omega)]
            have hle3 : decide (D ≤ O) = false := decide_eq_false hle
            have hle4 : O < D := by omega
            have hd2 : (S == 0) = false := by rw [beq_eq_false_iff_ne]; exact hd
            go_wp2_with fail
            refine (HO1.out _ HL.out).mono ?_
            rintro _ _ ⟨rfl, rfl⟩
            go_wp2_with fail
            go_round
            case rel => exact ⟨k + 1, by omega, by push_cast; rfl, by rw [HN2.out], by rw [HN2.out]⟩
            case measure => simp [intOf]; omega
      · have hk1 : ¬ (k : Int) + 1 ≤ 2000 := by omega
        obtain rfl : k = 2000 := by omega
        obtain ⟨s, hs, hsz⟩ : ∃ s : ByteArray, s = ⟨(hearS l).toArray⟩ ∧ s.size = (hearS l).length := ⟨_, rfl, by show Array.size _ = _; simp⟩
        have HR1 : Hid (∀ W, IntsFrom base W v l → Gl b W → Calls Tryd.prog 57 #[v, .int .i64 S] W fun e w' => e = .returned (.string s) ∧ W.grownBy w' none) := fun W h hg => by
          have := HR.out W S h (by omega) (by omega) hg
          rw [hs]; unfold hearS hearU; rw [hS]; exact this
        have HV : Hid (s = ⟨(hearS l).toArray⟩ ∧ hearU l = S ∧ (hearTo l 2000).2 = O) := ⟨hs, hS, hO⟩
        have HE2 := HE
        rw [hS, hO]
        clear hS hO hSO hs HN
        have hin := hB0
        by_cases hle : s.size ≤ 500
        · have HM2 : Hid (hearB l = true) := by show _ = _; rw [HM.out, decide_eq_true_eq]; omega
          have hle2 : ¬ (500 < (s.size : Int)) := by omega
          clear hsz hle
          go_wp2_with fail
          refine (HR1.out _ HL.out HGL.out).mono ?_
          rintro _ w2 ⟨rfl, hg2⟩
          have hB2 := hB0.grown hg2 (by simp)
          have hG2 := gr_trans hG0 hg2
          obtain ⟨c0, c1, c2⟩ := blk_cells3 hB2
          have hf := hB2.free
          have hlt2 := hB2.lt
          clear hB0 hG0 hin hg2
          go_wp2_with fail
          obtain ⟨d0, d1, d2⟩ := blk_ends3 hB2 (.string s) (.int .i64 S) (.int .i64 O)
          refine bodyPost_ret (v := .tuple #[.agg #[.string s, .int .i64 S, .int .i64 O], .bool true, .int .i64 0]) (by simp [results, Tryd.results13, go_sem, d0, d1, d2]) rfl ?_
          exact ⟨gr_puts3 hG2 (Nat.le_refl _) _ _ _, .inl ⟨HM2.out, by rw [HV.out.1, HV.out.2.1, HV.out.2.2]⟩⟩
        · have HM2 : Hid (hearB l = false) := by show _ = _; rw [HM.out, decide_eq_false_iff_not]; omega
          have hle2 : (500 < (s.size : Int)) := by omega
          clear hsz hle
          go_wp2_with fail
          refine (HR1.out _ HL.out HGL.out).mono ?_
          rintro _ w2 ⟨rfl, hg2⟩
          have hB2 := hB0.grown hg2 (by simp)
          have hG2 := gr_trans hG0 hg2
          obtain ⟨c0, c1, c2⟩ := blk_cells3 hB2
          have hf := hB2.free
          have hlt2 := hB2.lt
          clear hB0 hG0 hin hg2
          go_wp2_with fail
          obtain ⟨d0, d1, d2⟩ := blk_ends3 hB2 (.string ⟨#[]⟩) (.int .i64 0) (.int .i64 0)
          refine bodyPost_ret (v := .tuple #[.agg #[.string ⟨#[]⟩, .int .i64 0, .int .i64 0], .bool false, .int .i64 0]) (by simp [results, Tryd.results13, go_sem, d0, d1, d2]) rfl ?_
          exact ⟨gr_puts3 hG2 (Nat.le_refl _) _ _ _, .inr ⟨HM2.out, by rw [HE2.out]⟩⟩
  · have hb : (marksE l != 0) = true := by rw [bne_iff_ne]; exact h0
    have HM2 : Hid (hearB l = false) := by show _ = _; unfold hearB; rw [decide_eq_false h0]; rfl
    obtain ⟨E, hE⟩ : ∃ E, marksE l = E := ⟨_, rfl⟩
    have HE := Lib.hid hE
    rw [hE] at HC hb
    clear hl hgl h0 hE
    go_enter Tryd.func13, Tryd.ntmps13
    go_wp2_with fail
    refine HC.out.mono ?_
    rintro _ _ ⟨rfl, rfl⟩
    obtain ⟨c0, c1, c2⟩ := blk_cells3 hB0
    have hf := hB0.free
    have hlt2 := hB0.lt
    go_wp2_with fail
    obtain ⟨d0, d1, d2⟩ := blk_cells3 hB0
    refine bodyPost_ret (v := .tuple #[.agg #[.string ⟨#[]⟩, .int .i64 0, .int .i64 0], .bool false, .int .i64 E]) (by simp [results, Tryd.results13, go_sem, d0, d1, d2]) rfl ?_
    exact ⟨hG0, .inr ⟨HM2.out, by rw [HE.out]⟩⟩
end Go.Proofs.YtcimnlcmpfagnaaDoor
