/- The walks over rate.Best and its twin in the reference. Condition: the window's end is no number beyond 2^60; times without error where the name says ok. -/
import Derived.Test.YtjhklpffmfdkbaaGreatDoorRateR
namespace Go.Proofs.YtjhklpffmfdkbaaGreatDoor
open Go.RowKit
set_option linter.unusedVariables false

def bestE (l : List Int) (a zt long : Int) : Int := if timesE l a zt = 0 then longE long else timesE l a zt
theorem ret_3i {a b c d e f : Int} (h : a = b) (h' : c = d) (h2 : e = f) : Ending.returned (.tuple #[.int .i64 a, .int .i64 c, .int .i64 e]) = .returned (.tuple #[.int .i64 b, .int .i64 d, .int .i64 f]) := by rw [h, h', h2]
theorem ret_2ii {a b c d : Int} (h : a = b) (h' : c = d) : Ending.returned (.tuple #[.int .i64 a, .int .i64 c]) = .returned (.tuple #[.int .i64 b, .int .i64 d]) := by rw [h, h']
theorem bestI_drop (l : List Int) (long : Int) (st : Int × Int) (k : Nat) (h : k < l.length) : (l.drop k).foldl (bestStep l long) st = (l.drop (k + 1)).foldl (bestStep l long) (bestStep l long st l[k]) := by
  rw [List.drop_eq_getElem_cons h]; rfl

set_option maxHeartbeats 1000000 in
theorem best_bad (base : Nat) (v : Value) (l : List Int) (a zt long : Int) (w : World) (hl : IntsFrom base w v l) (hto : -1152921504606846976 ≤ zt) (hto2 : zt ≤ 1152921504606846976) (hE : bestE l a zt long ≠ 0) :
    Calls Tryz.prog 35 #[v, .agg #[.int .i64 a, .int .i64 zt], .int .i64 long] w fun r w' => r = .returned (.tuple #[.int .i64 0, .int .i64 0, .int .i64 (bestE l a zt long)]) ∧ w.grownBy w' none := by
  have hG := World.grownBy_alloc w (.cells #[.int .i64 a, .int .i64 zt] 27) none
  have HL := Lib.hid (hl.alloc (.cells #[.int .i64 a, .int .i64 zt] 27))
  clear hl
  by_cases h0 : timesE l a zt = 0
  · have HB : Hid (bestE l a zt long = 1) := by
      show _ = _
      unfold bestE at hE ⊢
      rw [if_pos h0] at hE ⊢
      rcases longE_cases long with h | h
      · exact absurd h.1 hE
      · exact h.1
    have hb : outB long 60000 86400000 = true := by
      rcases longE_cases long with h | h
      · unfold bestE at hE; rw [if_pos h0] at hE; exact absurd h.1 hE
      · exact h.2
    clear hE
    go_enter Tryz.func35, Tryz.ntmps35
    go_wp2_with fail
    refine (checkTimes_any base _ _ _ _ _ HL.out hto hto2).mono ?_
    rintro _ w1 ⟨rfl, hg1⟩
    go_wp2_with fail
    refine (isLong_any _ _).mono ?_
    rintro _ _ ⟨rfl, rfl⟩
    go_wp2_with fail
    go_ret3
    exact ⟨ret_3i rfl rfl HB.out.symm, gr_trans hG hg1⟩
  · have h1 : (timesE l a zt != 0) = true := by rw [bne_iff_ne]; exact h0
    have HB : Hid (bestE l a zt long = timesE l a zt) := by show _ = _; unfold bestE; rw [if_neg h0]
    clear hE h0
    go_enter Tryz.func35, Tryz.ntmps35
    go_wp2_with fail
    refine (checkTimes_any base _ _ _ _ _ HL.out hto hto2).mono ?_
    rintro _ w1 ⟨rfl, hg1⟩
    go_wp2_with fail
    go_ret3
    exact ⟨ret_3i rfl rfl HB.out.symm, gr_trans hG hg1⟩

set_option maxRecDepth 100000 in
set_option maxHeartbeats 4000000 in
theorem best_ok (base : Nat) (v : Value) (l : List Int) (a zt long : Int) (w : World) (hl : IntsFrom base w v l) (hE : timesE l a zt = 0) (hLo : longE long = 0) :
    Calls Tryz.prog 35 #[v, .agg #[.int .i64 a, .int .i64 zt], .int .i64 long] w fun r w' => r = .returned (.tuple #[.int .i64 (bestI l a long).1, .int .i64 (bestI l a long).2, .int .i64 0]) ∧ w.grownBy w' none := by
  have O := timesE_ok hE
  obtain ⟨hb, r2, r3⟩ : outB long 60000 86400000 = false ∧ 60000 ≤ long ∧ long ≤ 86400000 := by
    rcases longE_cases long with ⟨_, h0, h1, h2⟩ | ⟨h, _⟩
    · exact ⟨h0, h1, h2⟩
    · omega
  have hto := O.to_
  have ha0 := O.a0
  have hato := O.ato
  have hll := O.len
  have hG := World.grownBy_alloc w (.cells #[.int .i64 a, .int .i64 zt] 27) none
  have HL := Lib.hid (hl.alloc (.cells #[.int .i64 a, .int .i64 zt] 27))
  have hx0 := Blk.new w 27 #[.int .i64 a, .int .i64 zt]
  obtain ⟨A, c, rfl, hlen, hA⟩ := hl.shape
  have HA := Lib.hid hA
  have HO := Lib.hid O
  have HE := Lib.hid hE
  have HLo := Lib.hid hLo
  have m1 : IntKind.i64.wrap (a + long) = a + long := IntWalk.i64_in _ ⟨by omega, by omega⟩
  clear hl hA O hLo
  go_enter Tryz.func35, Tryz.ntmps35
  go_wp2_with fail
  refine (checkTimes_any base _ _ _ _ _ HL.out (by omega) (by omega)).mono ?_
  rintro _ w1 ⟨rfl, hg1⟩
  have hx1 := hx0.grown hg1 (by simp)
  have c0 : w1.cell? ⟨w.heap.size, 0, none⟩ = some (.int .i64 a) := hx1.cell 0
  have hG1 := gr_trans hG hg1
  have HL1 := Lib.hid (HL.out.grown hg1)
  go_wp2_with fail
  refine (isLong_any _ _).mono ?_
  rintro _ _ ⟨rfl, rfl⟩
  go_wp2_with fail
  have KX : Hid (∀ W' : World, w1.grownBy W' none → W'.cell? ⟨w.heap.size, 0, none⟩ = some (.int .i64 a) ∧ w1.grownBy W' none) := fun W' hW => ⟨(hx1.grown hW (by simp)).cell 0, hW⟩
  clear hg1 c0
  have c0 : w1.cell? ⟨w.heap.size, 0, none⟩ = some (.int .i64 a) := hx1.cell 0
  go_region_held3 (fun W' => W'.cell? ⟨w.heap.size, 0, none⟩ = some (.int .i64 a) ∧ w1.grownBy W' none)
    ((exact KX.out _ (by first | exact gr_refl _ _ | exact gr_drew (gr_refl _ _) | exact gr_of_drew (by assumption))))
    (first | (go_at_call 64; refine (in_many base _ _ _ _ _ (HL1.out.grown (by first | exact gr_refl _ _ | exact gr_drew (gr_refl _ _))) HO.out.sorted (by have := HO.out.len; omega)).mono ?_; rintro _ w2 ⟨rfl, hgA⟩))
  rename_i hH
  have hg2 := hH.2
  clear hH KX c0
  have hG2 := gr_trans hG1 hg2
  have HL2 := Lib.hid (HL1.out.grown hg2)
  clear hx1 hG1 hg2 hx0 hG
  have hmb := manyI_bd l a (a + long)
  obtain ⟨m0, hm0⟩ : ∃ m, manyI l a (a + long) = m := ⟨_, rfl⟩
  have HB : Hid (bestI l a long = l.foldl (bestStep l long) (a, m0)) := by show _ = _; rw [← hm0]; rfl
  rw [hm0] at hmb ⊢
  clear hm0
  go_wp2_with fail
  go_loopw [10, 11, 37] (fun b n i wr => ∃ (k : Nat) (st : Int × Int), k ≤ l.length ∧ i = .int .i64 k ∧ b = .int .i64 st.1 ∧ n = .int .i64 st.2 ∧ Hid (bestI l a long = (l.drop k).foldl (bestStep l long) st) ∧ w2.grownBy wr none) (fun _ _ i _ => l.length - (intOf i).toNat)
  case atStart => exact ⟨0, (a, m0), by omega, rfl, rfl, rfl, HB, gr_refl _ _⟩
  case round =>
    obtain ⟨k, ⟨p, q⟩, hk, rfl, rfl, rfl, HR, hG⟩ := hrel
    by_cases hlt : k < l.length
    · obtain ⟨g, rfl, _, _⟩ := HA.out (by omega)
      have hkl : (k : Int) < (l.length : Int) := by omega
      have cx := (HL2.out.grown hG).at_ k hlt
      have hs := bestI_drop l long (p, q) k hlt
      have hxm := HO.out.mem l[k] (List.getElem_mem hlt)
      obtain ⟨x, hx⟩ : ∃ x, x = l[k] := ⟨_, rfl⟩
      rw [← hx] at cx hs hxm
      have HS := Lib.hid (HR.out.trans hs)
      clear hx hs HR
      go_wp2_with fail
      refine (in_many base _ _ _ _ _ (HL2.out.grown hG) HO.out.sorted (by have := HO.out.len; omega)).mono ?_
      rintro _ w3 ⟨rfl, hg3⟩
      have hG3 := gr_trans hG hg3
      by_cases hqm : q < manyI l x (x + long)
      · have HN : Hid (bestI l a long = (l.drop (k + 1)).foldl (bestStep l long) (x, manyI l x (x + long))) := by
          show _ = _; rw [HS.out]; unfold bestStep; rw [if_pos hqm]
        go_wp2_with fail
        go_roundw
        case rel => exact ⟨k + 1, (x, manyI l x (x + long)), by omega, by go_num, rfl, rfl, HN, hG3⟩
        case measure => simp [intOf]; omega
      · have HN : Hid (bestI l a long = (l.drop (k + 1)).foldl (bestStep l long) (p, q)) := by
          show _ = _; rw [HS.out]; unfold bestStep; rw [if_neg hqm]
        go_wp2_with fail
        go_roundw
        case rel => exact ⟨k + 1, (p, q), by omega, by go_num, rfl, rfl, HN, hG3⟩
        case measure => simp [intOf]; omega
    · have hkl : ¬ (k : Int) < (l.length : Int) := by omega
      have HN : Hid (bestI l a long = (p, q)) := by show _ = _; rw [HR.out, List.drop_of_length_le (by omega)]; rfl
      go_wp2_with fail
      go_ret3
      exact ⟨ret_3i (by rw [HN.out]) (by rw [HN.out]) rfl, gr_trans hG2 hG⟩
end Go.Proofs.YtjhklpffmfdkbaaGreatDoor
