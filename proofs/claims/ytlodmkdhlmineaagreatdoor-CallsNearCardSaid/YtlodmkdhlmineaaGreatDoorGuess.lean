/- The walks over call.Guess and the references PatternFault and GuessedOf: the calls that fit a pattern. Condition: at most 1000 strings of ASCII of at most 100 bytes, a pattern of at most 100 bytes. -/
import Derived.Test.YtlodmkdhlmineaaGreatDoorRefFits
import Derived.Test.YtlodmkdhlmineaaGreatDoorCallRef
import Derived.Lib.SliceRun
namespace Go.Proofs.YtlodmkdhlmineaaGreatDoor
open Go.RowKit
set_option linter.unusedVariables false
set_option linter.unusedSimpArgs false

def patS : ByteArray := ⟨#[97, 98, 99, 100, 101, 102, 103, 104, 105, 106, 107, 108, 109, 110, 111, 112, 113, 114, 115, 116, 117, 118, 119, 120, 121, 122, 48, 49, 50, 51, 52, 53, 54, 55, 56, 57, 47, 63, 42]⟩
def patT (p : ByteArray) : ByteArray := ⟨(Lib.trimS p.data.toList patS.data.toList).toArray⟩
def patE (p : ByteArray) : Int := if p.size = 0 ∨ 14 < p.size ∨ (patT p).toList.isEmpty = false then 3 else 0
theorem patTrim (p : ByteArray) (w : World) (hp : p.size ≤ 1000) : Calls Tryz.prog 60 #[.string p, .string ⟨#[97, 98, 99, 100, 101, 102, 103, 104, 105, 106, 107, 108, 109, 110, 111, 112, 113, 114, 115, 116, 117, 118, 119, 120, 121, 122, 48, 49, 50, 51, 52, 53, 54, 55, 56, 57, 47, 63, 42]⟩] w fun e w' => e = .returned (.string (patT p)) ∧ w.grownBy w' none :=
  trim_any p patS w (by omega) (by decide) (by decide +kernel)
/-- The four ways of a pattern. -/
inductive PatWay (p : ByteArray) : Prop
  | nil (h : p.size = 0) (e : patE p = 3)
  | long (h0 : 0 < p.size) (h : 14 < p.size) (e : patE p = 3)
  | bad (h0 : 0 < p.size) (h : p.size ≤ 14) (h2 : (patT p).toList.isEmpty = false) (e : patE p = 3)
  | ok (h0 : 0 < p.size) (h : p.size ≤ 14) (h2 : (patT p).toList.isEmpty = true) (e : patE p = 0)
theorem patWay (p : ByteArray) : PatWay p := by
  rcases Nat.eq_zero_or_pos p.size with h | h
  · exact .nil h (by unfold patE; rw [if_pos (.inl h)])
  · by_cases h2 : 14 < p.size
    · exact .long h h2 (by unfold patE; rw [if_pos (.inr (.inl h2))])
    · cases h3 : (patT p).toList.isEmpty
      · exact .bad h (by omega) h3 (by unfold patE; rw [if_pos (.inr (.inr h3))])
      · exact .ok h (by omega) h3 (by unfold patE; rw [if_neg]; rintro (h4 | h4 | h4); omega; omega; rw [h3] at h4; cases h4)
set_option maxHeartbeats 1000000 in
theorem patFault_any (p : ByteArray) (w : World) (hp : p.size ≤ 100) :
    Calls Tryz.prog 19 #[.string p] w fun e w' => e = .returned (.int .i64 (patE p)) ∧ w.grownBy w' none := by
  have HT := Lib.hid (fun W => patTrim p W (by omega))
  have HI := Lib.hid (fun W => in_any (p.size : Int) 1 14 W)
  cases patWay p with
  | nil h e =>
    have HE := Lib.hid e
    have ho : outB (p.size : Int) 1 14 = true := outB_yes (.inl (by omega))
    rw [ho] at HI
    clear e h ho
    go_enter Tryz.func19, Tryz.ntmps19
    go_wp2_with fail
    refine (HI.out _).mono ?_
    rintro _ _ ⟨rfl, rfl⟩
    go_wp2_with fail
    go_ret
    exact ⟨by rw [HE.out] <;> rfl, gr_refl _ _⟩
  | long h0 h e =>
    have HE := Lib.hid e
    have ho : outB (p.size : Int) 1 14 = true := outB_yes (.inr (by omega))
    rw [ho] at HI
    clear e h ho
    go_enter Tryz.func19, Tryz.ntmps19
    go_wp2_with fail
    refine (HI.out _).mono ?_
    rintro _ _ ⟨rfl, rfl⟩
    go_wp2_with fail
    go_ret
    exact ⟨by rw [HE.out] <;> rfl, gr_refl _ _⟩
  | bad h0 h h2 e =>
    have HE := Lib.hid e
    have ho : outB (p.size : Int) 1 14 = false := outB_no (by omega) (by omega)
    rw [ho] at HI
    clear e h ho
    go_enter Tryz.func19, Tryz.ntmps19
    go_wp2_with fail
    refine (HI.out _).mono ?_
    rintro _ _ ⟨rfl, rfl⟩
    go_wp2_with fail
    refine (HT.out _).mono ?_
    rintro _ w1 ⟨rfl, hg1⟩
    go_wp2_with fail
    go_ret
    exact ⟨by rw [HE.out] <;> rfl, hg1⟩
  | ok h0 h h2 e =>
    have HE := Lib.hid e
    have ho : outB (p.size : Int) 1 14 = false := outB_no (by omega) (by omega)
    rw [ho] at HI
    clear e h ho
    go_enter Tryz.func19, Tryz.ntmps19
    go_wp2_with fail
    refine (HI.out _).mono ?_
    rintro _ _ ⟨rfl, rfl⟩
    go_wp2_with fail
    refine (HT.out _).mono ?_
    rintro _ w1 ⟨rfl, hg1⟩
    go_wp2_with fail
    go_ret
    exact ⟨by rw [HE.out] <;> rfl, hg1⟩

def fitS (p x : ByteArray) : Bool := fitL p.data.toList x.data.toList
theorem filter_take {p : ByteArray} {L : List ByteArray} {k : Nat} (h : k < L.length) : (L.take (k + 1)).filter (fitS p) = (L.take k).filter (fitS p) ++ (if fitS p L[k] = true then [L[k]] else []) := by
  rw [List.take_succ_eq_append_getElem h, List.filter_append]
  congr 1
  by_cases hh : fitS p L[k] = true
  · rw [if_pos hh, List.filter_cons_of_pos hh, List.filter_nil]
  · rw [if_neg hh, List.filter_cons_of_neg hh, List.filter_nil]
def guessE (p : ByteArray) (L : List ByteArray) : Int := if patE p = 0 then callsE L else patE p
def guessL (p : ByteArray) (L : List ByteArray) : List ByteArray := if guessE p L = 0 then L.filter (fitS p) else []
def GuessPost (p : ByteArray) (L : List ByteArray) (w : World) (e : Ending) (w' : World) : Prop := ∃ u, e = .returned (.tuple #[u, .int .i64 (guessE p L)]) ∧ StrsFrom w.heap.size w' u (guessL p L) ∧ w.grownBy w' none
set_option maxRecDepth 100000 in
set_option maxHeartbeats 4000000 in
theorem guess_any (base : Nat) (p : ByteArray) (v : Value) (L : List ByteArray) (w : World) (hl : StrsFrom base w v L) (hn : SmallS L) (hp : p.size ≤ 100) :
    Calls Tryz.prog 14 #[.string p, v] w (GuessPost p L w) := by
  have HT := Lib.hid (fun W => patTrim p W (by omega))
  have HCK := Lib.hid (fun W (h : StrsFrom base W v L) => checkCalls_any base v L W h hn)
  have HPOST : Hid (∀ e w' u, e = .returned (.tuple #[u, .int .i64 (guessE p L)]) → StrsFrom w.heap.size w' u (guessL p L) → w.grownBy w' none → GuessPost p L w e w') := fun e w' u h1 h2 h3 => ⟨u, h1, h2, h3⟩
  have HBAD : Hid (guessE p L ≠ 0 → ∀ W, StrsFrom w.heap.size W (.slice none 0 0) (guessL p L)) := fun h W => by unfold guessL; rw [if_neg h]; exact StrsFrom.nil _ _
  have HFIT := Lib.hid (fun x W (hx : x.size ≤ 100) => fits_any p.size p x W rfl (by omega) hx)
  cases patWay p with
  | nil h e =>
    have hge : guessE p L = 3 := by unfold guessE; rw [if_neg (by rw [e]; decide), e]
    obtain ⟨s1, s2⟩ := emptyB h
    rw [hge] at HPOST HBAD
    have HB := Lib.hid (HBAD.out (by decide))
    clear e h hge s2 HBAD HCK HFIT hl
    go_enter Tryz.func14, Tryz.ntmps14
    go_wp2_with fail
    go_ret2
    exact HPOST.out _ _ _ rfl (HB.out _) (gr_refl _ _)
  | long h0 h e =>
    have hge : guessE p L = 3 := by unfold guessE; rw [if_neg (by rw [e]; decide), e]
    obtain ⟨s1, s2, _⟩ := fullC h0
    rw [hge] at HPOST HBAD
    have HB := Lib.hid (HBAD.out (by decide))
    have hi : (14 : Int) < (p.size : Int) := by omega
    clear e h hge s2 HBAD HCK HFIT hl h0
    go_enter Tryz.func14, Tryz.ntmps14
    go_wp2_with fail
    go_ret2
    exact HPOST.out _ _ _ rfl (HB.out _) (gr_refl _ _)
  | bad h0 h h2 e =>
    have hge : guessE p L = 3 := by unfold guessE; rw [if_neg (by rw [e]; decide), e]
    obtain ⟨s1, s2, _⟩ := fullC h0
    rw [hge] at HPOST HBAD
    have HB := Lib.hid (HBAD.out (by decide))
    have hi : ¬ (14 : Int) < (p.size : Int) := by omega
    clear e h hge s2 HBAD HCK HFIT hl h0
    go_enter Tryz.func14, Tryz.ntmps14
    go_wp2_with fail
    refine (HT.out _).mono ?_
    rintro _ w1 ⟨rfl, hg1⟩
    go_wp2_with fail
    go_ret2
    exact HPOST.out _ _ _ rfl (HB.out _) hg1
  | ok h0 h h2 e =>
    have hge : guessE p L = callsE L := by unfold guessE; rw [if_pos e]
    obtain ⟨s1, s2, _⟩ := fullC h0
    have hi : ¬ (14 : Int) < (p.size : Int) := by omega
    by_cases hce : callsE L = 0
    · rw [hce] at HCK hge
      have hgl : guessL p L = L.filter (fitS p) := by unfold guessL; rw [if_pos hge]
      rw [hge, hgl] at HPOST
      obtain ⟨i0, hi0, hz0, hz1, hz2⟩ := info_parts strInfo
      have HL := Lib.hid hl
      obtain ⟨A, ca, rfl, hla, hA⟩ := hl.shape
      obtain ⟨hn1, hn2⟩ := hn
      have HC := Lib.hid hn2
      obtain ⟨N, hN⟩ : ∃ N, L.length = N := ⟨_, rfl⟩
      have HNN := Lib.hid hN
      have HA : Hid (0 < N → ∃ g, A = some ⟨g, 0, none⟩) := fun h => by
        obtain ⟨g, e, _⟩ := hA (by rw [hN]; exact h)
        exact ⟨g, e⟩
      have HL2 : Hid (∀ W : World, w.grownBy W none → StrsFrom base W (.slice A N ca) L) := fun W hW => by
        have hh := HL.out.grown hW
        rw [hN] at hh
        exact hh
      rw [hN] at hla hn1 HCK ⊢
      clear e h hge s2 HBAD hl h0 hce hgl hA hn2 hN HL
      go_enter Tryz.func14, Tryz.ntmps14
      go_wp2_with fail
      refine (HT.out _).mono ?_
      rintro _ w1 ⟨rfl, hg1⟩
      go_wp2_with fail
      refine (HCK.out _ (HL2.out _ hg1)).mono ?_
      rintro _ w2 ⟨rfl, hg2⟩
      have hG2 := gr_trans hg1 hg2
      clear hg1 hg2 HCK
      go_wp2_with fail
      go_loopw [7, 29] (fun o i wr => ∃ k : Nat, k ≤ N ∧ i = .int .i64 k ∧ Hid (StrsFrom w.heap.size wr o ((L.take k).filter (fitS p))) ∧ w.grownBy wr none) (fun _ i _ => N - (intOf i).toNat)
      case atStart => exact ⟨0, by omega, rfl, StrsFrom.nil _ _, hG2⟩
      case round =>
        obtain ⟨k, hk, rfl, HO, hgr⟩ := hrel
        rename World => wx
        by_cases hlt : k < N
        · have hki : (k : Int) < (N : Int) := by omega
          have hkl : k < L.length := by rw [HNN.out]; exact hlt
          obtain ⟨g, rfl⟩ := HA.out (by omega)
          have cx : wx.cell? ⟨g, k, none⟩ = some (.string L[k]) := by
            have hh := HL2.out wx hgr
            rw [← HNN.out] at hh
            exact hh.at_ k hkl
          have HF := Lib.hid (fun W => HFIT.out L[k] W (HC.out _ (List.getElem_mem hkl)).1)
          have hsn := filter_take (p := p) hkl
          have hlen : ((L.take k).filter (fitS p)).length ≤ 1000 := by
            have h1 := List.length_filter_le (fitS p) (L.take k)
            have h2 : (L.take k).length ≤ k := by rw [List.length_take]; omega
            omega
          generalize L[k] = x at *
          obtain ⟨l1, hl1⟩ : ∃ l1, (L.take k).filter (fitS p) = l1 := ⟨_, rfl⟩
          rw [hl1] at HO hlen hsn
          obtain ⟨A2, c2, rfl, hk9, _⟩ := HO.out.shape
          have HF' : Hid (∀ W, Calls Tryz.prog 61 #[.string p, .string x] W fun e w' => e = .returned (.bool (fitS p x)) ∧ W.grownBy w' none) := HF
          have HSN := Lib.hid hsn
          clear hsn hl1 HF HFIT
          cases hB : fitS p x
          · rw [hB] at HF'
            have HO7 : Hid (∀ W o, StrsFrom w.heap.size W o l1 → StrsFrom w.heap.size W o ((L.take (k + 1)).filter (fitS p))) := fun W o hh => by
              rw [HSN.out, if_neg (by rw [hB]; simp), List.append_nil]; exact hh
            clear hB HSN
            go_wp2_with fail
            refine (HF'.out _).mono ?_
            rintro _ w6 ⟨rfl, hg6⟩
            have hO := HO7.out _ _ (HO.out.grown hg6)
            go_wp2_with fail
            go_roundw
            case rel => exact ⟨k + 1, by omega, by go_num, hO, gr_trans hgr hg6⟩
            case measure => simp [intOf]; omega
          · rw [hB] at HF'
            have HO7 : Hid (∀ W o, StrsFrom w.heap.size W o (l1 ++ [x]) → StrsFrom w.heap.size W o ((L.take (k + 1)).filter (fitS p))) := fun W o hh => by
              rw [HSN.out, if_pos hB]; exact hh
            clear hB HSN
            go_wp2_with fail
            refine (HF'.out _).mono ?_
            rintro _ w6 ⟨rfl, hg6⟩
            have hG6 := gr_trans hgr hg6
            have hsz6 := hG6.size
            have hown : w6.ownsRow w.heap.size 9 1 (.slice A2 l1.length c2) l1.length (l1.map Value.string) := HO.out.grown hg6
            have hrow : ∀ g, (Value.slice A2 l1.length c2).ownBlock = some g → w.heap.size ≤ g := fun g e => (hown.lt g e).1
            have HROW := Lib.hid hrow
            clear hrow
            go_wp2_with (at_builtin; refine wpList_append_own _ rfl _ _ 27 rfl w.heap.size 9 i0 _ 1 16 Tryz.underlying27 hi0 hz0 hz1 hz2 rfl (by decide) _ _ _ rfl (hown.alloc _) ⟨w6.heap.size, 0, none⟩ 1 1 [.string x] rfl rfl (cells_new _ _ _) (str_one _) (by unfold maxLen; omega) (by omega) (by simp; omega) ?_; intro v' w7 hownB hgrB _)
            have hG7 : w.grownBy w7 none := gr_grown (gr_alloc hG6 _) hgrB (fun g e => .inr (HROW.out g e))
            have hO := HO7.out w7 v' (by unfold StrsFrom; rw [List.map_append, List.length_append]; exact hownB)
            clear hown hgrB hownB
            go_wp2_with fail
            go_roundw
            case rel => exact ⟨k + 1, by omega, by go_num, hO, hG7⟩
            case measure => simp [intOf]; omega
        · have hki : ¬ (k : Int) < (N : Int) := by omega
          have hfull : L.take k = L := List.take_of_length_le (by rw [HNN.out]; omega)
          rw [hfull] at HO
          clear hfull
          go_wp2_with fail
          go_ret2
          exact HPOST.out _ _ _ rfl HO.out hgr
    · have hne : (callsE L != 0) = true := by rw [bne_iff_ne]; exact hce
      rw [hge] at HPOST HBAD
      have HB := Lib.hid (HBAD.out hce)
      have HL := Lib.hid hl
      clear e h hge s2 HBAD HFIT hl h0 hce
      generalize callsE L = C at *
      go_enter Tryz.func14, Tryz.ntmps14
      go_wp2_with fail
      refine (HT.out _).mono ?_
      rintro _ w1 ⟨rfl, hg1⟩
      go_wp2_with fail
      refine (HCK.out _ (HL.out.grown hg1)).mono ?_
      rintro _ w2 ⟨rfl, hg2⟩
      go_wp2_with fail
      go_ret2
      exact HPOST.out _ _ _ rfl (HB.out _) (gr_trans hg1 hg2)
end Go.Proofs.YtlodmkdhlmineaaGreatDoor
