/- The document's SaidFault in plain words. No condition. The walk over the document's SaidFault. Condition: a string of ASCII; MaxLen holds a number. -/
import Derived.Test.YtlodmkdhlmineaaGreatDoorSaidPlain
import Derived.Test.YtlodmkdhlmineaaGreatDoorKeyName
import Derived.Lib.SlicesS
import Derived.Test.YtlodmkdhlmineaaGreatDoorChanged
namespace Go.Proofs.YtlodmkdhlmineaaGreatDoor
open Go.RowKit
set_option linter.unusedVariables false
set_option linter.unusedSimpArgs false

def sign41 : List UInt8 := [97, 98, 99, 100, 101, 102, 103, 104, 105, 106, 107, 108, 109, 110, 111, 112, 113, 114, 115, 116, 117, 118, 119, 120, 121, 122, 48, 49, 50, 51, 52, 53, 54, 55, 56, 57, 47, 63, 61, 43, 32]
theorem sign41_is (c : UInt8) : sign41.contains c = true ↔ c = 32 ∨ codeOf c ≠ [] := by
  have H : ∀ n : Fin 256, (sign41.contains (UInt8.ofNat n.val) = true ↔ UInt8.ofNat n.val = 32 ∨ codeOf (UInt8.ofNat n.val) ≠ []) := by decide +kernel
  have := H ⟨c.toNat, c.toNat_lt⟩
  simpa using this
theorem sign41_at {c : UInt8} (h : c = 32 ∨ codeOf c ≠ []) : c.toNat < 128 ∧ 0 ≤ Lib.indexByte sign41 c := by
  have H : ∀ n : Fin 256, (UInt8.ofNat n.val = 32 ∨ codeOf (UInt8.ofNat n.val) ≠ []) → (UInt8.ofNat n.val).toNat < 128 ∧ 0 ≤ Lib.indexByte sign41 (UInt8.ofNat n.val) := by decide +kernel
  have := H ⟨c.toNat, c.toNat_lt⟩
  simp only [UInt8.ofNat_toNat] at this
  exact this h
theorem trim41 (l : List UInt8) : Lib.trimS l sign41 = [] ↔ signsOnly l := by
  rw [trimS_nil, List.all_eq_true]
  constructor
  · intro h c hc
    exact (sign41_is c).1 (h c hc)
  · intro h c hc
    exact (sign41_is c).2 (h c hc)
/-- The four ways of the document's SaidFault. -/
inductive SaidWay (s : ByteArray) : Prop where
  | large (h : 500 < s.size) (e : saidE s = 2)
  | none (h : ¬ 500 < s.size) (h0 : s.size = 0) (e : saidE s = 3)
  | odd (h : ¬ 500 < s.size) (h0 : 0 < s.size) (n : Lib.trimS s.data.toList sign41 ≠ []) (e : saidE s = 3)
  | gap (h : ¬ 500 < s.size) (h0 : 0 < s.size) (n : Lib.trimS s.data.toList sign41 = []) (a : signsOnly s.data.toList) (g : Lib.containsS (wordsOf s) (⟨#[]⟩ : ByteArray) = true) (e : saidE s = 3)
  | right (h : ¬ 500 < s.size) (h0 : 0 < s.size) (n : Lib.trimS s.data.toList sign41 = []) (a : signsOnly s.data.toList) (g : Lib.containsS (wordsOf s) (⟨#[]⟩ : ByteArray) = false) (e : saidE s = 0)
theorem words_gap (s : ByteArray) : Lib.containsS (wordsOf s) (⟨#[]⟩ : ByteArray) = true ↔ [] ∈ cutW s.data.toList := by
  rw [wordsOf_cut, Lib.containsS_iff]
  constructor
  · intro h
    obtain ⟨p, hp, e⟩ := List.mem_map.1 h
    have : p = [] := strB_inj (a := p) (b := []) e
    rw [← this]; exact hp
  · intro h
    exact List.mem_map.2 ⟨[], h, rfl⟩
theorem saidE_three {s : ByteArray} (h : ¬ 500 < s.size) (h1 : saidE s ≠ 0) : saidE s = 3 := by
  unfold saidE at h1 ⊢
  rw [if_neg h] at h1 ⊢
  split at h1
  · exact absurd rfl h1
  · rename_i hc; rw [if_neg hc]
theorem saidWay (s : ByteArray) : SaidWay s := by
  by_cases h : 500 < s.size
  · exact .large h (saidE_large h)
  · rcases Nat.eq_zero_or_pos s.size with h0 | h0
    · refine .none h h0 (saidE_three h fun e => ?_)
      obtain ⟨_, h2, _⟩ := (saidE_is s).1 e
      have : s.data.toList = [] := List.eq_nil_of_length_eq_zero (by have : s.data.toList.length = s.size := by simp
                                                                     omega)
      rw [this] at h2
      exact h2 (by simp [cutW])
    · by_cases n : Lib.trimS s.data.toList sign41 = []
      · have a := (trim41 _).1 n
        cases g : Lib.containsS (wordsOf s) (⟨#[]⟩ : ByteArray)
        · refine .right h h0 n a g ((saidE_is s).2 ⟨by omega, fun hm => ?_, a⟩)
          rw [(words_gap s).2 hm] at g
          cases g
        · refine .gap h h0 n a g (saidE_three h fun e => ?_)
          exact ((saidE_is s).1 e).2.1 ((words_gap s).1 g)
      · exact .odd h h0 n (saidE_three h fun e => n ((trim41 _).2 ((saidE_is s).1 e).2.2))
end Go.Proofs.YtlodmkdhlmineaaGreatDoor

namespace Go.Proofs.YtlodmkdhlmineaaGreatDoor
open Go.RowKit
set_option linter.unusedVariables false
set_option linter.unusedSimpArgs false

theorem index41 (x : UInt8) (w : World) : Calls Tryz.prog 96 #[.string ⟨#[97, 98, 99, 100, 101, 102, 103, 104, 105, 106, 107, 108, 109, 110, 111, 112, 113, 114, 115, 116, 117, 118, 119, 120, 121, 122, 48, 49, 50, 51, 52, 53, 54, 55, 56, 57, 47, 63, 61, 43, 32]⟩, .int .u8 x.toNat] w fun e w' => e = .returned (.int .i64 (Lib.indexByte sign41 x)) ∧ w = w' :=
  (Tryz.strings_IndexByte _ _ w).mono fun e w' ⟨he, hw⟩ => ⟨by
    rw [he]
    have : ((x.toNat : Int)).toNat.toUInt8 = x := by simp
    rw [this]
    rfl, hw.symm⟩
set_option maxRecDepth 100000 in
set_option maxHeartbeats 4000000 in
theorem rune41 (c : UInt8) (h : c.toNat < 128) (w : World) :
    Calls Tryz.prog 157 #[.string ⟨#[97, 98, 99, 100, 101, 102, 103, 104, 105, 106, 107, 108, 109, 110, 111, 112, 113, 114, 115, 116, 117, 118, 119, 120, 121, 122, 48, 49, 50, 51, 52, 53, 54, 55, 56, 57, 47, 63, 61, 43, 32]⟩, .int .i32 (c.toNat : Int)] w fun e w' => e = .returned (.int .i64 (Lib.indexByte sign41 c)) ∧ w = w' := by
  have h0 : (0 : Int) ≤ (c.toNat : Int) := by omega
  have h1 : (c.toNat : Int) < 128 := by omega
  have hw : IntKind.u8.wrap (c.toNat : Int) = (c.toNat : Int) := by
    have H : ∀ n : Fin 256, IntKind.u8.wrap (n.val : Int) = (n.val : Int) := by decide
    exact H ⟨c.toNat, c.toNat_lt⟩
  have HI := Lib.hid (fun W => index41 c W)
  go_enter Tryz.func157, Tryz.ntmps157
  go_wp2_with fail
  refine (HI.out _).mono ?_
  rintro _ _ ⟨rfl, rfl⟩
  go_wp2_with fail
  go_ret
  exact ⟨rfl, rfl⟩
set_option maxRecDepth 100000 in
set_option maxHeartbeats 1000000 in
theorem isSign41 (c : UInt8) (h : c = 32 ∨ codeOf c ≠ []) (w : World) :
    Calls Tryz.prog 98 #[.int .i32 (c.toNat : Int)] w fun e w' => e = .returned (.bool false) ∧ w = w' := by
  obtain ⟨h1, h2⟩ := sign41_at h
  have HR := Lib.hid (fun W => rune41 c h1 W)
  clear h h1
  generalize Lib.indexByte sign41 c = I at *
  have HC : Hid (∀ W, Calls Tryz.prog 99 #[.string ⟨#[97, 98, 99, 100, 101, 102, 103, 104, 105, 106, 107, 108, 109, 110, 111, 112, 113, 114, 115, 116, 117, 118, 119, 120, 121, 122, 48, 49, 50, 51, 52, 53, 54, 55, 56, 57, 47, 63, 61, 43, 32]⟩, .int .i32 (c.toNat : Int)] W fun e w' => e = .returned (.bool true) ∧ W = w') := fun W => by
    go_enter Tryz.func99, Tryz.ntmps99
    go_wp2_with fail
    refine (HR.out _).mono ?_
    rintro _ _ ⟨rfl, rfl⟩
    go_wp2_with fail
    go_ret
    exact ⟨rfl, rfl⟩
  go_enter Tryz.func98, Tryz.ntmps98
  go_wp2_with fail
  refine (HC.out _).mono ?_
  rintro _ _ ⟨rfl, rfl⟩
  go_wp2_with fail
  go_ret
  exact ⟨rfl, rfl⟩
set_option maxRecDepth 100000 in
set_option maxHeartbeats 4000000 in
theorem noOther (s : ByteArray) (hs : s.size ≤ 1000000) (ha : Ascii s) (h : signsOnly s.data.toList) (w : World) :
    Calls Tryz.prog 202 #[.string s, .func (.func 98) #[] #[], .bool true] w fun e w' => e = .returned (.int .i64 (-1)) ∧ w.grownBy w' none := by
  have HA := Lib.hid ha
  have HS := Lib.hid h
  have hit0 := World.iter_heap w s 0
  have hG0 : w.grownBy (w.iter s 0) none := World.grownBy_alloc w _ none
  clear ha h
  go_enter Tryz.func202, Tryz.ntmps202
  go_wp2_with fail
  generalize w.iter s 0 = W0 at *
  go_loopw [] (fun wr => ∃ p : Nat, p ≤ s.size ∧ wr.heap[w.heap.size]? = some (.stringIter s p) ∧ w.grownBy wr none) (fun wr => s.size - wr.iterPos w.heap.size)
  case atStart => exact ⟨0, by omega, hit0, hG0⟩
  case round =>
    obtain ⟨p, hp, hit, hgr⟩ := hrel
    clear hit0 hG0
    by_cases hlp : p < s.size
    · have hpl : p < s.data.toList.length := by rw [← size_len']; exact hlp
      have hse : s.data.toList[p] = s[p] := rfl
      have hmem := HS.out _ (List.getElem_mem hpl)
      rw [hse] at hmem
      have h128 : (s[p]'hlp).toNat < 128 := (sign41_at hmem).1
      have hnext : ∀ ty, (Instr.next (.pointer (some ⟨w.heap.size, 0, none⟩)) true ty).run Tryz.prog wr = _ := fun ty => Lib.run_next_ascii_at wr w.heap.size s p ty hit hlp h128
      have HF := Lib.hid (fun W => isSign41 (s[p]'hlp) hmem W)
      have hit1 := Lib.iterAt_heap wr w.heap.size s p (p + 1) hit
      have hgw1 := gr_iterAt hgr (Nat.le_refl _) s (p + 1)
      have hmu : wr.iterPos w.heap.size = p := by simp [World.iterPos, hit]
      have HMU := Lib.hid hmu
      clear hmem h128 hse hit hgr hmu
      generalize wr.iterAt w.heap.size s (p + 1) = W1 at *
      generalize s[p] = c at *
      go_wp2_with fail
      refine (HF.out _).mono ?_
      rintro _ _ ⟨rfl, rfl⟩
      go_wp2_with fail
      go_roundw
      case rel => exact ⟨p + 1, by omega, hit1, hgw1⟩
      case measure =>
        have h1 : W1.iterPos w.heap.size = p + 1 := by simp [World.iterPos, hit1]
        rw [HMU.out, h1]; omega
    · have hnext : ∀ ty, (Instr.next (.pointer (some ⟨w.heap.size, 0, none⟩)) true ty).run Tryz.prog wr = _ := fun ty => Lib.run_next_end_at wr w.heap.size s p ty hit hlp
      go_wp2_with fail
      go_ret
      exact ⟨rfl, hgr⟩
set_option maxHeartbeats 1000000 in
theorem noOthers (s : ByteArray) (hs : s.size ≤ 1000000) (ha : Ascii s) (h : signsOnly s.data.toList) (w : World) :
    Calls Tryz.prog 97 #[.string s, .func (.func 98) #[] #[]] w fun e w' => e = .returned (.bool false) ∧ w.grownBy w' none := by
  have HN := Lib.hid (fun W => noOther s hs ha h W)
  have HI : Hid (∀ W, Calls Tryz.prog 156 #[.string s, .func (.func 98) #[] #[]] W fun e w' => e = .returned (.int .i64 (-1)) ∧ W.grownBy w' none) := fun W => by
    go_enter Tryz.func156, Tryz.ntmps156
    go_wp2_with fail
    refine (HN.out _).mono ?_
    rintro _ w1 ⟨rfl, hg1⟩
    go_wp2_with fail
    go_ret
    exact ⟨rfl, hg1⟩
  go_enter Tryz.func97, Tryz.ntmps97
  go_wp2_with fail
  refine (HI.out _).mono ?_
  rintro _ w1 ⟨rfl, hg1⟩
  go_wp2_with fail
  go_ret
  exact ⟨rfl, hg1⟩
theorem contains_any (base : Nat) (v : Value) (l : List ByteArray) (t : ByteArray) (w : World) (hl : StrsFrom base w v l) (hne : 0 < l.length) :
    Calls Tryz.prog 32 #[v, .string t] w fun e w' => e = .returned (.bool (Lib.containsS l t)) ∧ w.grownBy w' none := by
  obtain ⟨A, c, rfl, hlen, hA⟩ := hl.shape
  obtain ⟨g, rfl, _, _⟩ := hA hne
  have hcell : ∀ j, j < l.length → w.cell? ⟨g, 0 + j, none⟩ = some (.string (l.getD j ByteArray.empty)) := fun j hj => by
    rw [Nat.zero_add, hl.at_ j hj]
    simp [hj]
  have hcon := Tryz.slices_Contains_string g 0 l.length c l t w (Nat.le_refl _) hlen hcell
  rw [List.take_length] at hcon
  refine hcon.mono ?_
  rintro e w' ⟨he, hw⟩
  exact ⟨he, by rw [hw]; exact gr_refl _ _⟩
set_option maxRecDepth 100000 in
set_option maxHeartbeats 4000000 in
theorem refSaid_any (b : Nat) (s : ByteArray) (w : World) (hgl : Gl b w) (ha : Ascii s) (hs : s.size ≤ 1000000) :
    Calls Tryz.prog 47 #[.string s] w fun e w' => e = .returned (.int .i64 (saidE s)) ∧ w.grownBy w' none := by
  have HT : Hid (∀ W, Calls Tryz.prog 60 #[.string s, .string ⟨#[97, 98, 99, 100, 101, 102, 103, 104, 105, 106, 107, 108, 109, 110, 111, 112, 113, 114, 115, 116, 117, 118, 119, 120, 121, 122, 48, 49, 50, 51, 52, 53, 54, 55, 56, 57, 47, 63, 61, 43, 32]⟩] W fun e w' => e = .returned (.string ⟨(Lib.trimS s.data.toList sign41).toArray⟩) ∧ W.grownBy w' none) := fun W => trim_any s _ W (by omega) (by decide) (by decide +kernel)
  have HGL := Lib.hid hgl
  have HSP := Lib.hid (fun W (h : Gl b W) => split_blank b s W h (by omega))
  cases saidWay s with
  | large h e =>
    have HE := Lib.hid e
    have h2 : (500 : Int) < (s.size : Int) := by omega
    clear e
    go_enter Tryz.func47, Tryz.ntmps47
    go_wp2_with fail
    go_ret
    exact ⟨by rw [HE.out]; rfl, gr_refl _ _⟩
  | none h h0 e =>
    have HE := Lib.hid e
    have h2 : ¬ (500 : Int) < (s.size : Int) := by omega
    have he : s.toList.isEmpty = true := by
      rw [Lib.toList_data, List.isEmpty_iff]
      exact List.eq_nil_of_length_eq_zero (by have : s.data.toList.length = s.size := by simp
                                              omega)
    clear e
    go_enter Tryz.func47, Tryz.ntmps47
    go_wp2_with fail
    go_ret
    exact ⟨by rw [HE.out]; rfl, gr_refl _ _⟩
  | odd h h0 n e =>
    have HE := Lib.hid e
    have h2 : ¬ (500 : Int) < (s.size : Int) := by omega
    have he : s.toList.isEmpty = false := by
      rw [Lib.toList_data]
      cases hd : s.data.toList with
      | nil => have : s.data.toList.length = s.size := by simp
               rw [hd] at this; simp at this; omega
      | cons a r => rfl
    obtain ⟨T, hT⟩ : ∃ T : ByteArray, ⟨(Lib.trimS s.data.toList sign41).toArray⟩ = T := ⟨_, rfl⟩
    have hne : T.toList.isEmpty = false := by
      rw [← hT, Lib.toList_data]
      cases hd : Lib.trimS s.data.toList sign41 with
      | nil => exact absurd hd n
      | cons a r => rfl
    rw [hT] at HT
    clear e n hT
    go_enter Tryz.func47, Tryz.ntmps47
    go_wp2_with fail
    refine (HT.out _).mono ?_
    rintro _ w1 ⟨rfl, hg1⟩
    go_wp2_with fail
    go_ret
    exact ⟨by rw [HE.out]; rfl, hg1⟩
  | gap h h0 n a g e =>
    have HE := Lib.hid e
    have h2 : ¬ (500 : Int) < (s.size : Int) := by omega
    have he : s.toList.isEmpty = false := by
      rw [Lib.toList_data]
      cases hd : s.data.toList with
      | nil => have : s.data.toList.length = s.size := by simp
               rw [hd] at this; simp at this; omega
      | cons a r => rfl
    have HNO := Lib.hid (fun W => noOthers s hs ha a W)
    have HG := Lib.hid g
    rw [n] at HT
    clear e n g
    go_enter Tryz.func47, Tryz.ntmps47
    go_wp2_with fail
    refine (HT.out _).mono ?_
    rintro _ w1 ⟨rfl, hg1⟩
    go_wp2_with fail
    refine (HNO.out _).mono ?_
    rintro _ w2 ⟨rfl, hg2⟩
    have hG2 := gr_trans hg1 hg2
    go_wp2_with fail
    refine (HSP.out _ (HGL.out.quiet hG2)).mono ?_
    rintro _ w3 ⟨v, rfl, hv, hg3⟩
    have hG3 := gr_trans hG2 hg3
    go_wp2_with fail
    refine (contains_any _ v _ _ w3 hv (wordsOf_pos s)).mono ?_
    rintro _ w4 ⟨rfl, hg4⟩
    rw [show (Lib.containsS (wordsOf s) (⟨#[]⟩ : ByteArray)) = true from HG.out]
    go_wp2_with fail
    go_ret
    exact ⟨by rw [HE.out]; rfl, gr_trans hG3 hg4⟩
  | right h h0 n a g e =>
    have HE := Lib.hid e
    have h2 : ¬ (500 : Int) < (s.size : Int) := by omega
    have he : s.toList.isEmpty = false := by
      rw [Lib.toList_data]
      cases hd : s.data.toList with
      | nil => have : s.data.toList.length = s.size := by simp
               rw [hd] at this; simp at this; omega
      | cons a r => rfl
    have HNO := Lib.hid (fun W => noOthers s hs ha a W)
    have HG := Lib.hid g
    rw [n] at HT
    clear e n g
    go_enter Tryz.func47, Tryz.ntmps47
    go_wp2_with fail
    refine (HT.out _).mono ?_
    rintro _ w1 ⟨rfl, hg1⟩
    go_wp2_with fail
    refine (HNO.out _).mono ?_
    rintro _ w2 ⟨rfl, hg2⟩
    have hG2 := gr_trans hg1 hg2
    go_wp2_with fail
    refine (HSP.out _ (HGL.out.quiet hG2)).mono ?_
    rintro _ w3 ⟨v, rfl, hv, hg3⟩
    have hG3 := gr_trans hG2 hg3
    go_wp2_with fail
    refine (contains_any _ v _ _ w3 hv (wordsOf_pos s)).mono ?_
    rintro _ w4 ⟨rfl, hg4⟩
    rw [show (Lib.containsS (wordsOf s) (⟨#[]⟩ : ByteArray)) = false from HG.out]
    go_wp2_with fail
    go_ret
    exact ⟨by rw [HE.out]; rfl, gr_trans hG3 hg4⟩
end Go.Proofs.YtlodmkdhlmineaaGreatDoor
