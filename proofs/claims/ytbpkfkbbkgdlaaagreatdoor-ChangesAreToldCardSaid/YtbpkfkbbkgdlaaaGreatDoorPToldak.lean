/- The walk over the reference's Int: a number with at most so many digits. Condition: a string of a size; the powers of ten are Go's own table. What the last change up to a moment tells (plain). No condition. The walks over the stream's CallOf and RightCall: a string of ASCII, at most 30 bytes; a call sign. Condition: the stream has handed out at most 10^10 numbers. The walk over the law ChangesAreTold: it answers true whatever numbers come in. Condition: asciiSpace and the powers of ten are Go's own tables, MaxLen holds a number. What the cards of this seat share: a world that meets the rows' condition on package-level variables; what that condition gives the walks. No condition. -/
import Derived.Test.YtbpkfkbbkgdlaaaGreatDoorPToldaj
import Derived.Lib.Atoi
import Derived.Test.YtbpkfkbbkgdlaaaGreatDoorPToldaf
import Derived.Test.YtbpkfkbbkgdlaaaGreatDoorPToldag
import Derived.Deep.DeepCutAuto
import Derived.Test.YtbpkfkbbkgdlaaaGreatDoorPToldac
import Derived.Test.YtbpkfkbbkgdlaaaGreatDoorPToldaa
import Derived.Test.YtbpkfkbbkgdlaaaGreatDoorCards
import Derived.Test.YtbpkfkbbkgdlaaaGreatDoorTie
import Derived.LaidMore
import Derived.Stop.Joined
import Derived.Stop.LaidErr
import Derived.HandedShaped
import Derived.Shelf.Vars
import Derived.PinnedBridge
import Derived.SevenTiedAt
namespace Go.Proofs.YtbpkfkbbkgdlaaaGreatDoor
open Go.RowKit
set_option linter.unusedVariables false
set_option linter.unusedSimpArgs false

def dgL : List UInt8 := [48, 49, 50, 51, 52, 53, 54, 55, 56, 57]
/-- What stands behind a minus. -/
def unM (s : List UInt8) : List UInt8 := match s with | [] => [] | b :: r => if b = 45 then r else b :: r
def intN (s : List UInt8) : Int := (Lib.atoi s).getD 0
def intB (s : List UInt8) (most : Int) : Bool := decide (1 ≤ (unM s).length) && decide (((unM s).length : Int) ≤ most) && (unM s).all dgL.contains
theorem dgL_val {b : UInt8} (h : dgL.contains b = true) : ∃ d, Lib.digitVal b = some d := by
  have h2 : b ∈ dgL := by simpa using h
  have hall : ∀ x ∈ dgL, ∃ d, Lib.digitVal x = some d := by
    intro x hx
    simp only [dgL, List.mem_cons, List.not_mem_nil, or_false] at hx
    rcases hx with rfl | rfl | rfl | rfl | rfl | rfl | rfl | rfl | rfl | rfl <;> exact ⟨_, rfl⟩
  exact hall b h2
theorem dec_all : ∀ (l : List UInt8) (acc : Nat), l.all dgL.contains = true → ∃ m, Lib.decFrom acc l = some m
  | [], acc, _ => ⟨acc, rfl⟩
  | b :: r, acc, h => by
    rw [List.all_cons, Bool.and_eq_true] at h
    obtain ⟨d, hd⟩ := dgL_val h.1
    obtain ⟨m, hm⟩ := dec_all r (acc * 10 + d) h.2
    exact ⟨m, by unfold Lib.decFrom; rw [hd]; exact hm⟩
theorem decNat_all {l : List UInt8} (h0 : l ≠ []) (h : l.all dgL.contains = true) : ∃ m, Lib.decNat l = some m := by
  obtain ⟨m, hm⟩ := dec_all l 0 h
  refine ⟨m, ?_⟩
  unfold Lib.decNat
  rw [if_neg (by simpa using h0)]
  exact hm
theorem intB_atoi {s : List UInt8} {most : Int} (h : intB s most = true) : Lib.atoi s = some (intN s) := by
  unfold intB at h
  simp only [Bool.and_eq_true, decide_eq_true_eq] at h
  obtain ⟨⟨h1, h2⟩, h3⟩ := h
  have hne : unM s ≠ [] := fun e => by rw [e] at h1; simp at h1
  obtain ⟨m, hm⟩ := decNat_all hne h3
  have hx : ∃ n, Lib.atoi s = some n := by
    cases s with
    | nil => exact absurd rfl hne
    | cons b r =>
      unfold unM at hm h3
      by_cases hb : b = 45
      · simp only [hb, if_true] at hm
        exact ⟨-(m : Int), by unfold Lib.atoi; rw [hb]; simp [hm]⟩
      · simp only [hb, if_false] at hm h3
        have h43 : b ≠ 43 := by
          rintro rfl
          rw [List.all_cons] at h3
          have : dgL.contains (43 : UInt8) = false := by decide
          rw [this] at h3
          simp at h3
        exact ⟨(m : Int), by unfold Lib.atoi; simp [hb, h43, hm]⟩
  obtain ⟨n, hn⟩ := hx
  unfold intN
  rw [hn]
  rfl
theorem decFrom_app : ∀ (a b : List UInt8) (acc : Nat), Lib.decFrom acc (a ++ b) = (Lib.decFrom acc a).bind fun m => Lib.decFrom m b
  | [], b, acc => rfl
  | x :: a, b, acc => by
    simp only [List.cons_append, Lib.decFrom]
    cases Lib.digitVal x with
    | none => rfl
    | some d => exact decFrom_app a b _
theorem digit_of (d : Nat) (h : d < 10) : Lib.digitVal (UInt8.ofNat (48 + d)) = some d ∧ dgL.contains (UInt8.ofNat (48 + d)) = true := by
  have hall : ∀ x : Fin 10, Lib.digitVal (UInt8.ofNat (48 + x.val)) = some x.val ∧ dgL.contains (UInt8.ofNat (48 + x.val)) = true := by decide +kernel
  exact hall ⟨d, h⟩
theorem dec_digits (u : Nat) : Lib.decFrom 0 (Lib.decDigits u) = some u ∧ (Lib.decDigits u).all dgL.contains = true := by
  induction u using Nat.strongRecOn with
  | _ u ih =>
    by_cases h : u < 10
    · rw [Lib.decDigits, dif_pos h]
      obtain ⟨h1, h2⟩ := digit_of u h
      exact ⟨by unfold Lib.decFrom; rw [h1]; simp [Lib.decFrom], by simp only [List.all_cons, h2, List.all_nil, Bool.and_self]⟩
    · rw [Lib.decDigits, dif_neg h]
      obtain ⟨h1, h2⟩ := ih (u / 10) (by omega)
      obtain ⟨h3, h4⟩ := digit_of (u % 10) (by omega)
      refine ⟨?_, ?_⟩
      · rw [decFrom_app, h1]
        show Lib.decFrom (u / 10) [_] = _
        unfold Lib.decFrom
        rw [h3]
        show some (u / 10 * 10 + u % 10) = _
        congr 1
        omega
      · simp only [List.all_append, h2, List.all_cons, h4, List.all_nil, Bool.and_self]
theorem nDigits_bd : ∀ (k u : Nat), u < 10 ^ k → 1 ≤ k → Lib.nDigits u ≤ k
  | 0, u, h, h1 => absurd h1 (by omega)
  | k + 1, u, h, h1 => by
    by_cases hu : u < 10
    · rw [Lib.nDigits_small hu]; omega
    · rw [Lib.nDigits_big hu]
      have hk : 1 ≤ k := by
        rcases Nat.eq_zero_or_pos k with rfl | hk
        · simp at h; omega
        · exact hk
      have := nDigits_bd k (u / 10) (by rw [Nat.pow_succ] at h; omega) hk
      omega
theorem nDigits_pos (u : Nat) : 1 ≤ Lib.nDigits u := by
  by_cases hu : u < 10
  · rw [Lib.nDigits_small hu]; omega
  · rw [Lib.nDigits_big hu]; omega
theorem digits_head (u : Nat) : unM (Lib.decDigits u) = Lib.decDigits u := by
  have h2 := (dec_digits u).2
  generalize Lib.decDigits u = l at *
  cases l with
  | nil => rfl
  | cons b r =>
    unfold unM
    rw [List.all_cons, Bool.and_eq_true] at h2
    have : b ≠ 45 := by
      rintro rfl
      have h3 : dgL.contains (45 : UInt8) = false := by decide
      rw [h3] at h2
      cases h2.1
    simp [this]
/-- A number from 0 on as Itoa writes it is read as it was. -/
theorem int_itoa (u : Nat) (h : u < 10 ^ 15) : intB (Lib.decDigits u) 15 = true ∧ intN (Lib.decDigits u) = u := by
  have hd := dec_digits u
  have hl : (Lib.decDigits u).length = Lib.nDigits u := Lib.decDigits_length u
  have h1 := nDigits_bd 15 u h (by decide)
  have h2 := nDigits_pos u
  have hB : intB (Lib.decDigits u) 15 = true := by
    unfold intB
    rw [digits_head, hl, hd.2]
    simp only [Bool.and_true, Bool.and_eq_true, decide_eq_true_eq]
    omega
  refine ⟨hB, ?_⟩
  have hm := digits_head u
  have hdc : Lib.decNat (Lib.decDigits u) = some u := by
    unfold Lib.decNat
    rw [if_neg, hd.1]
    intro e
    have : Lib.decDigits u = [] := by simpa using e
    rw [this] at hl
    simp at hl
    omega
  unfold intN Lib.atoi
  have h3 := hd.2
  generalize Lib.decDigits u = l at *
  cases l with
  | nil => simp at hl; omega
  | cons b r =>
    rw [List.all_cons, Bool.and_eq_true] at h3
    have e1 : b ≠ 45 := by
      rintro rfl
      have h5 : dgL.contains (45 : UInt8) = false := by decide
      rw [h5] at h3
      cases h3.1
    have e2 : b ≠ 43 := by
      rintro rfl
      have h5 : dgL.contains (43 : UInt8) = false := by decide
      rw [h5] at h3
      cases h3.1
    simp [e1, e2, hdc]
theorem unM_trim (s : List UInt8) : Lib.trimPrefix s [45] = unM s := by
  unfold Lib.trimPrefix Lib.hasPrefix unM
  cases s with
  | nil => rfl
  | cons b r =>
    by_cases hb : b = 45
    · subst hb; simp
    · have h2 : ((45 : UInt8) == b) = false := by rw [beq_eq_false_iff_ne]; exact fun e => hb e.symm
      simp [hb, List.isPrefixOf, h2]
theorem intN_bd {s : List UInt8} {most : Int} (h : intB s most = true) (hm : most ≤ 15) : -1000000000000000 < intN s ∧ intN s < 1000000000000000 := by
  have ha := intB_atoi h
  unfold intB at h
  simp only [Bool.and_eq_true, decide_eq_true_eq] at h
  obtain ⟨⟨h1, h2⟩, h3⟩ := h
  have hne : unM s ≠ [] := fun e => by rw [e] at h1; simp at h1
  obtain ⟨m, hmm⟩ := decNat_all hne h3
  have hb := Lib.decFrom_lt _ _ _ (Lib.decNat_some hmm).2
  have hle : 10 ^ (unM s).length ≤ 10 ^ 15 := Nat.pow_le_pow_right (by decide) (by omega)
  have hb2 : m < 1000000000000000 := by
    have : (0 + 1) * 10 ^ (unM s).length ≤ 1000000000000000 := by simpa using hle
    omega
  cases s with
  | nil => exact absurd rfl hne
  | cons b r =>
    unfold unM at hmm h3
    unfold Lib.atoi at ha
    by_cases hb : b = 45
    · subst hb
      simp only [if_true] at hmm
      simp [hmm] at ha
      omega
    · simp only [hb, if_false] at hmm h3
      have h43 : b ≠ 43 := by
        rintro rfl
        rw [List.all_cons] at h3
        have : dgL.contains (43 : UInt8) = false := by decide
        rw [this] at h3
        simp at h3
      simp [hb, h43, hmm] at ha
      omega
theorem unM_le (s : List UInt8) : (unM s).length ≤ s.length := by
  cases s with
  | nil => exact Nat.le_refl _
  | cons b r =>
    show (if b = 45 then r else b :: r).length ≤ r.length + 1
    split <;> simp
theorem unM_ge (s : List UInt8) : s.length ≤ (unM s).length + 1 := by
  cases s with
  | nil => exact Nat.zero_le _
  | cons b r =>
    show r.length + 1 ≤ (if b = 45 then r else b :: r).length + 1
    split <;> simp
def IntPost (s : ByteArray) (most : Int) (w : World) (r : Ending) (w' : World) : Prop :=
  r = .returned (.tuple #[.int .i64 (if intB s.data.toList most = true then intN s.data.toList else 0), .bool (intB s.data.toList most && decide (Lib.itoa (intN s.data.toList) = s.data.toList))]) ∧ w.grownBy w' none
set_option maxRecDepth 100000 in
set_option maxHeartbeats 4000000 in
theorem refInt_any (bP : Nat) (s : ByteArray) (most : Int) (w : World) (hs : s.size ≤ 1000000) (hm : 0 ≤ most) (hm2 : most ≤ 15) (hp : P10 bP w) :
    Calls Tryz.prog 39 #[.string s, .int .i64 most] w (IntPost s most w) := by
  have hsl : s.data.toList.length = s.size := by simp
  have hul : (unM s.data.toList).length ≤ s.data.toList.length := unM_le _
  obtain ⟨T, hT⟩ : ∃ T : ByteArray, (⟨(unM s.data.toList).toArray⟩ : ByteArray) = T := ⟨_, rfl⟩
  have hTl : T.data.toList = unM s.data.toList := by rw [← hT]
  have hTs : T.size = (unM s.data.toList).length := by rw [← hTl]; simp
  have HTP : Hid (∀ W, Calls Tryz.prog 87 #[.string s, .string ⟨#[45]⟩] W fun e w' => e = .returned (.string T) ∧ W = w') := fun W => (Tryz.strings_TrimPrefix s ⟨#[45]⟩ W).mono fun e w' ⟨h1, h2⟩ => ⟨by rw [h1, ← hT, ← unM_trim], h2.symm⟩
  obtain ⟨R, hR⟩ : ∃ R : ByteArray, (⟨(Lib.trimS T.data.toList dgL).toArray⟩ : ByteArray) = R := ⟨_, rfl⟩
  have HTR : Hid (∀ W, Calls Tryz.prog 85 #[.string T, .string ⟨#[48, 49, 50, 51, 52, 53, 54, 55, 56, 57]⟩] W fun e w' => e = .returned (.string R) ∧ W.grownBy w' none) := fun W => (trim_any T ⟨#[48, 49, 50, 51, 52, 53, 54, 55, 56, 57]⟩ W (by omega) (by decide) (by decide +kernel)).mono fun e w' ⟨h1, h2⟩ => ⟨by rw [h1, ← hR]; rfl, h2⟩
  have hRe : R.toList.isEmpty = (unM s.data.toList).all dgL.contains := by
    rw [Lib.toList_data, ← hR, ← hTl]
    have h := trimS_nil T.data.toList dgL
    cases hc : T.data.toList.all dgL.contains with
    | true => rw [h.2 hc]; rfl
    | false =>
      cases hx : Lib.trimS T.data.toList dgL with
      | nil => rw [h.1 hx] at hc; cases hc
      | cons y z => simp
  have HIN : Hid (∀ W, Calls Tryz.prog 50 #[.int .i64 T.size, .int .i64 1, .int .i64 most] W fun e w' => e = .returned (.bool (decide (1 ≤ (unM s.data.toList).length) && decide (((unM s.data.toList).length : Int) ≤ most))) ∧ W = w') := fun W => (in_any T.size 1 most W).mono fun e w' ⟨h1, h2⟩ => ⟨by
    rw [h1, hTs]
    congr 2
    unfold outB
    by_cases q1 : 1 ≤ (unM s.data.toList).length <;> by_cases q2 : ((unM s.data.toList).length : Int) ≤ most <;> simp [q1, q2] <;> omega, h2⟩
  have HB : Hid (intB s.data.toList most = (decide (1 ≤ (unM s.data.toList).length) && decide (((unM s.data.toList).length : Int) ≤ most) && R.toList.isEmpty)) := by
    show _ = _
    rw [hRe]
    rfl
  have hTb : T.size ≤ 1000000 := by omega
  have HPOST : Hid (∀ n b w', (if intB s.data.toList most = true then intN s.data.toList else 0) = n → (intB s.data.toList most && decide (Lib.itoa (intN s.data.toList) = s.data.toList)) = b → w.grownBy w' none → IntPost s most w (.returned (.tuple #[.int .i64 n, .bool b])) w') := fun n b w' h1 h2 h3 => ⟨by rw [h1, h2], h3⟩
  have HAT : Hid (intB s.data.toList most = true → ∀ W, Calls Tryz.prog 88 #[.string s] W fun e w' => e = .returned (.tuple #[.int .i64 (intN s.data.toList), .nilIface]) ∧ W.grownBy w' none) := fun h W => by
    have ha := intB_atoi h
    have h15 : s.size ≤ 16 := by
      unfold intB at h
      simp only [Bool.and_eq_true, decide_eq_true_eq] at h
      have h5 : s.data.toList.length ≤ (unM s.data.toList).length + 1 := unM_ge _
      omega
    exact (Tryz.strconv_Atoi s (intN s.data.toList) (by omega) ha W).mono fun e w' ⟨h1, h2⟩ => ⟨h1, by
      obtain ⟨t, rfl⟩ := h2
      exact ⟨rfl, rfl, rfl, by rw [Lib.bytesWorld_size]; omega, fun i hi _ => Lib.bytesWorld_at_old _ _ _ _ hi⟩⟩
  have HIT : Hid (intB s.data.toList most = true → ∀ W, w.grownBy W none → Calls Tryz.prog 67 #[.int .i64 (intN s.data.toList)] W fun e w' => e = .returned (.string ⟨(Lib.itoa (intN s.data.toList)).toArray⟩) ∧ W.grownBy w' none) := fun h W hW => by
    have hb := intN_bd h hm2
    refine (Tryz.strconv_Itoa (intN s.data.toList) (by omega) (by omega) W (hp.grown hW).tab).mono ?_
    rintro e w' ⟨rfl, k, os, rfl⟩
    exact ⟨rfl, gr_trans (gr_drewN (gr_refl _ _) k) ⟨rfl, rfl, rfl, by simp, fun i hi _ => Sort.heap_grow_old _ _ (by simpa using hi)⟩⟩
  generalize hL1 : (decide (1 ≤ (unM s.data.toList).length) && decide (((unM s.data.toList).length : Int) ≤ most)) = L1 at *
  obtain ⟨S2, hS2⟩ : ∃ S2 : ByteArray, (⟨(Lib.itoa (intN s.data.toList)).toArray⟩ : ByteArray) = S2 := ⟨_, rfl⟩
  have HEQ : Hid (decide (Lib.itoa (intN s.data.toList) = s.data.toList) = (S2.toList == s.toList)) := by
    show _ = _
    rw [← hS2, Lib.toList_data, Lib.toList_data]
    show _ = (Lib.itoa (intN s.data.toList) == s.data.toList)
    by_cases hq : Lib.itoa (intN s.data.toList) = s.data.toList
    · rw [decide_eq_true hq]; simp [hq]
    · rw [decide_eq_false hq]; symm; rw [beq_eq_false_iff_ne]; exact hq
  rw [hS2] at HIT
  generalize decide (Lib.itoa (intN s.data.toList) = s.data.toList) = DQ at *
  generalize hIB : intB s.data.toList most = IB at *
  generalize intN s.data.toList = N at *
  generalize hRE : R.toList.isEmpty = RE at *
  clear hT hTl hTs hR hRe hsl hul hp hL1 hS2 hIB
  go_enter Tryz.func39, Tryz.ntmps39
  go_wp2_with fail
  refine (HTP.out _).mono ?_
  rintro _ _ ⟨rfl, rfl⟩
  go_wp2_with fail
  refine (HIN.out _).mono ?_
  rintro _ _ ⟨rfl, rfl⟩
  cases L1
  · have HF : Hid (IB = false) := by show _ = _; rw [HB.out]; rfl
    go_wp2_with fail
    go_ret2
    exact HPOST.out _ _ _ (by rw [HF.out]; rfl) (by rw [HF.out]; rfl) (gr_refl _ _)
  · go_wp2_with fail
    refine (HTR.out _).mono ?_
    rintro _ w2 ⟨rfl, hg2⟩
    cases RE
    · have HF : Hid (IB = false) := by show _ = _; rw [HB.out]; rfl
      go_wp2_with fail
      go_ret2
      exact HPOST.out _ _ _ (by rw [HF.out]; rfl) (by rw [HF.out]; rfl) hg2
    · have HF : Hid (IB = true) := by show _ = _; rw [HB.out]; rfl
      have HA2 := Lib.hid (HAT.out HF.out)
      have HI2 := Lib.hid (HIT.out HF.out)
      clear HAT HIT
      go_wp2_with fail
      refine (HA2.out _).mono ?_
      rintro _ w3 ⟨rfl, hg3⟩
      have hg23 := gr_trans hg2 hg3
      go_wp2_with fail
      refine (HI2.out _ hg23).mono ?_
      rintro _ w4 ⟨rfl, hg4⟩
      have hg24 := gr_trans hg23 hg4
      go_wp2_with fail
      go_ret2
      exact HPOST.out _ _ _ (by rw [HF.out]; rfl) (by rw [HF.out, HEQ.out]; rfl) hg24
end Go.Proofs.YtbpkfkbbkgdlaaaGreatDoor

namespace Go.Proofs.YtbpkfkbbkgdlaaaGreatDoor
open Go.RowKit
set_option linter.unusedVariables false
set_option linter.unusedSimpArgs false

/-- What a loop over the changes keeps in the end. -/
def toldL (t : Int) (v : ByteArray) (c : List (Int × ByteArray)) : ByteArray := c.foldl (fun v y => if y.1 ≤ t then y.2 else v) v
theorem told_none {t : Int} : ∀ {c : List (Int × ByteArray)} {v : ByteArray}, (∀ y ∈ c, t < y.1) → toldL t v c = v
  | [], _, _ => rfl
  | y :: c, v, h => by
    have h1 := h y (by simp)
    show toldL t (if y.1 ≤ t then y.2 else v) c = v
    rw [if_neg (by omega)]
    exact told_none (fun z hz => h z (by simp [hz]))
theorem chgL_mem {nm : Int → ByteArray} : ∀ {l : List Int} {o : Option ByteArray} {y : Int × ByteArray}, y ∈ chgL nm o l → y.1 ∈ l ∧ y.2 = nm y.1
  | t :: r, o, y, h => by
    unfold chgL at h
    split at h
    · have := chgL_mem h; exact ⟨List.mem_cons_of_mem _ this.1, this.2⟩
    · rcases List.mem_cons.1 h with rfl | h
      · exact ⟨by simp, rfl⟩
      · have := chgL_mem h; exact ⟨List.mem_cons_of_mem _ this.1, this.2⟩
theorem told_chg (nm : Int → ByteArray) (t : Int) : ∀ (l : List Int) (x : Int), (x :: l).Pairwise (· < ·) → x ≤ t →
    (∀ a b, a ∈ x :: l → a ≤ b → b ≤ t → (∀ e ∈ x :: l, ¬ (a < e ∧ e ≤ b)) → nm a = nm b) → toldL t (nm x) (chgL nm (some (nm x)) l) = nm t
  | [], x, _, hx, hs => hs x t (by simp) hx (Int.le_refl _) (fun e he => by simp at he; omega)
  | y :: r, x, hp, hx, hs => by
    have h1 := List.pairwise_cons.1 hp
    have h2 := List.pairwise_cons.1 h1.2
    have hxy := h1.1 y (by simp)
    by_cases hy : y ≤ t
    · have ih := told_chg nm t r y h1.2 hy (fun a b ha hab hb hno => hs a b (List.mem_cons_of_mem _ ha) hab hb (fun e he => by
        rcases List.mem_cons.1 he with rfl | he
        · rcases List.mem_cons.1 ha with rfl | ha
          · omega
          · have := h2.1 a ha; omega
        · exact hno e he))
      unfold chgL
      by_cases hn : some (nm x) = some (nm y)
      · rw [if_pos hn]
        injection hn with hn
        rw [hn]
        exact ih
      · rw [if_neg hn]
        show toldL t (if y ≤ t then nm y else nm x) _ = _
        rw [if_pos hy]
        exact ih
    · rw [told_none (fun z hz => by
        have hm := (chgL_mem hz).1
        rcases List.mem_cons.1 hm with h | h
        · omega
        · have := h2.1 _ h; omega)]
      refine hs x t (by simp) hx (Int.le_refl _) (fun e he => ?_)
      rcases List.mem_cons.1 he with rfl | he
      · omega
      · rcases List.mem_cons.1 he with rfl | he
        · omega
        · have := h2.1 e he; omega
/-- Neighbours differ, and differ from what stood ahead. -/
def diffL : Option ByteArray → List (Int × ByteArray) → Prop
  | _, [] => True
  | o, y :: r => o ≠ some y.2 ∧ diffL (some y.2) r
theorem chg_diff (nm : Int → ByteArray) : ∀ (l : List Int) (o : Option ByteArray), diffL o (chgL nm o l)
  | [], _ => trivial
  | t :: r, o => by
    unfold chgL
    by_cases h : o = some (nm t)
    · rw [if_pos h]; exact chg_diff nm r o
    · rw [if_neg h]; exact ⟨h, chg_diff nm r _⟩
theorem diff_at : ∀ (c : List (Int × ByteArray)) (o : Option ByteArray), diffL o c → ∀ (i : Nat) (h : i + 1 < c.length), c[i].2 ≠ c[i + 1].2
  | y :: z :: r, o, h, 0, hi => fun e => h.2.1 (by rw [show y.2 = z.2 from e])
  | y :: z :: r, o, h, i + 1, hi => by
    have := diff_at (z :: r) (some y.2) h.2 i (by simpa using hi)
    simpa using this
/-- All that the law asks of the changes. -/
theorem chg_told (l : List Ent) (p : List Pfx) (hR : TabRight l p) (s : ByteArray) (q : ByteArray × Nat × Int × ByteArray) (t : Int) (h0 : 0 ≤ t) (h1 : t < 345686400000) :
    ∃ y r, chgL (nameAt l p s q) none (edgL l p (canL p s q) 0 345686400000) = y :: r ∧ y.1 = 0 ∧ toldL t ⟨#[]⟩ (y :: r) = nameAt l p s q t ∧ (∀ (i : Nat) (h : i + 1 < (y :: r).length), (y :: r)[i].2 ≠ (y :: r)[i + 1].2) ∧ ∀ z ∈ y :: r, 0 ≤ z.1 ∧ z.1 < 345686400000 := by
  have hrise := edgL_rise l p (canL p s q) 0 345686400000
  have hz : (0 : Int) ∈ edgL l p (canL p s q) 0 345686400000 := (edgL_mem _ _ _ _ _ _).2 (.inl rfl)
  have hbd : ∀ x ∈ edgL l p (canL p s q) 0 345686400000, 0 ≤ x ∧ x < 345686400000 := fun x hx => by
    rcases (edgL_mem _ _ _ _ _ _).1 hx with rfl | ⟨_, _, _, h1, h2⟩ <;> omega
  have hst : ∀ a b, 0 ≤ a → a ≤ b → b ≤ t → (∀ e ∈ edgL l p (canL p s q) 0 345686400000, ¬ (a < e ∧ e ≤ b)) → nameAt l p s q a = nameAt l p s q b := fun a b ha hab hb hno => by
    have := fnd_between l p s q hR 345686400000 ha hab (by omega) hno
    unfold nameAt
    rw [this]
  generalize edgL l p (canL p s q) 0 345686400000 = E at *
  generalize nameAt l p s q = nm at *
  cases E with
  | nil => simp at hz
  | cons x E =>
    have hp := List.pairwise_cons.1 hrise
    have hx0 : x = 0 := by
      rcases List.mem_cons.1 hz with h | h
      · exact h.symm
      · have := hp.1 0 h; have := hbd x (by simp); omega
    subst hx0
    have hc : chgL nm none (0 :: E) = (0, nm 0) :: chgL nm (some (nm 0)) E := by
      show (if none = some (nm 0) then _ else _) = _
      rw [if_neg (by simp)]
    refine ⟨(0, nm 0), chgL nm (some (nm 0)) E, hc, rfl, ?_, ?_, ?_⟩
    · show toldL t (if (0 : Int) ≤ t then nm 0 else _) _ = _
      rw [if_pos h0]
      exact told_chg nm t E 0 hrise h0 (fun a b ha => hst a b (hbd a ha).1)
    · have hd := chg_diff nm (0 :: E) none
      rw [hc] at hd
      exact diff_at _ _ hd
    · intro z hz
      rw [← hc] at hz
      exact hbd _ (chgL_mem hz).1
end Go.Proofs.YtbpkfkbbkgdlaaaGreatDoor

namespace Go.Proofs.YtbpkfkbbkgdlaaaGreatDoor
open Go.RowKit
set_option linter.unusedVariables false
set_option linter.unusedSimpArgs false

/-- Short strings of ASCII. -/
def fewA (n : Nat) (v : ByteArray) : Bool := decide (v.size ≤ n) && v.data.toList.all fun c => decide (c.toNat < 128)
theorem fewA_of {n : Nat} {v : ByteArray} (h : fewA n v = true) : v.size ≤ n ∧ Ascii v := by
  simp only [fewA, Bool.and_eq_true, decide_eq_true_eq, List.all_eq_true] at h
  exact ⟨h.1, Ascii.of_mem h.2⟩
theorem fewA_in {n : Nat} {l : List ByteArray} (h : l.all (fewA n) = true) {v : ByteArray} (hv : v ∈ l) : v.size ≤ n ∧ Ascii v := fewA_of (List.all_eq_true.1 h v hv)
def callBases : List ByteArray := [⟨#[107, 49, 97, 98]⟩, ⟨#[107, 52, 97, 98]⟩, ⟨#[111, 104, 50, 97, 98, 99]⟩, ⟨#[111, 104, 48, 120]⟩, ⟨#[51, 100, 97, 48, 120, 121]⟩, ⟨#[103, 51, 97]⟩, ⟨#[100, 108, 49, 122, 122]⟩, ⟨#[119, 49, 97, 119]⟩, ⟨#[107, 49, 98, 97]⟩]
def callTails : List ByteArray := [⟨#[47, 112]⟩, ⟨#[47, 109]⟩, ⟨#[47, 109, 109]⟩, ⟨#[47, 97, 109]⟩, ⟨#[47, 52]⟩, ⟨#[47, 48]⟩]
def callHeads : List ByteArray := [⟨#[111, 104, 48]⟩, ⟨#[103]⟩, ⟨#[51, 97]⟩, ⟨#[100, 108]⟩]
def callEnds : List ByteArray := [⟨#[111, 104, 48]⟩, ⟨#[103]⟩, ⟨#[119, 50, 98]⟩, ⟨#[107]⟩]
def CallOfPost (b k : Nat) (w : World) (e : Ending) (w' : World) : Prop :=
  ∃ u : ByteArray, e = .returned (.string u) ∧ u.size ≤ 30 ∧ Ascii u ∧ Str w' b (k + 8) ∧ w.grownBy w' (some b)
theorem slash_ascii : Ascii ⟨#[47]⟩ := (fewA_of (n := 1) (by decide)).2
set_option maxRecDepth 100000 in
set_option maxHeartbeats 4000000 in
/-- The end of CallOf, whatever was put together. -/
theorem callOf_in (b k : Nat) (w : World) (hs : Str w b k) (hk : k ≤ 10000000000) :
    Calls Tryz.prog 8 #[.pointer (some ⟨b, 0, none⟩)] w (CallOfPost b k w) := by
  go_enter Tryz.func8, Tryz.ntmps8
  go_wp2_with fail
  refine (some_at b k _ 9 9 callBases _ hs (by first | rfl | simp) (by omega) rfl (by decide) (by decide)).mono ?_
  rintro _ w1 ⟨v, hv, rfl, hs1, hg1⟩
  obtain ⟨hvs, hva⟩ := fewA_in (n := 6) (by decide) hv
  have HVA := Lib.hid hva
  clear hv hva
  go_wp2_with fail
  refine (next_in b _ _ _ hs1 (by omega) (by omega) (by omega)).mono ?_
  rintro _ w2 ⟨q, hq0, hq1, rfl, hs2, hg2⟩
  have hG2 := gr_trans hg1 hg2
  clear hg1 hg2 hs1
  by_cases q0 : q = 0
  · subst q0
    go_wp2_with fail
    refine (some_at b _ _ 6 6 callTails _ hs2 (by first | rfl | simp) (by omega) rfl (by decide) (by decide)).mono ?_
    rintro _ w3 ⟨u, hu, rfl, hs3, hg3⟩
    obtain ⟨hus, hua⟩ := fewA_in (n := 3) (by decide) hu
    have HUA := Lib.hid (HVA.out.app hua)
    have hG3 := gr_trans hG2 hg3
    have hsz : (v ++ u).size ≤ 9 := by simp; omega
    clear hu hua hg3 hs2
    go_wp2_with fail
    generalize v ++ u = t at *
    refine (flip_in b _ _ _ hs3 (by omega) (by omega) (by omega)).mono ?_
    rintro _ w4 ⟨fl, rfl, hs4, hg4⟩
    have hG4 := gr_trans hG3 hg4
    cases fl
    · go_wp2_with fail
      go_ret
      exact ⟨t, rfl, by omega, HUA.out, hs4.mono (by omega), hG4⟩
    · go_wp2_with fail
      refine (changed_in b _ t ⟨#[97, 48, 47, 107, 49, 45]⟩ _ hs4 (by omega) (by omega) (by decide) HUA.out (fewA_of (n := 6) (by decide)).2).mono ?_
      rintro _ w5 ⟨z, rfl, hz, hza, hs5, hg5⟩
      have hz2 : z.size ≤ 30 := by
        have : (⟨#[97, 48, 47, 107, 49, 45]⟩ : ByteArray).size = 6 := rfl
        omega
      have HZ := Lib.hid hza
      clear hza hz
      go_wp2_with fail
      go_ret
      exact ⟨z, rfl, hz2, HZ.out, hs5.mono (by omega), gr_trans hG4 hg5⟩
  by_cases q1 : q = 1
  · subst q1
    go_wp2_with fail
    refine (some_at b _ _ 4 4 callHeads _ hs2 (by first | rfl | simp) (by omega) rfl (by decide) (by decide)).mono ?_
    rintro _ w3 ⟨u, hu, rfl, hs3, hg3⟩
    obtain ⟨hus, hua⟩ := fewA_in (n := 3) (by decide) hu
    have HUA := Lib.hid ((hua.app slash_ascii).app HVA.out)
    have hG3 := gr_trans hG2 hg3
    have hsz : (u ++ ⟨#[47]⟩ ++ v).size ≤ 10 := by
      have h47 : (⟨#[47]⟩ : ByteArray).size = 1 := rfl
      simp; omega
    clear hu hua hg3 hs2
    go_wp2_with fail
    generalize u ++ ⟨#[47]⟩ ++ v = t at *
    refine (flip_in b _ _ _ hs3 (by omega) (by omega) (by omega)).mono ?_
    rintro _ w4 ⟨fl, rfl, hs4, hg4⟩
    have hG4 := gr_trans hG3 hg4
    cases fl
    · go_wp2_with fail
      go_ret
      exact ⟨t, rfl, by omega, HUA.out, hs4.mono (by omega), hG4⟩
    · go_wp2_with fail
      refine (changed_in b _ t ⟨#[97, 48, 47, 107, 49, 45]⟩ _ hs4 (by omega) (by omega) (by decide) HUA.out (fewA_of (n := 6) (by decide)).2).mono ?_
      rintro _ w5 ⟨z, rfl, hz, hza, hs5, hg5⟩
      have hz2 : z.size ≤ 30 := by
        have : (⟨#[97, 48, 47, 107, 49, 45]⟩ : ByteArray).size = 6 := rfl
        omega
      have HZ := Lib.hid hza
      clear hza hz
      go_wp2_with fail
      go_ret
      exact ⟨z, rfl, hz2, HZ.out, hs5.mono (by omega), gr_trans hG4 hg5⟩
  by_cases q2 : q = 2
  · subst q2
    go_wp2_with fail
    refine (some_at b _ _ 4 4 callEnds _ hs2 (by first | rfl | simp) (by omega) rfl (by decide) (by decide)).mono ?_
    rintro _ w3 ⟨u, hu, rfl, hs3, hg3⟩
    obtain ⟨hus, hua⟩ := fewA_in (n := 3) (by decide) hu
    have HUA := Lib.hid ((HVA.out.app slash_ascii).app hua)
    have hG3 := gr_trans hG2 hg3
    have hsz : (v ++ ⟨#[47]⟩ ++ u).size ≤ 10 := by
      have h47 : (⟨#[47]⟩ : ByteArray).size = 1 := rfl
      simp; omega
    clear hu hua hg3 hs2
    go_wp2_with fail
    generalize v ++ ⟨#[47]⟩ ++ u = t at *
    refine (flip_in b _ _ _ hs3 (by omega) (by omega) (by omega)).mono ?_
    rintro _ w4 ⟨fl, rfl, hs4, hg4⟩
    have hG4 := gr_trans hG3 hg4
    cases fl
    · go_wp2_with fail
      go_ret
      exact ⟨t, rfl, by omega, HUA.out, hs4.mono (by omega), hG4⟩
    · go_wp2_with fail
      refine (changed_in b _ t ⟨#[97, 48, 47, 107, 49, 45]⟩ _ hs4 (by omega) (by omega) (by decide) HUA.out (fewA_of (n := 6) (by decide)).2).mono ?_
      rintro _ w5 ⟨z, rfl, hz, hza, hs5, hg5⟩
      have hz2 : z.size ≤ 30 := by
        have : (⟨#[97, 48, 47, 107, 49, 45]⟩ : ByteArray).size = 6 := rfl
        omega
      have HZ := Lib.hid hza
      clear hza hz
      go_wp2_with fail
      go_ret
      exact ⟨z, rfl, hz2, HZ.out, hs5.mono (by omega), gr_trans hG4 hg5⟩
  · have hs3 := hs2
    have hG3 := hG2
    have HUA := HVA
    have hsz : v.size ≤ 10 := by omega
    clear hs2 hG2
    go_wp2_with fail
    generalize v = t at *
    refine (flip_in b _ _ _ hs3 (by omega) (by omega) (by omega)).mono ?_
    rintro _ w4 ⟨fl, rfl, hs4, hg4⟩
    have hG4 := gr_trans hG3 hg4
    cases fl
    · go_wp2_with fail
      go_ret
      exact ⟨t, rfl, by omega, HUA.out, hs4.mono (by omega), hG4⟩
    · go_wp2_with fail
      refine (changed_in b _ t ⟨#[97, 48, 47, 107, 49, 45]⟩ _ hs4 (by omega) (by omega) (by decide) HUA.out (fewA_of (n := 6) (by decide)).2).mono ?_
      rintro _ w5 ⟨z, rfl, hz, hza, hs5, hg5⟩
      have hz2 : z.size ≤ 30 := by
        have : (⟨#[97, 48, 47, 107, 49, 45]⟩ : ByteArray).size = 6 := rfl
        omega
      have HZ := Lib.hid hza
      clear hza hz
      go_wp2_with fail
      go_ret
      exact ⟨z, rfl, hz2, HZ.out, hs5.mono (by omega), gr_trans hG4 hg5⟩
def RightCallPost (b k : Nat) (w : World) (e : Ending) (w' : World) : Prop :=
  ∃ u : ByteArray, e = .returned (.string u) ∧ u.size ≤ 30 ∧ Ascii u ∧ (partsOf u).isSome = true ∧ Str w' b (k + 48) ∧ w.grownBy w' (some b)
theorem partsOf_k1ab : (partsOf ⟨#[107, 49, 97, 98]⟩).isSome = true := by decide +kernel
set_option maxRecDepth 100000 in
set_option maxHeartbeats 4000000 in
theorem rightCall_in (b k : Nat) (w : World) (hs : Str w b k) (hk : k ≤ 1000000000) :
    Calls Tryz.prog 31 #[.pointer (some ⟨b, 0, none⟩)] w (RightCallPost b k w) := by
  go_enter Tryz.func31, Tryz.ntmps31
  go_wp2_with fail
  go_loopw [4] (fun i wr => ∃ j : Nat, j ≤ 6 ∧ i = .int .i64 j ∧ Str wr b (k + 8 * j) ∧ w.grownBy wr (some b)) (fun i _ => 6 - (intOf i).toNat)
  case atStart => exact ⟨0, by omega, rfl, hs, gr_refl _ _⟩
  case round =>
    obtain ⟨j, hj, rfl, hsr, hgr⟩ := hrel
    by_cases hlt : j < 6
    · have hjl : (j : Int) < 6 := by omega
      go_wp2_with fail
      refine (callOf_in b _ _ hsr (by omega)).mono ?_
      rintro _ w1 ⟨u, rfl, hu, hua, hs1, hg1⟩
      have HUA := Lib.hid hua
      have hG1 := gr_trans hgr hg1
      clear hua hg1 hsr
      go_wp2_with fail
      refine (refIsCall_any u _ (by omega) HUA.out).mono ?_
      rintro _ w2 ⟨rfl, hg2⟩
      have hs2 := hs1.grown hg2 (by simp)
      have hG2 := gr_trans hG1 (gr_weak hg2 (some b))
      cases hP : (partsOf u).isSome with
      | true =>
        have HP := Lib.hid hP
        clear hP
        go_wp2_with fail
        go_ret
        exact ⟨u, rfl, hu, HUA.out, HP.out, hs2.mono (by omega), hG2⟩
      | false =>
        clear hP
        go_wp2_with fail
        go_roundw
        case rel => exact ⟨j + 1, by omega, by go_num, hs2.mono (by omega), hG2⟩
        case measure => simp [intOf]; omega
    · have hjl : ¬ (j : Int) < 6 := by omega
      go_wp2_with fail
      go_ret
      exact ⟨_, rfl, by decide, (fewA_of (n := 4) (by decide)).2, partsOf_k1ab, hsr.mono (by omega), hgr⟩
end Go.Proofs.YtbpkfkbbkgdlaaaGreatDoor

namespace Go.Proofs.YtbpkfkbbkgdlaaaGreatDoor
open Go.RowKit
set_option linter.unusedVariables false
set_option linter.unusedSimpArgs false

theorem int_itZ {T : Int} (h0 : 0 ≤ T) (h1 : T < 345686400000) {w w' : World} {r : Ending} (h : IntPost (itZ T) 15 w r w') : r = .returned (.tuple #[.int .i64 T, .bool true]) ∧ w.grownBy w' none := by
  obtain ⟨u, rfl⟩ := Int.eq_ofNat_of_zero_le h0
  obtain ⟨h2, h3⟩ := int_itoa u (by have : (10 : Nat) ^ 15 = 1000000000000000 := by decide
                                    omega)
  have hd : (itZ (u : Int)).data.toList = Lib.decDigits u := by unfold itZ; simp
  obtain ⟨h4, h5⟩ := h
  rw [hd, h2, h3, Lib.itoa_nonneg] at h4
  exact ⟨by rw [h4]; simp, h5⟩
theorem told_step (t : Int) (v : ByteArray) (c : List (Int × ByteArray)) (k : Nat) (h : k < c.length) : toldL t v (c.take (k + 1)) = if c[k].1 ≤ t then c[k].2 else toldL t v (c.take k) := by
  unfold toldL
  rw [List.take_succ_eq_append_getElem h, List.foldl_append]
  rfl
theorem itZ_size (t : Int) (h0 : 0 ≤ t) (h1 : t < 345686400000) : (itZ t).size ≤ 15 := by
  obtain ⟨u, rfl⟩ := Int.eq_ofNat_of_zero_le h0
  have : (itZ (u : Int)).size = Lib.nDigits u := by
    unfold itZ
    rw [size_len']
    show (Lib.decDigits u).toArray.toList.length = _
    rw [List.toList_toArray, Lib.decDigits_length]
  rw [this]
  exact nDigits_bd 15 u (by have : (10 : Nat) ^ 15 = 1000000000000000 := by decide
                            omega) (by decide)
theorem itZ_0 : ((itZ 0).toList == [48]) = true := by
  rw [Lib.toList_data]
  unfold itZ
  simp [Lib.decDigits_one]
set_option maxRecDepth 100000 in
set_option maxHeartbeats 16000000 in
theorem toldLaw (A : Option Addr) (n c : Nat) (w : World) (hin : InX w A n) (hgl : Gl w.heap.size w) (hp : P10 w.heap.size w) :
    Calls Tryz.prog 6 #[.slice A n c] w fun r w' => r = .returned (.bool true) ∧ Below w.heap.size w w' := by
  obtain ⟨hn, L, hL, hcell⟩ := hin
  have hG0 := World.grownBy_alloc w (.cells #[.slice A n c, .int .i64 0] 25) none
  have sA := SX.start hn hL hcell hG0 (Blk.new w _ _) (Nat.le_refl _)
  have HGL := Lib.hid hgl
  have HPT := Lib.hid hp
  clear hn hL hcell hgl hp
  go_enter Tryz.func6, Tryz.ntmps6
  go_wp2_with fail
  generalize w.alloc (.cells #[.slice A n c, .int .i64 0] 25) = W0 at *
  obtain ⟨b, hb⟩ : ∃ b, w.heap.size = b := ⟨_, rfl⟩
  rw [hb] at sA HGL HPT ⊢
  have HB := Lib.hid hb
  obtain ⟨B1, hB1⟩ : ∃ B1, W0.heap.size = B1 := ⟨_, rfl⟩
  have hbB : b < B1 := by rw [← hB1]; exact sA.lt
  have HBB := Lib.hid hbB
  have HRT := Lib.hid (rightTable_e b b L 0 W0 sA (by decide))
  unfold RtPost at HRT
  rw [hB1] at HRT
  have HW0 : Hid (w.heap.size = b ∧ W0.heap.size = B1) := ⟨hb, hB1⟩
  clear hb hB1 sA hbB
  refine HRT.out.mono ?_
  rintro _ w1 ⟨u, v, l, p, k1, HR, rfl, hu, hv, hl1, hl6, hp24, hAE, hAP, hk0, hk1, sA1, hg1⟩
  have hG1 : w.grownBy w1 none := gr_grown hG0 hg1 (fun g e => by injection e with e; exact .inr (by have := HB.out; omega))
  have hEsm := ents_sm hAE
  have hPsm := pfxs_sm hAP (rtAll_ascii HR.out)
  have HU := Lib.hid hu
  have HV := Lib.hid hv
  have HESM := Lib.hid hEsm
  have HPSM := Lib.hid hPsm
  have hs1 := sA1.str
  clear hG0 hg1 hu hv hAE hAP HR HRT hEsm hPsm sA1 hl1 hl6 hp24
  go_wp2_with fail
  refine (rightCall_in b k1 _ hs1 (by omega)).mono ?_
  rintro _ w2 ⟨s, rfl, hs30, hsa, hcall, hs2, hg2⟩
  have HU2 := Lib.hid (EntsFrom.other HU.out hg2 HBB.out)
  have HV2 := Lib.hid (PfxsFrom.other HV.out hg2 HBB.out)
  have hG2 : w.grownBy w2 none := gr_grown hG1 hg2 (fun g e => by injection e with e; exact .inr (by have := HB.out; omega))
  have HSA := Lib.hid hsa
  have hic : isCall s = true := hcall
  obtain ⟨q, hq⟩ := Option.isSome_iff_exists.1 hcall
  have HQ := Lib.hid hq
  have HIC := Lib.hid hic
  clear hs1 hG1 hg2 HU HV hsa hcall hq hic
  go_wp2_with fail
  refine (range_in b (k1 + 48) 0 400 _ hs2 (by omega) (by omega) (by omega) (by omega)).mono ?_
  rintro _ w3 ⟨t, ht0, ht1, rfl, hs3, hg3⟩
  have HU3 := Lib.hid (EntsFrom.other HU2.out hg3 HBB.out)
  have HV3 := Lib.hid (PfxsFrom.other HV2.out hg3 HBB.out)
  have hG3 : w.grownBy w3 none := gr_grown hG2 hg3 (fun g e => by injection e with e; exact .inr (by have := HB.out; omega))
  clear hs2 hs3 hG2 hg3 HU2 HV2
  have HTF : Hid (∀ W, w3.grownBy W none → Calls Tryz.prog 11 #[u, v] W fun r w' => r = .returned (.int .i64 (tabE l p)) ∧ W.grownBy w' none) := fun W hW => tableFault_any B1 u v l p W (HU3.out.grown hW) HESM.out (HV3.out.grown hW) HPSM.out
  have HRD : Hid (∀ W, w3.grownBy W none → Calls Tryz.prog 29 #[] W fun r w' => r = .returned (.bool true) ∧ W.grownBy w' none) := fun W hW => ready_any b W (HGL.out.quiet (gr_trans hG3 hW))
  have HCH : Hid (tabE l p = 0 → ∀ W, w3.grownBy W none → Calls Tryz.prog 17 #[u, v, .string s] W fun r w' => ∃ V : Value, r = .returned (.tuple #[V, .int .i64 0]) ∧ PairsFrom W.heap.size w' V (chgL (nameAt l p s q) none (edgL l p (canL p s q) 0 345686400000)) ∧ W.grownBy w' none) := fun h W hW => by
    have hE : chgE l p s = 0 := by unfold chgE; rw [h, HIC.out]; simp
    refine (changes_any B1 u v l p s W (HU3.out.grown hW) HESM.out (HV3.out.grown hW) HPSM.out (by omega) HSA.out b (HPT.out.grown (gr_trans hG3 hW))).mono ?_
    rintro r w' ⟨V, o, rfl, ho, _, h2, hg⟩
    obtain rfl := (h2 hE).2 q HQ.out
    exact ⟨V, by rw [hE], ho, hg⟩
  have HOF : Hid (tabE l p = 0 → ∀ W, w3.grownBy W none → Calls Tryz.prog 15 #[u, v, .string s, .int .i64 t] W fun r w' => r = .returned (.tuple #[.agg #[.string ((fndOf l p s t q).getD fndZ0).1, .int .i64 ((fndOf l p s t q).getD fndZ0).2.1, .int .i64 ((fndOf l p s t q).getD fndZ0).2.2], .bool (fndOf l p s t q).isSome, .int .i64 0]) ∧ W.grownBy w' none) := fun h W hW => by
    have hE : ofE l p s t = 0 := by unfold ofE; rw [h, HIC.out]; simp [momE, spanE_no (show (0 : Int) ≤ t by omega) (show t ≤ 345686399999 by omega)]
    refine (of_any B1 u v l p s t W (HU3.out.grown hW) HESM.out (HV3.out.grown hW) HPSM.out (by omega) HSA.out).mono ?_
    rintro r w' ⟨O, rfl, _, h2, hg⟩
    obtain rfl := (h2 hE).2 q HQ.out
    exact ⟨by rw [hE], hg⟩
  have HPL : Hid (tabE l p = 0 → ∃ cs, chgL (nameAt l p s q) none (edgL l p (canL p s q) 0 345686400000) = cs ∧ (∃ h : 0 < cs.length, cs[0].1 = 0) ∧ toldL t ⟨#[]⟩ cs = nameAt l p s q t ∧ (∀ (i : Nat) (h : i + 1 < cs.length), cs[i].2 ≠ cs[i + 1].2) ∧ ∀ z ∈ cs, 0 ≤ z.1 ∧ z.1 < 345686400000) := fun h => by
    obtain ⟨y, r, h1, h2, h3, h4, h5⟩ := chg_told l p (tabE_ok h) s q t (by omega) (by omega)
    exact ⟨y :: r, h1, ⟨by simp, h2⟩, h3, h4, h5⟩
  have HNM : Hid (nameAt l p s q t = match fndOf l p s t q with | none => ⟨#[45]⟩ | some f => f.1) := rfl
  generalize nameAt l p s q t = NM at *
  generalize fndOf l p s t q = O at *
  generalize chgL (nameAt l p s q) none (edgL l p (canL p s q) 0 345686400000) = CS at *
  generalize tabE l p = E at *
  have HP3 : Hid (P10 b w3) := HPT.out.grown hG3
  clear HU3 HV3 HESM HPSM HQ HIC HSA HPT HGL
  go_wp2_with fail
  refine (HTF.out _ (gr_refl _ _)).mono ?_
  rintro _ w4 ⟨rfl, hg4⟩
  clear HTF
  by_cases hE0 : E = 0
  · have HCH2 := Lib.hid (HCH.out hE0)
    have HOF2 := Lib.hid (HOF.out hE0)
    obtain ⟨cs, rfl, ⟨hc0, hc1⟩, hc2, hc3, hc4⟩ := HPL.out hE0
    subst hE0
    clear HCH HOF HPL
    go_wp2_with fail
    refine (HCH2.out _ hg4).mono ?_
    rintro _ w5 ⟨V, rfl, hV, hg5⟩
    have hg35 := gr_trans hg4 hg5
    obtain ⟨A3, c3, rfl, hcl, hA3⟩ := hV.shape
    obtain ⟨g3, rfl, _, hg3l⟩ := hA3 hc0
    obtain ⟨CL, hCL⟩ : ∃ CL, CS.length = CL := ⟨_, rfl⟩
    have HV5 := Lib.hid hV
    have HCL := Lib.hid hCL
    have HC1 := Lib.hid hc1
    have HC2 := Lib.hid hc2
    have HC3 := Lib.hid hc3
    have HC4 := Lib.hid hc4
    rw [hCL] at hc0 hcl
    (try rw [hCL])
    clear hV hCL hc1 hc2 hc3 hc4 hA3 hg4 hg5 HCH2
    go_wp2_with fail
    refine (HOF2.out _ hg35).mono ?_
    rintro _ w6 ⟨rfl, hg6⟩
    clear HOF2
    have hX := Blk.new w6 38 #[.string (O.getD fndZ0).1, .int .i64 (O.getD fndZ0).2.1, .int .i64 (O.getD fndZ0).2.2]
    have hgX := World.grownBy_alloc w6 (.cells #[.string (O.getD fndZ0).1, .int .i64 (O.getD fndZ0).2.1, .int .i64 (O.getD fndZ0).2.2] 38) none
    go_upto_region 8 with fail
    generalize w6.alloc (.cells #[.string (O.getD fndZ0).1, .int .i64 (O.getD fndZ0).2.1, .int .i64 (O.getD fndZ0).2.2] 38) = w7 at *
    generalize w6.heap.size = gX at *
    have hg57 := gr_trans hg6 hgX
    have HG7 := Lib.hid (gr_trans hG3 (gr_trans hg35 hg57))
    have HG37 := Lib.hid (gr_trans hg35 hg57)
    have HV7 := Lib.hid (PairsFrom.grown HV5.out hg57)
    have hq0 := ((HV7.out.at_ 0 (by rw [HCL.out]; exact hc0)).1)
    rw [HC1.out, Nat.zero_mul] at hq0
    have hz0 := itZ_0
    generalize itZ 0 = ZS at *
    have hcz : ((CL : Int) == 0) = false := by rw [beq_eq_false_iff_ne]; omega
    have hc0i : (0 : Int) < (CL : Int) := by omega
    have HX := Lib.hid hX
    clear hX hg6 hgX hg35 hg57 HV5 hG3
    go_wp2_with fail
    go_loopw [13, 71] (fun tv kv wr => ∃ k : Nat, k ≤ CL ∧ kv = .int .i64 k ∧ tv = .string (toldL t ⟨#[]⟩ (CS.take k)) ∧ w7.grownBy wr none) (fun _ kv _ => CL - (intOf kv).toNat)
    case atStart => exact ⟨0, by omega, rfl, rfl, gr_refl _ _⟩
    case round =>
      obtain ⟨k, hk, rfl, rfl, hg⟩ := hrel
      clear hq0 hz0 hcz hc0i
      by_cases hlt : k < CL
      · have hki : (k : Int) < (CL : Int) := by omega
        have hk0 : (0 : Int) ≤ (k : Int) := by omega
        have hkl : k < CS.length := by rw [HCL.out]; exact hlt
        have hrow : PairsFrom w4.heap.size wr (.slice (some ⟨g3, 0, none⟩) CS.length c3) CS := PairsFrom.grown HV7.out hg
        obtain ⟨r0, r1⟩ := hrow.at_ k hkl
        have hst := told_step t ⟨#[]⟩ CS k hkl
        have hbd := HC4.out _ (List.getElem_mem hkl)
        have HPV : Hid (∀ P, P + 1 = k → ∃ Y, wr.cell? ⟨g3, P * 2 + 1, none⟩ = some (.string Y) ∧ ¬ (CS[k].2 = Y)) := fun P hP => by
          subst hP
          exact ⟨_, (hrow.at_ P (by omega)).2, fun e => HC3.out P hkl e.symm⟩
        generalize hT : CS[k].1 = T at *
        generalize hY : CS[k].2 = Y at *
        have hzs := itZ_size T hbd.1 hbd.2
        have HINT : Hid (∀ W, w3.grownBy W none → Calls Tryz.prog 39 #[.string (itZ T), .int .i64 15] W fun r w' => r = .returned (.tuple #[.int .i64 T, .bool true]) ∧ W.grownBy w' none) := fun W hW => (refInt_any b (itZ T) 15 W (by omega) (by decide) (by decide) (HP3.out.grown hW)).mono fun r w' h => int_itZ hbd.1 hbd.2 h
        generalize itZ T = ZT at *
        have HST := Lib.hid hst
        clear hst hrow hT hY hzs
        generalize toldL t ⟨#[]⟩ (CS.take k) = TV at *
        have hYb := Blk.new wr 58 #[.string ZT, .string Y]
        have hgY := World.grownBy_alloc wr (.cells #[.string ZT, .string Y] 58) none
        go_upto_region 14 with fail
        have HPV2 : Hid (∀ P, P + 1 = k → ∃ Z, (wr.alloc (.cells #[.string ZT, .string Y] 58)).cell? ⟨g3, P * 2 + 1, none⟩ = some (.string Z) ∧ ¬ (Y = Z)) := fun P hP => by
          obtain ⟨Z, h1, h2⟩ := HPV.out P hP
          exact ⟨Z, hgY.cell h1 (by simp), h2⟩
        generalize wr.alloc (.cells #[.string ZT, .string Y] 58) = w8 at *
        generalize wr.heap.size = gY at *
        have hg8 := gr_trans hg hgY
        have y0 := hYb.cell 0
        simp only [List.getElem?_toArray, List.getElem?_cons_zero] at y0
        clear hg hgY r0 r1 HPV
        go_wp2_with fail
        refine (HINT.out _ (gr_trans HG37.out hg8)).mono ?_
        rintro _ w9 ⟨rfl, hg9⟩
        have hg79 := gr_trans hg8 hg9
        have y1 := ((hYb.grown hg9 (by simp)).cell 1).trans rfl
        have HPV3 : Hid (∀ P, P + 1 = k → ∃ Z, w9.cell? ⟨g3, P * 2 + 1, none⟩ = some (.string Z) ∧ ¬ (Y = Z)) := fun P hP => by
          obtain ⟨Z, h1, h2⟩ := HPV2.out P hP
          exact ⟨Z, hg9.cell h1 (by simp), h2⟩
        clear y0 hYb HINT HPV2
        go_upto_region 15 with fail
        go_cut [98] (fun bv wx => bv = .bool false ∧ w9.grownBy wx none)
        case first =>
          as_aux_lemma =>
            rcases Nat.eq_zero_or_pos k with h0 | h0
            · have hd0 : decide ((0 : Int) < (k : Int)) = false := by rw [decide_eq_false_iff_not]; omega
              have hd1 : decide (0 < k) = false := by rw [decide_eq_false_iff_not]; omega
              refine wp_region_held_drew (S := fun _ => True) (by kernel_rfl) trivial (fun hHeld => ?_)
              refine wpAnyH_take (i := 0) (v := ?_) rfl (by kernel_rfl) (by kernel_rfl) (by kernel_rfl) (fun _ _ _ h => h) (Or.inl ⟨by kernel_rfl, ?_⟩) hHeld ?_
              rotate_left
              · intro w hSw
                (try dsimp only at hSw)
                go_simp
                (try with_reducible rfl)
              change wpAnyH _ _ _ _ _ _ _ (Act.put _ (some 82) _) _
              simp only [Act.put, List.setIfInBounds_toArray, List.set_cons_zero, List.set_cons_succ]
              refine wpAnyH_take (i := 1) (v := ?_) rfl (by kernel_rfl) (by kernel_rfl) (by kernel_rfl) (fun _ _ _ h => h) (Or.inl ⟨by kernel_rfl, ?_⟩) hHeld ?_
              rotate_left
              · intro w hSw
                (try dsimp only at hSw)
                go_simp
                (try with_reducible rfl)
              change wpAnyH _ _ _ _ _ _ _ (Act.put _ (some 83) _) _
              simp only [Act.put, List.setIfInBounds_toArray, List.set_cons_zero, List.set_cons_succ]
              refine wpAnyH_take (i := 2) (v := ?_) rfl (by kernel_rfl) (by kernel_rfl) (by kernel_rfl) (fun _ _ _ h => h) (Or.inl ⟨by kernel_rfl, ?_⟩) hHeld ?_
              rotate_left
              · intro w hSw
                (try dsimp only at hSw)
                go_simp
                (try with_reducible rfl)
              change wpAnyH _ _ _ _ _ _ _ (Act.put _ (some 84) _) _
              simp only [Act.put, List.setIfInBounds_toArray, List.set_cons_zero, List.set_cons_succ]
              refine wpAnyH_take (i := 3) (v := ?_) rfl (by kernel_rfl) (by kernel_rfl) (by kernel_rfl) (fun _ _ _ h => h) (Or.inl ⟨by kernel_rfl, ?_⟩) hHeld ?_
              rotate_left
              · intro w hSw
                (try dsimp only at hSw)
                go_simp
                (try with_reducible rfl)
              change wpAnyH _ _ _ _ _ _ _ (Act.put _ (some 85) _) _
              simp only [Act.put, List.setIfInBounds_toArray, List.set_cons_zero, List.set_cons_succ]
              refine wpAnyH_take (i := 4) (v := ?_) rfl (by kernel_rfl) (by kernel_rfl) (by kernel_rfl) (fun _ _ _ h => h) (Or.inl ⟨by kernel_rfl, ?_⟩) hHeld ?_
              rotate_left
              · intro w hSw
                (try dsimp only at hSw)
                go_simp
                (try with_reducible rfl)
              change wpAnyH _ _ _ _ _ _ _ (Act.put _ (some 86) _) _
              simp only [Act.put, List.setIfInBounds_toArray, List.set_cons_zero, List.set_cons_succ]
              refine wpAnyH_take (i := 5) (v := ?_) rfl (by kernel_rfl) (by kernel_rfl) (by kernel_rfl) (fun _ _ _ h => h) (Or.inl ⟨by kernel_rfl, ?_⟩) hHeld ?_
              rotate_left
              · intro w hSw
                (try dsimp only at hSw)
                go_simp
                (try with_reducible rfl)
              change wpAnyH _ _ _ _ _ _ _ (Act.put _ (some 87) _) _
              simp only [Act.put, List.setIfInBounds_toArray, List.set_cons_zero, List.set_cons_succ]
              refine wpAnyH_take (i := 6) (v := undef) rfl (by kernel_rfl) (by kernel_rfl) (by kernel_rfl) (fun _ _ _ h => h) (Or.inr ⟨by kernel_rfl, rfl⟩) hHeld ?_
              change wpAnyH _ _ _ _ _ _ _ (Act.put _ (some 88) _) _
              simp only [Act.put, List.setIfInBounds_toArray, List.set_cons_zero, List.set_cons_succ]
              refine wpAnyH_take (i := 7) (v := undef) rfl (by kernel_rfl) (by kernel_rfl) (by kernel_rfl) (fun _ _ _ h => h) (Or.inr ⟨by kernel_rfl, rfl⟩) hHeld ?_
              change wpAnyH _ _ _ _ _ _ _ (Act.put _ (some 89) _) _
              simp only [Act.put, List.setIfInBounds_toArray, List.set_cons_zero, List.set_cons_succ]
              refine wpAnyH_take (i := 8) (v := undef) rfl (by kernel_rfl) (by kernel_rfl) (by kernel_rfl) (fun _ _ _ h => h) (Or.inr ⟨by kernel_rfl, rfl⟩) hHeld ?_
              change wpAnyH _ _ _ _ _ _ _ (Act.put _ (some 90) _) _
              simp only [Act.put, List.setIfInBounds_toArray, List.set_cons_zero, List.set_cons_succ]
              refine wpAnyH_take (i := 9) (v := undef) rfl (by kernel_rfl) (by kernel_rfl) (by kernel_rfl) (fun _ _ _ h => h) (Or.inr ⟨by kernel_rfl, rfl⟩) hHeld ?_
              change wpAnyH _ _ _ _ _ _ _ (Act.put _ (some 91) _) _
              simp only [Act.put, List.setIfInBounds_toArray, List.set_cons_zero, List.set_cons_succ]
              refine wpAnyH_take (i := 10) (v := undef) rfl (by kernel_rfl) (by kernel_rfl) (by kernel_rfl) (fun _ _ _ h => h) (Or.inr ⟨by kernel_rfl, rfl⟩) hHeld ?_
              change wpAnyH _ _ _ _ _ _ _ (Act.put _ (some 92) _) _
              simp only [Act.put, List.setIfInBounds_toArray, List.set_cons_zero, List.set_cons_succ]
              refine wpAnyH_take (i := 11) (v := undef) rfl (by kernel_rfl) (by kernel_rfl) (by kernel_rfl) (fun _ _ _ h => h) (Or.inr ⟨by kernel_rfl, rfl⟩) hHeld ?_
              change wpAnyH _ _ _ _ _ _ _ (Act.put _ (some 93) _) _
              simp only [Act.put, List.setIfInBounds_toArray, List.set_cons_zero, List.set_cons_succ]
              refine wpAnyH_take (i := 12) (v := undef) rfl (by kernel_rfl) (by kernel_rfl) (by kernel_rfl) (fun _ _ _ h => h) (Or.inr ⟨by kernel_rfl, rfl⟩) hHeld ?_
              change wpAnyH _ _ _ _ _ _ _ (Act.put _ (some 94) _) _
              simp only [Act.put, List.setIfInBounds_toArray, List.set_cons_zero, List.set_cons_succ]
              refine wpAnyH_take (i := 13) (v := undef) rfl (by kernel_rfl) (by kernel_rfl) (by kernel_rfl) (fun _ _ _ h => h) (Or.inr ⟨by kernel_rfl, rfl⟩) hHeld ?_
              change wpAnyH _ _ _ _ _ _ _ (Act.put _ (some 95) _) _
              simp only [Act.put, List.setIfInBounds_toArray, List.set_cons_zero, List.set_cons_succ]
              refine wpAnyH_take (i := 14) (v := undef) rfl (by kernel_rfl) (by kernel_rfl) (by kernel_rfl) (fun _ _ _ h => h) (Or.inr ⟨by kernel_rfl, rfl⟩) hHeld ?_
              change wpAnyH _ _ _ _ _ _ _ (Act.put _ (some 96) _) _
              simp only [Act.put, List.setIfInBounds_toArray, List.set_cons_zero, List.set_cons_succ]
              refine wpAnyH_take (i := 15) (v := ?_) rfl (by kernel_rfl) (by kernel_rfl) (by kernel_rfl) (fun _ _ _ h => h) (Or.inl ⟨by kernel_rfl, ?_⟩) hHeld ?_
              rotate_left
              · intro w hSw
                (try dsimp only at hSw)
                go_simp
                (try with_reducible rfl)
              change wpAnyH _ _ _ _ _ _ _ (Act.put _ (some 97) _) _
              simp only [Act.put, List.setIfInBounds_toArray, List.set_cons_zero, List.set_cons_succ]
              refine wpAnyH_take (i := 16) (v := ?_) rfl (by kernel_rfl) (by kernel_rfl) (by kernel_rfl) (fun _ _ _ h => h) (Or.inl ⟨by kernel_rfl, ?_⟩) hHeld ?_
              rotate_left
              · intro w hSw
                (try dsimp only at hSw)
                go_simp
                (try with_reducible rfl)
              change wpAnyH _ _ _ _ _ _ _ (Act.put _ (some 98) _) _
              simp only [Act.put, List.setIfInBounds_toArray, List.set_cons_zero, List.set_cons_succ]
              refine wpAnyH_done (by kernel_rfl) ?_ _
              go_wp2_with fail
              go_meet
              exact ⟨rfl, gr_drew (gr_refl _ _)⟩
            · have hd0 : decide ((0 : Int) < (k : Int)) = true := by rw [decide_eq_true_eq]; omega
              have hd1 : decide (0 < k) = true := by rw [decide_eq_true_eq]; omega
              obtain ⟨P, hP⟩ : ∃ P, P + 1 = k := ⟨k - 1, by omega⟩
              obtain ⟨Z, z1, z2⟩ := HPV3.out P hP
              have hw1 : IntKind.i64.wrap ((k : Int) - 1) = (P : Int) := by rw [IntKind.wrap_i64]; omega
              have hPL : (P : Int) < (CL : Int) := by omega
              have hP0 : (0 : Int) ≤ (P : Int) := by omega
              have hbb := str_no z2
              clear hP z2 h0
              refine wp_region_held_drew (S := fun W => W.cell? ⟨gY, 1, none⟩ = some (.string Y) ∧ W.cell? ⟨g3, P * 2 + 1, none⟩ = some (.string Z)) (by kernel_rfl) ⟨y1, z1⟩ (fun hHeld => ?_)
              refine wpAnyH_take (i := 0) (v := ?_) rfl (by kernel_rfl) (by kernel_rfl) (by kernel_rfl) (fun _ _ _ h => h) (Or.inl ⟨by kernel_rfl, ?_⟩) hHeld ?_
              rotate_left
              · intro w hSw
                (try dsimp only at hSw)
                obtain ⟨hS0, hS1⟩ := hSw
                go_simp
                (try with_reducible rfl)
              change wpAnyH _ _ _ _ _ _ _ (Act.put _ (some 82) _) _
              simp only [Act.put, List.setIfInBounds_toArray, List.set_cons_zero, List.set_cons_succ]
              refine wpAnyH_take (i := 1) (v := ?_) rfl (by kernel_rfl) (by kernel_rfl) (by kernel_rfl) (fun _ _ _ h => h) (Or.inl ⟨by kernel_rfl, ?_⟩) hHeld ?_
              rotate_left
              · intro w hSw
                (try dsimp only at hSw)
                obtain ⟨hS0, hS1⟩ := hSw
                go_simp
                (try with_reducible rfl)
              change wpAnyH _ _ _ _ _ _ _ (Act.put _ (some 83) _) _
              simp only [Act.put, List.setIfInBounds_toArray, List.set_cons_zero, List.set_cons_succ]
              refine wpAnyH_take (i := 2) (v := ?_) rfl (by kernel_rfl) (by kernel_rfl) (by kernel_rfl) (fun _ _ _ h => h) (Or.inl ⟨by kernel_rfl, ?_⟩) hHeld ?_
              rotate_left
              · intro w hSw
                (try dsimp only at hSw)
                obtain ⟨hS0, hS1⟩ := hSw
                go_simp
                (try with_reducible rfl)
              change wpAnyH _ _ _ _ _ _ _ (Act.put _ (some 84) _) _
              simp only [Act.put, List.setIfInBounds_toArray, List.set_cons_zero, List.set_cons_succ]
              refine wpAnyH_take (i := 3) (v := ?_) rfl (by kernel_rfl) (by kernel_rfl) (by kernel_rfl) (fun _ _ _ h => h) (Or.inl ⟨by kernel_rfl, ?_⟩) hHeld ?_
              rotate_left
              · intro w hSw
                (try dsimp only at hSw)
                obtain ⟨hS0, hS1⟩ := hSw
                go_simp
                (try with_reducible rfl)
              change wpAnyH _ _ _ _ _ _ _ (Act.put _ (some 85) _) _
              simp only [Act.put, List.setIfInBounds_toArray, List.set_cons_zero, List.set_cons_succ]
              refine wpAnyH_take (i := 4) (v := ?_) rfl (by kernel_rfl) (by kernel_rfl) (by kernel_rfl) (fun _ _ _ h => h) (Or.inl ⟨by kernel_rfl, ?_⟩) hHeld ?_
              rotate_left
              · intro w hSw
                (try dsimp only at hSw)
                obtain ⟨hS0, hS1⟩ := hSw
                go_simp
                (try with_reducible rfl)
              change wpAnyH _ _ _ _ _ _ _ (Act.put _ (some 86) _) _
              simp only [Act.put, List.setIfInBounds_toArray, List.set_cons_zero, List.set_cons_succ]
              refine wpAnyH_take (i := 5) (v := ?_) rfl (by kernel_rfl) (by kernel_rfl) (by kernel_rfl) (fun _ _ _ h => h) (Or.inl ⟨by kernel_rfl, ?_⟩) hHeld ?_
              rotate_left
              · intro w hSw
                (try dsimp only at hSw)
                obtain ⟨hS0, hS1⟩ := hSw
                go_simp
                (try with_reducible rfl)
              change wpAnyH _ _ _ _ _ _ _ (Act.put _ (some 87) _) _
              simp only [Act.put, List.setIfInBounds_toArray, List.set_cons_zero, List.set_cons_succ]
              refine wpAnyH_take (i := 6) (v := ?_) rfl (by kernel_rfl) (by kernel_rfl) (by kernel_rfl) (fun _ _ _ h => h) (Or.inl ⟨by kernel_rfl, ?_⟩) hHeld ?_
              rotate_left
              · intro w hSw
                (try dsimp only at hSw)
                obtain ⟨hS0, hS1⟩ := hSw
                go_simp
                (try with_reducible rfl)
              change wpAnyH _ _ _ _ _ _ _ (Act.put _ (some 88) _) _
              simp only [Act.put, List.setIfInBounds_toArray, List.set_cons_zero, List.set_cons_succ]
              refine wpAnyH_take (i := 7) (v := ?_) rfl (by kernel_rfl) (by kernel_rfl) (by kernel_rfl) (fun _ _ _ h => h) (Or.inl ⟨by kernel_rfl, ?_⟩) hHeld ?_
              rotate_left
              · intro w hSw
                (try dsimp only at hSw)
                obtain ⟨hS0, hS1⟩ := hSw
                go_simp
                (try with_reducible rfl)
              change wpAnyH _ _ _ _ _ _ _ (Act.put _ (some 89) _) _
              simp only [Act.put, List.setIfInBounds_toArray, List.set_cons_zero, List.set_cons_succ]
              refine wpAnyH_take (i := 8) (v := ?_) rfl (by kernel_rfl) (by kernel_rfl) (by kernel_rfl) (fun _ _ _ h => h) (Or.inl ⟨by kernel_rfl, ?_⟩) hHeld ?_
              rotate_left
              · intro w hSw
                (try dsimp only at hSw)
                obtain ⟨hS0, hS1⟩ := hSw
                go_simp
                (try with_reducible rfl)
              change wpAnyH _ _ _ _ _ _ _ (Act.put _ (some 90) _) _
              simp only [Act.put, List.setIfInBounds_toArray, List.set_cons_zero, List.set_cons_succ]
              refine wpAnyH_take (i := 9) (v := ?_) rfl (by kernel_rfl) (by kernel_rfl) (by kernel_rfl) (fun _ _ _ h => h) (Or.inl ⟨by kernel_rfl, ?_⟩) hHeld ?_
              rotate_left
              · intro w hSw
                (try dsimp only at hSw)
                obtain ⟨hS0, hS1⟩ := hSw
                go_simp
                (try with_reducible rfl)
              change wpAnyH _ _ _ _ _ _ _ (Act.put _ (some 91) _) _
              simp only [Act.put, List.setIfInBounds_toArray, List.set_cons_zero, List.set_cons_succ]
              refine wpAnyH_take (i := 10) (v := ?_) rfl (by kernel_rfl) (by kernel_rfl) (by kernel_rfl) (fun _ _ _ h => h) (Or.inl ⟨by kernel_rfl, ?_⟩) hHeld ?_
              rotate_left
              · intro w hSw
                (try dsimp only at hSw)
                obtain ⟨hS0, hS1⟩ := hSw
                go_simp
                (try with_reducible rfl)
              change wpAnyH _ _ _ _ _ _ _ (Act.put _ (some 92) _) _
              simp only [Act.put, List.setIfInBounds_toArray, List.set_cons_zero, List.set_cons_succ]
              refine wpAnyH_take (i := 11) (v := ?_) rfl (by kernel_rfl) (by kernel_rfl) (by kernel_rfl) (fun _ _ _ h => h) (Or.inl ⟨by kernel_rfl, ?_⟩) hHeld ?_
              rotate_left
              · intro w hSw
                (try dsimp only at hSw)
                obtain ⟨hS0, hS1⟩ := hSw
                go_simp
                (try with_reducible rfl)
              change wpAnyH _ _ _ _ _ _ _ (Act.put _ (some 93) _) _
              simp only [Act.put, List.setIfInBounds_toArray, List.set_cons_zero, List.set_cons_succ]
              refine wpAnyH_take (i := 12) (v := ?_) rfl (by kernel_rfl) (by kernel_rfl) (by kernel_rfl) (fun _ _ _ h => h) (Or.inl ⟨by kernel_rfl, ?_⟩) hHeld ?_
              rotate_left
              · intro w hSw
                (try dsimp only at hSw)
                obtain ⟨hS0, hS1⟩ := hSw
                go_simp
                (try with_reducible rfl)
              change wpAnyH _ _ _ _ _ _ _ (Act.put _ (some 94) _) _
              simp only [Act.put, List.setIfInBounds_toArray, List.set_cons_zero, List.set_cons_succ]
              refine wpAnyH_take (i := 13) (v := ?_) rfl (by kernel_rfl) (by kernel_rfl) (by kernel_rfl) (fun _ _ _ h => h) (Or.inl ⟨by kernel_rfl, ?_⟩) hHeld ?_
              rotate_left
              · intro w hSw
                (try dsimp only at hSw)
                obtain ⟨hS0, hS1⟩ := hSw
                go_simp
                (try with_reducible rfl)
              change wpAnyH _ _ _ _ _ _ _ (Act.put _ (some 95) _) _
              simp only [Act.put, List.setIfInBounds_toArray, List.set_cons_zero, List.set_cons_succ]
              refine wpAnyH_take (i := 14) (v := ?_) rfl (by kernel_rfl) (by kernel_rfl) (by kernel_rfl) (fun _ _ _ h => h) (Or.inl ⟨by kernel_rfl, ?_⟩) hHeld ?_
              rotate_left
              · intro w hSw
                (try dsimp only at hSw)
                obtain ⟨hS0, hS1⟩ := hSw
                go_simp
                (try with_reducible rfl)
              change wpAnyH _ _ _ _ _ _ _ (Act.put _ (some 96) _) _
              simp only [Act.put, List.setIfInBounds_toArray, List.set_cons_zero, List.set_cons_succ]
              refine wpAnyH_take (i := 15) (v := ?_) rfl (by kernel_rfl) (by kernel_rfl) (by kernel_rfl) (fun _ _ _ h => h) (Or.inl ⟨by kernel_rfl, ?_⟩) hHeld ?_
              rotate_left
              · intro w hSw
                (try dsimp only at hSw)
                obtain ⟨hS0, hS1⟩ := hSw
                go_simp
                (try with_reducible rfl)
              change wpAnyH _ _ _ _ _ _ _ (Act.put _ (some 97) _) _
              simp only [Act.put, List.setIfInBounds_toArray, List.set_cons_zero, List.set_cons_succ]
              refine wpAnyH_take (i := 16) (v := ?_) rfl (by kernel_rfl) (by kernel_rfl) (by kernel_rfl) (fun _ _ _ h => h) (Or.inl ⟨by kernel_rfl, ?_⟩) hHeld ?_
              rotate_left
              · intro w hSw
                (try dsimp only at hSw)
                obtain ⟨hS0, hS1⟩ := hSw
                go_simp
                (try with_reducible rfl)
              change wpAnyH _ _ _ _ _ _ _ (Act.put _ (some 98) _) _
              simp only [Act.put, List.setIfInBounds_toArray, List.set_cons_zero, List.set_cons_succ]
              refine wpAnyH_done (by kernel_rfl) ?_ _
              go_wp2_with fail
              go_meet
              exact ⟨rfl, gr_drew (gr_refl _ _)⟩
        case rest =>
          obtain ⟨rfl, hgx⟩ := hcut
          rename World => w10
          have y1 := hgx.cell y1 (by simp)
          have hg710 := gr_trans hg79 hgx
          clear HPV3
          by_cases hle : T ≤ t
          · have HN : Hid (toldL t ⟨#[]⟩ (CS.take (k + 1)) = Y) := by show _ = _; rw [HST.out, if_pos hle]
            go_wp2_with fail
            go_roundw
            case rel => exact ⟨k + 1, by omega, by go_num, by rw [HN.out], hg710⟩
            case measure => simp [intOf]; omega
          · have HN : Hid (toldL t ⟨#[]⟩ (CS.take (k + 1)) = TV) := by show _ = _; rw [HST.out, if_neg hle]
            go_wp2_with fail
            go_roundw
            case rel => exact ⟨k + 1, by omega, by go_num, by rw [HN.out], hg710⟩
            case measure => simp [intOf]; omega
      · have hkl : ¬ (k : Int) < (CL : Int) := by omega
        have hTV : toldL t ⟨#[]⟩ (CS.take k) = NM := by rw [List.take_of_length_le (by rw [HCL.out]; omega)]; exact HC2.out
        generalize toldL t ⟨#[]⟩ (CS.take k) = TV at *
        have hx0 := ((HX.out.grown hg (by simp)).cell 0).trans rfl
        have HRD2 := Lib.hid (HRD.out _ (gr_trans HG37.out hg))
        have HGW := Lib.hid (gr_trans HG7.out hg)
        clear HRD
        rcases O with _ | F
        · have h9 : NM = ⟨#[45]⟩ := HNM.out
          have hbb : (TV.toList == [45]) = true := by rw [hTV, h9, Lib.toList_data]; rfl
          clear hTV h9 HNM hx0
          go_wp2_with fail
          refine HRD2.out.mono ?_
          rintro _ w11 ⟨rfl, hg11⟩
          go_wp2_with fail
          go_ret
          exact ⟨rfl, gr_below (gr_trans HGW.out hg11)⟩
        · have h9 : NM = F.1 := HNM.out
          have hx1 : wr.cell? ⟨gX, 0, none⟩ = some (.string F.1) := hx0
          have hbb : (TV.toList == F.1.toList) = true := by rw [hTV, h9]; simp
          generalize F.1 = F1 at *
          clear hTV h9 HNM hx0
          go_wp2_with fail
          refine HRD2.out.mono ?_
          rintro _ w11 ⟨rfl, hg11⟩
          go_wp2_with fail
          go_ret
          exact ⟨rfl, gr_below (gr_trans HGW.out hg11)⟩
  · have hE1 : (E == 0) = false := by rw [beq_eq_false_iff_ne]; exact hE0
    clear HCH HOF HPL hE0
    go_wp2_with fail
    refine (HRD.out _ hg4).mono ?_
    rintro _ w5 ⟨rfl, hg5⟩
    go_wp2_with fail
    go_ret
    exact ⟨rfl, gr_below (gr_trans hG3 (gr_trans hg4 hg5))⟩
end Go.Proofs.YtbpkfkbbkgdlaaaGreatDoor

namespace Go.Proofs.YtbpkfkbbkgdlaaaGreatDoor
open Go.ChangeShapes Go.WideShapes Go.ChangeAt Go.RowKit
set_option linter.unusedVariables false

theorem cardOwn : ownKnob Tryz.prog.godebug = none := by kernel_rfl
theorem cardLaidOut : laidOutB Tryz.prog = true := by kernel_rfl
/-- A contract in worlds that meet a condition and are shaped as the program lays them. -/
theorem returns_both {H : Type} {enc : TypeId × Value → H} {a : Assume} {C : Checked} {os : Os} {f : FuncId} {fn : Func} {s : ChangeSpec} {conds : List PathCond} {apart fresh handsOn again : Bool} {X : World → Array Value → Prop}
    (hX : ∀ (w w' : World) (args : Array Value), w.heap = w'.heap → X w args → X w' args)
    (own : ownKnob C.prog.godebug = none) (started : os.Started) (noInit : C.prog.inits.idxOf? f = none) (hfn : C.prog.funcs[f]? = some fn)
    (witness : ∃ (w : World) (tape : Tape) (i : Input), w.os = os ∧ (w.forCall tape i).Shaped C.prog ∧ i.vars = [] ∧ Input.okWide C.prog (w.forCall tape i) .any w.heap.size f i ∧
      ((s.pre enc C.prog fn conds apart (w.forCall tape i).memory i.args ∧ X (w.forCall tape i).memory i.args) ∧ sizedMet enc C.prog fn (OpenSpec.ofChange s) apart (w.forCall tape i).memory i.args) ∧ a.holds C.prog (lone (Frame.enter C.prog f i.args .normal) [] (w.forCall tape i)))
    (contract : ∀ (W : World) (base : Nat) (args : Array Value) (ds gs : List (DataW H)) (before : List MemPlace),
      (∀ (j : Nat) t v, fn.params[j]? = some t → args[j]? = some v → Value.okWide C.prog W .any base t v) →
      DataW.Whole enc C.prog fn.params.toList s.vars apart W args.toList ds gs before → X W args → W.ShapedOpen C.prog →
      Calls C.prog f args W fun e W' => ∃ v, e = .returned v ∧ s.post enc C.prog fn apart fresh handsOn again W args v W') :
    ReturnsInHanded a C os f .any (fun w args => (s.pre enc C.prog fn conds apart w args ∧ X w args) ∧ sizedMet enc C.prog fn (OpenSpec.ofChange s) apart w args) (s.post enc C.prog fn apart fresh handsOn again) := by
  refine returnsInHanded_of_calls own started noInit witness ?_
  intro w tape i _ hsh _ hok hpre hholds
  obtain ⟨_, _, _, fn', hfn', _, _, _, _, hval⟩ := hok
  have e : fn' = fn := Option.some.inj (hfn'.symm.trans hfn)
  subst e
  obtain ⟨⟨⟨ds, gs, before, hw, hc⟩, hx⟩, hz⟩ := hpre
  have hw' := DataW.Whole.of_heap (w' := w.forCall tape i) (by rfl) hw
  refine (contract (w.forCall tape i) w.heap.size i.args ds gs before hval hw' (hX _ _ _ (by rfl) hx) hsh).mono fun e W' ⟨v, he, hp⟩ => ?_
  subst he
  exact ChangeSpec.post_blind hp
/-- The condition on variables, by one run; that no cell is met twice goes by a number's bits. -/
theorem laidMet_of_bits {P : Program} {w : World} {l : List (String × DataW Unit)} (fuel M : Nat) (h : (DataW.laidRun P w fuel (l.map (·.1))).map (·.1) = some l)
    (hn : (DataW.laidRun P w fuel (l.map (·.1))).map (fun x => nodupBits M x.2 0) = some true)
    (hr : (DataW.laidRun P w fuel (l.map (·.1))).map (fun x => laidRowsB P w x.2) = some true) : laidMet P l w := by
  cases hx : DataW.laidRun P w fuel (l.map (·.1)) with
  | none => simp [hx] at h
  | some x =>
    obtain ⟨l', ps⟩ := x
    simp only [hx, Option.map_some, Option.some.injEq] at h hr hn
    subst h
    exact laidMet_of_run fuel hx (decide_eq_true (nodupBits_sound hn).1) hr
/-- The cells of a datum that is a row of plain numbers. -/
def cellsD : DataW Unit → Array Value
  | .agg ds => (ds.map fun d => match d with | .lit (.int k n) => Value.int k n | _ => .bool false).toArray
  | _ => #[]
/-- The start: what the door's own run leaves, and Go's great table in its variable. -/
noncomputable def startW (os : Os) : World :=
  let w0 := World.doorLaid Tryz.prog 200 os
  { w0 with heap := w0.heap.modify 4 fun
      | .cells _ t fr => .cells (cellsD Go.Pinned.utf8First) t fr
      | o => o }
theorem maxCell {W : World} (h : W.ShapedOpen Tryz.prog) : ∃ m, W.cell? ⟨0, 0, none⟩ = some (.int .i64 m) :=
  cell_of_shapedOpen_int (t := 3) (zero := #[.int .i64 0]) h (of_decide_eq_true (by kernel_rfl)) (by kernel_rfl) (by kernel_rfl) (by kernel_rfl) (by kernel_rfl) Tryz.underlying3
theorem asc_eq : (Rows.laid_strings_asciiSpace : DataW Unit) = Lib.tabData .u8 Lib.asciiSpaceTab := by kernel_rfl
theorem spaceTab {W : World} {rest : List (String × DataW Unit)} (h : laidMet Tryz.prog (("strings.asciiSpace", Rows.laid_strings_asciiSpace) :: rest) W) : Lib.TabIs Tryz.prog W "strings.asciiSpace" .u8 Lib.asciiSpaceTab := by
  rw [asc_eq] at h
  exact Lib.tabIs_of_head (g := 6) (t := 254) (e := 5) (n := 256) (by kernel_rfl) (by kernel_rfl) Tryz.underlying254 Tryz.underlying5 (by kernel_rfl) (by kernel_rfl) h
theorem gl_start {W : World} (h1 : ∃ m, W.cell? ⟨0, 0, none⟩ = some (.int .i64 m)) (h2 : Lib.TabIs Tryz.prog W "strings.asciiSpace" .u8 Lib.asciiSpaceTab) : Gl W.heap.size W := by
  obtain ⟨m, hm⟩ := h1
  have hc := h2.cell (g := 6) (by kernel_rfl) 0 (by rw [Lib.asciiSpaceTab_length]; decide)
  exact ⟨⟨m, hm⟩, h2, World.block_lt_of_cell? W _ hm, World.block_lt_of_cell? W _ hc, Nat.le_refl _⟩
end Go.Proofs.YtbpkfkbbkgdlaaaGreatDoor
