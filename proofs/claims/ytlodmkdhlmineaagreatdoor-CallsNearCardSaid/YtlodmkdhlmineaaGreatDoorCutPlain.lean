/- Plain law: a number that is cut is the same again; as digits it is itself. No condition. -/
import Derived.Test.YtlodmkdhlmineaaGreatDoorBase
import Derived.Lib.Bytealg
import Derived.Lib.ItoaNum
import Derived.Lib.ItoaMem
namespace Go.Proofs.YtlodmkdhlmineaaGreatDoor
set_option linter.unusedVariables false

def digL : List UInt8 := [48, 49, 50, 51, 52, 53, 54, 55, 56, 57]
def cutS : ByteArray := ⟨#[116, 49, 50, 51, 52, 53, 54, 55, 56, 110]⟩
/-- What a byte of a cut number says; -1: it says none. -/
def dOf (c : UInt8) : Int := if c = 116 ∨ c = 111 then 0 else if c = 97 then 1 else if c = 110 then 9 else Lib.indexByte digL c
def numV (l : List UInt8) : Int := l.foldl (fun a c => 10 * a + dOf c) 0
def numOK (l : List UInt8) : Bool := l.all fun c => decide (0 ≤ dOf c)
theorem dOf_bd (c : UInt8) : -1 ≤ dOf c ∧ dOf c ≤ 9 := by
  have h : ∀ n : Fin 256, -1 ≤ dOf (UInt8.ofNat n.val) ∧ dOf (UInt8.ofNat n.val) ≤ 9 := by decide +kernel
  have := h ⟨c.toNat, c.toNat_lt⟩
  simpa using this
theorem dOf_cut (d : Nat) (h : d < 10) : dOf (cutS.data.toList.getD d 0) = d := by
  have H : ∀ n : Fin 10, dOf (cutS.data.toList.getD n.val 0) = n.val := by decide +kernel
  exact H ⟨d, h⟩
theorem dOf_dig (d : Nat) (h : d < 10) : dOf (UInt8.ofNat (48 + d)) = d := by
  have H : ∀ n : Fin 10, dOf (UInt8.ofNat (48 + n.val)) = n.val := by decide +kernel
  exact H ⟨d, h⟩
theorem ten_pos (k : Nat) : 1 ≤ (10 : Int) ^ k := by
  induction k with
  | zero => simp
  | succ k ih => rw [Int.pow_succ]; omega
theorem ten_mono {n m : Nat} (h : n ≤ m) : (10 : Int) ^ n ≤ 10 ^ m := by
  induction m with
  | zero =>
    have : n = 0 := by omega
    subst this; exact Int.le_refl _
  | succ m ih =>
    rcases Nat.lt_or_ge m n with h1 | h1
    · have : n = m + 1 := by omega
      subst this; exact Int.le_refl _
    · have := ih h1
      have := ten_pos m
      rw [Int.pow_succ]; omega
theorem numV_from (l : List UInt8) (a : Int) : l.foldl (fun a c => 10 * a + dOf c) a = a * 10 ^ l.length + numV l := by
  induction l generalizing a with
  | nil => simp [numV]
  | cons c r ih =>
    unfold numV
    rw [List.foldl_cons, List.foldl_cons, ih, ih (10 * 0 + dOf c), List.length_cons, Int.pow_succ]
    generalize (10 : Int) ^ r.length = P
    have e1 : 10 * a * P = a * (P * 10) := by rw [Int.mul_comm 10 a, Int.mul_assoc, Int.mul_comm 10 P]
    rw [Int.add_mul, Int.add_mul, e1]
    omega
theorem numV_cons (c : UInt8) (l : List UInt8) : numV (c :: l) = dOf c * 10 ^ l.length + numV l := by
  unfold numV
  rw [List.foldl_cons, numV_from]
  rw [show (10 : Int) * 0 + dOf c = dOf c by omega]
  rfl
theorem numV_snoc (l : List UInt8) (c : UInt8) : numV (l ++ [c]) = 10 * numV l + dOf c := by simp [numV]
theorem numOK_snoc (l : List UInt8) (c : UInt8) : numOK (l ++ [c]) = (numOK l && decide (0 ≤ dOf c)) := by simp [numOK]
theorem numV_bd (l : List UInt8) (h : l.length ≤ 9) (hk : numOK l = true) : 0 ≤ numV l ∧ numV l ≤ 999999999 := by
  have key : ∀ (m : List UInt8), numOK m = true → 0 ≤ numV m ∧ numV m + 1 ≤ 10 ^ m.length := by
    intro m
    induction m with
    | nil => intro _; exact ⟨by simp [numV], by simp [numV]⟩
    | cons c r ih =>
      intro hm
      have hm' : 0 ≤ dOf c ∧ numOK r = true := by simpa [numOK] using hm
      obtain ⟨h1, h2⟩ := ih hm'.2
      have h3 := (dOf_bd c).2
      have hp : (0 : Int) ≤ 10 ^ r.length := Int.le_of_lt (Int.pow_pos (by decide))
      rw [numV_cons, List.length_cons, Int.pow_succ]
      have h4 : dOf c * 10 ^ r.length ≤ 9 * 10 ^ r.length := Int.mul_le_mul_of_nonneg_right h3 hp
      have h5 : 0 ≤ dOf c * 10 ^ r.length := Int.mul_nonneg hm'.1 hp
      constructor <;> omega
  obtain ⟨h1, h2⟩ := key l hk
  refine ⟨h1, ?_⟩
  have h3 : (10 : Int) ^ l.length ≤ 10 ^ 9 := ten_mono h
  have h4 : (10 : Int) ^ 9 = 1000000000 := by decide
  omega

theorem size_len' (s : ByteArray) : s.size = s.data.toList.length := by rw [Array.length_toList]; rfl
theorem numV_nonneg {s : List UInt8} (h2 : numOK s = true) : 0 ≤ numV s := by
  have : ∀ (m : List UInt8), numOK m = true → ∀ a : Int, 0 ≤ a → 0 ≤ m.foldl (fun a c => 10 * a + dOf c) a := by
    intro m
    induction m with
    | nil => intro _ a ha; exact ha
    | cons c r ih =>
      intro hm a ha
      have hm' : 0 ≤ dOf c ∧ numOK r = true := by simpa [numOK] using hm
      rw [List.foldl_cons]
      exact ih hm'.2 _ (by omega)
  exact this s h2 0 (Int.le_refl _)
/-- A number as digits says itself. -/
theorem decDigits_num (u : Nat) : numOK (Lib.decDigits u) = true ∧ numV (Lib.decDigits u) = u := by
  induction u using Nat.strongRecOn with
  | ind u ih =>
    unfold Lib.decDigits
    split
    · rename_i h
      have := dOf_dig u h
      refine ⟨?_, ?_⟩
      · unfold numOK
        rw [List.all_cons, List.all_nil, this, Bool.and_true]
        exact decide_eq_true (by omega)
      · show 10 * 0 + dOf _ = _
        rw [this]; omega
    · rename_i h
      obtain ⟨h1, h2⟩ := ih (u / 10) (by omega)
      have := dOf_dig (u % 10) (by omega)
      refine ⟨by rw [numOK_snoc, h1, this, Bool.true_and]; exact decide_eq_true (by omega), ?_⟩
      rw [numV_snoc, h2, this]
      omega
theorem nDigits_few : ∀ (k u : Nat), u < 10 ^ (k + 1) → Lib.nDigits u ≤ k + 1
  | 0, u, h => by unfold Lib.nDigits; rw [dif_pos (by simpa using h)]; omega
  | k + 1, u, h => by
    unfold Lib.nDigits
    split
    · omega
    · have := nDigits_few k (u / 10) (by rw [Nat.pow_succ] at h; omega)
      omega
theorem nDigits_one (u : Nat) : 1 ≤ Lib.nDigits u := by unfold Lib.nDigits; split <;> omega
/-- A cut number: 'n' is what is left in front. -/
structure CutAt (n0 n : Int) (s : List UInt8) : Prop where
  left : 0 ≤ n
  ok : numOK s = true
  eq : n0 = n * 10 ^ s.length + numV s
theorem cut_step {n0 n : Int} {s : List UInt8} (h : CutAt n0 n s) (d : Nat) (hd : (d : Int) = n % 10) : CutAt n0 (n / 10) (cutS.data.toList.getD d 0 :: s) := by
  obtain ⟨h1, h2, h3⟩ := h
  have hc := dOf_cut d (by omega)
  refine ⟨by omega, ?_, ?_⟩
  · unfold numOK at h2 ⊢
    rw [List.all_cons, h2, hc, Bool.and_true]
    exact decide_eq_true (by omega)
  rw [numV_cons, hc, List.length_cons, Int.pow_succ, h3, hd, ← Int.add_assoc]
  congr 1
  rw [Int.mul_comm (10 ^ s.length) 10, ← Int.mul_assoc, ← Int.add_mul]
  congr 1
  omega
theorem cut_few {n0 n : Int} {s : List UInt8} (h : CutAt n0 n s) (h0 : n0 ≤ 99999) (hs : 5 ≤ s.length) : n = 0 := by
  obtain ⟨h1, h2, h3⟩ := h
  have h4 : (10 : Int) ^ 5 ≤ 10 ^ s.length := ten_mono hs
  have h5 : (10 : Int) ^ 5 = 100000 := by decide
  have key : 0 ≤ numV s := by
    clear h3 h4 hs
    have : ∀ (m : List UInt8), numOK m = true → ∀ a : Int, 0 ≤ a → 0 ≤ m.foldl (fun a c => 10 * a + dOf c) a := by
      intro m
      induction m with
      | nil => intro _ a ha; exact ha
      | cons c r ih =>
        intro hm a ha
        have hm' : 0 ≤ dOf c ∧ numOK r = true := by simpa [numOK] using hm
        rw [List.foldl_cons]
        exact ih hm'.2 _ (by omega)
    exact this s h2 0 (Int.le_refl _)
  rcases (show 0 < n ∨ n ≤ 0 by omega) with hn | hn
  · have : (1 : Int) * 10 ^ s.length ≤ n * 10 ^ s.length := Int.mul_le_mul_of_nonneg_right (by omega) (by omega)
    omega
  · omega
theorem cut_done {n0 : Int} {s : List UInt8} (h : CutAt n0 0 s) : numOK s = true ∧ numV s = n0 := ⟨h.ok, by rw [h.eq]; omega⟩
end Go.Proofs.YtlodmkdhlmineaaGreatDoor
