/- The document's SaidFault in plain words. No condition. -/
import Derived.Test.YtlodmkdhlmineaaGreatDoorSaidPlain
import Derived.Test.YtlodmkdhlmineaaGreatDoorKeyName
import Derived.Lib.SlicesS
namespace Go.Proofs.YtlodmkdhlmineaaGreatDoor
open Go.RowKit
set_option linter.unusedVariables false
set_option linter.unusedSimpArgs false

def sign41 : List UInt8 := [97, 98, 99, 100, 101, 102, 103, 104, 105, 106, 107, 108, 109, 110, 111, 112, 113, 114, 115, 116, 117, 118, 119, 120, 121, 122, 48, 49, 50, 51, 52, 53, 54, 55, 56, 57, 47, 63, 61, 43, 32]
theorem sign41_is (c : UInt8) : sign41.contains c = true ↔ c = 32 ∨ codeOf c ≠ [] := by
  have H : ∀ n : Fin 256, (sign41.contains (UInt8.ofNat n.val) = true ↔ UInt8.ofNat n.val = 32 ∨ codeOf (UInt8.ofNat n.val) ≠ []) := by decide +kernel
  have := H ⟨c.toNat, c.toNat_lt⟩
  simpa using this
theorem sign41_at {c : UInt8} (h : c = 32 ∨ codeOf c ≠ []) : c.toNat < 128 ∧ 0 ≤ Lib.indexByte sign41 c := by
  have H : ∀ n : Fin 256, (UInt8.ofNat n.val = 32 ∨ codeOf (UInt8.ofNat n.val) ≠ []) → (UInt8.ofNat n.val).toNat < 128 ∧ 0 ≤ Lib.indexByte sign41 (UInt8.ofNat n.val) := by decide +kernel
  have := H ⟨c.toNat, c.toNat_lt⟩
  simp only [UInt8.ofNat_toNat] at this
  exact this h
theorem trim41 (l : List UInt8) : Lib.trimS l sign41 = [] ↔ signsOnly l := by
  rw [trimS_nil, List.all_eq_true]
  constructor
  · intro h c hc
    exact (sign41_is c).1 (h c hc)
  · intro h c hc
    exact (sign41_is c).2 (h c hc)
/-- The four ways of the document's SaidFault. -/
inductive SaidWay (s : ByteArray) : Prop where
  | large (h : 500 < s.size) (e : saidE s = 2)
  | none (h : ¬ 500 < s.size) (h0 : s.size = 0) (e : saidE s = 3)
  | odd (h : ¬ 500 < s.size) (h0 : 0 < s.size) (n : Lib.trimS s.data.toList sign41 ≠ []) (e : saidE s = 3)
  | gap (h : ¬ 500 < s.size) (h0 : 0 < s.size) (n : Lib.trimS s.data.toList sign41 = []) (a : signsOnly s.data.toList) (g : Lib.containsS (wordsOf s) (⟨#[]⟩ : ByteArray) = true) (e : saidE s = 3)
  | right (h : ¬ 500 < s.size) (h0 : 0 < s.size) (n : Lib.trimS s.data.toList sign41 = []) (a : signsOnly s.data.toList) (g : Lib.containsS (wordsOf s) (⟨#[]⟩ : ByteArray) = false) (e : saidE s = 0)
theorem words_gap (s : ByteArray) : Lib.containsS (wordsOf s) (⟨#[]⟩ : ByteArray) = true ↔ [] ∈ cutW s.data.toList := by
  rw [wordsOf_cut, Lib.containsS_iff]
  constructor
  · intro h
    obtain ⟨p, hp, e⟩ := List.mem_map.1 h
    have : p = [] := strB_inj (a := p) (b := []) e
    rw [← this]; exact hp
  · intro h
    exact List.mem_map.2 ⟨[], h, rfl⟩
theorem saidE_three {s : ByteArray} (h : ¬ 500 < s.size) (h1 : saidE s ≠ 0) : saidE s = 3 := by
  unfold saidE at h1 ⊢
  rw [if_neg h] at h1 ⊢
  split at h1
  · exact absurd rfl h1
  · rename_i hc; rw [if_neg hc]
theorem saidWay (s : ByteArray) : SaidWay s := by
  by_cases h : 500 < s.size
  · exact .large h (saidE_large h)
  · rcases Nat.eq_zero_or_pos s.size with h0 | h0
    · refine .none h h0 (saidE_three h fun e => ?_)
      obtain ⟨_, h2, _⟩ := (saidE_is s).1 e
      have : s.data.toList = [] := List.eq_nil_of_length_eq_zero (by have : s.data.toList.length = s.size := by simp
                                                                     omega)
      rw [this] at h2
      exact h2 (by simp [cutW])
    · by_cases n : Lib.trimS s.data.toList sign41 = []
      · have a := (trim41 _).1 n
        cases g : Lib.containsS (wordsOf s) (⟨#[]⟩ : ByteArray)
        · refine .right h h0 n a g ((saidE_is s).2 ⟨by omega, fun hm => ?_, a⟩)
          rw [(words_gap s).2 hm] at g
          cases g
        · refine .gap h h0 n a g (saidE_three h fun e => ?_)
          exact ((saidE_is s).1 e).2.1 ((words_gap s).1 g)
      · exact .odd h h0 n (saidE_three h fun e => n ((trim41 _).2 ((saidE_is s).1 e).2.2))
end Go.Proofs.YtlodmkdhlmineaaGreatDoor
