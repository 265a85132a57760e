/- Plain law of who is ahead: the windows, drawn out of the moments of both, and out of the edges of the reference. No condition. -/
import Derived.Test.YtnapbnkbchaanaaGreatDoorSortInts
import Derived.Test.YtnapbnkbchaanaaGreatDoorRateAll
namespace Go.Proofs.YtnapbnkbchaanaaGreatDoor
open Go.RowKit
set_option linter.unusedVariables false

def nowB (a b : List Int) (x : Int) : Bool := decide (cntLt b (x + 1) < cntLt a (x + 1))
abbrev AhSt := List (Int × Int) × Option Int
def ahStep (p : Int → Bool) (st : AhSt) (x : Int) : AhSt :=
  match st.2 with
  | none => if p x then (st.1, some x) else st
  | some s => if p x then st else (st.1 ++ [(s, x)], none)
def ahOut (zt : Int) (st : AhSt) : List (Int × Int) := st.1 ++ (match st.2 with | none => [] | some s => [(s, zt)])
def ahFold (p : Int → Bool) (l : List Int) : AhSt := l.foldl (ahStep p) ([], none)
theorem ahFold_snoc (p : Int → Bool) (l : List Int) (k : Nat) (h : k < l.length) : ahFold p (l.take (k + 1)) = ahStep p (ahFold p (l.take k)) l[k] := by
  unfold ahFold
  rw [List.take_succ_eq_append_getElem h, List.foldl_append]
  rfl
def opn : Option Int → Nat
  | none => 0
  | some _ => 1
theorem ahStep_len (p : Int → Bool) (st : AhSt) (x : Int) : (ahStep p st x).1.length + opn (ahStep p st x).2 ≤ st.1.length + opn st.2 + 1 := by
  obtain ⟨c, o⟩ := st
  cases o with
  | none => by_cases h : p x = true <;> simp [ahStep, h, opn]
  | some s => by_cases h : p x = true <;> simp [ahStep, h, opn]
theorem ahFold_len (p : Int → Bool) : ∀ (l : List Int) (st : AhSt), (l.foldl (ahStep p) st).1.length + opn (l.foldl (ahStep p) st).2 ≤ st.1.length + opn st.2 + l.length
  | [], st => by simp
  | x :: r, st => by
    have h := ahFold_len p r (ahStep p st x)
    have h2 := ahStep_len p st x
    simp only [List.foldl_cons, List.length_cons]
    omega
/-- The moments of both, in order, each once. -/
def bothL (a b : List Int) : List Int := compI (sortI (a ++ b))
def aheadL (a b : List Int) (zt : Int) : List (Int × Int) := ahOut zt (ahFold (nowB a b) (bothL a b))
theorem bothL_props (a b : List Int) : (bothL a b).Pairwise (· < ·) ∧ ∀ x, x ∈ bothL a b ↔ x ∈ a ++ b := by
  have h := compI_props (sortI (a ++ b)) (sortI_sorted _)
  exact ⟨h.1, fun x => (h.2 x).trans (sortI_mem _ x)⟩
theorem compI_len (l : List Int) : (compI l).length ≤ l.length := Lib.compact_length_le l
theorem bothL_len (a b : List Int) : (bothL a b).length ≤ a.length + b.length := by
  have := compI_len (sortI (a ++ b))
  rw [sortI_len, List.length_append] at this
  exact this

def edgesL (from_ zt : Int) (a b : List Int) : List Int := compI (sortI ([from_, zt] ++ (a ++ b)))
theorem edgesL_props (f t : Int) (a b : List Int) : (edgesL f t a b).Pairwise (· < ·) ∧ ∀ x, x ∈ edgesL f t a b ↔ x ∈ [f, t] ++ (a ++ b) := by
  have h := compI_props (sortI ([f, t] ++ (a ++ b))) (sortI_sorted _)
  exact ⟨h.1, fun x => (h.2 x).trans (sortI_mem _ x)⟩
theorem edgesL_eq (f t : Int) (a b : List Int) (hft : f < t) (ha : ∀ x ∈ a, f ≤ x ∧ x < t) (hb : ∀ x ∈ b, f ≤ x ∧ x < t) :
    ∃ p, edgesL f t a b = p ++ [t] ∧ (p = bothL a b ∨ p = f :: bothL a b ∧ f ∉ a ++ b) := by
  have hm : ∀ x ∈ bothL a b, f ≤ x ∧ x < t := fun x hx => by
    rcases List.mem_append.1 (((bothL_props a b).2 x).1 hx) with h | h
    · exact ha x h
    · exact hb x h
  have hp := bothL_props a b
  have he := edgesL_props f t a b
  by_cases hf : f ∈ a ++ b
  · refine ⟨bothL a b, rise_ext _ _ he.1 (List.pairwise_append.2 ⟨hp.1, by simp, fun x hx y hy => by simp at hy; subst hy; exact (hm x hx).2⟩) fun x => ?_, .inl rfl⟩
    rw [he.2 x]
    constructor
    · intro h
      simp only [List.mem_append, List.mem_cons, List.not_mem_nil, or_false] at h ⊢
      rcases h with (rfl | rfl) | h
      · exact .inl ((hp.2 _).2 hf)
      · exact .inr rfl
      · exact .inl ((hp.2 x).2 (List.mem_append.2 h))
    · intro h
      rcases List.mem_append.1 h with h | h
      · exact List.mem_append_right _ ((hp.2 x).1 h)
      · simp at h; subst h; simp
  · refine ⟨f :: bothL a b, rise_ext _ _ he.1 ?_ fun x => ?_, .inr ⟨rfl, hf⟩⟩
    · refine List.pairwise_append.2 ⟨List.pairwise_cons.2 ⟨fun x hx => ?_, hp.1⟩, by simp, fun x hx y hy => ?_⟩
      · have h1 := hm x hx
        have h2 : x ≠ f := fun e => hf (by rw [← e]; exact (hp.2 x).1 hx)
        omega
      · simp at hy; subst hy
        rcases List.mem_cons.1 hx with rfl | h
        · exact hft
        · exact (hm x h).2
    · rw [he.2 x]
      constructor
      · intro h
        rcases List.mem_append.1 h with h | h
        · simp at h; rcases h with rfl | rfl <;> simp
        · exact List.mem_append_left _ (List.mem_cons_of_mem _ ((hp.2 x).2 h))
      · intro h
        rcases List.mem_append.1 h with h | h
        · rcases List.mem_cons.1 h with rfl | h
          · simp
          · exact List.mem_append_right _ ((hp.2 x).1 h)
        · simp at h; subst h; simp
theorem cntLt_zero {l : List Int} {x : Int} (h : ∀ y ∈ l, x ≤ y) : cntLt l x = 0 := by
  unfold cntLt
  have : l.countP (fun y => decide (y < x)) = 0 := List.countP_eq_zero.2 (fun y hy => by have := h y hy; simp; omega)
  omega
/-- What the reference draws out of the edges is the same. -/
theorem edges_fold (f t : Int) (a b : List Int) (hft : f < t) (ha : ∀ x ∈ a, f ≤ x ∧ x < t) (hb : ∀ x ∈ b, f ≤ x ∧ x < t) (n : Nat) (hn : (edgesL f t a b).length = n + 1) :
    ahOut t (ahFold (nowB a b) ((edgesL f t a b).take n)) = aheadL a b t ∧ (edgesL f t a b)[n]? = some t := by
  obtain ⟨p, hp, h⟩ := edgesL_eq f t a b hft ha hb
  have hpl : p.length = n := by rw [hp] at hn; simpa using hn
  rw [hp]
  refine ⟨?_, by rw [← hpl]; simp⟩
  rw [← hpl, List.take_left]
  unfold aheadL
  rcases h with rfl | ⟨rfl, hnf⟩
  · rfl
  · congr 1
    unfold ahFold
    rw [List.foldl_cons]
    congr 1
    have h0 : nowB a b f = false := by
      unfold nowB
      have e1 : cntLt a (f + 1) = 0 := cntLt_zero fun y hy => by
        have := ha y hy
        have h2 : y ≠ f := fun e => hnf (by rw [← e]; exact List.mem_append_left _ hy)
        omega
      have e2 : cntLt b (f + 1) = 0 := cntLt_zero fun y hy => by
        have := hb y hy
        have h2 : y ≠ f := fun e => hnf (by rw [← e]; exact List.mem_append_right _ hy)
        omega
      rw [e1, e2]; rfl
    unfold ahStep
    simp [h0]
end Go.Proofs.YtnapbnkbchaanaaGreatDoor
