/- The plain side of reading marks by way of codes that are joined and split: the words with their codes. No condition. -/
import Derived.Test.YtlodmkdhlmineaaGreatDoorHearPlain
import Derived.Test.YtlodmkdhlmineaaGreatDoorSplitPlain
namespace Go.Proofs.YtlodmkdhlmineaaGreatDoor
set_option linter.unusedVariables false
set_option linter.unusedSimpArgs false

/-- What the document's reading writes for the first so many. -/
def refTo (l : List Int) (u : Int) : Nat → List UInt8
  | 0 => []
  | k + 1 => refTo l u k ++ (if markB k then (if nearU true (l.getD k 0) u = 1 then [46] else [45]) else if nearU false (l.getD k 0) u = 3 then [32] else if nearU false (l.getD k 0) u = 7 then [32, 47, 32] else [])
/-- The words that are ended, the codes of the word that is open, the code that is open. -/
def stTo (l : List Int) (u : Int) : Nat → List (List (List UInt8)) × List (List UInt8) × List UInt8
  | 0 => ([], [], [])
  | k + 1 =>
    if markB k then (if nearU true (l.getD k 0) u = 1 then ((stTo l u k).1, (stTo l u k).2.1, (stTo l u k).2.2 ++ [46]) else ((stTo l u k).1, (stTo l u k).2.1, (stTo l u k).2.2 ++ [45]))
    else if nearU false (l.getD k 0) u = 3 then ((stTo l u k).1, (stTo l u k).2.1 ++ [(stTo l u k).2.2], [])
    else if nearU false (l.getD k 0) u = 7 then ((stTo l u k).1 ++ [(stTo l u k).2.1 ++ [(stTo l u k).2.2]], [], [])
    else stTo l u k
def ddC (c : List UInt8) : Prop := ∀ x ∈ c, x = 46 ∨ x = 45
theorem ddC_nil : ddC [] := fun x hx => by simp at hx
theorem ddC_snoc {c : List UInt8} (h : ddC c) {x : UInt8} (hx : x = 46 ∨ x = 45) : ddC (c ++ [x]) := fun y hy => by
  rcases List.mem_append.1 hy with h' | h'
  · exact h y h'
  · rw [List.mem_singleton.1 h']; exact hx
structure StOk (s : List (List (List UInt8)) × List (List UInt8) × List UInt8) : Prop where
  ws : ∀ wd ∈ s.1, wd ≠ [] ∧ ∀ c ∈ wd, ddC c
  cs : ∀ c ∈ s.2.1, ddC c
  c : ddC s.2.2
theorem stTo_ok (l : List Int) (u : Int) (k : Nat) : StOk (stTo l u k) := by
  induction k with
  | zero => exact ⟨by simp [stTo], by simp [stTo], by simp [stTo, ddC]⟩
  | succ k ih =>
    obtain ⟨h1, h2, h3⟩ := ih
    unfold stTo
    split
    · split
      · exact ⟨h1, h2, ddC_snoc h3 (.inl rfl)⟩
      · exact ⟨h1, h2, ddC_snoc h3 (.inr rfl)⟩
    · split
      · refine ⟨h1, fun c hc => ?_, ddC_nil⟩
        rcases List.mem_append.1 hc with h | h
        · exact h2 c h
        · rw [List.mem_singleton.1 h]; exact h3
      · split
        · refine ⟨fun wd hw => ?_, by simp, ddC_nil⟩
          rcases List.mem_append.1 hw with h | h
          · exact h1 wd h
          · rw [List.mem_singleton.1 h]
            refine ⟨by simp, fun c hc => ?_⟩
            rcases List.mem_append.1 hc with h | h
            · exact h2 c h
            · rw [List.mem_singleton.1 h]; exact h3
        · exact ⟨h1, h2, h3⟩
theorem st_read (l : List Int) (u : Int) (k : Nat) : readTo l u k = ((stTo l u k).1.flatMap (fun wd => wd.flatMap signOfL ++ [32]) ++ (stTo l u k).2.1.flatMap signOfL, (stTo l u k).2.2) := by
  induction k with
  | zero => rfl
  | succ k ih =>
    unfold readTo stTo
    rw [ih]
    split
    · split <;> rfl
    · split
      · simp [List.flatMap_append, List.append_assoc]
      · split
        · simp [List.flatMap_append, List.append_assoc]
        · rfl
theorem st_ref (l : List Int) (u : Int) (k : Nat) : refTo l u k = ispP [32, 47, 32] ((stTo l u k).1.map (isp [32])) ++ (ispP [32] (stTo l u k).2.1 ++ (stTo l u k).2.2) := by
  induction k with
  | zero => rfl
  | succ k ih =>
    unfold refTo stTo
    rw [ih]
    split
    · split <;> simp [List.append_assoc]
    · split
      · rw [ispP_some [32] ((stTo l u k).2.1 ++ [(stTo l u k).2.2]) (by simp), isp_snoc]
        simp [List.append_assoc]
      · split
        · rw [List.map_append, ispP_some [32, 47, 32] (((stTo l u k).1.map (isp [32])) ++ _) (by simp)]
          simp only [List.map_cons, List.map_nil]
          rw [isp_snoc, isp_snoc, ispP_nil]
          simp [List.append_assoc]
        · simp
/-- All words with their codes. -/
def wdsL (l : List Int) (u : Int) : List (List (List UInt8)) := (stTo l u l.length).1 ++ [(stTo l u l.length).2.1 ++ [(stTo l u l.length).2.2]]
theorem wdsL_ok (l : List Int) (u : Int) : ∀ wd ∈ wdsL l u, wd ≠ [] ∧ ∀ c ∈ wd, ddC c := by
  obtain ⟨h1, h2, h3⟩ := stTo_ok l u l.length
  intro wd hw
  rcases List.mem_append.1 hw with h | h
  · exact h1 wd h
  · rw [List.mem_singleton.1 h]
    refine ⟨by simp, fun c hc => ?_⟩
    rcases List.mem_append.1 hc with h | h
    · exact h2 c h
    · rw [List.mem_singleton.1 h]; exact h3
theorem ref_words (l : List Int) (u : Int) : refTo l u l.length = isp [32, 47, 32] ((wdsL l u).map (isp [32])) := by
  rw [st_ref, wdsL, List.map_append]
  simp only [List.map_cons, List.map_nil]
  rw [isp_snoc, isp_snoc]
theorem ispP_flat {α : Type} (g : List α) (l : List (List α)) : ispP g l = l.flatMap (· ++ g) := by
  induction l with
  | nil => rfl
  | cons x r ih =>
    rw [ispP_some g _ (by simp)]
    cases r with
    | nil => simp [isp]
    | cons y r =>
      rw [ispP_some g _ (by simp)] at ih
      rw [isp_cons, List.flatMap_cons, ← ih]
      simp [List.append_assoc]
/-- What is read is what the codes of the words read as, with blanks between the words. -/
theorem read_words (l : List Int) (u : Int) : readL l u = isp [32] ((wdsL l u).map fun wd => wd.flatMap signOfL) := by
  unfold readL wdsL
  rw [st_read, List.map_append]
  simp only [List.map_cons, List.map_nil]
  rw [isp_snoc, ispP_flat, List.flatMap_map]
  simp [List.flatMap_append, List.append_assoc]
theorem dd_no {c : List UInt8} (h : ddC c) : (32 : UInt8) ∉ c ∧ (47 : UInt8) ∉ c := by
  constructor <;> intro hc <;> rcases h _ hc with h | h <;> simp at h
theorem pieces_words (l : List Int) (u : Int) : piecesOf ⟨#[32, 47, 32]⟩ (strB (refTo l u l.length)) = (wdsL l u).map fun wd => strB (isp [32] wd) := by
  rw [ref_words]
  refine (pieces_isp (sep := ⟨#[32, 47, 32]⟩) sep_slash _ (by unfold wdsL; simp) fun p hp => ?_).trans (List.map_map ..)
  obtain ⟨wd, hw, rfl⟩ := List.mem_map.1 hp
  intro h47
  rcases isp_mem h47 with h | ⟨c, hc, h⟩
  · simp at h
  · exact (dd_no ((wdsL_ok l u wd hw).2 c hc)).2 h
theorem pieces_codes (l : List Int) (u : Int) : ∀ wd ∈ wdsL l u, piecesOf ⟨#[32]⟩ (strB (isp [32] wd)) = wd.map strB := fun wd hw =>
  pieces_isp (sep := ⟨#[32]⟩) sep_blank wd (wdsL_ok l u wd hw).1 fun c hc => (dd_no ((wdsL_ok l u wd hw).2 c hc)).1
end Go.Proofs.YtlodmkdhlmineaaGreatDoor
