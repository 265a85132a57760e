/- Plain law of the five texts of MistakesAreOneApart: all that they can be mistaken for is one element away, and their codes can be read as they are. No condition. -/
import Derived.Test.YtlodmkdhlmineaaGreatDoorMistaken
import Derived.Test.YtlodmkdhlmineaaGreatDoorCallSaid
import Derived.Test.YtlodmkdhlmineaaGreatDoorElW
import Derived.Test.YtlodmkdhlmineaaGreatDoorWaysPlain
import Derived.Test.YtlodmkdhlmineaaGreatDoorPlainW
import Derived.Lib.Replace
namespace Go.Proofs.YtlodmkdhlmineaaGreatDoor
set_option linter.unusedVariables false
set_option linter.unusedSimpArgs false

def texts5 : List ByteArray := [⟨#[97]⟩, ⟨#[107, 49, 97, 98]⟩, ⟨#[53, 110, 110]⟩, ⟨#[116, 101, 115, 116]⟩, ⟨#[101]⟩]
/-- The text with other signs, at each place in turn. -/
def swapsR (l : List UInt8) : List (List UInt8) := (List.range l.length).flatMap fun k => ((codeT.filter fun p => decide (levR (codeOf (l.getD k 0)) p.2 = 1)).map (·.1)).map fun x => l.take k ++ x :: l.drop (k + 1)
theorem mist_swaps {s u : ByteArray} (h : u ∈ mistTo s.data.toList s.size) : u.data.toList ∈ swapsR s.data.toList := by
  obtain ⟨k, x, hk, hx, rfl⟩ := mist_mem h
  rw [oneOff_r] at hx
  unfold swapsR
  refine List.mem_flatMap.2 ⟨k, List.mem_range.2 (by simpa using hk), List.mem_map.2 ⟨x, hx, ?_⟩⟩
  rfl
theorem said_plain {s : ByteArray} (h1 : s.size ≤ 500) (h2 : 0 < s.size) (h4 : ∀ c ∈ s.data.toList, c ≠ 32 ∧ codeOf c ≠ []) : saidE s = 0 := by
  refine (saidE_is s).2 ⟨by omega, fun hm => ?_, fun c hc => .inr (h4 c hc).2⟩
  have hl : s.data.toList.length = s.size := by simp
  have key : ∀ l : List UInt8, (∀ c ∈ l, c ≠ 32) → cutW l = [l] := fun l => by
    induction l with
    | nil => intro _; rfl
    | cons x r ih =>
      intro hx
      unfold cutW
      rw [if_neg (hx x (by simp)), ih (fun c hc => hx c (by simp [hc]))]
  rw [key _ (fun c hc => (h4 c hc).1)] at hm
  have := List.mem_singleton.1 hm
  rw [← this] at hl
  simp at hl
  omega
/-- What is known of each text. -/
def txtOK (t : ByteArray) : Bool :=
  let l := t.data.toList
  let c := elL l
  decide (0 < l.length) && decide (l.length ≤ 10) && l.all (fun x => x != 32 && !(codeOf x).isEmpty && x != 63 && decide (x.toNat < 128)) &&
  (swapsR l).all (fun u => decide (0 < u.length) && decide (u.length ≤ 10) && u.all (fun x => x != 32 && !(codeOf x).isEmpty) && levR c (elL u) == 1) &&
  (waysR c).all (fun n => decide (n ≤ 1000000)) && decide (1 ≤ (waysR c).headD 0) && (decide (100 < (waysR c).headD 0) || ((readR c.length c []).take 100).contains l) &&
  (Lib.replaceAll (codedL l) [32] [] == c) && decide (c.length ≤ 40) && !c.isEmpty && c.all (fun x => x == 46 || x == 45)
theorem txt_all : ∀ t ∈ texts5, txtOK t = true := by decide +kernel
structure TxtF (t : ByteArray) : Prop where
  said : saidE t = 0
  few : t.size ≤ 10
  pos : 0 < t.size
  sgn : ∀ c ∈ t.data.toList, c ≠ 32 ∧ codeOf c ≠ []
  asc : Ascii t
  some_ : mistTo t.data.toList t.size ≠ []
  mist : ∀ u ∈ mistTo t.data.toList t.size, u.size ≤ 10 ∧ apE t u = 0 ∧ apV t u = 1
  code : codeK t = codedL t.data.toList
  rep : Lib.replaceAll (codedL t.data.toList) [32] [] = elL t.data.toList
  el1 : 1 ≤ (elL t.data.toList).length
  el40 : (elL t.data.toList).length ≤ 40
  els : isElB (elL t.data.toList) = true
  way : ∀ j, (waysR (elL t.data.toList)).getD j 0 ≤ 1000000000000
  way1 : 1 ≤ (waysR (elL t.data.toList)).getD 0 0
  read : 100 < (waysR (elL t.data.toList)).getD 0 0 ∨ t.data.toList ∈ (readR (elL t.data.toList).length (elL t.data.toList) []).take 100
theorem headD_getD (l : List Nat) : l.headD 0 = l.getD 0 0 := by cases l <;> rfl
theorem txt_facts {t : ByteArray} (ht : t ∈ texts5) : TxtF t := by
  have h := txt_all t ht
  unfold txtOK at h
  simp only [Bool.and_eq_true] at h
  obtain ⟨⟨⟨⟨⟨⟨⟨⟨⟨⟨p1, p2⟩, p3⟩, p4⟩, p5⟩, p6⟩, p7⟩, p8⟩, p9⟩, p10⟩, p11⟩ := h
  rw [decide_eq_true_eq] at p1 p2 p6 p9
  have hl : t.data.toList.length = t.size := by simp
  have hs : ∀ c ∈ t.data.toList, c ≠ 32 ∧ codeOf c ≠ [] ∧ c ≠ 63 ∧ c.toNat < 128 := fun c hc => by
    have h := List.all_eq_true.1 p3 c hc
    simp only [Bool.and_eq_true, bne_iff_ne, Bool.not_eq_true', decide_eq_true_eq] at h
    exact ⟨h.1.1.1, fun e => by rw [e] at h; simp at h, h.1.2, h.2⟩
  have hsaid : saidE t = 0 := said_plain (by omega) (by omega) (fun c hc => ⟨(hs c hc).1, (hs c hc).2.1⟩)
  refine ⟨hsaid, by omega, by omega, fun c hc => ⟨(hs c hc).1, (hs c hc).2.1⟩, Ascii.of_mem (fun c hc => (hs c hc).2.2.2), ?_, ?_, by unfold codeK; rw [if_pos hsaid], by simpa using p8, ?_, p9, ?_, ?_, by rw [← headD_getD]; exact p6, ?_⟩
  · have hkl : 0 < t.data.toList.length := by omega
    have h9 := hs _ (List.getElem_mem hkl)
    refine mist_one (by omega) ((oneOff_ok ?_).1 ?_)
    · rw [List.getD_eq_getElem?_getD, List.getElem?_eq_getElem hkl]; exact h9.2.1
    · rw [List.getD_eq_getElem?_getD, List.getElem?_eq_getElem hkl]; exact h9.2.2.1
  · intro u hu
    have h := List.all_eq_true.1 p4 _ (mist_swaps hu)
    simp only [Bool.and_eq_true, decide_eq_true_eq, beq_iff_eq] at h
    obtain ⟨⟨⟨q1, q2⟩, q3⟩, q4⟩ := h
    have hul : u.data.toList.length = u.size := by simp
    have hus : saidE u = 0 := said_plain (by omega) (by omega) (fun c hc => by
      have h := List.all_eq_true.1 q3 c hc
      simp only [Bool.and_eq_true, bne_iff_ne, Bool.not_eq_true'] at h
      exact ⟨h.1, fun e => by rw [e] at h; simp at h⟩)
    have ha : apE t u = 0 := by unfold apE; rw [if_pos hsaid]; exact hus
    refine ⟨by omega, ha, ?_⟩
    unfold apV
    rw [if_pos ha, ← levR_is, q4]; rfl
  · have := p10
    cases hc : elL t.data.toList with
    | nil => rw [hc] at this; cases this
    | cons c r => simp
  · unfold isElB
    rw [Bool.and_eq_true]
    refine ⟨p10, List.all_eq_true.2 fun x hx => ?_⟩
    have := List.all_eq_true.1 p11 x hx
    simpa using this
  · intro j
    rw [List.getD_eq_getElem?_getD]
    cases hj : (waysR (elL t.data.toList))[j]? with
    | none => simp
    | some x =>
      have h := List.all_eq_true.1 p5 x (List.mem_of_getElem? hj)
      rw [decide_eq_true_eq] at h
      show x ≤ _
      omega
  · rw [Bool.or_eq_true, decide_eq_true_eq, headD_getD] at p7
    rcases p7 with h | h
    · exact .inl h
    · exact .inr (by simpa using h)
end Go.Proofs.YtlodmkdhlmineaaGreatDoor
