/- The plain side of what can be said: words between blanks, how they are keyed, and that what is keyed evenly is read as it was said. No condition. -/
import Derived.Test.YtlodmkdhlmineaaGreatDoorKeysRef
import Derived.Test.YtlodmkdhlmineaaGreatDoorWithPlain
import Derived.Test.YtlodmkdhlmineaaGreatDoorByCodes
import Derived.Test.YtlodmkdhlmineaaGreatDoorUneven
namespace Go.Proofs.YtlodmkdhlmineaaGreatDoor
set_option linter.unusedVariables false
set_option linter.unusedSimpArgs false

/-- A list cut at blanks. -/
def cutW : List UInt8 → List (List UInt8)
  | [] => [[]]
  | c :: r => if c = 32 then [] :: cutW r else match cutW r with
    | [] => [[c]]
    | p :: q => (c :: p) :: q
theorem cutW_ne (s : List UInt8) : cutW s ≠ [] := by
  cases s with
  | nil => simp [cutW]
  | cons c r =>
    unfold cutW
    split
    · simp
    · split <;> simp
theorem cutW_isp (s : List UInt8) : isp [32] (cutW s) = s := by
  induction s with
  | nil => simp [cutW, isp]
  | cons c r ih =>
    have hne := cutW_ne r
    unfold cutW
    cases hc : cutW r with
    | nil => exact absurd hc hne
    | cons p q =>
      rw [hc] at ih
      by_cases h : c = 32
      · rw [if_pos h, isp_cons, ih, h]; rfl
      · rw [if_neg h]
        show (c :: p) ++ _ = _
        rw [List.cons_append]
        exact congrArg (c :: ·) ih
theorem cutW_no (s : List UInt8) : ∀ p ∈ cutW s, (32 : UInt8) ∉ p := by
  induction s with
  | nil => simp [cutW]
  | cons c r ih =>
    have hne := cutW_ne r
    unfold cutW
    cases hc : cutW r with
    | nil => exact absurd hc hne
    | cons p q =>
      rw [hc] at ih
      by_cases h : c = 32
      · rw [if_pos h]
        intro x hx
        rcases List.mem_cons.1 hx with rfl | hx
        · simp
        · exact ih x hx
      · rw [if_neg h]
        intro x hx
        rcases List.mem_cons.1 hx with rfl | hx
        · intro h2
          rcases List.mem_cons.1 h2 with h2 | h2
          · exact h h2.symm
          · exact ih p (by simp) h2
        · exact ih x (by simp [hx])
theorem wordsOf_cut (s : ByteArray) : wordsOf s = (cutW s.data.toList).map strB := by
  have h := pieces_isp (sep := ⟨#[32]⟩) sep_blank (cutW s.data.toList) (cutW_ne _) (cutW_no _)
  have e : isp (ByteArray.mk #[32]).data.toList (cutW s.data.toList) = s.data.toList := cutW_isp _
  rw [e, strB_of] at h
  exact h
theorem mem_isp {α : Type} {g : List α} {l : List (List α)} {x : α} {y : List α} (hy : y ∈ l) (hx : x ∈ y) : x ∈ isp g l := by
  cases l with
  | nil => cases hy
  | cons a r =>
    unfold isp
    rcases List.mem_cons.1 hy with rfl | hy
    · exact List.mem_append_left _ hx
    · exact List.mem_append_right _ (List.mem_flatMap.2 ⟨y, hy, List.mem_append_right _ hx⟩)
/-- Signs and blanks alone. -/
def signsOnly (l : List UInt8) : Prop := ∀ c ∈ l, c = 32 ∨ codeOf c ≠ []
theorem fullB_cut (s : ByteArray) : fullB (wordsOf s) = true ↔ [] ∉ cutW s.data.toList := by
  rw [wordsOf_cut]
  unfold fullB
  rw [List.all_eq_true]
  constructor
  · intro h hm
    have := h (strB []) (List.mem_map.2 ⟨[], hm, rfl⟩)
    simp [strB, Lib.toList_data] at this
  · intro h p hp
    obtain ⟨q, hq, rfl⟩ := List.mem_map.1 hp
    rw [Lib.toList_data, strB_data]
    cases q with
    | nil => exact absurd hq h
    | cons a r => rfl
theorem coded_cut (s : ByteArray) : (wordsOf s).all coded = true ↔ signsOnly s.data.toList := by
  rw [wordsOf_cut, List.all_eq_true]
  constructor
  · intro h c hc
    rw [← cutW_isp s.data.toList] at hc
    rcases isp_mem hc with h1 | ⟨y, hy, h1⟩
    · exact .inl (by simpa using h1)
    · right
      have := h (strB y) (List.mem_map.2 ⟨y, hy, rfl⟩)
      unfold coded at this
      rw [strB_data, List.all_eq_true] at this
      have := this c h1
      intro e
      rw [e] at this
      simp at this
  · intro h p hp
    obtain ⟨q, hq, rfl⟩ := List.mem_map.1 hp
    unfold coded
    rw [strB_data, List.all_eq_true]
    intro c hc
    have hm : c ∈ s.data.toList := by rw [← cutW_isp s.data.toList]; exact mem_isp hq hc
    rcases h c hm with h1 | h1
    · subst h1; exact absurd hc (cutW_no _ q hq)
    · cases hd : codeOf c with
      | nil => exact absurd hd h1
      | cons a r => rfl
theorem saidE_is (s : ByteArray) : saidE s = 0 ↔ s.size ≤ 500 ∧ [] ∉ cutW s.data.toList ∧ signsOnly s.data.toList := by
  constructor
  · intro h
    obtain ⟨h1, h2, h3⟩ := saidE_zero h
    exact ⟨h1, (fullB_cut s).1 h2, (coded_cut s).1 h3⟩
  · rintro ⟨h1, h2, h3⟩
    exact saidE_ok (by omega) ((fullB_cut s).2 h2) ((coded_cut s).2 h3)
/-- What can be said: words that are not empty, of signs that have codes. -/
def sayW (ps : List (List UInt8)) : Prop := ps ≠ [] ∧ ∀ p ∈ ps, p ≠ [] ∧ ∀ c ∈ p, c ≠ 32 ∧ codeOf c ≠ []
theorem said_sayW {s : ByteArray} (h : saidE s = 0) : sayW (cutW s.data.toList) := by
  obtain ⟨_, h2, h3⟩ := (saidE_is s).1 h
  refine ⟨cutW_ne _, fun p hp => ⟨fun e => h2 (e ▸ hp), fun c hc => ?_⟩⟩
  have hn : c ≠ 32 := fun e => cutW_no _ p hp (e ▸ hc)
  have hm : c ∈ s.data.toList := by rw [← cutW_isp s.data.toList]; exact mem_isp hp hc
  exact ⟨hn, (h3 c hm).resolve_left hn⟩

/-! ### How it is keyed: both ways are one. -/
def wLL (u sl : Int) (p : List UInt8) : List Int := isp [3 * sl] (p.map fun c => cL u (codeOf c))
theorem sL_cut (u sl : Int) (s : ByteArray) : sL u sl (codesOf s) = isp [7 * sl] ((cutW s.data.toList).map (wLL u sl)) := by
  unfold sL codesOf
  rw [wordsOf_cut, List.map_map, List.map_map]
  congr 1
  apply List.map_congr_left
  intro p _
  show wL u sl (codesW (strB p)) = _
  unfold wL codesW wLL
  rw [strB_data, List.map_map]
  rfl
theorem keyStep_dd {u : Int} {st : List Int × Int} {e : UInt8} (h : e = 46 ∨ e = 45) : keyStep u st e = ((if st.1 = [] then [] else st.1 ++ [st.2]) ++ [dl u e], u) := by
  rcases h with rfl | rfl
  · rfl
  · unfold keyStep dl; simp [Int.mul_comm]
theorem keyFold_more {u : Int} : ∀ (cs : List UInt8) (L : List Int), L ≠ [] → (∀ e ∈ cs, e = 46 ∨ e = 45) → cs.foldl (keyStep u) (L, u) = (L ++ cs.flatMap (fun b => [u, dl u b]), u)
  | [], L, _, _ => by simp
  | b :: r, L, hL, h => by
    rw [List.foldl_cons, keyStep_dd (h b (by simp)), if_neg hL, keyFold_more r _ (by simp) (fun e he => h e (by simp [he]))]
    simp [List.append_assoc]
theorem cL_cons (u : Int) (b : UInt8) (r : List UInt8) : cL u (b :: r) = dl u b :: r.flatMap (fun b => [u, dl u b]) := by
  unfold cL
  rw [List.map_cons]
  show [dl u b] ++ _ = _
  rw [List.flatMap_map]
  rfl
theorem keyFold {u g : Int} {cs : List UInt8} (L : List Int) (hc : cs ≠ []) (h : ∀ e ∈ cs, e = 46 ∨ e = 45) : cs.foldl (keyStep u) (L, g) = ((if L = [] then [] else L ++ [g]) ++ cL u cs, u) := by
  cases cs with
  | nil => exact absurd rfl hc
  | cons b r =>
    rw [List.foldl_cons, keyStep_dd (h b (by simp)), keyFold_more r _ (by simp) (fun e he => h e (by simp [he])), cL_cons]
    simp [List.append_assoc]
theorem cL_ne (u : Int) {cs : List UInt8} (h : cs ≠ []) : cL u cs ≠ [] := by
  cases cs with
  | nil => exact absurd rfl h
  | cons b r => rw [cL_cons]; simp
theorem signStep_c {u sl g : Int} {c : UInt8} (L : List Int) (h1 : c ≠ 32) (h2 : codeOf c ≠ []) : signStep u sl (L, g) c = ((if L = [] then [] else L ++ [g]) ++ cL u (codeOf c), 3 * sl) := by
  unfold signStep
  rw [if_neg h1, keyFold L h2 (codeOf_dash c)]
theorem signFold_more {u sl : Int} : ∀ (p : List UInt8) (L : List Int), L ≠ [] → (∀ c ∈ p, c ≠ 32 ∧ codeOf c ≠ []) → p.foldl (signStep u sl) (L, 3 * sl) = (L ++ p.flatMap (fun c => [3 * sl] ++ cL u (codeOf c)), 3 * sl)
  | [], L, _, _ => by simp
  | b :: r, L, hL, h => by
    rw [List.foldl_cons, signStep_c L (h b (by simp)).1 (h b (by simp)).2, if_neg hL, signFold_more r _ (by simp) (fun e he => h e (by simp [he]))]
    simp [List.append_assoc]
theorem wLL_cons (u sl : Int) (b : UInt8) (r : List UInt8) : wLL u sl (b :: r) = cL u (codeOf b) ++ r.flatMap (fun c => [3 * sl] ++ cL u (codeOf c)) := by
  unfold wLL
  rw [List.map_cons]
  show cL u (codeOf b) ++ _ = _
  rw [List.flatMap_map]
theorem signFold {u sl g : Int} {p : List UInt8} (L : List Int) (hp : p ≠ []) (h : ∀ c ∈ p, c ≠ 32 ∧ codeOf c ≠ []) : p.foldl (signStep u sl) (L, g) = ((if L = [] then [] else L ++ [g]) ++ wLL u sl p, 3 * sl) := by
  cases p with
  | nil => exact absurd rfl hp
  | cons b r =>
    have hb := h b (by simp)
    have hne : (if L = [] then [] else L ++ [g]) ++ cL u (codeOf b) ≠ [] := by
      intro e
      exact cL_ne u hb.2 (List.append_eq_nil_iff.1 e).2
    rw [List.foldl_cons, signStep_c L hb.1 hb.2, signFold_more r _ hne (fun e he => h e (by simp [he])), wLL_cons]
    simp [List.append_assoc]
theorem wLL_ne (u sl : Int) {p : List UInt8} (hp : p ≠ []) (h : ∀ c ∈ p, c ≠ 32 ∧ codeOf c ≠ []) : wLL u sl p ≠ [] := by
  cases p with
  | nil => exact absurd rfl hp
  | cons b r =>
    rw [wLL_cons]
    intro e
    exact cL_ne u (h b (by simp)).2 (List.append_eq_nil_iff.1 e).1
theorem wordFold_more {u sl : Int} : ∀ (q : List (List UInt8)) (L : List Int), L ≠ [] → (∀ p ∈ q, p ≠ [] ∧ ∀ c ∈ p, c ≠ 32 ∧ codeOf c ≠ []) →
    (q.flatMap fun y => [32] ++ y).foldl (signStep u sl) (L, 3 * sl) = (L ++ q.flatMap (fun y => [7 * sl] ++ wLL u sl y), 3 * sl)
  | [], L, _, _ => by simp
  | p :: r, L, hL, h => by
    have hp := h p (by simp)
    rw [List.flatMap_cons, List.foldl_append, List.foldl_append]
    have e0 : [32].foldl (signStep u sl) (L, 3 * sl) = (L, 7 * sl) := by
      show signStep u sl (L, 3 * sl) 32 = _
      unfold signStep; rw [if_pos rfl]
    rw [e0, signFold L hp.1 hp.2, if_neg hL, wordFold_more r _ (by simp [hL]) (fun e he => h e (by simp [he]))]
    simp [List.append_assoc]
theorem keyed_words (u sl : Int) {ps : List (List UInt8)} (h : sayW ps) : keyedL (isp [32] ps) u sl = isp [7 * sl] (ps.map (wLL u sl)) := by
  obtain ⟨h0, h1⟩ := h
  cases ps with
  | nil => exact absurd rfl h0
  | cons p q =>
    have hp := h1 p (by simp)
    unfold keyedL
    show (List.foldl (signStep u sl) ([], 0) (p ++ q.flatMap fun y => [32] ++ y)).1 = _
    rw [List.foldl_append, signFold [] hp.1 hp.2, if_pos rfl, List.nil_append, wordFold_more q _ (wLL_ne u sl hp.1 hp.2) (fun e he => h1 e (by simp [he]))]
    show wLL u sl p ++ _ = wLL u sl p ++ _
    rw [List.flatMap_map]
/-- Both ways to key what can be said give the same marks and gaps. -/
theorem keyed_same {s : ByteArray} (h : saidE s = 0) (u sl : Int) : keyedL s.data.toList u sl = sL u sl (codesOf s) := by
  rw [sL_cut, ← keyed_words u sl (said_sayW h), cutW_isp]

/-! ### What is keyed evenly is read as it was said. -/
def hStep (u : Int) (st : Bool × Int × List UInt8 × List UInt8) (x : Int) : Bool × Int × List UInt8 × List UInt8 :=
  (!st.1, st.2.1 + nearO st.1 x u, if st.1 then (if nearU true x u = 1 then (st.2.2.1, st.2.2.2 ++ [46]) else (st.2.2.1, st.2.2.2 ++ [45]))
    else if nearU false x u = 3 then (st.2.2.1 ++ signOfL st.2.2.2, []) else if nearU false x u = 7 then (st.2.2.1 ++ signOfL st.2.2.2 ++ [32], []) else (st.2.2.1, st.2.2.2))
theorem markB_succ (k : Nat) : markB (k + 1) = !markB k := by
  unfold markB
  rcases Nat.mod_two_eq_zero_or_one k with h | h
  · rw [show (k + 1) % 2 = 1 by omega, h]; rfl
  · rw [show (k + 1) % 2 = 0 by omega, h]; rfl
theorem hFold (l : List Int) (u : Int) (k : Nat) (hk : k ≤ l.length) : (l.take k).foldl (hStep u) (true, 0, [], []) = (markB k, offTo l u k, readTo l u k) := by
  induction k with
  | zero => rfl
  | succ k ih =>
    have hlt : k < l.length := by omega
    have hg : l.getD k 0 = l[k] := by rw [List.getD_eq_getElem?_getD, List.getElem?_eq_getElem hlt]; rfl
    rw [List.take_succ_eq_append_getElem hlt, List.foldl_append, ih (by omega)]
    have e1 : offTo l u (k + 1) = offTo l u k + nearO (markB k) (l.getD k 0) u := rfl
    have e2 : readTo l u (k + 1) = (if markB k then (if nearU true (l.getD k 0) u = 1 then ((readTo l u k).1, (readTo l u k).2 ++ [46]) else ((readTo l u k).1, (readTo l u k).2 ++ [45]))
      else if nearU false (l.getD k 0) u = 3 then ((readTo l u k).1 ++ signOfL (readTo l u k).2, [])
      else if nearU false (l.getD k 0) u = 7 then ((readTo l u k).1 ++ signOfL (readTo l u k).2 ++ [32], [])
      else readTo l u k) := rfl
    rw [e1, e2, hg, markB_succ]
    show hStep u (markB k, offTo l u k, readTo l u k) l[k] = _
    generalize readTo l u k = R
    generalize offTo l u k = O
    unfold hStep
    cases markB k <;> rfl
theorem near_1 {u : Int} (h : 1 ≤ u) (m : Bool) : nearU m u u = 1 ∧ nearO m u u = 0 := by
  cases m <;> (unfold nearU nearO dN; constructor) <;> (try simp only [Bool.false_eq_true, if_false, if_true, reduceCtorEq, false_and, true_and]) <;> (try rw [if_neg (by omega)]) <;> (try rw [if_neg (by omega)]) <;> (try omega)
theorem near_3 {u : Int} (h : 1 ≤ u) (m : Bool) : nearU m (u * 3) u = 3 ∧ nearO m (u * 3) u = 0 := by
  cases m <;> (unfold nearU nearO dN; constructor) <;> (try simp only [Bool.false_eq_true, if_false, if_true, reduceCtorEq, false_and, true_and]) <;> (try rw [if_neg (by omega)]) <;> (try rw [if_pos (by omega)]) <;> (try omega)
theorem near_7 {u : Int} (h : 1 ≤ u) : nearU false (7 * u) u = 7 ∧ nearO false (7 * u) u = 0 := by
  constructor
  · unfold nearU dN; rw [if_pos ⟨rfl, by omega⟩]
  · unfold nearO dN; simp only [Bool.false_eq_true, if_false]; omega
theorem hStep_mark {u : Int} (h : 1 ≤ u) (f : Int) (o c : List UInt8) {b : UInt8} (hb : b = 46 ∨ b = 45) : hStep u (true, f, o, c) (dl u b) = (false, f, o, c ++ [b]) := by
  rcases hb with rfl | rfl
  · have e : dl u 46 = u := rfl
    unfold hStep
    rw [e]
    simp only [(near_1 h true).1, (near_1 h true).2, if_true, Int.add_zero, Bool.not_true]
  · have e : dl u 45 = u * 3 := rfl
    unfold hStep
    rw [e]
    simp only [(near_3 h true).1, (near_3 h true).2, if_true, Int.add_zero, Bool.not_true]
    rw [if_neg (by decide)]
theorem hStep_in {u : Int} (h : 1 ≤ u) (f : Int) (o c : List UInt8) : hStep u (false, f, o, c) u = (true, f, o, c) := by
  unfold hStep
  simp only [(near_1 h false).1, (near_1 h false).2, Bool.false_eq_true, if_false, Int.add_zero, Bool.not_false]
  rw [if_neg (by decide), if_neg (by decide)]
theorem hStep_sign {u : Int} (h : 1 ≤ u) (f : Int) (o c : List UInt8) : hStep u (false, f, o, c) (3 * u) = (true, f, o ++ signOfL c, []) := by
  unfold hStep
  rw [Int.mul_comm 3 u]
  simp only [(near_3 h false).1, (near_3 h false).2, Bool.false_eq_true, if_false, Int.add_zero, Bool.not_false, if_true]
theorem hStep_word {u : Int} (h : 1 ≤ u) (f : Int) (o c : List UInt8) : hStep u (false, f, o, c) (7 * u) = (true, f, o ++ signOfL c ++ [32], []) := by
  unfold hStep
  simp only [(near_7 h).1, (near_7 h).2, Bool.false_eq_true, if_false, Int.add_zero, Bool.not_false, if_true]
  rw [if_neg (by decide)]
theorem hFold_more {u : Int} (h : 1 ≤ u) (f : Int) (o : List UInt8) : ∀ (cs c : List UInt8), (∀ e ∈ cs, e = 46 ∨ e = 45) → (cs.flatMap (fun b => [u, dl u b])).foldl (hStep u) (false, f, o, c) = (false, f, o, c ++ cs)
  | [], c, _ => by simp
  | b :: r, c, hb => by
    rw [List.flatMap_cons, List.foldl_append]
    have e : [u, dl u b].foldl (hStep u) (false, f, o, c) = (false, f, o, c ++ [b]) := by
      show hStep u (hStep u _ u) (dl u b) = _
      rw [hStep_in h, hStep_mark h _ _ _ (hb b (by simp))]
    rw [e, hFold_more h f o r _ (fun e he => hb e (by simp [he]))]
    simp [List.append_assoc]
theorem hFold_code {u : Int} (h : 1 ≤ u) (f : Int) (o : List UInt8) {cs : List UInt8} (hc : cs ≠ []) (hd : ∀ e ∈ cs, e = 46 ∨ e = 45) : (cL u cs).foldl (hStep u) (true, f, o, []) = (false, f, o, cs) := by
  cases cs with
  | nil => exact absurd rfl hc
  | cons b r =>
    rw [cL_cons, List.foldl_cons, hStep_mark h _ _ _ (hd b (by simp)), hFold_more h f o r _ (fun e he => hd e (by simp [he]))]
    rfl
theorem sign_code {c : UInt8} (h : codeOf c ≠ []) : signOfL (codeOf c) = [c] := by
  obtain ⟨k, hk, _, e⟩ := sign_at c h
  unfold codeOf at h e
  cases hf : codeT.find? (fun p => p.1 == c) with
  | none => rw [hf] at h; exact absurd rfl h
  | some p =>
    have hm := List.mem_of_find?_eq_some hf
    have hp := List.find?_some hf
    have hall := valC_codes
    rw [List.all_eq_true] at hall
    have := hall p hm
    simp only [Bool.and_eq_true, decide_eq_true_eq] at this
    have e1 : codeOf c = p.2 := by unfold codeOf; rw [hf]; rfl
    rw [e1, this.2]
    have : p.1 = c := by simpa using hp
    rw [this]
theorem hFold_signs {u : Int} (h : 1 ≤ u) (f : Int) : ∀ (p : List UInt8) (o : List UInt8) (c : UInt8), codeOf c ≠ [] → (∀ c ∈ p, c ≠ 32 ∧ codeOf c ≠ []) →
    ∃ c2, codeOf c2 ≠ [] ∧ o ++ [c] ++ p = (o ++ [c] ++ p).dropLast ++ [c2] ∧ (p.flatMap (fun c => [3 * u] ++ cL u (codeOf c))).foldl (hStep u) (false, f, o, codeOf c) = (false, f, (o ++ [c] ++ p).dropLast, codeOf c2)
  | [], o, c, hc, _ => ⟨c, hc, by simp, by simp⟩
  | b :: r, o, c, hc, hp => by
    have hb := hp b (by simp)
    rw [List.flatMap_cons, List.foldl_append, List.foldl_append]
    have e : [3 * u].foldl (hStep u) (false, f, o, codeOf c) = (true, f, o ++ [c], []) := by
      show hStep u _ (3 * u) = _
      rw [hStep_sign h, sign_code hc]
    rw [e, hFold_code h f _ hb.2 (codeOf_dash b)]
    obtain ⟨c2, h1, h2, h3⟩ := hFold_signs h f r (o ++ [c]) b hb.2 (fun e he => hp e (by simp [he]))
    refine ⟨c2, h1, ?_, ?_⟩
    · simpa [List.append_assoc] using h2
    · rw [h3]; simp [List.append_assoc]
theorem hFold_word {u : Int} (h : 1 ≤ u) (f : Int) (o : List UInt8) {p : List UInt8} (h0 : p ≠ []) (hp : ∀ c ∈ p, c ≠ 32 ∧ codeOf c ≠ []) :
    ∃ c2, codeOf c2 ≠ [] ∧ o ++ p = (o ++ p).dropLast ++ [c2] ∧ (wLL u u p).foldl (hStep u) (true, f, o, []) = (false, f, (o ++ p).dropLast, codeOf c2) := by
  cases p with
  | nil => exact absurd rfl h0
  | cons b r =>
    have hb := hp b (by simp)
    rw [wLL_cons, List.foldl_append, hFold_code h f _ hb.2 (codeOf_dash b)]
    obtain ⟨c2, h1, h2, h3⟩ := hFold_signs h f r o b hb.2 (fun e he => hp e (by simp [he]))
    refine ⟨c2, h1, ?_, ?_⟩
    · simpa [List.append_assoc] using h2
    · rw [h3]; simp [List.append_assoc]
theorem hFold_words {u : Int} (h : 1 ≤ u) (f : Int) : ∀ (q : List (List UInt8)) (t o : List UInt8) (c : UInt8), codeOf c ≠ [] → t = o ++ [c] → (∀ p ∈ q, p ≠ [] ∧ ∀ c ∈ p, c ≠ 32 ∧ codeOf c ≠ []) →
    ∃ c2 o2, codeOf c2 ≠ [] ∧ t ++ q.flatMap (fun y => [32] ++ y) = o2 ++ [c2] ∧ (q.flatMap (fun y => [7 * u] ++ wLL u u y)).foldl (hStep u) (false, f, o, codeOf c) = (false, f, o2, codeOf c2)
  | [], t, o, c, hc, ht, _ => ⟨c, o, hc, by simp [ht], by simp⟩
  | p :: r, t, o, c, hc, ht, hq => by
    have hp := hq p (by simp)
    rw [List.flatMap_cons, List.flatMap_cons, List.foldl_append, List.foldl_append]
    have e : [7 * u].foldl (hStep u) (false, f, o, codeOf c) = (true, f, t ++ [32], []) := by
      show hStep u _ (7 * u) = _
      rw [hStep_word h, sign_code hc, ht]
    rw [e]
    obtain ⟨c2, h1, h2, h3⟩ := hFold_word h f (t ++ [32]) hp.1 hp.2
    rw [h3]
    obtain ⟨c3, o3, g1, g2, g3⟩ := hFold_words h f r (t ++ [32] ++ p) _ c2 h1 h2 (fun e he => hq e (by simp [he]))
    exact ⟨c3, o3, g1, by rw [← g2]; simp [List.append_assoc], g3⟩
/-- What is keyed evenly is read with its unit as it was said, without any deviation. -/
theorem keyed_heard {s : ByteArray} (h : saidE s = 0) {u : Int} (hu : 1 ≤ u) : readL (sL u u (codesOf s)) u = s.data.toList ∧ offL (sL u u (codesOf s)) u = 0 ∧ (sL u u (codesOf s)).length % 2 = 1 := by
  obtain ⟨h0, h1⟩ := said_sayW h
  have hs := cutW_isp s.data.toList
  have hF := hFold (sL u u (codesOf s)) u _ (Nat.le_refl _)
  rw [List.take_length] at hF
  generalize hL : sL u u (codesOf s) = L at *
  rw [sL_cut] at hL
  cases hc : cutW s.data.toList with
  | nil => exact absurd hc h0
  | cons p q =>
    rw [hc] at hL hs h1
    have hp := h1 p (by simp)
    obtain ⟨c2, g1, g2, g3⟩ := hFold_word hu 0 [] hp.1 hp.2
    obtain ⟨c3, o3, k1, k2, k3⟩ := hFold_words hu 0 q _ _ c2 g1 g2 (fun e he => h1 e (by simp [he]))
    have hL2 : L = wLL u u p ++ q.flatMap (fun y => [7 * u] ++ wLL u u y) := by
      rw [← hL]
      show wLL u u p ++ _ = _
      rw [List.flatMap_map]
    rw [hL2, List.foldl_append, g3, k3, ← hL2] at hF
    have hr : readTo L u L.length = (o3, codeOf c3) := (congrArg (fun x => x.2.2) hF).symm
    have ho : offTo L u L.length = 0 := (congrArg (fun x => x.2.1) hF).symm
    have hm : markB L.length = false := (congrArg (fun x => x.1) hF).symm
    refine ⟨?_, ho, ?_⟩
    · unfold readL
      rw [hr]
      show o3 ++ signOfL (codeOf c3) = _
      rw [sign_code k1, ← k2, ← hs]
      show [] ++ p ++ _ = p ++ _
      simp
    · unfold markB at hm
      have := of_decide_eq_false hm
      omega
theorem offTo_zero {l : List Int} {u : Int} (h : offL l u = 0) : ∀ k, k < l.length → nearO (markB k) (l.getD k 0) u = 0 := by
  have hnn : ∀ (m : Bool) (x : Int), 0 ≤ nearO m x u := fun m x => by
    have a := dN_0 x u 1
    have b := dN_0 x u 3
    have c := dN_0 x u 7
    unfold nearO
    cases m <;> simp <;> omega
  have hmono : ∀ k, 0 ≤ offTo l u k := fun k => by
    induction k with
    | zero => exact Int.le_refl _
    | succ k ih => unfold offTo; have := hnn (markB k) (l.getD k 0); omega
  have hstep : ∀ d k, k + d = l.length → offTo l u k ≤ offL l u := fun d => by
    induction d with
    | zero => intro k hk; unfold offL; rw [show l.length = k by omega]; exact Int.le_refl _
    | succ d ih =>
      intro k hk
      have h1 := ih (k + 1) (by omega)
      unfold offTo at h1
      have := hnn (markB k) (l.getD k 0)
      omega
  intro k hk
  have h1 := hstep (l.length - (k + 1)) (k + 1) (by omega)
  have h2 : offTo l u (k + 1) = offTo l u k + nearO (markB k) (l.getD k 0) u := rfl
  have h3 := hmono k
  have h4 := hnn (markB k) (l.getD k 0)
  omega
theorem even_uneven {l : List Int} {u : Int} (hu : 1 ≤ u) (h : offL l u = 0) : unevTo l u l.length = [] := by
  have hz := offTo_zero h
  have key : ∀ k, k ≤ l.length → unevTo l u k = [] := fun k => by
    induction k with
    | zero => intro _; rfl
    | succ k ih =>
      intro hk
      unfold unevTo
      rw [hz k (by omega), if_neg (by omega)]
      exact ih (by omega)
  exact key _ (Nat.le_refl _)
theorem dl_mul (u : Int) (b : UInt8) : dl u b = u * dl 1 b := by unfold dl; split <;> omega
theorem isp_map {α β : Type} (f : α → β) (g : List α) : ∀ l : List (List α), (isp g l).map f = isp (g.map f) (l.map (List.map f))
  | [] => rfl
  | x :: r => by
    show (x ++ _).map f = x.map f ++ _
    rw [List.map_append, List.map_flatMap, List.flatMap_map]
    simp
theorem sL_mul (u : Int) (ll : List (List ByteArray)) : sL u u ll = (sL 1 1 ll).map (u * ·) := by
  have hc : ∀ c : List UInt8, cL u c = (cL 1 c).map (u * ·) := fun c => by
    unfold cL
    rw [isp_map, List.map_map]
    simp only [List.map_cons, List.map_nil, Int.mul_one]
    congr 1
    apply List.map_congr_left
    intro b _
    show [dl u b] = [u * dl 1 b]
    rw [dl_mul u b]
  have hw : ∀ p : List ByteArray, wL u u p = (wL 1 1 p).map (u * ·) := fun p => by
    unfold wL
    rw [isp_map, List.map_map]
    simp only [List.map_cons, List.map_nil]
    rw [show (3 : Int) * u = u * (3 * 1) by omega]
    congr 1
    apply List.map_congr_left
    intro c _
    exact hc _
  unfold sL
  rw [isp_map, List.map_map]
  simp only [List.map_cons, List.map_nil]
  rw [show (7 : Int) * u = u * (7 * 1) by omega]
  congr 1
  apply List.map_congr_left
  intro p _
  exact hw p
theorem sum_mul (u : Int) : ∀ l : List Int, (l.map (u * ·)).sum = u * l.sum
  | [] => by simp
  | a :: r => by simp [sum_mul u r, Int.mul_add]
/-- The sum of what is keyed: so many units. -/
theorem keyed_sum (u : Int) (s : ByteArray) : (sL u u (codesOf s)).sum = unitsI s * u := by
  rw [sL_mul, sum_mul, Int.mul_comm]; rfl
end Go.Proofs.YtlodmkdhlmineaaGreatDoor
