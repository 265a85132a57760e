/- The plain side of splitting what was joined: pieces that lack a byte of the separator come back. No condition. -/
import Derived.Test.YtlodmkdhlmineaaGreatDoorKeyB
import Derived.Lib.Split
import Derived.Lib.ReplaceLaws
import Derived.Lib.CountLaws
import Derived.Lib.IndexLaws
namespace Go.Proofs.YtlodmkdhlmineaaGreatDoor
set_option linter.unusedVariables false
set_option linter.unusedSimpArgs false

theorem occ_at {s sub : List UInt8} {i m : Nat} {c : UInt8} (h : Lib.occAt s sub i = true) (hc : sub[m]? = some c) : s[i + m]? = some c := by
  unfold Lib.occAt at h
  rw [List.isPrefixOf_iff_prefix] at h
  obtain ⟨t, ht⟩ := h
  have hm : m < sub.length := (List.getElem?_eq_some_iff.1 hc).1
  have e : (s.drop i)[m]? = some c := by rw [← ht, List.getElem?_append_left hm]; exact hc
  rwa [List.getElem?_drop] at e
theorem occ_self (p sub rest : List UInt8) : Lib.occAt (p ++ (sub ++ rest)) sub p.length = true := by
  unfold Lib.occAt
  rw [List.drop_left, List.isPrefixOf_iff_prefix]
  exact List.prefix_append _ _
/-- The separator has the byte c at place m, and not ahead of it. -/
structure SepAt (sub : List UInt8) (m : Nat) (c : UInt8) : Prop where
  at_ : sub[m]? = some c
  no : c ∉ sub.take m
theorem index_sep {p sub rest : List UInt8} {m : Nat} {c : UInt8} (S : SepAt sub m c) (hp : c ∉ p) : Lib.index (p ++ (sub ++ rest)) sub = p.length := by
  refine Lib.index_first (by simp) (occ_self _ _ _) fun j hj => ?_
  cases ho : Lib.occAt (p ++ (sub ++ rest)) sub j with
  | false => rfl
  | true =>
    exfalso
    have h := occ_at ho S.at_
    have hm : m < sub.length := (List.getElem?_eq_some_iff.1 S.at_).1
    by_cases h1 : j + m < p.length
    · rw [List.getElem?_append_left h1] at h
      exact hp (List.mem_of_getElem? h)
    · rw [List.getElem?_append_right (by omega), List.getElem?_append_left (by omega)] at h
      refine S.no ?_
      have h2 : (sub.take m)[j + m - p.length]? = some c := by rw [List.getElem?_take, if_pos (by omega)]; exact h
      exact List.mem_of_getElem? h2
theorem index_nosep {p sub : List UInt8} {m : Nat} {c : UInt8} (S : SepAt sub m c) (hp : c ∉ p) : Lib.index p sub = -1 := by
  refine Lib.index_none fun j _ => ?_
  cases ho : Lib.occAt p sub j with
  | false => rfl
  | true => exact absurd (List.mem_of_getElem? (occ_at ho S.at_)) hp
theorem isp_cons {α : Type} (g x y : List α) (r : List (List α)) : isp g (x :: y :: r) = x ++ (g ++ isp g (y :: r)) := by
  simp [isp, List.flatMap_cons]
theorem split_isp {sub : List UInt8} {m : Nat} {c : UInt8} (S : SepAt sub m c) : ∀ (ps : List (List UInt8)), ps ≠ [] → (∀ p ∈ ps, c ∉ p) → Lib.splitK sub 0 (Lib.count (isp sub ps) sub) (isp sub ps) = ps
  | [], h, _ => absurd rfl h
  | [p], _, hp => by
    have e : isp sub [p] = p := by simp [isp]
    rw [e]
    have hi := index_nosep S (hp p (by simp))
    rw [Lib.count_miss hi]
    rfl
  | p :: q :: r, _, hp => by
    have ih := split_isp S (q :: r) (by simp) (fun x hx => hp x (by simp [List.mem_cons] at hx ⊢; exact .inr hx))
    rw [isp_cons]
    have hi := index_sep (rest := isp sub (q :: r)) S (hp p (by simp))
    have hne : sub ≠ [] := by intro e; have := S.at_; rw [e] at this; simp at this
    have hd : (p ++ (sub ++ isp sub (q :: r))).drop (p.length + sub.length) = isp sub (q :: r) := by
      rw [← List.append_assoc, ← List.length_append, List.drop_left]
    rw [Lib.count_hit hne hi, hd, Nat.add_comm 1, Lib.splitK, hi, if_neg (by simp)]
    rw [show ((p.length : Int).toNat) = p.length from rfl, hd, ih, Nat.add_zero, List.take_left]

/-- The pieces between separators. -/
def piecesOf (sep s : ByteArray) : List ByteArray := Lib.splitB sep 0 (Lib.countB s sep) s
def strB (l : List UInt8) : ByteArray := ⟨l.toArray⟩
theorem strB_data (l : List UInt8) : (strB l).data.toList = l := rfl
theorem strB_size (l : List UInt8) : (strB l).size = l.length := by show l.toArray.size = _; simp
theorem strB_of (s : ByteArray) : strB s.data.toList = s := rfl
theorem map_data {l : List ByteArray} {ps : List (List UInt8)} (h : l.map (·.data.toList) = ps) : l = ps.map strB := by
  subst h
  rw [List.map_map]
  symm
  exact (List.map_congr_left (fun s _ => strB_of s)).trans (List.map_id _)
theorem pieces_isp {sep : ByteArray} {m : Nat} {c : UInt8} (S : SepAt sep.data.toList m c) (ps : List (List UInt8)) (h0 : ps ≠ []) (hp : ∀ p ∈ ps, c ∉ p) : piecesOf sep (strB (isp sep.data.toList ps)) = ps.map strB := by
  refine map_data ?_
  unfold piecesOf
  rw [Lib.splitB_data]
  exact split_isp S ps h0 hp
theorem strB_app (a b : List UInt8) : strB a ++ strB b = strB (a ++ b) := by
  have h : (strB a ++ strB b).data.toList = (strB (a ++ b)).data.toList := by simp [strB]
  rw [← strB_of (strB a ++ strB b), h]; rfl
theorem toList_inj {a b : ByteArray} (h : a.toList = b.toList) : a = b := by
  rw [Lib.toList_data, Lib.toList_data] at h
  rw [← strB_of a, h]; rfl
theorem strB_inj {a b : List UInt8} (h : strB a = strB b) : a = b := congrArg (fun s : ByteArray => s.data.toList) h
theorem sep_blank : SepAt [32] 0 32 := ⟨rfl, by simp⟩
theorem sep_slash : SepAt [32, 47, 32] 1 47 := ⟨rfl, by decide⟩
end Go.Proofs.YtlodmkdhlmineaaGreatDoor
