/- The walk over call.placeOf. Condition: parts of at most 100 bytes; a district stands behind a prefix. The walk over the reference's FoundOf. Condition: a table lies in memory; a right call sign. The walk over a table's Find: it is the reference's FoundOf. Condition: a right table with its maps lies in memory; a right call sign. The walks over a table's near and edges. Condition: a right table with its maps lies in memory. When a call sign's entity changes: the edges of the prefixes that can count are enough (plain). No condition. Plain law: a number that is cut is the same again; as digits it is itself. No condition. Plain law of the cosine in whole numbers: no program in sight. No condition. place.cosine and pileref1.CosineOf both compute the plain cosine. Condition: the angle is far from the ends of int. Plain law of the sun: what tilt and height come to, and their bounds: no program in sight. No condition. The walks over tilt and height of the sun, in package place and in the reference. Condition: moments and angles in their ranges. The error of a site, in package place and in the reference. No condition. Tilt, Sun, Grey, Cosine with their errors; GreyAt; placed. Condition: a site's numbers lie within 2^41. ready: the four packages do something. Condition: asciiSpace is Go's own table, MaxLen holds a number. The walk over the law NumbersComeBack. Condition: asciiSpace and the powers of ten are Go's own tables, MaxLen holds a number. Pairs of a moment and a name in memory; Itoa at moments; the changes as a loop makes them. Condition: the powers of ten are Go's own table. The walks over call.Is, call.Distance and call.CheckCalls. Condition: strings of ASCII of at most 100 bytes. The walk over call.Of. Condition: parts of a size; a string of ASCII bytes. The walk over call.Changes: the changes of what Find says. Condition: parts of a size; the powers of ten are Go's own table. -/
import Derived.Test.YtbpkfkbbkgdlaaaGreatDoorPToldaf
import Derived.Test.YtbpkfkbbkgdlaaaGreatDoorPToldai
import Derived.Test.YtbpkfkbbkgdlaaaGreatDoorPToldag
import Derived.Test.YtbpkfkbbkgdlaaaGreatDoorPToldaa
import Derived.Lib.Bytealg
import Derived.Lib.ItoaNum
import Derived.Lib.ItoaMem
import Derived.Test.YtbpkfkbbkgdlaaaGreatDoorPToldab
import Derived.Test.YtbpkfkbbkgdlaaaGreatDoorPToldac
import Derived.Deep.AppendLies
import Derived.Deep.RegionHeld3
import Derived.StillTailTactics
import Derived.Lib.UnsafeStr
import Derived.Lib.AppendStr
import Derived.Maps.OwnSet
import Derived.Deep.DeepCutAuto
namespace Go.Proofs.YtbpkfkbbkgdlaaaGreatDoor
open Go.RowKit
set_option linter.unusedVariables false
set_option linter.unusedSimpArgs false

/-- The place of a call sign. -/
def plcOf (t pre suf ad : ByteArray) (kd : Int) : ByteArray := if kd = 1 then ad else if kd = 2 then pre.extract 0 (pre.size - 1) ++ ad ++ suf else t
set_option maxRecDepth 100000 in
set_option maxHeartbeats 2000000 in
theorem placeOf_any (t pre suf ad : ByteArray) (kd : Int) (w : World) (h1 : pre.size ≤ 100) (h2 : suf.size ≤ 100) (h3 : ad.size ≤ 100) (h4 : 1 ≤ pre.size) :
    Calls Tryz.prog 66 #[.agg #[.string t, .string pre, .string suf, .int .i64 kd, .string ad]] w fun r w' => r = .returned (.string (plcOf t pre suf ad kd)) ∧ w.grownBy w' none := by
  have hB := Blk.new w 105 #[.string t, .string pre, .string suf, .int .i64 kd, .string ad]
  have hg := World.grownBy_alloc w (.cells #[.string t, .string pre, .string suf, .int .i64 kd, .string ad] 105) none
  by_cases k1 : kd = 1
  · have HP : Hid (plcOf t pre suf ad kd = ad) := by show _ = _; unfold plcOf; rw [if_pos k1]
    rw [HP.out]
    subst k1
    go_enter Tryz.func66, Tryz.ntmps66
    go_upto_region 1 with fail
    generalize w.alloc (.cells #[.string t, .string pre, .string suf, .int .i64 1, .string ad] 105) = w1 at *
    have x3 := hB.cell 3
    have x4 := hB.cell 4
    simp only [List.getElem?_toArray, List.getElem?_cons_zero, List.getElem?_cons_succ] at x3 x4
    go_wp2_with fail
    go_ret
    exact ⟨rfl, hg⟩
  · by_cases k2 : kd = 2
    · have HP : Hid (plcOf t pre suf ad kd = pre.extract 0 (pre.size - 1) ++ ad ++ suf) := by show _ = _; unfold plcOf; rw [if_neg k1, if_pos k2]
      rw [HP.out]
      obtain ⟨M, hM⟩ : ∃ M, pre.size - 1 = M := ⟨_, rfl⟩
      rw [hM]
      have e1 : IntKind.i64.wrap ((pre.size : Int) - 1) = (M : Int) := by rw [IntKind.wrap_i64]; omega
      have e2 : IntKind.i64.wrap (M : Int) = (M : Int) := by rw [IntKind.wrap_i64]; omega
      have m1 : (M : Int) ≤ (pre.size : Int) := by omega
      have m2 : M ≤ pre.size := by omega
      have m0 : (0 : Int) ≤ (M : Int) := by omega
      have hs1 : (pre.extract 0 M).size + ad.size ≤ 9223372036854775807 := by rw [ByteArray.size_extract]; omega
      have hs2 : (pre.extract 0 M ++ ad).size + suf.size ≤ 9223372036854775807 := by rw [ByteArray.size_append, ByteArray.size_extract]; omega
      have hs3 : ¬ 9223372036854775807 < M + ad.size := by omega
      have hs4 : ¬ 9223372036854775807 < M + ad.size + suf.size := by omega
      subst k2
      have HM := Lib.hid hM
      clear k1 HP hM
      go_enter Tryz.func66, Tryz.ntmps66
      go_upto_region 1 with fail
      generalize w.alloc (.cells #[.string t, .string pre, .string suf, .int .i64 2, .string ad] 105) = w1 at *
      generalize w.heap.size = gX at *
      have x1 := hB.cell 1
      have x2 := hB.cell 2
      have x3 := hB.cell 3
      have x4 := hB.cell 4
      simp only [List.getElem?_toArray, List.getElem?_cons_zero, List.getElem?_cons_succ] at x1 x2 x3 x4
      go_wp2_with fail
      refine wp_region_held_drew (S := fun W => W.cell? ⟨gX, 1, none⟩ = some (.string pre) ∧ W.cell? ⟨gX, 2, none⟩ = some (.string suf) ∧ W.cell? ⟨gX, 4, none⟩ = some (.string ad)) (by kernel_rfl) ⟨x1, x2, x4⟩ (fun hHeld => ?_)
      refine wpAnyH_take (i := 0) (v := ?_) rfl (by kernel_rfl) (by kernel_rfl) (by kernel_rfl) (fun _ _ _ h => h) (Or.inl ⟨by kernel_rfl, ?_⟩) hHeld ?_
      rotate_left
      · intro w hSw
        (try dsimp only at hSw)
        obtain ⟨hS0, hS1, hS2⟩ := hSw
        go_simp
        (try with_reducible rfl)
      change wpAnyH _ _ _ _ _ _ _ (Act.put _ (some 11) _) _
      simp only [Act.put, List.setIfInBounds_toArray, List.set_cons_zero, List.set_cons_succ]
      refine wpAnyH_take (i := 1) (v := ?_) rfl (by kernel_rfl) (by kernel_rfl) (by kernel_rfl) (fun _ _ _ h => h) (Or.inl ⟨by kernel_rfl, ?_⟩) hHeld ?_
      rotate_left
      · intro w hSw
        (try dsimp only at hSw)
        obtain ⟨hS0, hS1, hS2⟩ := hSw
        go_simp
        (try with_reducible rfl)
      change wpAnyH _ _ _ _ _ _ _ (Act.put _ (some 12) _) _
      simp only [Act.put, List.setIfInBounds_toArray, List.set_cons_zero, List.set_cons_succ]
      refine wpAnyH_take (i := 2) (v := ?_) rfl (by kernel_rfl) (by kernel_rfl) (by kernel_rfl) (fun _ _ _ h => h) (Or.inl ⟨by kernel_rfl, ?_⟩) hHeld ?_
      rotate_left
      · intro w hSw
        (try dsimp only at hSw)
        obtain ⟨hS0, hS1, hS2⟩ := hSw
        go_simp
        (try with_reducible rfl)
      change wpAnyH _ _ _ _ _ _ _ (Act.put _ (some 13) _) _
      simp only [Act.put, List.setIfInBounds_toArray, List.set_cons_zero, List.set_cons_succ]
      refine wpAnyH_take (i := 3) (v := ?_) rfl (by kernel_rfl) (by kernel_rfl) (by kernel_rfl) (fun _ _ _ h => h) (Or.inl ⟨by kernel_rfl, ?_⟩) hHeld ?_
      rotate_left
      · intro w hSw
        (try dsimp only at hSw)
        obtain ⟨hS0, hS1, hS2⟩ := hSw
        go_simp
        (try with_reducible rfl)
      change wpAnyH _ _ _ _ _ _ _ (Act.put _ (some 14) _) _
      simp only [Act.put, List.setIfInBounds_toArray, List.set_cons_zero, List.set_cons_succ]
      refine wpAnyH_take (i := 4) (v := ?_) rfl (by kernel_rfl) (by kernel_rfl) (by kernel_rfl) (fun _ _ _ h => h) (Or.inl ⟨by kernel_rfl, ?_⟩) hHeld ?_
      rotate_left
      · intro w hSw
        (try dsimp only at hSw)
        obtain ⟨hS0, hS1, hS2⟩ := hSw
        go_simp
        (try with_reducible rfl)
      change wpAnyH _ _ _ _ _ _ _ (Act.put _ (some 15) _) _
      simp only [Act.put, List.setIfInBounds_toArray, List.set_cons_zero, List.set_cons_succ]
      refine wpAnyH_take (i := 5) (v := ?_) rfl (by kernel_rfl) (by kernel_rfl) (by kernel_rfl) (fun _ _ _ h => h) (Or.inl ⟨by kernel_rfl, ?_⟩) hHeld ?_
      rotate_left
      · intro w hSw
        (try dsimp only at hSw)
        obtain ⟨hS0, hS1, hS2⟩ := hSw
        go_simp
        (try with_reducible rfl)
      change wpAnyH _ _ _ _ _ _ _ (Act.put _ (some 16) _) _
      simp only [Act.put, List.setIfInBounds_toArray, List.set_cons_zero, List.set_cons_succ]
      refine wpAnyH_take (i := 6) (v := ?_) rfl (by kernel_rfl) (by kernel_rfl) (by kernel_rfl) (fun _ _ _ h => h) (Or.inl ⟨by kernel_rfl, ?_⟩) hHeld ?_
      rotate_left
      · intro w hSw
        (try dsimp only at hSw)
        obtain ⟨hS0, hS1, hS2⟩ := hSw
        go_simp
        (try with_reducible rfl)
      change wpAnyH _ _ _ _ _ _ _ (Act.put _ (some 17) _) _
      simp only [Act.put, List.setIfInBounds_toArray, List.set_cons_zero, List.set_cons_succ]
      refine wpAnyH_take (i := 7) (v := ?_) rfl (by kernel_rfl) (by kernel_rfl) (by kernel_rfl) (fun _ _ _ h => h) (Or.inl ⟨by kernel_rfl, ?_⟩) hHeld ?_
      rotate_left
      · intro w hSw
        (try dsimp only at hSw)
        obtain ⟨hS0, hS1, hS2⟩ := hSw
        go_simp
        (try with_reducible rfl)
      change wpAnyH _ _ _ _ _ _ _ (Act.put _ (some 18) _) _
      simp only [Act.put, List.setIfInBounds_toArray, List.set_cons_zero, List.set_cons_succ]
      refine wpAnyH_take (i := 8) (v := ?_) rfl (by kernel_rfl) (by kernel_rfl) (by kernel_rfl) (fun _ _ _ h => h) (Or.inl ⟨by kernel_rfl, ?_⟩) hHeld ?_
      rotate_left
      · intro w hSw
        (try dsimp only at hSw)
        obtain ⟨hS0, hS1, hS2⟩ := hSw
        go_simp
        (try with_reducible rfl)
      change wpAnyH _ _ _ _ _ _ _ (Act.put _ (some 19) _) _
      simp only [Act.put, List.setIfInBounds_toArray, List.set_cons_zero, List.set_cons_succ]
      refine wpAnyH_take (i := 9) (v := ?_) rfl (by kernel_rfl) (by kernel_rfl) (by kernel_rfl) (fun _ _ _ h => h) (Or.inl ⟨by kernel_rfl, ?_⟩) hHeld ?_
      rotate_left
      · intro w hSw
        (try dsimp only at hSw)
        obtain ⟨hS0, hS1, hS2⟩ := hSw
        go_simp
        (try with_reducible rfl)
      change wpAnyH _ _ _ _ _ _ _ (Act.put _ (some 20) _) _
      simp only [Act.put, List.setIfInBounds_toArray, List.set_cons_zero, List.set_cons_succ]
      refine wpAnyH_take (i := 10) (v := ?_) rfl (by kernel_rfl) (by kernel_rfl) (by kernel_rfl) (fun _ _ _ h => h) (Or.inl ⟨by kernel_rfl, ?_⟩) hHeld ?_
      rotate_left
      · intro w hSw
        (try dsimp only at hSw)
        obtain ⟨hS0, hS1, hS2⟩ := hSw
        go_simp
        (try with_reducible rfl)
      change wpAnyH _ _ _ _ _ _ _ (Act.put _ (some 21) _) _
      simp only [Act.put, List.setIfInBounds_toArray, List.set_cons_zero, List.set_cons_succ]
      refine wpAnyH_take (i := 11) (v := ?_) rfl (by kernel_rfl) (by kernel_rfl) (by kernel_rfl) (fun _ _ _ h => h) (Or.inl ⟨by kernel_rfl, ?_⟩) hHeld ?_
      rotate_left
      · intro w hSw
        (try dsimp only at hSw)
        obtain ⟨hS0, hS1, hS2⟩ := hSw
        go_simp
        (try with_reducible rfl)
      change wpAnyH _ _ _ _ _ _ _ (Act.put _ (some 22) _) _
      simp only [Act.put, List.setIfInBounds_toArray, List.set_cons_zero, List.set_cons_succ]
      refine wpAnyH_take (i := 12) (v := ?_) rfl (by kernel_rfl) (by kernel_rfl) (by kernel_rfl) (fun _ _ _ h => h) (Or.inl ⟨by kernel_rfl, ?_⟩) hHeld ?_
      rotate_left
      · intro w hSw
        (try dsimp only at hSw)
        obtain ⟨hS0, hS1, hS2⟩ := hSw
        go_simp
        (try with_reducible rfl)
      change wpAnyH _ _ _ _ _ _ _ (Act.put _ (some 23) _) _
      simp only [Act.put, List.setIfInBounds_toArray, List.set_cons_zero, List.set_cons_succ]
      refine wpAnyH_take (i := 13) (v := ?_) rfl (by kernel_rfl) (by kernel_rfl) (by kernel_rfl) (fun _ _ _ h => h) (Or.inl ⟨by kernel_rfl, ?_⟩) hHeld ?_
      rotate_left
      · intro w hSw
        (try dsimp only at hSw)
        obtain ⟨hS0, hS1, hS2⟩ := hSw
        go_simp
        (try with_reducible rfl)
      change wpAnyH _ _ _ _ _ _ _ (Act.put _ (some 2) _) _
      simp only [Act.put, List.setIfInBounds_toArray, List.set_cons_zero, List.set_cons_succ]
      refine wpAnyH_done (by kernel_rfl) ?_ _
      go_wp2_with fail
      go_ret
      exact ⟨rfl, gr_drew hg⟩
    · have HP : Hid (plcOf t pre suf ad kd = t) := by show _ = _; unfold plcOf; rw [if_neg k1, if_neg k2]
      rw [HP.out]
      have b1 : (kd == 1) = false := by simpa using k1
      have b2 : (kd == 2) = false := by simpa using k2
      clear k1 k2
      go_enter Tryz.func66, Tryz.ntmps66
      go_upto_region 1 with fail
      generalize w.alloc (.cells #[.string t, .string pre, .string suf, .int .i64 kd, .string ad] 105) = w1 at *
      have x0 := hB.cell 0
      have x3 := hB.cell 3
      simp only [List.getElem?_toArray, List.getElem?_cons_zero, List.getElem?_cons_succ] at x0 x3
      go_wp2_with fail
      go_ret
      exact ⟨rfl, hg⟩
end Go.Proofs.YtbpkfkbbkgdlaaaGreatDoor

namespace Go.Proofs.YtbpkfkbbkgdlaaaGreatDoor
open Go.RowKit
set_option linter.unusedVariables false
set_option linter.unusedSimpArgs false

abbrev Fnd := ByteArray × Int × Int
def fndX (l : List Ent) (x : Pfx) : Fnd := ((entD l x.ent).key, (entD l x.ent).cont, fndZ l x)
def whlB (l : List Ent) (s : ByteArray) (t : Int) (x : Pfx) : Bool := x.whole && (decide (x.beg = s) && cntB l x t)
def whlOf (l : List Ent) (p : List Pfx) (s : ByteArray) (t : Int) : Option Pfx := p.find? (whlB l s t)
/-- What is left of the reference's answer behind the whole prefixes. -/
def restOf (l : List Ent) (p : List Pfx) (t : Int) (q : ByteArray × Nat × Int × ByteArray) : Option Fnd :=
  if q.2.2.1 = 5 ∨ q.2.2.1 = 6 then none
  else if lngTo l p (plcOf q.1 (q.1.extract 0 (q.2.1 + 1)) (q.1.extract (q.2.1 + 1) q.1.size) q.2.2.2 q.2.2.1) t (-1) p.length < 0 then none
  else (p[(lngTo l p (plcOf q.1 (q.1.extract 0 (q.2.1 + 1)) (q.1.extract (q.2.1 + 1) q.1.size) q.2.2.2 q.2.2.1) t (-1) p.length).toNat]?).map (fndX l)
def fndOf (l : List Ent) (p : List Pfx) (s : ByteArray) (t : Int) (q : ByteArray × Nat × Int × ByteArray) : Option Fnd :=
  match whlOf l p s t with
  | some x => some (fndX l x)
  | none => restOf l p t q
def fndZ0 : Fnd := (⟨#[]⟩, 0, 0)
def FndRet (o : Option Fnd) (r : Ending) : Prop := r = .returned (.tuple #[.agg #[.string (o.getD fndZ0).1, .int .i64 (o.getD fndZ0).2.1, .int .i64 (o.getD fndZ0).2.2], .bool o.isSome])
end Go.Proofs.YtbpkfkbbkgdlaaaGreatDoor

namespace Go.Proofs.YtbpkfkbbkgdlaaaGreatDoor
open Go.RowKit
set_option linter.unusedVariables false
set_option linter.unusedSimpArgs false

theorem TabRight.size {l : List Ent} {p : List Pfx} (h : TabRight l p) : ∀ x ∈ p, x.whole = false → 1 ≤ x.beg.size ∧ x.beg.size ≤ 4 := fun x hx hw => form_size (h.pfx x hx).form hw
theorem entD_key {l : List Ent} {s : ByteArray} (h : (entOf l s).isSome = true) : (entD l s).key = s := by
  obtain ⟨e, he⟩ := Option.isSome_iff_exists.1 h
  unfold entD
  rw [he]
  exact (entOf_mem he).2
theorem find_first {α : Type} (f : α → Bool) : ∀ (l : List α) (i : Nat) (h : i < l.length), f l[i] = true → (∀ j (hj : j < l.length), f l[j] = true → i ≤ j) → l.find? f = some l[i]
  | a :: r, 0, h, hf, _ => by rw [List.find?_cons]; simp at hf; simp [hf]
  | a :: r, i + 1, h, hf, hm => by
    have h0 : f a = false := by
      cases hc : f a with
      | false => rfl
      | true => have := hm 0 (by simp) (by simpa using hc); omega
    rw [List.find?_cons, h0]
    simp only [List.getElem_cons_succ]
    exact find_first f r i (by simpa using h) (by simpa using hf) (fun j hj hfj => by have := hm (j + 1) (by simpa using hj) (by simpa using hfj); omega)
theorem whl_idx (l : List Ent) (p : List Pfx) (s : ByteArray) (t : Int) : (cntI l p t (idxL p true s) < 0 ∧ whlOf l p s t = none) ∨ ∃ (i : Nat) (h : i < p.length), cntI l p t (idxL p true s) = i ∧ whlOf l p s t = some p[i] := by
  have hw : ∀ j (h : j < p.length), whlB l s t p[j] = true ↔ j ∈ idxL p true s ∧ cntB l p[j] t = true := fun j h => by
    unfold whlB
    rw [idxL_mem]
    constructor
    · intro h1
      simp only [Bool.and_eq_true, decide_eq_true_eq] at h1
      exact ⟨⟨h, h1.1, h1.2.1⟩, h1.2.2⟩
    · rintro ⟨⟨_, h1, h2⟩, h3⟩
      simp [h1, h2, h3]
  rcases cntI_spec l p t (idxL p true s) (idxL_sorted _ _ _) (fun j hj => (idxL_mem.1 hj).1) with ⟨h1, h2⟩ | ⟨i, hi, hil, h1, h2, h3⟩
  · refine .inl ⟨by omega, ?_⟩
    unfold whlOf
    rw [List.find?_eq_none]
    intro x hx hc
    obtain ⟨j, hj, rfl⟩ := List.mem_iff_getElem.1 hx
    obtain ⟨q1, q2⟩ := (hw j hj).1 hc
    have := h2 j q1 hj
    rw [q2] at this
    cases this
  · refine .inr ⟨i, hil, h1, ?_⟩
    unfold whlOf
    exact find_first _ p i hil ((hw i hil).2 ⟨hi, h2⟩) (fun j hj hc => by
      obtain ⟨q1, q2⟩ := (hw j hj).1 hc
      exact h3 j q1 ⟨hj, q2⟩)
theorem foundX_ok (base gT : Nat) (u v : Value) (l : List Ent) (p : List Pfx) (k : Nat) (w : World) (hT : TabAt base gT u v l p w) (hO : TabOk l p) (hlt : k < p.length) :
    Calls Tryz.prog 103 #[.pointer (some ⟨gT, 0, none⟩), .int .i64 k] w fun r w' => r = .returned (.agg #[.string (fndX l p[k]).1, .int .i64 (fndX l p[k]).2.1, .int .i64 (fndX l p[k]).2.2]) ∧ w.grownBy w' none :=
  (found_ok base gT u v l p k w hT hO hlt).mono fun r w' ⟨h1, h2⟩ => ⟨by
    rw [h1]
    show _ = Ending.returned (.agg #[.string (entD l p[k].ent).key, .int .i64 (entD l p[k].ent).cont, .int .i64 (fndZ l p[k])])
    rw [entD_key (hO.has _ (List.getElem_mem hlt))], h2⟩
set_option maxRecDepth 100000 in
set_option maxHeartbeats 16000000 in
theorem find_ok (base base2 gT bB bW : Nat) (u v : Value) (l : List Ent) (p : List Pfx) (s : ByteArray) (t : Int) (q : ByteArray × Nat × Int × ByteArray) (w : World) (hT : TabFull base base2 gT bB bW u v l p w) (hRt : TabRight l p) (hs : s.size ≤ 1000) (ha : Ascii s) (hq : partsOf s = some q) :
    Calls Tryz.prog 57 #[.pointer (some ⟨gT, 0, none⟩), .string s, .int .i64 t] w fun r w' => FndRet (fndOf l p s t q) r ∧ w.grownBy w' none := by
  have hqs := parts_size hq
  have hR := Blk.new w 38 #[.string ⟨#[]⟩, .int .i64 0, .int .i64 0]
  have hg0 := World.grownBy_alloc w (.cells #[.string ⟨#[]⟩, .int .i64 0, .int .i64 0] 38) none
  have HT := Lib.hid hT
  have hO := hRt.ok
  obtain ⟨O, hOO⟩ : ∃ O, fndOf l p s t q = O := ⟨_, rfl⟩
  rw [hOO]
  have HO := Lib.hid hOO
  obtain ⟨gR, hgR⟩ : ∃ x, w.heap.size = x := ⟨_, rfl⟩
  have HgR := Lib.hid hgR
  rw [hgR] at hR
  have HFIN : Hid (∀ (W : World) (K : ByteArray) (C Z : Int) (F : Bool), Blk W gR 38 #[.string ⟨#[]⟩, .int .i64 0, .int .i64 0] → w.grownBy W none →
      (((W.setCell ⟨gR, 0, none⟩ (.string K)).setCell ⟨gR, 1, none⟩ (.int .i64 C)).setCell ⟨gR, 2, none⟩ (.int .i64 Z)).cell? ⟨gR, 0, none⟩ = some (.string K) ∧ (((W.setCell ⟨gR, 0, none⟩ (.string K)).setCell ⟨gR, 1, none⟩ (.int .i64 C)).setCell ⟨gR, 2, none⟩ (.int .i64 Z)).cell? ⟨gR, 1, none⟩ = some (.int .i64 C) ∧ (((W.setCell ⟨gR, 0, none⟩ (.string K)).setCell ⟨gR, 1, none⟩ (.int .i64 C)).setCell ⟨gR, 2, none⟩ (.int .i64 Z)).cell? ⟨gR, 2, none⟩ = some (.int .i64 Z) ∧ w.grownBy (((W.setCell ⟨gR, 0, none⟩ (.string K)).setCell ⟨gR, 1, none⟩ (.int .i64 C)).setCell ⟨gR, 2, none⟩ (.int .i64 Z)) none) := fun W K C Z F hW hgW => by
    have hf := ((Blk.put hW 0 (.string K)).put 1 (.int .i64 C)).put 2 (.int .i64 Z)
    simp only [List.setIfInBounds_toArray, List.set_cons_zero, List.set_cons_succ] at hf
    have hle : w.heap.size ≤ gR := by omega
    exact ⟨hf.cell 0, hf.cell 1, hf.cell 2, gr_put (p := ⟨gR, 2, none⟩) (gr_put (p := ⟨gR, 1, none⟩) (gr_put (p := ⟨gR, 0, none⟩) hgW (.inr hle) (.string K)) (.inr hle) (.int .i64 C)) (.inr hle) (.int .i64 Z)⟩
  have HLD : Hid (∀ (n : Nat) (hn : n < p.length) W, w.grownBy W none → Calls Tryz.prog 103 #[.pointer (some ⟨gT, 0, none⟩), .int .i64 n] W fun r w' => r = .returned (.agg #[.string (fndX l p[n]).1, .int .i64 (fndX l p[n]).2.1, .int .i64 (fndX l p[n]).2.2]) ∧ W.grownBy w' none) := fun n hn W hW => foundX_ok base gT u v l p n W (hT.at_.grown hW) hO hn
  have HCN : Hid (∀ W, w.grownBy W none → ∀ uj, IntsFrom base2 W uj (natI (idxL p true s)) → Calls Tryz.prog 102 #[.pointer (some ⟨gT, 0, none⟩), uj, .int .i64 t] W fun r w' => r = .returned (.int .i64 (cntI l p t (idxL p true s))) ∧ W.grownBy w' none) := fun W hW uj hi => counting_ok base base2 gT u v uj l p _ t W (hT.at_.grown hW) hO hi (fun j hj => (idxL_mem.1 hj).1)
  obtain ⟨nW, hmW⟩ := hT.mW
  obtain ⟨uj, hju, _, hlk⟩ := hmW.look2 s (by omega)
  have hlk1 := hlk _ none hg0 (by simp)
  have HJU := Lib.hid (IntsFrom.grown hju hg0)
  have cW := hg0.cell hT.cW (by simp)
  have hwi := whl_idx l p s t
  obtain ⟨C0, hC0⟩ : ∃ x, cntI l p t (idxL p true s) = x := ⟨_, rfl⟩
  rw [hC0] at hwi HCN
  have HWI := Lib.hid hwi
  have HAS := Lib.hid ha
  have HQ := Lib.hid hq
  have HRT := Lib.hid hRt
  clear hT hOO hgR hlk hmW hju hwi hC0 hq ha hRt hO
  go_enter Tryz.func57, Tryz.ntmps57
  go_upto_region 1 with fail
  generalize w.alloc (.cells #[.string ⟨#[]⟩, .int .i64 0, .int .i64 0] 38) = w1 at *
  rw [HgR.out]
  go_wp2_with fail
  refine (HCN.out _ hg0 _ HJU.out).mono ?_
  rintro _ w2 ⟨rfl, hg2⟩
  have hgw := gr_trans hg0 hg2
  have hRr := hR.grown hg2 (by simp)
  clear hlk1 cW hR hg0
  rcases HWI.out with ⟨hneg, hwn⟩ | ⟨i, hil, rfl, hws⟩
  · have hneg2 : ¬ (0 : Int) ≤ C0 := by omega
    have hor : O = restOf l p t q := by rw [← HO.out]; unfold fndOf; rw [hwn]
    obtain ⟨T0, kk, KD, AD⟩ := q
    obtain ⟨z1, z2, z3⟩ := hqs
    simp only at z1 z2 z3
    have hPA : ∀ W, Calls Tryz.prog 62 #[.string s] W fun r w' => r = .returned (.tuple #[.agg #[.string T0, .string (T0.extract 0 (kk + 1)), .string (T0.extract (kk + 1) T0.size), .int .i64 KD, .string AD], .bool true]) ∧ W.grownBy w' none := fun W => (parts_any s W (by omega) HAS.out).mono fun r w' ⟨h1, h2⟩ => by
      rcases h2 with ⟨h3, _⟩ | ⟨t', k', kd', ad', h3, h4⟩
      · rw [HQ.out] at h3; simp at h3
      · rw [HQ.out] at h3
        simp only [Option.some.injEq, Prod.mk.injEq] at h3
        obtain ⟨rfl, rfl, rfl, rfl⟩ := h3
        exact ⟨h4, h1⟩
    unfold restOf at hor
    simp only at hor
    rw [lngTo_P l p t (-1) _ HRT.out.size] at hor
    rw [show (fun j : Nat => decide ((j : Int) = -1)) = fun _ => false from funext fun j => by rw [decide_eq_false_iff_not]; omega] at hor
    have y1 : (T0.extract 0 (kk + 1)).size ≤ 100 ∧ 1 ≤ (T0.extract 0 (kk + 1)).size := by rw [ByteArray.size_extract]; omega
    have y2 : (T0.extract (kk + 1) T0.size).size ≤ 100 := by rw [ByteArray.size_extract]; omega
    have hLN : ∀ W, w.grownBy W none → Calls Tryz.prog 104 #[.pointer (some ⟨gT, 0, none⟩), .string (plcOf T0 (T0.extract 0 (kk + 1)) (T0.extract (kk + 1) T0.size) AD KD), .int .i64 t, .nilFunc] W fun r w' => r = .returned (.int .i64 (lngP l p t (plcOf T0 (T0.extract 0 (kk + 1)) (T0.extract (kk + 1) T0.size) AD KD) fun _ => false)) ∧ W.grownBy w' none := fun W hW =>
      longest_nil base base2 gT bB bW u v l p _ t W (HT.out.grown hW) HRT.out.ok (by
        unfold plcOf
        split
        · omega
        · split
          · rw [ByteArray.size_append, ByteArray.size_append, ByteArray.size_extract]; omega
          · omega)
    have hbd := lngTo_bd l p (plcOf T0 (T0.extract 0 (kk + 1)) (T0.extract (kk + 1) T0.size) AD KD) t (-1) p.length
    rw [lngTo_P l p t (-1) _ HRT.out.size, show (fun j : Nat => decide ((j : Int) = -1)) = fun _ => false from funext fun j => by rw [decide_eq_false_iff_not]; omega] at hbd
    have HPO : Hid (∀ W, Calls Tryz.prog 66 #[.agg #[.string T0, .string (T0.extract 0 (kk + 1)), .string (T0.extract (kk + 1) T0.size), .int .i64 KD, .string AD]] W fun r w' => r = .returned (.string (plcOf T0 (T0.extract 0 (kk + 1)) (T0.extract (kk + 1) T0.size) AD KD)) ∧ W.grownBy w' none) := fun W => placeOf_any T0 _ _ AD KD W y1.1 y2 z2 y1.2
    generalize plcOf T0 (T0.extract 0 (kk + 1)) (T0.extract (kk + 1) T0.size) AD KD = PL at *
    generalize lngP l p t PL (fun _ => false) = LG at *
    generalize T0.extract 0 (kk + 1) = PRE at *
    generalize T0.extract (kk + 1) T0.size = SUF at *
    have HPA := Lib.hid hPA
    have HOR := Lib.hid hor
    have HLN := Lib.hid hLN
    have HBD := Lib.hid hbd
    clear hPA hor hLN hwn hneg hbd y1 y2
    go_wp2_with fail
    refine (HPA.out _).mono ?_
    rintro _ w3 ⟨rfl, hg3⟩
    have hX := Blk.new w3 105 #[.string T0, .string PRE, .string SUF, .int .i64 KD, .string AD]
    have hR4 := (Blk.grown hRr hg3 (by simp)).alloc (.cells #[.string T0, .string PRE, .string SUF, .int .i64 KD, .string AD] 105)
    have hg4 := gr_alloc (gr_trans hgw hg3) (.cells #[.string T0, .string PRE, .string SUF, .int .i64 KD, .string AD] 105)
    go_upto_region 5 with fail
    generalize w3.alloc (.cells #[.string T0, .string PRE, .string SUF, .int .i64 KD, .string AD] 105) = w4 at *
    generalize w3.heap.size = gX at *
    have x0 := Blk.cell hX 0
    have x1 := Blk.cell hX 1
    have x2 := Blk.cell hX 2
    have x3 := Blk.cell hX 3
    have x4 := Blk.cell hX 4
    have r0 := Blk.cell hR4 0
    have r1 := Blk.cell hR4 1
    have r2 := Blk.cell hR4 2
    have rf := Blk.free hR4
    simp only [List.getElem?_toArray, List.getElem?_cons_zero, List.getElem?_cons_succ] at x0 x1 x2 x3 x4 r0 r1 r2
    by_cases hk56 : KD = 5 ∨ KD = 6
    · have hON : O = none := by rw [HOR.out, if_pos hk56]
      subst hON
      obtain ⟨e0, e1, e2, e3⟩ := HFIN.out w4 ⟨#[]⟩ 0 0 false hR4 hg4
      rcases hk56 with rfl | rfl
      · go_wp2_with fail
        refine bodyPost_ret (v := .tuple #[.agg #[.string ⟨#[]⟩, .int .i64 0, .int .i64 0], .bool false]) (by simp [results, Tryz.results57, go_sem, e0, e1, e2]) rfl ?_
        exact ⟨rfl, e3⟩
      · go_wp2_with fail
        refine bodyPost_ret (v := .tuple #[.agg #[.string ⟨#[]⟩, .int .i64 0, .int .i64 0], .bool false]) (by simp [results, Tryz.results57, go_sem, e0, e1, e2]) rfl ?_
        exact ⟨rfl, e3⟩
    · have HK56 := Lib.hid hk56
      have b5 : (KD == 5) = false := by simp; omega
      have b6 : (KD == 6) = false := by simp; omega
      clear hk56
      go_wp2_with fail
      refine (HPO.out _).mono ?_
      rintro _ w5 ⟨rfl, hg5⟩
      have hR5 := Blk.grown (w := w4) hR4 hg5 (by simp)
      have hg45 := gr_trans hg4 hg5
      go_wp2_with fail
      refine (HLN.out _ hg45).mono ?_
      rintro _ w6 ⟨rfl, hg6⟩
      have hR6 := Blk.grown (g := gR) hR5 hg6 (by simp)
      have hgF := gr_trans hg45 hg6
      clear r0 r1 r2 rf x0 x1 x2 x3 x4 b5 b6
      have r0 := Blk.cell (g := gR) hR6 0
      have r1 := Blk.cell (g := gR) hR6 1
      have r2 := Blk.cell (g := gR) hR6 2
      have rf := Blk.free (g := gR) hR6
      simp only [List.getElem?_toArray, List.getElem?_cons_zero, List.getElem?_cons_succ] at r0 r1 r2
      by_cases hneg : LG < 0
      · have hON : O = none := by rw [HOR.out, if_neg HK56.out, if_pos hneg]
        subst hON
        obtain ⟨e0, e1, e2, e3⟩ := HFIN.out w6 ⟨#[]⟩ 0 0 false hR6 hgF
        go_wp2_with fail
        refine bodyPost_ret (v := .tuple #[.agg #[.string ⟨#[]⟩, .int .i64 0, .int .i64 0], .bool false]) (by simp [results, Tryz.results57, go_sem, e0, e1, e2]) rfl ?_
        exact ⟨rfl, e3⟩
      · obtain ⟨n, rfl⟩ : ∃ n : Nat, LG = n := ⟨LG.toNat, by have := HBD.out; omega⟩
        have hnl : n < p.length := by have := HBD.out.2; omega
        have hOS : O = some (fndX l p[n]) := by rw [HOR.out, if_neg HK56.out, if_neg hneg, Int.toNat_natCast, List.getElem?_eq_getElem hnl]; rfl
        have HLD1 := Lib.hid (HLD.out n hnl)
        have HOS := Lib.hid hOS
        clear hOS
        generalize fndX l p[n] = FX at *
        have hOS2 := HOS.out
        subst hOS2
        go_wp2_with fail
        refine (HLD1.out _ hgF).mono ?_
        rintro _ w7 ⟨rfl, hg7⟩
        have hR7 := Blk.grown (g := gR) hR6 hg7 (by simp)
        clear r0 r1 r2 rf
        have r0 := Blk.cell (g := gR) hR7 0
        have r1 := Blk.cell (g := gR) hR7 1
        have r2 := Blk.cell (g := gR) hR7 2
        have rf := Blk.free (g := gR) hR7
        simp only [List.getElem?_toArray, List.getElem?_cons_zero, List.getElem?_cons_succ] at r0 r1 r2
        obtain ⟨e0, e1, e2, e3⟩ := HFIN.out w7 FX.1 FX.2.1 FX.2.2 true hR7 (gr_trans hgF hg7)
        go_wp2_with fail
        refine bodyPost_ret (v := .tuple #[.agg #[.string FX.1, .int .i64 FX.2.1, .int .i64 FX.2.2], .bool true]) (by simp [results, Tryz.results57, go_sem, e0, e1, e2]) rfl ?_
        exact ⟨rfl, e3⟩
  · have hOS : O = some (fndX l p[i]) := by rw [← HO.out]; unfold fndOf; rw [hws]
    have HLD1 := Lib.hid (HLD.out i hil)
    have HOS := Lib.hid hOS
    have hi0 : (0 : Int) ≤ (i : Int) := by omega
    clear hOS hws
    generalize fndX l p[i] = FX at *
    have hOS2 := HOS.out
    subst hOS2
    go_wp2_with fail
    refine (HLD1.out _ hgw).mono ?_
    rintro _ w7 ⟨rfl, hg7⟩
    have hR7 := Blk.grown (g := gR) hRr hg7 (by simp)
    have r0 := Blk.cell (g := gR) hR7 0
    have r1 := Blk.cell (g := gR) hR7 1
    have r2 := Blk.cell (g := gR) hR7 2
    have rf := Blk.free (g := gR) hR7
    simp only [List.getElem?_toArray, List.getElem?_cons_zero, List.getElem?_cons_succ] at r0 r1 r2
    obtain ⟨e0, e1, e2, e3⟩ := HFIN.out w7 FX.1 FX.2.1 FX.2.2 true hR7 (gr_trans hgw hg7)
    go_wp2_with fail
    refine bodyPost_ret (v := .tuple #[.agg #[.string FX.1, .int .i64 FX.2.1, .int .i64 FX.2.2], .bool true]) (by simp [results, Tryz.results57, go_sem, e0, e1, e2]) rfl ?_
    exact ⟨rfl, e3⟩
end Go.Proofs.YtbpkfkbbkgdlaaaGreatDoor

namespace Go.Proofs.YtbpkfkbbkgdlaaaGreatDoor
open Go.RowKit
set_option linter.unusedVariables false
set_option linter.unusedSimpArgs false

/-- The prefixes with which a place can begin, with at most so many bytes. -/
def nearL (p : List Pfx) (place : ByteArray) (n : Nat) : List Nat := (List.range n).flatMap fun i => idxL p false (place.extract 0 (i + 1))
theorem nearL_succ (p : List Pfx) (place : ByteArray) (n : Nat) : nearL p place (n + 1) = nearL p place n ++ idxL p false (place.extract 0 (n + 1)) := by
  unfold nearL; rw [List.range_succ, List.flatMap_append]; simp
theorem idxL_len (p : List Pfx) (f : Bool) (s : ByteArray) : (idxL p f s).length ≤ p.length := by
  unfold idxL idxTo
  have h1 := List.length_filter_le (idxC p f s) (List.range p.length)
  rwa [List.length_range] at h1
theorem nearL_len (p : List Pfx) (place : ByteArray) : ∀ n, (nearL p place n).length ≤ n * p.length
  | 0 => by simp [nearL]
  | n + 1 => by
    rw [nearL_succ, List.length_append, Nat.add_mul]
    have := nearL_len p place n
    have := idxL_len p false (place.extract 0 (n + 1))
    omega
theorem natI_cat (a b : List Nat) : natI (a ++ b) = natI a ++ natI b := by unfold natI; simp
theorem natI_len (a : List Nat) : (natI a).length = a.length := by unfold natI; simp
theorem nint_cells {base : Nat} {w : World} {g c : Nat} {l : List Int} (h : IntsFrom base w (.slice (some ⟨g, 0, none⟩) l.length c) l) : ∀ j u, (l.map (Value.int .i64))[j]? = some u → w.cell? ((⟨g, 0, none⟩ : Addr).add j) = some u := by
  intro j u hu
  have hj : j < l.length := by
    have := (List.getElem?_eq_some_iff.1 hu).1
    rwa [List.length_map] at this
  have h1 := IntsFrom.at_ h j hj
  have hadd : (⟨g, 0, none⟩ : Addr).add j = ⟨g, j, none⟩ := by unfold Addr.add; split <;> simp_all
  rw [hadd, h1, ← hu]
  simp [hj]
theorem nint_ones (l : List Int) : ∀ u ∈ l.map (Value.int .i64), u.oneCell' = true := by
  intro u hu
  obtain ⟨x, _, rfl⟩ := List.mem_map.1 hu
  rfl
set_option maxRecDepth 100000 in
set_option maxHeartbeats 8000000 in
theorem tnear_ok (base base2 gT bB bW : Nat) (u v : Value) (l : List Ent) (p : List Pfx) (place : ByteArray) (w : World) (hT : TabFull base base2 gT bB bW u v l p w) (hlen : p.length ≤ 2000) (hpl : place.size ≤ 1000) :
    Calls Tryz.prog 65 #[.pointer (some ⟨gT, 0, none⟩), .string place] w fun r w' => ∃ z, r = .returned z ∧ IntsFrom w.heap.size w' z (natI (nearL p place (min 4 place.size))) ∧ w.grownBy w' none := by
  obtain ⟨i0, hi0, hz0, hz1, hz2⟩ := info_parts intInfo
  have HT := Lib.hid hT
  obtain ⟨M, hM⟩ : ∃ M, min 4 place.size = M := ⟨_, rfl⟩
  have hM4 : M ≤ 4 ∧ M ≤ place.size := by omega
  have hMi : min (4 : Int) (place.size : Int) = (M : Int) := by omega
  rw [hM]
  clear hM hT
  go_enter Tryz.func65, Tryz.ntmps65
  go_wp2_with fail
  go_loopw [5, 6] (fun ov iv wr => ∃ n : Nat, n ≤ M ∧ iv = .int .i64 ((n + 1 : Nat) : Int) ∧ IntsFrom w.heap.size wr ov (natI (nearL p place n)) ∧ w.grownBy wr none) (fun _ iv _ => 5 - (intOf iv).toNat)
  case atStart => exact ⟨0, by omega, rfl, IntsFrom.nil _ _, gr_refl _ _⟩
  case round =>
    obtain ⟨n, hn, rfl, hown, hg⟩ := hrel
    obtain ⟨N, hN⟩ : ∃ N, n + 1 = N := ⟨_, rfl⟩
    rw [hN]
    have HN := Lib.hid hN
    obtain ⟨A2, c2, rfl, hl2, _⟩ := hown.shape
    have hnl := nearL_len p place n
    have hnl2 : (natI (nearL p place n)).length ≤ 8000 := by
      rw [natI_len]
      have : n * p.length ≤ 4 * 2000 := Nat.mul_le_mul (by omega) hlen
      omega
    clear hnl hl2
    by_cases hlt : n < M
    · have hNM : (N : Int) ≤ (M : Int) := by omega
      have hn1 : (0 : Int) ≤ (N : Int) := by omega
      have hn2 : (N : Int) ≤ (place.size : Int) := by omega
      have hn3 : N ≤ place.size := by omega
      have hnw : IntKind.i64.wrap ((N : Int) + 1) = ((N + 1 : Nat) : Int) := by rw [IntKind.wrap_i64]; omega
      have hes : (place.extract 0 N).size ≤ 1000000 := by rw [ByteArray.size_extract]; omega
      have hTr := HT.out.grown hg
      obtain ⟨nB, hmB⟩ := hTr.mB
      obtain ⟨uj, hju, hjn, hlk⟩ := hmB.look2 (place.extract 0 N) hes
      have hlk1 := hlk wr.drew none (gr_drew (gr_refl _ _)) (by simp)
      have hst : nearL p place (n + 1) = nearL p place n ++ idxL p false (place.extract 0 N) := by rw [nearL_succ, hN]
      have hjl := idxL_len p false (place.extract 0 N)
      have cT := hTr.cB
      have cTd : wr.drew.cell? ⟨gT, 2, none⟩ = some (.map (some bB)) := cT
      generalize hjj : idxL p false (place.extract 0 N) = js at *
      have HST := Lib.hid hst
      have hgT := World.block_lt_of_cell? _ _ cT
      have hszw := hg.size
      have hownD : World.ownsRow wr.drew w.heap.size 3 1 (.slice A2 (natI (nearL p place n)).length c2) (natI (nearL p place n)).length ((natI (nearL p place n)).map (Value.int .i64)) := IntsFrom.grown hown (gr_drew (gr_refl _ _))
      have hgTw : some gT ≠ (Value.slice A2 (natI (nearL p place n)).length c2).ownBlock := fun e => by
        have h1 := (hownD.lt _ e.symm).1
        have h2 : gT < w.heap.size := World.block_lt_of_cell? _ _ HT.out.cB
        omega
      have HOD := Lib.hid hownD
      have HGW := Lib.hid hgTw
      have hgd := gr_drew hg
      by_cases hj0 : js = []
      · obtain rfl := hjn hj0
        have hnil : Hid (natI (nearL p place (n + 1)) = natI (nearL p place n)) := by show _ = _; rw [HST.out, hj0, List.append_nil]
        have hrel2 : IntsFrom w.heap.size wr.drew (.slice A2 (natI (nearL p place n)).length c2) (natI (nearL p place (n + 1))) := by rw [hnil.out]; exact HOD.out
        have HREL := Lib.hid hrel2
        generalize (natI (nearL p place n)).length = LN at *
        clear hrel2 hju hst hjn hlk hmB hTr hown hownD hgTw hjj hj0
        go_upto_region 5 with fail
        refine wp_region_held_drew (S := fun V => V.cell? ⟨gT, 2, none⟩ = some (.map (some bB))) (by kernel_rfl) cTd (fun hHeld => ?_)
        refine wpAnyH_take (i := 0) (v := ?_) rfl (by kernel_rfl) (by kernel_rfl) (by kernel_rfl) (fun _ _ _ h => h) (Or.inl ⟨by kernel_rfl, ?_⟩) hHeld ?_
        rotate_left
        · intro w hSw
          (try dsimp only at hSw)
          go_simp
          (try with_reducible rfl)
        change wpAnyH _ _ _ _ _ _ _ (Act.put _ (some 14) _) _
        simp only [Act.put, List.setIfInBounds_toArray, List.set_cons_zero, List.set_cons_succ]
        refine wpAnyH_take (i := 1) (v := ?_) rfl (by kernel_rfl) (by kernel_rfl) (by kernel_rfl) (fun _ _ _ h => h) (Or.inl ⟨by kernel_rfl, ?_⟩) hHeld ?_
        rotate_left
        · intro w hSw
          (try dsimp only at hSw)
          go_simp
          (try with_reducible rfl)
        change wpAnyH _ _ _ _ _ _ _ (Act.put _ (some 15) _) _
        simp only [Act.put, List.setIfInBounds_toArray, List.set_cons_zero, List.set_cons_succ]
        refine wpAnyH_take (i := 2) (v := ?_) rfl (by kernel_rfl) (by kernel_rfl) (by kernel_rfl) (fun _ _ _ h => h) (Or.inl ⟨by kernel_rfl, ?_⟩) hHeld ?_
        rotate_left
        · intro w hSw
          (try dsimp only at hSw)
          go_simp
          (try with_reducible rfl)
        change wpAnyH _ _ _ _ _ _ _ (Act.put _ (some 16) _) _
        simp only [Act.put, List.setIfInBounds_toArray, List.set_cons_zero, List.set_cons_succ]
        refine wpAnyH_take (i := 3) (v := ?_) rfl (by kernel_rfl) (by kernel_rfl) (by kernel_rfl) (fun _ _ _ h => h) (Or.inl ⟨by kernel_rfl, ?_⟩) hHeld ?_
        rotate_left
        · intro w hSw
          (try dsimp only at hSw)
          go_simp
          (try with_reducible rfl)
        change wpAnyH _ _ _ _ _ _ _ (Act.put _ (some 17) _) _
        simp only [Act.put, List.setIfInBounds_toArray, List.set_cons_zero, List.set_cons_succ]
        refine wpAnyH_take (i := 4) (v := ?_) rfl (by kernel_rfl) (by kernel_rfl) (by kernel_rfl) (fun _ _ _ h => h) (Or.inl ⟨by kernel_rfl, ?_⟩) hHeld ?_
        rotate_left
        · intro w hSw
          (try dsimp only at hSw)
          go_simp
          (try with_reducible rfl)
        change wpAnyH _ _ _ _ _ _ _ (Act.put _ (some 18) _) _
        simp only [Act.put, List.setIfInBounds_toArray, List.set_cons_zero, List.set_cons_succ]
        refine wpAnyH_take (i := 5) (v := ?_) rfl (by kernel_rfl) (by kernel_rfl) (by kernel_rfl) (fun _ _ _ h => h) (Or.inl ⟨by kernel_rfl, ?_⟩) hHeld ?_
        rotate_left
        · intro w hSw
          (try dsimp only at hSw)
          go_simp
          (try with_reducible rfl)
        change wpAnyH _ _ _ _ _ _ _ (Act.put _ (some 19) _) _
        simp only [Act.put, List.setIfInBounds_toArray, List.set_cons_zero, List.set_cons_succ]
        refine wpAnyH_take (i := 6) (v := ?_) rfl (by kernel_rfl) (by kernel_rfl) (by kernel_rfl) (fun _ _ _ h => h) (Or.inl ⟨by kernel_rfl, ?_⟩) hHeld ?_
        rotate_left
        · intro w hSw
          (try dsimp only at hSw)
          go_simp
          (try with_reducible rfl)
        change wpAnyH _ _ _ _ _ _ _ (Act.put _ (some 20) _) _
        simp only [Act.put, List.setIfInBounds_toArray, List.set_cons_zero, List.set_cons_succ]
        refine wpAnyH_take (i := 7) (v := ?_) rfl (by kernel_rfl) (by kernel_rfl) (by kernel_rfl) (fun _ _ _ h => h) (Or.inl ⟨by kernel_rfl, ?_⟩) hHeld ?_
        rotate_left
        · intro w hSw
          (try dsimp only at hSw)
          go_simp
          (try with_reducible rfl)
        change wpAnyH _ _ _ _ _ _ _ (Act.put _ (some 21) _) _
        simp only [Act.put, List.setIfInBounds_toArray, List.set_cons_zero, List.set_cons_succ]
        refine wpAnyH_ready (rs := [8]) (by kernel_rfl) (by simp) ?_
        refine AllReadyH.cons (o := _) rfl (fun K hK => ?_) AllReadyH.nil
        go_simp
        refine hK.out _ _ cTd (fun hHeld8 => ?_)
        clear hK K
        (try simp only [Act.put, List.setIfInBounds_toArray, List.set_cons_zero, List.set_cons_succ])
        refine wpAnyH_ready (rs := [9]) (by kernel_rfl) (by simp) ?_
        refine AllReadyH.cons (o := _) rfl (fun K hK => ?_) AllReadyH.nil
        refine step_append_none (by rfl) (.tmp 14) (.tmp 22) 22 (by rfl) w.heap.size 3 i0 1 Tryz.underlying22 hi0 _ LN _ (by simp [Act.eval]) HOD.out (by simp [Act.eval]) ?_
        refine hK.out _ _ cTd (fun hHeld9 => ?_)
        clear hK K
        (try simp only [Act.put, List.setIfInBounds_toArray, List.set_cons_zero, List.set_cons_succ])
        refine wpAnyH_take (i := 10) (v := ?_) rfl (by kernel_rfl) (by kernel_rfl) (by kernel_rfl) (fun _ _ _ h => h) (Or.inl ⟨by kernel_rfl, ?_⟩) hHeld9 ?_
        rotate_left
        · intro w hSw
          (try dsimp only at hSw)
          go_simp
          (try with_reducible rfl)
        change wpAnyH _ _ _ _ _ _ _ (Act.put _ (some 5) _) _
        simp only [Act.put, List.setIfInBounds_toArray, List.set_cons_zero, List.set_cons_succ]
        refine wpAnyH_done (by kernel_rfl) ?_ _
        go_wp2_with fail
        go_roundw
        case rel => exact ⟨n + 1, by omega, by rw [HN.out]; first | rfl | go_num, HREL.out, hgd⟩
        case measure => simp [intOf]; omega
      · obtain ⟨A, c, rfl, hjl2, hjA⟩ := hju.shape
        have hjp : 0 < js.length := List.length_pos_iff.2 hj0
        obtain ⟨gj, rfl, hgjb, _⟩ := hjA (by rw [natI_len]; exact hjp)
        have hcs := nint_cells (IntsFrom.grown hju (gr_drew (gr_refl wr none)))
        rw [natI_len] at hlk1 hju
        have HCS := Lib.hid hcs
        clear hju hst hjn hlk hmB hTr hown hownD hgTw hjj hj0 hjA hjl2 hcs
        go_upto_region 5 with fail
        refine wp_region_held_drew (S := fun V => V.cell? ⟨gT, 2, none⟩ = some (.map (some bB))) (by kernel_rfl) cTd (fun hHeld => ?_)
        refine wpAnyH_take (i := 0) (v := ?_) rfl (by kernel_rfl) (by kernel_rfl) (by kernel_rfl) (fun _ _ _ h => h) (Or.inl ⟨by kernel_rfl, ?_⟩) hHeld ?_
        rotate_left
        · intro w hSw
          (try dsimp only at hSw)
          go_simp
          (try with_reducible rfl)
        change wpAnyH _ _ _ _ _ _ _ (Act.put _ (some 14) _) _
        simp only [Act.put, List.setIfInBounds_toArray, List.set_cons_zero, List.set_cons_succ]
        refine wpAnyH_take (i := 1) (v := ?_) rfl (by kernel_rfl) (by kernel_rfl) (by kernel_rfl) (fun _ _ _ h => h) (Or.inl ⟨by kernel_rfl, ?_⟩) hHeld ?_
        rotate_left
        · intro w hSw
          (try dsimp only at hSw)
          go_simp
          (try with_reducible rfl)
        change wpAnyH _ _ _ _ _ _ _ (Act.put _ (some 15) _) _
        simp only [Act.put, List.setIfInBounds_toArray, List.set_cons_zero, List.set_cons_succ]
        refine wpAnyH_take (i := 2) (v := ?_) rfl (by kernel_rfl) (by kernel_rfl) (by kernel_rfl) (fun _ _ _ h => h) (Or.inl ⟨by kernel_rfl, ?_⟩) hHeld ?_
        rotate_left
        · intro w hSw
          (try dsimp only at hSw)
          go_simp
          (try with_reducible rfl)
        change wpAnyH _ _ _ _ _ _ _ (Act.put _ (some 16) _) _
        simp only [Act.put, List.setIfInBounds_toArray, List.set_cons_zero, List.set_cons_succ]
        refine wpAnyH_take (i := 3) (v := ?_) rfl (by kernel_rfl) (by kernel_rfl) (by kernel_rfl) (fun _ _ _ h => h) (Or.inl ⟨by kernel_rfl, ?_⟩) hHeld ?_
        rotate_left
        · intro w hSw
          (try dsimp only at hSw)
          go_simp
          (try with_reducible rfl)
        change wpAnyH _ _ _ _ _ _ _ (Act.put _ (some 17) _) _
        simp only [Act.put, List.setIfInBounds_toArray, List.set_cons_zero, List.set_cons_succ]
        refine wpAnyH_take (i := 4) (v := ?_) rfl (by kernel_rfl) (by kernel_rfl) (by kernel_rfl) (fun _ _ _ h => h) (Or.inl ⟨by kernel_rfl, ?_⟩) hHeld ?_
        rotate_left
        · intro w hSw
          (try dsimp only at hSw)
          go_simp
          (try with_reducible rfl)
        change wpAnyH _ _ _ _ _ _ _ (Act.put _ (some 18) _) _
        simp only [Act.put, List.setIfInBounds_toArray, List.set_cons_zero, List.set_cons_succ]
        refine wpAnyH_take (i := 5) (v := ?_) rfl (by kernel_rfl) (by kernel_rfl) (by kernel_rfl) (fun _ _ _ h => h) (Or.inl ⟨by kernel_rfl, ?_⟩) hHeld ?_
        rotate_left
        · intro w hSw
          (try dsimp only at hSw)
          go_simp
          (try with_reducible rfl)
        change wpAnyH _ _ _ _ _ _ _ (Act.put _ (some 19) _) _
        simp only [Act.put, List.setIfInBounds_toArray, List.set_cons_zero, List.set_cons_succ]
        refine wpAnyH_take (i := 6) (v := ?_) rfl (by kernel_rfl) (by kernel_rfl) (by kernel_rfl) (fun _ _ _ h => h) (Or.inl ⟨by kernel_rfl, ?_⟩) hHeld ?_
        rotate_left
        · intro w hSw
          (try dsimp only at hSw)
          go_simp
          (try with_reducible rfl)
        change wpAnyH _ _ _ _ _ _ _ (Act.put _ (some 20) _) _
        simp only [Act.put, List.setIfInBounds_toArray, List.set_cons_zero, List.set_cons_succ]
        refine wpAnyH_take (i := 7) (v := ?_) rfl (by kernel_rfl) (by kernel_rfl) (by kernel_rfl) (fun _ _ _ h => h) (Or.inl ⟨by kernel_rfl, ?_⟩) hHeld ?_
        rotate_left
        · intro w hSw
          (try dsimp only at hSw)
          go_simp
          (try with_reducible rfl)
        change wpAnyH _ _ _ _ _ _ _ (Act.put _ (some 21) _) _
        simp only [Act.put, List.setIfInBounds_toArray, List.set_cons_zero, List.set_cons_succ]
        refine wpAnyH_ready (rs := [8]) (by kernel_rfl) (by simp) ?_
        refine AllReadyH.cons (o := _) rfl (fun K hK => ?_) AllReadyH.nil
        go_simp
        refine hK.out _ _ cTd (fun hHeld8 => ?_)
        clear hK K
        (try simp only [Act.put, List.setIfInBounds_toArray, List.set_cons_zero, List.set_cons_succ])
        refine wpAnyH_ready (rs := [9]) (by kernel_rfl) (by simp) ?_
        refine AllReadyH.cons (o := _) rfl (fun K hK => ?_) AllReadyH.nil
        refine step_append_lies _ (by rfl) (.tmp 14) (.tmp 22) 22 (by rfl) w.heap.size 3 i0 _ 1 8 Tryz.underlying22 hi0 hz0 hz1 hz2 rfl (by decide) _ _ _ (by simp [Act.eval]) HOD.out ⟨gj, 0, none⟩ js.length c ((natI js).map (Value.int .i64)) (by simp [Act.eval]) (by rw [List.length_map, natI_len, Nat.mul_one]) HCS.out (nint_ones _) hjp (by unfold maxLen; omega) (by omega) (by show _ ≤ wr.heap.size; omega) _ rfl ?_
        intro g9 cap w9 hown9 hg9 hat hglt
        have cT9 : w9.cell? ⟨gT, 2, none⟩ = some (.map (some bB)) := hg9.cell cTd HGW.out
        refine hK.out _ _ cT9 (fun hHeld9 => ?_)
        clear hK K
        (try simp only [Act.put, List.setIfInBounds_toArray, List.set_cons_zero, List.set_cons_succ])
        refine wpAnyH_take (i := 10) (v := ?_) rfl (by kernel_rfl) (by kernel_rfl) (by kernel_rfl) (fun _ _ _ h => h) (Or.inl ⟨by kernel_rfl, ?_⟩) hHeld9 ?_
        rotate_left
        · intro w hSw
          (try dsimp only at hSw)
          go_simp
          (try with_reducible rfl)
        change wpAnyH _ _ _ _ _ _ _ (Act.put _ (some 5) _) _
        simp only [Act.put, List.setIfInBounds_toArray, List.set_cons_zero, List.set_cons_succ]
        refine wpAnyH_done (by kernel_rfl) ?_ _
        have hown4 : IntsFrom w.heap.size w9 (.slice (some ⟨g9, 0, none⟩) ((natI (nearL p place n)).length + js.length) cap) (natI (nearL p place (n + 1))) := by
          rw [HST.out, natI_cat]
          unfold IntsFrom
          rw [List.map_append, List.length_append, natI_len js]
          exact hown9
        have hG9 : w.grownBy w9 none := gr_grown hgd hg9 (fun g e => .inr (by have := (HOD.out.lt g e).1; omega))
        go_wp2_with fail
        go_roundw
        case rel => exact ⟨n + 1, by omega, by rw [HN.out]; first | rfl | go_num, hown4, hG9⟩
        case measure => simp [intOf]; omega
    · obtain rfl : n = M := by omega
      have hNM : ¬ (N : Int) ≤ (n : Int) := by omega
      go_wp2_with fail
      go_ret
      exact ⟨_, rfl, hown, hg⟩
theorem int_own {w : World} {g base : Nat} {x : Int} (h : Blk w g 3 #[.int .i64 x]) (hb : base ≤ g) : IntsFrom base w (.slice (some ⟨g, 0, none⟩) 1 1) [x] :=
  ⟨by simp, .inr ⟨g, 1, _, rfl, hb, h, Nat.le_refl _, by unfold maxLen; simp, by simp, rfl⟩⟩
def tmL (l : List Ent) (p : List Pfx) (j : Nat) : List Int := match p[j]? with | none => [] | some x => [tmA l x, tmZ l x]
def betB (a z : Int) (n : Int) : Bool := decide (a < n) && decide (n < z)
/-- The moments between two at which some prefixes begin or end to count. -/
def edgI (l : List Ent) (p : List Pfx) (js : List Nat) (a z : Int) : List Int := js.flatMap fun j => (tmL l p j).filter (betB a z)
theorem edgI_step (l : List Ent) (p : List Pfx) (js : List Nat) (a z : Int) (k : Nat) (h : k < js.length) (hj : js[k] < p.length) : edgI l p (js.take (k + 1)) a z = edgI l p (js.take k) a z ++ [tmA l p[js[k]], tmZ l p[js[k]]].filter (betB a z) := by
  unfold edgI
  rw [List.take_succ_eq_append_getElem h, List.flatMap_append]
  simp [tmL, List.getElem?_eq_getElem hj]
theorem edgI_len (l : List Ent) (p : List Pfx) (a z : Int) : ∀ js : List Nat, (edgI l p js a z).length ≤ 2 * js.length
  | [] => by simp [edgI]
  | j :: r => by
    have ih := edgI_len l p a z r
    unfold edgI at ih ⊢
    rw [List.flatMap_cons, List.length_append, List.length_cons]
    have h1 := List.length_filter_le (betB a z) (tmL l p j)
    have h2 : (tmL l p j).length ≤ 2 := by unfold tmL; split <;> simp
    omega
/-- The edges of some prefixes. -/
def edgL (l : List Ent) (p : List Pfx) (js : List Nat) (a z : Int) : List Int := compI (sortI (a :: edgI l p js a z))
set_option maxRecDepth 100000 in
set_option maxHeartbeats 8000000 in
theorem edges_ok (base base2 gT : Nat) (u v s : Value) (l : List Ent) (p : List Pfx) (js : List Nat) (a z : Int) (w : World) (hT : TabAt base gT u v l p w) (hO : TabOk l p) (hs : IntsFrom base2 w s (natI js)) (hjs : ∀ j ∈ js, j < p.length) (hjn : js.length ≤ 100000) :
    Calls Tryz.prog 63 #[.pointer (some ⟨gT, 0, none⟩), s, .int .i64 a, .int .i64 z] w fun r w' => ∃ y, r = .returned y ∧ IntsFrom w.heap.size w' y (edgL l p js a z) ∧ w.grownBy w' none := by
  obtain ⟨i0, hi0, hz0, hz1, hz2⟩ := info_parts intInfo
  obtain ⟨A, c, rfl, hlen, hA⟩ := hs.shape
  have hml : (natI js).length = js.length := natI_len js
  rw [hml] at hlen hA hs
  have HS := Lib.hid hs
  have HML := Lib.hid hml
  have HA := Lib.hid hA
  have HT := Lib.hid hT
  rw [hml]
  have hg0 := World.grownBy_alloc w (.cells #[.int .i64 a] 3) none
  have hown0 := int_own (Blk.new w 3 #[.int .i64 a]) (Nat.le_refl w.heap.size)
  obtain ⟨RR, hRR⟩ : ∃ RR, edgL l p js a z = RR := ⟨_, rfl⟩
  have HED : Hid (RR = compI (sortI (a :: edgI l p js a z))) := hRR.symm
  rw [hRR]
  clear hRR
  clear hs hA hT hml
  go_enter Tryz.func63, Tryz.ntmps63
  go_upto_region 2 with fail
  generalize w.alloc (.cells #[.int .i64 a] 3) = w1 at *
  obtain ⟨b3, hb3⟩ : ∃ x, w.heap.size = x := ⟨_, rfl⟩
  rw [hb3] at hown0 ⊢
  have HB3 := Lib.hid hb3
  clear hb3
  go_wp2_with fail
  go_loopw [9, 19] (fun ov kv wr => ∃ k : Nat, k ≤ js.length ∧ kv = .int .i64 k ∧ IntsFrom b3 wr ov (a :: edgI l p (js.take k) a z) ∧ w.grownBy wr none) (fun _ kv _ => js.length - (intOf kv).toNat)
  case atStart => exact ⟨0, by omega, rfl, hown0, hg0⟩
  case round =>
    obtain ⟨k, hk, rfl, hown, hg⟩ := hrel
    clear hown0 hg0
    obtain ⟨A2, c2, rfl, _, _⟩ := hown.shape
    generalize hLN : (a :: edgI l p (js.take k) a z).length = LN at *
    have HLN := Lib.hid hLN
    clear hLN
    by_cases hlt : k < js.length
    · have hki : (k : Int) < (js.length : Int) := by omega
      obtain ⟨gj, rfl, _, hgl⟩ := HA.out (by omega)
      have hat := IntsFrom.at_ (l := natI js) (g := gj) (c := c) (by rw [HML.out]; exact HS.out.grown hg) k (by rw [HML.out]; exact hlt)
      rw [show (natI js)[k]'(by rw [HML.out]; exact hlt) = (js[k] : Int) by simp [natI]] at hat
      have hJp := hjs _ (List.getElem_mem hlt)
      have hst := edgI_step l p js a z k hlt hJp
      have HTM : Hid (∀ W, w.grownBy W none → Calls Tryz.prog 114 #[.pointer (some ⟨gT, 0, none⟩), .int .i64 (js[k] : Int)] W fun r w' => r = .returned (.agg #[.int .i64 (tmA l p[js[k]]), .int .i64 (tmZ l p[js[k]])]) ∧ W.grownBy w' none) := fun W hW => time_ok base gT u v l p js[k] W (HT.out.grown hW) hO hJp
      have hel := edgI_len l p a z (js.take k)
      rw [List.length_take] at hel
      generalize hX : edgI l p (js.take k) a z = X at *
      generalize tmA l p[js[k]] = TA at *
      generalize tmZ l p[js[k]] = TZ at *
      generalize js[k] = J at *
      have HST := Lib.hid hst
      have hXn : X.length ≤ 200000 := by omega
      clear hst hX hel
      go_wp2_with fail
      refine (HTM.out _ hg).mono ?_
      rintro _ w2 ⟨rfl, hg2⟩
      have hgw2 := gr_trans hg hg2
      have hown2 := hown.grown hg2
      have hD := Blk.new w2 70 #[.int .i64 TA, .int .i64 TZ]
      have hgD := World.grownBy_alloc w2 (.cells #[.int .i64 TA, .int .i64 TZ] 70) none
      have hgw3 := gr_trans hgw2 hgD
      have hown3 := hown2.grown hgD
      clear hown hown2 hg2 hat hg
      go_upto_region 6 with fail
      generalize w2.alloc (.cells #[.int .i64 TA, .int .i64 TZ] 70) = w3 at *
      have d0 := hD.cell 0
      have d1 := hD.cell 1
      simp only [List.getElem?_toArray, List.getElem?_cons_zero, List.getElem?_cons_succ] at d0 d1
      have hB := Blk.new w3 3 #[.int .i64 TA, .int .i64 TZ]
      have hgB := World.grownBy_alloc w3 (.cells #[.int .i64 TA, .int .i64 TZ] 3) none
      have hgw4 := gr_trans hgw3 hgB
      have hown4 := hown3.grown hgB
      have hnb : some w3.heap.size ≠ (Value.slice A2 LN c2).ownBlock := fun e => by
        have := (hown3.lt _ e.symm).2
        omega
      clear hown3
      go_upto_region 7 with fail
      generalize w3.alloc (.cells #[.int .i64 TA, .int .i64 TZ] 3) = w4 at *
      generalize w3.heap.size = gB at *
      go_loopw [9, 32] (fun ov mv wi => ∃ m : Nat, m ≤ 2 ∧ mv = .int .i64 m ∧ IntsFrom b3 wi ov (a :: (X ++ ([TA, TZ].take m).filter (betB a z))) ∧ some gB ≠ ov.ownBlock ∧ Blk wi gB 3 #[.int .i64 TA, .int .i64 TZ] ∧ w.grownBy wi none) (fun _ mv _ => 2 - (intOf mv).toNat)
      case atStart => exact ⟨0, by omega, rfl, by simpa using hown4, hnb, hB, hgw4⟩
      case round =>
        obtain ⟨m, hm, rfl, howi, hnbi, hBi, hgi⟩ := hrel
        clear hown4 hnb hB hgw4 hgw3 hgw2 hgB hgD
        by_cases hm2 : m < 2
        · have hmi : (m : Int) < 2 := by omega
          have hfs := filter_step (betB a z) [TA, TZ] m (by simpa using hm2)
          have hcm : wr.cell? ⟨gB, m, none⟩ = some (.int .i64 ([TA, TZ][m]'(by simpa using hm2))) := by
            rw [hBi.cell m]
            rcases (show m = 0 ∨ m = 1 by omega) with rfl | rfl <;> rfl
          obtain ⟨A4, c4, rfl, _, _⟩ := howi.shape
          have hln : (a :: (X ++ ([TA, TZ].take m).filter (betB a z))).length ≤ 300000 := by
            have h1 := List.length_filter_le (betB a z) ([TA, TZ].take m)
            rw [List.length_take] at h1
            simp only [List.length_cons, List.length_append, List.length_nil] at h1 ⊢
            omega
          generalize hfm : ([TA, TZ].take m).filter (betB a z) = FM at *
          generalize hlm : (a :: (X ++ FM)).length = LM at *
          have HLM := Lib.hid hlm
          clear hlm
          generalize [TA, TZ][m]'(by simpa using hm2) = NN at *
          have HFS := Lib.hid hfs
          have hszi := hgi.size
          have HOWI : Hid (World.ownsRow wr b3 3 1 (.slice A4 LM c4) LM ((a :: (X ++ FM)).map (Value.int .i64))) := by
            show World.ownsRow _ _ _ _ _ _ _
            have := howi
            unfold IntsFrom at this
            rw [HLM.out] at this
            exact this
          clear hfs hfm
          --A(
          by_cases hbt : a < NN ∧ NN < z
          · obtain ⟨hb1, hb2⟩ := hbt
            have HFN : Hid (([TA, TZ].take (m + 1)).filter (betB a z) = FM ++ [NN]) := by
              show _ = _
              rw [HFS.out, if_pos (by unfold betB; simp [hb1, hb2])]
            go_upto_region 10 with fail
            go_wp2_with (at_builtin; refine wpList_append_lies _ rfl _ _ 22 rfl b3 3 i0 _ 1 8 Tryz.underlying22 hi0 hz0 hz1 hz2 rfl (by decide) _ LM _ rfl (World.ownsRow.alloc HOWI.out _) ⟨_, 0, none⟩ 1 1 [.int .i64 NN] rfl rfl (one_cell _ NN _) (one_oneCell NN) (by decide) (by unfold maxLen; omega) (by omega) (by have := HB3.out; simp; omega) _ rfl ?_; intro g9 cap w9 hown9 hg9 hat9 hgl9)
            have hB9 := (hBi.alloc _).grown hg9 hnbi
            have hG9 : w.grownBy w9 none := gr_grown (gr_alloc hgi _) hg9 (fun g e => .inr (by have := (howi.lt g e).1; have := HB3.out; omega))
            have hnb9 : some gB ≠ (Value.slice (some ⟨g9, 0, none⟩) (LM + 1) cap).ownBlock := fun e => by
              have e2 : gB = g9 := by simpa [Value.ownBlock] using e
              rcases hat9 with h | h
              · exact hnbi (by rw [e2]; exact h.symm)
              · have := hBi.lt
                simp at h
                omega
            have hrow9 : IntsFrom b3 w9 (.slice (some ⟨g9, 0, none⟩) (LM + 1) cap) (a :: (X ++ ([TA, TZ].take (m + 1)).filter (betB a z))) := by
              rw [HFN.out]
              unfold IntsFrom
              have hl1 : (a :: (X ++ (FM ++ [NN]))).length = LM + 1 := by have := HLM.out; simp at this ⊢; omega
              rw [hl1]
              simpa using hown9
            go_wp2_with fail
            go_roundw
            case rel => exact ⟨m + 1, by omega, by go_num, hrow9, hnb9, hB9, hG9⟩
            case measure => simp [intOf]; omega
          · have HFN : Hid (([TA, TZ].take (m + 1)).filter (betB a z) = FM) := by
              show _ = _
              rw [HFS.out, if_neg (by unfold betB; simpa using hbt)]
            have hrow9 : IntsFrom b3 wr (.slice A4 LM c4) (a :: (X ++ ([TA, TZ].take (m + 1)).filter (betB a z))) := by
              rw [HFN.out]
              exact howi
            by_cases hb1 : a < NN
            · have hb2 : ¬ NN < z := fun h => hbt ⟨hb1, h⟩
              clear hbt
              go_wp2_with fail
              go_roundw
              case rel => exact ⟨m + 1, by omega, by go_num, hrow9, hnbi, hBi, hgi⟩
              case measure => simp [intOf]; omega
            · clear hbt
              go_wp2_with fail
              go_roundw
              case rel => exact ⟨m + 1, by omega, by go_num, hrow9, hnbi, hBi, hgi⟩
              case measure => simp [intOf]; omega
          --A)
        · have hmi : ¬ (m : Int) < 2 := by omega
          --A(
          obtain rfl : m = 2 := by omega
          have hrowE := howi
          rw [show (a :: (X ++ ([TA, TZ].take 2).filter (betB a z))) = a :: edgI l p (js.take (k + 1)) a z by rw [HST.out]; rfl] at hrowE
          go_wp2_with fail
          go_roundw
          case rel => exact ⟨k + 1, by omega, by go_num, hrowE, hgi⟩
          case measure => simp [intOf]; omega
          --A)
    · obtain rfl : k = js.length := by omega
      have hkl : ¬ (js.length : Int) < (js.length : Int) := by omega
      --A(
      rw [List.take_length] at hown
      have hel := edgI_len l p a z js
      have hre := HED.out
      generalize edgI l p js a z = X at *
      have HSO := Lib.hid (sort_own b3 _ (a :: X) wr hown (by simp; omega))
      have hsl : (sortI (a :: X)).length = (a :: X).length := sortI_len _
      generalize sortI (a :: X) = Y at *
      have HRE := Lib.hid hre
      have hrow : ∀ g, (Value.slice A2 LN c2).ownBlock = some g → b3 ≤ g := fun g e => (hown.lt g e).1
      have HRW := Lib.hid hrow
      clear hown hrow hre HED
      go_wp2_with fail
      refine HSO.out.mono ?_
      rintro _ w2 ⟨rfl, hown2, hg2⟩
      have hG2 : w.grownBy w2 none := gr_grown hg hg2 (fun g e => .inr (by have := HRW.out g e; have := HB3.out; omega))
      have HCO := Lib.hid (compact_own b3 _ Y w2 hown2 (by simp at hsl; omega))
      clear hown2 hsl
      go_wp2_with fail
      refine HCO.out.mono ?_
      rintro _ w3 ⟨y, rfl, hown3, hg3⟩
      go_wp2_with fail
      go_ret
      rw [← HB3.out, ← HRE.out] at hown3
      exact ⟨y, rfl, hown3, gr_grown hG2 hg3 (fun g e => .inr (by have := HRW.out g e; have := HB3.out; omega))⟩
      --A)
end Go.Proofs.YtbpkfkbbkgdlaaaGreatDoor

namespace Go.Proofs.YtbpkfkbbkgdlaaaGreatDoor
open Go.RowKit
set_option linter.unusedVariables false
set_option linter.unusedSimpArgs false

/-- The changes of what is said at some moments. -/
def chgL (nm : Int → ByteArray) : Option ByteArray → List Int → List (Int × ByteArray)
  | _, [] => []
  | o, t :: r => if o = some (nm t) then chgL nm o r else (t, nm t) :: chgL nm (some (nm t)) r
/-- What a call sign belongs to, in words. -/
def nameAt (l : List Ent) (p : List Pfx) (s : ByteArray) (q : ByteArray × Nat × Int × ByteArray) (t : Int) : ByteArray := match fndOf l p s t q with | none => ⟨#[45]⟩ | some f => f.1
def plcQ (q : ByteArray × Nat × Int × ByteArray) : ByteArray := plcOf q.1 (q.1.extract 0 (q.2.1 + 1)) (q.1.extract (q.2.1 + 1) q.1.size) q.2.2.2 q.2.2.1
/-- The prefixes that can count for a call sign. -/
def canL (p : List Pfx) (s : ByteArray) (q : ByteArray × Nat × Int × ByteArray) : List Nat := idxL p true s ++ nearL p (plcQ q) (min 4 (plcQ q).size)
theorem edgL_mem (l : List Ent) (p : List Pfx) (js : List Nat) (a z x : Int) : x ∈ edgL l p js a z ↔ x = a ∨ ∃ j ∈ js, x ∈ tmL l p j ∧ a < x ∧ x < z := by
  unfold edgL
  rw [(compI_props _ (sortI_sorted _)).2, sortI_mem, List.mem_cons]
  unfold edgI
  simp only [List.mem_flatMap, List.mem_filter, betB, Bool.and_eq_true, decide_eq_true_eq]
theorem edgL_rise (l : List Ent) (p : List Pfx) (js : List Nat) (a z : Int) : (edgL l p js a z).Pairwise (· < ·) := (compI_props _ (sortI_sorted _)).1
theorem cnt_between {l : List Ent} {p : List Pfx} {js : List Nat} {a z : Int} {j : Nat} (hj : j ∈ js) (hlt : j < p.length) {x y : Int} (hx : a ≤ x) (hxy : x ≤ y) (hy : y < z) (h : ∀ e ∈ edgL l p js a z, ¬ (x < e ∧ e ≤ y)) : cntB l p[j] x = cntB l p[j] y := by
  rw [← cntB_tm, ← cntB_tm]
  have h1 : ¬ (x < tmA l p[j] ∧ tmA l p[j] ≤ y) := fun hh => h _ ((edgL_mem _ _ _ _ _ _).2 (.inr ⟨j, hj, by unfold tmL; rw [List.getElem?_eq_getElem hlt]; simp, by omega, by omega⟩)) hh
  have h2 : ¬ (x < tmZ l p[j] ∧ tmZ l p[j] ≤ y) := fun hh => h _ ((edgL_mem _ _ _ _ _ _).2 (.inr ⟨j, hj, by unfold tmL; rw [List.getElem?_eq_getElem hlt]; simp, by omega, by omega⟩)) hh
  unfold hasB
  rw [decide_eq_decide]
  omega
theorem near_mem {p : List Pfx} {place : ByteArray} {j n : Nat} : j ∈ nearL p place n ↔ ∃ i, i < n ∧ ∃ h : j < p.length, p[j].whole = false ∧ p[j].beg = place.extract 0 (i + 1) := by
  unfold nearL
  simp only [List.mem_flatMap, List.mem_range, idxL_mem]
theorem has_near {p : List Pfx} {place : ByteArray} {j : Nat} (h : j < p.length) (hw : p[j].whole = false) (hs : 1 ≤ p[j].beg.size ∧ p[j].beg.size ≤ 4) (hp : Lib.hasPrefix place.data.toList p[j].beg.data.toList = true) : j ∈ nearL p place (min 4 place.size) := by
  obtain ⟨h1, h2⟩ := has_beg.1 hp
  exact near_mem.2 ⟨p[j].beg.size - 1, by omega, h, hw, by rw [show p[j].beg.size - 1 + 1 = p[j].beg.size by omega]; exact h2⟩
theorem find_congr {α : Type} (f g : α → Bool) : ∀ (l : List α), (∀ a ∈ l, f a = g a) → l.find? f = l.find? g
  | [], _ => rfl
  | x :: r, h => by rw [List.find?_cons, List.find?_cons, h x (by simp), find_congr f g r (fun a ha => h a (by simp [ha]))]
/-- Between the edges nothing changes. -/
theorem fnd_between (l : List Ent) (p : List Pfx) (s : ByteArray) (q : ByteArray × Nat × Int × ByteArray) (hR : TabRight l p) (z : Int) {x y : Int} (hx : 0 ≤ x) (hxy : x ≤ y) (hy : y < z) (h : ∀ e ∈ edgL l p (canL p s q) 0 z, ¬ (x < e ∧ e ≤ y)) : fndOf l p s x q = fndOf l p s y q := by
  have hw : whlOf l p s x = whlOf l p s y := by
    unfold whlOf
    refine find_congr _ _ p (fun a ha => ?_)
    obtain ⟨j, hj, rfl⟩ := List.mem_iff_getElem.1 ha
    unfold whlB
    by_cases h1 : p[j].whole = true ∧ p[j].beg = s
    · rw [cnt_between (a := 0) (z := z) (js := canL p s q) (List.mem_append_left _ (idxL_mem.2 ⟨hj, h1⟩)) hj hx hxy hy h]
    · cases hh : p[j].whole
      · rfl
      · have : p[j].beg ≠ s := fun e => h1 ⟨hh, e⟩
        simp [this]
  have hl : lngTo l p (plcQ q) x (-1) p.length = lngTo l p (plcQ q) y (-1) p.length := by
    rw [lngTo_P _ _ _ _ _ hR.size, lngTo_P _ _ _ _ _ hR.size]
    refine (lngP_best l p x (plcQ q) _ hR.size).one ((lngP_best l p y (plcQ q) _ hR.size).of fun j => ?_)
    have hc : ∀ (h1 : j < p.length), p[j].whole = false → Lib.hasPrefix (plcQ q).data.toList p[j].beg.data.toList = true → cntB l p[j] x = cntB l p[j] y := fun h1 h2 h3 =>
      cnt_between (a := 0) (z := z) (js := canL p s q) (List.mem_append_right _ (has_near h1 h2 (hR.size _ (List.getElem_mem h1) h2) h3)) h1 hx hxy hy h
    constructor
    · rintro ⟨h1, h2, h3, h4, h5⟩
      exact ⟨h1, h2, h3, by rw [hc h1 h3 h5]; exact h4, h5⟩
    · rintro ⟨h1, h2, h3, h4, h5⟩
      exact ⟨h1, h2, h3, by rw [← hc h1 h3 h5]; exact h4, h5⟩
  unfold fndOf
  rw [hw]
  cases whlOf l p s y with
  | some _ => rfl
  | none =>
    show restOf l p x q = restOf l p y q
    unfold restOf
    unfold plcQ at hl
    rw [hl]
theorem canL_lt {p : List Pfx} {s : ByteArray} {q : ByteArray × Nat × Int × ByteArray} : ∀ j ∈ canL p s q, j < p.length := fun j hj => by
  rcases List.mem_append.1 hj with h | h
  · exact (idxL_mem.1 h).1
  · obtain ⟨_, _, h, _⟩ := near_mem.1 h
    exact h
end Go.Proofs.YtbpkfkbbkgdlaaaGreatDoor

namespace Go.Proofs.YtbpkfkbbkgdlaaaGreatDoor
set_option linter.unusedVariables false

theorem size_len' (s : ByteArray) : s.size = s.data.toList.length := by rw [Array.length_toList]; rfl
end Go.Proofs.YtbpkfkbbkgdlaaaGreatDoor

namespace Go.Proofs.YtbpkfkbbkgdlaaaGreatDoor
set_option linter.unusedVariables false

def cosB (x : Int) : Int := (419904000000 - 4 * x * x) * 1000000 / (419904000000 + x * x)
/-- The cosine of an angle that is from 0 to a whole circle less 1. -/
def cosC (y : Int) : Int :=
  if 648000 < y then (if 324000 < 1296000 - y then -cosB (648000 - (1296000 - y)) else cosB (1296000 - y))
  else (if 324000 < y then -cosB (648000 - y) else cosB y)
def cosI (a : Int) : Int := cosC (a % 1296000)
theorem sq_bd (x : Int) (h0 : 0 ≤ x) (h1 : x ≤ 324000) : 0 ≤ x * x ∧ x * x ≤ 104976000000 ∧ 4 * x * x = 4 * (x * x) := by
  refine ⟨Int.mul_nonneg h0 h0, ?_, by rw [Int.mul_assoc]⟩
  have := Int.mul_le_mul h1 h1 h0 (by omega)
  omega
theorem cosB_bd (x : Int) (h0 : 0 ≤ x) (h1 : x ≤ 324000) : 0 ≤ cosB x ∧ cosB x ≤ 1000000 := by
  obtain ⟨a, b, c⟩ := sq_bd x h0 h1
  unfold cosB
  rw [c]
  refine ⟨Int.ediv_nonneg (by omega) (by omega), ?_⟩
  refine Int.le_of_lt_add_one (Int.ediv_lt_of_lt_mul (by omega) ?_)
  omega
theorem tmod_circle (a : Int) : (a.tmod 1296000 + 1296000) % 1296000 = a % 1296000 := by
  have := Int.tmod_add_mul_tdiv a 1296000
  have h1 := tmod_lo a 1296000 (by omega)
  omega
end Go.Proofs.YtbpkfkbbkgdlaaaGreatDoor

namespace Go.Proofs.YtbpkfkbbkgdlaaaGreatDoor
set_option linter.unusedVariables false
open Go.RowKit

set_option maxHeartbeats 400000 in
theorem cosine_base (x : Int) (w : World) (h0 : 0 ≤ x) (h1 : x ≤ 324000) :
    Calls Tryz.prog 129 #[.int .i64 x] w fun e w' => e = .returned (.int .i64 (cosB x)) ∧ w = w' := by
  obtain ⟨a, b, c⟩ := sq_bd x h0 h1
  have a' : 0 ≤ 4 * x * x := by omega
  have b' : 4 * x * x ≤ 419904000000 := by omega
  have e1 : (x % 1296000 + 1296000) % 1296000 = x := by omega
  clear c
  go_enter Tryz.func129, Tryz.ntmps129
  go_wp2_with fail
  go_ret
  exact ⟨rfl, rfl⟩
set_option maxHeartbeats 1000000 in
theorem cosine_any (x : Int) (w : World) (h0 : -1000000000000000 ≤ x) (h1 : x ≤ 1000000000000000) :
    Calls Tryz.prog 129 #[.int .i64 x] w fun e w' => e = .returned (.int .i64 (cosI x)) ∧ w = w' := by
  have ht := tmod_lo x 1296000 (by omega)
  obtain ⟨t1, t2⟩ := ht
  have hc := tmod_circle x
  have hfin : cosI x = cosC (x % 1296000) := rfl
  obtain ⟨y, hy⟩ : ∃ y, y = x % 1296000 := ⟨_, rfl⟩
  have y0 : 0 ≤ y := by omega
  have y1 : y < 1296000 := by omega
  rw [← hy] at hc hfin
  have hc2 : 0 ≤ x → (x % 1296000 + 1296000) % 1296000 = y := fun _ => by omega
  have HF := Lib.hid hfin
  clear hfin hy
  by_cases hx : 0 ≤ x
  all_goals first | (have hc3 := hc2 hx; clear hc hc2) | clear hc2
  all_goals
    by_cases g1 : 648000 < y
    · obtain ⟨z, hz⟩ : ∃ z, 1296000 - y = z := ⟨_, rfl⟩
      have z0 : 0 ≤ z := by omega
      have z1 : z < 648000 := by omega
      by_cases g2 : 324000 < z
      · have HE := Lib.hid (show cosC y = -cosB (648000 - z) by unfold cosC; rw [if_pos g1, hz, if_pos g2])
        have hbd := cosB_bd (648000 - z) (by omega) (by omega)
        obtain ⟨d1, d2⟩ := hbd
        go_enter Tryz.func129, Tryz.ntmps129
        go_wp2_with (go_at_call 129; refine (cosine_base _ _ (by omega) (by omega)).mono ?_; rintro e w' ⟨rfl, rfl⟩)
        go_ret
        exact ⟨ret_of (by rw [HF.out, HE.out]), rfl⟩
      · have HE := Lib.hid (show cosC y = cosB z by unfold cosC; rw [if_pos g1, hz, if_neg g2])
        obtain ⟨a, b, c⟩ := sq_bd z z0 (by omega)
        have a' : 0 ≤ 4 * z * z := by omega
        have b' : 4 * z * z ≤ 419904000000 := by omega
        clear c
        go_enter Tryz.func129, Tryz.ntmps129
        go_wp2_with fail
        go_ret
        exact ⟨ret_of (by rw [HF.out, HE.out]; rfl), rfl⟩
    · by_cases g2 : 324000 < y
      · have HE := Lib.hid (show cosC y = -cosB (648000 - y) by unfold cosC; rw [if_neg g1, if_pos g2])
        have hbd := cosB_bd (648000 - y) (by omega) (by omega)
        obtain ⟨d1, d2⟩ := hbd
        go_enter Tryz.func129, Tryz.ntmps129
        go_wp2_with (go_at_call 129; refine (cosine_base _ _ (by omega) (by omega)).mono ?_; rintro e w' ⟨rfl, rfl⟩)
        go_ret
        exact ⟨ret_of (by rw [HF.out, HE.out]), rfl⟩
      · have HE := Lib.hid (show cosC y = cosB y by unfold cosC; rw [if_neg g1, if_neg g2])
        obtain ⟨a, b, c⟩ := sq_bd y y0 (by omega)
        have a' : 0 ≤ 4 * y * y := by omega
        have b' : 4 * y * y ≤ 419904000000 := by omega
        clear c
        go_enter Tryz.func129, Tryz.ntmps129
        go_wp2_with fail
        go_ret
        exact ⟨ret_of (by rw [HF.out, HE.out]; rfl), rfl⟩
end Go.Proofs.YtbpkfkbbkgdlaaaGreatDoor

namespace Go.Proofs.YtbpkfkbbkgdlaaaGreatDoor
set_option linter.unusedVariables false

end Go.Proofs.YtbpkfkbbkgdlaaaGreatDoor

namespace Go.Proofs.YtbpkfkbbkgdlaaaGreatDoor
open Go.RowKit
set_option linter.unusedVariables false

theorem i64_in (n : Int) (h : -9223372036854775808 ≤ n ∧ n ≤ 9223372036854775807) : IntKind.i64.wrap n = n := IntWalk.i64_in n h
end Go.Proofs.YtbpkfkbbkgdlaaaGreatDoor

namespace Go.Proofs.YtbpkfkbbkgdlaaaGreatDoor
open Go.RowKit
set_option linter.unusedVariables false

end Go.Proofs.YtbpkfkbbkgdlaaaGreatDoor

namespace Go.Proofs.YtbpkfkbbkgdlaaaGreatDoor
open Go.RowKit
set_option linter.unusedVariables false

set_option maxHeartbeats 400000 in
theorem cosineE_any (x : Int) (w : World) :
    Calls Tryz.prog 79 #[.int .i64 x] w fun r w' =>
      r = .returned (.tuple #[.int .i64 (okI (spanE x (-1296000000) 1296000000) (cosI x)), .int .i64 (spanE x (-1296000000) 1296000000)]) ∧ w = w' := by
  rcases spanE_cases x (-1296000000) 1296000000 with ⟨he, h1, h2⟩ | ⟨he, h1⟩
  · have HE := Lib.hid he
    have hb : outB x (-1296000000) 1296000000 = false := outB_no h1 h2
    clear he
    go_enter Tryz.func79, Tryz.ntmps79
    go_wp2_with (first | (go_at_call 96; refine (outside_any _ _ _ _).mono ?_; rintro r w' ⟨rfl, rfl⟩) | (go_at_call 129; refine (cosine_any _ _ (by omega) (by omega)).mono ?_; rintro r w' ⟨rfl, rfl⟩))
    go_ret2
    exact ⟨ret_2i (by unfold okI; rw [HE.out]; rfl) HE.out.symm, rfl⟩
  · have HE := Lib.hid he
    have hb : outB x (-1296000000) 1296000000 = true := outB_yes h1
    clear he
    go_enter Tryz.func79, Tryz.ntmps79
    go_wp2_with (first | (go_at_call 96; refine (outside_any _ _ _ _).mono ?_; rintro r w' ⟨rfl, rfl⟩))
    go_ret2
    exact ⟨ret_2i (by unfold okI; rw [HE.out]; rfl) HE.out.symm, rfl⟩
theorem cos60 : cosI 216000 = 500000 := by decide +kernel
end Go.Proofs.YtbpkfkbbkgdlaaaGreatDoor

namespace Go.Proofs.YtbpkfkbbkgdlaaaGreatDoor
open Go.RowKit
set_option linter.unusedVariables false

theorem apart_ready (w : World) : Calls Tryz.prog 75 #[.string ⟨#[111, 104, 50, 97, 98, 99, 47, 52]⟩] w fun e w' =>
    e = .returned (.tuple #[.agg #[.string ⟨#[111, 104, 50, 97, 98, 99]⟩, .string ⟨#[111, 104, 50]⟩, .string ⟨#[97, 98, 99]⟩, .int .i64 2, .string ⟨#[52]⟩], .int .i64 0]) ∧ w.grownBy w' none := by
  refine (apart_any _ w (by decide) ?_).mono ?_
  · intro j b h
    have hm := List.mem_of_getElem? h
    have hall : ∀ b ∈ (⟨#[111, 104, 50, 97, 98, 99, 47, 52]⟩ : ByteArray).data.toList, b.toNat < 128 := by decide +kernel
    exact hall b hm
  · rintro e w' ⟨hg, h⟩
    refine ⟨?_, hg⟩
    rcases h with ⟨h, _⟩ | ⟨t, k, kd, ad, h, rfl⟩
    · rw [partsOf_ready] at h; cases h
    · rw [partsOf_ready] at h
      simp only [Option.some.injEq, Prod.mk.injEq] at h
      obtain ⟨rfl, rfl, rfl, rfl⟩ := h
      rfl
theorem units_ready (b : Nat) (w : World) (hgl : Gl b w) : Calls Tryz.prog 80 #[.string ⟨#[112, 97, 114, 105, 115]⟩] w fun e w' =>
    e = .returned (.tuple #[.int .i64 43, .int .i64 0]) ∧ w.grownBy w' none := by
  have h := units_any b parisS w hgl (by decide)
  rw [paris_ok, paris_units] at h
  exact h
theorem cosine_ready (w : World) : Calls Tryz.prog 79 #[.int .i64 216000] w fun e w' =>
    e = .returned (.tuple #[.int .i64 500000, .int .i64 0]) ∧ w = w' := by
  have h1 : spanE 216000 (-1296000000) 1296000000 = 0 := spanE_no (by omega) (by omega)
  have h := cosineE_any 216000 w
  rw [h1, cos60] at h
  exact h
theorem best_ready (w : World) : Calls Tryz.prog 81 #[.slice (some ⟨w.heap.size, 0, none⟩) 3 3, .agg #[.int .i64 0, .int .i64 3600000], .int .i64 900000] (w.alloc (.cells #[.int .i64 0, .int .i64 600000, .int .i64 1200000] 3)) fun e w' =>
    e = .returned (.tuple #[.int .i64 0, .int .i64 2, .int .i64 0]) ∧ w.grownBy w' none := by
  have hb := Blk.new w 3 (([0, 600000, 1200000] : List Int).map (Value.int .i64)).toArray
  have hl : IntsFrom 0 _ _ [0, 600000, 1200000] := blk_ints hb (Nat.zero_le _) (by decide)
  have e1 : timesE [0, 600000, 1200000] 0 3600000 = 0 := by decide
  have e2 : longE 900000 = 0 := by decide
  have e3 : bestI [0, 600000, 1200000] 0 900000 = (0, 2) := by decide
  have H := (best_ok 0 _ _ 0 3600000 900000 _ hl e1 e2)
  rw [e3] at H
  exact H.mono fun e w' ⟨he, hg⟩ => ⟨he, gr_trans (World.grownBy_alloc w _ none) hg⟩
set_option maxRecDepth 100000 in
set_option maxHeartbeats 2000000 in
theorem ready_any (b : Nat) (w : World) (hgl : Gl b w) : Calls Tryz.prog 29 #[] w fun r w' => r = .returned (.bool true) ∧ w.grownBy w' none := by
  have HGL := Lib.hid hgl
  clear hgl
  go_enter Tryz.func29, Tryz.ntmps29
  go_wp2_with fail
  refine (apart_ready _).mono ?_
  rintro _ w1 ⟨rfl, hg1⟩
  go_wp2_with fail
  have hB := Blk.new w1 105 #[.string ⟨#[111, 104, 50, 97, 98, 99]⟩, .string ⟨#[111, 104, 50]⟩, .string ⟨#[97, 98, 99]⟩, .int .i64 2, .string ⟨#[52]⟩]
  have hG := gr_alloc hg1 (.cells #[.string ⟨#[111, 104, 50, 97, 98, 99]⟩, .string ⟨#[111, 104, 50]⟩, .string ⟨#[97, 98, 99]⟩, .int .i64 2, .string ⟨#[52]⟩] 105)
  clear hg1
  generalize w1.alloc (.cells #[.string ⟨#[111, 104, 50, 97, 98, 99]⟩, .string ⟨#[111, 104, 50]⟩, .string ⟨#[97, 98, 99]⟩, .int .i64 2, .string ⟨#[52]⟩] 105) = W at *
  refine (cosine_ready _).mono ?_
  rintro _ _ ⟨rfl, rfl⟩
  go_wp2_with fail
  refine (units_ready b _ (HGL.out.quiet hG)).mono ?_
  rintro _ w2 ⟨rfl, hg⟩
  replace hB := hB.grown hg (by simp)
  replace hG := gr_trans hG hg
  clear hg
  go_wp2_with fail
  refine (best_ready _).mono ?_
  rintro _ w3 ⟨rfl, hg⟩
  replace hB := hB.grown hg (by simp)
  replace hG := gr_trans hG hg
  have c1 : w3.cell? ⟨w1.heap.size, 1, none⟩ = some (.string ⟨#[111, 104, 50]⟩) := hB.cell 1
  clear hg
  go_wp2_with fail
  go_ret
  exact ⟨rfl, hG⟩
end Go.Proofs.YtbpkfkbbkgdlaaaGreatDoor

namespace Go.Proofs.YtbpkfkbbkgdlaaaGreatDoor
open Go.RowKit
set_option linter.unusedVariables false

/-- The powers of ten, as Itoa reads them. -/
structure P10 (b : Nat) (w : World) : Prop where
  tab : Lib.TabIs Tryz.prog w "internal/strconv.uint64pow10" .u64 Lib.pow10Tab
  lt : 3 < b
  lb : b ≤ w.heap.size
theorem P10.grown {b : Nat} {w w' : World} (h : P10 b w) (hg : w.grownBy w' none) : P10 b w' :=
  ⟨tab_grown (by kernel_rfl) h.tab hg (Nat.lt_of_lt_of_le h.lt h.lb) (by simp), h.lt, Nat.le_trans h.lb hg.size⟩
end Go.Proofs.YtbpkfkbbkgdlaaaGreatDoor

namespace Go.Proofs.YtbpkfkbbkgdlaaaGreatDoor
open Go.RowKit
set_option linter.unusedVariables false
set_option linter.unusedSimpArgs false

def itZ (t : Int) : ByteArray := ⟨(Lib.decDigits t.toNat).toArray⟩
theorem itoaZ_any (b : Nat) (t : Int) (w : World) (h0 : 0 ≤ t) (h1 : t ≤ 1000000000000) (hp : P10 b w) :
    Calls Tryz.prog 67 #[.int .i64 t] w fun e w' => e = .returned (.string (itZ t)) ∧ w.grownBy w' none := by
  obtain ⟨n, rfl⟩ := Int.eq_ofNat_of_zero_le h0
  refine (Tryz.strconv_Itoa (n : Int) (by omega) (by omega) w hp.tab).mono ?_
  rintro e w' ⟨rfl, k, os, rfl⟩
  refine ⟨by rw [Lib.itoa_nonneg]; rfl, ?_⟩
  exact gr_trans (gr_drewN (gr_refl _ _) k) ⟨rfl, rfl, rfl, by simp, fun i hi _ => Sort.heap_grow_old _ _ (by simpa using hi)⟩
def encQ (x : Int × ByteArray) : List Value := [.string (itZ x.1), .string x.2]
def PairsFrom (base : Nat) (w : World) (v : Value) (l : List (Int × ByteArray)) : Prop := w.ownsRow base 58 2 v l.length (l.flatMap encQ)
theorem PairsFrom.grown {base : Nat} {w w' : World} {v : Value} {l : List (Int × ByteArray)} (h : PairsFrom base w v l) (hg : w.grownBy w' none) : PairsFrom base w' v l := ownsRow_grown h hg
theorem PairsFrom.nil (base : Nat) (w : World) : PairsFrom base w (.slice none 0 0) [] := World.ownsRow_nil _ _ _ _
theorem PairsFrom.shape {base : Nat} {w : World} {v : Value} {l : List (Int × ByteArray)} (h : PairsFrom base w v l) :
    ∃ A c, v = .slice A l.length c ∧ l.length ≤ 9223372036854775807 ∧ (0 < l.length → ∃ g, A = some ⟨g, 0, none⟩ ∧ base ≤ g ∧ g < w.heap.size) := ownsRow_shape h
theorem PairsFrom.at_ {base : Nat} {w : World} {g c : Nat} {l : List (Int × ByteArray)} (h : PairsFrom base w (.slice (some ⟨g, 0, none⟩) l.length c) l) (k : Nat) (hk : k < l.length) :
    w.cell? ⟨g, k * 2, none⟩ = some (.string (itZ l[k].1)) ∧ w.cell? ⟨g, k * 2 + 1, none⟩ = some (.string l[k].2) := by
  have hf := flat_at encQ 2 (fun _ => rfl) l k
  have h0 := hf 0 hk (by decide)
  rw [Nat.add_zero] at h0
  refine ⟨?_, ?_⟩
  · rw [World.ownsRow.cellAt h _ (by omega), h0]; rfl
  · rw [World.ownsRow.cellAt h _ (by omega), hf 1 hk (by decide)]; rfl
theorem pairInfo : (Tryz.prog.info? 58).map (fun i => (i.zero, i.size, i.bytes)) = some (some (.agg #[.string ⟨#[]⟩, .string ⟨#[]⟩]), 2, 32) := by kernel_rfl
theorem pr_cells (w : World) (x y : ByteArray) (t : TypeId) : ∀ j u, ([Value.string x, .string y])[j]? = some u → (w.alloc (.cells #[.string x, .string y] t)).cell? ((⟨w.heap.size, 0, none⟩ : Addr).add j) = some u := by
  intro j u hu
  have hb := (Blk.new w t #[.string x, .string y]).cell j
  have hadd : (⟨w.heap.size, 0, none⟩ : Addr).add j = ⟨w.heap.size, j, none⟩ := by unfold Addr.add; split <;> simp_all
  rw [hadd, hb]
  simpa using hu
theorem pr_oneCell (x y : ByteArray) : ∀ u ∈ [Value.string x, .string y], u.oneCell' = true := by
  intro u hu
  simp at hu
  rcases hu with rfl | rfl <;> rfl
def lastV (o : List (Int × ByteArray)) : Option ByteArray := o.getLast?.map (·.2)
theorem chg_start (nm : Int → ByteArray) (l : List Int) : chgL nm none l = [] ++ chgL nm (lastV []) (l.drop 0) := rfl
theorem chg_end (nm : Int → ByteArray) (l : List Int) (o : List (Int × ByteArray)) : o ++ chgL nm (lastV o) (l.drop l.length) = o := by rw [List.drop_length]; simp [chgL]
theorem chg_same {nm : Int → ByteArray} {l : List Int} {o : List (Int × ByteArray)} {k : Nat} (h : k < l.length) (hl : lastV o = some (nm l[k])) : o ++ chgL nm (lastV o) (l.drop k) = o ++ chgL nm (lastV o) (l.drop (k + 1)) := by
  rw [List.drop_eq_getElem_cons h]
  show o ++ (if lastV o = some (nm l[k]) then _ else _) = _
  rw [if_pos hl]
theorem chg_new {nm : Int → ByteArray} {l : List Int} {o : List (Int × ByteArray)} {k : Nat} (h : k < l.length) (hl : lastV o ≠ some (nm l[k])) : o ++ chgL nm (lastV o) (l.drop k) = (o ++ [(l[k], nm l[k])]) ++ chgL nm (lastV (o ++ [(l[k], nm l[k])])) (l.drop (k + 1)) := by
  rw [List.drop_eq_getElem_cons h]
  show o ++ (if lastV o = some (nm l[k]) then _ else _) = _
  rw [if_neg hl]
  unfold lastV
  simp
theorem lastV_nil : lastV [] = none := rfl
theorem lastV_at (o : List (Int × ByteArray)) (k : Nat) (h : k < o.length) (hk : k + 1 = o.length) : lastV o = some o[k].2 := by
  unfold lastV
  rw [List.getLast?_eq_getElem?, List.getElem?_eq_getElem (by omega)]
  simp only [Option.map_some, Option.some.injEq]
  congr 2
  omega
end Go.Proofs.YtbpkfkbbkgdlaaaGreatDoor

namespace Go.Proofs.YtbpkfkbbkgdlaaaGreatDoor
open Go.RowKit
set_option linter.unusedVariables false
set_option linter.unusedSimpArgs false

def isCall (s : ByteArray) : Bool := (partsOf s).isSome
theorem parts_flat {s : ByteArray} {w w' : World} {e : Ending} (h : PartsPost s w e w') : w.grownBy w' none ∧ ∃ (t0 t1 t2 t4 : ByteArray) (kd : Int), e = .returned (.tuple #[.agg #[.string t0, .string t1, .string t2, .int .i64 kd, .string t4], .bool (isCall s)]) := by
  obtain ⟨hg, ⟨hn, he⟩ | ⟨t, k, kd, ad, hn, he⟩⟩ := h
  · have hb : isCall s = false := by unfold isCall; rw [hn]; rfl
    rw [hb]
    exact ⟨hg, _, _, _, _, _, he⟩
  · have hb : isCall s = true := by unfold isCall; rw [hn]; rfl
    rw [hb]
    exact ⟨hg, _, _, _, _, _, he⟩
set_option maxHeartbeats 1000000 in
theorem isCall_any (s : ByteArray) (w : World) (hs : s.size < 4294967281) (ha : Ascii s) :
    Calls Tryz.prog 36 #[.string s] w fun e w' => e = .returned (.bool (isCall s)) ∧ w.grownBy w' none := by
  have HP := Lib.hid ((parts_any s w hs ha).mono fun e w' h => parts_flat h)
  clear hs ha
  generalize isCall s = B at *
  go_enter Tryz.func36, Tryz.ntmps36
  go_wp2_with fail
  refine HP.out.mono ?_
  rintro _ w1 ⟨hg1, t0, t1, t2, t4, kd, rfl⟩
  have hG := gr_alloc hg1 (.cells #[.string t0, .string t1, .string t2, .int .i64 kd, .string t4] 105)
  go_wp2_with fail
  go_ret
  exact ⟨rfl, hG⟩
end Go.Proofs.YtbpkfkbbkgdlaaaGreatDoor

namespace Go.Proofs.YtbpkfkbbkgdlaaaGreatDoor
open Go.RowKit
set_option linter.unusedVariables false
set_option linter.unusedSimpArgs false

theorem TabRight.beg {l : List Ent} {p : List Pfx} (h : TabRight l p) : ∀ x ∈ p, x.beg.size ≤ 14 := fun x hx => by
  cases hw : x.whole with
  | false => have := h.size x hx hw; omega
  | true =>
    have hf := (h.pfx x hx).form
    unfold formB at hf
    rw [hw] at hf
    simp only [if_true, Bool.not_eq_false'] at hf
    by_cases h1 : 14 < x.beg.size
    · unfold partsOf at hf
      rw [if_pos h1] at hf
      simp at hf
    · omega
def ofE (l : List Ent) (p : List Pfx) (s : ByteArray) (t : Int) : Int := if tabE l p ≠ 0 then tabE l p else if isCall s = false then 3 else momE t
def OfPost (l : List Ent) (p : List Pfx) (s : ByteArray) (t : Int) (w : World) (r : Ending) (w' : World) : Prop :=
  ∃ O : Option Fnd, r = .returned (.tuple #[.agg #[.string (O.getD fndZ0).1, .int .i64 (O.getD fndZ0).2.1, .int .i64 (O.getD fndZ0).2.2], .bool O.isSome, .int .i64 (ofE l p s t)]) ∧ (ofE l p s t ≠ 0 → O = none) ∧ (ofE l p s t = 0 → tabE l p = 0 ∧ ∀ q, partsOf s = some q → O = fndOf l p s t q) ∧ w.grownBy w' none
theorem tableOf_right (base : Nat) (u v : Value) (l : List Ent) (p : List Pfx) (w : World) (hu : EntsFrom base w u l) (hv : PfxsFrom base w v p) (hR : TabRight l p) :
    Calls Tryz.prog 56 #[u, v] w (TabPost base u v l p w) := tableOf_ok base u v l p w hu hv hR.ok.len hR.beg
set_option maxRecDepth 100000 in
set_option maxHeartbeats 4000000 in
theorem of_any (base : Nat) (u v : Value) (l : List Ent) (p : List Pfx) (s : ByteArray) (t : Int) (w : World) (hu : EntsFrom base w u l) (hsl : ∀ e ∈ l, EntSm e) (hv : PfxsFrom base w v p) (hsm : ∀ x ∈ p, PfxSm x) (hs : s.size ≤ 1000) (ha : Ascii s) :
    Calls Tryz.prog 15 #[u, v, .string s, .int .i64 t] w (OfPost l p s t w) := by
  have hR := Blk.new w 38 #[.string ⟨#[]⟩, .int .i64 0, .int .i64 0]
  have hg0 := World.grownBy_alloc w (.cells #[.string ⟨#[]⟩, .int .i64 0, .int .i64 0] 38) none
  have HU := Lib.hid hu
  have HV := Lib.hid hv
  have HCT : Hid (∀ W, w.grownBy W none → Calls Tryz.prog 14 #[u, v] W fun r w' => r = .returned (.int .i64 (tabE l p)) ∧ W.grownBy w' none) := fun W hW => checkTable_any base u v l p W (hu.grown hW) hsl (hv.grown hW) hsm
  have HIC : Hid (∀ W, Calls Tryz.prog 36 #[.string s] W fun e w' => e = .returned (.bool (isCall s)) ∧ W.grownBy w' none) := fun W => isCall_any s W (by omega) ha
  obtain ⟨gR, hgR⟩ : ∃ x, w.heap.size = x := ⟨_, rfl⟩
  have HgR := Lib.hid hgR
  rw [hgR] at hR
  have HFIN : Hid (∀ (W : World) (K : ByteArray) (C Z : Int) (F : Bool), Blk W gR 38 #[.string ⟨#[]⟩, .int .i64 0, .int .i64 0] → w.grownBy W none →
      (((W.setCell ⟨gR, 0, none⟩ (.string K)).setCell ⟨gR, 1, none⟩ (.int .i64 C)).setCell ⟨gR, 2, none⟩ (.int .i64 Z)).cell? ⟨gR, 0, none⟩ = some (.string K) ∧ (((W.setCell ⟨gR, 0, none⟩ (.string K)).setCell ⟨gR, 1, none⟩ (.int .i64 C)).setCell ⟨gR, 2, none⟩ (.int .i64 Z)).cell? ⟨gR, 1, none⟩ = some (.int .i64 C) ∧ (((W.setCell ⟨gR, 0, none⟩ (.string K)).setCell ⟨gR, 1, none⟩ (.int .i64 C)).setCell ⟨gR, 2, none⟩ (.int .i64 Z)).cell? ⟨gR, 2, none⟩ = some (.int .i64 Z) ∧ w.grownBy (((W.setCell ⟨gR, 0, none⟩ (.string K)).setCell ⟨gR, 1, none⟩ (.int .i64 C)).setCell ⟨gR, 2, none⟩ (.int .i64 Z)) none) := fun W K C Z F hW hgW => by
    have hf := ((Blk.put hW 0 (.string K)).put 1 (.int .i64 C)).put 2 (.int .i64 Z)
    simp only [List.setIfInBounds_toArray, List.set_cons_zero, List.set_cons_succ] at hf
    have hle : w.heap.size ≤ gR := by omega
    exact ⟨hf.cell 0, hf.cell 1, hf.cell 2, gr_put (p := ⟨gR, 2, none⟩) (gr_put (p := ⟨gR, 1, none⟩) (gr_put (p := ⟨gR, 0, none⟩) hgW (.inr hle) (.string K)) (.inr hle) (.int .i64 C)) (.inr hle) (.int .i64 Z)⟩
  obtain ⟨E, hE⟩ : ∃ E, tabE l p = E := ⟨_, rfl⟩
  have HE := Lib.hid hE
  rw [hE] at HCT
  have HAS := Lib.hid ha
  clear hu hv hgR hE ha
  go_enter Tryz.func15, Tryz.ntmps15
  go_upto_region 1 with fail
  generalize w.alloc (.cells #[.string ⟨#[]⟩, .int .i64 0, .int .i64 0] 38) = w1 at *
  rw [HgR.out]
  go_wp2_with fail
  refine (HCT.out _ hg0).mono ?_
  rintro _ w2 ⟨rfl, hg2⟩
  have hgw := gr_trans hg0 hg2
  have hR2 := hR.grown hg2 (by simp)
  clear hR hg0 hg2
  have r0 := Blk.cell (g := gR) hR2 0
  have r1 := Blk.cell (g := gR) hR2 1
  have r2 := Blk.cell (g := gR) hR2 2
  have rf := Blk.free (g := gR) hR2
  simp only [List.getElem?_toArray, List.getElem?_cons_zero, List.getElem?_cons_succ] at r0 r1 r2
  by_cases hE0 : E = 0
  · subst hE0
    clear r0 r1 r2 rf
    go_wp2_with fail
    refine (HIC.out _).mono ?_
    rintro _ w3 ⟨rfl, hg3⟩
    have hR3 := Blk.grown (g := gR) hR2 hg3 (by simp)
    have hgw3 := gr_trans hgw hg3
    have r0 := Blk.cell (g := gR) hR3 0
    have r1 := Blk.cell (g := gR) hR3 1
    have r2 := Blk.cell (g := gR) hR3 2
    have rf := Blk.free (g := gR) hR3
    simp only [List.getElem?_toArray, List.getElem?_cons_zero, List.getElem?_cons_succ] at r0 r1 r2
    cases hic : isCall s
    · have HOE : Hid (ofE l p s t = 3) := by show _ = _; unfold ofE; rw [HE.out, hic]; simp
      obtain ⟨e0, e1, e2, e3⟩ := HFIN.out w3 ⟨#[]⟩ 0 0 false hR3 hgw3
      clear hic
      go_wp2_with fail
      refine bodyPost_ret (v := .tuple #[.agg #[.string ⟨#[]⟩, .int .i64 0, .int .i64 0], .bool false, .int .i64 3]) (by simp [results, Tryz.results15, go_sem, e0, e1, e2]) rfl ?_
      exact ⟨none, by rw [HOE.out]; rfl, fun _ => rfl, fun h => by rw [HOE.out] at h; simp at h, e3⟩
    · have HIS := Lib.hid hic
      clear hic
      go_wp2_with fail
      refine (isMoment_any t _).mono ?_
      rintro _ _ ⟨rfl, rfl⟩
      rcases spanE_cases t 0 345686399999 with ⟨hm, m0, m1⟩ | ⟨hm, m0⟩
      · rw [outB_no m0 m1]
        have HOE : Hid (ofE l p s t = 0) := by show _ = _; unfold ofE; rw [HE.out, HIS.out]; simp [momE, hm]
        have hRT := tabE_ok HE.out
        obtain ⟨q, hq⟩ := Option.isSome_iff_exists.1 (show (partsOf s).isSome = true from HIS.out)
        obtain ⟨O, hO⟩ : ∃ O, fndOf l p s t q = O := ⟨_, rfl⟩
        have HFD : Hid (∀ base2 gT bB bW W, TabFull base base2 gT bB bW u v l p W → Calls Tryz.prog 57 #[.pointer (some ⟨gT, 0, none⟩), .string s, .int .i64 t] W fun r w' => r = .returned (.tuple #[.agg #[.string (O.getD fndZ0).1, .int .i64 (O.getD fndZ0).2.1, .int .i64 (O.getD fndZ0).2.2], .bool O.isSome]) ∧ W.grownBy w' none) := fun base2 gT bB bW W h => by
          have := find_ok base base2 gT bB bW u v l p s t q W h hRT hs HAS.out hq
          rw [hO] at this
          exact this
        have HTO : Hid (Calls Tryz.prog 56 #[u, v] w3 (TabPost base u v l p w3)) := tableOf_right base u v l p w3 (HU.out.grown hgw3) (HV.out.grown hgw3) hRT
        have HQ := Lib.hid hq
        have HO := Lib.hid hO
        clear hm m0 m1 hRT hq hO r0 r1 r2 rf
        go_wp2_with fail
        refine HTO.out.mono ?_
        rintro _ w4 ⟨base2, gT, bB, bW, rfl, hTF, _, hg4⟩
        have HTF := Lib.hid hTF
        clear hTF
        go_wp2_with fail
        refine (HFD.out _ _ _ _ _ HTF.out).mono ?_
        rintro _ w5 ⟨rfl, hg5⟩
        have hX := Blk.new w5 38 #[.string (O.getD fndZ0).1, .int .i64 (O.getD fndZ0).2.1, .int .i64 (O.getD fndZ0).2.2]
        have hR5 := Blk.alloc (g := gR) (Blk.grown (g := gR) hR3 (gr_trans hg4 hg5) (by simp)) (.cells #[.string (O.getD fndZ0).1, .int .i64 (O.getD fndZ0).2.1, .int .i64 (O.getD fndZ0).2.2] 38)
        have hgF := gr_alloc (gr_trans hgw3 (gr_trans hg4 hg5)) (.cells #[.string (O.getD fndZ0).1, .int .i64 (O.getD fndZ0).2.1, .int .i64 (O.getD fndZ0).2.2] 38)
        have HF0 : Hid (∀ K C Z, (O.getD fndZ0) = (K, C, Z) → True) := fun _ _ _ _ => trivial
        have HPO : Hid (∀ w', w.grownBy w' none → OfPost l p s t w (.returned (.tuple #[.agg #[.string (O.getD fndZ0).1, .int .i64 (O.getD fndZ0).2.1, .int .i64 (O.getD fndZ0).2.2], .bool O.isSome, .int .i64 0])) w') := fun w' hg => ⟨O, by rw [HOE.out], fun h => absurd HOE.out h, fun _ => ⟨HE.out, fun q' hq' => by rw [HQ.out] at hq'; injection hq' with hq'; rw [← hq']; exact HO.out.symm⟩, hg⟩
        generalize (O.getD fndZ0).1 = K at *
        generalize (O.getD fndZ0).2.1 = C at *
        generalize (O.getD fndZ0).2.2 = Z at *
        generalize O.isSome = FS at *
        go_upto_region 9 with fail
        generalize w5.alloc (.cells #[.string K, .int .i64 C, .int .i64 Z] 38) = w6 at *
        generalize w5.heap.size = gX at *
        have x0 := Blk.cell hX 0
        have x1 := Blk.cell hX 1
        have x2 := Blk.cell hX 2
        have r0 := Blk.cell (g := gR) hR5 0
        have r1 := Blk.cell (g := gR) hR5 1
        have r2 := Blk.cell (g := gR) hR5 2
        have rf := Blk.free (g := gR) hR5
        simp only [List.getElem?_toArray, List.getElem?_cons_zero, List.getElem?_cons_succ] at x0 x1 x2 r0 r1 r2
        obtain ⟨e0, e1, e2, e3⟩ := HFIN.out w6 K C Z true hR5 hgF
        go_wp2_with fail
        refine bodyPost_ret (v := .tuple #[.agg #[.string K, .int .i64 C, .int .i64 Z], .bool FS, .int .i64 0]) (by simp [results, Tryz.results15, go_sem, e0, e1, e2]) rfl ?_
        exact HPO.out _ e3
      · rw [outB_yes m0]
        have HOE : Hid (ofE l p s t = 1) := by show _ = _; unfold ofE; rw [HE.out, HIS.out]; simp [momE, hm]
        obtain ⟨e0, e1, e2, e3⟩ := HFIN.out w3 ⟨#[]⟩ 0 0 false hR3 hgw3
        clear hm m0
        go_wp2_with fail
        refine bodyPost_ret (v := .tuple #[.agg #[.string ⟨#[]⟩, .int .i64 0, .int .i64 0], .bool false, .int .i64 1]) (by simp [results, Tryz.results15, go_sem, e0, e1, e2]) rfl ?_
        exact ⟨none, by rw [HOE.out]; rfl, fun _ => rfl, fun h => by rw [HOE.out] at h; simp at h, e3⟩
  · have hE1 : (E != 0) = true := by simpa using hE0
    have HOE : Hid (ofE l p s t = E) := by show _ = _; unfold ofE; rw [HE.out, if_pos hE0]
    have HE0 := Lib.hid hE0
    obtain ⟨e0, e1, e2, e3⟩ := HFIN.out w2 ⟨#[]⟩ 0 0 false hR2 hgw
    clear hE0
    go_wp2_with fail
    refine bodyPost_ret (v := .tuple #[.agg #[.string ⟨#[]⟩, .int .i64 0, .int .i64 0], .bool false, .int .i64 E]) (by simp [results, Tryz.results15, go_sem, e0, e1, e2]) rfl ?_
    exact ⟨none, by rw [HOE.out]; rfl, fun _ => rfl, fun h => absurd (HOE.out.symm.trans h) HE0.out, e3⟩
end Go.Proofs.YtbpkfkbbkgdlaaaGreatDoor

namespace Go.Proofs.YtbpkfkbbkgdlaaaGreatDoor
open Go.RowKit
set_option linter.unusedVariables false
set_option linter.unusedSimpArgs false

def chgE (l : List Ent) (p : List Pfx) (s : ByteArray) : Int := if tabE l p ≠ 0 then tabE l p else if isCall s = false then 3 else 0
theorem IntsFrom.lowB {base base' : Nat} {w : World} {v : Value} {l : List Int} (h : IntsFrom base w v l) (hb : base' ≤ base) : IntsFrom base' w v l := ownsRow_low h hb
theorem edgL_bd (l : List Ent) (p : List Pfx) (js : List Nat) (a z : Int) (h : a < z) : ∀ x ∈ edgL l p js a z, a ≤ x ∧ x < z := fun x hx => by
  rcases (edgL_mem _ _ _ _ _ _).1 hx with rfl | ⟨_, _, _, h1, h2⟩
  · omega
  · omega
def ChangesPost (l : List Ent) (p : List Pfx) (s : ByteArray) (w : World) (r : Ending) (w' : World) : Prop :=
  ∃ (v : Value) (o : List (Int × ByteArray)), r = .returned (.tuple #[v, .int .i64 (chgE l p s)]) ∧ PairsFrom w.heap.size w' v o ∧ (chgE l p s ≠ 0 → o = []) ∧ (chgE l p s = 0 → tabE l p = 0 ∧ ∀ q, partsOf s = some q → o = chgL (nameAt l p s q) none (edgL l p (canL p s q) 0 345686400000)) ∧ w.grownBy w' none
set_option maxRecDepth 100000 in
set_option maxHeartbeats 16000000 in
theorem changes_any (base : Nat) (u v : Value) (l : List Ent) (p : List Pfx) (s : ByteArray) (w : World) (hu : EntsFrom base w u l) (hsl : ∀ e ∈ l, EntSm e) (hv : PfxsFrom base w v p) (hsm : ∀ x ∈ p, PfxSm x) (hs : s.size ≤ 1000) (ha : Ascii s) (bP : Nat) (hp10 : P10 bP w) :
    Calls Tryz.prog 17 #[u, v, .string s] w (ChangesPost l p s w) := by
  obtain ⟨i0, hi0, hz0, hz1, hz2⟩ := info_parts pairInfo
  have HU := Lib.hid hu
  have HV := Lib.hid hv
  have HP10 := Lib.hid hp10
  have HCT : Hid (∀ W, w.grownBy W none → Calls Tryz.prog 14 #[u, v] W fun r w' => r = .returned (.int .i64 (tabE l p)) ∧ W.grownBy w' none) := fun W hW => checkTable_any base u v l p W (hu.grown hW) hsl (hv.grown hW) hsm
  have HPT : Hid (∀ W, Calls Tryz.prog 62 #[.string s] W (PartsPost s W)) := fun W => parts_any s W (by omega) ha
  obtain ⟨E, hE⟩ : ∃ E, tabE l p = E := ⟨_, rfl⟩
  have HE := Lib.hid hE
  rw [hE] at HCT
  have HAS := Lib.hid ha
  clear hu hv hE ha hp10
  go_enter Tryz.func17, Tryz.ntmps17
  go_wp2_with fail
  refine (HCT.out _ (gr_refl _ _)).mono ?_
  rintro _ w2 ⟨rfl, hg2⟩
  by_cases hE0 : E = 0
  · subst hE0
    go_wp2_with fail
    refine (HPT.out _).mono ?_
    rintro _ w3 ⟨hg3, ⟨hn, rfl⟩ | ⟨T0, kk, KD, AD, hq, rfl⟩⟩
    · have HOE : Hid (chgE l p s = 3) := by show _ = _; unfold chgE isCall; rw [HE.out, hn]; simp
      have hgF := gr_alloc (gr_trans hg2 hg3) (.cells #[.string ⟨#[]⟩, .string ⟨#[]⟩, .string ⟨#[]⟩, .int .i64 0, .string ⟨#[]⟩] 105)
      clear hn
      go_wp2_with fail
      go_ret2
      exact ⟨_, [], by rw [HOE.out]; rfl, PairsFrom.nil _ _, fun _ => rfl, fun h => by rw [HOE.out] at h; simp at h, hgF⟩
    · have hqs := parts_size hq
      have hic : isCall s = true := by unfold isCall; rw [hq]; rfl
      have HOE : Hid (chgE l p s = 0) := by show _ = _; unfold chgE; rw [HE.out, hic]; simp
      have hRt := tabE_ok HE.out
      obtain ⟨q, hqq⟩ : ∃ q, (T0, kk, KD, AD) = q := ⟨_, rfl⟩
      rw [hqq] at hq hqs
      have z1 : T0.size ≤ 100 ∧ AD.size ≤ 100 ∧ kk < T0.size := by subst hqq; exact hqs
      have y1 : (T0.extract 0 (kk + 1)).size ≤ 100 ∧ 1 ≤ (T0.extract 0 (kk + 1)).size := by rw [ByteArray.size_extract]; omega
      have y2 : (T0.extract (kk + 1) T0.size).size ≤ 100 := by rw [ByteArray.size_extract]; omega
      have hpq : plcOf T0 (T0.extract 0 (kk + 1)) (T0.extract (kk + 1) T0.size) AD KD = plcQ q := by subst hqq; rfl
      have hpl : (plcQ q).size ≤ 1000 := by
        rw [← hpq]
        unfold plcOf
        split
        · omega
        · split
          · rw [ByteArray.size_append, ByteArray.size_append, ByteArray.size_extract]; omega
          · omega
      have HPO : Hid (∀ W, Calls Tryz.prog 66 #[.agg #[.string T0, .string (T0.extract 0 (kk + 1)), .string (T0.extract (kk + 1) T0.size), .int .i64 KD, .string AD]] W fun r w' => r = .returned (.string (plcQ q)) ∧ W.grownBy w' none) := fun W => by rw [← hpq]; exact placeOf_any T0 _ _ AD KD W y1.1 y2 z1.2.1 y1.2
      generalize T0.extract 0 (kk + 1) = PRE at *
      generalize T0.extract (kk + 1) T0.size = SUF at *
      have HQ := Lib.hid hq
      have HQQ := Lib.hid hqq
      have HPL := Lib.hid hpl
      have HRT := Lib.hid hRt
      clear hq hqs hqq z1 y1 y2 hpq hpl hic hRt
      have hX := Blk.new w3 105 #[.string T0, .string PRE, .string SUF, .int .i64 KD, .string AD]
      have hgw4 := gr_alloc (gr_trans hg2 hg3) (.cells #[.string T0, .string PRE, .string SUF, .int .i64 KD, .string AD] 105)
      go_upto_region 5 with fail
      generalize w3.alloc (.cells #[.string T0, .string PRE, .string SUF, .int .i64 KD, .string AD] 105) = w4 at *
      generalize w3.heap.size = gX at *
      have HTO : Hid (Calls Tryz.prog 56 #[u, v] w4 (TabPost base u v l p w4)) := tableOf_right base u v l p w4 (HU.out.grown hgw4) (HV.out.grown hgw4) HRT.out
      go_wp2_with fail
      refine HTO.out.mono ?_
      rintro _ w5 ⟨base2, gT, bB, bW, rfl, hTF, _, hg5⟩
      have hgw5 := gr_trans hgw4 hg5
      have hX5 := Blk.grown hX hg5 (by simp)
      have cW := hTF.cW
      have x0 := Blk.cell hX5 0
      have x1 := Blk.cell hX5 1
      have x2 := Blk.cell hX5 2
      have x3 := Blk.cell hX5 3
      have x4 := Blk.cell hX5 4
      simp only [List.getElem?_toArray, List.getElem?_cons_zero, List.getElem?_cons_succ] at x0 x1 x2 x3 x4
      obtain ⟨nW, hmW⟩ := hTF.mW
      obtain ⟨uj, hju, hjn, hlk⟩ := hmW.look2 s (by omega)
      obtain ⟨Aj, cj, rfl, hjl, _⟩ := hju.shape
      have hjb := idxL_len p true s
      rw [natI_len] at hlk hjl
      have HLK := Lib.hid hlk
      have HJU : Hid (IntsFrom base2 w5 (.slice Aj (idxL p true s).length cj) (natI (idxL p true s))) := by
        rw [natI_len] at hju
        exact hju
      have HTF := Lib.hid hTF
      have hp2 := HRT.out.ok.len
      have HKX : Hid (∀ V, w5.grownBy V none → V.cell? ⟨gT, 3, none⟩ = some (.map (some bW)) ∧ V.cell? ⟨gX, 0, none⟩ = some (.string T0) ∧ V.cell? ⟨gX, 1, none⟩ = some (.string PRE) ∧ V.cell? ⟨gX, 2, none⟩ = some (.string SUF) ∧ V.cell? ⟨gX, 3, none⟩ = some (.int .i64 KD) ∧ V.cell? ⟨gX, 4, none⟩ = some (.string AD) ∧ w5.grownBy V none) := fun V hV =>
        ⟨hV.cell cW (by simp), hV.cell x0 (by simp), hV.cell x1 (by simp), hV.cell x2 (by simp), hV.cell x3 (by simp), hV.cell x4 (by simp), hV⟩
      clear hTF hmW hju hlk hjn hX5 hX
      generalize hJL : (idxL p true s).length = JL at *
      have HJL := Lib.hid hJL
      clear hJL
      go_upto_region 9 with fail
      refine wp_region_held_drew (S := fun V => V.cell? ⟨gT, 3, none⟩ = some (.map (some bW)) ∧ V.cell? ⟨gX, 0, none⟩ = some (.string T0) ∧ V.cell? ⟨gX, 1, none⟩ = some (.string PRE) ∧ V.cell? ⟨gX, 2, none⟩ = some (.string SUF) ∧ V.cell? ⟨gX, 3, none⟩ = some (.int .i64 KD) ∧ V.cell? ⟨gX, 4, none⟩ = some (.string AD) ∧ w5.grownBy V none) (by kernel_rfl) (HKX.out _ (gr_drew (gr_refl _ _))) (fun hHeld => ?_)
      refine wpAnyH_take (i := 0) (v := ?_) rfl (by kernel_rfl) (by kernel_rfl) (by kernel_rfl) (fun _ _ _ h => h) (Or.inl ⟨by kernel_rfl, ?_⟩) hHeld ?_
      rotate_left
      · intro w hSw
        (try dsimp only at hSw)
        obtain ⟨hS0, hS1, hS2, hS3, hS4, hS5, hS6⟩ := hSw
        go_simp
        (try with_reducible rfl)
      change wpAnyH _ _ _ _ _ _ _ (Act.put _ (some 35) _) _
      simp only [Act.put, List.setIfInBounds_toArray, List.set_cons_zero, List.set_cons_succ]
      refine wpAnyH_take (i := 1) (v := ?_) rfl (by kernel_rfl) (by kernel_rfl) (by kernel_rfl) (fun _ _ _ h => h) (Or.inl ⟨by kernel_rfl, ?_⟩) hHeld ?_
      rotate_left
      · intro w hSw
        (try dsimp only at hSw)
        obtain ⟨hS0, hS1, hS2, hS3, hS4, hS5, hS6⟩ := hSw
        go_simp
        (try with_reducible rfl)
      change wpAnyH _ _ _ _ _ _ _ (Act.put _ (some 36) _) _
      simp only [Act.put, List.setIfInBounds_toArray, List.set_cons_zero, List.set_cons_succ]
      refine wpAnyH_take (i := 2) (v := ?_) rfl (by kernel_rfl) (by kernel_rfl) (by kernel_rfl) (fun _ _ _ h => h) (Or.inl ⟨by kernel_rfl, ?_⟩) hHeld ?_
      rotate_left
      · intro w hSw
        (try dsimp only at hSw)
        obtain ⟨hS0, hS1, hS2, hS3, hS4, hS5, hS6⟩ := hSw
        go_simp
        (try with_reducible rfl)
      change wpAnyH _ _ _ _ _ _ _ (Act.put _ (some 37) _) _
      simp only [Act.put, List.setIfInBounds_toArray, List.set_cons_zero, List.set_cons_succ]
      refine wpAnyH_take (i := 3) (v := ?_) rfl (by kernel_rfl) (by kernel_rfl) (by kernel_rfl) (fun _ _ _ h => h) (Or.inl ⟨by kernel_rfl, ?_⟩) hHeld ?_
      rotate_left
      · intro w hSw
        (try dsimp only at hSw)
        obtain ⟨hS0, hS1, hS2, hS3, hS4, hS5, hS6⟩ := hSw
        go_simp
        (try with_reducible rfl)
      change wpAnyH _ _ _ _ _ _ _ (Act.put _ (some 38) _) _
      simp only [Act.put, List.setIfInBounds_toArray, List.set_cons_zero, List.set_cons_succ]
      refine wpAnyH_take (i := 4) (v := ?_) rfl (by kernel_rfl) (by kernel_rfl) (by kernel_rfl) (fun _ _ _ h => h) (Or.inl ⟨by kernel_rfl, ?_⟩) hHeld ?_
      rotate_left
      · intro w hSw
        (try dsimp only at hSw)
        obtain ⟨hS0, hS1, hS2, hS3, hS4, hS5, hS6⟩ := hSw
        go_simp
        (try with_reducible rfl)
      change wpAnyH _ _ _ _ _ _ _ (Act.put _ (some 39) _) _
      simp only [Act.put, List.setIfInBounds_toArray, List.set_cons_zero, List.set_cons_succ]
      refine wpAnyH_take (i := 5) (v := ?_) rfl (by kernel_rfl) (by kernel_rfl) (by kernel_rfl) (fun _ _ _ h => h) (Or.inl ⟨by kernel_rfl, ?_⟩) hHeld ?_
      rotate_left
      · intro w hSw
        (try dsimp only at hSw)
        obtain ⟨hS0, hS1, hS2, hS3, hS4, hS5, hS6⟩ := hSw
        go_simp
        (try with_reducible rfl)
      change wpAnyH _ _ _ _ _ _ _ (Act.put _ (some 40) _) _
      simp only [Act.put, List.setIfInBounds_toArray, List.set_cons_zero, List.set_cons_succ]
      refine wpAnyH_take (i := 6) (v := ?_) rfl (by kernel_rfl) (by kernel_rfl) (by kernel_rfl) (fun _ _ _ h => h) (Or.inl ⟨by kernel_rfl, ?_⟩) hHeld ?_
      rotate_left
      · intro w hSw
        (try dsimp only at hSw)
        obtain ⟨hS0, hS1, hS2, hS3, hS4, hS5, hS6⟩ := hSw
        have hlk := HLK.out w none hS6 (by simp)
        go_simp
        (try with_reducible rfl)
      change wpAnyH _ _ _ _ _ _ _ (Act.put _ (some 41) _) _
      simp only [Act.put, List.setIfInBounds_toArray, List.set_cons_zero, List.set_cons_succ]
      refine wpAnyH_take (i := 7) (v := ?_) rfl (by kernel_rfl) (by kernel_rfl) (by kernel_rfl) (fun _ _ _ h => h) (Or.inl ⟨by kernel_rfl, ?_⟩) hHeld ?_
      rotate_left
      · intro w hSw
        (try dsimp only at hSw)
        obtain ⟨hS0, hS1, hS2, hS3, hS4, hS5, hS6⟩ := hSw
        go_simp
        (try with_reducible rfl)
      change wpAnyH _ _ _ _ _ _ _ (Act.put _ (some 42) _) _
      simp only [Act.put, List.setIfInBounds_toArray, List.set_cons_zero, List.set_cons_succ]
      refine wpAnyH_take (i := 8) (v := ?_) rfl (by kernel_rfl) (by kernel_rfl) (by kernel_rfl) (fun _ _ _ h => h) (Or.inl ⟨by kernel_rfl, ?_⟩) hHeld ?_
      rotate_left
      · intro w hSw
        (try dsimp only at hSw)
        obtain ⟨hS0, hS1, hS2, hS3, hS4, hS5, hS6⟩ := hSw
        go_simp
        (try with_reducible rfl)
      change wpAnyH _ _ _ _ _ _ _ (Act.put _ (some 43) _) _
      simp only [Act.put, List.setIfInBounds_toArray, List.set_cons_zero, List.set_cons_succ]
      refine wpAnyH_take (i := 15) (v := ?_) rfl (by kernel_rfl) (by kernel_rfl) (by kernel_rfl) (fun _ _ _ h => h) (Or.inl ⟨by kernel_rfl, ?_⟩) hHeld ?_
      rotate_left
      · intro w hSw
        (try dsimp only at hSw)
        obtain ⟨hS0, hS1, hS2, hS3, hS4, hS5, hS6⟩ := hSw
        go_simp
        (try with_reducible rfl)
      change wpAnyH _ _ _ _ _ _ _ (Act.put _ (some 50) _) _
      simp only [Act.put, List.setIfInBounds_toArray, List.set_cons_zero, List.set_cons_succ]
      refine wpAnyH_ready (rs := [9]) (by kernel_rfl) (by simp) ?_
      refine AllReadyH.cons (o := _) rfl (fun K hK => ?_) AllReadyH.nil
      go_simp
      (go_at_call 66; refine (HPO.out _).mono ?_; rintro _ wa ⟨rfl, hga⟩)
      have hG1 : w5.grownBy wa none := gr_trans (gr_drew (gr_refl _ _)) hga
      refine hK.out _ _ (HKX.out _ hG1) (fun hH9 => ?_)
      clear hK K
      (try simp only [Act.put, List.setIfInBounds_toArray, List.set_cons_zero, List.set_cons_succ])
      refine wpAnyH_ready (rs := [10]) (by kernel_rfl) (by simp) ?_
      refine AllReadyH.cons (o := _) rfl (fun K hK => ?_) AllReadyH.nil
      go_simp
      (go_at_call 65; refine (tnear_ok base base2 gT bB bW u v l p (plcQ q) _ (HTF.out.grown hG1) hp2 HPL.out).mono ?_; rintro _ wb ⟨z, rfl, hz, hgb⟩)
      have hG2 := gr_trans hG1 hgb
      obtain ⟨Az, cz, rfl, hzl, _⟩ := hz.shape
      have hzb := nearL_len p (plcQ q) (min 4 (plcQ q).size)
      have hzb2 : (nearL p (plcQ q) (min 4 (plcQ q).size)).length ≤ 8000 := Nat.le_trans hzb (Nat.mul_le_mul (Nat.min_le_left 4 _) hp2)
      obtain ⟨ZL, hZL⟩ : ∃ ZL, (natI (nearL p (plcQ q) (min 4 (plcQ q).size))).length = ZL := ⟨_, rfl⟩
      rw [hZL] at hz
      (try rw [hZL])
      have HZ := Lib.hid hz
      have HZL := Lib.hid hZL
      clear hz hzl hZL hzb
      refine hK.out _ _ (HKX.out _ hG2) (fun hH10 => ?_)
      clear hK K
      (try simp only [Act.put, List.setIfInBounds_toArray, List.set_cons_zero, List.set_cons_succ])
      refine wpAnyH_ready (rs := [11]) (by kernel_rfl) (by simp) ?_
      refine AllReadyH.cons (o := _) rfl (fun K hK => ?_) AllReadyH.nil
      go_simp
      have hBC := Blk.new wb 22 #[.slice Aj JL cj, .slice Az ZL cz]
      have hG3 := gr_alloc hG2 (.cells #[.slice Aj JL cj, .slice Az ZL cz] 22)
      have HJC := Lib.hid ((HJU.out.grown hG2).grown (World.grownBy_alloc wb (.cells #[.slice Aj JL cj, .slice Az ZL cz] 22) none))
      have HZC := Lib.hid (HZ.out.grown (World.grownBy_alloc wb (.cells #[.slice Aj JL cj, .slice Az ZL cz] 22) none))
      refine hK.out _ _ (HKX.out _ hG3) (fun hH11 => ?_)
      clear hK K
      (try simp only [Act.put, List.setIfInBounds_toArray, List.set_cons_zero, List.set_cons_succ])
      refine wpAnyH_ready (rs := [12]) (by kernel_rfl) (by simp) ?_
      refine AllReadyH.cons (o := _) rfl (fun K hK => ?_) AllReadyH.nil
      go_simp
      (go_at_call 64; refine (concat_any 0 _ _ _ _ _ _ _ (HJC.out.lowB (Nat.zero_le _)) (HZC.out.lowB (Nat.zero_le _)) hBC (by rw [natI_len, HJL.out]; omega) (by rw [natI_len]; omega)).mono ?_; rintro _ wc ⟨y, rfl, hy, hgc, _⟩)
      have hG4 := gr_trans hG3 hgc
      refine hK.out _ _ (HKX.out _ hG4) (fun hH12 => ?_)
      clear hK K
      (try simp only [Act.put, List.setIfInBounds_toArray, List.set_cons_zero, List.set_cons_succ])
      refine wpAnyH_ready (rs := [13]) (by kernel_rfl) (by simp) ?_
      refine AllReadyH.cons (o := _) rfl (fun K hK => ?_) AllReadyH.nil
      go_simp
      (go_at_call 63; refine (edges_ok base _ gT u v y l p (canL p s q) 0 345686400000 _ (HTF.out.at_.grown hG4) HRT.out.ok (by unfold canL; rw [natI_cat]; exact hy) canL_lt (by unfold canL; rw [List.length_append, HJL.out]; omega)).mono ?_; rintro _ w0 ⟨ev, rfl, hed, hgd⟩)
      have hG5 := gr_trans hG4 hgd
      obtain ⟨Ae, ce, rfl, hel, hEA⟩ := hed.shape
      refine hK.out _ _ (HKX.out _ hG5) (fun hH13 => ?_)
      clear hK K
      (try simp only [Act.put, List.setIfInBounds_toArray, List.set_cons_zero, List.set_cons_succ])
      refine wpAnyH_take (i := 14) (v := ?_) rfl (by kernel_rfl) (by kernel_rfl) (by kernel_rfl) (fun _ _ _ h => h) (Or.inl ⟨by kernel_rfl, ?_⟩) hH13 ?_
      rotate_left
      · intro w hSw
        (try dsimp only at hSw)
        obtain ⟨hS0, hS1, hS2, hS3, hS4, hS5, hS6⟩ := hSw
        go_simp
        (try with_reducible rfl)
      change wpAnyH _ _ _ _ _ _ _ (Act.put _ (some 49) _) _
      simp only [Act.put, List.setIfInBounds_toArray, List.set_cons_zero, List.set_cons_succ]
      refine wpAnyH_done (by kernel_rfl) ?_ _
      have hgE := gr_trans hgw5 hG5
      have hebd := edgL_bd l p (canL p s q) 0 345686400000 (by decide)
      have helen : (edgL l p (canL p s q) 0 345686400000).length ≤ 1000000 := by
        have h1 := Lib.compact_length_le (sortI (0 :: edgI l p (canL p s q) 0 345686400000))
        rw [sortI_len, List.length_cons] at h1
        have h2 := edgI_len l p 0 345686400000 (canL p s q)
        have h3 : (canL p s q).length ≤ 20000 := by unfold canL; rw [List.length_append, HJL.out]; omega
        have h4 : (edgL l p (canL p s q) 0 345686400000).length ≤ (edgI l p (canL p s q) 0 345686400000).length + 1 := h1
        omega
      obtain ⟨ed, hedd⟩ : ∃ ed, edgL l p (canL p s q) 0 345686400000 = ed := ⟨_, rfl⟩
      obtain ⟨nm, hnm⟩ : ∃ nm, nameAt l p s q = nm := ⟨_, rfl⟩
      have HPOST : Hid (∀ w', w.grownBy w' none → ∀ V o, PairsFrom w.heap.size w' V o → chgL nm none ed = o → ChangesPost l p s w (.returned (.tuple #[V, .int .i64 0])) w') := fun w' hg V o hV ho => ⟨V, o, by rw [HOE.out], hV, fun h => absurd HOE.out h, fun _ => ⟨HE.out, fun q' hq' => by rw [HQ.out] at hq'; injection hq' with hq'; rw [← hq', hnm, hedd]; exact ho.symm⟩, hg⟩
      have HFD : Hid (∀ t W, w.grownBy W none → w0.grownBy W none → Calls Tryz.prog 57 #[.pointer (some ⟨gT, 0, none⟩), .string s, .int .i64 t] W fun r w' => FndRet (fndOf l p s t q) r ∧ W.grownBy w' none) := fun t W _ hW => find_ok base base2 gT bB bW u v l p s t q W (HTF.out.grown (gr_trans hG5 hW)) HRT.out hs HAS.out HQ.out
      have HNA : Hid (∀ t, nm t = match fndOf l p s t q with | none => ⟨#[45]⟩ | some f => f.1) := fun t => by rw [← hnm]; rfl
      rw [hedd] at hed hel hEA hebd helen
      obtain ⟨b3, hb3⟩ : ∃ b3, w0.heap.size = b3 := ⟨_, rfl⟩
      have HB3 : Hid (b3 = w0.heap.size) := hb3.symm
      have HEO := Lib.hid hed
      have HEA := Lib.hid hEA
      have HEB := Lib.hid hebd
      have HW0 := Lib.hid hgE.size
      clear hed hEA hebd hnm hb3 cW x0 x1 x2 x3 x4
      rw [hedd]
      clear hedd
      go_wp2_with fail
      go_loopw [12, 50] (fun ov kv wr => ∃ (k : Nat) (o : List (Int × ByteArray)), k ≤ ed.length ∧ kv = .int .i64 k ∧ Hid (chgL nm none ed = o ++ chgL nm (lastV o) (ed.drop k)) ∧ o.length ≤ k ∧ PairsFrom b3 wr ov o ∧ w.grownBy wr none ∧ w0.grownBy wr none) (fun _ kv _ => ed.length - (intOf kv).toNat)
      case atStart => exact ⟨0, [], by omega, rfl, chg_start nm ed, by simp, PairsFrom.nil _ _, hgE, gr_refl _ _⟩
      case round =>
        obtain ⟨k, o, hk, rfl, HN, hok, hown, hg, hg0⟩ := hrel
        obtain ⟨A2, c2, rfl, _, hA2⟩ := hown.shape
        obtain ⟨LO, hLO⟩ : ∃ LO, o.length = LO := ⟨_, rfl⟩
        rw [hLO] at hown hA2 ⊢
        by_cases hlt : k < ed.length
        · have hki : (k : Int) < (ed.length : Int) := by omega
          obtain ⟨ge, rfl, _, hgel⟩ := HEA.out (by omega)
          have hat := IntsFrom.at_ (HEO.out.grown hg0) k hlt
          have htb := HEB.out _ (List.getElem_mem hlt)
          have hsame : lastV o = some (nm ed[k]) → chgL nm none ed = o ++ chgL nm (lastV o) (ed.drop (k + 1)) := fun h => by rw [HN.out]; exact chg_same hlt h
          have hnew : lastV o ≠ some (nm ed[k]) → chgL nm none ed = (o ++ [(ed[k], nm ed[k])]) ++ chgL nm (lastV (o ++ [(ed[k], nm ed[k])])) (ed.drop (k + 1)) := fun h => by rw [HN.out]; exact chg_new hlt h
          have HFI := Lib.hid (HFD.out ed[k] wr hg hg0)
          have HNM := HNA.out ed[k]
          generalize ed[k] = T at *
          obtain ⟨NM, hNM⟩ : ∃ NM, nm T = NM := ⟨_, rfl⟩
          rw [hNM] at hsame hnew HNM
          have HSAME := Lib.hid hsame
          have HNEW := Lib.hid hnew
          have HIT : Hid (∀ W, w.grownBy W none → Calls Tryz.prog 67 #[.int .i64 T] W fun e w' => e = .returned (.string (itZ T)) ∧ W.grownBy w' none) := fun W hW => itoaZ_any _ T W htb.1 (by have := htb.2; omega) (HP10.out.grown hW)
          have HOWN := Lib.hid hown
          have HA2 := Lib.hid hA2
          have HLO := Lib.hid hLO
          rw [hLO] at hok
          have hkb : k ≤ 1000000 := by omega
          clear hsame hnew hNM hown hA2 hLO htb
          go_wp2_with fail
          refine HFI.out.mono ?_
          rintro _ w2 ⟨hfr, hg2⟩
          obtain ⟨O, hO⟩ : ∃ O, fndOf l p s T q = O := ⟨_, rfl⟩
          rw [hO] at hfr HNM
          obtain rfl := hfr
          have HNMO := Lib.hid HNM
          clear hO HNM hat
          have hX := Blk.new w2 38 #[.string (O.getD fndZ0).1, .int .i64 (O.getD fndZ0).2.1, .int .i64 (O.getD fndZ0).2.2]
          have hgX := World.grownBy_alloc w2 (.cells #[.string (O.getD fndZ0).1, .int .i64 (O.getD fndZ0).2.1, .int .i64 (O.getD fndZ0).2.2] 38) none
          have hgY := gr_trans hg2 hgX
          go_upto_region 14 with fail
          generalize w2.alloc (.cells #[.string (O.getD fndZ0).1, .int .i64 (O.getD fndZ0).2.1, .int .i64 (O.getD fndZ0).2.2] 38) = w3 at *
          generalize w2.heap.size = gX at *
          have x0 := hX.cell 0
          simp only [List.getElem?_toArray, List.getElem?_cons_zero, List.getElem?_cons_succ] at x0
          have hgw3 := gr_trans hg hgY
          have hg03 := gr_trans hg0 hgY
          have HOW3 := Lib.hid (PairsFrom.grown HOWN.out hgY)
          go_upto_if 61 with fail
          go_cut [15] (fun s wq => s = .string NM ∧ wq = w3)
          case first =>
            rcases O with _ | F
            · have hn : NM = ⟨#[45]⟩ := HNMO.out
              subst hn
              go_wp2_with fail
              go_meet
              exact ⟨rfl, rfl⟩
            · have hn : F.1 = NM := HNMO.out.symm
              have x0' : w3.cell? ⟨gX, 0, none⟩ = some (.string F.1) := x0
              clear x0
              rw [hn] at x0'
              subst hn
              go_wp2_with fail
              go_meet
              exact ⟨rfl, rfl⟩
          case rest =>
            obtain ⟨rfl, rfl⟩ := hcut
            rename World => w3
            clear x0
            go_upto_region 17 with fail
            go_cut [77] (fun s wq => ∃ c : Bool, s = .bool c ∧ Hid (c = false → lastV o = some NM) ∧ Hid (c = true → lastV o ≠ some NM) ∧ wq = w3)
            case first =>
              rcases Nat.eq_zero_or_pos LO with h0 | h0
              · have ho : o = [] := List.eq_nil_of_length_eq_zero (by rw [HLO.out]; exact h0)
                subst h0
                go_wp2_with fail
                go_meet
                exact ⟨true, rfl, (fun h => by cases h), (fun _ => by rw [ho]; simp [lastV_nil]), rfl⟩
              · obtain ⟨LP, hLP⟩ : ∃ LP, LP + 1 = LO := ⟨LO - 1, by omega⟩
                obtain ⟨go, rfl, _, hgol⟩ := HA2.out h0
                have hLPl : LP < o.length := by rw [HLO.out]; omega
                have hrow : PairsFrom b3 w3 (.slice (some ⟨go, 0, none⟩) o.length c2) o := by rw [HLO.out]; exact HOW3.out
                obtain ⟨y0, y1⟩ := hrow.at_ LP hLPl
                clear y0
                have hlv := lastV_at o LP hLPl (by rw [HLO.out]; exact hLP)
                generalize o[LP].2 = LV at *
                have hz : ((LO : Int) == 0) = false := by rw [beq_eq_false_iff_ne]; omega
                have hw1 : IntKind.i64.wrap ((LO : Int) - 1) = (LP : Int) := by rw [IntKind.wrap_i64]; omega
                have hLi : (LP : Int) < (LO : Int) := by omega
                have hL0 : (0 : Int) ≤ (LP : Int) := by omega
                have HLV := Lib.hid hlv
                have HLPP := Lib.hid hLP
                clear hLP hLPl hlv hrow h0
                by_cases he : LV = NM
                · have hb := str_yes he
                  have HE := Lib.hid he
                  clear he
                  go_wp2_with fail
                  go_meet
                  exact ⟨false, rfl, (fun _ => by rw [HLV.out, HE.out]), (fun h => by cases h), rfl⟩
                · have hb := str_no he
                  have HE := Lib.hid he
                  clear he
                  go_wp2_with fail
                  go_meet
                  exact ⟨true, rfl, (fun h => by cases h), (fun _ h => HE.out (by rw [HLV.out] at h; exact Option.some.inj h)), rfl⟩
            case rest =>
              obtain ⟨C, rfl, HC0, HC1, rfl⟩ := hcut
              rename World => w3
              rcases C with _ | _
              · have HN2 : Hid (chgL nm none ed = o ++ chgL nm (lastV o) (ed.drop (k + 1))) := HSAME.out (HC0.out rfl)
                go_wp2_with fail
                go_roundw
                case rel => exact ⟨k + 1, o, by omega, by go_num, HN2, by rw [HLO.out]; omega, HOW3.out, hgw3, hg03⟩
                case measure => simp [intOf]; omega
              · have HN2 : Hid (chgL nm none ed = (o ++ [(T, NM)]) ++ chgL nm (lastV (o ++ [(T, NM)])) (ed.drop (k + 1))) := HNEW.out (HC1.out rfl)
                go_wp2_with fail
                refine (HIT.out _ hgw3).mono ?_
                rintro _ w4 ⟨rfl, hg4⟩
                have hg34 := gr_trans hgw3 hg4
                have hg04 := gr_trans hg03 hg4
                have HOW4 := Lib.hid (PairsFrom.grown HOW3.out hg4)
                have hOWX : Hid (World.ownsRow w4 b3 58 2 (.slice A2 LO c2) LO (o.flatMap encQ)) := by
                  show World.ownsRow _ _ _ _ _ _ _
                  have h := HOW4.out
                  unfold PairsFrom at h
                  rw [HLO.out] at h
                  exact h
                have hb3 : b3 ≤ w4.heap.size := by have := HB3.out; have := hg04.size; omega
                generalize hIT : itZ T = IT at *
                have HITT := Lib.hid hIT
                clear hIT
                go_wp2_with (at_builtin; refine wpList_append_own _ rfl _ _ 43 rfl b3 58 i0 _ 2 32 Tryz.underlying43 hi0 hz0 hz1 hz2 rfl (by decide) _ LO _ rfl (World.ownsRow.alloc hOWX.out _) ⟨_, 0, none⟩ 1 1 [.string IT, .string NM] rfl rfl (pr_cells _ IT NM _) (pr_oneCell IT NM) (by unfold maxLen; omega) (by omega) (by simp; omega) ?_; intro v' w5 hown5 hgr5 _)
                have hrow5 : PairsFrom b3 w5 v' (o ++ [(T, NM)]) := by
                  unfold PairsFrom
                  rw [List.length_append, HLO.out, List.flatMap_append]
                  have : ([(T, NM)] : List (Int × ByteArray)).flatMap encQ = [.string IT, .string NM] := by simp [encQ, HITT.out]
                  rw [this]
                  exact hown5
                have hG5 : w.grownBy w5 none := gr_grown (gr_alloc hg34 _) hgr5 (fun g e => .inr (by have h1 := (hOWX.out.lt g e).1; have := HB3.out; have := HW0.out; omega))
                have hG05 : w0.grownBy w5 none := gr_grown (gr_alloc hg04 _) hgr5 (fun g e => .inr (by have h1 := (hOWX.out.lt g e).1; have := HB3.out; omega))
                go_wp2_with fail
                go_roundw
                case rel => exact ⟨k + 1, o ++ [(T, NM)], by omega, by go_num, HN2, by rw [List.length_append, HLO.out]; simp; omega, hrow5, hG5, hG05⟩
                case measure => simp [intOf]; omega
        · obtain rfl : k = ed.length := by omega
          have hkl : ¬ (ed.length : Int) < (ed.length : Int) := by omega
          have HRE : Hid (chgL nm none ed = o) := by show _ = _; rw [HN.out, chg_end]
          have HOWN := Lib.hid hown
          clear hown hA2
          go_wp2_with fail
          go_ret2
          exact HPOST.out _ hg _ o (ownsRow_low HOWN.out (by have := HB3.out; have := HW0.out; omega)) HRE.out
  · have hE1 : (E != 0) = true := by simpa using hE0
    have HOE : Hid (chgE l p s = E) := by show _ = _; unfold chgE; rw [HE.out, if_pos hE0]
    have HE0 := Lib.hid hE0
    clear hE0
    go_wp2_with fail
    go_ret2
    exact ⟨_, [], by rw [HOE.out]; rfl, PairsFrom.nil _ _, fun _ => rfl, fun h => absurd (HOE.out.symm.trans h) HE0.out, hg2⟩
end Go.Proofs.YtbpkfkbbkgdlaaaGreatDoor
