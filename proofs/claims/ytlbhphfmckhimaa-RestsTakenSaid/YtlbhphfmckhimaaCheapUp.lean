/- rate.Cheapest and the reference CheapestOf at all arguments: both hand out the same. Condition: the reference's contests are of at most 24 seconds. -/
import Derived.Test.YtlbhphfmckhimaaCheapAll
import Derived.Test.YtlbhphfmckhimaaCheapRef
namespace Go.Proofs.Ytlbhphfmckhimaa
open Go.RowKit
set_option linter.unusedVariables false

def secs (x : Int) : Nat := (x / 1000).toNat
def chpW (l : List Int) (a z nd ls : Int) : Option Way := if chpE l a z nd ls = 0 then progR (secs (z - a)) (secs ls) (manyM l a) (secs nd) else none
def chpC (l : List Int) (a z nd ls : Int) : Int := match chpW l a z nd ls with | none => 0 | some r => costW (manyM l a) r
def chpB (l : List Int) (a z nd ls : Int) : Bool := (chpW l a z nd ls).isSome
def chpL (l : List Int) (a z nd ls : Int) : List (Int × Int) := match chpW l a z nd ls with | none => [] | some r => scaleW a r
structure ChpOk (l : List Int) (a z nd ls : Int) : Prop where
  t : timesE l a z = 0
  e : needE l a z nd ls = 0
  z_ : z = a + 1000 * (secs (z - a) : Int)
  n_ : nd = 1000 * (secs nd : Int)
  l_ : ls = 1000 * (secs ls : Int)
  a_ : remM a = false
  n0 : 0 < secs (z - a)
  n1 : secs (z - a) ≤ 400
  l0 : 0 < secs ls
  l1 : secs ls ≤ 86400
  nn : secs nd ≤ secs (z - a)
theorem chpE_ok {l : List Int} {a z nd ls : Int} (h : chpE l a z nd ls = 0) : ChpOk l a z nd ls := by
  unfold chpE at h
  by_cases hN : needE l a z nd ls = 0
  · rw [if_pos hN] at h
    have hN2 := hN
    unfold needE at hN2
    obtain ⟨hT, hR⟩ := orE_0' hN2
    have O := timesE_ok hT
    have a0 := O.a0
    have az := O.ato
    obtain ⟨cz, ca, cz2, cn, cl⟩ := cheapE_ok h
    obtain ⟨rn0, rn1, rl0, rl1⟩ : 0 ≤ nd ∧ nd ≤ z - a ∧ 1000 ≤ ls ∧ ls ≤ 86400000 := by
      rcases restsE_cases a z nd ls with h | h
      · exact h.2
      · omega
    have qa := remM_no ca a0
    have qz := remM_no cz2 (by omega)
    have qn := remM_no cn rn0
    have ql := remM_no cl (by omega)
    exact ⟨hT, hN, by unfold secs; omega, by unfold secs; omega, by unfold secs; omega, ca, by unfold secs; omega, by unfold secs; omega, by unfold secs; omega, by unfold secs; omega, by unfold secs; omega⟩
  · rw [if_neg hN] at h
    exact absurd h hN
theorem cheapest_all (base : Nat) (v : Value) (l : List Int) (a z nd ls : Int) (w : World) (hl : IntsFrom base w v l) (hto : -1152921504606846976 ≤ z) (hto2 : z ≤ 1152921504606846976) :
    Calls Try.prog 14 #[v, .agg #[.int .i64 a, .int .i64 z], .agg #[.int .i64 nd, .int .i64 ls]] w fun r w' => ∃ u, r = .returned (.tuple #[u, .int .i64 (chpC l a z nd ls), .bool (chpB l a z nd ls), .int .i64 (chpE l a z nd ls)]) ∧ Wins w' u (chpL l a z nd ls) ∧ w.grownBy w' none := by
  by_cases hE : chpE l a z nd ls = 0
  · have O := chpE_ok hE
    refine (cheapest_ok base v l a z nd ls (secs (z - a)) (secs ls) (secs nd) w hl O.e O.t O.z_ O.n_ O.l_ O.a_ O.n0 O.n1 O.l0 O.l1 O.nn).mono ?_
    intro r w' hp
    rcases hp with ⟨hb, rfl, hg⟩ | ⟨u, best, hb, rfl, hu, hg⟩
    · have hw : chpW l a z nd ls = none := by
        unfold chpW progR
        rw [if_pos hE, hb]
        rfl
      refine ⟨.slice none 0 0, ?_, ?_, hg⟩
      · unfold chpC chpB
        rw [hw, hE]
        rfl
      · unfold chpL
        rw [hw]
        exact WinsFrom.nil _ _
    · have hw : chpW l a z nd ls = some (winsT (secs (z - a)) (secs ls) (manyM l a) (secs (z - a) + 2) 0 best) := by
        unfold chpW progR
        rw [if_pos hE, hb, if_neg (by omega)]
        rfl
      have hc : costW (manyM l a) (winsT (secs (z - a)) (secs ls) (manyM l a) (secs (z - a) + 2) 0 best) = (outT (secs (z - a)) (secs ls) (manyM l a) 0 best).1 := by
        rcases bstTo_ok (n := secs (z - a)) (L := secs ls) (M := manyM l a) (secs nd) (secs (z - a) + 1 - secs nd) with ⟨h1, _⟩ | ⟨j, h1, h2, h3, h4, _⟩
        · omega
        · have hbj : best = secs nd + j := by omega
          rw [hbj]
          exact (winsT_ok O.l0 (manyM_rise l a _) _ 0 _ (can_of (Nat.zero_le _) h3) (by omega) (by omega)).2.2
      refine ⟨u, ?_, ?_, hg⟩
      · unfold chpC chpB
        rw [hw, hE]
        simp only [hc, Option.isSome_some]
      · unfold chpL
        rw [hw]
        exact WinsFrom.low hu
  · have hw : chpW l a z nd ls = none := by unfold chpW; rw [if_neg hE]
    refine (cheapest_bad base v l a z nd ls w hl hto hto2 hE).mono ?_
    rintro r w' ⟨rfl, hg⟩
    refine ⟨.slice none 0 0, ?_, ?_, hg⟩
    · unfold chpC chpB
      rw [hw]
      rfl
    · unfold chpL
      rw [hw]
      exact WinsFrom.nil _ _
theorem cheapestOf_all (base : Nat) (v : Value) (l : List Int) (a z nd ls : Int) (w : World) (hl : IntsFrom base w v l) (hE : chpE l a z nd ls = 0) (hs : z - a ≤ 24000) (ha : a ≤ 1000000) :
    Calls Try.prog 22 #[v, .agg #[.int .i64 a, .int .i64 z], .agg #[.int .i64 nd, .int .i64 ls]] w fun r w' => ∃ u, r = .returned (.tuple #[u, .int .i64 (chpC l a z nd ls), .bool (chpB l a z nd ls)]) ∧ Wins w' u (chpL l a z nd ls) ∧ w.grownBy w' none := by
  have O := chpE_ok hE
  have T := timesE_ok O.t
  have h1 := O.z_
  have h2 := O.l1
  have hM : manyM l a (secs (z - a)) - manyM l a 0 ≤ 2000 := by
    have q1 := cntLt_bd l (a + 1000 * (secs (z - a) : Int))
    have q2 := cntLt_bd l (a + 1000 * ((0 : Nat) : Int))
    have := T.len
    unfold manyM
    omega
  have hr := ref_prog (n := secs (z - a)) (L := secs ls) (M := manyM l a) O.l0 (manyM_rise l a _) hM (secs nd)
  have hw : chpW l a z nd ls = refD (secs (z - a)) (secs ls) (manyM l a) (secs (z - a) + 1) (secs nd) := by
    unfold chpW
    rw [if_pos hE, hr]
  refine (cheapestOf_ok base v l a z nd ls (secs (z - a)) (secs ls) (secs nd) w hl O.z_ O.n_ O.l_ ⟨T.a0, ha⟩ (by omega) O.l0 (by omega) O.nn T.len).mono ?_
  intro r w' hp
  rcases hp with ⟨hb, rfl, hg⟩ | ⟨u, way, hb, rfl, hu, hg⟩
  · rw [hb] at hw
    refine ⟨.slice none 0 0, ?_, ?_, hg⟩
    · unfold chpC chpB
      rw [hw]
      rfl
    · unfold chpL
      rw [hw]
      exact WinsFrom.nil _ _
  · rw [hb] at hw
    refine ⟨u, ?_, ?_, hg⟩
    · unfold chpC chpB
      rw [hw]
      rfl
    · unfold chpL
      rw [hw]
      exact WinsFrom.low hu
end Go.Proofs.Ytlbhphfmckhimaa
