/- Plain law: the reference's search for the cheapest rests finds what is read off the tables. No program in sight. Condition: counts that do not fall, at most 2000. -/
import Derived.Test.YtlbhphfmckhimaaPlanMin
namespace Go.Proofs.Ytlbhphfmckhimaa
set_option linter.unusedVariables false
set_option linter.unusedSimpArgs false

abbrev Way := List (Nat × Nat)
def cmpZ (a b : Int) : Int := if a < b then -1 else if b < a then 1 else 0
def cmpP (p q : Nat × Nat) : Int := if cmpZ p.1 q.1 = 0 then cmpZ p.2 q.2 else cmpZ p.1 q.1
/-- slices.CompareFunc at windows. -/
def cmpW : Way → Way → Int
  | [], [] => 0
  | [], _ :: _ => -1
  | _ :: _, [] => 1
  | p :: r, q :: s => if cmpP p q = 0 then cmpW r s else cmpP p q
/-- How the reference orders its choices. -/
def cmpK (M : Nat → Int) (p q : Way) : Int :=
  if cmpZ (costW M p) (costW M q) = 0 then
    if cmpZ (longW p) (longW q) = 0 then
      if cmpZ p.length q.length = 0 then cmpW p q else cmpZ p.length q.length
    else cmpZ (longW p) (longW q)
  else cmpZ (costW M p) (costW M q)
theorem cmpZ_cases (a b : Int) : (a < b ∧ cmpZ a b = -1) ∨ (a = b ∧ cmpZ a b = 0) ∨ (b < a ∧ cmpZ a b = 1) := by
  unfold cmpZ
  split
  · exact .inl ⟨by assumption, rfl⟩
  · split
    · exact .inr (.inr ⟨by assumption, rfl⟩)
    · exact .inr (.inl ⟨by omega, rfl⟩)
theorem cmpW_le : ∀ (p q : Way), p.length = q.length → (cmpW p q < 0 → leW p q) ∧ (¬ cmpW p q < 0 → leW q p)
  | [], [], _ => ⟨fun _ => trivial, fun _ => trivial⟩
  | [], _ :: _, h => by simp at h
  | _ :: _, [], h => by simp at h
  | (a, b) :: r, (c, d) :: s, h => by
    have ih := cmpW_le r s (by simpa using h)
    unfold cmpW cmpP leW
    simp only
    rcases cmpZ_cases a c with ⟨h1, h2⟩ | ⟨h1, h2⟩ | ⟨h1, h2⟩
    · rw [h2]; simp; omega
    · rw [h2, if_pos rfl]
      have hac : a = c := by omega
      rcases cmpZ_cases b d with ⟨h3, h4⟩ | ⟨h3, h4⟩ | ⟨h3, h4⟩
      · rw [h4]; simp; omega
      · rw [h4, if_pos rfl]
        have hbd : b = d := by omega
        exact ⟨fun h => .inr ⟨hac, .inr ⟨hbd, ih.1 h⟩⟩, fun h => .inr ⟨hac.symm, .inr ⟨hbd.symm, ih.2 h⟩⟩⟩
      · rw [h4]; simp; omega
    · rw [h2]; simp; omega
def kLe (M : Nat → Int) (p q : Way) : Prop :=
  costW M p < costW M q ∨ (costW M p = costW M q ∧ (longW p < longW q ∨ (longW p = longW q ∧ (p.length < q.length ∨ (p.length = q.length ∧ leW p q)))))
theorem kLe_refl (M : Nat → Int) (p : Way) : kLe M p p := .inr ⟨rfl, .inr ⟨rfl, .inr ⟨rfl, by rcases leW_total p p with h | h <;> exact h⟩⟩⟩
theorem kLe_anti {M : Nat → Int} {p q : Way} (h1 : kLe M p q) (h2 : kLe M q p) : p = q := by
  unfold kLe at *
  have : leW p q ∧ leW q p := by
    rcases h1 with h1 | ⟨e1, h1 | ⟨e2, h1 | ⟨e3, h1⟩⟩⟩ <;> rcases h2 with h2 | ⟨f1, h2 | ⟨f2, h2 | ⟨f3, h2⟩⟩⟩ <;> first | omega | exact ⟨h1, h2⟩
  exact leW_anti this.1 this.2
theorem kLe_trans {M : Nat → Int} {p q s : Way} (h1 : kLe M p q) (h2 : kLe M q s) : kLe M p s := by
  unfold kLe at *
  rcases h1 with h1 | ⟨e1, h1 | ⟨e2, h1 | ⟨e3, h1⟩⟩⟩ <;> rcases h2 with h2 | ⟨f1, h2 | ⟨f2, h2 | ⟨f3, h2⟩⟩⟩ <;> first
    | exact .inl (by omega)
    | exact .inr ⟨by omega, .inl (by omega)⟩
    | exact .inr ⟨by omega, .inr ⟨by omega, .inl (by omega)⟩⟩
    | exact .inr ⟨by omega, .inr ⟨by omega, .inr ⟨by omega, leW_trans h1 h2⟩⟩⟩
theorem cmpK_le (M : Nat → Int) (p q : Way) : (cmpK M p q < 0 → kLe M p q) ∧ (¬ cmpK M p q < 0 → kLe M q p) := by
  unfold cmpK kLe
  rcases cmpZ_cases (costW M p) (costW M q) with ⟨h1, h2⟩ | ⟨h1, h2⟩ | ⟨h1, h2⟩
  · rw [h2]; simp; omega
  · rw [h2, if_pos rfl]
    rcases cmpZ_cases (longW p) (longW q) with ⟨h3, h4⟩ | ⟨h3, h4⟩ | ⟨h3, h4⟩
    · rw [h4]; simp; omega
    · rw [h4, if_pos rfl]
      rcases cmpZ_cases p.length q.length with ⟨h5, h6⟩ | ⟨h5, h6⟩ | ⟨h5, h6⟩
      · rw [h6]; simp; omega
      · rw [h6, if_pos rfl]
        have hw := cmpW_le p q (by omega)
        exact ⟨fun h => .inr ⟨h1, .inr ⟨by omega, .inr ⟨by omega, hw.1 h⟩⟩⟩, fun h => .inr ⟨h1.symm, .inr ⟨by omega, .inr ⟨by omega, hw.2 h⟩⟩⟩⟩
      · rw [h6]; simp; omega
    · rw [h4]; simp; omega
  · rw [h2]; simp; omega
theorem kLe_cons {M : Nat → Int} {r s : Way} (h : kLe M r s) (a b : Nat) : kLe M ((a, b) :: r) ((a, b) :: s) := by
  unfold kLe at *
  simp only [costW, longW, List.length_cons]
  rcases h with h | ⟨e1, h | ⟨e2, h | ⟨e3, h⟩⟩⟩
  · exact .inl (by omega)
  · exact .inr ⟨by omega, .inl (by omega)⟩
  · exact .inr ⟨by omega, .inr ⟨by omega, .inl (by omega)⟩⟩
  · exact .inr ⟨by omega, .inr ⟨by omega, .inr ⟨by omega, .inr ⟨rfl, .inr ⟨rfl, h⟩⟩⟩⟩⟩

/-- The better of what stands and of a candidate. -/
def pickR (M : Nat → Int) : Option Way → Option Way → Option Way
  | best, none => best
  | none, some x => some x
  | some b, some x => if cmpK M x b < 0 then some x else some b
mutual
/-- The reference's search: d is how many seconds lie ahead, with one more. -/
def refD (n L : Nat) (M : Nat → Int) (d need : Nat) : Option Way :=
  if need = 0 then some []
  else if d ≤ L then none
  else loopD n L M d need (d - L)
termination_by (2 * d + 1, 0)
def loopD (n L : Nat) (M : Nat → Int) (d need : Nat) : Nat → Option Way
  | 0 => if 0 < d then refD n L M (d - 1) need else none
  | i + 1 => if 0 < d then pickR M (loopD n L M d need i) ((refD n L M (d - (L + i) - 1) (need - (L + i))).map fun r => (n + 1 - d, n + 1 - d + (L + i)) :: r) else none
termination_by i => (2 * d, i)
end
/-- The least of some ways; none: there are none. -/
def IsMin (M : Nat → Int) (S : Way → Prop) : Option Way → Prop
  | none => ∀ l, ¬ S l
  | some p => S p ∧ ∀ l, S l → kLe M p l
theorem isMin_one {M : Nat → Int} {S : Way → Prop} {x y : Option Way} (hx : IsMin M S x) (hy : IsMin M S y) : x = y := by
  cases x with
  | none => cases y with
    | none => rfl
    | some q => exact absurd hy.1 (hx q)
  | some p => cases y with
    | none => exact absurd hx.1 (hy p)
    | some q => rw [kLe_anti (hx.2 q hy.1) (hy.2 p hx.1)]
theorem isMin_same {M : Nat → Int} {S T : Way → Prop} {x : Option Way} (hx : IsMin M S x) (h : ∀ l, S l ↔ T l) : IsMin M T x := by
  cases x with
  | none => exact fun l hl => hx l ((h l).2 hl)
  | some p => exact ⟨(h p).1 hx.1, fun l hl => hx.2 l ((h l).2 hl)⟩
theorem pick_min {M : Nat → Int} {S T : Way → Prop} {x y : Option Way} (hx : IsMin M S x) (hy : IsMin M T y) : IsMin M (fun l => S l ∨ T l) (pickR M x y) := by
  cases y with
  | none =>
    cases x with
    | none => exact fun l h => h.elim (hx l) (hy l)
    | some p => exact ⟨.inl hx.1, fun l h => h.elim (hx.2 l) (fun h => absurd h (hy l))⟩
  | some q =>
    cases x with
    | none => exact ⟨.inr hy.1, fun l h => h.elim (fun h => absurd h (hx l)) (hy.2 l)⟩
    | some p =>
      show IsMin M _ (if cmpK M q p < 0 then some q else some p)
      by_cases h : cmpK M q p < 0
      · rw [if_pos h]
        have hk := (cmpK_le M q p).1 h
        exact ⟨.inr hy.1, fun l h => h.elim (fun h => kLe_trans hk (hx.2 l h)) (hy.2 l)⟩
      · rw [if_neg h]
        have hk := (cmpK_le M q p).2 h
        exact ⟨.inl hx.1, fun l h => h.elim (hx.2 l) (fun h => kLe_trans hk (hy.2 l h))⟩
section
variable {n L : Nat} {M : Nat → Int}
/-- The ways from a second on that are enough. -/
def Enough (n L t need : Nat) (l : Way) : Prop := WinW n L t l ∧ need ≤ longW l
/-- What the loop has seen: those that begin later, or here and end early. -/
def Seen (n L t need i : Nat) (l : Way) : Prop := Enough n L t need l ∧ ∀ b r, l = (t, b) :: r → b < t + (L + i)
theorem costW_bd (hM : Rise n M) (hL : 0 < L) : ∀ (l : Way) (t : Nat), t ≤ n → WinW n L t l → 0 ≤ costW M l ∧ costW M l ≤ M n - M t ∧ longW l ≤ n - t
  | [], t, ht, _ => ⟨Int.le_refl _, by have := hM t n ht (Nat.le_refl _); simp only [costW]; omega, Nat.zero_le _⟩
  | (a, b) :: r, t, ht, h => by
    obtain ⟨q1, q2, q3, q4⟩ := h
    have m1 := hM t a q1 (by omega)
    have m2 := hM a b (by omega) q3
    simp only [costW, longW]
    rcases Nat.lt_or_ge b n with hb | hb
    · have ih := costW_bd hM hL r (b + 1) (by omega) q4
      have m3 := hM b (b + 1) (by omega) (by omega)
      omega
    · rw [wins_none hL q4 (by omega)]
      obtain rfl : b = n := by omega
      simp only [costW, longW]
      omega
theorem nil_least (hL : 0 < L) (hM : Rise n M) {t : Nat} {l : Way} (h : WinW n L t l) : kLe M [] l := by
  cases l with
  | nil => exact kLe_refl M []
  | cons p r =>
    obtain ⟨a, b⟩ := p
    have ht : t ≤ n := by have := h.1; have := h.2.1; have := h.2.2.1; omega
    have hc := costW_bd hM hL ((a, b) :: r) t ht h
    have h2 := h.2.1
    unfold kLe
    simp only [costW, longW] at hc ⊢
    omega
theorem refD_min (hL : 0 < L) (hM : Rise n M) : ∀ (k : Nat),
    (∀ d need, 2 * d + 1 ≤ k → d ≤ n + 1 → IsMin M (Enough n L (n + 1 - d) need) (refD n L M d need)) ∧
    (∀ d need i, 2 * d ≤ k → d ≤ n + 1 → 0 < d → need ≠ 0 → i ≤ d - L → IsMin M (Seen n L (n + 1 - d) need i) (loopD n L M d need i))
  | 0 => ⟨fun d need h => by omega, fun d need i h => by omega⟩
  | k + 1 => by
    obtain ⟨ih1, ih2⟩ := refD_min hL hM k
    refine ⟨fun d need hd hdn => ?_, fun d need i hd hdn hd0 hn0 hi => ?_⟩
    · rw [refD]
      by_cases h0 : need = 0
      · rw [if_pos h0]
        refine ⟨⟨trivial, by omega⟩, fun l hl => ?_⟩
        exact nil_least hL hM hl.1
      · rw [if_neg h0]
        by_cases hdL : d ≤ L
        · rw [if_pos hdL]
          rintro l ⟨h1, h2⟩
          cases l with
          | nil => exact h0 (by simpa [longW] using h2)
          | cons p r =>
            obtain ⟨a, b⟩ := p
            obtain ⟨q1, q2, q3, _⟩ := h1
            omega
        · rw [if_neg hdL]
          refine isMin_same (ih2 d need (d - L) (by omega) hdn (by omega) h0 (Nat.le_refl _)) fun l => ?_
          constructor
          · exact fun h => h.1
          · rintro ⟨h1, h2⟩
            refine ⟨⟨h1, h2⟩, fun b r hl => ?_⟩
            subst hl
            have := h1.2.2.1
            omega
    · induction i with
      | zero =>
        rw [loopD, if_pos hd0]
        refine isMin_same (ih1 (d - 1) need (by omega) (by omega)) fun l => ?_
        constructor
        · rintro ⟨h1, h2⟩
          refine ⟨⟨h1.low (by omega), h2⟩, fun b r hl => ?_⟩
          subst hl
          have := h1.1
          omega
        · rintro ⟨⟨h1, h2⟩, h3⟩
          refine ⟨?_, h2⟩
          cases l with
          | nil => trivial
          | cons p r =>
            obtain ⟨a, b⟩ := p
            obtain ⟨q1, q2, q3, q4⟩ := h1
            refine ⟨?_, q2, q3, q4⟩
            rcases (by omega : a = n + 1 - d ∨ n + 1 - (d - 1) ≤ a) with rfl | h
            · have := h3 b r rfl
              omega
            · exact h
      | succ i ihi =>
        rw [loopD, if_pos hd0]
        have hrec := ih1 (d - (L + i) - 1) (need - (L + i)) (by omega) (by omega)
        have hT : IsMin M (fun l => ∃ r, l = (n + 1 - d, n + 1 - d + (L + i)) :: r ∧ Enough n L (n + 1 - d + (L + i) + 1) (need - (L + i)) r)
            ((refD n L M (d - (L + i) - 1) (need - (L + i))).map fun r => (n + 1 - d, n + 1 - d + (L + i)) :: r) := by
          rw [show n + 1 - (d - (L + i) - 1) = n + 1 - d + (L + i) + 1 by omega] at hrec
          generalize refD n L M (d - (L + i) - 1) (need - (L + i)) = x at *
          cases x with
          | none => rintro l ⟨r, rfl, h⟩; exact hrec r h
          | some p =>
            refine ⟨⟨p, rfl, hrec.1⟩, ?_⟩
            rintro l ⟨r, rfl, h⟩
            exact kLe_cons (hrec.2 r h) _ _
        refine isMin_same (pick_min (ihi (by omega)) hT) fun l => ?_
        constructor
        · rintro (⟨h1, h2⟩ | ⟨r, rfl, h1, h2⟩)
          · exact ⟨h1, fun b r hl => by have := h2 b r hl; omega⟩
          · refine ⟨⟨⟨Nat.le_refl _, by omega, by omega, h1⟩, by simp only [longW]; omega⟩, fun b r' hl => ?_⟩
            injection hl with h3 _
            injection h3 with _ h3
            omega
        · rintro ⟨⟨h1, h2⟩, h3⟩
          by_cases hf : ∃ r, l = (n + 1 - d, n + 1 - d + (L + i)) :: r
          · obtain ⟨r, rfl⟩ := hf
            obtain ⟨q1, q2, q3, q4⟩ := h1
            refine .inr ⟨r, rfl, q4, ?_⟩
            simp only [longW] at h2
            omega
          · refine .inl ⟨⟨h1, h2⟩, fun b r hl => ?_⟩
            have h4 := h3 b r hl
            have : b ≠ n + 1 - d + (L + i) := fun e => hf ⟨r, by rw [hl, e]⟩
            omega
/-- What the program hands out. -/
def progR (n L : Nat) (M : Nat → Int) (need : Nat) : Option Way :=
  if bstTo n L M need (n + 1 - need) < 0 then none else some (winsT n L M (n + 2) 0 (bstTo n L M need (n + 1 - need)).toNat)
theorem progR_min (hL : 0 < L) (hM : Rise n M) (hb : M n - M 0 ≤ 2000) (need : Nat) : IsMin M (Enough n L 0 need) (progR n L M need) := by
  have hlow : ∀ l, Enough n L 0 need l → need ≤ longW l ∧ longW l ≤ n ∧ leC (outT n L M 0 (longW l)) (costW M l, (l.length : Int)) ∧ costW M l ≤ 2000 := fun l hl => by
    have h1 := costW_bd hM hL l 0 (Nat.zero_le _) hl.1
    exact ⟨hl.2, by omega, out_low hL l 0 (Nat.zero_le _) hl.1, by omega⟩
  unfold progR
  rcases bstTo_ok (n := n) (L := L) (M := M) need (n + 1 - need) with ⟨h1, h2⟩ | ⟨j, h1, h2, h3, h4, h5⟩
  · rw [h1, if_pos (by decide)]
    intro l hl
    obtain ⟨q1, q2, q3, q4⟩ := hlow l hl
    have := h2 (longW l - need) (by omega)
    rw [show need + (longW l - need) = longW l by omega] at this
    unfold leC at q3
    simp only at q3
    omega
  · rw [h2, if_neg (by omega), show (((need + j : Nat) : Int)).toNat = need + j by omega]
    have hc := can_of (n := n) (L := L) (M := M) (t := 0) (left := need + j) (Nat.zero_le _) h3
    obtain ⟨w1, w2, w3⟩ := winsT_ok hL hM (n + 2) 0 (need + j) hc (by omega) (by omega)
    have w4 := winsT_many hL hM (n + 2) 0 (need + j) hc (by omega) (by omega)
    refine ⟨⟨w1, by omega⟩, fun l hl => ?_⟩
    obtain ⟨q1, q2, q3, q4⟩ := hlow l hl
    have h6 := h4 (longW l - need) (by omega)
    rw [show need + (longW l - need) = longW l by omega] at h6
    have h7 : longW l < need + j → (outT n L M 0 (need + j)).1 < (outT n L M 0 (longW l)).1 := fun h => by
      have := h5 (longW l - need) (by omega)
      rwa [show need + (longW l - need) = longW l by omega] at this
    have hcost : (outT n L M 0 (longW l)).1 ≤ costW M l := by unfold leC at q3; simp only at q3; omega
    unfold kLe
    rw [w3, w2]
    by_cases c1 : (outT n L M 0 (need + j)).1 < costW M l
    · exact .inl c1
    have hge : need + j ≤ longW l := by
      rcases Nat.lt_or_ge (longW l) (need + j) with h | h
      · have := h7 h; omega
      · exact h
    refine .inr ⟨by omega, ?_⟩
    by_cases c2 : need + j < longW l
    · exact .inl c2
    have e : longW l = need + j := by omega
    refine .inr ⟨e.symm, ?_⟩
    rw [e] at q3 hcost
    unfold leC at q3
    simp only at q3
    by_cases c3 : (winsT n L M (n + 2) 0 (need + j)).length < l.length
    · exact .inl c3
    refine .inr ⟨by omega, winsT_lex hL hM (n + 2) 0 (need + j) hc (by omega) (by omega) l hl.1 e ?_⟩
    apply Prod.ext
    · simp only; omega
    · simp only; omega
theorem ref_prog (hL : 0 < L) (hM : Rise n M) (hb : M n - M 0 ≤ 2000) (need : Nat) : refD n L M (n + 1) need = progR n L M need := by
  have h := (refD_min (n := n) (M := M) hL hM (2 * (n + 1) + 1)).1 (n + 1) need (Nat.le_refl _) (Nat.le_refl _)
  rw [show n + 1 - (n + 1) = 0 by omega] at h
  exact isMin_one h (progR_min hL hM hb need)
end
end Go.Proofs.Ytlbhphfmckhimaa
