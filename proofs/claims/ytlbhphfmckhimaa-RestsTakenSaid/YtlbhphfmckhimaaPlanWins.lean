/- The walk over the planner's windows: those that are read off the tables. Condition: the tables lie in memory, and so many seconds can be had. -/
import Derived.Test.YtlbhphfmckhimaaPlanFill
import Derived.Test.YtlbhphfmckhimaaPairs
namespace Go.Proofs.Ytlbhphfmckhimaa
open Go.RowKit
set_option linter.unusedVariables false
set_option linter.unusedSimpArgs false

structure PlanAt (w : World) (pB gm cm gO gI N n L : Nat) (S : Nat → Prop) (M : Nat → Int) : Prop where
  pl : Blk w pB 71 (PlCells gm cm gO gI N L)
  mn : ManyF w gm N M
  tbo : TabF w gO N 0 S (outT n L M)
  tbi : TabF w gI N 0 S (inT n L M)
theorem PlanAt.grown {w w' : World} {pB gm cm gO gI N n L : Nat} {S : Nat → Prop} {M : Nat → Int} (h : PlanAt w pB gm cm gO gI N n L S M) (hg : w.grownBy w' none) : PlanAt w' pB gm cm gO gI N n L S M :=
  ⟨h.pl.grown hg (by simp), h.mn.grown hg (by simp), h.tbo.quiet hg, h.tbi.quiet hg⟩
def winsI (l : List (Nat × Nat)) : List (Int × Int) := l.map fun p => ((p.1 : Int), (p.2 : Int))
theorem inEnd_ge (n L : Nat) (M : Nat → Int) : ∀ (left t : Nat), t ≤ (inEnd n L M left t).1
  | 0, t => by simp [inEnd]
  | left + 1, t => by
    unfold inEnd
    split
    · exact Nat.le_refl _
    · have := inEnd_ge n L M left (t + 1)
      omega
theorem winsT_nil0 (n L : Nat) (M : Nat → Int) (d t : Nat) : winsT n L M d t 0 = [] := by
  cases d with
  | zero => rfl
  | succ d => unfold winsT; rw [if_pos rfl]
set_option maxRecDepth 100000 in
set_option maxHeartbeats 16000000 in
theorem windows_ok (pB gm cm gO gI N n L left0 : Nat) (S : Nat → Prop) (M : Nat → Int) (w : World) (hP : PlanAt w pB gm cm gO gI N n L S M)
    (hn : N = n + 1) (hN : N ≤ 500) (hL : 0 < L) (hL2 : L ≤ 100000) (hM : Rise n M) (hMb : ∀ k, k < N → 0 ≤ M k ∧ M k ≤ 2000) (hc : Can n L M 0 left0) (hl : left0 < N) :
    Calls Try.prog 37 #[.pointer (some ⟨pB, 0, none⟩), .int .i64 left0] w fun r w' => ∃ u, r = .returned u ∧ WinsFrom w.heap.size w' u (winsI (winsT n L M (n + 2) 0 left0)) ∧ w.grownBy w' none := by
  obtain ⟨i0, hi, hz0, hz1, hz2⟩ := info_parts winInfo
  have HBD : Hid (∀ u v, u ≤ n → CoSm (outT n L M u v) ∧ CoSm (inT n L M u v)) := fun u v hu => by
    obtain ⟨h1, h2⟩ := cost_bd' (L := L) hL hM hu v
    have h3 := hMb u (by omega)
    have h4 := hMb n (by omega)
    unfold CoBd at h1 h2
    unfold CoSm
    omega
  have HBG : Hid (∀ W t left, PlanAt W pB gm cm gO gI N n L S M → t ≤ n → left < N → Calls Try.prog 54 #[.pointer (some ⟨pB, 0, none⟩), .int .i64 (t : Nat), .int .i64 (left : Nat)] W fun r w' => r = .returned (.agg #[.int .i64 (begT n L M t left).1, .int .i64 (begT n L M t left).2]) ∧ W.grownBy w' none) := fun W t left hW ht hl =>
    begun_ok pB gm cm gO gI N n L 0 S (inT n L M) M t left W hW.pl hW.tbi hW.mn hn (by omega) hL2 ht (by omega) hl (fun u v _ hu => (HBD.out u v hu).2) hMb
  have HEN : Hid (∀ W t left, PlanAt W pB gm cm gO gI N n L S M → t ≤ n → left < N → Calls Try.prog 56 #[.pointer (some ⟨pB, 0, none⟩), .int .i64 (t : Nat), .int .i64 (left : Nat)] W fun r w' => r = .returned (.agg #[.int .i64 (endT n L M t left).1, .int .i64 (endT n L M t left).2]) ∧ W.grownBy w' none) := fun W t left hW ht hl =>
    ended_ok pB gm cm gO gI N n L 0 S (outT n L M) t left W hW.pl hW.tbo hn (by omega) ht (by omega) hl
  have HP := Lib.hid hP
  have HM := Lib.hid hM
  have HN := Lib.hid hn
  have HC := Lib.hid hc
  clear hP hM hMb hc hn
  go_enter Try.func37, Try.ntmps37
  go_wp2_with fail
  go_loopw [1, 5, 6] (fun lv o tv wr => ∃ (d t left : Nat) (acc : List (Int × Int)), lv = .int .i64 left ∧ tv = .int .i64 t ∧ WinsFrom w.heap.size wr o acc ∧ Hid (Can n L M t left) ∧ t ≤ n + 1 ∧ n + 2 ≤ t + d ∧ left < N ∧ acc.length ≤ t ∧ Hid (acc ++ winsI (winsT n L M d t left) = winsI (winsT n L M (n + 2) 0 left0)) ∧ w.grownBy wr none) (fun _ _ tv _ => n + 2 - (intOf tv).toNat)
  case atStart => exact ⟨n + 2, 0, left0, [], rfl, rfl, WinsFrom.nil _ _, HC, by omega, by omega, hl, Nat.le_refl _, rfl, gr_refl _ _⟩
  case round =>
    obtain ⟨d, t, left, acc, rfl, rfl, hown, HCN, ht1, hd, hlN, hal, HACC, hgr⟩ := hrel
    by_cases h0 : left = 0
    · subst h0
      have hfin : acc = winsI (winsT n L M (n + 2) 0 left0) := by rw [← HACC.out, winsT_nil0]; simp [winsI]
      rw [hfin] at hown
      have HOWN := Lib.hid hown
      clear hown hfin
      go_wp2_with fail
      go_ret
      exact ⟨_, rfl, HOWN.out, hgr⟩
    · have hl0 : (left : Int) > 0 := by omega
      have htn : t < n := by
        rcases HCN.out with h | h
        · exact absurd h h0
        · exact h.1
      have htN : t < N := by have := HN.out; omega
      have htNi : (t : Int) < (N : Int) := by omega
      have hlNi : (left : Int) < (N : Int) := by omega
      have hPr := HP.out.grown hgr
      obtain ⟨d', rfl⟩ : ∃ d', d = d' + 1 := ⟨d - 1, by omega⟩
      obtain ⟨b1, hb1⟩ : ∃ z, (begT n L M t left).1 = z := ⟨_, rfl⟩
      obtain ⟨b2, hb2⟩ : ∃ z, (begT n L M t left).2 = z := ⟨_, rfl⟩
      obtain ⟨c1, hc1⟩ : ∃ z, (outT n L M t left).1 = z := ⟨_, rfl⟩
      obtain ⟨c2, hc2⟩ : ∃ z, (outT n L M t left).2 = z := ⟨_, rfl⟩
      obtain ⟨cs, hO1, -, hO3⟩ := hPr.tbo
      obtain ⟨g, rs, k0, -, hG, k1⟩ := hO3 t (Nat.zero_le _) htN
      obtain ⟨k1, k2⟩ := k1 left hlN
      rw [hc1] at k1
      rw [hc2] at k2
      have HB1 := Lib.hid hb1
      have HB2 := Lib.hid hb2
      have HC1 := Lib.hid hc1
      have HC2 := Lib.hid hc2
      have HBW : Hid (∀ W', wr.grownBy W' none → Calls Try.prog 54 #[.pointer (some ⟨pB, 0, none⟩), .int .i64 (t : Nat), .int .i64 (left : Nat)] W' fun r w' => r = .returned (.agg #[.int .i64 b1, .int .i64 b2]) ∧ W'.grownBy w' none) := fun W' hW => by
        rw [← hb1, ← hb2]
        exact HBG.out W' t left (hPr.grown hW) (by omega) hlN
      have KX : Hid (∀ W' : World, wr.grownBy W' none → (W'.cell? ⟨pB, 2, none⟩ = some (.slice (some ⟨gO, 0, none⟩) N N) ∧ W'.cell? ⟨gO, t, none⟩ = some (.slice (some ⟨g, 0, none⟩) N N) ∧ W'.cell? ⟨g, left * 2, none⟩ = some (.int .i64 c1) ∧ W'.cell? ⟨g, left * 2 + 1, none⟩ = some (.int .i64 c2)) ∧ wr.grownBy W' none) := fun W' hW =>
        ⟨⟨(hPr.pl.grown hW (by simp)).cell 2, by rw [(hO1.grown hW (by simp)).cell]; exact k0, by rw [(hG.grown hW (by simp)).cell]; exact k1, by rw [(hG.grown hW (by simp)).cell]; exact k2⟩, hW⟩
      obtain ⟨⟨p2, q0, r0, r1⟩, -⟩ := KX.out wr (gr_refl _ _)
      clear hO1 hO3 k0 hG k1 k2 hb1 hb2 hc1 hc2
      go_upto_region 4 with fail
      go_cut [24] (fun s wq => ∃ q : Bool, s = .bool q ∧ (q = true ↔ ¬ (b1 = c1 ∧ b2 = c2)) ∧ wr.grownBy wq none)
      case first =>
        as_aux_lemma =>
        --A(
          have hway : (c1 = b1 ∧ c2 = b2) ∨ (¬ b1 = c1 ∧ (b1 == c1) = false) ∨ (c1 = b1 ∧ ¬ b2 = c2 ∧ (b2 == c2) = false) := by
            by_cases h1 : c1 = b1
            · by_cases h2 : c2 = b2
              · exact .inl ⟨h1, h2⟩
              · exact .inr (.inr ⟨h1, fun e => h2 e.symm, by rw [beq_eq_false_iff_ne]; exact fun e => h2 e.symm⟩)
            · exact .inr (.inl ⟨fun e => h1 e.symm, by rw [beq_eq_false_iff_ne]; exact fun e => h1 e.symm⟩)
          rcases hway with ⟨rfl, rfl⟩ | ⟨hu1, hu2⟩ | ⟨rfl, hu1, hu2⟩
          all_goals
            go_region_held3 (fun W' => (W'.cell? ⟨pB, 2, none⟩ = some (.slice (some ⟨gO, 0, none⟩) N N) ∧ W'.cell? ⟨gO, t, none⟩ = some (.slice (some ⟨g, 0, none⟩) N N) ∧ W'.cell? ⟨g, left * 2, none⟩ = some (.int .i64 c1) ∧ W'.cell? ⟨g, left * 2 + 1, none⟩ = some (.int .i64 c2)) ∧ wr.grownBy W' none) ((exact KX.out _ (by repeat (first | exact gr_refl _ _ | assumption | refine gr_drew ?_ | refine gr_alloc ?_ _ | refine gr_trans ?_ (by assumption)))))
              (first | (go_at_call 54; refine (HBW.out _ (by repeat (first | exact gr_refl _ _ | assumption | refine gr_drew ?_ | refine gr_alloc ?_ _ | refine gr_trans ?_ (by assumption)))).mono ?_; rintro _ wA ⟨rfl, hgA⟩) | fail)
            all_goals
              go_wp2_with fail
              go_meet
              exact ⟨_, rfl, by simp_all, (by repeat (first | exact gr_refl _ _ | assumption | refine gr_drew ?_ | refine gr_alloc ?_ _ | refine gr_trans ?_ (by assumption)))⟩
          --A)
      case rest =>
        obtain ⟨q, rfl, hq, hg5⟩ := hcut
        rename World => w5
        have hgr5 := gr_trans hgr hg5
        have hown5 := hown.grown hg5
        have hP5 := HP.out.grown hgr5
        clear hgr hown hPr hg5 p2 q0 r0 r1 HBW KX
        have hbo : b1 = c1 ∧ b2 = c2 ↔ begT n L M t left = outT n L M t left := by
          rw [← HB1.out, ← HB2.out, ← HC1.out, ← HC2.out]
          exact ⟨fun h => Prod.ext h.1 h.2, fun h => by rw [h]; exact ⟨rfl, rfl⟩⟩
        cases q with
        | true =>
          have hne : begT n L M t left ≠ outT n L M t left := fun h => (hq.1 rfl) (hbo.2 h)
          obtain ⟨hc2, -⟩ := can_skip hL h0 HCN.out hne
          have HC2' := Lib.hid hc2
          have HA2 : Hid (acc ++ winsI (winsT n L M d' (t + 1) left) = winsI (winsT n L M (n + 2) 0 left0)) := by
            show _ = _
            rw [← HACC.out]
            conv => rhs; unfold winsT
            rw [if_neg h0, if_neg hne]
          clear hq hbo hne hc2
          go_wp2_with fail
          go_roundw
          case rel => exact ⟨d', t + 1, left, acc, rfl, by go_num, hown5, HC2', by omega, by omega, hlN, by omega, HA2, hgr5⟩
          case measure => simp [intOf]; omega
        | false =>
          have heq : begT n L M t left = outT n L M t left := by
            refine hbo.1 ?_
            by_cases h : b1 = c1 ∧ b2 = c2
            · exact h
            · exact absurd (hq.2 h) (by decide)
          obtain ⟨e1, e2, e3, e4, e5, e6, e7, e8⟩ := can_take hL HM.out h0 HCN.out heq
          have HA2 : Hid (winsI (winsT n L M (d' + 1) t left) = ((t : Int), (((inEnd n L M (left - L) (t + L)).1 : Nat) : Int)) :: winsI (winsT n L M d' ((inEnd n L M (left - L) (t + L)).1 + 1) (inEnd n L M (left - L) (t + L)).2)) := by
            show _ = _
            conv => lhs; unfold winsT
            rw [if_neg h0, if_pos heq]
            rfl
          obtain ⟨T, hT⟩ : ∃ T, t + L = T := ⟨_, rfl⟩
          obtain ⟨l1, hl1⟩ : ∃ l1, left - L = l1 := ⟨_, rfl⟩
          have hTi : IntKind.i64.wrap ((t : Int) + (L : Int)) = (T : Int) := by rw [IntKind.wrap_i64]; omega
          have hLi : IntKind.i64.wrap ((left : Int) - (L : Int)) = (l1 : Int) := by rw [IntKind.wrap_i64]; omega
          rw [hT, hl1] at e4 e5 e6 e7 HA2
          have hTt : t + 1 ≤ T ∧ T + l1 = t + left := by omega
          have HE7 := Lib.hid e7
          have HE5 := Lib.hid e5
          have HE6 := Lib.hid e6
          have p1 := hP5.pl.cell 1
          clear hq hbo heq e3 e8 e7 e4 e5 e6 hT hl1 e1 e2
          go_wp2_with fail
          go_loopw [1, 6] (fun lv tv wq => ∃ (m e : Nat), lv = .int .i64 m ∧ tv = .int .i64 e ∧ T ≤ e ∧ e ≤ n ∧ e + m = t + left ∧ Hid (inEnd n L M m e = inEnd n L M l1 T) ∧ w5.grownBy wq none) (fun lv _ _ => (intOf lv).toNat)
          case atStart => exact ⟨l1, T, rfl, rfl, Nat.le_refl _, by have := HE5.out; have := inEnd_ge n L M l1 T; omega, by omega, rfl, gr_refl _ _⟩
          case round =>
            rename World => wq
            obtain ⟨m, e, rfl, rfl, hTe, hen, hem, HIE, hgq⟩ := hrel
            have hmN : m < N := by omega
            have heN : e < N := by have := HN.out; omega
            have hmNi : (m : Int) < (N : Int) := by omega
            have heNi : (e : Int) < (N : Int) := by omega
            have hPq := hP5.grown hgq
            obtain ⟨x1, hx1⟩ : ∃ z, (endT n L M e m).1 = z := ⟨_, rfl⟩
            obtain ⟨x2, hx2⟩ : ∃ z, (endT n L M e m).2 = z := ⟨_, rfl⟩
            obtain ⟨y1, hy1⟩ : ∃ z, (inT n L M e m).1 = z := ⟨_, rfl⟩
            obtain ⟨y2, hy2⟩ : ∃ z, (inT n L M e m).2 = z := ⟨_, rfl⟩
            obtain ⟨ds, hI1, -, hI3⟩ := hPq.tbi
            obtain ⟨g2, rs2, k0, -, hG2, k1⟩ := hI3 e (Nat.zero_le _) heN
            obtain ⟨k1, k2⟩ := k1 m hmN
            rw [hy1] at k1
            rw [hy2] at k2
            have HX1 := Lib.hid hx1
            have HX2 := Lib.hid hx2
            have HY1 := Lib.hid hy1
            have HY2 := Lib.hid hy2
            have HEW : Hid (∀ W', wq.grownBy W' none → Calls Try.prog 56 #[.pointer (some ⟨pB, 0, none⟩), .int .i64 (e : Nat), .int .i64 (m : Nat)] W' fun r w' => r = .returned (.agg #[.int .i64 x1, .int .i64 x2]) ∧ W'.grownBy w' none) := fun W' hW => by
              rw [← hx1, ← hx2]
              exact HEN.out W' e m (hPq.grown hW) hen hmN
            have KY : Hid (∀ W' : World, wq.grownBy W' none → (W'.cell? ⟨pB, 3, none⟩ = some (.slice (some ⟨gI, 0, none⟩) N N) ∧ W'.cell? ⟨gI, e, none⟩ = some (.slice (some ⟨g2, 0, none⟩) N N) ∧ W'.cell? ⟨g2, m * 2, none⟩ = some (.int .i64 y1) ∧ W'.cell? ⟨g2, m * 2 + 1, none⟩ = some (.int .i64 y2)) ∧ wq.grownBy W' none) := fun W' hW =>
              ⟨⟨(hPq.pl.grown hW (by simp)).cell 3, by rw [(hI1.grown hW (by simp)).cell]; exact k0, by rw [(hG2.grown hW (by simp)).cell]; exact k1, by rw [(hG2.grown hW (by simp)).cell]; exact k2⟩, hW⟩
            obtain ⟨⟨p3, q0, r0, r1⟩, -⟩ := KY.out wq (gr_refl _ _)
            clear hI1 hI3 k0 hG2 k1 k2 hx1 hx2 hy1 hy2
            go_upto_region 9 with fail
            go_cut [54] (fun s wz => ∃ q : Bool, s = .bool q ∧ (q = true ↔ ¬ (x1 = y1 ∧ x2 = y2)) ∧ wq.grownBy wz none)
            case first =>
              as_aux_lemma =>
              --A(
                have hway : (y1 = x1 ∧ y2 = x2) ∨ (¬ x1 = y1 ∧ (x1 == y1) = false) ∨ (y1 = x1 ∧ ¬ x2 = y2 ∧ (x2 == y2) = false) := by
                  by_cases h1 : y1 = x1
                  · by_cases h2 : y2 = x2
                    · exact .inl ⟨h1, h2⟩
                    · exact .inr (.inr ⟨h1, fun e => h2 e.symm, by rw [beq_eq_false_iff_ne]; exact fun e => h2 e.symm⟩)
                  · exact .inr (.inl ⟨fun e => h1 e.symm, by rw [beq_eq_false_iff_ne]; exact fun e => h1 e.symm⟩)
                rcases hway with ⟨rfl, rfl⟩ | ⟨hu1, hu2⟩ | ⟨rfl, hu1, hu2⟩
                all_goals
                  go_region_held3 (fun W' => (W'.cell? ⟨pB, 3, none⟩ = some (.slice (some ⟨gI, 0, none⟩) N N) ∧ W'.cell? ⟨gI, e, none⟩ = some (.slice (some ⟨g2, 0, none⟩) N N) ∧ W'.cell? ⟨g2, m * 2, none⟩ = some (.int .i64 y1) ∧ W'.cell? ⟨g2, m * 2 + 1, none⟩ = some (.int .i64 y2)) ∧ wq.grownBy W' none) ((exact KY.out _ (by repeat (first | exact gr_refl _ _ | assumption | refine gr_drew ?_ | refine gr_alloc ?_ _ | refine gr_trans ?_ (by assumption)))))
                    (first | (go_at_call 56; refine (HEW.out _ (by repeat (first | exact gr_refl _ _ | assumption | refine gr_drew ?_ | refine gr_alloc ?_ _ | refine gr_trans ?_ (by assumption)))).mono ?_; rintro _ wA ⟨rfl, hgA⟩) | fail)
                  all_goals
                    go_wp2_with fail
                    go_meet
                    exact ⟨_, rfl, by simp_all, (by repeat (first | exact gr_refl _ _ | assumption | refine gr_drew ?_ | refine gr_alloc ?_ _ | refine gr_trans ?_ (by assumption)))⟩
                --A)
            case rest =>
              obtain ⟨q, rfl, hq, hg6⟩ := hcut
              rename World => w6
              have hgr6 := gr_trans hgq hg6
              clear hgq hg6 p3 q0 r0 r1 HEW KY hPq
              have hbo : x1 = y1 ∧ x2 = y2 ↔ endT n L M e m = inT n L M e m := by
                rw [← HX1.out, ← HX2.out, ← HY1.out, ← HY2.out]
                exact ⟨fun h => Prod.ext h.1 h.2, fun h => by rw [h]; exact ⟨rfl, rfl⟩⟩
              cases q with
              | true =>
                have hne : endT n L M e m ≠ inT n L M e m := fun h => (hq.1 rfl) (hbo.2 h)
                obtain ⟨hm0, hgo⟩ := inEnd_go hne hen
                have hge := inEnd_ge n L M (m - 1) (e + 1)
                rw [← hgo, HIE.out] at hge
                have hen2 : e + 1 ≤ n := by have := HE5.out; omega
                have HIE2 : Hid (inEnd n L M (m - 1) (e + 1) = inEnd n L M l1 T) := by show _ = _; rw [← hgo]; exact HIE.out
                have hmi : IntKind.i64.wrap ((m : Int) - 1) = ((m - 1 : Nat) : Int) := by rw [IntKind.wrap_i64]; omega
                clear hq hbo hne hgo hge
                go_wp2_with fail
                go_roundw
                case rel => exact ⟨m - 1, e + 1, by first | rfl | go_num, by go_num, by omega, hen2, by omega, HIE2, hgr6⟩
                case measure => simp [intOf]; omega
              | false =>
                have heq : endT n L M e m = inT n L M e m := by
                  refine hbo.1 ?_
                  by_cases h : x1 = y1 ∧ x2 = y2
                  · exact h
                  · exact absurd (hq.2 h) (by decide)
                have hst := inEnd_stop heq
                rw [HIE.out] at hst
                have HST := Lib.hid hst
                have hown6 := hown5.grown hgr6
                have hgr7 := gr_trans hgr5 hgr6
                obtain ⟨A2, c2', rfl, hlen2, hsh⟩ := hown6.shape
                have hszr := hgr7.size
                have hA3 : Hid ((acc ++ [((t : Int), (e : Int))]) ++ winsI (winsT n L M d' (e + 1) m) = winsI (winsT n L M (n + 2) 0 left0)) := by
                  show _ = _
                  have h1 := HA2.out
                  rw [hst] at h1
                  rw [← HACC.out, h1]
                  simp
                have HC7 : Hid (Can n L M (e + 1) m) := by
                  have h := HE7.out
                  rw [hst] at h
                  exact h
                have hownA : w6.ownsRow w.heap.size 27 2 (.slice A2 acc.length c2') acc.length (wcells acc) := hown6
                have hacc : acc.length ≤ 500 := by omega
                clear hq hbo heq hst hsh hown5 hown6 HA2
                go_wp2_with (at_builtin; refine wpList_append_own _ rfl _ _ 40 rfl w.heap.size 27 i0 _ 2 16 Try.underlying40 hi hz0 hz1 hz2 rfl (by decide) _ _ _ rfl (hownA.alloc _) ⟨w6.heap.size, 0, none⟩ 1 1 [.int .i64 t, .int .i64 e] rfl rfl (two_cells w6 t e _) (two_oneCell t e) (by unfold maxLen; omega) (by omega) (by simp; omega) ?_; intro v' w8 hownB hgrB _)
                have hg8 : w.grownBy w8 none := gr_grown (gr_alloc hgr7 _) hgrB (fun kk h => .inr (hownA.lt kk h).1)
                have hown8 : WinsFrom w.heap.size w8 v' (acc ++ [((t : Int), (e : Int))]) := by
                  unfold WinsFrom
                  rw [wcells_snoc, List.length_append]
                  exact hownB
                go_wp2_with fail
                go_roundw
                case rel => exact ⟨d', e + 1, m, acc ++ [((t : Int), (e : Int))], rfl, by go_num, hown8, HC7, by omega, by omega, by omega, by simp; omega, hA3, hg8⟩
                case measure => simp [intOf]; omega
end Go.Proofs.Ytlbhphfmckhimaa
