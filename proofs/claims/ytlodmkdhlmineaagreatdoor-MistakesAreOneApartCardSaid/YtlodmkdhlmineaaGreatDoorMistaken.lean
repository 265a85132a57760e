/- The walk over key.Mistaken. Condition: what can be said, of at most 10 bytes, without a blank; asciiSpace is Go's own table, MaxLen holds a number. -/
import Derived.Test.YtlodmkdhlmineaaGreatDoorLevW
import Derived.Test.YtlodmkdhlmineaaGreatDoorSaidPlain
import Derived.Test.YtlodmkdhlmineaaGreatDoorIsCall
import Derived.Deep.AppendLies
import Derived.Deep.RegionHeld3
namespace Go.Proofs.YtlodmkdhlmineaaGreatDoor
open Go.RowKit
set_option linter.unusedVariables false
set_option linter.unusedSimpArgs false

/-- The string with another sign at a place. -/
def swapS (l : List UInt8) (k : Nat) (x : UInt8) : ByteArray := strB (l.take k ++ x :: l.drop (k + 1))
def mistIn (l : List UInt8) (k : Nat) (ps : List (UInt8 × List UInt8)) : List ByteArray := (ps.filter fun p => decide (levL (codeOf (l.getD k 0)) p.2 = 1)).map fun p => swapS l k p.1
def mistTo (l : List UInt8) : Nat → List ByteArray
  | 0 => []
  | k + 1 => mistTo l k ++ mistIn l k codeT
theorem mistIn_snoc (l : List UInt8) (k j : Nat) (h : j < codeT.length) : mistIn l k (codeT.take (j + 1)) = mistIn l k (codeT.take j) ++ (if levL (codeOf (l.getD k 0)) codeT[j].2 = 1 then [swapS l k codeT[j].1] else []) := by
  unfold mistIn
  rw [List.take_succ_eq_append_getElem h, List.filter_append, List.map_append]
  congr 1
  by_cases hh : levL (codeOf (l.getD k 0)) codeT[j].2 = 1
  · rw [if_pos hh, List.filter_cons_of_pos (by rw [decide_eq_true_eq]; exact hh), List.filter_nil]; rfl
  · rw [if_neg hh, List.filter_cons_of_neg (by rw [decide_eq_true_eq]; exact hh), List.filter_nil]; rfl
theorem mistIn_len (l : List UInt8) (k j : Nat) : (mistIn l k (codeT.take j)).length ≤ 40 := by
  unfold mistIn
  rw [List.length_map]
  have h1 := List.length_filter_le (fun p : UInt8 × List UInt8 => decide (levL (codeOf (l.getD k 0)) p.2 = 1)) (codeT.take j)
  have h2 : (codeT.take j).length ≤ 40 := by rw [List.length_take, codeT_len]; omega
  omega
theorem mistTo_len (l : List UInt8) (k : Nat) : (mistTo l k).length ≤ 40 * k := by
  induction k with
  | zero => simp [mistTo]
  | succ k ih =>
    have := mistIn_len l k 40
    rw [show codeT.take 40 = codeT from List.take_of_length_le (by rw [codeT_len]; omega)] at this
    unfold mistTo
    rw [List.length_append]
    omega
theorem mist_mem {l : List UInt8} {n : Nat} {u : ByteArray} (h : u ∈ mistTo l n) : ∃ k x, k < n ∧ x ∈ oneOff (l.getD k 0) ∧ u = swapS l k x := by
  induction n with
  | zero => cases h
  | succ n ih =>
    unfold mistTo at h
    rcases List.mem_append.1 h with h | h
    · obtain ⟨k, x, h1, h2, h3⟩ := ih h
      exact ⟨k, x, by omega, h2, h3⟩
    · obtain ⟨p, hp, rfl⟩ := List.mem_map.1 h
      exact ⟨n, p.1, by omega, List.mem_map.2 ⟨p, hp, rfl⟩, rfl⟩
theorem mist_one {l : List UInt8} {n : Nat} (h0 : 0 < n) (h : oneOff (l.getD 0 0) ≠ []) : mistTo l n ≠ [] := by
  have h1 : mistIn l 0 codeT ≠ [] := by
    intro e
    apply h
    unfold mistIn at e
    unfold oneOff
    rw [List.map_eq_nil_iff] at e ⊢
    exact e
  have key : ∀ n, mistTo l (n + 1) ≠ [] := fun n => by
    induction n with
    | zero =>
      show [] ++ mistIn l 0 codeT ≠ []
      rw [List.nil_append]; exact h1
    | succ n ih =>
      intro e
      have e2 : mistTo l (n + 1) ++ mistIn l (n + 1) codeT = [] := e
      exact ih (List.append_eq_nil_iff.1 e2).1
  obtain ⟨m, rfl⟩ : ∃ m, n = m + 1 := ⟨n - 1, by omega⟩
  exact key m
/-- With another sign at one place it is one step away. -/
theorem mist_steps {l : List UInt8} {k : Nat} {x : UInt8} (hk : k < l.length) (hc : codeOf (l.getD k 0) ≠ []) (hx : x ∈ oneOff (l.getD k 0)) : stepsL l (swapS l k x).data.toList = 1 := by
  have hne := (oneOff_ok hc).2 x hx
  have e : l = l.take k ++ l.getD k 0 :: l.drop (k + 1) := by
    rw [List.getD_eq_getElem?_getD, List.getElem?_eq_getElem hk]
    show l = l.take k ++ l[k] :: l.drop (k + 1)
    rw [← List.drop_eq_getElem_cons hk, List.take_append_drop]
  have h := stepsL_one (l.take k) (l.drop (k + 1)) (x := l.getD k 0) (y := x) (fun e => hne e.symm)
  rw [← e] at h
  exact h
theorem swapS_cat (s : ByteArray) (k : Nat) (x : UInt8) : (s.extract 0 k ++ ⟨#[x]⟩) ++ s.extract (k + 1) s.size = swapS s.data.toList k x := by
  unfold swapS
  have e1 : s.extract 0 k = strB (s.data.toList.take k) := by rw [← ext_take]; rfl
  have e2 : s.extract (k + 1) s.size = strB (s.data.toList.drop (k + 1)) := by rw [← ext_drop]; rfl
  rw [e1, e2, show (⟨#[x]⟩ : ByteArray) = strB [x] from rfl, strB_app, strB_app]
  simp
set_option maxRecDepth 100000 in
set_option maxHeartbeats 8000000 in
theorem mistaken_ok (b : Nat) (s : ByteArray) (w : World) (hgl : Gl b w) (h0 : saidE s = 0) (h10 : s.size ≤ 10) (h32 : Lib.indexByte s.data.toList 32 = -1) :
    Calls Tryz.prog 29 #[.string s] w fun e w' => ∃ v, e = .returned (.tuple #[v, .int .i64 0]) ∧ StrsFrom w.heap.size w' v (mistTo s.data.toList s.size) ∧ w.grownBy w' none := by
  have HGL := Lib.hid hgl
  have HCK := Lib.hid (checkSaid_any b s w hgl (by omega))
  rw [h0] at HCK
  have HCO : Hid (∀ W, Calls Tryz.prog 79 #[.string s, .string ⟨#[32]⟩] W fun e w' => e = .returned (.bool false) ∧ w' = W) := fun W => by
    have h := Tryz.strings_Contains_one s 32 W
    rw [h32] at h
    exact h
  obtain ⟨i0, hi, hz0, hz1, hz2⟩ := info_parts strInfo
  have h10i : ¬ (10 : Int) < (s.size : Int) := by omega
  clear hgl h0 h32
  go_enter Tryz.func29, Tryz.ntmps29
  go_wp2_with fail
  refine HCK.out.mono ?_
  rintro _ w1 ⟨rfl, hg1⟩
  go_wp2_with fail
  refine (HCO.out _).mono ?_
  rintro _ _ ⟨rfl, rfl⟩
  go_wp2_with fail
  refine (byBytes_any b _ (HGL.out.quiet hg1)).mono ?_
  rintro _ w2 ⟨bm, rfl, hbm, hmap, hg2⟩
  have hG2 := gr_trans hg1 hg2
  have HM := Lib.hid hmap
  clear hmap hg1 hg2
  go_wp2_with fail
  go_loopw [6, 23] (fun o i wr => ∃ (k n : Nat), k ≤ s.size ∧ i = .int .i64 k ∧ n ≤ 40 * k ∧ wr.ownsRow w2.heap.size 9 1 o n ((mistTo s.data.toList k).map Value.string) ∧ w2.grownBy wr none) (fun _ i _ => s.size - (intOf i).toNat)
  case atStart => exact ⟨0, 0, by omega, rfl, by omega, World.ownsRow_nil _ _ _ _, gr_refl _ _⟩
  case round =>
    obtain ⟨k, n, hk, rfl, hn, hown, hgr⟩ := hrel
    rename World => wo
    by_cases hlt : k < s.size
    · have hki : (k : Int) < (s.size : Int) := by omega
      go_wp2_with fail
      refine (codes_any b _ (HGL.out.quiet (gr_trans hG2 hgr))).mono ?_
      rintro _ w3 ⟨v3, rfl, hv3, hg3⟩
      obtain ⟨A3, c3, rfl, hl3, hA3⟩ := hv3.shape
      obtain ⟨g3, rfl, _, _⟩ := hA3 (by rw [codeT_len]; omega)
      have HV3 := Lib.hid hv3
      rw [codeT_len] at hl3
      have hown3 : w3.ownsRow w2.heap.size 9 1 u6 n ((mistTo s.data.toList k).map Value.string) := ownsRow_grown hown hg3
      have hG3 := gr_trans hgr hg3
      have hszo := hgr.size
      have hcl : (codeT.length : Int) = 40 := by rw [codeT_len]; rfl
      clear hown hgr hg3 hv3 hA3
      go_wp2_with fail
      go_loopw [6, 28] (fun o i wr => ∃ (j m : Nat), j ≤ 40 ∧ i = .int .i64 j ∧ m ≤ n + j ∧ wr.ownsRow w2.heap.size 9 1 o m ((mistTo s.data.toList k ++ mistIn s.data.toList k (codeT.take j)).map Value.string) ∧ Hid (SgnFrom w2.heap.size wr (.slice (some ⟨g3, 0, none⟩) codeT.length c3) codeT) ∧ w2.grownBy wr none) (fun _ i _ => 40 - (intOf i).toNat)
      case atStart => exact ⟨0, n, by omega, rfl, by omega, by rw [show mistIn s.data.toList k (codeT.take 0) = [] from rfl, List.append_nil]; exact hown3, ownsRow_low HV3.out hszo, hG3⟩
      case round =>
        obtain ⟨j, m, hj, rfl, hm, hown, HVx, hgx⟩ := hrel
        rename World => wx
        clear hown3
        by_cases hlj : j < 40
        · have hkj : (j : Int) < 40 := by omega
          have hjl : j < codeT.length := by rw [codeT_len]; exact hlj
          have hkj2 : (j : Int) < (codeT.length : Int) := by omega
          obtain ⟨a0, a1⟩ := HVx.out.at1 j hjl
          have htk := mistIn_snoc s.data.toList k j hjl
          have hkl : k < s.data.toList.length := by simpa using hlt
          have hsk : s.data.toList.getD k 0 = s[k] := by rw [List.getD_eq_getElem?_getD, List.getElem?_eq_getElem hkl]; rfl
          rw [hsk] at htk
          have hyl : (codeT[j].2).length ≤ 6 := codeT_short _ (List.getElem_mem hjl)
          generalize codeT[j].1 = x at *
          generalize codeT[j].2 = y at *
          obtain ⟨sx, hsx⟩ : ∃ t : ByteArray, ⟨#[x]⟩ = t := ⟨_, rfl⟩
          obtain ⟨sy, hsy⟩ : ∃ t : ByteArray, ⟨y.toArray⟩ = t := ⟨_, rfl⟩
          rw [hsx] at a0
          rw [hsy] at a1
          have hcz := codeOf_short s[k]
          have HLV : Hid (∀ W, Calls Tryz.prog 82 #[.string (codeS s[k]), .string sy] W fun e w' => e = .returned (.int .i64 (levL (codeOf s[k]) y : Nat)) ∧ W.grownBy w' none) := fun W => by
            have h := lev_any (codeS s[k]) sy W (by show (codeOf s[k]).toArray.size ≤ 5000; simp; omega) (by rw [← hsy]; show y.toArray.size ≤ 5000; simp; omega)
            rw [← hsy] at h ⊢
            exact h
          have HSX := Lib.hid hsx
          have HTK := Lib.hid htk
          have HOW := Lib.hid hown
          have HCODE : Hid (∀ W : World, w2.grownBy W none → (Instr.lookup 95 (.map (some bm)) (.int .u8 (s[k].toNat : Int)) false).run Tryz.prog W = .ok (.string (codeS s[k])) W) := fun W hW => (HM.out.quiet hW).code s[k]
          have hB := Blk.new wx 100 #[.string sx, .string sy]
          have hGB := World.grownBy_alloc wx (.cells #[.string sx, .string sy] 100) none
          have hG6 := gr_trans hgx hGB
          have hkw : IntKind.i64.wrap (k : Int) = (k : Int) := IntWalk.i64_in _ ⟨by omega, by omega⟩
          have hk0 : (0 : Int) ≤ (k : Int) := by omega
          have hown6 : (wx.alloc (.cells #[.string sx, .string sy] 100)).ownsRow w2.heap.size 9 1 u6 m ((mistTo s.data.toList k ++ mistIn s.data.toList k (codeT.take j)).map Value.string) := ownsRow_grown hown hGB
          have HO6 := Lib.hid hown6
          have LX : Hid (∀ g, u6.ownBlock = some g → g < wx.heap.size) := fun g e => (World.ownsRow.lt hown g e).2
          clear htk hsx hsy hown hown6 hcz hyl
          go_upto_region 16 with fail
          generalize wx.alloc (.cells #[.string sx, .string sy] 100) = w6 at *
          generalize wx.heap.size = X at *
          have b0 : w6.cell? ⟨X, 0, none⟩ = some (.string sx) := hB.cell 0
          have b1 : w6.cell? ⟨X, 1, none⟩ = some (.string sy) := hB.cell 1
          have KX : Hid (∀ W' : World, w6.grownBy W' none → W'.cell? ⟨X, 0, none⟩ = some (.string sx) ∧ W'.cell? ⟨X, 1, none⟩ = some (.string sy) ∧ (Instr.lookup 95 (.map (some bm)) (.int .u8 (s[k].toNat : Int)) false).run Tryz.prog W' = .ok (.string (codeS s[k])) W' ∧ w6.grownBy W' none) := fun W' hW =>
            ⟨(hB.grown hW (by simp)).cell 0, (hB.grown hW (by simp)).cell 1, HCODE.out W' (gr_trans hG6 hW), hW⟩
          have z1 : w6.drew.cell? ⟨X, 1, none⟩ = some (.string sy) := b1
          have z2 := HCODE.out w6.drew (gr_drew hG6)
          obtain ⟨Z, hZ⟩ : ∃ Z : Int, (levL (codeOf s[k]) y : Int) = Z := ⟨_, rfl⟩
          rw [hZ] at HLV
          have HZ := Lib.hid hZ
          clear hZ
          go_region_held3 (fun W' => W'.cell? ⟨X, 0, none⟩ = some (.string sx) ∧ W'.cell? ⟨X, 1, none⟩ = some (.string sy) ∧ (Instr.lookup 95 (.map (some bm)) (.int .u8 (s[k].toNat : Int)) false).run Tryz.prog W' = .ok (.string (codeS s[k])) W' ∧ w6.grownBy W' none)
            ((exact KX.out _ (by repeat (first | exact gr_refl _ _ | assumption | refine gr_drew ?_ | refine gr_alloc ?_ _ | refine gr_trans ?_ (by assumption)))))
            (first | (go_at_call 82; refine (HLV.out _).mono ?_; rintro _ wS ⟨rfl, hgS⟩) | fail)
          all_goals
            have hGS : w6.grownBy wS none := (by repeat (first | exact gr_refl _ _ | assumption | refine gr_drew ?_ | refine gr_alloc ?_ _ | refine gr_trans ?_ (by assumption)))
            have hownS : wS.ownsRow w2.heap.size 9 1 u6 m ((mistTo s.data.toList k ++ mistIn s.data.toList k (codeT.take j)).map Value.string) := ownsRow_grown HO6.out hGS
            have hG7 := gr_trans hgx (gr_trans hGB hGS)
            have hG7b := gr_trans hG6 hGS
            have hsz7 := hG7b.size
            obtain ⟨A6, c6, rfl, hm9, hA6⟩ := ownsRow_shape hownS
            by_cases hZ1 : Z = 1
            · subst hZ1
              have HT2 : Hid (mistIn s.data.toList k (codeT.take (j + 1)) = mistIn s.data.toList k (codeT.take j) ++ [swapS s.data.toList k x]) := by
                show _ = _
                rw [HTK.out, if_pos (by have := HZ.out; omega)]
              have y0 : wS.drew.cell? ⟨X, 0, none⟩ = some (.string sx) := (hB.grown hGS (by simp)).cell 0
              have hkk1 : IntKind.i64.wrap ((k : Int) + 1) = (k : Int) + 1 := IntWalk.i64_in _ ⟨by omega, by omega⟩
              have hkk2 : ((k : Int) + 1).toNat = k + 1 := by omega
              have hkk3 : (k : Int) ≤ (s.size : Int) := by omega
              have hkk4 : (k : Int) + 1 ≤ (s.size : Int) := by omega
              have hkk5 : (0 : Int) ≤ (k : Int) + 1 := by omega
              have hcat := swapS_cat s k x
              rw [show (⟨#[x]⟩ : ByteArray) = sx from HSX.out] at hcat
              obtain ⟨P1, hP1e⟩ : ∃ P, s.extract 0 k = P := ⟨_, rfl⟩
              obtain ⟨P2, hP2e⟩ : ∃ P, s.extract (k + 1) s.size = P := ⟨_, rfl⟩
              have hP1z : P1.size ≤ 10 := by rw [← hP1e]; simp; omega
              have hP2z : P2.size ≤ 10 := by rw [← hP2e]; simp; omega
              have hsxz : sx.size ≤ 1 := by rw [← HSX.out]; exact Nat.le_refl 1
              have hpsx : P1.size + sx.size ≤ 11 := by omega
              have hpsx2 : P1.size + sx.size ≤ 9223372036854775807 := by omega
              have hpsx3 : ¬ 9223372036854775807 < P1.size + sx.size := by omega
              have hpsy : P1.size + sx.size + P2.size ≤ 21 := by omega
              have hpsy2 : P1.size + sx.size + P2.size ≤ 9223372036854775807 := by omega
              have hpsy3 : ¬ 9223372036854775807 < P1.size + sx.size + P2.size := by omega
              have hpsz2 : (P1 ++ sx).size + P2.size ≤ 9223372036854775807 := by rw [ByteArray.size_append]; omega
              have hP1x : (P1 ++ sx).size ≤ 11 := by rw [ByteArray.size_append]; omega
              rw [hP1e, hP2e] at hcat
              have HCAT := Lib.hid hcat
              have HOS := Lib.hid hownS
              clear hcat hownS hA6
              go_wp2_with fail
              have hBS : Blk wS X 100 #[.string sx, .string sy] := hB.grown hGS (by simp)
              have KX17 : Hid (∀ W' : World, Blk W' X 100 #[.string sx, .string sy] → W'.cell? ⟨X, 0, none⟩ = some (.string sx)) := fun W' h => h.cell 0
              go_region_held3 (fun W' => W'.cell? ⟨X, 0, none⟩ = some (.string sx)) ((first | exact KX17.out _ ((hBS.grown (show wS.grownBy _ none from (by repeat (first | exact gr_refl _ _ | assumption | refine gr_alloc ?_ _ | refine gr_drewN ?_ _ | refine gr_drew ?_))) (by simp)).grown hgq (fun e => by have h9 := LX.out _ e.symm; omega)) | exact KX17.out _ (hBS.grown (show wS.grownBy _ none from (by repeat (first | exact gr_refl _ _ | assumption | refine gr_alloc ?_ _ | refine gr_drewN ?_ _ | refine gr_drew ?_))) (by simp)))) ((refine step_append_lies _ (by rfl) (.tmp 41) (.tmp 53) 27 (by rfl) w2.heap.size 9 i0 _ 1 16 Tryz.underlying27 hi hz0 hz1 hz2 rfl (by decide) _ m ((mistTo s.data.toList k ++ mistIn s.data.toList k (codeT.take j)).map Value.string) (by simp [Act.eval]) (World.ownsRow.alloc (show World.ownsRow _ w2.heap.size 9 1 _ m _ from HOS.out) _) ⟨_, 0, none⟩ 1 1 [.string ((P1 ++ sx) ++ P2)] (by simp [Act.eval]) rfl (cells_new _ _ _) (str_one _) (by decide) (by unfold maxLen; omega) (by omega) (by simp; omega) _ rfl ?_; intro gq cap w9 hqq hgq hat hglt))
              have hGa : wS.grownBy (wS.alloc (.cells #[.string (P1 ++ sx ++ P2)] 9)).drew none := gr_drew (World.grownBy_alloc wS _ none)
              have hVa := HVx.out.grown (gr_trans (gr_trans hGB hGS) hGa)
              have hOa := ownsRow_grown HOS.out hGa
              have hV9 := Lib.hid (World.ownsRow.kept hVa hgq (own_apart hVa hOa (by decide)))
              have hG9 : w2.grownBy w9 none := gr_grown (gr_trans hG7 hGa) hgq (fun kk h => .inr (HOS.out.lt kk h).1)
              have hw9 : w9.ownsRow w2.heap.size 9 1 (.slice (some ⟨gq, 0, none⟩) (m + 1) cap) (m + 1) ((mistTo s.data.toList k ++ mistIn s.data.toList k (codeT.take (j + 1))).map Value.string) := by
                rw [HT2.out, ← HCAT.out, ← List.append_assoc, List.map_append]
                exact hqq
              clear hVa hOa
              go_wp2_with fail
              go_roundw
              case rel => exact ⟨j + 1, m + 1, by omega, by go_num, by omega, hw9, hV9.out, hG9⟩
              case measure => simp [intOf]; omega
            · have hZ2 : (Z == 1) = false := by rw [beq_eq_false_iff_ne]; exact hZ1
              have HT2 : Hid (mistIn s.data.toList k (codeT.take (j + 1)) = mistIn s.data.toList k (codeT.take j)) := by
                show _ = _
                rw [HTK.out, if_neg (by have := HZ.out; omega), List.append_nil]
              have HOS := Lib.hid hownS
              clear hownS hA6
              go_wp2_with fail
              go_roundw
              case rel => exact ⟨j + 1, m, by omega, by go_num, by omega, by rw [HT2.out]; exact HOS.out, HVx.out.grown (gr_trans hGB hGS), hG7⟩
              case measure => simp [intOf]; omega
        · have hkj : ¬ (j : Int) < 40 := by omega
          have hfull : codeT.take j = codeT := List.take_of_length_le (by rw [codeT_len]; omega)
          rw [hfull] at hown
          obtain ⟨A6, c6, rfl, hm9, hA6⟩ := ownsRow_shape hown
          have HOS := Lib.hid hown
          have hG7 := hgx
          clear hown hA6 hfull
          go_wp2_with fail
          go_roundw
          case rel => exact ⟨k + 1, m, by omega, by go_num, by omega, HOS.out, hG7⟩
          case measure => simp [intOf]; omega
    · have hki : ¬ (k : Int) < (s.size : Int) := by omega
      obtain rfl : k = s.size := by omega
      have hln := hown.1
      rw [List.length_map, Nat.mul_one] at hln
      obtain ⟨A6, c6, rfl, hm9, hA6⟩ := ownsRow_shape hown
      have HOS := Lib.hid hown
      have HLN := Lib.hid hln
      have hsz := hG2.size
      have hG9 := gr_trans hG2 hgr
      clear hown hA6 hln
      go_wp2_with fail
      go_ret2
      refine ⟨_, rfl, ?_, hG9⟩
      unfold StrsFrom
      rw [HLN.out]
      exact ownsRow_low HOS.out hsz
end Go.Proofs.YtlodmkdhlmineaaGreatDoor
