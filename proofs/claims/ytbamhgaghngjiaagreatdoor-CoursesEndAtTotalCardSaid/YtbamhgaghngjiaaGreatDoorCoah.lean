/- The jm9 jo1 the stream's RightTable, told exactly. Condition: the stream has handed out at most 10^9 numbers. -/
import Derived.Test.YtbamhgaghngjiaaGreatDoorCoag
namespace Go.Proofs.YtbamhgaghngjiaaGreatDoor
open Go.RowKit
set_option linter.unusedVariables false
set_option linter.unusedSimpArgs false

theorem jto : (Tryz.prog.info? 139).map (fun i => (i.zero, i.size, i.bytes)) = some (some (.agg #[.string ⟨#[]⟩, .int .i64 0, .int .i64 0, .int .i64 0, .int .i64 0]), 5, 48) := by kernel_rfl
theorem jt8 : (Tryz.prog.info? 134).map (fun i => (i.zero, i.size, i.bytes)) = some (some (.agg #[.string ⟨#[]⟩, .string ⟨#[]⟩, .int .i64 0, .int .i64 0, .bool false, .int .i64 0]), 6, 64) := by kernel_rfl
theorem jk0 (a : ByteArray) (b c d e : Int) : ∀ u ∈ [Value.string a, .int .i64 b, .int .i64 c, .int .i64 d, .int .i64 e], u.oneCell' = true := by
 intro u hu; simp at hu; rcases hu with rfl | rfl | rfl | rfl | rfl <;> rfl
theorem jla (a b : ByteArray) (c d : Int) (h : Bool) (z : Int) : ∀ u ∈ [Value.string a, .string b, .int .i64 c, .int .i64 d, .bool h, .int .i64 z], u.oneCell' = true := by
 intro u hu; simp at hu; rcases hu with rfl | rfl | rfl | rfl | rfl | rfl <;> rfl
theorem jn4 {base : Nat} {w : World} {g n c : Nat} {l : List Ent} (hn : n = l.length) (K : ByteArray) (C Z a z : Int) (h : w.ownsRow base 139 5 (.slice (some ⟨g, 0, none⟩) (n + 1) c) (n + 1) (l.flatMap jvj ++ [.string K, .int .i64 C, .int .i64 Z, .int .i64 a, .int .i64 z])) : EntsFrom base w (.slice (some ⟨g, 0, none⟩) (n + 1) c) (l ++ [⟨K, C, Z, a, z⟩]) := by
 unfold EntsFrom
 rw [List.length_append, List.flatMap_append, ← hn]
 exact h
theorem jo4 {base : Nat} {w : World} {g n c : Nat} {l : List Pfx} (hn : n = l.length) (B E : ByteArray) (a z : Int) (H : Bool) (Z : Int) (h : w.ownsRow base 134 6 (.slice (some ⟨g, 0, none⟩) (n + 1) c) (n + 1) (l.flatMap ju5 ++ [.string B, .string E, .int .i64 a, .int .i64 z, .bool H, .int .i64 Z])) : PfxsFrom base w (.slice (some ⟨g, 0, none⟩) (n + 1) c) (l ++ [⟨B, E, a, z, H, Z⟩]) := by
 unfold PfxsFrom
 rw [List.length_append, List.flatMap_append, ← hn]
 exact h
theorem jwo {w : World} {g : Nat} (h : Blk w g 9 #[.string ⟨#[97, 108, 97, 110, 100]⟩, .string ⟨#[101, 110, 103, 108, 97, 110, 100]⟩, .string ⟨#[102, 105, 110, 108, 97, 110, 100]⟩, .string ⟨#[115, 119, 97, 122, 105]⟩, .string ⟨#[117, 115, 97]⟩]) (i : Nat) (hi : i < 5) : w.cell? ⟨g, i, none⟩ = some (.string (jn3 i)) := by
 rw [h.cell i]
 rcases (show i = 0 ∨ i = 1 ∨ i = 2 ∨ i = 3 ∨ i = 4 by omega) with rfl | rfl | rfl | rfl | rfl <;> rfl
theorem yu {w : World} {g : Nat} (h : Blk w g 3 #[.int .i64 4, .int .i64 4, .int .i64 4, .int .i64 1, .int .i64 5]) (i : Nat) (hi : i < 5) : w.cell? ⟨g, i, none⟩ = some (.int .i64 (jq8 i)) := by
 rw [h.cell i]
 rcases (show i = 0 ∨ i = 1 ∨ i = 2 ∨ i = 3 ∨ i = 4 by omega) with rfl | rfl | rfl | rfl | rfl <;> rfl
theorem yx {w : World} {g : Nat} (h : Blk w g 3 #[.int .i64 15, .int .i64 14, .int .i64 15, .int .i64 38, .int .i64 5]) (i : Nat) (hi : i < 5) : w.cell? ⟨g, i, none⟩ = some (.int .i64 (jra i)) := by
 rw [h.cell i]
 rcases (show i = 0 ∨ i = 1 ∨ i = 2 ∨ i = 3 ∨ i = 4 by omega) with rfl | rfl | rfl | rfl | rfl <;> rfl
theorem jwh {w : World} {g : Nat} (h : Blk w g 9 #[.string ⟨#[51, 100]⟩, .string ⟨#[51, 100, 97]⟩, .string ⟨#[100, 108]⟩, .string ⟨#[103]⟩, .string ⟨#[107]⟩, .string ⟨#[107, 49]⟩, .string ⟨#[107, 49, 97, 98]⟩, .string ⟨#[107, 52]⟩, .string ⟨#[111, 104]⟩, .string ⟨#[111, 104, 48]⟩, .string ⟨#[111, 104, 50]⟩, .string ⟨#[119]⟩]) (i : Nat) (hi : i < 12) : w.cell? ⟨g, i, none⟩ = some (.string (jcj i)) := by
 rw [h.cell i]
 rcases (show i = 0 ∨ i = 1 ∨ i = 2 ∨ i = 3 ∨ i = 4 ∨ i = 5 ∨ i = 6 ∨ i = 7 ∨ i = 8 ∨ i = 9 ∨ i = 10 ∨ i = 11 by omega) with rfl | rfl | rfl | rfl | rfl | rfl | rfl | rfl | rfl | rfl | rfl | rfl <;> rfl
def mlL : List (UInt8 × List UInt8) := ((((([] ++ [(51, [115, 119, 97, 122, 105])]) ++ [(103, [101, 110, 103, 108, 97, 110, 100])]) ++ [(107, [117, 115, 97])]) ++ [(111, [102, 105, 110, 108, 97, 110, 100])]) ++ [(119, [117, 115, 97])]) ++ [(100, [101, 110, 103, 108, 97, 110, 100])]
theorem jtp (j : Nat) (hj : j < 12) : ∃ h : 0 < (jcj j).size, (⟨(look mlL ((jcj j)[0]'h)).toArray⟩ : ByteArray) = ju6 j := by
 rcases (show j = 0 ∨ j = 1 ∨ j = 2 ∨ j = 3 ∨ j = 4 ∨ j = 5 ∨ j = 6 ∨ j = 7 ∨ j = 8 ∨ j = 9 ∨ j = 10 ∨ j = 11 by omega) with rfl | rfl | rfl | rfl | rfl | rfl | rfl | rfl | rfl | rfl | rfl | rfl <;> exact ⟨by decide, by decide⟩
theorem jfu (j : Nat) (hj : j < 12) : (jcj j).size ≤ 4 ∧ (ju6 j).size ≤ 7 := by
 rcases (show j = 0 ∨ j = 1 ∨ j = 2 ∨ j = 3 ∨ j = 4 ∨ j = 5 ∨ j = 6 ∨ j = 7 ∨ j = 8 ∨ j = 9 ∨ j = 10 ∨ j = 11 by omega) with rfl | rfl | rfl | rfl | rfl | rfl | rfl | rfl | rfl | rfl | rfl | rfl <;> decide
theorem ye {W W' : World} {X : Nat} {t e : TypeId} {cs : Array Value} {base size n : Nat} {v : Value} {xs : List Value} (hb : Blk W X t cs) (h : W.ownsRow base e size v n xs) (he : e ≠ t) (hg : W.grownBy W' (some X)) : W'.ownsRow base e size v n xs := by
 refine h.kept hg ?_
 rcases h.2 with ⟨rfl, _⟩ | ⟨g, cap, cur, rfl, _, hh, _⟩
 ·exact .inl rfl
 refine .inr fun e2 => ?_
 simp only [Value.ownBlock, Option.some.injEq] at e2
 subst e2
 unfold Blk at hb
 rw [hb] at hh
 injection hh with hh
 injection hh with _ h2 _
 exact he h2.symm
theorem SX.cst {base : Nat} {w : World} {b k k' : Nat} {L : List Int} (h : SX base w b L k) (e : k = k') : SX base w b L k' := e ▸ h
theorem jt3 (i : Nat) (hi : i < 5) : (jn3 i).size ≤ 7 := by
 rcases (show i = 0 ∨ i = 1 ∨ i = 2 ∨ i = 3 ∨ i = 4 by omega) with rfl | rfl | rfl | rfl | rfl <;> decide
theorem EntsFrom.low {base base' : Nat} {w : World} {v : Value} {l : List Ent} (h : EntsFrom base w v l) (hb : base' ≤ base) : EntsFrom base' w v l := jq h hb
theorem PfxsFrom.low {base base' : Nat} {w : World} {v : Value} {l : List Pfx} (h : PfxsFrom base w v l) (hb : base' ≤ base) : PfxsFrom base' w v l := jq h hb
def ju9 (l : List Ent) : Prop := ∀ e ∈ l, e.key.size ≤ 7 ∧ 0 ≤ e.a ∧ e.a ≤ 100 ∧ 200 ≤ e.z ∧ e.z ≤ 345686400000
def ju2 (p : List Pfx) : Prop := ∀ x ∈ p, x.beg.size ≤ 4 ∧ x.ent.size ≤ 7 ∧ 0 ≤ x.a ∧ x.a ≤ 345686400000 ∧ 0 ≤ x.z ∧ x.z ≤ 345686400000
theorem jpc (p : List Pfx) (h : ju2 p) : ∀ i, ju2 (rtW p i)
 | 0 => h
 | i + 1 => by
   have ih := jpc p h i
   unfold rtW
   split
   ·exact ih
   rename_i x hx
   split
   ·intro y hy
    rcases List.mem_or_eq_of_mem_set hy with h1 | h1
    ·exact ih y h1
    subst h1
    exact h x (List.mem_of_getElem? hx)
   exact ih
def jvc (base b : Nat) (L : List Int) (k : Nat) (w : World) (e : Ending) (w' : World) : Prop :=
 ∃ (u v : Value) (l : List Ent) (p : List Pfx) (k' : Nat), Hid (jfn L k = (l, p, k')) ∧ e = .returned (.tuple #[u, v]) ∧ EntsFrom w.heap.size w' u l ∧ PfxsFrom w.heap.size w' v p ∧ 1 ≤ l.length ∧ l.length ≤ 6 ∧ p.length ≤ 24 ∧ ju9 l ∧ ju2 p ∧ k ≤ k' ∧ k' ≤ k + 200 ∧ SX base w' b L k' ∧ w.grownBy w' (some b)
set_option maxRecDepth 100000 in
set_option maxHeartbeats 64000000 in
theorem jix (base b : Nat) (L : List Int) (k : Nat) (w : World) (hs : SX base w b L k) (hk : k ≤ 1000000000) :
 Calls Tryz.prog 29 #[.pointer (some ⟨b, 0, none⟩)] w (jvc base b L k w) := by
 have hbase := hs.base
 obtain ⟨i0, hi, hz0, hz1, hz2⟩ := info_parts jto
 obtain ⟨j0, hj, hy0, hy1, hy2⟩ := info_parts jt8
 have hbs := hs.lt
 have HBL := Lib.hid hbs
 have HBASE := Lib.hid hbase
 have hN1 := Blk.new w 9 #[.string ⟨#[97, 108, 97, 110, 100]⟩, .string ⟨#[101, 110, 103, 108, 97, 110, 100]⟩, .string ⟨#[102, 105, 110, 108, 97, 110, 100]⟩, .string ⟨#[115, 119, 97, 122, 105]⟩, .string ⟨#[117, 115, 97]⟩]
 have hs1 := hs.alloc (.cells #[.string ⟨#[97, 108, 97, 110, 100]⟩, .string ⟨#[101, 110, 103, 108, 97, 110, 100]⟩, .string ⟨#[102, 105, 110, 108, 97, 110, 100]⟩, .string ⟨#[115, 119, 97, 122, 105]⟩, .string ⟨#[117, 115, 97]⟩] 9)
 have hG1 := World.grownBy_alloc w (.cells #[.string ⟨#[97, 108, 97, 110, 100]⟩, .string ⟨#[101, 110, 103, 108, 97, 110, 100]⟩, .string ⟨#[102, 105, 110, 108, 97, 110, 100]⟩, .string ⟨#[115, 119, 97, 122, 105]⟩, .string ⟨#[117, 115, 97]⟩] 9) (some b)
 have HB1 : Hid ((w.alloc (.cells #[.string ⟨#[97, 108, 97, 110, 100]⟩, .string ⟨#[101, 110, 103, 108, 97, 110, 100]⟩, .string ⟨#[102, 105, 110, 108, 97, 110, 100]⟩, .string ⟨#[115, 119, 97, 122, 105]⟩, .string ⟨#[117, 115, 97]⟩] 9)).heap.size = w.heap.size + 1) := by show _ = _; simp
 go_enter Tryz.func29, Tryz.ntmps29
 go_wp2_with fail
 generalize w.alloc (.cells #[.string ⟨#[97, 108, 97, 110, 100]⟩, .string ⟨#[101, 110, 103, 108, 97, 110, 100]⟩, .string ⟨#[102, 105, 110, 108, 97, 110, 100]⟩, .string ⟨#[115, 119, 97, 122, 105]⟩, .string ⟨#[117, 115, 97]⟩] 9) = w1 at *
 obtain ⟨gN, hgN⟩ : ∃ x, w.heap.size = x := ⟨_, rfl⟩
 rw [hgN] at hN1 HB1 ⊢
 obtain ⟨b1, hb1⟩ : ∃ x, w1.heap.size = x := ⟨_, rfl⟩
 rw [hb1] at HB1
 have HNB : Hid (gN ≠ b) := by show _ ≠ _; omega
 have HBB : Hid (b < b1) := by show _ < _; have := HB1.out; omega
 have HNB1 : Hid (gN < b1) := by show _ < _; have := HB1.out; omega
 have HB1L : Hid (w.heap.size ≤ b1) := by show _ ≤ _; have := HB1.out; omega
 have HSZ1 : Hid (b1 ≤ w1.heap.size) := by show _ ≤ _; omega
 have HGN := Lib.hid hgN
 clear hb1 hgN hs hbs hbase
 go_loopw [4, 17] (fun ov iv wr => ∃ (i : Nat) (l : List Ent) (P : Nat), i ≤ 5 ∧ iv = .int .i64 i ∧ Hid (rtE L k i = (l, P)) ∧ l.length ≤ i ∧ Hid (ju9 l) ∧ k ≤ P ∧ P ≤ k + 3 * i ∧ EntsFrom b1 wr ov l ∧ SX base wr b L P ∧ Blk wr gN 9 #[.string ⟨#[97, 108, 97, 110, 100]⟩, .string ⟨#[101, 110, 103, 108, 97, 110, 100]⟩, .string ⟨#[102, 105, 110, 108, 97, 110, 100]⟩, .string ⟨#[115, 119, 97, 122, 105]⟩, .string ⟨#[117, 115, 97]⟩] ∧ w.grownBy wr (some b) ∧ b1 ≤ wr.heap.size) (fun _ iv _ => 5 - (intOf iv).toNat)
 case atStart => exact ⟨0, [], k, by omega, rfl, rfl, by simp, (fun e he => by simp at he), by omega, by omega, World.ownsRow_nil _ _ _ _, hs1, hN1, hG1, HSZ1.out⟩
 case round =>
  obtain ⟨i, l, P, hi5', rfl, HRT, hll, HAE, hP0, hP1, hown, hs, hN, hG, hsz⟩ := hrel
  clear hN1 hs1 hG1
  by_cases hi5 : i < 5
  ·have hii : (i : Int) < 5 := by omega
   have hi0 : (0 : Int) ≤ (i : Int) := by omega
   have cN := jwo hN i hi5
   have hnms := jt3 i hi5
   obtain ⟨NM, hNM⟩ : ∃ x, jn3 i = x := ⟨_, rfl⟩
   obtain ⟨CT, hCT⟩ : ∃ x, jq8 i = x := ⟨_, rfl⟩
   obtain ⟨ZN, hZN⟩ : ∃ x, jra i = x := ⟨_, rfl⟩
   rw [hNM] at cN hnms
   have HNM := Lib.hid hNM
   have HCT := Lib.hid hCT
   have HZN := Lib.hid hZN
   clear hNM hCT hZN
   obtain ⟨A2, c2, rfl, _, _⟩ := hown.shape
   obtain ⟨LN, hLN⟩ : ∃ LN, l.length = LN := ⟨_, rfl⟩
   rw [hLN] at hown hll
   (try rw [hLN])
   have HLN := Lib.hid hLN
   clear hLN
   have HSZ := Lib.hid hsz
   go_wp2_with fail
   refine (jac base b L P 8 _ hs (by omega) (by omega) (by omega)).mono ?_
   rintro _ w2 ⟨fl, HF, rfl, hs2, hg2⟩
   replace hown := EntsFrom.other hown hg2 HBB.out
   replace hN := Blk.grown hN hg2 (by have := HNB.out; simpa using this)
   replace hG := ja hG hg2
   have hsz2 := hg2.size
   have HSZ2 : Hid (b1 ≤ w2.heap.size) := by show _ ≤ _; omega
   clear hs hg2 cN hsz2
   cases fl
   ·have hs := hs2
    clear hs2
    have HNXT : Hid (∀ a z : Int, Hid (spA L (P + 1) = a) → Hid (spZ L (P + 1 + 1) = z) → rtE L k (i + 1) = (l ++ [⟨NM, CT, ZN, a, z⟩], P + 1 + 1 + 1)) := fun a z Ha Hz => by
     rw [jug HRT.out HF.out Ha.out Hz.out, HNM.out, HCT.out, HZN.out]
    have HALL2 : Hid (∀ a z : Int, 0 ≤ a → a ≤ 100 → 200 ≤ z → z ≤ 345686400000 → ju9 (l ++ [⟨NM, CT, ZN, a, z⟩])) := fun a z a0 a1 z0 z1 e he => by
     rcases List.mem_append.1 he with h | h
     ·exact HAE.out e h
     simp only [List.mem_singleton] at h
     subst h
     exact ⟨hnms, a0, a1, z0, z1⟩
    as_aux_lemma =>
     go_upto_region 6 with fail
     have HSZ := HSZ2
     have HSZB : Hid (∀ W, w2.drew.grownBy W (some b) → b1 ≤ W.heap.size) := fun W h => by have := h.size; have := HSZ2.out; show b1 ≤ _; exact Nat.le_trans HSZ2.out h.size
     have hGd : w2.drew.grownBy w2.drew (some b) := jf _ _
     replace hs := SX.drew hs
     replace hN := Blk.drew hN
     replace hG := jn hG
     replace hown := EntsFrom.grown hown (jn (jf w2 none))
     refine wp_region_held_drew (S := fun _ => True) (by kernel_rfl) trivial (fun hHeld => ?_)
     generalize w2.drew = W0 at *
     refine tkH 0 25 hHeld ?_
     simp only [Act.put, ssA, ssZ, ssS]
     refine tkH 1 26 hHeld ?_
     simp only [Act.put, ssA, ssZ, ssS]
     refine tkH 3 28 hHeld ?_
     simp only [Act.put, ssA, ssZ, ssS]
     refine tkH 7 32 hHeld ?_
     simp only [Act.put, ssA, ssZ, ssS]
     refine tkH 10 35 hHeld ?_
     simp only [Act.put, ssA, ssZ, ssS]
     refine wpAnyH_ready (rs := [2, 6, 11]) (by kernel_rfl) (by simp) ?_
     refine AllReadyH.cons (o := _) rfl (fun K hK => ?n3) (AllReadyH.cons (o := _) rfl (fun K hK => ?n2) (AllReadyH.cons (o := _) rfl (fun K hK => ?n1) AllReadyH.nil))
     case' n3 =>
      refine qo (by rfl) 4 4 4 1 5 (by rfl) ?_
      have hlgA : b < W0.heap.size := hs.lt
      have hA := Blk.new W0 3 #[.int .i64 4, .int .i64 4, .int .i64 4, .int .i64 1, .int .i64 5]
      replace hs := SX.alloc hs (.cells #[.int .i64 4, .int .i64 4, .int .i64 4, .int .i64 1, .int .i64 5] 3)
      replace hown := EntsFrom.grown hown (World.grownBy_alloc W0 (.cells #[.int .i64 4, .int .i64 4, .int .i64 4, .int .i64 1, .int .i64 5] 3) none)
      replace hN := Blk.alloc hN (.cells #[.int .i64 4, .int .i64 4, .int .i64 4, .int .i64 1, .int .i64 5] 3)
      replace hG := jd hG (.cells #[.int .i64 4, .int .i64 4, .int .i64 4, .int .i64 1, .int .i64 5] 3)
      replace hGd := jd hGd (.cells #[.int .i64 4, .int .i64 4, .int .i64 4, .int .i64 1, .int .i64 5] 3)
      generalize W0.alloc (.cells #[.int .i64 4, .int .i64 4, .int .i64 4, .int .i64 1, .int .i64 5] 3) = W1 at *
      generalize W0.heap.size = gA at *
      refine hK.out _ _ trivial (fun hH2 => ?_)
      clear hK K
      change wpAnyH _ _ _ _ _ _ _ (Act.put _ (some 27) _) _
      (try simp only [Act.put, ssA, ssZ, ssS])
      refine tkH 4 29 hH2 ?_
      simp only [Act.put, ssA, ssZ, ssS]
      refine wpAnyH_ready (rs := [5, 6, 11]) (by kernel_rfl) (by simp) ?_
      refine AllReadyH.cons (o := _) rfl (fun K hK => ?n6) (AllReadyH.cons (o := _) rfl (fun K hK => ?n5) (AllReadyH.cons (o := _) rfl (fun K hK => ?n4) AllReadyH.nil))
      case' n6 =>
       have cA := yu hA i hi5
       rw [HCT.out] at cA
       refine jl (by rfl) (.tmp 29) (by rfl) ⟨gA, i, none⟩ CT (by rfl) cA ?_
       refine hK.out _ _ trivial (fun hH5 => ?_)
       clear hK K
       change wpAnyH _ _ _ _ _ _ _ (Act.put _ (some 30) _) _
       (try simp only [Act.put, ssA, ssZ, ssS])
       refine wpAnyH_ready (rs := [6, 11]) (by kernel_rfl) (by simp) ?_
       refine AllReadyH.cons (o := _) rfl (fun K hK => ?n8) (AllReadyH.cons (o := _) rfl (fun K hK => ?n7) AllReadyH.nil)
       case' n8 =>
        refine qo (by rfl) 15 14 15 38 5 (by rfl) ?_
        have hlgB : b < W1.heap.size := hs.lt
        have hB := Blk.new W1 3 #[.int .i64 15, .int .i64 14, .int .i64 15, .int .i64 38, .int .i64 5]
        replace hs := SX.alloc hs (.cells #[.int .i64 15, .int .i64 14, .int .i64 15, .int .i64 38, .int .i64 5] 3)
        replace hown := EntsFrom.grown hown (World.grownBy_alloc W1 (.cells #[.int .i64 15, .int .i64 14, .int .i64 15, .int .i64 38, .int .i64 5] 3) none)
        replace hN := Blk.alloc hN (.cells #[.int .i64 15, .int .i64 14, .int .i64 15, .int .i64 38, .int .i64 5] 3)
        replace hA := Blk.alloc hA (.cells #[.int .i64 15, .int .i64 14, .int .i64 15, .int .i64 38, .int .i64 5] 3)
        replace hG := jd hG (.cells #[.int .i64 15, .int .i64 14, .int .i64 15, .int .i64 38, .int .i64 5] 3)
        replace hGd := jd hGd (.cells #[.int .i64 15, .int .i64 14, .int .i64 15, .int .i64 38, .int .i64 5] 3)
        generalize W1.alloc (.cells #[.int .i64 15, .int .i64 14, .int .i64 15, .int .i64 38, .int .i64 5] 3) = W3 at *
        generalize W1.heap.size = gB at *
        refine hK.out _ _ trivial (fun hH6 => ?_)
        clear hK K
        change wpAnyH _ _ _ _ _ _ _ (Act.put _ (some 31) _) _
        (try simp only [Act.put, ssA, ssZ, ssS])
        refine tkH 8 33 hH6 ?_
        simp only [Act.put, ssA, ssZ, ssS]
        refine wpAnyH_ready (rs := [9, 11]) (by kernel_rfl) (by simp) ?_
        refine AllReadyH.cons (o := _) rfl (fun K hK => ?n10) (AllReadyH.cons (o := _) rfl (fun K hK => ?n9) AllReadyH.nil)
        case' n10 =>
         have cB := yx hB i hi5
         rw [HZN.out] at cB
         refine jl (by rfl) (.tmp 33) (by rfl) ⟨gB, i, none⟩ ZN (by rfl) cB ?_
         refine hK.out _ _ trivial (fun hH9 => ?_)
         clear hK K
         change wpAnyH _ _ _ _ _ _ _ (Act.put _ (some 34) _) _
         (try simp only [Act.put, ssA, ssZ, ssS])
         refine wpAnyH_ready (rs := [11]) (by kernel_rfl) (by simp) ?_
         refine AllReadyH.cons (o := _) rfl (fun K hK => ?n11) AllReadyH.nil
         case' n11 =>
          refine j8 (by rfl) (.tmp 35) _ (by rfl) (.pointer (some ⟨b, 0, none⟩)) (by rfl) _ (qi base b L (P + 1) _ hs (by omega)) ?_
          rintro _ W5 ⟨a, z, rfl, Ha, Hz, a0, a1, z0, z1, hs2, hg2⟩
          refine ⟨_, rfl, ?_⟩
          replace hown := EntsFrom.other hown hg2 HBB.out
          replace hN := Blk.grown hN hg2 (by have := HNB.out; simpa using this)
          replace hG := ja hG hg2
          replace hGd := ja hGd hg2
          replace hA := Blk.grown hA hg2 (by simp; omega)
          replace hB := Blk.grown hB hg2 (by simp; omega)
          clear hs
          have hs := hs2
          clear hs2 hg2
          refine hK.out _ _ trivial (fun hH11 => ?_)
          clear hK K
          change wpAnyH _ _ _ _ _ _ _ (Act.put _ (some 36) _) _
          (try simp only [Act.put, ssA, ssZ, ssS])
          have hLeaf := hH11
        case' n9 =>
         refine j8 (by rfl) (.tmp 35) _ (by rfl) (.pointer (some ⟨b, 0, none⟩)) (by rfl) _ (qi base b L (P + 1) _ hs (by omega)) ?_
         rintro _ W4 ⟨a, z, rfl, Ha, Hz, a0, a1, z0, z1, hs2, hg2⟩
         refine ⟨_, rfl, ?_⟩
         replace hown := EntsFrom.other hown hg2 HBB.out
         replace hN := Blk.grown hN hg2 (by have := HNB.out; simpa using this)
         replace hG := ja hG hg2
         replace hGd := ja hGd hg2
         replace hA := Blk.grown hA hg2 (by simp; omega)
         replace hB := Blk.grown hB hg2 (by simp; omega)
         clear hs
         have hs := hs2
         clear hs2 hg2
         refine hK.out _ _ trivial (fun hH11 => ?_)
         clear hK K
         change wpAnyH _ _ _ _ _ _ _ (Act.put _ (some 36) _) _
         (try simp only [Act.put, ssA, ssZ, ssS])
         refine wpAnyH_ready (rs := [9]) (by kernel_rfl) (by simp) ?_
         refine AllReadyH.cons (o := _) rfl (fun K hK => ?n12) AllReadyH.nil
         case' n12 =>
          have cB := yx hB i hi5
          rw [HZN.out] at cB
          refine jl (by rfl) (.tmp 33) (by rfl) ⟨gB, i, none⟩ ZN (by rfl) cB ?_
          refine hK.out _ _ trivial (fun hH9 => ?_)
          clear hK K
          change wpAnyH _ _ _ _ _ _ _ (Act.put _ (some 34) _) _
          (try simp only [Act.put, ssA, ssZ, ssS])
          have hLeaf := hH9
       case' n7 =>
        refine j8 (by rfl) (.tmp 35) _ (by rfl) (.pointer (some ⟨b, 0, none⟩)) (by rfl) _ (qi base b L (P + 1) _ hs (by omega)) ?_
        rintro _ W3 ⟨a, z, rfl, Ha, Hz, a0, a1, z0, z1, hs2, hg2⟩
        refine ⟨_, rfl, ?_⟩
        replace hown := EntsFrom.other hown hg2 HBB.out
        replace hN := Blk.grown hN hg2 (by have := HNB.out; simpa using this)
        replace hG := ja hG hg2
        replace hGd := ja hGd hg2
        replace hA := Blk.grown hA hg2 (by simp; omega)
        clear hs
        have hs := hs2
        clear hs2 hg2
        refine hK.out _ _ trivial (fun hH11 => ?_)
        clear hK K
        change wpAnyH _ _ _ _ _ _ _ (Act.put _ (some 36) _) _
        (try simp only [Act.put, ssA, ssZ, ssS])
        refine wpAnyH_ready (rs := [6]) (by kernel_rfl) (by simp) ?_
        refine AllReadyH.cons (o := _) rfl (fun K hK => ?n13) AllReadyH.nil
        case' n13 =>
         refine qo (by rfl) 15 14 15 38 5 (by rfl) ?_
         have hlgB : b < W3.heap.size := hs.lt
         have hB := Blk.new W3 3 #[.int .i64 15, .int .i64 14, .int .i64 15, .int .i64 38, .int .i64 5]
         replace hs := SX.alloc hs (.cells #[.int .i64 15, .int .i64 14, .int .i64 15, .int .i64 38, .int .i64 5] 3)
         replace hown := EntsFrom.grown hown (World.grownBy_alloc W3 (.cells #[.int .i64 15, .int .i64 14, .int .i64 15, .int .i64 38, .int .i64 5] 3) none)
         replace hN := Blk.alloc hN (.cells #[.int .i64 15, .int .i64 14, .int .i64 15, .int .i64 38, .int .i64 5] 3)
         replace hA := Blk.alloc hA (.cells #[.int .i64 15, .int .i64 14, .int .i64 15, .int .i64 38, .int .i64 5] 3)
         replace hG := jd hG (.cells #[.int .i64 15, .int .i64 14, .int .i64 15, .int .i64 38, .int .i64 5] 3)
         replace hGd := jd hGd (.cells #[.int .i64 15, .int .i64 14, .int .i64 15, .int .i64 38, .int .i64 5] 3)
         generalize W3.alloc (.cells #[.int .i64 15, .int .i64 14, .int .i64 15, .int .i64 38, .int .i64 5] 3) = W4 at *
         generalize W3.heap.size = gB at *
         refine hK.out _ _ trivial (fun hH6 => ?_)
         clear hK K
         change wpAnyH _ _ _ _ _ _ _ (Act.put _ (some 31) _) _
         (try simp only [Act.put, ssA, ssZ, ssS])
         refine tkH 8 33 hH6 ?_
         simp only [Act.put, ssA, ssZ, ssS]
         refine wpAnyH_ready (rs := [9]) (by kernel_rfl) (by simp) ?_
         refine AllReadyH.cons (o := _) rfl (fun K hK => ?n14) AllReadyH.nil
         case' n14 =>
          have cB := yx hB i hi5
          rw [HZN.out] at cB
          refine jl (by rfl) (.tmp 33) (by rfl) ⟨gB, i, none⟩ ZN (by rfl) cB ?_
          refine hK.out _ _ trivial (fun hH9 => ?_)
          clear hK K
          change wpAnyH _ _ _ _ _ _ _ (Act.put _ (some 34) _) _
          (try simp only [Act.put, ssA, ssZ, ssS])
          have hLeaf := hH9
      case' n5 =>
       refine qo (by rfl) 15 14 15 38 5 (by rfl) ?_
       have hlgB : b < W1.heap.size := hs.lt
       have hB := Blk.new W1 3 #[.int .i64 15, .int .i64 14, .int .i64 15, .int .i64 38, .int .i64 5]
       replace hs := SX.alloc hs (.cells #[.int .i64 15, .int .i64 14, .int .i64 15, .int .i64 38, .int .i64 5] 3)
       replace hown := EntsFrom.grown hown (World.grownBy_alloc W1 (.cells #[.int .i64 15, .int .i64 14, .int .i64 15, .int .i64 38, .int .i64 5] 3) none)
       replace hN := Blk.alloc hN (.cells #[.int .i64 15, .int .i64 14, .int .i64 15, .int .i64 38, .int .i64 5] 3)
       replace hA := Blk.alloc hA (.cells #[.int .i64 15, .int .i64 14, .int .i64 15, .int .i64 38, .int .i64 5] 3)
       replace hG := jd hG (.cells #[.int .i64 15, .int .i64 14, .int .i64 15, .int .i64 38, .int .i64 5] 3)
       replace hGd := jd hGd (.cells #[.int .i64 15, .int .i64 14, .int .i64 15, .int .i64 38, .int .i64 5] 3)
       generalize W1.alloc (.cells #[.int .i64 15, .int .i64 14, .int .i64 15, .int .i64 38, .int .i64 5] 3) = W2 at *
       generalize W1.heap.size = gB at *
       refine hK.out _ _ trivial (fun hH6 => ?_)
       clear hK K
       change wpAnyH _ _ _ _ _ _ _ (Act.put _ (some 31) _) _
       (try simp only [Act.put, ssA, ssZ, ssS])
       refine tkH 8 33 hH6 ?_
       simp only [Act.put, ssA, ssZ, ssS]
       refine wpAnyH_ready (rs := [5, 9, 11]) (by kernel_rfl) (by simp) ?_
       refine AllReadyH.cons (o := _) rfl (fun K hK => ?n17) (AllReadyH.cons (o := _) rfl (fun K hK => ?n16) (AllReadyH.cons (o := _) rfl (fun K hK => ?n15) AllReadyH.nil))
       case' n17 =>
        have cA := yu hA i hi5
        rw [HCT.out] at cA
        refine jl (by rfl) (.tmp 29) (by rfl) ⟨gA, i, none⟩ CT (by rfl) cA ?_
        refine hK.out _ _ trivial (fun hH5 => ?_)
        clear hK K
        change wpAnyH _ _ _ _ _ _ _ (Act.put _ (some 30) _) _
        (try simp only [Act.put, ssA, ssZ, ssS])
        refine wpAnyH_ready (rs := [9, 11]) (by kernel_rfl) (by simp) ?_
        refine AllReadyH.cons (o := _) rfl (fun K hK => ?n19) (AllReadyH.cons (o := _) rfl (fun K hK => ?n18) AllReadyH.nil)
        case' n19 =>
         have cB := yx hB i hi5
         rw [HZN.out] at cB
         refine jl (by rfl) (.tmp 33) (by rfl) ⟨gB, i, none⟩ ZN (by rfl) cB ?_
         refine hK.out _ _ trivial (fun hH9 => ?_)
         clear hK K
         change wpAnyH _ _ _ _ _ _ _ (Act.put _ (some 34) _) _
         (try simp only [Act.put, ssA, ssZ, ssS])
         refine wpAnyH_ready (rs := [11]) (by kernel_rfl) (by simp) ?_
         refine AllReadyH.cons (o := _) rfl (fun K hK => ?n20) AllReadyH.nil
         case' n20 =>
          refine j8 (by rfl) (.tmp 35) _ (by rfl) (.pointer (some ⟨b, 0, none⟩)) (by rfl) _ (qi base b L (P + 1) _ hs (by omega)) ?_
          rintro _ W5 ⟨a, z, rfl, Ha, Hz, a0, a1, z0, z1, hs2, hg2⟩
          refine ⟨_, rfl, ?_⟩
          replace hown := EntsFrom.other hown hg2 HBB.out
          replace hN := Blk.grown hN hg2 (by have := HNB.out; simpa using this)
          replace hG := ja hG hg2
          replace hGd := ja hGd hg2
          replace hA := Blk.grown hA hg2 (by simp; omega)
          replace hB := Blk.grown hB hg2 (by simp; omega)
          clear hs
          have hs := hs2
          clear hs2 hg2
          refine hK.out _ _ trivial (fun hH11 => ?_)
          clear hK K
          change wpAnyH _ _ _ _ _ _ _ (Act.put _ (some 36) _) _
          (try simp only [Act.put, ssA, ssZ, ssS])
          have hLeaf := hH11
        case' n18 =>
         refine j8 (by rfl) (.tmp 35) _ (by rfl) (.pointer (some ⟨b, 0, none⟩)) (by rfl) _ (qi base b L (P + 1) _ hs (by omega)) ?_
         rintro _ W4 ⟨a, z, rfl, Ha, Hz, a0, a1, z0, z1, hs2, hg2⟩
         refine ⟨_, rfl, ?_⟩
         replace hown := EntsFrom.other hown hg2 HBB.out
         replace hN := Blk.grown hN hg2 (by have := HNB.out; simpa using this)
         replace hG := ja hG hg2
         replace hGd := ja hGd hg2
         replace hA := Blk.grown hA hg2 (by simp; omega)
         replace hB := Blk.grown hB hg2 (by simp; omega)
         clear hs
         have hs := hs2
         clear hs2 hg2
         refine hK.out _ _ trivial (fun hH11 => ?_)
         clear hK K
         change wpAnyH _ _ _ _ _ _ _ (Act.put _ (some 36) _) _
         (try simp only [Act.put, ssA, ssZ, ssS])
         refine wpAnyH_ready (rs := [9]) (by kernel_rfl) (by simp) ?_
         refine AllReadyH.cons (o := _) rfl (fun K hK => ?n21) AllReadyH.nil
         case' n21 =>
          have cB := yx hB i hi5
          rw [HZN.out] at cB
          refine jl (by rfl) (.tmp 33) (by rfl) ⟨gB, i, none⟩ ZN (by rfl) cB ?_
          refine hK.out _ _ trivial (fun hH9 => ?_)
          clear hK K
          change wpAnyH _ _ _ _ _ _ _ (Act.put _ (some 34) _) _
          (try simp only [Act.put, ssA, ssZ, ssS])
          have hLeaf := hH9
       case' n16 =>
        have cB := yx hB i hi5
        rw [HZN.out] at cB
        refine jl (by rfl) (.tmp 33) (by rfl) ⟨gB, i, none⟩ ZN (by rfl) cB ?_
        refine hK.out _ _ trivial (fun hH9 => ?_)
        clear hK K
        change wpAnyH _ _ _ _ _ _ _ (Act.put _ (some 34) _) _
        (try simp only [Act.put, ssA, ssZ, ssS])
        refine wpAnyH_ready (rs := [5, 11]) (by kernel_rfl) (by simp) ?_
        refine AllReadyH.cons (o := _) rfl (fun K hK => ?n23) (AllReadyH.cons (o := _) rfl (fun K hK => ?n22) AllReadyH.nil)
        case' n23 =>
         have cA := yu hA i hi5
         rw [HCT.out] at cA
         refine jl (by rfl) (.tmp 29) (by rfl) ⟨gA, i, none⟩ CT (by rfl) cA ?_
         refine hK.out _ _ trivial (fun hH5 => ?_)
         clear hK K
         change wpAnyH _ _ _ _ _ _ _ (Act.put _ (some 30) _) _
         (try simp only [Act.put, ssA, ssZ, ssS])
         refine wpAnyH_ready (rs := [11]) (by kernel_rfl) (by simp) ?_
         refine AllReadyH.cons (o := _) rfl (fun K hK => ?n24) AllReadyH.nil
         case' n24 =>
          refine j8 (by rfl) (.tmp 35) _ (by rfl) (.pointer (some ⟨b, 0, none⟩)) (by rfl) _ (qi base b L (P + 1) _ hs (by omega)) ?_
          rintro _ W5 ⟨a, z, rfl, Ha, Hz, a0, a1, z0, z1, hs2, hg2⟩
          refine ⟨_, rfl, ?_⟩
          replace hown := EntsFrom.other hown hg2 HBB.out
          replace hN := Blk.grown hN hg2 (by have := HNB.out; simpa using this)
          replace hG := ja hG hg2
          replace hGd := ja hGd hg2
          replace hA := Blk.grown hA hg2 (by simp; omega)
          replace hB := Blk.grown hB hg2 (by simp; omega)
          clear hs
          have hs := hs2
          clear hs2 hg2
          refine hK.out _ _ trivial (fun hH11 => ?_)
          clear hK K
          change wpAnyH _ _ _ _ _ _ _ (Act.put _ (some 36) _) _
          (try simp only [Act.put, ssA, ssZ, ssS])
          have hLeaf := hH11
        case' n22 =>
         refine j8 (by rfl) (.tmp 35) _ (by rfl) (.pointer (some ⟨b, 0, none⟩)) (by rfl) _ (qi base b L (P + 1) _ hs (by omega)) ?_
         rintro _ W4 ⟨a, z, rfl, Ha, Hz, a0, a1, z0, z1, hs2, hg2⟩
         refine ⟨_, rfl, ?_⟩
         replace hown := EntsFrom.other hown hg2 HBB.out
         replace hN := Blk.grown hN hg2 (by have := HNB.out; simpa using this)
         replace hG := ja hG hg2
         replace hGd := ja hGd hg2
         replace hA := Blk.grown hA hg2 (by simp; omega)
         replace hB := Blk.grown hB hg2 (by simp; omega)
         clear hs
         have hs := hs2
         clear hs2 hg2
         refine hK.out _ _ trivial (fun hH11 => ?_)
         clear hK K
         change wpAnyH _ _ _ _ _ _ _ (Act.put _ (some 36) _) _
         (try simp only [Act.put, ssA, ssZ, ssS])
         refine wpAnyH_ready (rs := [5]) (by kernel_rfl) (by simp) ?_
         refine AllReadyH.cons (o := _) rfl (fun K hK => ?n25) AllReadyH.nil
         case' n25 =>
          have cA := yu hA i hi5
          rw [HCT.out] at cA
          refine jl (by rfl) (.tmp 29) (by rfl) ⟨gA, i, none⟩ CT (by rfl) cA ?_
          refine hK.out _ _ trivial (fun hH5 => ?_)
          clear hK K
          change wpAnyH _ _ _ _ _ _ _ (Act.put _ (some 30) _) _
          (try simp only [Act.put, ssA, ssZ, ssS])
          have hLeaf := hH5
       case' n15 =>
        refine j8 (by rfl) (.tmp 35) _ (by rfl) (.pointer (some ⟨b, 0, none⟩)) (by rfl) _ (qi base b L (P + 1) _ hs (by omega)) ?_
        rintro _ W3 ⟨a, z, rfl, Ha, Hz, a0, a1, z0, z1, hs2, hg2⟩
        refine ⟨_, rfl, ?_⟩
        replace hown := EntsFrom.other hown hg2 HBB.out
        replace hN := Blk.grown hN hg2 (by have := HNB.out; simpa using this)
        replace hG := ja hG hg2
        replace hGd := ja hGd hg2
        replace hA := Blk.grown hA hg2 (by simp; omega)
        replace hB := Blk.grown hB hg2 (by simp; omega)
        clear hs
        have hs := hs2
        clear hs2 hg2
        refine hK.out _ _ trivial (fun hH11 => ?_)
        clear hK K
        change wpAnyH _ _ _ _ _ _ _ (Act.put _ (some 36) _) _
        (try simp only [Act.put, ssA, ssZ, ssS])
        refine wpAnyH_ready (rs := [5, 9]) (by kernel_rfl) (by simp) ?_
        refine AllReadyH.cons (o := _) rfl (fun K hK => ?n27) (AllReadyH.cons (o := _) rfl (fun K hK => ?n26) AllReadyH.nil)
        case' n27 =>
         have cA := yu hA i hi5
         rw [HCT.out] at cA
         refine jl (by rfl) (.tmp 29) (by rfl) ⟨gA, i, none⟩ CT (by rfl) cA ?_
         refine hK.out _ _ trivial (fun hH5 => ?_)
         clear hK K
         change wpAnyH _ _ _ _ _ _ _ (Act.put _ (some 30) _) _
         (try simp only [Act.put, ssA, ssZ, ssS])
         refine wpAnyH_ready (rs := [9]) (by kernel_rfl) (by simp) ?_
         refine AllReadyH.cons (o := _) rfl (fun K hK => ?n28) AllReadyH.nil
         case' n28 =>
          have cB := yx hB i hi5
          rw [HZN.out] at cB
          refine jl (by rfl) (.tmp 33) (by rfl) ⟨gB, i, none⟩ ZN (by rfl) cB ?_
          refine hK.out _ _ trivial (fun hH9 => ?_)
          clear hK K
          change wpAnyH _ _ _ _ _ _ _ (Act.put _ (some 34) _) _
          (try simp only [Act.put, ssA, ssZ, ssS])
          have hLeaf := hH9
        case' n26 =>
         have cB := yx hB i hi5
         rw [HZN.out] at cB
         refine jl (by rfl) (.tmp 33) (by rfl) ⟨gB, i, none⟩ ZN (by rfl) cB ?_
         refine hK.out _ _ trivial (fun hH9 => ?_)
         clear hK K
         change wpAnyH _ _ _ _ _ _ _ (Act.put _ (some 34) _) _
         (try simp only [Act.put, ssA, ssZ, ssS])
         refine wpAnyH_ready (rs := [5]) (by kernel_rfl) (by simp) ?_
         refine AllReadyH.cons (o := _) rfl (fun K hK => ?n29) AllReadyH.nil
         case' n29 =>
          have cA := yu hA i hi5
          rw [HCT.out] at cA
          refine jl (by rfl) (.tmp 29) (by rfl) ⟨gA, i, none⟩ CT (by rfl) cA ?_
          refine hK.out _ _ trivial (fun hH5 => ?_)
          clear hK K
          change wpAnyH _ _ _ _ _ _ _ (Act.put _ (some 30) _) _
          (try simp only [Act.put, ssA, ssZ, ssS])
          have hLeaf := hH5
      case' n4 =>
       refine j8 (by rfl) (.tmp 35) _ (by rfl) (.pointer (some ⟨b, 0, none⟩)) (by rfl) _ (qi base b L (P + 1) _ hs (by omega)) ?_
       rintro _ W2 ⟨a, z, rfl, Ha, Hz, a0, a1, z0, z1, hs2, hg2⟩
       refine ⟨_, rfl, ?_⟩
       replace hown := EntsFrom.other hown hg2 HBB.out
       replace hN := Blk.grown hN hg2 (by have := HNB.out; simpa using this)
       replace hG := ja hG hg2
       replace hGd := ja hGd hg2
       replace hA := Blk.grown hA hg2 (by simp; omega)
       clear hs
       have hs := hs2
       clear hs2 hg2
       refine hK.out _ _ trivial (fun hH11 => ?_)
       clear hK K
       change wpAnyH _ _ _ _ _ _ _ (Act.put _ (some 36) _) _
       (try simp only [Act.put, ssA, ssZ, ssS])
       refine wpAnyH_ready (rs := [5, 6]) (by kernel_rfl) (by simp) ?_
       refine AllReadyH.cons (o := _) rfl (fun K hK => ?n31) (AllReadyH.cons (o := _) rfl (fun K hK => ?n30) AllReadyH.nil)
       case' n31 =>
        have cA := yu hA i hi5
        rw [HCT.out] at cA
        refine jl (by rfl) (.tmp 29) (by rfl) ⟨gA, i, none⟩ CT (by rfl) cA ?_
        refine hK.out _ _ trivial (fun hH5 => ?_)
        clear hK K
        change wpAnyH _ _ _ _ _ _ _ (Act.put _ (some 30) _) _
        (try simp only [Act.put, ssA, ssZ, ssS])
        refine wpAnyH_ready (rs := [6]) (by kernel_rfl) (by simp) ?_
        refine AllReadyH.cons (o := _) rfl (fun K hK => ?n32) AllReadyH.nil
        case' n32 =>
         refine qo (by rfl) 15 14 15 38 5 (by rfl) ?_
         have hlgB : b < W2.heap.size := hs.lt
         have hB := Blk.new W2 3 #[.int .i64 15, .int .i64 14, .int .i64 15, .int .i64 38, .int .i64 5]
         replace hs := SX.alloc hs (.cells #[.int .i64 15, .int .i64 14, .int .i64 15, .int .i64 38, .int .i64 5] 3)
         replace hown := EntsFrom.grown hown (World.grownBy_alloc W2 (.cells #[.int .i64 15, .int .i64 14, .int .i64 15, .int .i64 38, .int .i64 5] 3) none)
         replace hN := Blk.alloc hN (.cells #[.int .i64 15, .int .i64 14, .int .i64 15, .int .i64 38, .int .i64 5] 3)
         replace hA := Blk.alloc hA (.cells #[.int .i64 15, .int .i64 14, .int .i64 15, .int .i64 38, .int .i64 5] 3)
         replace hG := jd hG (.cells #[.int .i64 15, .int .i64 14, .int .i64 15, .int .i64 38, .int .i64 5] 3)
         replace hGd := jd hGd (.cells #[.int .i64 15, .int .i64 14, .int .i64 15, .int .i64 38, .int .i64 5] 3)
         generalize W2.alloc (.cells #[.int .i64 15, .int .i64 14, .int .i64 15, .int .i64 38, .int .i64 5] 3) = W4 at *
         generalize W2.heap.size = gB at *
         refine hK.out _ _ trivial (fun hH6 => ?_)
         clear hK K
         change wpAnyH _ _ _ _ _ _ _ (Act.put _ (some 31) _) _
         (try simp only [Act.put, ssA, ssZ, ssS])
         refine tkH 8 33 hH6 ?_
         simp only [Act.put, ssA, ssZ, ssS]
         refine wpAnyH_ready (rs := [9]) (by kernel_rfl) (by simp) ?_
         refine AllReadyH.cons (o := _) rfl (fun K hK => ?n33) AllReadyH.nil
         case' n33 =>
          have cB := yx hB i hi5
          rw [HZN.out] at cB
          refine jl (by rfl) (.tmp 33) (by rfl) ⟨gB, i, none⟩ ZN (by rfl) cB ?_
          refine hK.out _ _ trivial (fun hH9 => ?_)
          clear hK K
          change wpAnyH _ _ _ _ _ _ _ (Act.put _ (some 34) _) _
          (try simp only [Act.put, ssA, ssZ, ssS])
          have hLeaf := hH9
       case' n30 =>
        refine qo (by rfl) 15 14 15 38 5 (by rfl) ?_
        have hlgB : b < W2.heap.size := hs.lt
        have hB := Blk.new W2 3 #[.int .i64 15, .int .i64 14, .int .i64 15, .int .i64 38, .int .i64 5]
        replace hs := SX.alloc hs (.cells #[.int .i64 15, .int .i64 14, .int .i64 15, .int .i64 38, .int .i64 5] 3)
        replace hown := EntsFrom.grown hown (World.grownBy_alloc W2 (.cells #[.int .i64 15, .int .i64 14, .int .i64 15, .int .i64 38, .int .i64 5] 3) none)
        replace hN := Blk.alloc hN (.cells #[.int .i64 15, .int .i64 14, .int .i64 15, .int .i64 38, .int .i64 5] 3)
        replace hA := Blk.alloc hA (.cells #[.int .i64 15, .int .i64 14, .int .i64 15, .int .i64 38, .int .i64 5] 3)
        replace hG := jd hG (.cells #[.int .i64 15, .int .i64 14, .int .i64 15, .int .i64 38, .int .i64 5] 3)
        replace hGd := jd hGd (.cells #[.int .i64 15, .int .i64 14, .int .i64 15, .int .i64 38, .int .i64 5] 3)
        generalize W2.alloc (.cells #[.int .i64 15, .int .i64 14, .int .i64 15, .int .i64 38, .int .i64 5] 3) = W3 at *
        generalize W2.heap.size = gB at *
        refine hK.out _ _ trivial (fun hH6 => ?_)
        clear hK K
        change wpAnyH _ _ _ _ _ _ _ (Act.put _ (some 31) _) _
        (try simp only [Act.put, ssA, ssZ, ssS])
        refine tkH 8 33 hH6 ?_
        simp only [Act.put, ssA, ssZ, ssS]
        refine wpAnyH_ready (rs := [5, 9]) (by kernel_rfl) (by simp) ?_
        refine AllReadyH.cons (o := _) rfl (fun K hK => ?n35) (AllReadyH.cons (o := _) rfl (fun K hK => ?n34) AllReadyH.nil)
        case' n35 =>
         have cA := yu hA i hi5
         rw [HCT.out] at cA
         refine jl (by rfl) (.tmp 29) (by rfl) ⟨gA, i, none⟩ CT (by rfl) cA ?_
         refine hK.out _ _ trivial (fun hH5 => ?_)
         clear hK K
         change wpAnyH _ _ _ _ _ _ _ (Act.put _ (some 30) _) _
         (try simp only [Act.put, ssA, ssZ, ssS])
         refine wpAnyH_ready (rs := [9]) (by kernel_rfl) (by simp) ?_
         refine AllReadyH.cons (o := _) rfl (fun K hK => ?n36) AllReadyH.nil
         case' n36 =>
          have cB := yx hB i hi5
          rw [HZN.out] at cB
          refine jl (by rfl) (.tmp 33) (by rfl) ⟨gB, i, none⟩ ZN (by rfl) cB ?_
          refine hK.out _ _ trivial (fun hH9 => ?_)
          clear hK K
          change wpAnyH _ _ _ _ _ _ _ (Act.put _ (some 34) _) _
          (try simp only [Act.put, ssA, ssZ, ssS])
          have hLeaf := hH9
        case' n34 =>
         have cB := yx hB i hi5
         rw [HZN.out] at cB
         refine jl (by rfl) (.tmp 33) (by rfl) ⟨gB, i, none⟩ ZN (by rfl) cB ?_
         refine hK.out _ _ trivial (fun hH9 => ?_)
         clear hK K
         change wpAnyH _ _ _ _ _ _ _ (Act.put _ (some 34) _) _
         (try simp only [Act.put, ssA, ssZ, ssS])
         refine wpAnyH_ready (rs := [5]) (by kernel_rfl) (by simp) ?_
         refine AllReadyH.cons (o := _) rfl (fun K hK => ?n37) AllReadyH.nil
         case' n37 =>
          have cA := yu hA i hi5
          rw [HCT.out] at cA
          refine jl (by rfl) (.tmp 29) (by rfl) ⟨gA, i, none⟩ CT (by rfl) cA ?_
          refine hK.out _ _ trivial (fun hH5 => ?_)
          clear hK K
          change wpAnyH _ _ _ _ _ _ _ (Act.put _ (some 30) _) _
          (try simp only [Act.put, ssA, ssZ, ssS])
          have hLeaf := hH5
     case' n2 =>
      refine qo (by rfl) 15 14 15 38 5 (by rfl) ?_
      have hlgB : b < W0.heap.size := hs.lt
      have hB := Blk.new W0 3 #[.int .i64 15, .int .i64 14, .int .i64 15, .int .i64 38, .int .i64 5]
      replace hs := SX.alloc hs (.cells #[.int .i64 15, .int .i64 14, .int .i64 15, .int .i64 38, .int .i64 5] 3)
      replace hown := EntsFrom.grown hown (World.grownBy_alloc W0 (.cells #[.int .i64 15, .int .i64 14, .int .i64 15, .int .i64 38, .int .i64 5] 3) none)
      replace hN := Blk.alloc hN (.cells #[.int .i64 15, .int .i64 14, .int .i64 15, .int .i64 38, .int .i64 5] 3)
      replace hG := jd hG (.cells #[.int .i64 15, .int .i64 14, .int .i64 15, .int .i64 38, .int .i64 5] 3)
      replace hGd := jd hGd (.cells #[.int .i64 15, .int .i64 14, .int .i64 15, .int .i64 38, .int .i64 5] 3)
      generalize W0.alloc (.cells #[.int .i64 15, .int .i64 14, .int .i64 15, .int .i64 38, .int .i64 5] 3) = W1 at *
      generalize W0.heap.size = gB at *
      refine hK.out _ _ trivial (fun hH6 => ?_)
      clear hK K
      change wpAnyH _ _ _ _ _ _ _ (Act.put _ (some 31) _) _
      (try simp only [Act.put, ssA, ssZ, ssS])
      refine tkH 8 33 hH6 ?_
      simp only [Act.put, ssA, ssZ, ssS]
      refine wpAnyH_ready (rs := [2, 9, 11]) (by kernel_rfl) (by simp) ?_
      refine AllReadyH.cons (o := _) rfl (fun K hK => ?n40) (AllReadyH.cons (o := _) rfl (fun K hK => ?n39) (AllReadyH.cons (o := _) rfl (fun K hK => ?n38) AllReadyH.nil))
      case' n40 =>
       refine qo (by rfl) 4 4 4 1 5 (by rfl) ?_
       have hlgA : b < W1.heap.size := hs.lt
       have hA := Blk.new W1 3 #[.int .i64 4, .int .i64 4, .int .i64 4, .int .i64 1, .int .i64 5]
       replace hs := SX.alloc hs (.cells #[.int .i64 4, .int .i64 4, .int .i64 4, .int .i64 1, .int .i64 5] 3)
       replace hown := EntsFrom.grown hown (World.grownBy_alloc W1 (.cells #[.int .i64 4, .int .i64 4, .int .i64 4, .int .i64 1, .int .i64 5] 3) none)
       replace hN := Blk.alloc hN (.cells #[.int .i64 4, .int .i64 4, .int .i64 4, .int .i64 1, .int .i64 5] 3)
       replace hB := Blk.alloc hB (.cells #[.int .i64 4, .int .i64 4, .int .i64 4, .int .i64 1, .int .i64 5] 3)
       replace hG := jd hG (.cells #[.int .i64 4, .int .i64 4, .int .i64 4, .int .i64 1, .int .i64 5] 3)
       replace hGd := jd hGd (.cells #[.int .i64 4, .int .i64 4, .int .i64 4, .int .i64 1, .int .i64 5] 3)
       generalize W1.alloc (.cells #[.int .i64 4, .int .i64 4, .int .i64 4, .int .i64 1, .int .i64 5] 3) = W2 at *
       generalize W1.heap.size = gA at *
       refine hK.out _ _ trivial (fun hH2 => ?_)
       clear hK K
       change wpAnyH _ _ _ _ _ _ _ (Act.put _ (some 27) _) _
       (try simp only [Act.put, ssA, ssZ, ssS])
       refine tkH 4 29 hH2 ?_
       simp only [Act.put, ssA, ssZ, ssS]
       refine wpAnyH_ready (rs := [5, 9, 11]) (by kernel_rfl) (by simp) ?_
       refine AllReadyH.cons (o := _) rfl (fun K hK => ?n43) (AllReadyH.cons (o := _) rfl (fun K hK => ?n42) (AllReadyH.cons (o := _) rfl (fun K hK => ?n41) AllReadyH.nil))
       case' n43 =>
        have cA := yu hA i hi5
        rw [HCT.out] at cA
        refine jl (by rfl) (.tmp 29) (by rfl) ⟨gA, i, none⟩ CT (by rfl) cA ?_
        refine hK.out _ _ trivial (fun hH5 => ?_)
        clear hK K
        change wpAnyH _ _ _ _ _ _ _ (Act.put _ (some 30) _) _
        (try simp only [Act.put, ssA, ssZ, ssS])
        refine wpAnyH_ready (rs := [9, 11]) (by kernel_rfl) (by simp) ?_
        refine AllReadyH.cons (o := _) rfl (fun K hK => ?n45) (AllReadyH.cons (o := _) rfl (fun K hK => ?n44) AllReadyH.nil)
        case' n45 =>
         have cB := yx hB i hi5
         rw [HZN.out] at cB
         refine jl (by rfl) (.tmp 33) (by rfl) ⟨gB, i, none⟩ ZN (by rfl) cB ?_
         refine hK.out _ _ trivial (fun hH9 => ?_)
         clear hK K
         change wpAnyH _ _ _ _ _ _ _ (Act.put _ (some 34) _) _
         (try simp only [Act.put, ssA, ssZ, ssS])
         refine wpAnyH_ready (rs := [11]) (by kernel_rfl) (by simp) ?_
         refine AllReadyH.cons (o := _) rfl (fun K hK => ?n46) AllReadyH.nil
         case' n46 =>
          refine j8 (by rfl) (.tmp 35) _ (by rfl) (.pointer (some ⟨b, 0, none⟩)) (by rfl) _ (qi base b L (P + 1) _ hs (by omega)) ?_
          rintro _ W5 ⟨a, z, rfl, Ha, Hz, a0, a1, z0, z1, hs2, hg2⟩
          refine ⟨_, rfl, ?_⟩
          replace hown := EntsFrom.other hown hg2 HBB.out
          replace hN := Blk.grown hN hg2 (by have := HNB.out; simpa using this)
          replace hG := ja hG hg2
          replace hGd := ja hGd hg2
          replace hA := Blk.grown hA hg2 (by simp; omega)
          replace hB := Blk.grown hB hg2 (by simp; omega)
          clear hs
          have hs := hs2
          clear hs2 hg2
          refine hK.out _ _ trivial (fun hH11 => ?_)
          clear hK K
          change wpAnyH _ _ _ _ _ _ _ (Act.put _ (some 36) _) _
          (try simp only [Act.put, ssA, ssZ, ssS])
          have hLeaf := hH11
        case' n44 =>
         refine j8 (by rfl) (.tmp 35) _ (by rfl) (.pointer (some ⟨b, 0, none⟩)) (by rfl) _ (qi base b L (P + 1) _ hs (by omega)) ?_
         rintro _ W4 ⟨a, z, rfl, Ha, Hz, a0, a1, z0, z1, hs2, hg2⟩
         refine ⟨_, rfl, ?_⟩
         replace hown := EntsFrom.other hown hg2 HBB.out
         replace hN := Blk.grown hN hg2 (by have := HNB.out; simpa using this)
         replace hG := ja hG hg2
         replace hGd := ja hGd hg2
         replace hA := Blk.grown hA hg2 (by simp; omega)
         replace hB := Blk.grown hB hg2 (by simp; omega)
         clear hs
         have hs := hs2
         clear hs2 hg2
         refine hK.out _ _ trivial (fun hH11 => ?_)
         clear hK K
         change wpAnyH _ _ _ _ _ _ _ (Act.put _ (some 36) _) _
         (try simp only [Act.put, ssA, ssZ, ssS])
         refine wpAnyH_ready (rs := [9]) (by kernel_rfl) (by simp) ?_
         refine AllReadyH.cons (o := _) rfl (fun K hK => ?n47) AllReadyH.nil
         case' n47 =>
          have cB := yx hB i hi5
          rw [HZN.out] at cB
          refine jl (by rfl) (.tmp 33) (by rfl) ⟨gB, i, none⟩ ZN (by rfl) cB ?_
          refine hK.out _ _ trivial (fun hH9 => ?_)
          clear hK K
          change wpAnyH _ _ _ _ _ _ _ (Act.put _ (some 34) _) _
          (try simp only [Act.put, ssA, ssZ, ssS])
          have hLeaf := hH9
       case' n42 =>
        have cB := yx hB i hi5
        rw [HZN.out] at cB
        refine jl (by rfl) (.tmp 33) (by rfl) ⟨gB, i, none⟩ ZN (by rfl) cB ?_
        refine hK.out _ _ trivial (fun hH9 => ?_)
        clear hK K
        change wpAnyH _ _ _ _ _ _ _ (Act.put _ (some 34) _) _
        (try simp only [Act.put, ssA, ssZ, ssS])
        refine wpAnyH_ready (rs := [5, 11]) (by kernel_rfl) (by simp) ?_
        refine AllReadyH.cons (o := _) rfl (fun K hK => ?n49) (AllReadyH.cons (o := _) rfl (fun K hK => ?n48) AllReadyH.nil)
        case' n49 =>
         have cA := yu hA i hi5
         rw [HCT.out] at cA
         refine jl (by rfl) (.tmp 29) (by rfl) ⟨gA, i, none⟩ CT (by rfl) cA ?_
         refine hK.out _ _ trivial (fun hH5 => ?_)
         clear hK K
         change wpAnyH _ _ _ _ _ _ _ (Act.put _ (some 30) _) _
         (try simp only [Act.put, ssA, ssZ, ssS])
         refine wpAnyH_ready (rs := [11]) (by kernel_rfl) (by simp) ?_
         refine AllReadyH.cons (o := _) rfl (fun K hK => ?n50) AllReadyH.nil
         case' n50 =>
          refine j8 (by rfl) (.tmp 35) _ (by rfl) (.pointer (some ⟨b, 0, none⟩)) (by rfl) _ (qi base b L (P + 1) _ hs (by omega)) ?_
          rintro _ W5 ⟨a, z, rfl, Ha, Hz, a0, a1, z0, z1, hs2, hg2⟩
          refine ⟨_, rfl, ?_⟩
          replace hown := EntsFrom.other hown hg2 HBB.out
          replace hN := Blk.grown hN hg2 (by have := HNB.out; simpa using this)
          replace hG := ja hG hg2
          replace hGd := ja hGd hg2
          replace hA := Blk.grown hA hg2 (by simp; omega)
          replace hB := Blk.grown hB hg2 (by simp; omega)
          clear hs
          have hs := hs2
          clear hs2 hg2
          refine hK.out _ _ trivial (fun hH11 => ?_)
          clear hK K
          change wpAnyH _ _ _ _ _ _ _ (Act.put _ (some 36) _) _
          (try simp only [Act.put, ssA, ssZ, ssS])
          have hLeaf := hH11
        case' n48 =>
         refine j8 (by rfl) (.tmp 35) _ (by rfl) (.pointer (some ⟨b, 0, none⟩)) (by rfl) _ (qi base b L (P + 1) _ hs (by omega)) ?_
         rintro _ W4 ⟨a, z, rfl, Ha, Hz, a0, a1, z0, z1, hs2, hg2⟩
         refine ⟨_, rfl, ?_⟩
         replace hown := EntsFrom.other hown hg2 HBB.out
         replace hN := Blk.grown hN hg2 (by have := HNB.out; simpa using this)
         replace hG := ja hG hg2
         replace hGd := ja hGd hg2
         replace hA := Blk.grown hA hg2 (by simp; omega)
         replace hB := Blk.grown hB hg2 (by simp; omega)
         clear hs
         have hs := hs2
         clear hs2 hg2
         refine hK.out _ _ trivial (fun hH11 => ?_)
         clear hK K
         change wpAnyH _ _ _ _ _ _ _ (Act.put _ (some 36) _) _
         (try simp only [Act.put, ssA, ssZ, ssS])
         refine wpAnyH_ready (rs := [5]) (by kernel_rfl) (by simp) ?_
         refine AllReadyH.cons (o := _) rfl (fun K hK => ?n51) AllReadyH.nil
         case' n51 =>
          have cA := yu hA i hi5
          rw [HCT.out] at cA
          refine jl (by rfl) (.tmp 29) (by rfl) ⟨gA, i, none⟩ CT (by rfl) cA ?_
          refine hK.out _ _ trivial (fun hH5 => ?_)
          clear hK K
          change wpAnyH _ _ _ _ _ _ _ (Act.put _ (some 30) _) _
          (try simp only [Act.put, ssA, ssZ, ssS])
          have hLeaf := hH5
       case' n41 =>
        refine j8 (by rfl) (.tmp 35) _ (by rfl) (.pointer (some ⟨b, 0, none⟩)) (by rfl) _ (qi base b L (P + 1) _ hs (by omega)) ?_
        rintro _ W3 ⟨a, z, rfl, Ha, Hz, a0, a1, z0, z1, hs2, hg2⟩
        refine ⟨_, rfl, ?_⟩
        replace hown := EntsFrom.other hown hg2 HBB.out
        replace hN := Blk.grown hN hg2 (by have := HNB.out; simpa using this)
        replace hG := ja hG hg2
        replace hGd := ja hGd hg2
        replace hA := Blk.grown hA hg2 (by simp; omega)
        replace hB := Blk.grown hB hg2 (by simp; omega)
        clear hs
        have hs := hs2
        clear hs2 hg2
        refine hK.out _ _ trivial (fun hH11 => ?_)
        clear hK K
        change wpAnyH _ _ _ _ _ _ _ (Act.put _ (some 36) _) _
        (try simp only [Act.put, ssA, ssZ, ssS])
        refine wpAnyH_ready (rs := [5, 9]) (by kernel_rfl) (by simp) ?_
        refine AllReadyH.cons (o := _) rfl (fun K hK => ?n53) (AllReadyH.cons (o := _) rfl (fun K hK => ?n52) AllReadyH.nil)
        case' n53 =>
         have cA := yu hA i hi5
         rw [HCT.out] at cA
         refine jl (by rfl) (.tmp 29) (by rfl) ⟨gA, i, none⟩ CT (by rfl) cA ?_
         refine hK.out _ _ trivial (fun hH5 => ?_)
         clear hK K
         change wpAnyH _ _ _ _ _ _ _ (Act.put _ (some 30) _) _
         (try simp only [Act.put, ssA, ssZ, ssS])
         refine wpAnyH_ready (rs := [9]) (by kernel_rfl) (by simp) ?_
         refine AllReadyH.cons (o := _) rfl (fun K hK => ?n54) AllReadyH.nil
         case' n54 =>
          have cB := yx hB i hi5
          rw [HZN.out] at cB
          refine jl (by rfl) (.tmp 33) (by rfl) ⟨gB, i, none⟩ ZN (by rfl) cB ?_
          refine hK.out _ _ trivial (fun hH9 => ?_)
          clear hK K
          change wpAnyH _ _ _ _ _ _ _ (Act.put _ (some 34) _) _
          (try simp only [Act.put, ssA, ssZ, ssS])
          have hLeaf := hH9
        case' n52 =>
         have cB := yx hB i hi5
         rw [HZN.out] at cB
         refine jl (by rfl) (.tmp 33) (by rfl) ⟨gB, i, none⟩ ZN (by rfl) cB ?_
         refine hK.out _ _ trivial (fun hH9 => ?_)
         clear hK K
         change wpAnyH _ _ _ _ _ _ _ (Act.put _ (some 34) _) _
         (try simp only [Act.put, ssA, ssZ, ssS])
         refine wpAnyH_ready (rs := [5]) (by kernel_rfl) (by simp) ?_
         refine AllReadyH.cons (o := _) rfl (fun K hK => ?n55) AllReadyH.nil
         case' n55 =>
          have cA := yu hA i hi5
          rw [HCT.out] at cA
          refine jl (by rfl) (.tmp 29) (by rfl) ⟨gA, i, none⟩ CT (by rfl) cA ?_
          refine hK.out _ _ trivial (fun hH5 => ?_)
          clear hK K
          change wpAnyH _ _ _ _ _ _ _ (Act.put _ (some 30) _) _
          (try simp only [Act.put, ssA, ssZ, ssS])
          have hLeaf := hH5
      case' n39 =>
       have cB := yx hB i hi5
       rw [HZN.out] at cB
       refine jl (by rfl) (.tmp 33) (by rfl) ⟨gB, i, none⟩ ZN (by rfl) cB ?_
       refine hK.out _ _ trivial (fun hH9 => ?_)
       clear hK K
       change wpAnyH _ _ _ _ _ _ _ (Act.put _ (some 34) _) _
       (try simp only [Act.put, ssA, ssZ, ssS])
       refine wpAnyH_ready (rs := [2, 11]) (by kernel_rfl) (by simp) ?_
       refine AllReadyH.cons (o := _) rfl (fun K hK => ?n57) (AllReadyH.cons (o := _) rfl (fun K hK => ?n56) AllReadyH.nil)
       case' n57 =>
        refine qo (by rfl) 4 4 4 1 5 (by rfl) ?_
        have hlgA : b < W1.heap.size := hs.lt
        have hA := Blk.new W1 3 #[.int .i64 4, .int .i64 4, .int .i64 4, .int .i64 1, .int .i64 5]
        replace hs := SX.alloc hs (.cells #[.int .i64 4, .int .i64 4, .int .i64 4, .int .i64 1, .int .i64 5] 3)
        replace hown := EntsFrom.grown hown (World.grownBy_alloc W1 (.cells #[.int .i64 4, .int .i64 4, .int .i64 4, .int .i64 1, .int .i64 5] 3) none)
        replace hN := Blk.alloc hN (.cells #[.int .i64 4, .int .i64 4, .int .i64 4, .int .i64 1, .int .i64 5] 3)
        replace hB := Blk.alloc hB (.cells #[.int .i64 4, .int .i64 4, .int .i64 4, .int .i64 1, .int .i64 5] 3)
        replace hG := jd hG (.cells #[.int .i64 4, .int .i64 4, .int .i64 4, .int .i64 1, .int .i64 5] 3)
        replace hGd := jd hGd (.cells #[.int .i64 4, .int .i64 4, .int .i64 4, .int .i64 1, .int .i64 5] 3)
        generalize W1.alloc (.cells #[.int .i64 4, .int .i64 4, .int .i64 4, .int .i64 1, .int .i64 5] 3) = W3 at *
        generalize W1.heap.size = gA at *
        refine hK.out _ _ trivial (fun hH2 => ?_)
        clear hK K
        change wpAnyH _ _ _ _ _ _ _ (Act.put _ (some 27) _) _
        (try simp only [Act.put, ssA, ssZ, ssS])
        refine tkH 4 29 hH2 ?_
        simp only [Act.put, ssA, ssZ, ssS]
        refine wpAnyH_ready (rs := [5, 11]) (by kernel_rfl) (by simp) ?_
        refine AllReadyH.cons (o := _) rfl (fun K hK => ?n59) (AllReadyH.cons (o := _) rfl (fun K hK => ?n58) AllReadyH.nil)
        case' n59 =>
         have cA := yu hA i hi5
         rw [HCT.out] at cA
         refine jl (by rfl) (.tmp 29) (by rfl) ⟨gA, i, none⟩ CT (by rfl) cA ?_
         refine hK.out _ _ trivial (fun hH5 => ?_)
         clear hK K
         change wpAnyH _ _ _ _ _ _ _ (Act.put _ (some 30) _) _
         (try simp only [Act.put, ssA, ssZ, ssS])
         refine wpAnyH_ready (rs := [11]) (by kernel_rfl) (by simp) ?_
         refine AllReadyH.cons (o := _) rfl (fun K hK => ?n60) AllReadyH.nil
         case' n60 =>
          refine j8 (by rfl) (.tmp 35) _ (by rfl) (.pointer (some ⟨b, 0, none⟩)) (by rfl) _ (qi base b L (P + 1) _ hs (by omega)) ?_
          rintro _ W5 ⟨a, z, rfl, Ha, Hz, a0, a1, z0, z1, hs2, hg2⟩
          refine ⟨_, rfl, ?_⟩
          replace hown := EntsFrom.other hown hg2 HBB.out
          replace hN := Blk.grown hN hg2 (by have := HNB.out; simpa using this)
          replace hG := ja hG hg2
          replace hGd := ja hGd hg2
          replace hA := Blk.grown hA hg2 (by simp; omega)
          replace hB := Blk.grown hB hg2 (by simp; omega)
          clear hs
          have hs := hs2
          clear hs2 hg2
          refine hK.out _ _ trivial (fun hH11 => ?_)
          clear hK K
          change wpAnyH _ _ _ _ _ _ _ (Act.put _ (some 36) _) _
          (try simp only [Act.put, ssA, ssZ, ssS])
          have hLeaf := hH11
        case' n58 =>
         refine j8 (by rfl) (.tmp 35) _ (by rfl) (.pointer (some ⟨b, 0, none⟩)) (by rfl) _ (qi base b L (P + 1) _ hs (by omega)) ?_
         rintro _ W4 ⟨a, z, rfl, Ha, Hz, a0, a1, z0, z1, hs2, hg2⟩
         refine ⟨_, rfl, ?_⟩
         replace hown := EntsFrom.other hown hg2 HBB.out
         replace hN := Blk.grown hN hg2 (by have := HNB.out; simpa using this)
         replace hG := ja hG hg2
         replace hGd := ja hGd hg2
         replace hA := Blk.grown hA hg2 (by simp; omega)
         replace hB := Blk.grown hB hg2 (by simp; omega)
         clear hs
         have hs := hs2
         clear hs2 hg2
         refine hK.out _ _ trivial (fun hH11 => ?_)
         clear hK K
         change wpAnyH _ _ _ _ _ _ _ (Act.put _ (some 36) _) _
         (try simp only [Act.put, ssA, ssZ, ssS])
         refine wpAnyH_ready (rs := [5]) (by kernel_rfl) (by simp) ?_
         refine AllReadyH.cons (o := _) rfl (fun K hK => ?n61) AllReadyH.nil
         case' n61 =>
          have cA := yu hA i hi5
          rw [HCT.out] at cA
          refine jl (by rfl) (.tmp 29) (by rfl) ⟨gA, i, none⟩ CT (by rfl) cA ?_
          refine hK.out _ _ trivial (fun hH5 => ?_)
          clear hK K
          change wpAnyH _ _ _ _ _ _ _ (Act.put _ (some 30) _) _
          (try simp only [Act.put, ssA, ssZ, ssS])
          have hLeaf := hH5
       case' n56 =>
        refine j8 (by rfl) (.tmp 35) _ (by rfl) (.pointer (some ⟨b, 0, none⟩)) (by rfl) _ (qi base b L (P + 1) _ hs (by omega)) ?_
        rintro _ W3 ⟨a, z, rfl, Ha, Hz, a0, a1, z0, z1, hs2, hg2⟩
        refine ⟨_, rfl, ?_⟩
        replace hown := EntsFrom.other hown hg2 HBB.out
        replace hN := Blk.grown hN hg2 (by have := HNB.out; simpa using this)
        replace hG := ja hG hg2
        replace hGd := ja hGd hg2
        replace hB := Blk.grown hB hg2 (by simp; omega)
        clear hs
        have hs := hs2
        clear hs2 hg2
        refine hK.out _ _ trivial (fun hH11 => ?_)
        clear hK K
        change wpAnyH _ _ _ _ _ _ _ (Act.put _ (some 36) _) _
        (try simp only [Act.put, ssA, ssZ, ssS])
        refine wpAnyH_ready (rs := [2]) (by kernel_rfl) (by simp) ?_
        refine AllReadyH.cons (o := _) rfl (fun K hK => ?n62) AllReadyH.nil
        case' n62 =>
         refine qo (by rfl) 4 4 4 1 5 (by rfl) ?_
         have hlgA : b < W3.heap.size := hs.lt
         have hA := Blk.new W3 3 #[.int .i64 4, .int .i64 4, .int .i64 4, .int .i64 1, .int .i64 5]
         replace hs := SX.alloc hs (.cells #[.int .i64 4, .int .i64 4, .int .i64 4, .int .i64 1, .int .i64 5] 3)
         replace hown := EntsFrom.grown hown (World.grownBy_alloc W3 (.cells #[.int .i64 4, .int .i64 4, .int .i64 4, .int .i64 1, .int .i64 5] 3) none)
         replace hN := Blk.alloc hN (.cells #[.int .i64 4, .int .i64 4, .int .i64 4, .int .i64 1, .int .i64 5] 3)
         replace hB := Blk.alloc hB (.cells #[.int .i64 4, .int .i64 4, .int .i64 4, .int .i64 1, .int .i64 5] 3)
         replace hG := jd hG (.cells #[.int .i64 4, .int .i64 4, .int .i64 4, .int .i64 1, .int .i64 5] 3)
         replace hGd := jd hGd (.cells #[.int .i64 4, .int .i64 4, .int .i64 4, .int .i64 1, .int .i64 5] 3)
         generalize W3.alloc (.cells #[.int .i64 4, .int .i64 4, .int .i64 4, .int .i64 1, .int .i64 5] 3) = W4 at *
         generalize W3.heap.size = gA at *
         refine hK.out _ _ trivial (fun hH2 => ?_)
         clear hK K
         change wpAnyH _ _ _ _ _ _ _ (Act.put _ (some 27) _) _
         (try simp only [Act.put, ssA, ssZ, ssS])
         refine tkH 4 29 hH2 ?_
         simp only [Act.put, ssA, ssZ, ssS]
         refine wpAnyH_ready (rs := [5]) (by kernel_rfl) (by simp) ?_
         refine AllReadyH.cons (o := _) rfl (fun K hK => ?n63) AllReadyH.nil
         case' n63 =>
          have cA := yu hA i hi5
          rw [HCT.out] at cA
          refine jl (by rfl) (.tmp 29) (by rfl) ⟨gA, i, none⟩ CT (by rfl) cA ?_
          refine hK.out _ _ trivial (fun hH5 => ?_)
          clear hK K
          change wpAnyH _ _ _ _ _ _ _ (Act.put _ (some 30) _) _
          (try simp only [Act.put, ssA, ssZ, ssS])
          have hLeaf := hH5
      case' n38 =>
       refine j8 (by rfl) (.tmp 35) _ (by rfl) (.pointer (some ⟨b, 0, none⟩)) (by rfl) _ (qi base b L (P + 1) _ hs (by omega)) ?_
       rintro _ W2 ⟨a, z, rfl, Ha, Hz, a0, a1, z0, z1, hs2, hg2⟩
       refine ⟨_, rfl, ?_⟩
       replace hown := EntsFrom.other hown hg2 HBB.out
       replace hN := Blk.grown hN hg2 (by have := HNB.out; simpa using this)
       replace hG := ja hG hg2
       replace hGd := ja hGd hg2
       replace hB := Blk.grown hB hg2 (by simp; omega)
       clear hs
       have hs := hs2
       clear hs2 hg2
       refine hK.out _ _ trivial (fun hH11 => ?_)
       clear hK K
       change wpAnyH _ _ _ _ _ _ _ (Act.put _ (some 36) _) _
       (try simp only [Act.put, ssA, ssZ, ssS])
       refine wpAnyH_ready (rs := [2, 9]) (by kernel_rfl) (by simp) ?_
       refine AllReadyH.cons (o := _) rfl (fun K hK => ?n65) (AllReadyH.cons (o := _) rfl (fun K hK => ?n64) AllReadyH.nil)
       case' n65 =>
        refine qo (by rfl) 4 4 4 1 5 (by rfl) ?_
        have hlgA : b < W2.heap.size := hs.lt
        have hA := Blk.new W2 3 #[.int .i64 4, .int .i64 4, .int .i64 4, .int .i64 1, .int .i64 5]
        replace hs := SX.alloc hs (.cells #[.int .i64 4, .int .i64 4, .int .i64 4, .int .i64 1, .int .i64 5] 3)
        replace hown := EntsFrom.grown hown (World.grownBy_alloc W2 (.cells #[.int .i64 4, .int .i64 4, .int .i64 4, .int .i64 1, .int .i64 5] 3) none)
        replace hN := Blk.alloc hN (.cells #[.int .i64 4, .int .i64 4, .int .i64 4, .int .i64 1, .int .i64 5] 3)
        replace hB := Blk.alloc hB (.cells #[.int .i64 4, .int .i64 4, .int .i64 4, .int .i64 1, .int .i64 5] 3)
        replace hG := jd hG (.cells #[.int .i64 4, .int .i64 4, .int .i64 4, .int .i64 1, .int .i64 5] 3)
        replace hGd := jd hGd (.cells #[.int .i64 4, .int .i64 4, .int .i64 4, .int .i64 1, .int .i64 5] 3)
        generalize W2.alloc (.cells #[.int .i64 4, .int .i64 4, .int .i64 4, .int .i64 1, .int .i64 5] 3) = W3 at *
        generalize W2.heap.size = gA at *
        refine hK.out _ _ trivial (fun hH2 => ?_)
        clear hK K
        change wpAnyH _ _ _ _ _ _ _ (Act.put _ (some 27) _) _
        (try simp only [Act.put, ssA, ssZ, ssS])
        refine tkH 4 29 hH2 ?_
        simp only [Act.put, ssA, ssZ, ssS]
        refine wpAnyH_ready (rs := [5, 9]) (by kernel_rfl) (by simp) ?_
        refine AllReadyH.cons (o := _) rfl (fun K hK => ?n67) (AllReadyH.cons (o := _) rfl (fun K hK => ?n66) AllReadyH.nil)
        case' n67 =>
         have cA := yu hA i hi5
         rw [HCT.out] at cA
         refine jl (by rfl) (.tmp 29) (by rfl) ⟨gA, i, none⟩ CT (by rfl) cA ?_
         refine hK.out _ _ trivial (fun hH5 => ?_)
         clear hK K
         change wpAnyH _ _ _ _ _ _ _ (Act.put _ (some 30) _) _
         (try simp only [Act.put, ssA, ssZ, ssS])
         refine wpAnyH_ready (rs := [9]) (by kernel_rfl) (by simp) ?_
         refine AllReadyH.cons (o := _) rfl (fun K hK => ?n68) AllReadyH.nil
         case' n68 =>
          have cB := yx hB i hi5
          rw [HZN.out] at cB
          refine jl (by rfl) (.tmp 33) (by rfl) ⟨gB, i, none⟩ ZN (by rfl) cB ?_
          refine hK.out _ _ trivial (fun hH9 => ?_)
          clear hK K
          change wpAnyH _ _ _ _ _ _ _ (Act.put _ (some 34) _) _
          (try simp only [Act.put, ssA, ssZ, ssS])
          have hLeaf := hH9
        case' n66 =>
         have cB := yx hB i hi5
         rw [HZN.out] at cB
         refine jl (by rfl) (.tmp 33) (by rfl) ⟨gB, i, none⟩ ZN (by rfl) cB ?_
         refine hK.out _ _ trivial (fun hH9 => ?_)
         clear hK K
         change wpAnyH _ _ _ _ _ _ _ (Act.put _ (some 34) _) _
         (try simp only [Act.put, ssA, ssZ, ssS])
         refine wpAnyH_ready (rs := [5]) (by kernel_rfl) (by simp) ?_
         refine AllReadyH.cons (o := _) rfl (fun K hK => ?n69) AllReadyH.nil
         case' n69 =>
          have cA := yu hA i hi5
          rw [HCT.out] at cA
          refine jl (by rfl) (.tmp 29) (by rfl) ⟨gA, i, none⟩ CT (by rfl) cA ?_
          refine hK.out _ _ trivial (fun hH5 => ?_)
          clear hK K
          change wpAnyH _ _ _ _ _ _ _ (Act.put _ (some 30) _) _
          (try simp only [Act.put, ssA, ssZ, ssS])
          have hLeaf := hH5
       case' n64 =>
        have cB := yx hB i hi5
        rw [HZN.out] at cB
        refine jl (by rfl) (.tmp 33) (by rfl) ⟨gB, i, none⟩ ZN (by rfl) cB ?_
        refine hK.out _ _ trivial (fun hH9 => ?_)
        clear hK K
        change wpAnyH _ _ _ _ _ _ _ (Act.put _ (some 34) _) _
        (try simp only [Act.put, ssA, ssZ, ssS])
        refine wpAnyH_ready (rs := [2]) (by kernel_rfl) (by simp) ?_
        refine AllReadyH.cons (o := _) rfl (fun K hK => ?n70) AllReadyH.nil
        case' n70 =>
         refine qo (by rfl) 4 4 4 1 5 (by rfl) ?_
         have hlgA : b < W2.heap.size := hs.lt
         have hA := Blk.new W2 3 #[.int .i64 4, .int .i64 4, .int .i64 4, .int .i64 1, .int .i64 5]
         replace hs := SX.alloc hs (.cells #[.int .i64 4, .int .i64 4, .int .i64 4, .int .i64 1, .int .i64 5] 3)
         replace hown := EntsFrom.grown hown (World.grownBy_alloc W2 (.cells #[.int .i64 4, .int .i64 4, .int .i64 4, .int .i64 1, .int .i64 5] 3) none)
         replace hN := Blk.alloc hN (.cells #[.int .i64 4, .int .i64 4, .int .i64 4, .int .i64 1, .int .i64 5] 3)
         replace hB := Blk.alloc hB (.cells #[.int .i64 4, .int .i64 4, .int .i64 4, .int .i64 1, .int .i64 5] 3)
         replace hG := jd hG (.cells #[.int .i64 4, .int .i64 4, .int .i64 4, .int .i64 1, .int .i64 5] 3)
         replace hGd := jd hGd (.cells #[.int .i64 4, .int .i64 4, .int .i64 4, .int .i64 1, .int .i64 5] 3)
         generalize W2.alloc (.cells #[.int .i64 4, .int .i64 4, .int .i64 4, .int .i64 1, .int .i64 5] 3) = W4 at *
         generalize W2.heap.size = gA at *
         refine hK.out _ _ trivial (fun hH2 => ?_)
         clear hK K
         change wpAnyH _ _ _ _ _ _ _ (Act.put _ (some 27) _) _
         (try simp only [Act.put, ssA, ssZ, ssS])
         refine tkH 4 29 hH2 ?_
         simp only [Act.put, ssA, ssZ, ssS]
         refine wpAnyH_ready (rs := [5]) (by kernel_rfl) (by simp) ?_
         refine AllReadyH.cons (o := _) rfl (fun K hK => ?n71) AllReadyH.nil
         case' n71 =>
          have cA := yu hA i hi5
          rw [HCT.out] at cA
          refine jl (by rfl) (.tmp 29) (by rfl) ⟨gA, i, none⟩ CT (by rfl) cA ?_
          refine hK.out _ _ trivial (fun hH5 => ?_)
          clear hK K
          change wpAnyH _ _ _ _ _ _ _ (Act.put _ (some 30) _) _
          (try simp only [Act.put, ssA, ssZ, ssS])
          have hLeaf := hH5
     case' n1 =>
      refine j8 (by rfl) (.tmp 35) _ (by rfl) (.pointer (some ⟨b, 0, none⟩)) (by rfl) _ (qi base b L (P + 1) _ hs (by omega)) ?_
      rintro _ W1 ⟨a, z, rfl, Ha, Hz, a0, a1, z0, z1, hs2, hg2⟩
      refine ⟨_, rfl, ?_⟩
      replace hown := EntsFrom.other hown hg2 HBB.out
      replace hN := Blk.grown hN hg2 (by have := HNB.out; simpa using this)
      replace hG := ja hG hg2
      replace hGd := ja hGd hg2
      clear hs
      have hs := hs2
      clear hs2 hg2
      refine hK.out _ _ trivial (fun hH11 => ?_)
      clear hK K
      change wpAnyH _ _ _ _ _ _ _ (Act.put _ (some 36) _) _
      (try simp only [Act.put, ssA, ssZ, ssS])
      refine wpAnyH_ready (rs := [2, 6]) (by kernel_rfl) (by simp) ?_
      refine AllReadyH.cons (o := _) rfl (fun K hK => ?n73) (AllReadyH.cons (o := _) rfl (fun K hK => ?n72) AllReadyH.nil)
      case' n73 =>
       refine qo (by rfl) 4 4 4 1 5 (by rfl) ?_
       have hlgA : b < W1.heap.size := hs.lt
       have hA := Blk.new W1 3 #[.int .i64 4, .int .i64 4, .int .i64 4, .int .i64 1, .int .i64 5]
       replace hs := SX.alloc hs (.cells #[.int .i64 4, .int .i64 4, .int .i64 4, .int .i64 1, .int .i64 5] 3)
       replace hown := EntsFrom.grown hown (World.grownBy_alloc W1 (.cells #[.int .i64 4, .int .i64 4, .int .i64 4, .int .i64 1, .int .i64 5] 3) none)
       replace hN := Blk.alloc hN (.cells #[.int .i64 4, .int .i64 4, .int .i64 4, .int .i64 1, .int .i64 5] 3)
       replace hG := jd hG (.cells #[.int .i64 4, .int .i64 4, .int .i64 4, .int .i64 1, .int .i64 5] 3)
       replace hGd := jd hGd (.cells #[.int .i64 4, .int .i64 4, .int .i64 4, .int .i64 1, .int .i64 5] 3)
       generalize W1.alloc (.cells #[.int .i64 4, .int .i64 4, .int .i64 4, .int .i64 1, .int .i64 5] 3) = W2 at *
       generalize W1.heap.size = gA at *
       refine hK.out _ _ trivial (fun hH2 => ?_)
       clear hK K
       change wpAnyH _ _ _ _ _ _ _ (Act.put _ (some 27) _) _
       (try simp only [Act.put, ssA, ssZ, ssS])
       refine tkH 4 29 hH2 ?_
       simp only [Act.put, ssA, ssZ, ssS]
       refine wpAnyH_ready (rs := [5, 6]) (by kernel_rfl) (by simp) ?_
       refine AllReadyH.cons (o := _) rfl (fun K hK => ?n75) (AllReadyH.cons (o := _) rfl (fun K hK => ?n74) AllReadyH.nil)
       case' n75 =>
        have cA := yu hA i hi5
        rw [HCT.out] at cA
        refine jl (by rfl) (.tmp 29) (by rfl) ⟨gA, i, none⟩ CT (by rfl) cA ?_
        refine hK.out _ _ trivial (fun hH5 => ?_)
        clear hK K
        change wpAnyH _ _ _ _ _ _ _ (Act.put _ (some 30) _) _
        (try simp only [Act.put, ssA, ssZ, ssS])
        refine wpAnyH_ready (rs := [6]) (by kernel_rfl) (by simp) ?_
        refine AllReadyH.cons (o := _) rfl (fun K hK => ?n76) AllReadyH.nil
        case' n76 =>
         refine qo (by rfl) 15 14 15 38 5 (by rfl) ?_
         have hlgB : b < W2.heap.size := hs.lt
         have hB := Blk.new W2 3 #[.int .i64 15, .int .i64 14, .int .i64 15, .int .i64 38, .int .i64 5]
         replace hs := SX.alloc hs (.cells #[.int .i64 15, .int .i64 14, .int .i64 15, .int .i64 38, .int .i64 5] 3)
         replace hown := EntsFrom.grown hown (World.grownBy_alloc W2 (.cells #[.int .i64 15, .int .i64 14, .int .i64 15, .int .i64 38, .int .i64 5] 3) none)
         replace hN := Blk.alloc hN (.cells #[.int .i64 15, .int .i64 14, .int .i64 15, .int .i64 38, .int .i64 5] 3)
         replace hA := Blk.alloc hA (.cells #[.int .i64 15, .int .i64 14, .int .i64 15, .int .i64 38, .int .i64 5] 3)
         replace hG := jd hG (.cells #[.int .i64 15, .int .i64 14, .int .i64 15, .int .i64 38, .int .i64 5] 3)
         replace hGd := jd hGd (.cells #[.int .i64 15, .int .i64 14, .int .i64 15, .int .i64 38, .int .i64 5] 3)
         generalize W2.alloc (.cells #[.int .i64 15, .int .i64 14, .int .i64 15, .int .i64 38, .int .i64 5] 3) = W4 at *
         generalize W2.heap.size = gB at *
         refine hK.out _ _ trivial (fun hH6 => ?_)
         clear hK K
         change wpAnyH _ _ _ _ _ _ _ (Act.put _ (some 31) _) _
         (try simp only [Act.put, ssA, ssZ, ssS])
         refine tkH 8 33 hH6 ?_
         simp only [Act.put, ssA, ssZ, ssS]
         refine wpAnyH_ready (rs := [9]) (by kernel_rfl) (by simp) ?_
         refine AllReadyH.cons (o := _) rfl (fun K hK => ?n77) AllReadyH.nil
         case' n77 =>
          have cB := yx hB i hi5
          rw [HZN.out] at cB
          refine jl (by rfl) (.tmp 33) (by rfl) ⟨gB, i, none⟩ ZN (by rfl) cB ?_
          refine hK.out _ _ trivial (fun hH9 => ?_)
          clear hK K
          change wpAnyH _ _ _ _ _ _ _ (Act.put _ (some 34) _) _
          (try simp only [Act.put, ssA, ssZ, ssS])
          have hLeaf := hH9
       case' n74 =>
        refine qo (by rfl) 15 14 15 38 5 (by rfl) ?_
        have hlgB : b < W2.heap.size := hs.lt
        have hB := Blk.new W2 3 #[.int .i64 15, .int .i64 14, .int .i64 15, .int .i64 38, .int .i64 5]
        replace hs := SX.alloc hs (.cells #[.int .i64 15, .int .i64 14, .int .i64 15, .int .i64 38, .int .i64 5] 3)
        replace hown := EntsFrom.grown hown (World.grownBy_alloc W2 (.cells #[.int .i64 15, .int .i64 14, .int .i64 15, .int .i64 38, .int .i64 5] 3) none)
        replace hN := Blk.alloc hN (.cells #[.int .i64 15, .int .i64 14, .int .i64 15, .int .i64 38, .int .i64 5] 3)
        replace hA := Blk.alloc hA (.cells #[.int .i64 15, .int .i64 14, .int .i64 15, .int .i64 38, .int .i64 5] 3)
        replace hG := jd hG (.cells #[.int .i64 15, .int .i64 14, .int .i64 15, .int .i64 38, .int .i64 5] 3)
        replace hGd := jd hGd (.cells #[.int .i64 15, .int .i64 14, .int .i64 15, .int .i64 38, .int .i64 5] 3)
        generalize W2.alloc (.cells #[.int .i64 15, .int .i64 14, .int .i64 15, .int .i64 38, .int .i64 5] 3) = W3 at *
        generalize W2.heap.size = gB at *
        refine hK.out _ _ trivial (fun hH6 => ?_)
        clear hK K
        change wpAnyH _ _ _ _ _ _ _ (Act.put _ (some 31) _) _
        (try simp only [Act.put, ssA, ssZ, ssS])
        refine tkH 8 33 hH6 ?_
        simp only [Act.put, ssA, ssZ, ssS]
        refine wpAnyH_ready (rs := [5, 9]) (by kernel_rfl) (by simp) ?_
        refine AllReadyH.cons (o := _) rfl (fun K hK => ?n79) (AllReadyH.cons (o := _) rfl (fun K hK => ?n78) AllReadyH.nil)
        case' n79 =>
         have cA := yu hA i hi5
         rw [HCT.out] at cA
         refine jl (by rfl) (.tmp 29) (by rfl) ⟨gA, i, none⟩ CT (by rfl) cA ?_
         refine hK.out _ _ trivial (fun hH5 => ?_)
         clear hK K
         change wpAnyH _ _ _ _ _ _ _ (Act.put _ (some 30) _) _
         (try simp only [Act.put, ssA, ssZ, ssS])
         refine wpAnyH_ready (rs := [9]) (by kernel_rfl) (by simp) ?_
         refine AllReadyH.cons (o := _) rfl (fun K hK => ?n80) AllReadyH.nil
         case' n80 =>
          have cB := yx hB i hi5
          rw [HZN.out] at cB
          refine jl (by rfl) (.tmp 33) (by rfl) ⟨gB, i, none⟩ ZN (by rfl) cB ?_
          refine hK.out _ _ trivial (fun hH9 => ?_)
          clear hK K
          change wpAnyH _ _ _ _ _ _ _ (Act.put _ (some 34) _) _
          (try simp only [Act.put, ssA, ssZ, ssS])
          have hLeaf := hH9
        case' n78 =>
         have cB := yx hB i hi5
         rw [HZN.out] at cB
         refine jl (by rfl) (.tmp 33) (by rfl) ⟨gB, i, none⟩ ZN (by rfl) cB ?_
         refine hK.out _ _ trivial (fun hH9 => ?_)
         clear hK K
         change wpAnyH _ _ _ _ _ _ _ (Act.put _ (some 34) _) _
         (try simp only [Act.put, ssA, ssZ, ssS])
         refine wpAnyH_ready (rs := [5]) (by kernel_rfl) (by simp) ?_
         refine AllReadyH.cons (o := _) rfl (fun K hK => ?n81) AllReadyH.nil
         case' n81 =>
          have cA := yu hA i hi5
          rw [HCT.out] at cA
          refine jl (by rfl) (.tmp 29) (by rfl) ⟨gA, i, none⟩ CT (by rfl) cA ?_
          refine hK.out _ _ trivial (fun hH5 => ?_)
          clear hK K
          change wpAnyH _ _ _ _ _ _ _ (Act.put _ (some 30) _) _
          (try simp only [Act.put, ssA, ssZ, ssS])
          have hLeaf := hH5
      case' n72 =>
       refine qo (by rfl) 15 14 15 38 5 (by rfl) ?_
       have hlgB : b < W1.heap.size := hs.lt
       have hB := Blk.new W1 3 #[.int .i64 15, .int .i64 14, .int .i64 15, .int .i64 38, .int .i64 5]
       replace hs := SX.alloc hs (.cells #[.int .i64 15, .int .i64 14, .int .i64 15, .int .i64 38, .int .i64 5] 3)
       replace hown := EntsFrom.grown hown (World.grownBy_alloc W1 (.cells #[.int .i64 15, .int .i64 14, .int .i64 15, .int .i64 38, .int .i64 5] 3) none)
       replace hN := Blk.alloc hN (.cells #[.int .i64 15, .int .i64 14, .int .i64 15, .int .i64 38, .int .i64 5] 3)
       replace hG := jd hG (.cells #[.int .i64 15, .int .i64 14, .int .i64 15, .int .i64 38, .int .i64 5] 3)
       replace hGd := jd hGd (.cells #[.int .i64 15, .int .i64 14, .int .i64 15, .int .i64 38, .int .i64 5] 3)
       generalize W1.alloc (.cells #[.int .i64 15, .int .i64 14, .int .i64 15, .int .i64 38, .int .i64 5] 3) = W2 at *
       generalize W1.heap.size = gB at *
       refine hK.out _ _ trivial (fun hH6 => ?_)
       clear hK K
       change wpAnyH _ _ _ _ _ _ _ (Act.put _ (some 31) _) _
       (try simp only [Act.put, ssA, ssZ, ssS])
       refine tkH 8 33 hH6 ?_
       simp only [Act.put, ssA, ssZ, ssS]
       refine wpAnyH_ready (rs := [2, 9]) (by kernel_rfl) (by simp) ?_
       refine AllReadyH.cons (o := _) rfl (fun K hK => ?n83) (AllReadyH.cons (o := _) rfl (fun K hK => ?n82) AllReadyH.nil)
       case' n83 =>
        refine qo (by rfl) 4 4 4 1 5 (by rfl) ?_
        have hlgA : b < W2.heap.size := hs.lt
        have hA := Blk.new W2 3 #[.int .i64 4, .int .i64 4, .int .i64 4, .int .i64 1, .int .i64 5]
        replace hs := SX.alloc hs (.cells #[.int .i64 4, .int .i64 4, .int .i64 4, .int .i64 1, .int .i64 5] 3)
        replace hown := EntsFrom.grown hown (World.grownBy_alloc W2 (.cells #[.int .i64 4, .int .i64 4, .int .i64 4, .int .i64 1, .int .i64 5] 3) none)
        replace hN := Blk.alloc hN (.cells #[.int .i64 4, .int .i64 4, .int .i64 4, .int .i64 1, .int .i64 5] 3)
        replace hB := Blk.alloc hB (.cells #[.int .i64 4, .int .i64 4, .int .i64 4, .int .i64 1, .int .i64 5] 3)
        replace hG := jd hG (.cells #[.int .i64 4, .int .i64 4, .int .i64 4, .int .i64 1, .int .i64 5] 3)
        replace hGd := jd hGd (.cells #[.int .i64 4, .int .i64 4, .int .i64 4, .int .i64 1, .int .i64 5] 3)
        generalize W2.alloc (.cells #[.int .i64 4, .int .i64 4, .int .i64 4, .int .i64 1, .int .i64 5] 3) = W3 at *
        generalize W2.heap.size = gA at *
        refine hK.out _ _ trivial (fun hH2 => ?_)
        clear hK K
        change wpAnyH _ _ _ _ _ _ _ (Act.put _ (some 27) _) _
        (try simp only [Act.put, ssA, ssZ, ssS])
        refine tkH 4 29 hH2 ?_
        simp only [Act.put, ssA, ssZ, ssS]
        refine wpAnyH_ready (rs := [5, 9]) (by kernel_rfl) (by simp) ?_
        refine AllReadyH.cons (o := _) rfl (fun K hK => ?n85) (AllReadyH.cons (o := _) rfl (fun K hK => ?n84) AllReadyH.nil)
        case' n85 =>
         have cA := yu hA i hi5
         rw [HCT.out] at cA
         refine jl (by rfl) (.tmp 29) (by rfl) ⟨gA, i, none⟩ CT (by rfl) cA ?_
         refine hK.out _ _ trivial (fun hH5 => ?_)
         clear hK K
         change wpAnyH _ _ _ _ _ _ _ (Act.put _ (some 30) _) _
         (try simp only [Act.put, ssA, ssZ, ssS])
         refine wpAnyH_ready (rs := [9]) (by kernel_rfl) (by simp) ?_
         refine AllReadyH.cons (o := _) rfl (fun K hK => ?n86) AllReadyH.nil
         case' n86 =>
          have cB := yx hB i hi5
          rw [HZN.out] at cB
          refine jl (by rfl) (.tmp 33) (by rfl) ⟨gB, i, none⟩ ZN (by rfl) cB ?_
          refine hK.out _ _ trivial (fun hH9 => ?_)
          clear hK K
          change wpAnyH _ _ _ _ _ _ _ (Act.put _ (some 34) _) _
          (try simp only [Act.put, ssA, ssZ, ssS])
          have hLeaf := hH9
        case' n84 =>
         have cB := yx hB i hi5
         rw [HZN.out] at cB
         refine jl (by rfl) (.tmp 33) (by rfl) ⟨gB, i, none⟩ ZN (by rfl) cB ?_
         refine hK.out _ _ trivial (fun hH9 => ?_)
         clear hK K
         change wpAnyH _ _ _ _ _ _ _ (Act.put _ (some 34) _) _
         (try simp only [Act.put, ssA, ssZ, ssS])
         refine wpAnyH_ready (rs := [5]) (by kernel_rfl) (by simp) ?_
         refine AllReadyH.cons (o := _) rfl (fun K hK => ?n87) AllReadyH.nil
         case' n87 =>
          have cA := yu hA i hi5
          rw [HCT.out] at cA
          refine jl (by rfl) (.tmp 29) (by rfl) ⟨gA, i, none⟩ CT (by rfl) cA ?_
          refine hK.out _ _ trivial (fun hH5 => ?_)
          clear hK K
          change wpAnyH _ _ _ _ _ _ _ (Act.put _ (some 30) _) _
          (try simp only [Act.put, ssA, ssZ, ssS])
          have hLeaf := hH5
       case' n82 =>
        have cB := yx hB i hi5
        rw [HZN.out] at cB
        refine jl (by rfl) (.tmp 33) (by rfl) ⟨gB, i, none⟩ ZN (by rfl) cB ?_
        refine hK.out _ _ trivial (fun hH9 => ?_)
        clear hK K
        change wpAnyH _ _ _ _ _ _ _ (Act.put _ (some 34) _) _
        (try simp only [Act.put, ssA, ssZ, ssS])
        refine wpAnyH_ready (rs := [2]) (by kernel_rfl) (by simp) ?_
        refine AllReadyH.cons (o := _) rfl (fun K hK => ?n88) AllReadyH.nil
        case' n88 =>
         refine qo (by rfl) 4 4 4 1 5 (by rfl) ?_
         have hlgA : b < W2.heap.size := hs.lt
         have hA := Blk.new W2 3 #[.int .i64 4, .int .i64 4, .int .i64 4, .int .i64 1, .int .i64 5]
         replace hs := SX.alloc hs (.cells #[.int .i64 4, .int .i64 4, .int .i64 4, .int .i64 1, .int .i64 5] 3)
         replace hown := EntsFrom.grown hown (World.grownBy_alloc W2 (.cells #[.int .i64 4, .int .i64 4, .int .i64 4, .int .i64 1, .int .i64 5] 3) none)
         replace hN := Blk.alloc hN (.cells #[.int .i64 4, .int .i64 4, .int .i64 4, .int .i64 1, .int .i64 5] 3)
         replace hB := Blk.alloc hB (.cells #[.int .i64 4, .int .i64 4, .int .i64 4, .int .i64 1, .int .i64 5] 3)
         replace hG := jd hG (.cells #[.int .i64 4, .int .i64 4, .int .i64 4, .int .i64 1, .int .i64 5] 3)
         replace hGd := jd hGd (.cells #[.int .i64 4, .int .i64 4, .int .i64 4, .int .i64 1, .int .i64 5] 3)
         generalize W2.alloc (.cells #[.int .i64 4, .int .i64 4, .int .i64 4, .int .i64 1, .int .i64 5] 3) = W4 at *
         generalize W2.heap.size = gA at *
         refine hK.out _ _ trivial (fun hH2 => ?_)
         clear hK K
         change wpAnyH _ _ _ _ _ _ _ (Act.put _ (some 27) _) _
         (try simp only [Act.put, ssA, ssZ, ssS])
         refine tkH 4 29 hH2 ?_
         simp only [Act.put, ssA, ssZ, ssS]
         refine wpAnyH_ready (rs := [5]) (by kernel_rfl) (by simp) ?_
         refine AllReadyH.cons (o := _) rfl (fun K hK => ?n89) AllReadyH.nil
         case' n89 =>
          have cA := yu hA i hi5
          rw [HCT.out] at cA
          refine jl (by rfl) (.tmp 29) (by rfl) ⟨gA, i, none⟩ CT (by rfl) cA ?_
          refine hK.out _ _ trivial (fun hH5 => ?_)
          clear hK K
          change wpAnyH _ _ _ _ _ _ _ (Act.put _ (some 30) _) _
          (try simp only [Act.put, ssA, ssZ, ssS])
          have hLeaf := hH5
     all_goals
      rename World => WL
      refine wpAnyH_take (i := 12) (v := ?_) rfl (by kernel_rfl) (by kernel_rfl) (by kernel_rfl) (fun _ _ _ h => h) (Or.inl ⟨by kernel_rfl, ?_⟩) hLeaf ?_
      rotate_left
      ·intro w hSw
       refine jr5 (.tmp 26) (.tmp 30) (.tmp 34) (.tmp 36) ?_ NM CT ZN a z ?_ ?_ ?_ ?_ <;> rfl
      change wpAnyH _ _ _ _ _ _ _ (Act.put _ (some 37) _) _
      simp only [Act.put, ssA, ssZ, ssS]
      refine wpAnyH_ready (rs := [13]) (by kernel_rfl) (by simp) ?_
      refine AllReadyH.cons (o := _) rfl (fun K hK => ?_) AllReadyH.nil
      refine jpq (by rfl) (.tmp 37) (by rfl) NM CT ZN a z (by rfl) ?_
      have hE := Blk.new WL 139 #[.string NM, .int .i64 CT, .int .i64 ZN, .int .i64 a, .int .i64 z]
      replace hs := SX.alloc hs (.cells #[.string NM, .int .i64 CT, .int .i64 ZN, .int .i64 a, .int .i64 z] 139)
      replace hown := EntsFrom.grown hown (World.grownBy_alloc WL (.cells #[.string NM, .int .i64 CT, .int .i64 ZN, .int .i64 a, .int .i64 z] 139) none)
      replace hN := Blk.alloc hN (.cells #[.string NM, .int .i64 CT, .int .i64 ZN, .int .i64 a, .int .i64 z] 139)
      replace hG := jd hG (.cells #[.string NM, .int .i64 CT, .int .i64 ZN, .int .i64 a, .int .i64 z] 139)
      replace hGd := jd hGd (.cells #[.string NM, .int .i64 CT, .int .i64 ZN, .int .i64 a, .int .i64 z] 139)
      generalize WL.alloc (.cells #[.string NM, .int .i64 CT, .int .i64 ZN, .int .i64 a, .int .i64 z] 139) = WM at *
      generalize WL.heap.size = gE at *
      refine hK.out _ _ trivial (fun hH13 => ?_)
      clear hK K
      change wpAnyH _ _ _ _ _ _ _ (Act.put _ (some 38) _) _
      (try simp only [Act.put, ssA, ssZ, ssS])
      refine wpAnyH_ready (rs := [14]) (by kernel_rfl) (by simp) ?_
      refine AllReadyH.cons (o := _) rfl (fun K hK => ?_) AllReadyH.nil
      have hszW := HSZB.out _ hGd
      refine step_append_lies _ (by rfl) (.tmp 25) (.tmp 38) 26 (by rfl) b1 139 i0 _ 5 48 Tryz.underlying26 hi hz0 hz1 hz2 rfl (by decide) _ _ _ (by rfl) (show World.ownsRow WM b1 139 5 (.slice A2 LN c2) LN (l.flatMap jvj) from by have h := hown; unfold EntsFrom at h; rw [HLN.out] at h; exact h) ⟨gE, 0, none⟩ 1 1 [.string NM, .int .i64 CT, .int .i64 ZN, .int .i64 a, .int .i64 z] (by rfl) rfl (World.news_of_block hE) (jk0 NM CT ZN a z) (by decide) (by unfold maxLen; omega) (by omega) hszW _ rfl ?_
      intro g9 cap w9 hown9 hg9 hat hglt
      have hrow := hown.lt
      refine hK.out _ _ trivial (fun hH14 => ?_)
      clear hK K
      change wpAnyH _ _ _ _ _ _ _ (Act.put _ (some 39) _) _
      (try simp only [Act.put, ssA, ssZ, ssS])
      refine tkH 15 4 hH14 ?_
      simp only [Act.put, ssA, ssZ, ssS]
      refine wpAnyH_done (by kernel_rfl) ?_ _
      go_wp2_with fail
      go_roundw
      case rel => exact ⟨i + 1, _, P + 1 + 1 + 1, by omega, by go_num, HNXT.out a z Ha Hz, by rw [List.length_append, HLN.out]; simp; omega, HALL2.out a z a0 a1 z0 z1, by omega, by omega, jn4 HLN.out.symm NM CT ZN a z hown9, hs.grown hg9 (fun g e => by have := (hrow g e).1; have := HBB.out; have := HBASE.out; omega), Blk.grown hN hg9 (fun e => by have := (hrow _ e.symm).1; have := HNB1.out; omega), jk hG hg9 (fun g e => .inr (by have := (hrow g e).1; have := HB1L.out; omega)), Nat.le_trans hszW hg9.size⟩
      case measure => simp [intOf]; omega
   have HN2 : Hid (rtE L k (i + 1) = (l, P + 1)) := jv5 HRT.out HF.out
   go_wp2_with fail
   go_roundw
   case rel => exact ⟨i + 1, l, P + 1, by omega, by go_num, HN2, by rw [HLN.out]; omega, HAE, by omega, by omega, hown, hs2, hN, hG, HSZ2.out⟩
   case measure => simp [intOf]; omega
  have h5 : i = 5 := by omega
  have HRT5 : Hid (rtE L k 5 = (l, P)) := by show _ = _; rw [← h5]; exact HRT.out
  have hnl : ¬ (i : Int) < 5 := by omega
  have hP5 : P ≤ k + 15 := by omega
  have hll5 : l.length ≤ 5 := by omega
  clear hP1 hll h5 HRT hi5 hi5'
  have hll := hll5
  clear hll5
  obtain ⟨A2, c2, rfl, _, _⟩ := hown.shape
  obtain ⟨LN, hLN⟩ : ∃ LN, l.length = LN := ⟨_, rfl⟩
  rw [hLN] at hown hll
  (try rw [hLN])
  have HLN := Lib.hid hLN
  have HOW : Hid (World.ownsRow wr b1 139 5 (.slice A2 LN c2) LN (l.flatMap jvj)) := by
   show World.ownsRow _ _ _ _ _ _ _
   have h := hown
   unfold EntsFrom at h
   rw [hLN] at h
   exact h
  have HOWN := Lib.hid hown
  clear hLN hown hN
  go_upto_if 43 with fail
  go_cut [4] (fun s wq => ∃ l2, Hid ((if l.length = 0 then l ++ [jwe] else l) = l2) ∧ EntsFrom b1 wq s l2 ∧ 1 ≤ l2.length ∧ l2.length ≤ 5 ∧ Hid (ju9 l2) ∧ SX base wq b L P ∧ w.grownBy wq (some b) ∧ b1 ≤ wq.heap.size)
  case first =>
   rcases Nat.eq_zero_or_pos LN with h0 | h0
   ·subst h0
    go_wp2_with (at_builtin; refine wpList_append_lies _ rfl _ _ 26 rfl b1 139 i0 _ 5 48 Tryz.underlying26 hi hz0 hz1 hz2 rfl (by decide) _ 0 _ rfl (World.ownsRow.alloc HOW.out _) ⟨_, 0, none⟩ 1 1 [.string ⟨#[117, 115, 97]⟩, .int .i64 5, .int .i64 5, .int .i64 0, .int .i64 345686400000] rfl rfl (World.news_of_block (Blk.new _ _ _)) (jk0 _ _ _ _ _) (by decide) (by unfold maxLen; omega) (by omega) (by simp; omega) _ rfl ?_; intro g9 cap w9 hown9 hg9 hat9 hgl9)
    have hl0 : l.length = 0 := HLN.out
    have hrow := HOW.out.lt
    go_wp2_with fail
    go_meet
    exact ⟨l ++ [jwe], (by show _ = _; rw [if_pos hl0]), jn4 HLN.out.symm _ _ _ _ _ hown9, by simp, by simp [hl0], (fun e he => by
     rcases List.mem_append.1 he with h | h
     ·exact HAE.out e h
     ·simp only [List.mem_singleton] at h
      subst h
      exact ⟨by decide, by decide, by decide, by decide, by decide⟩), (hs.alloc _).grown hg9 (fun g e => by have := (hrow g e).1; have := HBB.out; have := HBASE.out; omega), jk (jd hG _) hg9 (fun g e => .inr (by have := (hrow g e).1; have := HB1L.out; omega)), by have := hg9.size; simp at this; omega⟩
   have hz : ((LN : Int) == 0) = false := by rw [beq_eq_false_iff_ne]; omega
   go_wp2_with fail
   go_meet
   exact ⟨l, (by show _ = _; rw [if_neg (by rw [HLN.out]; omega)]), HOWN.out, by rw [HLN.out]; exact h0, by rw [HLN.out]; exact hll, HAE, hs, hG, hsz⟩
  case rest =>
   obtain ⟨l2, HL2, hown2, hl21, hl25, HAE2, hs2, hG2, hsz2⟩ := hcut
   rename World => w2
   clear hs hG hsz HOW HOWN
   obtain ⟨A3, c3, rfl, _, hA3⟩ := hown2.shape
   obtain ⟨LE, hLE⟩ : ∃ LE, l2.length = LE := ⟨_, rfl⟩
   rw [hLE] at hown2 hl21 hl25 hA3
   (try rw [hLE])
   have HLE := Lib.hid hLE
   obtain ⟨gE, rfl, hgE1, hgE2⟩ := hA3 hl21
   clear hLE hA3
   have hS := Blk.new w2 9 #[.string ⟨#[51, 100]⟩, .string ⟨#[51, 100, 97]⟩, .string ⟨#[100, 108]⟩, .string ⟨#[103]⟩, .string ⟨#[107]⟩, .string ⟨#[107, 49]⟩, .string ⟨#[107, 49, 97, 98]⟩, .string ⟨#[107, 52]⟩, .string ⟨#[111, 104]⟩, .string ⟨#[111, 104, 48]⟩, .string ⟨#[111, 104, 50]⟩, .string ⟨#[119]⟩]
   have hs3 := hs2.alloc (.cells #[.string ⟨#[51, 100]⟩, .string ⟨#[51, 100, 97]⟩, .string ⟨#[100, 108]⟩, .string ⟨#[103]⟩, .string ⟨#[107]⟩, .string ⟨#[107, 49]⟩, .string ⟨#[107, 49, 97, 98]⟩, .string ⟨#[107, 52]⟩, .string ⟨#[111, 104]⟩, .string ⟨#[111, 104, 48]⟩, .string ⟨#[111, 104, 50]⟩, .string ⟨#[119]⟩] 9)
   have hG3 := jd hG2 (.cells #[.string ⟨#[51, 100]⟩, .string ⟨#[51, 100, 97]⟩, .string ⟨#[100, 108]⟩, .string ⟨#[103]⟩, .string ⟨#[107]⟩, .string ⟨#[107, 49]⟩, .string ⟨#[107, 49, 97, 98]⟩, .string ⟨#[107, 52]⟩, .string ⟨#[111, 104]⟩, .string ⟨#[111, 104, 48]⟩, .string ⟨#[111, 104, 50]⟩, .string ⟨#[119]⟩] 9)
   have hown3 := EntsFrom.grown hown2 (World.grownBy_alloc w2 (.cells #[.string ⟨#[51, 100]⟩, .string ⟨#[51, 100, 97]⟩, .string ⟨#[100, 108]⟩, .string ⟨#[103]⟩, .string ⟨#[107]⟩, .string ⟨#[107, 49]⟩, .string ⟨#[107, 49, 97, 98]⟩, .string ⟨#[107, 52]⟩, .string ⟨#[111, 104]⟩, .string ⟨#[111, 104, 48]⟩, .string ⟨#[111, 104, 50]⟩, .string ⟨#[119]⟩] 9) none)
   have HB2 : Hid ((w2.alloc (.cells #[.string ⟨#[51, 100]⟩, .string ⟨#[51, 100, 97]⟩, .string ⟨#[100, 108]⟩, .string ⟨#[103]⟩, .string ⟨#[107]⟩, .string ⟨#[107, 49]⟩, .string ⟨#[107, 49, 97, 98]⟩, .string ⟨#[107, 52]⟩, .string ⟨#[111, 104]⟩, .string ⟨#[111, 104, 48]⟩, .string ⟨#[111, 104, 50]⟩, .string ⟨#[119]⟩] 9)).heap.size = w2.heap.size + 1) := by show _ = _; simp
   clear hs2 hG2 hown2
   go_wp2_with fail
   generalize w2.alloc (.cells #[.string ⟨#[51, 100]⟩, .string ⟨#[51, 100, 97]⟩, .string ⟨#[100, 108]⟩, .string ⟨#[103]⟩, .string ⟨#[107]⟩, .string ⟨#[107, 49]⟩, .string ⟨#[107, 49, 97, 98]⟩, .string ⟨#[107, 52]⟩, .string ⟨#[111, 104]⟩, .string ⟨#[111, 104, 48]⟩, .string ⟨#[111, 104, 50]⟩, .string ⟨#[119]⟩] 9) = w4 at *
   obtain ⟨gS, hgS⟩ : ∃ x, w2.heap.size = x := ⟨_, rfl⟩
   rw [hgS] at hS HB2 hgE2 hsz2 ⊢
   obtain ⟨b2, hb2⟩ : ∃ x, w4.heap.size = x := ⟨_, rfl⟩
   rw [hb2] at HB2
   have HBB2 : Hid (b < b2) := by show _ < _; have := HB2.out; have := HBB.out; omega
   have HE2 : Hid (gE < b2 ∧ b1 ≤ gE ∧ gE ≠ b) := ⟨by have := HB2.out; omega, hgE1, by have := HBB.out; omega⟩
   have HS2 : Hid (gS < b2 ∧ gS ≠ b) := ⟨by have := HB2.out; omega, by have := HBB.out; omega⟩
   have HB12 : Hid (b1 ≤ b2) := by show _ ≤ _; have := HB2.out; omega
   have HSZ2 : Hid (b2 ≤ w4.heap.size) := by show _ ≤ _; omega
   clear hgS hb2 hgE1 hgE2 hsz2
   go_loopw [7, 51] (fun pv jv wr => ∃ (j : Nat) (p : List Pfx) (P2 : Nat), j ≤ 12 ∧ jv = .int .i64 j ∧ Hid (rtP L l2 P j = (p, P2)) ∧ p.length ≤ 2 * j ∧ Hid (ju2 p) ∧ P ≤ P2 ∧ P2 ≤ P + 10 * j ∧ PfxsFrom b2 wr pv p ∧ EntsFrom b1 wr (.slice (some ⟨gE, 0, none⟩) LE c3) l2 ∧ SX base wr b L P2 ∧ Blk wr gS 9 #[.string ⟨#[51, 100]⟩, .string ⟨#[51, 100, 97]⟩, .string ⟨#[100, 108]⟩, .string ⟨#[103]⟩, .string ⟨#[107]⟩, .string ⟨#[107, 49]⟩, .string ⟨#[107, 49, 97, 98]⟩, .string ⟨#[107, 52]⟩, .string ⟨#[111, 104]⟩, .string ⟨#[111, 104, 48]⟩, .string ⟨#[111, 104, 50]⟩, .string ⟨#[119]⟩] ∧ w.grownBy wr (some b) ∧ b2 ≤ wr.heap.size) (fun _ jv _ => 12 - (intOf jv).toNat)
   case atStart => exact ⟨0, [], P, by omega, rfl, rfl, by simp, (fun e he => by simp at he), by omega, by omega, World.ownsRow_nil _ _ _ _, hown3, hs3, hS, hG3, HSZ2.out⟩
   case round =>
    obtain ⟨j, p, P2, hj', rfl, HRP, hpl, HAP, hP2, hP3, hownp, hownE, hs, hSS, hG, hsz⟩ := hrel
    clear hown3 hs3 hS hG3 HSZ2
    obtain ⟨A4, c4, rfl, _, _⟩ := hownp.shape
    obtain ⟨LP, hLP⟩ : ∃ LP, p.length = LP := ⟨_, rfl⟩
    rw [hLP] at hownp hpl
    (try rw [hLP])
    have HLP := Lib.hid hLP
    clear hLP
    by_cases hj12 : j < 12
    ·have hjj : (j : Int) < 12 := by omega
     have hj0 : (0 : Int) ≤ (j : Int) := by omega
     have cB := jwh hSS j hj12
     obtain ⟨BJ, hBJ⟩ : ∃ x, jcj j = x := ⟨_, rfl⟩
     rw [hBJ] at cB
     have HBJ := Lib.hid hBJ
     have hroww : ∀ {W W' : World}, W.grownBy W' (some b) → PfxsFrom b2 W (.slice A4 LP c4) p → PfxsFrom b2 W' (.slice A4 LP c4) p := fun hg h => PfxsFrom.other h hg HBB2.out
     have hrowe : ∀ {W W' : World}, W.grownBy W' (some b) → EntsFrom b1 W (.slice (some ⟨gE, 0, none⟩) LE c3) l2 → EntsFrom b1 W' (.slice (some ⟨gE, 0, none⟩) LE c3) l2 := fun hg h => EntsFrom.other h hg HBB.out
     clear hBJ
     go_wp2_with fail
     refine (jac base b L P2 4 _ hs (by omega) (by omega) (by omega)).mono ?_
     rintro _ w5 ⟨fl, HF, rfl, hs5, hg5⟩
     have hownp5 := hroww hg5 hownp
     have hownE5 := hrowe hg5 hownE
     have hSS5 := Blk.grown hSS hg5 (by have := HS2.out.2; simpa using this)
     have hG5 := ja hG hg5
     have hsz5 : b2 ≤ w5.heap.size := by have := hg5.size; omega
     clear hs hg5 hownp hownE hSS hG cB
     cases fl
     ·go_wp2_with fail
      refine (jf7 base b L (P2 + 1) (LE : Int) _ hs5 (by omega) (by omega) (by omega)).mono ?_
      rintro _ w6 ⟨v1, v10, v11, HV1, rfl, hs6, hg6⟩
      obtain ⟨n1, rfl⟩ := Int.eq_ofNat_of_zero_le v10
      have hn1 : n1 < l2.length := by rw [HLE.out]; omega
      have hn1i : (n1 : Int) < (LE : Int) := by omega
      have hn10 : (0 : Int) ≤ (n1 : Int) := by omega
      have hownp6 := hroww hg6 hownp5
      have hownE6 := hrowe hg6 hownE5
      have hSS6 := Blk.grown hSS5 hg6 (by have := HS2.out.2; simpa using this)
      have hG6 := ja hG5 hg6
      have hsz6 : b2 ≤ w6.heap.size := by have := hg6.size; omega
      obtain ⟨q0, _, _, _, _⟩ := (show EntsFrom b1 w6 (.slice (some ⟨gE, 0, none⟩) l2.length c3) l2 from by rw [HLE.out]; exact hownE6).at_ n1 hn1
      obtain ⟨KY, hKY⟩ : ∃ x, l2[n1].key = x := ⟨_, rfl⟩
      rw [hKY] at q0
      have HKY : Hid (jjx l2 n1 = KY ∧ KY.size ≤ 7) := ⟨by rw [jg2 l2 n1 hn1, hKY], by rw [← hKY]; exact (HAE2.out _ (List.getElem_mem hn1)).1⟩
      have hK := Blk.new w6 9 #[.string KY]
      have hgA := World.grownBy_alloc w6 (.cells #[.string KY] 9) none
      have hs7 := hs6.alloc (.cells #[.string KY] 9)
      have hownp7 := PfxsFrom.grown hownp6 hgA
      have hownE7 := EntsFrom.grown hownE6 hgA
      have hSS7 := Blk.alloc hSS6 (.cells #[.string KY] 9)
      have hG7 := jd hG6 (.cells #[.string KY] 9)
      clear hs5 hs6 hg6 hownp5 hownp6 hownE5 hownE6 hSS5 hSS6 hG5 hG6 hKY
      go_upto_region 16 with fail
      have hsz7 : b2 ≤ (w6.alloc (.cells #[.string KY] 9)).heap.size := by have := hgA.size; omega
      have hKs : w6.heap.size < (w6.alloc (.cells #[.string KY] 9)).heap.size := hK.lt
      generalize w6.alloc (.cells #[.string KY] 9) = w7 at *
      generalize w6.heap.size = gK at *
      have hKb : gK ≠ b := by have := HBB2.out; omega
      clear q0 hgA
      go_wp2_with fail
      refine (jac base b L (P2 + 1 + 1) 2 _ hs7 (by omega) (by omega) (by omega)).mono ?_
      rintro _ w8 ⟨f2, HF2, rfl, hs8, hg8⟩
      have hownp8 := hroww hg8 hownp7
      have hownE8 := hrowe hg8 hownE7
      have hSS8 := Blk.grown hSS7 hg8 (by have := HS2.out.2; simpa using this)
      have hK8 := Blk.grown hK hg8 (by simpa using hKb)
      have hG8 := ja hG7 hg8
      have hsz8 : b2 ≤ w8.heap.size := by have := hg8.size; omega
      have hKl := hK8.lt
      clear hs7 hg8 hownp7 hownE7 hSS7 hG7 hsz7 hKs hK
      go_upto_if 66 with fail
      go_cut [10] (fun s wq => s = .pointer (some ⟨gK, 0, none⟩) ∧ ∃ e1, Hid (jdl L l2 j P2 = e1 ∧ e1.size ≤ 7) ∧ Blk wq gK 9 #[.string e1] ∧ PfxsFrom b2 wq (.slice A4 LP c4) p ∧ EntsFrom b1 wq (.slice (some ⟨gE, 0, none⟩) LE c3) l2 ∧ SX base wq b L (P2 + 1 + 1 + 1) ∧ Blk wq gS 9 #[.string ⟨#[51, 100]⟩, .string ⟨#[51, 100, 97]⟩, .string ⟨#[100, 108]⟩, .string ⟨#[103]⟩, .string ⟨#[107]⟩, .string ⟨#[107, 49]⟩, .string ⟨#[107, 49, 97, 98]⟩, .string ⟨#[107, 52]⟩, .string ⟨#[111, 104]⟩, .string ⟨#[111, 104, 48]⟩, .string ⟨#[111, 104, 50]⟩, .string ⟨#[119]⟩] ∧ w.grownBy wq (some b) ∧ b2 ≤ wq.heap.size)
      case first =>
       as_aux_lemma =>
        cases f2
        ·have HS1 : Hid (jdl L l2 j P2 = KY ∧ KY.size ≤ 7) := ⟨by unfold jdl; rw [HF2.out, HLE.out, HV1.out, Int.toNat_natCast, HKY.out.1]; rfl, HKY.out.2⟩
         go_wp2_with fail
         go_meet
         exact ⟨rfl, KY, HS1, hK8, hownp8, hownE8, hs8, hSS8, hG8, hsz8⟩
        have HS1 : Hid (jdl L l2 j P2 = ju6 j ∧ (ju6 j).size ≤ 7) := ⟨by unfold jdl; rw [HF2.out]; rfl, (jfu j hj12).2⟩
        obtain ⟨hB0, hlook⟩ := jtp j hj12
        have hmm := @run_makeMap Tryz.prog
        have M0 := MapB.made w8
        obtain ⟨m1, r1, M1, g1⟩ := M0.put (by omega) 51 [115, 119, 97, 122, 105] (by decide)
        obtain ⟨m2, r2, M2, g2⟩ := M1.put (by omega) 103 [101, 110, 103, 108, 97, 110, 100] (by decide)
        obtain ⟨m3, r3, M3, g3⟩ := M2.put (by omega) 107 [117, 115, 97] (by decide)
        obtain ⟨m4, r4, M4, g4⟩ := M3.put (by omega) 111 [102, 105, 110, 108, 97, 110, 100] (by decide)
        obtain ⟨m5, r5, M5, g5⟩ := M4.put (by omega) 119 [117, 115, 97] (by decide)
        obtain ⟨m6, r6, M6, g6⟩ := M5.put (by omega) 100 [101, 110, 103, 108, 97, 110, 100] (by decide)
        have hlk := MapB.look (l := mlL) M6 ((jcj j)[0]'hB0)
        rw [hlook] at hlk
        obtain ⟨EW, hEW⟩ : ∃ x, ju6 j = x := ⟨_, rfl⟩
        rw [hEW] at hlk HS1
        have hBJ2 := HBJ.out
        subst hBJ2
        have hB0i : (0 : Int) < ((jcj j).size : Int) := by omega
        have gM : w8.grownBy m6 none := by
         have ga := World.grownBy_alloc w8 (.map #[] 0) none
         have side : ∀ g, some w8.heap.size = some g → none = some g ∨ w8.heap.size ≤ g := fun g e => by injection e with e; exact .inr (by omega)
         exact jk (jk (jk (jk (jk (jk ga g1 side) g2 side) g3 side) g4 side) g5 side) g6 side
        have s1 : (Instr.mapUpdate 140 (.map (some w8.heap.size)) (.int .u8 51) (.string ⟨#[115, 119, 97, 122, 105]⟩)).run Tryz.prog (w8.alloc (.map #[] 0)) = .ok () m1 := r1
        have s2 : (Instr.mapUpdate 140 (.map (some w8.heap.size)) (.int .u8 103) (.string ⟨#[101, 110, 103, 108, 97, 110, 100]⟩)).run Tryz.prog m1 = .ok () m2 := r2
        have s3 : (Instr.mapUpdate 140 (.map (some w8.heap.size)) (.int .u8 107) (.string ⟨#[117, 115, 97]⟩)).run Tryz.prog m2 = .ok () m3 := r3
        have s4 : (Instr.mapUpdate 140 (.map (some w8.heap.size)) (.int .u8 111) (.string ⟨#[102, 105, 110, 108, 97, 110, 100]⟩)).run Tryz.prog m3 = .ok () m4 := r4
        have s5 : (Instr.mapUpdate 140 (.map (some w8.heap.size)) (.int .u8 119) (.string ⟨#[117, 115, 97]⟩)).run Tryz.prog m4 = .ok () m5 := r5
        have s6 : (Instr.mapUpdate 140 (.map (some w8.heap.size)) (.int .u8 100) (.string ⟨#[101, 110, 103, 108, 97, 110, 100]⟩)).run Tryz.prog m5 = .ok () m6 := r6
        have hK9 := Blk.grown hK8 gM (by simp)
        have hownp9 := PfxsFrom.grown hownp8 gM
        have hownE9 := EntsFrom.grown hownE8 gM
        have hs9 := hs8.grown gM (by simp)
        have hSS9 := Blk.grown hSS8 gM (by simp)
        have hG9 := ja hG8 (jb8 gM (some b))
        have hk0 := hK9.cell 0
        have hkf := hK9.free
        simp only [List.getElem?_toArray, List.getElem?_cons_zero] at hk0
        have HG := Lib.hid gM
        clear r1 r2 r3 r4 r5 r6 M0 M1 M2 M3 M4 M5 M6 g1 g2 g3 g4 g5 g6 hlook hEW gM
        go_wp2_with fail
        go_meet
        have hP9 : m6.grownBy (m6.setCell ⟨gK, 0, none⟩ (.string EW)) (some gK) := jg (p := ⟨gK, 0, none⟩) (jf _ _) (.inl rfl) _
        refine ⟨rfl, EW, HS1, Blk.put hK9 0 (.string EW), ye hK9 hownp9 (by decide) hP9, ye hK9 hownE9 (by decide) hP9, hs9.grown hP9 (fun g e => by injection e with e; have := HBASE.out; have := HBB2.out; exact ⟨fun h => hKb (by omega), by omega⟩), Blk.grown hSS9 hP9 (by simp; have := HS2.out.1; omega), jk hG9 hP9 (fun g e => by injection e with e; have := HB1L.out; have := HB12.out; exact .inr (by omega)), by have := HG.out.size; have := hP9.size; omega⟩
      case rest =>
       obtain ⟨rfl, e1, HE1, hK9, hownp9, hownE9, hs9, hSS9, hG9, hsz9⟩ := hcut
       rename World => w9
       clear hownp8 hownE8 hs8 hSS8 hG8 hsz8 hK8
       have hk0 := hK9.cell 0
       simp only [List.getElem?_toArray, List.getElem?_cons_zero] at hk0
       have HHE := Lib.hid (jl7 b1 gK _ l2 e1 w9 hownE9 (by rw [HLE.out]; omega) hk0)
       clear hk0
       go_wp2_with fail
       refine HHE.out.mono ?_
       rintro _ w10 ⟨rfl, hg10⟩
       have hK10 := Blk.grown hK9 hg10 (by simp)
       have hownp10 := PfxsFrom.grown hownp9 hg10
       have hownE10 := EntsFrom.grown hownE9 hg10
       have hs10 := hs9.grown hg10 (by simp)
       have hSS10 := Blk.grown hSS9 hg10 (by simp)
       have hG10 := ja hG9 (jb8 hg10 (some b))
       have hsz10 := Nat.le_trans hsz9 hg10.size
       obtain ⟨HB, hHB⟩ : ∃ x, ja0 l2 e1 = x := ⟨_, rfl⟩
       (try rw [hHB])
       have HHB := Lib.hid hHB
       clear hownp9 hownE9 hs9 hSS9 hG9 hsz9 hK9 hHB hg10
       go_upto_if 75 with fail
       go_cut [10] (fun s wq => s = .pointer (some ⟨gK, 0, none⟩) ∧ ∃ e2, Hid (jh6 l2 e1 = e2 ∧ e2.size ≤ 7) ∧ Blk wq gK 9 #[.string e2] ∧ PfxsFrom b2 wq (.slice A4 LP c4) p ∧ EntsFrom b1 wq (.slice (some ⟨gE, 0, none⟩) LE c3) l2 ∧ SX base wq b L (P2 + 1 + 1 + 1) ∧ Blk wq gS 9 #[.string ⟨#[51, 100]⟩, .string ⟨#[51, 100, 97]⟩, .string ⟨#[100, 108]⟩, .string ⟨#[103]⟩, .string ⟨#[107]⟩, .string ⟨#[107, 49]⟩, .string ⟨#[107, 49, 97, 98]⟩, .string ⟨#[107, 52]⟩, .string ⟨#[111, 104]⟩, .string ⟨#[111, 104, 48]⟩, .string ⟨#[111, 104, 50]⟩, .string ⟨#[119]⟩] ∧ w.grownBy wq (some b) ∧ b2 ≤ wq.heap.size)
       case first =>
        as_aux_lemma =>
         cases HB
         ·have hn0 : 0 < l2.length := by rw [HLE.out]; omega
          obtain ⟨q0, _, _, _, _⟩ := (show EntsFrom b1 w10 (.slice (some ⟨gE, 0, none⟩) l2.length c3) l2 from by rw [HLE.out]; exact hownE10).at_ 0 hn0
          obtain ⟨KZ, hKZ⟩ : ∃ x, l2[0].key = x := ⟨_, rfl⟩
          rw [hKZ] at q0
          have HE2' : Hid (jh6 l2 e1 = KZ ∧ KZ.size ≤ 7) := ⟨by unfold jh6; rw [HHB.out, jg2 l2 0 hn0, hKZ]; rfl, by rw [← hKZ]; exact (HAE2.out _ (List.getElem_mem hn0)).1⟩
          have hLE0 : (0 : Int) < (LE : Int) := by omega
          have q00 : w10.cell? ⟨gE, 0, none⟩ = some (.string KZ) := by simpa using q0
          have hk0 := hK10.cell 0
          have hkf := hK10.free
          simp only [List.getElem?_toArray, List.getElem?_cons_zero] at hk0
          clear hKZ
          go_wp2_with fail
          go_meet
          have hP9 : w10.grownBy (w10.setCell ⟨gK, 0, none⟩ (.string KZ)) (some gK) := jg (p := ⟨gK, 0, none⟩) (jf _ _) (.inl rfl) _
          refine ⟨rfl, KZ, HE2', Blk.put hK10 0 (.string KZ), ye hK10 hownp10 (by decide) hP9, ye hK10 hownE10 (by decide) hP9, hs10.grown hP9 (fun g e => by injection e with e; have := HBASE.out; have := HBB2.out; exact ⟨fun h => hKb (by omega), by omega⟩), Blk.grown hSS10 hP9 (by simp; have := HS2.out.1; omega), jk hG10 hP9 (fun g e => by injection e with e; have := HB1L.out; have := HB12.out; exact .inr (by omega)), Nat.le_trans hsz10 hP9.size⟩
         have HE2' : Hid (jh6 l2 e1 = e1 ∧ e1.size ≤ 7) := ⟨by unfold jh6; rw [HHB.out]; rfl, HE1.out.2⟩
         go_wp2_with fail
         go_meet
         exact ⟨rfl, e1, HE2', hK10, hownp10, hownE10, hs10, hSS10, hG10, hsz10⟩
       case rest =>
        obtain ⟨rfl, e2, HE2x, hK, hownp, hownE, hs, hSS, hG, hsz11⟩ := hcut
        rename World => w11
        clear hownp10 hownE10 hs10 hSS10 hG10 hsz10 hK10
        go_upto_region 20 with fail
        go_cut [11] (fun s wq => ∃ (gX : Nat) (a z zn : Int), s = .pointer (some ⟨gX, 0, none⟩) ∧ Hid (spA L (P2 + 3) = a) ∧ Hid (spZ L (P2 + 4) = z) ∧ Hid (zm L (P2 + 5) [0, 0, 3] = zn) ∧ 0 ≤ a ∧ a ≤ 100 ∧ 200 ≤ z ∧ z ≤ 345686400000 ∧ Blk wq gX 134 #[.string BJ, .string e2, .int .i64 a, .int .i64 z, .bool false, .int .i64 zn] ∧ Hid (gX ≠ b ∧ b2 ≤ gX ∧ gS ≠ gX) ∧ Hid (∀ g, (Value.slice A4 LP c4).ownBlock = some g → g < gX) ∧ PfxsFrom b2 wq (.slice A4 LP c4) p ∧ EntsFrom b1 wq (.slice (some ⟨gE, 0, none⟩) LE c3) l2 ∧ SX base wq b L (P2 + 1 + 1 + 1 + 1 + 1 + 1) ∧ Blk wq gS 9 #[.string ⟨#[51, 100]⟩, .string ⟨#[51, 100, 97]⟩, .string ⟨#[100, 108]⟩, .string ⟨#[103]⟩, .string ⟨#[107]⟩, .string ⟨#[107, 49]⟩, .string ⟨#[107, 49, 97, 98]⟩, .string ⟨#[107, 52]⟩, .string ⟨#[111, 104]⟩, .string ⟨#[111, 104, 48]⟩, .string ⟨#[111, 104, 50]⟩, .string ⟨#[119]⟩] ∧ w.grownBy wq (some b) ∧ b2 ≤ wq.heap.size)
        case first =>
         as_aux_lemma =>
          replace hs := SX.drew hs
          replace hSS := Blk.drew hSS
          replace hK := Blk.drew hK
          replace hG := jn hG
          replace hownE := EntsFrom.grown hownE (jn (jf w11 none))
          replace hownp := PfxsFrom.grown hownp (jn (jf w11 none))
          have hsz : b2 ≤ w11.drew.heap.size := hsz11
          refine wp_region_held_drew (S := fun V => V.cell? ⟨gK, 0, none⟩ = some (.string e2)) (by kernel_rfl) (hK.cell 0) (fun hHeld => ?_)
          generalize w11.drew = W0 at *
          refine tkH 0 80 hHeld ?_
          simp only [Act.put, ssA, ssZ, ssS]
          refine wpAnyH_take (i := 1) (v := ?_) rfl (by kernel_rfl) (by kernel_rfl) (by kernel_rfl) (fun _ _ _ h => h) (Or.inl ⟨by kernel_rfl, ?_⟩) hHeld ?_
          rotate_left
          ·intro w hSw
           refine jpf (.tmp 10) ?_ ⟨gK, 0, none⟩ e2 ?_ hSw <;> rfl
          change wpAnyH _ _ _ _ _ _ _ (Act.put _ (some 81) _) _
          simp only [Act.put, ssA, ssZ, ssS]
          refine tkH 2 82 hHeld ?_
          simp only [Act.put, ssA, ssZ, ssS]
          refine tkH 4 84 hHeld ?_
          simp only [Act.put, ssA, ssZ, ssS]
          refine wpAnyH_ready (rs := [3, 5, 8]) (by kernel_rfl) (by simp) ?_
          refine AllReadyH.cons (o := _) rfl (fun KK hK2 => ?m3) (AllReadyH.cons (o := _) rfl (fun KK hK2 => ?m2) (AllReadyH.cons (o := _) rfl (fun KK hK2 => ?m1) AllReadyH.nil))
          case' m3 =>
           refine j8 (by rfl) (.tmp 82) _ (by rfl) (.pointer (some ⟨b, 0, none⟩)) (by rfl) _ (qi base b L (P2 + 1 + 1 + 1) _ hs (by omega)) ?_
           rintro _ W1 ⟨a, z, rfl, Ha, Hz, a0, a1, z0, z1, hs2, hg2⟩
           refine ⟨_, rfl, ?_⟩
           replace hK := Blk.grown hK hg2 (by simpa using hKb)
           replace hSS := Blk.grown hSS hg2 (by have := HS2.out.2; simpa using this)
           replace hownp := hroww hg2 hownp
           replace hownE := hrowe hg2 hownE
           replace hG := ja hG hg2
           replace hsz := Nat.le_trans hsz hg2.size
           clear hs
           have hs := hs2
           clear hs2 hg2
           refine hK2.out _ _ (hK.cell 0) (fun hH3 => ?_)
           clear hK2
           change wpAnyH _ _ _ _ _ _ _ (Act.put _ (some 83) _) _
           (try simp only [Act.put, ssA, ssZ, ssS])
           refine wpAnyH_ready (rs := [5, 8]) (by kernel_rfl) (by simp) ?_
           refine AllReadyH.cons (o := _) rfl (fun KK hK2 => ?m5) (AllReadyH.cons (o := _) rfl (fun KK hK2 => ?m4) AllReadyH.nil)
           case' m5 =>
            refine jbi (by rfl) 0 0 3 (by rfl) ?_
            have hgLb : W1.heap.size ≠ b := by have := hs.lt; omega
            have hLt := Blk.new W1 3 #[.int .i64 0, .int .i64 0, .int .i64 3]
            have hs2 := SX.alloc hs (.cells #[.int .i64 0, .int .i64 0, .int .i64 3] 3)
            have hg2 := World.grownBy_alloc W1 (.cells #[.int .i64 0, .int .i64 0, .int .i64 3] 3) (some b)
            have hszn := Nat.le_trans hsz hg2.size
            generalize W1.alloc (.cells #[.int .i64 0, .int .i64 0, .int .i64 3] 3) = W2 at *
            generalize W1.heap.size = gL at *
            replace hK := Blk.grown hK hg2 (by simpa using hKb)
            replace hSS := Blk.grown hSS hg2 (by have := HS2.out.2; simpa using this)
            replace hownp := hroww hg2 hownp
            replace hownE := hrowe hg2 hownE
            replace hG := ja hG hg2
            replace hsz := hszn
            clear hszn
            clear hs
            have hs := hs2
            clear hs2 hg2
            refine hK2.out _ _ (hK.cell 0) (fun hH5 => ?_)
            clear hK2
            change wpAnyH _ _ _ _ _ _ _ (Act.put _ (some 85) _) _
            (try simp only [Act.put, ssA, ssZ, ssS])
            refine wpAnyH_ready (rs := [6, 8]) (by kernel_rfl) (by simp) ?_
            refine AllReadyH.cons (o := _) rfl (fun KK hK2 => ?m7) (AllReadyH.cons (o := _) rfl (fun KK hK2 => ?m6) AllReadyH.nil)
            case' m7 =>
             refine yw (by rfl) (.tmp 84) (.tmp 85) _ (by rfl) (.pointer (some ⟨b, 0, none⟩)) (.slice (some ⟨gL, 0, none⟩) 3 3) (by rfl) (by rfl) _ (jae base b L (P2 + 1 + 1 + 1 + 1 + 1) gL 3 3 [0, 0, 3] _ hs (by omega) hLt hgLb rfl (by decide) (by decide)) ?_
             rintro _ W3 ⟨zn, hzn, HZN, rfl, hs2, hg2⟩
             refine ⟨_, rfl, ?_⟩
             replace hK := Blk.grown hK hg2 (by simpa using hKb)
             replace hSS := Blk.grown hSS hg2 (by have := HS2.out.2; simpa using this)
             replace hownp := hroww hg2 hownp
             replace hownE := hrowe hg2 hownE
             replace hG := ja hG hg2
             replace hsz := Nat.le_trans hsz hg2.size
             replace hLt := Blk.grown hLt hg2 (by simpa using hgLb)
             clear hs
             have hs := hs2
             clear hs2 hg2
             refine hK2.out _ _ (hK.cell 0) (fun hH6 => ?_)
             clear hK2
             change wpAnyH _ _ _ _ _ _ _ (Act.put _ (some 86) _) _
             (try simp only [Act.put, ssA, ssZ, ssS])
             refine wpAnyH_take (i := 7) (v := ?_) rfl (by kernel_rfl) (by kernel_rfl) (by kernel_rfl) (fun _ _ _ h => h) (Or.inl ⟨by kernel_rfl, ?_⟩) hH6 ?_
             rotate_left
             ·intro w hSw
              refine zv (.tmp 80) (.tmp 81) (.tmp 83) (.tmp 86) ?_ BJ e2 a z zn ?_ ?_ ?_ ?_ <;> rfl
             change wpAnyH _ _ _ _ _ _ _ (Act.put _ (some 87) _) _
             simp only [Act.put, ssA, ssZ, ssS]
             refine wpAnyH_ready (rs := [8]) (by kernel_rfl) (by simp) ?_
             refine AllReadyH.cons (o := _) rfl (fun KK hK2 => ?m8) AllReadyH.nil
             case' m8 =>
              refine xt (by rfl) (by rfl) ?_
              have hXb : W3.heap.size ≠ b ∧ b2 ≤ W3.heap.size ∧ gS ≠ W3.heap.size ∧ gK ≠ W3.heap.size := ⟨by have := hs.lt; omega, hsz, by have := hSS.lt; omega, by have := hK.lt; omega⟩
              have hXp : ∀ g, (Value.slice A4 LP c4).ownBlock = some g → g < W3.heap.size := fun g e => (World.ownsRow.lt hownp g e).2
              have hX := Blk.new W3 134 #[.string ⟨#[]⟩, .string ⟨#[]⟩, .int .i64 0, .int .i64 0, .bool false, .int .i64 0]
              have hs2 := SX.alloc hs (.cells #[.string ⟨#[]⟩, .string ⟨#[]⟩, .int .i64 0, .int .i64 0, .bool false, .int .i64 0] 134)
              have hg2 := World.grownBy_alloc W3 (.cells #[.string ⟨#[]⟩, .string ⟨#[]⟩, .int .i64 0, .int .i64 0, .bool false, .int .i64 0] 134) (some b)
              have hszn := Nat.le_trans hsz hg2.size
              generalize W3.alloc (.cells #[.string ⟨#[]⟩, .string ⟨#[]⟩, .int .i64 0, .int .i64 0, .bool false, .int .i64 0] 134) = W4 at *
              generalize W3.heap.size = gX at *
              replace hK := Blk.grown hK hg2 (by simpa using hKb)
              replace hSS := Blk.grown hSS hg2 (by have := HS2.out.2; simpa using this)
              replace hownp := hroww hg2 hownp
              replace hownE := hrowe hg2 hownE
              replace hG := ja hG hg2
              replace hsz := hszn
              clear hszn
              replace hLt := Blk.grown hLt hg2 (by simpa using hgLb)
              clear hs
              have hs := hs2
              clear hs2 hg2
              refine hK2.out _ _ (hK.cell 0) (fun hH8 => ?_)
              clear hK2
              change wpAnyH _ _ _ _ _ _ _ (Act.put _ (some 11) _) _
              (try simp only [Act.put, ssA, ssZ, ssS])
              have hLeaf := hH8
            case' m6 =>
             refine xt (by rfl) (by rfl) ?_
             have hXb : W2.heap.size ≠ b ∧ b2 ≤ W2.heap.size ∧ gS ≠ W2.heap.size ∧ gK ≠ W2.heap.size := ⟨by have := hs.lt; omega, hsz, by have := hSS.lt; omega, by have := hK.lt; omega⟩
             have hXp : ∀ g, (Value.slice A4 LP c4).ownBlock = some g → g < W2.heap.size := fun g e => (World.ownsRow.lt hownp g e).2
             have hX := Blk.new W2 134 #[.string ⟨#[]⟩, .string ⟨#[]⟩, .int .i64 0, .int .i64 0, .bool false, .int .i64 0]
             have hs2 := SX.alloc hs (.cells #[.string ⟨#[]⟩, .string ⟨#[]⟩, .int .i64 0, .int .i64 0, .bool false, .int .i64 0] 134)
             have hg2 := World.grownBy_alloc W2 (.cells #[.string ⟨#[]⟩, .string ⟨#[]⟩, .int .i64 0, .int .i64 0, .bool false, .int .i64 0] 134) (some b)
             have hszn := Nat.le_trans hsz hg2.size
             generalize W2.alloc (.cells #[.string ⟨#[]⟩, .string ⟨#[]⟩, .int .i64 0, .int .i64 0, .bool false, .int .i64 0] 134) = W3 at *
             generalize W2.heap.size = gX at *
             replace hK := Blk.grown hK hg2 (by simpa using hKb)
             replace hSS := Blk.grown hSS hg2 (by have := HS2.out.2; simpa using this)
             replace hownp := hroww hg2 hownp
             replace hownE := hrowe hg2 hownE
             replace hG := ja hG hg2
             replace hsz := hszn
             clear hszn
             replace hLt := Blk.grown hLt hg2 (by simpa using hgLb)
             clear hs
             have hs := hs2
             clear hs2 hg2
             refine hK2.out _ _ (hK.cell 0) (fun hH8 => ?_)
             clear hK2
             change wpAnyH _ _ _ _ _ _ _ (Act.put _ (some 11) _) _
             (try simp only [Act.put, ssA, ssZ, ssS])
             refine wpAnyH_ready (rs := [6]) (by kernel_rfl) (by simp) ?_
             refine AllReadyH.cons (o := _) rfl (fun KK hK2 => ?m9) AllReadyH.nil
             case' m9 =>
              refine yw (by rfl) (.tmp 84) (.tmp 85) _ (by rfl) (.pointer (some ⟨b, 0, none⟩)) (.slice (some ⟨gL, 0, none⟩) 3 3) (by rfl) (by rfl) _ (jae base b L (P2 + 1 + 1 + 1 + 1 + 1) gL 3 3 [0, 0, 3] _ hs (by omega) hLt hgLb rfl (by decide) (by decide)) ?_
              rintro _ W4 ⟨zn, hzn, HZN, rfl, hs2, hg2⟩
              refine ⟨_, rfl, ?_⟩
              replace hK := Blk.grown hK hg2 (by simpa using hKb)
              replace hSS := Blk.grown hSS hg2 (by have := HS2.out.2; simpa using this)
              replace hownp := hroww hg2 hownp
              replace hownE := hrowe hg2 hownE
              replace hG := ja hG hg2
              replace hsz := Nat.le_trans hsz hg2.size
              replace hLt := Blk.grown hLt hg2 (by simpa using hgLb)
              replace hX := Blk.grown hX hg2 (by simpa using hXb.1)
              clear hs
              have hs := hs2
              clear hs2 hg2
              refine hK2.out _ _ (hK.cell 0) (fun hH6 => ?_)
              clear hK2
              change wpAnyH _ _ _ _ _ _ _ (Act.put _ (some 86) _) _
              (try simp only [Act.put, ssA, ssZ, ssS])
              refine wpAnyH_take (i := 7) (v := ?_) rfl (by kernel_rfl) (by kernel_rfl) (by kernel_rfl) (fun _ _ _ h => h) (Or.inl ⟨by kernel_rfl, ?_⟩) hH6 ?_
              rotate_left
              ·intro w hSw
               refine zv (.tmp 80) (.tmp 81) (.tmp 83) (.tmp 86) ?_ BJ e2 a z zn ?_ ?_ ?_ ?_ <;> rfl
              change wpAnyH _ _ _ _ _ _ _ (Act.put _ (some 87) _) _
              simp only [Act.put, ssA, ssZ, ssS]
              have hLeaf := hH6
           case' m4 =>
            refine xt (by rfl) (by rfl) ?_
            have hXb : W1.heap.size ≠ b ∧ b2 ≤ W1.heap.size ∧ gS ≠ W1.heap.size ∧ gK ≠ W1.heap.size := ⟨by have := hs.lt; omega, hsz, by have := hSS.lt; omega, by have := hK.lt; omega⟩
            have hXp : ∀ g, (Value.slice A4 LP c4).ownBlock = some g → g < W1.heap.size := fun g e => (World.ownsRow.lt hownp g e).2
            have hX := Blk.new W1 134 #[.string ⟨#[]⟩, .string ⟨#[]⟩, .int .i64 0, .int .i64 0, .bool false, .int .i64 0]
            have hs2 := SX.alloc hs (.cells #[.string ⟨#[]⟩, .string ⟨#[]⟩, .int .i64 0, .int .i64 0, .bool false, .int .i64 0] 134)
            have hg2 := World.grownBy_alloc W1 (.cells #[.string ⟨#[]⟩, .string ⟨#[]⟩, .int .i64 0, .int .i64 0, .bool false, .int .i64 0] 134) (some b)
            have hszn := Nat.le_trans hsz hg2.size
            generalize W1.alloc (.cells #[.string ⟨#[]⟩, .string ⟨#[]⟩, .int .i64 0, .int .i64 0, .bool false, .int .i64 0] 134) = W2 at *
            generalize W1.heap.size = gX at *
            replace hK := Blk.grown hK hg2 (by simpa using hKb)
            replace hSS := Blk.grown hSS hg2 (by have := HS2.out.2; simpa using this)
            replace hownp := hroww hg2 hownp
            replace hownE := hrowe hg2 hownE
            replace hG := ja hG hg2
            replace hsz := hszn
            clear hszn
            clear hs
            have hs := hs2
            clear hs2 hg2
            refine hK2.out _ _ (hK.cell 0) (fun hH8 => ?_)
            clear hK2
            change wpAnyH _ _ _ _ _ _ _ (Act.put _ (some 11) _) _
            (try simp only [Act.put, ssA, ssZ, ssS])
            refine wpAnyH_ready (rs := [5]) (by kernel_rfl) (by simp) ?_
            refine AllReadyH.cons (o := _) rfl (fun KK hK2 => ?m10) AllReadyH.nil
            case' m10 =>
             refine jbi (by rfl) 0 0 3 (by rfl) ?_
             have hgLb : W2.heap.size ≠ b := by have := hs.lt; omega
             have hLt := Blk.new W2 3 #[.int .i64 0, .int .i64 0, .int .i64 3]
             have hs2 := SX.alloc hs (.cells #[.int .i64 0, .int .i64 0, .int .i64 3] 3)
             have hg2 := World.grownBy_alloc W2 (.cells #[.int .i64 0, .int .i64 0, .int .i64 3] 3) (some b)
             have hszn := Nat.le_trans hsz hg2.size
             generalize W2.alloc (.cells #[.int .i64 0, .int .i64 0, .int .i64 3] 3) = W3 at *
             generalize W2.heap.size = gL at *
             replace hK := Blk.grown hK hg2 (by simpa using hKb)
             replace hSS := Blk.grown hSS hg2 (by have := HS2.out.2; simpa using this)
             replace hownp := hroww hg2 hownp
             replace hownE := hrowe hg2 hownE
             replace hG := ja hG hg2
             replace hsz := hszn
             clear hszn
             replace hX := Blk.grown hX hg2 (by simpa using hXb.1)
             clear hs
             have hs := hs2
             clear hs2 hg2
             refine hK2.out _ _ (hK.cell 0) (fun hH5 => ?_)
             clear hK2
             change wpAnyH _ _ _ _ _ _ _ (Act.put _ (some 85) _) _
             (try simp only [Act.put, ssA, ssZ, ssS])
             refine wpAnyH_ready (rs := [6]) (by kernel_rfl) (by simp) ?_
             refine AllReadyH.cons (o := _) rfl (fun KK hK2 => ?m11) AllReadyH.nil
             case' m11 =>
              refine yw (by rfl) (.tmp 84) (.tmp 85) _ (by rfl) (.pointer (some ⟨b, 0, none⟩)) (.slice (some ⟨gL, 0, none⟩) 3 3) (by rfl) (by rfl) _ (jae base b L (P2 + 1 + 1 + 1 + 1 + 1) gL 3 3 [0, 0, 3] _ hs (by omega) hLt hgLb rfl (by decide) (by decide)) ?_
              rintro _ W4 ⟨zn, hzn, HZN, rfl, hs2, hg2⟩
              refine ⟨_, rfl, ?_⟩
              replace hK := Blk.grown hK hg2 (by simpa using hKb)
              replace hSS := Blk.grown hSS hg2 (by have := HS2.out.2; simpa using this)
              replace hownp := hroww hg2 hownp
              replace hownE := hrowe hg2 hownE
              replace hG := ja hG hg2
              replace hsz := Nat.le_trans hsz hg2.size
              replace hLt := Blk.grown hLt hg2 (by simpa using hgLb)
              replace hX := Blk.grown hX hg2 (by simpa using hXb.1)
              clear hs
              have hs := hs2
              clear hs2 hg2
              refine hK2.out _ _ (hK.cell 0) (fun hH6 => ?_)
              clear hK2
              change wpAnyH _ _ _ _ _ _ _ (Act.put _ (some 86) _) _
              (try simp only [Act.put, ssA, ssZ, ssS])
              refine wpAnyH_take (i := 7) (v := ?_) rfl (by kernel_rfl) (by kernel_rfl) (by kernel_rfl) (fun _ _ _ h => h) (Or.inl ⟨by kernel_rfl, ?_⟩) hH6 ?_
              rotate_left
              ·intro w hSw
               refine zv (.tmp 80) (.tmp 81) (.tmp 83) (.tmp 86) ?_ BJ e2 a z zn ?_ ?_ ?_ ?_ <;> rfl
              change wpAnyH _ _ _ _ _ _ _ (Act.put _ (some 87) _) _
              simp only [Act.put, ssA, ssZ, ssS]
              have hLeaf := hH6
          case' m2 =>
           refine jbi (by rfl) 0 0 3 (by rfl) ?_
           have hgLb : W0.heap.size ≠ b := by have := hs.lt; omega
           have hLt := Blk.new W0 3 #[.int .i64 0, .int .i64 0, .int .i64 3]
           have hs2 := SX.alloc hs (.cells #[.int .i64 0, .int .i64 0, .int .i64 3] 3)
           have hg2 := World.grownBy_alloc W0 (.cells #[.int .i64 0, .int .i64 0, .int .i64 3] 3) (some b)
           have hszn := Nat.le_trans hsz hg2.size
           generalize W0.alloc (.cells #[.int .i64 0, .int .i64 0, .int .i64 3] 3) = W1 at *
           generalize W0.heap.size = gL at *
           replace hK := Blk.grown hK hg2 (by simpa using hKb)
           replace hSS := Blk.grown hSS hg2 (by have := HS2.out.2; simpa using this)
           replace hownp := hroww hg2 hownp
           replace hownE := hrowe hg2 hownE
           replace hG := ja hG hg2
           replace hsz := hszn
           clear hszn
           clear hs
           have hs := hs2
           clear hs2 hg2
           refine hK2.out _ _ (hK.cell 0) (fun hH5 => ?_)
           clear hK2
           change wpAnyH _ _ _ _ _ _ _ (Act.put _ (some 85) _) _
           (try simp only [Act.put, ssA, ssZ, ssS])
           refine wpAnyH_ready (rs := [3, 8]) (by kernel_rfl) (by simp) ?_
           refine AllReadyH.cons (o := _) rfl (fun KK hK2 => ?m13) (AllReadyH.cons (o := _) rfl (fun KK hK2 => ?m12) AllReadyH.nil)
           case' m13 =>
            refine j8 (by rfl) (.tmp 82) _ (by rfl) (.pointer (some ⟨b, 0, none⟩)) (by rfl) _ (qi base b L (P2 + 1 + 1 + 1) _ hs (by omega)) ?_
            rintro _ W2 ⟨a, z, rfl, Ha, Hz, a0, a1, z0, z1, hs2, hg2⟩
            refine ⟨_, rfl, ?_⟩
            replace hK := Blk.grown hK hg2 (by simpa using hKb)
            replace hSS := Blk.grown hSS hg2 (by have := HS2.out.2; simpa using this)
            replace hownp := hroww hg2 hownp
            replace hownE := hrowe hg2 hownE
            replace hG := ja hG hg2
            replace hsz := Nat.le_trans hsz hg2.size
            replace hLt := Blk.grown hLt hg2 (by simpa using hgLb)
            clear hs
            have hs := hs2
            clear hs2 hg2
            refine hK2.out _ _ (hK.cell 0) (fun hH3 => ?_)
            clear hK2
            change wpAnyH _ _ _ _ _ _ _ (Act.put _ (some 83) _) _
            (try simp only [Act.put, ssA, ssZ, ssS])
            refine wpAnyH_ready (rs := [6, 8]) (by kernel_rfl) (by simp) ?_
            refine AllReadyH.cons (o := _) rfl (fun KK hK2 => ?m15) (AllReadyH.cons (o := _) rfl (fun KK hK2 => ?m14) AllReadyH.nil)
            case' m15 =>
             refine yw (by rfl) (.tmp 84) (.tmp 85) _ (by rfl) (.pointer (some ⟨b, 0, none⟩)) (.slice (some ⟨gL, 0, none⟩) 3 3) (by rfl) (by rfl) _ (jae base b L (P2 + 1 + 1 + 1 + 1 + 1) gL 3 3 [0, 0, 3] _ hs (by omega) hLt hgLb rfl (by decide) (by decide)) ?_
             rintro _ W3 ⟨zn, hzn, HZN, rfl, hs2, hg2⟩
             refine ⟨_, rfl, ?_⟩
             replace hK := Blk.grown hK hg2 (by simpa using hKb)
             replace hSS := Blk.grown hSS hg2 (by have := HS2.out.2; simpa using this)
             replace hownp := hroww hg2 hownp
             replace hownE := hrowe hg2 hownE
             replace hG := ja hG hg2
             replace hsz := Nat.le_trans hsz hg2.size
             replace hLt := Blk.grown hLt hg2 (by simpa using hgLb)
             clear hs
             have hs := hs2
             clear hs2 hg2
             refine hK2.out _ _ (hK.cell 0) (fun hH6 => ?_)
             clear hK2
             change wpAnyH _ _ _ _ _ _ _ (Act.put _ (some 86) _) _
             (try simp only [Act.put, ssA, ssZ, ssS])
             refine wpAnyH_take (i := 7) (v := ?_) rfl (by kernel_rfl) (by kernel_rfl) (by kernel_rfl) (fun _ _ _ h => h) (Or.inl ⟨by kernel_rfl, ?_⟩) hH6 ?_
             rotate_left
             ·intro w hSw
              refine zv (.tmp 80) (.tmp 81) (.tmp 83) (.tmp 86) ?_ BJ e2 a z zn ?_ ?_ ?_ ?_ <;> rfl
             change wpAnyH _ _ _ _ _ _ _ (Act.put _ (some 87) _) _
             simp only [Act.put, ssA, ssZ, ssS]
             refine wpAnyH_ready (rs := [8]) (by kernel_rfl) (by simp) ?_
             refine AllReadyH.cons (o := _) rfl (fun KK hK2 => ?m16) AllReadyH.nil
             case' m16 =>
              refine xt (by rfl) (by rfl) ?_
              have hXb : W3.heap.size ≠ b ∧ b2 ≤ W3.heap.size ∧ gS ≠ W3.heap.size ∧ gK ≠ W3.heap.size := ⟨by have := hs.lt; omega, hsz, by have := hSS.lt; omega, by have := hK.lt; omega⟩
              have hXp : ∀ g, (Value.slice A4 LP c4).ownBlock = some g → g < W3.heap.size := fun g e => (World.ownsRow.lt hownp g e).2
              have hX := Blk.new W3 134 #[.string ⟨#[]⟩, .string ⟨#[]⟩, .int .i64 0, .int .i64 0, .bool false, .int .i64 0]
              have hs2 := SX.alloc hs (.cells #[.string ⟨#[]⟩, .string ⟨#[]⟩, .int .i64 0, .int .i64 0, .bool false, .int .i64 0] 134)
              have hg2 := World.grownBy_alloc W3 (.cells #[.string ⟨#[]⟩, .string ⟨#[]⟩, .int .i64 0, .int .i64 0, .bool false, .int .i64 0] 134) (some b)
              have hszn := Nat.le_trans hsz hg2.size
              generalize W3.alloc (.cells #[.string ⟨#[]⟩, .string ⟨#[]⟩, .int .i64 0, .int .i64 0, .bool false, .int .i64 0] 134) = W4 at *
              generalize W3.heap.size = gX at *
              replace hK := Blk.grown hK hg2 (by simpa using hKb)
              replace hSS := Blk.grown hSS hg2 (by have := HS2.out.2; simpa using this)
              replace hownp := hroww hg2 hownp
              replace hownE := hrowe hg2 hownE
              replace hG := ja hG hg2
              replace hsz := hszn
              clear hszn
              replace hLt := Blk.grown hLt hg2 (by simpa using hgLb)
              clear hs
              have hs := hs2
              clear hs2 hg2
              refine hK2.out _ _ (hK.cell 0) (fun hH8 => ?_)
              clear hK2
              change wpAnyH _ _ _ _ _ _ _ (Act.put _ (some 11) _) _
              (try simp only [Act.put, ssA, ssZ, ssS])
              have hLeaf := hH8
            case' m14 =>
             refine xt (by rfl) (by rfl) ?_
             have hXb : W2.heap.size ≠ b ∧ b2 ≤ W2.heap.size ∧ gS ≠ W2.heap.size ∧ gK ≠ W2.heap.size := ⟨by have := hs.lt; omega, hsz, by have := hSS.lt; omega, by have := hK.lt; omega⟩
             have hXp : ∀ g, (Value.slice A4 LP c4).ownBlock = some g → g < W2.heap.size := fun g e => (World.ownsRow.lt hownp g e).2
             have hX := Blk.new W2 134 #[.string ⟨#[]⟩, .string ⟨#[]⟩, .int .i64 0, .int .i64 0, .bool false, .int .i64 0]
             have hs2 := SX.alloc hs (.cells #[.string ⟨#[]⟩, .string ⟨#[]⟩, .int .i64 0, .int .i64 0, .bool false, .int .i64 0] 134)
             have hg2 := World.grownBy_alloc W2 (.cells #[.string ⟨#[]⟩, .string ⟨#[]⟩, .int .i64 0, .int .i64 0, .bool false, .int .i64 0] 134) (some b)
             have hszn := Nat.le_trans hsz hg2.size
             generalize W2.alloc (.cells #[.string ⟨#[]⟩, .string ⟨#[]⟩, .int .i64 0, .int .i64 0, .bool false, .int .i64 0] 134) = W3 at *
             generalize W2.heap.size = gX at *
             replace hK := Blk.grown hK hg2 (by simpa using hKb)
             replace hSS := Blk.grown hSS hg2 (by have := HS2.out.2; simpa using this)
             replace hownp := hroww hg2 hownp
             replace hownE := hrowe hg2 hownE
             replace hG := ja hG hg2
             replace hsz := hszn
             clear hszn
             replace hLt := Blk.grown hLt hg2 (by simpa using hgLb)
             clear hs
             have hs := hs2
             clear hs2 hg2
             refine hK2.out _ _ (hK.cell 0) (fun hH8 => ?_)
             clear hK2
             change wpAnyH _ _ _ _ _ _ _ (Act.put _ (some 11) _) _
             (try simp only [Act.put, ssA, ssZ, ssS])
             refine wpAnyH_ready (rs := [6]) (by kernel_rfl) (by simp) ?_
             refine AllReadyH.cons (o := _) rfl (fun KK hK2 => ?m17) AllReadyH.nil
             case' m17 =>
              refine yw (by rfl) (.tmp 84) (.tmp 85) _ (by rfl) (.pointer (some ⟨b, 0, none⟩)) (.slice (some ⟨gL, 0, none⟩) 3 3) (by rfl) (by rfl) _ (jae base b L (P2 + 1 + 1 + 1 + 1 + 1) gL 3 3 [0, 0, 3] _ hs (by omega) hLt hgLb rfl (by decide) (by decide)) ?_
              rintro _ W4 ⟨zn, hzn, HZN, rfl, hs2, hg2⟩
              refine ⟨_, rfl, ?_⟩
              replace hK := Blk.grown hK hg2 (by simpa using hKb)
              replace hSS := Blk.grown hSS hg2 (by have := HS2.out.2; simpa using this)
              replace hownp := hroww hg2 hownp
              replace hownE := hrowe hg2 hownE
              replace hG := ja hG hg2
              replace hsz := Nat.le_trans hsz hg2.size
              replace hLt := Blk.grown hLt hg2 (by simpa using hgLb)
              replace hX := Blk.grown hX hg2 (by simpa using hXb.1)
              clear hs
              have hs := hs2
              clear hs2 hg2
              refine hK2.out _ _ (hK.cell 0) (fun hH6 => ?_)
              clear hK2
              change wpAnyH _ _ _ _ _ _ _ (Act.put _ (some 86) _) _
              (try simp only [Act.put, ssA, ssZ, ssS])
              refine wpAnyH_take (i := 7) (v := ?_) rfl (by kernel_rfl) (by kernel_rfl) (by kernel_rfl) (fun _ _ _ h => h) (Or.inl ⟨by kernel_rfl, ?_⟩) hH6 ?_
              rotate_left
              ·intro w hSw
               refine zv (.tmp 80) (.tmp 81) (.tmp 83) (.tmp 86) ?_ BJ e2 a z zn ?_ ?_ ?_ ?_ <;> rfl
              change wpAnyH _ _ _ _ _ _ _ (Act.put _ (some 87) _) _
              simp only [Act.put, ssA, ssZ, ssS]
              have hLeaf := hH6
           case' m12 =>
            refine xt (by rfl) (by rfl) ?_
            have hXb : W1.heap.size ≠ b ∧ b2 ≤ W1.heap.size ∧ gS ≠ W1.heap.size ∧ gK ≠ W1.heap.size := ⟨by have := hs.lt; omega, hsz, by have := hSS.lt; omega, by have := hK.lt; omega⟩
            have hXp : ∀ g, (Value.slice A4 LP c4).ownBlock = some g → g < W1.heap.size := fun g e => (World.ownsRow.lt hownp g e).2
            have hX := Blk.new W1 134 #[.string ⟨#[]⟩, .string ⟨#[]⟩, .int .i64 0, .int .i64 0, .bool false, .int .i64 0]
            have hs2 := SX.alloc hs (.cells #[.string ⟨#[]⟩, .string ⟨#[]⟩, .int .i64 0, .int .i64 0, .bool false, .int .i64 0] 134)
            have hg2 := World.grownBy_alloc W1 (.cells #[.string ⟨#[]⟩, .string ⟨#[]⟩, .int .i64 0, .int .i64 0, .bool false, .int .i64 0] 134) (some b)
            have hszn := Nat.le_trans hsz hg2.size
            generalize W1.alloc (.cells #[.string ⟨#[]⟩, .string ⟨#[]⟩, .int .i64 0, .int .i64 0, .bool false, .int .i64 0] 134) = W2 at *
            generalize W1.heap.size = gX at *
            replace hK := Blk.grown hK hg2 (by simpa using hKb)
            replace hSS := Blk.grown hSS hg2 (by have := HS2.out.2; simpa using this)
            replace hownp := hroww hg2 hownp
            replace hownE := hrowe hg2 hownE
            replace hG := ja hG hg2
            replace hsz := hszn
            clear hszn
            replace hLt := Blk.grown hLt hg2 (by simpa using hgLb)
            clear hs
            have hs := hs2
            clear hs2 hg2
            refine hK2.out _ _ (hK.cell 0) (fun hH8 => ?_)
            clear hK2
            change wpAnyH _ _ _ _ _ _ _ (Act.put _ (some 11) _) _
            (try simp only [Act.put, ssA, ssZ, ssS])
            refine wpAnyH_ready (rs := [3]) (by kernel_rfl) (by simp) ?_
            refine AllReadyH.cons (o := _) rfl (fun KK hK2 => ?m18) AllReadyH.nil
            case' m18 =>
             refine j8 (by rfl) (.tmp 82) _ (by rfl) (.pointer (some ⟨b, 0, none⟩)) (by rfl) _ (qi base b L (P2 + 1 + 1 + 1) _ hs (by omega)) ?_
             rintro _ W3 ⟨a, z, rfl, Ha, Hz, a0, a1, z0, z1, hs2, hg2⟩
             refine ⟨_, rfl, ?_⟩
             replace hK := Blk.grown hK hg2 (by simpa using hKb)
             replace hSS := Blk.grown hSS hg2 (by have := HS2.out.2; simpa using this)
             replace hownp := hroww hg2 hownp
             replace hownE := hrowe hg2 hownE
             replace hG := ja hG hg2
             replace hsz := Nat.le_trans hsz hg2.size
             replace hLt := Blk.grown hLt hg2 (by simpa using hgLb)
             replace hX := Blk.grown hX hg2 (by simpa using hXb.1)
             clear hs
             have hs := hs2
             clear hs2 hg2
             refine hK2.out _ _ (hK.cell 0) (fun hH3 => ?_)
             clear hK2
             change wpAnyH _ _ _ _ _ _ _ (Act.put _ (some 83) _) _
             (try simp only [Act.put, ssA, ssZ, ssS])
             refine wpAnyH_ready (rs := [6]) (by kernel_rfl) (by simp) ?_
             refine AllReadyH.cons (o := _) rfl (fun KK hK2 => ?m19) AllReadyH.nil
             case' m19 =>
              refine yw (by rfl) (.tmp 84) (.tmp 85) _ (by rfl) (.pointer (some ⟨b, 0, none⟩)) (.slice (some ⟨gL, 0, none⟩) 3 3) (by rfl) (by rfl) _ (jae base b L (P2 + 1 + 1 + 1 + 1 + 1) gL 3 3 [0, 0, 3] _ hs (by omega) hLt hgLb rfl (by decide) (by decide)) ?_
              rintro _ W4 ⟨zn, hzn, HZN, rfl, hs2, hg2⟩
              refine ⟨_, rfl, ?_⟩
              replace hK := Blk.grown hK hg2 (by simpa using hKb)
              replace hSS := Blk.grown hSS hg2 (by have := HS2.out.2; simpa using this)
              replace hownp := hroww hg2 hownp
              replace hownE := hrowe hg2 hownE
              replace hG := ja hG hg2
              replace hsz := Nat.le_trans hsz hg2.size
              replace hLt := Blk.grown hLt hg2 (by simpa using hgLb)
              replace hX := Blk.grown hX hg2 (by simpa using hXb.1)
              clear hs
              have hs := hs2
              clear hs2 hg2
              refine hK2.out _ _ (hK.cell 0) (fun hH6 => ?_)
              clear hK2
              change wpAnyH _ _ _ _ _ _ _ (Act.put _ (some 86) _) _
              (try simp only [Act.put, ssA, ssZ, ssS])
              refine wpAnyH_take (i := 7) (v := ?_) rfl (by kernel_rfl) (by kernel_rfl) (by kernel_rfl) (fun _ _ _ h => h) (Or.inl ⟨by kernel_rfl, ?_⟩) hH6 ?_
              rotate_left
              ·intro w hSw
               refine zv (.tmp 80) (.tmp 81) (.tmp 83) (.tmp 86) ?_ BJ e2 a z zn ?_ ?_ ?_ ?_ <;> rfl
              change wpAnyH _ _ _ _ _ _ _ (Act.put _ (some 87) _) _
              simp only [Act.put, ssA, ssZ, ssS]
              have hLeaf := hH6
          case' m1 =>
           refine xt (by rfl) (by rfl) ?_
           have hXb : W0.heap.size ≠ b ∧ b2 ≤ W0.heap.size ∧ gS ≠ W0.heap.size ∧ gK ≠ W0.heap.size := ⟨by have := hs.lt; omega, hsz, by have := hSS.lt; omega, by have := hK.lt; omega⟩
           have hXp : ∀ g, (Value.slice A4 LP c4).ownBlock = some g → g < W0.heap.size := fun g e => (World.ownsRow.lt hownp g e).2
           have hX := Blk.new W0 134 #[.string ⟨#[]⟩, .string ⟨#[]⟩, .int .i64 0, .int .i64 0, .bool false, .int .i64 0]
           have hs2 := SX.alloc hs (.cells #[.string ⟨#[]⟩, .string ⟨#[]⟩, .int .i64 0, .int .i64 0, .bool false, .int .i64 0] 134)
           have hg2 := World.grownBy_alloc W0 (.cells #[.string ⟨#[]⟩, .string ⟨#[]⟩, .int .i64 0, .int .i64 0, .bool false, .int .i64 0] 134) (some b)
           have hszn := Nat.le_trans hsz hg2.size
           generalize W0.alloc (.cells #[.string ⟨#[]⟩, .string ⟨#[]⟩, .int .i64 0, .int .i64 0, .bool false, .int .i64 0] 134) = W1 at *
           generalize W0.heap.size = gX at *
           replace hK := Blk.grown hK hg2 (by simpa using hKb)
           replace hSS := Blk.grown hSS hg2 (by have := HS2.out.2; simpa using this)
           replace hownp := hroww hg2 hownp
           replace hownE := hrowe hg2 hownE
           replace hG := ja hG hg2
           replace hsz := hszn
           clear hszn
           clear hs
           have hs := hs2
           clear hs2 hg2
           refine hK2.out _ _ (hK.cell 0) (fun hH8 => ?_)
           clear hK2
           change wpAnyH _ _ _ _ _ _ _ (Act.put _ (some 11) _) _
           (try simp only [Act.put, ssA, ssZ, ssS])
           refine wpAnyH_ready (rs := [3, 5]) (by kernel_rfl) (by simp) ?_
           refine AllReadyH.cons (o := _) rfl (fun KK hK2 => ?m21) (AllReadyH.cons (o := _) rfl (fun KK hK2 => ?m20) AllReadyH.nil)
           case' m21 =>
            refine j8 (by rfl) (.tmp 82) _ (by rfl) (.pointer (some ⟨b, 0, none⟩)) (by rfl) _ (qi base b L (P2 + 1 + 1 + 1) _ hs (by omega)) ?_
            rintro _ W2 ⟨a, z, rfl, Ha, Hz, a0, a1, z0, z1, hs2, hg2⟩
            refine ⟨_, rfl, ?_⟩
            replace hK := Blk.grown hK hg2 (by simpa using hKb)
            replace hSS := Blk.grown hSS hg2 (by have := HS2.out.2; simpa using this)
            replace hownp := hroww hg2 hownp
            replace hownE := hrowe hg2 hownE
            replace hG := ja hG hg2
            replace hsz := Nat.le_trans hsz hg2.size
            replace hX := Blk.grown hX hg2 (by simpa using hXb.1)
            clear hs
            have hs := hs2
            clear hs2 hg2
            refine hK2.out _ _ (hK.cell 0) (fun hH3 => ?_)
            clear hK2
            change wpAnyH _ _ _ _ _ _ _ (Act.put _ (some 83) _) _
            (try simp only [Act.put, ssA, ssZ, ssS])
            refine wpAnyH_ready (rs := [5]) (by kernel_rfl) (by simp) ?_
            refine AllReadyH.cons (o := _) rfl (fun KK hK2 => ?m22) AllReadyH.nil
            case' m22 =>
             refine jbi (by rfl) 0 0 3 (by rfl) ?_
             have hgLb : W2.heap.size ≠ b := by have := hs.lt; omega
             have hLt := Blk.new W2 3 #[.int .i64 0, .int .i64 0, .int .i64 3]
             have hs2 := SX.alloc hs (.cells #[.int .i64 0, .int .i64 0, .int .i64 3] 3)
             have hg2 := World.grownBy_alloc W2 (.cells #[.int .i64 0, .int .i64 0, .int .i64 3] 3) (some b)
             have hszn := Nat.le_trans hsz hg2.size
             generalize W2.alloc (.cells #[.int .i64 0, .int .i64 0, .int .i64 3] 3) = W3 at *
             generalize W2.heap.size = gL at *
             replace hK := Blk.grown hK hg2 (by simpa using hKb)
             replace hSS := Blk.grown hSS hg2 (by have := HS2.out.2; simpa using this)
             replace hownp := hroww hg2 hownp
             replace hownE := hrowe hg2 hownE
             replace hG := ja hG hg2
             replace hsz := hszn
             clear hszn
             replace hX := Blk.grown hX hg2 (by simpa using hXb.1)
             clear hs
             have hs := hs2
             clear hs2 hg2
             refine hK2.out _ _ (hK.cell 0) (fun hH5 => ?_)
             clear hK2
             change wpAnyH _ _ _ _ _ _ _ (Act.put _ (some 85) _) _
             (try simp only [Act.put, ssA, ssZ, ssS])
             refine wpAnyH_ready (rs := [6]) (by kernel_rfl) (by simp) ?_
             refine AllReadyH.cons (o := _) rfl (fun KK hK2 => ?m23) AllReadyH.nil
             case' m23 =>
              refine yw (by rfl) (.tmp 84) (.tmp 85) _ (by rfl) (.pointer (some ⟨b, 0, none⟩)) (.slice (some ⟨gL, 0, none⟩) 3 3) (by rfl) (by rfl) _ (jae base b L (P2 + 1 + 1 + 1 + 1 + 1) gL 3 3 [0, 0, 3] _ hs (by omega) hLt hgLb rfl (by decide) (by decide)) ?_
              rintro _ W4 ⟨zn, hzn, HZN, rfl, hs2, hg2⟩
              refine ⟨_, rfl, ?_⟩
              replace hK := Blk.grown hK hg2 (by simpa using hKb)
              replace hSS := Blk.grown hSS hg2 (by have := HS2.out.2; simpa using this)
              replace hownp := hroww hg2 hownp
              replace hownE := hrowe hg2 hownE
              replace hG := ja hG hg2
              replace hsz := Nat.le_trans hsz hg2.size
              replace hLt := Blk.grown hLt hg2 (by simpa using hgLb)
              replace hX := Blk.grown hX hg2 (by simpa using hXb.1)
              clear hs
              have hs := hs2
              clear hs2 hg2
              refine hK2.out _ _ (hK.cell 0) (fun hH6 => ?_)
              clear hK2
              change wpAnyH _ _ _ _ _ _ _ (Act.put _ (some 86) _) _
              (try simp only [Act.put, ssA, ssZ, ssS])
              refine wpAnyH_take (i := 7) (v := ?_) rfl (by kernel_rfl) (by kernel_rfl) (by kernel_rfl) (fun _ _ _ h => h) (Or.inl ⟨by kernel_rfl, ?_⟩) hH6 ?_
              rotate_left
              ·intro w hSw
               refine zv (.tmp 80) (.tmp 81) (.tmp 83) (.tmp 86) ?_ BJ e2 a z zn ?_ ?_ ?_ ?_ <;> rfl
              change wpAnyH _ _ _ _ _ _ _ (Act.put _ (some 87) _) _
              simp only [Act.put, ssA, ssZ, ssS]
              have hLeaf := hH6
           case' m20 =>
            refine jbi (by rfl) 0 0 3 (by rfl) ?_
            have hgLb : W1.heap.size ≠ b := by have := hs.lt; omega
            have hLt := Blk.new W1 3 #[.int .i64 0, .int .i64 0, .int .i64 3]
            have hs2 := SX.alloc hs (.cells #[.int .i64 0, .int .i64 0, .int .i64 3] 3)
            have hg2 := World.grownBy_alloc W1 (.cells #[.int .i64 0, .int .i64 0, .int .i64 3] 3) (some b)
            have hszn := Nat.le_trans hsz hg2.size
            generalize W1.alloc (.cells #[.int .i64 0, .int .i64 0, .int .i64 3] 3) = W2 at *
            generalize W1.heap.size = gL at *
            replace hK := Blk.grown hK hg2 (by simpa using hKb)
            replace hSS := Blk.grown hSS hg2 (by have := HS2.out.2; simpa using this)
            replace hownp := hroww hg2 hownp
            replace hownE := hrowe hg2 hownE
            replace hG := ja hG hg2
            replace hsz := hszn
            clear hszn
            replace hX := Blk.grown hX hg2 (by simpa using hXb.1)
            clear hs
            have hs := hs2
            clear hs2 hg2
            refine hK2.out _ _ (hK.cell 0) (fun hH5 => ?_)
            clear hK2
            change wpAnyH _ _ _ _ _ _ _ (Act.put _ (some 85) _) _
            (try simp only [Act.put, ssA, ssZ, ssS])
            refine wpAnyH_ready (rs := [3]) (by kernel_rfl) (by simp) ?_
            refine AllReadyH.cons (o := _) rfl (fun KK hK2 => ?m24) AllReadyH.nil
            case' m24 =>
             refine j8 (by rfl) (.tmp 82) _ (by rfl) (.pointer (some ⟨b, 0, none⟩)) (by rfl) _ (qi base b L (P2 + 1 + 1 + 1) _ hs (by omega)) ?_
             rintro _ W3 ⟨a, z, rfl, Ha, Hz, a0, a1, z0, z1, hs2, hg2⟩
             refine ⟨_, rfl, ?_⟩
             replace hK := Blk.grown hK hg2 (by simpa using hKb)
             replace hSS := Blk.grown hSS hg2 (by have := HS2.out.2; simpa using this)
             replace hownp := hroww hg2 hownp
             replace hownE := hrowe hg2 hownE
             replace hG := ja hG hg2
             replace hsz := Nat.le_trans hsz hg2.size
             replace hLt := Blk.grown hLt hg2 (by simpa using hgLb)
             replace hX := Blk.grown hX hg2 (by simpa using hXb.1)
             clear hs
             have hs := hs2
             clear hs2 hg2
             refine hK2.out _ _ (hK.cell 0) (fun hH3 => ?_)
             clear hK2
             change wpAnyH _ _ _ _ _ _ _ (Act.put _ (some 83) _) _
             (try simp only [Act.put, ssA, ssZ, ssS])
             refine wpAnyH_ready (rs := [6]) (by kernel_rfl) (by simp) ?_
             refine AllReadyH.cons (o := _) rfl (fun KK hK2 => ?m25) AllReadyH.nil
             case' m25 =>
              refine yw (by rfl) (.tmp 84) (.tmp 85) _ (by rfl) (.pointer (some ⟨b, 0, none⟩)) (.slice (some ⟨gL, 0, none⟩) 3 3) (by rfl) (by rfl) _ (jae base b L (P2 + 1 + 1 + 1 + 1 + 1) gL 3 3 [0, 0, 3] _ hs (by omega) hLt hgLb rfl (by decide) (by decide)) ?_
              rintro _ W4 ⟨zn, hzn, HZN, rfl, hs2, hg2⟩
              refine ⟨_, rfl, ?_⟩
              replace hK := Blk.grown hK hg2 (by simpa using hKb)
              replace hSS := Blk.grown hSS hg2 (by have := HS2.out.2; simpa using this)
              replace hownp := hroww hg2 hownp
              replace hownE := hrowe hg2 hownE
              replace hG := ja hG hg2
              replace hsz := Nat.le_trans hsz hg2.size
              replace hLt := Blk.grown hLt hg2 (by simpa using hgLb)
              replace hX := Blk.grown hX hg2 (by simpa using hXb.1)
              clear hs
              have hs := hs2
              clear hs2 hg2
              refine hK2.out _ _ (hK.cell 0) (fun hH6 => ?_)
              clear hK2
              change wpAnyH _ _ _ _ _ _ _ (Act.put _ (some 86) _) _
              (try simp only [Act.put, ssA, ssZ, ssS])
              refine wpAnyH_take (i := 7) (v := ?_) rfl (by kernel_rfl) (by kernel_rfl) (by kernel_rfl) (fun _ _ _ h => h) (Or.inl ⟨by kernel_rfl, ?_⟩) hH6 ?_
              rotate_left
              ·intro w hSw
               refine zv (.tmp 80) (.tmp 81) (.tmp 83) (.tmp 86) ?_ BJ e2 a z zn ?_ ?_ ?_ ?_ <;> rfl
              change wpAnyH _ _ _ _ _ _ _ (Act.put _ (some 87) _) _
              simp only [Act.put, ssA, ssZ, ssS]
              have hLeaf := hH6
          all_goals
           rename World => WL
           refine wpAnyH_ready (rs := [9]) (by kernel_rfl) (by simp) ?_
           refine AllReadyH.cons (o := _) rfl (fun KK hK2 => ?_) AllReadyH.nil
           refine jkq (by rfl) (.tmp 11) (.tmp 87) (by rfl) gX _ _ _ _ _ _ BJ e2 a z false zn (by rfl) (by rfl) hX ?_
           have hP9 := jo7 WL gX BJ e2 a z false zn
           have hX9 := jlc hX BJ e2 a z false zn
           have hK9 := Blk.grown hK hP9 (by simpa using hXb.2.2.2)
           refine hK2.out _ _ (hK9.cell 0) (fun hH9 => ?_)
           clear hK2
           refine wpAnyH_done (by kernel_rfl) ?_ _
           have hs9 := hs.grown hP9 (fun g e => by injection e with e; have := HBASE.out; have := HBB2.out; exact ⟨fun h => hXb.1 (by omega), by have := hXb.2.1; omega⟩)
           have hownp9 := jas hownp hXp hP9 (fun g e => by injection e with e; omega)
           have hownE9 := ye hX hownE (by decide) hP9
           have hSS9 := Blk.grown hSS hP9 (by simpa using hXb.2.2.1)
           have hG9 := jk hG hP9 (fun g e => by injection e with e; have := HB1L.out; have := HB12.out; exact .inr (by have := hXb.2.1; omega))
           go_wp2_with fail
           go_meet
           exact ⟨gX, a, z, zn, rfl, Ha, Hz, HZN, a0, a1, z0, z1, hX9, ⟨hXb.1, hXb.2.1, hXb.2.2.1⟩, hXp, hownp9, hownE9, hs9, hSS9, hG9, Nat.le_trans hsz hP9.size⟩
        case rest =>
         obtain ⟨gX, a, z, zn, rfl, Ha, Hz, HZN, a0, a1, z0, z1, hX, HXB, HXP, hownp2, hownE2, hs2, hSS2, hG2, hsz2⟩ := hcut
         rename World => w12
         clear hownp hownE hs hSS hG hsz11 hK
         go_wp2_with fail
         refine (jac base b L (P2 + 1 + 1 + 1 + 1 + 1 + 1) 5 _ hs2 (by omega) (by omega) (by omega)).mono ?_
         rintro _ w13 ⟨f5, HF5, rfl, hs3, hg3⟩
         have hX3 := Blk.grown hX hg3 (by have := HXB.out.1; simpa using this)
         have hownp3 := hroww hg3 hownp2
         have hownE3 := hrowe hg3 hownE2
         have hSS3 := Blk.grown hSS2 hg3 (by have := HS2.out.2; simpa using this)
         have hG3 := ja hG2 hg3
         have hsz3 := Nat.le_trans hsz2 hg3.size
         have HZNB : Hid (zn = zn) := rfl
         have HES : Hid (jh6 l2 (jdl L l2 j P2) = e2) := by show _ = _; rw [HE1.out.1]; exact HE2x.out.1
         have HBS := Lib.hid (jfu j hj12)
         have HX1 : Hid (BJ.size ≤ 4) := by show _ ≤ _; rw [← HBJ.out]; exact HBS.out.1
         clear hX hownp2 hownE2 hs2 hSS2 hG2 hsz2 hg3
         go_upto_if 89 with fail
         go_cut [7, 11] (fun pv s wq => ∃ (gY : Nat) (p' r : List Pfx) (x : Pfx) (P3 : Nat), s = .pointer (some ⟨gY, 0, none⟩) ∧ Hid (rtR L l2 j P2 = (r, P3)) ∧ Hid (p' ++ [x] = p ++ r) ∧ Hid (p'.length ≤ LP + 1) ∧ P2 ≤ P3 ∧ P3 ≤ P2 + 10 ∧ Hid (ju2 (p' ++ [x])) ∧ Blk wq gY 134 #[.string x.beg, .string x.ent, .int .i64 x.a, .int .i64 x.z, .bool x.whole, .int .i64 x.zone] ∧ PfxsFrom b2 wq pv p' ∧ EntsFrom b1 wq (.slice (some ⟨gE, 0, none⟩) LE c3) l2 ∧ SX base wq b L P3 ∧ Blk wq gS 9 #[.string ⟨#[51, 100]⟩, .string ⟨#[51, 100, 97]⟩, .string ⟨#[100, 108]⟩, .string ⟨#[103]⟩, .string ⟨#[107]⟩, .string ⟨#[107, 49]⟩, .string ⟨#[107, 49, 97, 98]⟩, .string ⟨#[107, 52]⟩, .string ⟨#[111, 104]⟩, .string ⟨#[111, 104, 48]⟩, .string ⟨#[111, 104, 50]⟩, .string ⟨#[119]⟩] ∧ w.grownBy wq (some b) ∧ b2 ≤ wq.heap.size)
         case first =>
          as_aux_lemma =>
           have HAE7 : Hid (e2.size ≤ 7) := HE2x.out.2
           cases f5
           ·have HR1 : Hid (rtR L l2 j P2 = ([⟨BJ, e2, a, z, false, zn⟩], P2 + 7)) := by
             show _ = _
             unfold rtR
             rw [HF.out, show decide (qx L (P2 + 6) 5 = 0) = false from HF5.out, HES.out, Ha.out, Hz.out, HZN.out, HBJ.out]
             rfl
            go_wp2_with fail
            go_meet
            exact ⟨gX, p, [⟨BJ, e2, a, z, false, zn⟩], ⟨BJ, e2, a, z, false, zn⟩, P2 + 7, rfl, HR1, rfl, (by show _ ≤ _; rw [HLP.out]; omega), by omega, by omega, (fun x hx => by
             rcases List.mem_append.1 hx with h | h
             ·exact HAP.out x h
             ·simp only [List.mem_singleton] at h
              subst h
              exact ⟨HX1.out, HAE7.out, a0, by show a ≤ _; omega, by show 0 ≤ z; omega, z1⟩), hX3, hownp3, hownE3, hs3, hSS3, hG3, hsz3⟩
           have hRX := HXP.out
           have x0 := hX3.cell 0
           have x1 := hX3.cell 1
           have x2 := hX3.cell 2
           have x3 := hX3.cell 3
           have x4 := hX3.cell 4
           have x5 := hX3.cell 5
           simp only [geA, geZ, geS] at x0 x1 x2 x3 x4 x5
           have hY := Blk.new w13 134 #[.string BJ, .string e2, .int .i64 a, .int .i64 z, .bool false, .int .i64 zn]
           have hX4 := Blk.alloc hX3 (.cells #[.string BJ, .string e2, .int .i64 a, .int .i64 z, .bool false, .int .i64 zn] 134)
           have hs4 := hs3.alloc (.cells #[.string BJ, .string e2, .int .i64 a, .int .i64 z, .bool false, .int .i64 zn] 134)
           have hp4 := PfxsFrom.grown hownp3 (World.grownBy_alloc w13 (.cells #[.string BJ, .string e2, .int .i64 a, .int .i64 z, .bool false, .int .i64 zn] 134) none)
           have hE4 := EntsFrom.grown hownE3 (World.grownBy_alloc w13 (.cells #[.string BJ, .string e2, .int .i64 a, .int .i64 z, .bool false, .int .i64 zn] 134) none)
           have hSS4 := Blk.alloc hSS3 (.cells #[.string BJ, .string e2, .int .i64 a, .int .i64 z, .bool false, .int .i64 zn] 134)
           have hG4 := jd hG3 (.cells #[.string BJ, .string e2, .int .i64 a, .int .i64 z, .bool false, .int .i64 zn] 134)
           have hYX : gX < w13.heap.size ∧ b < w13.heap.size ∧ gS < w13.heap.size := ⟨hX3.lt, hs3.lt, hSS3.lt⟩
           go_upto_region 23 with fail
           have hsz4 : b2 ≤ (w13.alloc (.cells #[.string BJ, .string e2, .int .i64 a, .int .i64 z, .bool false, .int .i64 zn] 134)).heap.size := by simp; omega
           generalize w13.alloc (.cells #[.string BJ, .string e2, .int .i64 a, .int .i64 z, .bool false, .int .i64 zn] 134) = w14 at *
           generalize w13.heap.size = gY at *
           clear x0 x1 x2 x3 x4 x5 hX3 hownp3 hownE3 hs3 hSS3 hG3
           have x0 := hX4.cell 0
           have x1 := hX4.cell 1
           have x2 := hX4.cell 2
           have x3 := hX4.cell 3
           have x4 := hX4.cell 4
           have x5 := hX4.cell 5
           simp only [geA, geZ, geS] at x0 x1 x2 x3 x4 x5
           have xf := hX4.free
           obtain ⟨MA, hMA⟩ : ∃ x, min a 100 = x := ⟨_, rfl⟩
           have HMA : Hid (min a 100 = MA ∧ 0 ≤ MA ∧ MA ≤ 100) := ⟨hMA, by omega, by omega⟩
           go_upto_region 25 with fail
           have hPa : w14.grownBy ((w14.setCell ⟨gX, 3, none⟩ (.int .i64 150)).setCell ⟨gX, 2, none⟩ (.int .i64 MA)) (some gX) := jg (p := ⟨gX, 2, none⟩) (jg (p := ⟨gX, 3, none⟩) (jf _ _) (.inl rfl) _) (.inl rfl) _
           have hX5 := (hX4.put 3 (.int .i64 150)).put 2 (.int .i64 MA)
           simp only [List.setIfInBounds_toArray, List.set_cons_zero, List.set_cons_succ] at hX5
           have hs5 := hs4.grown hPa (fun g e => by injection e with e; have := HBASE.out; have := HBB2.out; have := HXB.out.1; have := HXB.out.2.1; omega)
           have hp5 := jas hp4 hRX hPa (fun g e => by injection e with e; omega)
           have hE5 := ye hX4 hE4 (by decide) hPa
           have hSS5 := Blk.grown hSS4 hPa (by have := HXB.out.2.2; simpa using this)
           have hY5 := Blk.grown hY hPa (by simp; omega)
           have hG5 := jk hG4 hPa (fun g e => by injection e with e; have := HB1L.out; have := HB12.out; have := HXB.out.2.1; exact .inr (by omega))
           have hsz5 := Nat.le_trans hsz4 hPa.size
           (try rw [hMA])
           generalize (w14.setCell ⟨gX, 3, none⟩ (.int .i64 150)).setCell ⟨gX, 2, none⟩ (.int .i64 MA) = w15 at *
           clear x0 x1 x2 x3 x4 x5 xf hX4 hs4 hp4 hE4 hSS4 hY hG4 hPa hsz4
           go_wp2_with fail
           refine (jbp base b L _ _ 2 2 [150, 160] _ hs5 (by first | rfl | simp) (by omega) rfl (by decide) (by decide)).mono ?_
           rintro _ w16 ⟨ya, hya, HYA, rfl, hs6, hgq⟩
           have hX6 := Blk.grown hX5 hgq (by have := HXB.out.1; simpa using this)
           have hY6 := Blk.grown hY5 hgq (by simp; omega)
           have hp6 := hroww hgq hp5
           have hE6 := hrowe hgq hE5
           have hSS6 := Blk.grown hSS5 hgq (by have := HS2.out.2; simpa using this)
           have hG6 := ja hG5 hgq
           have hsz6 := Nat.le_trans hsz5 hgq.size
           clear hX5 hY5 hp5 hE5 hSS5 hG5 hsz5 hs5 hgq
           go_wp2_with fail
           refine (jbp base b L _ _ 2 2 [250, 345686400000] _ hs6 (by first | rfl | simp) (by omega) rfl (by decide) (by decide)).mono ?_
           rintro _ w17 ⟨yz, hyz, HYZ, rfl, hs7, hgq⟩
           have hX7 := Blk.grown hX6 hgq (by have := HXB.out.1; simpa using this)
           have hY7 := Blk.grown hY6 hgq (by simp; omega)
           have hp7 := hroww hgq hp6
           have hE7 := hrowe hgq hE6
           have hSS7 := Blk.grown hSS6 hgq (by have := HS2.out.2; simpa using this)
           have hG7 := ja hG6 hgq
           have hsz7 := Nat.le_trans hsz6 hgq.size
           clear hX6 hY6 hp6 hE6 hSS6 hG6 hsz6 hs6 hgq
           have HYAB : Hid (150 ≤ ya ∧ ya ≤ 160 ∧ 250 ≤ yz ∧ yz ≤ 345686400000) := by refine ⟨?_, ?_, ?_, ?_⟩ <;> (simp at hya hyz; omega)
           clear hya hyz
           have y0 := hY7.cell 0
           have y1 := hY7.cell 1
           have y2 := hY7.cell 2
           have y3 := hY7.cell 3
           have y4 := hY7.cell 4
           have y5 := hY7.cell 5
           have yf := hY7.free
           simp only [geA, geZ, geS] at y0 y1 y2 y3 y4 y5
           go_upto_region 26 with fail
           rename_i K26 hK26
           have hPb : w17.grownBy ((w17.setCell ⟨gY, 2, none⟩ (.int .i64 ya)).setCell ⟨gY, 3, none⟩ (.int .i64 yz)) (some gY) := jg (p := ⟨gY, 3, none⟩) (jg (p := ⟨gY, 2, none⟩) (jf _ _) (.inl rfl) _) (.inl rfl) _
           have hY8 := (hY7.put 2 (.int .i64 ya)).put 3 (.int .i64 yz)
           simp only [List.setIfInBounds_toArray, List.set_cons_zero, List.set_cons_succ] at hY8
           have hYb : b2 ≤ gY ∧ gX < gY ∧ b < gY ∧ gS < gY := ⟨by have := HXB.out.2.1; omega, hYX⟩
           have hs8 := hs7.grown hPb (fun g e => by injection e with e; have := HBASE.out; omega)
           have hp8 := jas hp7 (fun g e => Nat.lt_trans (hRX g e) hYb.2.1) hPb (fun g e => by injection e with e; omega)
           have hE8 := ye hY7 hE7 (by decide) hPb
           have hSS8 := Blk.grown hSS7 hPb (by simp; omega)
           have hX8 := Blk.grown hX7 hPb (by simp; omega)
           have hG8 := jk hG7 hPb (fun g e => by injection e with e; have := HB1L.out; have := HB12.out; exact .inr (by omega))
           have hsz8 := Nat.le_trans hsz7 hPb.size
           generalize (w17.setCell ⟨gY, 2, none⟩ (.int .i64 ya)).setCell ⟨gY, 3, none⟩ (.int .i64 yz) = w18 at *
           clear y0 y1 y2 y3 y4 y5 yf hY7 hs7 hp7 hE7 hSS7 hX7 hG7 hPb hsz7
           have x0 := hX8.cell 0
           have x1 := hX8.cell 1
           have x2 := hX8.cell 2
           have x3 := hX8.cell 3
           have x4 := hX8.cell 4
           have x5 := hX8.cell 5
           simp only [geA, geZ, geS] at x0 x1 x2 x3 x4 x5
           have HOQ : Hid (World.ownsRow w18 b2 134 6 (.slice A4 LP c4) LP (p.flatMap ju5)) := by
            show World.ownsRow _ _ _ _ _ _ _
            have h : PfxsFrom b2 w18 (.slice A4 LP c4) p := hp8
            unfold PfxsFrom at h
            rw [HLP.out] at h
            exact h
           have HK26 := Lib.hid hK26
           clear hK26 x0 x1 x2 x3 x4 x5
           refine wp_region_lit ?_
           refine ji9 (by rfl) (jr6 (.tmp 7) (by rfl)) ?_
           refine ji9 (by rfl) (jiz (.tmp 11) (by rfl) gX BJ e2 MA 150 false zn (by rfl) hX8) ?_
           refine ji9 (by rfl) (jr7 (.tmp 110) (by rfl) BJ e2 MA 150 false zn (by rfl)) ?_
           refine wpList_append_lies _ rfl _ _ 27 rfl b2 134 j0 _ 6 64 Tryz.underlying27 hj hy0 hy1 hy2 rfl (by decide) _ LP _ rfl (World.ownsRow.alloc HOQ.out _) ⟨_, 0, none⟩ 1 1 [.string BJ, .string e2, .int .i64 MA, .int .i64 150, .bool false, .int .i64 zn] rfl rfl (World.news_of_block (Blk.new _ _ _)) (jla _ _ _ _ _ _) (by decide) (by unfold maxLen; omega) (by omega) (by simp; omega) _ rfl ?_
           intro g9 cap w19 hown9 hg9 hat9 hgl9
           refine ji9 (by rfl) (jmu (.tmp 112) (by rfl)) ?_
           refine wpList_nil ?_
           change K26 _ _
           refine HK26.out _ _ ?_
           simp only [Act.put, ssA, ssZ, ssS]
           have hrow := HOQ.out.lt
           have hE9 := jas (World.ownsRow.alloc hE8 _) (fun g e => by simp [Value.ownBlock] at e; have := HE2.out.1; omega) hg9 (fun g e => (hrow g e).1)
           have hs9 := (hs8.alloc _).grown hg9 (fun g e => by have := (hrow g e).1; have := HBB2.out; have := HBASE.out; omega)
           have hSS9 := (hSS8.alloc _).grown hg9 (fun e => by have := (hrow _ e.symm).1; have := HS2.out.1; omega)
           have hX9 := (hX8.alloc _).grown hg9 (fun e => by have := hRX _ e.symm; omega)
           have hY9 := (hY8.alloc _).grown hg9 (fun e => by have := hRX _ e.symm; omega)
           have hG9 := jk (jd hG8 _) hg9 (fun g e => .inr (by have := (hrow g e).1; have := HB1L.out; have := HB12.out; omega))
           have hsz9 : b2 ≤ w19.heap.size := by have := hg9.size; simp at this; omega
           have hX8l := hX8.lt
           have HRX9 : Hid (∀ g, (Value.slice (some ⟨g9, 0, none⟩) (LP + 1) cap).ownBlock = some g → g ≠ gX) := fun g e => by
            have e2 : g9 = g := by simpa [Value.ownBlock] using e
            rcases hat9 with h | h
            ·have := hRX _ h; omega
            simp at h; omega
           have hp9 := jo4 HLP.out.symm BJ e2 MA 150 false zn hown9
           have HRX := Lib.hid hRX
           clear hrow hRX hat9 hX8 hY8 hs8 hp8 hE8 hSS8 hG8 hsz8 hown9 hg9
           refine wp_seq_k (fun K27 hK27 => ?_)
           have HK27 := Lib.hid hK27
           clear hK27
           refine wp_region_lit ?_
           refine ji9 (by rfl) (jiz (.tmp 12) (by rfl) gY BJ e2 ya yz false zn (by rfl) hY9) ?_
           refine ju0 (by rfl) (jmv (.tmp 11) (.tmp 113) (by rfl) gX _ _ _ _ _ _ BJ e2 ya yz false zn (by rfl) (by rfl) hX9) ?_
           refine wpList_nil ?_
           change K27 _ _
           refine HK27.out _ _ ?_
           simp only [Act.put, ssA, ssZ, ssS]
           have hPc : w19.grownBy ((((((w19.setCell ⟨gX, 0, none⟩ (.string BJ)).setCell ⟨gX, 1, none⟩ (.string e2)).setCell ⟨gX, 2, none⟩ (.int .i64 ya)).setCell ⟨gX, 3, none⟩ (.int .i64 yz)).setCell ⟨gX, 4, none⟩ (.bool false)).setCell ⟨gX, 5, none⟩ (.int .i64 zn)) (some gX) := jo7 w19 gX BJ e2 ya yz false zn
           have hX10 : Blk ((((((w19.setCell ⟨gX, 0, none⟩ (.string BJ)).setCell ⟨gX, 1, none⟩ (.string e2)).setCell ⟨gX, 2, none⟩ (.int .i64 ya)).setCell ⟨gX, 3, none⟩ (.int .i64 yz)).setCell ⟨gX, 4, none⟩ (.bool false)).setCell ⟨gX, 5, none⟩ (.int .i64 zn)) gX 134 #[.string BJ, .string e2, .int .i64 ya, .int .i64 yz, .bool false, .int .i64 zn] := jlc hX9 BJ e2 ya yz false zn
           have hs10 := hs9.grown hPc (fun g e => by injection e with e; have := HBASE.out; have := HBB2.out; have := HXB.out.1; have := HXB.out.2.1; omega)
           have hp10 := World.ownsRow.kept hp9 hPc (.inr (fun e => HRX9.out _ e rfl))
           have hE10 := ye hX9 hE9 (by decide) hPc
           have hSS10 := Blk.grown hSS9 hPc (by have := HXB.out.2.2; simpa using this)
           have hG10 := jk hG9 hPc (fun g e => by injection e with e; have := HB1L.out; have := HB12.out; have := HXB.out.2.1; exact .inr (by omega))
           have hsz10 := Nat.le_trans hsz9 hPc.size
           generalize ((((((w19.setCell ⟨gX, 0, none⟩ (.string BJ)).setCell ⟨gX, 1, none⟩ (.string e2)).setCell ⟨gX, 2, none⟩ (.int .i64 ya)).setCell ⟨gX, 3, none⟩ (.int .i64 yz)).setCell ⟨gX, 4, none⟩ (.bool false)).setCell ⟨gX, 5, none⟩ (.int .i64 zn)) = w20 at *
           clear hX9 hY9 hs9 hp9 hE9 hSS9 hG9 hPc hsz9
           go_wp2_with fail
           refine (jf7 base b L _ (LE : Int) _ hs10 (by omega) (by omega) (by omega)).mono ?_
           rintro _ w21 ⟨v2, v20, v21, HV2, rfl, hs11, hg11⟩
           obtain ⟨n2, rfl⟩ := Int.eq_ofNat_of_zero_le v20
           have hn2 : n2 < l2.length := by rw [HLE.out]; omega
           have hn2i : (n2 : Int) < (LE : Int) := by omega
           have hn20 : (0 : Int) ≤ (n2 : Int) := by omega
           have hX11 := Blk.grown hX10 hg11 (by have := HXB.out.1; simpa using this)
           have hp11 := PfxsFrom.other hp10 hg11 HBB2.out
           have hE11 := hrowe hg11 hE10
           have hSS11 := Blk.grown hSS10 hg11 (by have := HS2.out.2; simpa using this)
           have hG11 := ja hG10 hg11
           have hsz11 := Nat.le_trans hsz10 hg11.size
           obtain ⟨q0, _, _, _, _⟩ := (show EntsFrom b1 w21 (.slice (some ⟨gE, 0, none⟩) l2.length c3) l2 from by rw [HLE.out]; exact hE11).at_ n2 hn2
           obtain ⟨KZ, hKZ⟩ : ∃ x, l2[n2].key = x := ⟨_, rfl⟩
           rw [hKZ] at q0
           have HKZ : Hid (jjx l2 n2 = KZ ∧ KZ.size ≤ 7) := ⟨by rw [jg2 l2 n2 hn2, hKZ], by rw [← hKZ]; exact (HAE2.out _ (List.getElem_mem hn2)).1⟩
           clear hX10 hp10 hE10 hSS10 hG10 hsz10 hs10 hg11 hKZ
           have x1 := hX11.cell 1
           have xf := hX11.free
           simp only [geA, geZ, geS] at x1
           have hPd : w21.grownBy (w21.setCell ⟨gX, 1, none⟩ (.string KZ)) (some gX) := jg (p := ⟨gX, 1, none⟩) (jf _ _) (.inl rfl) _
           have hX12 := hX11.put 1 (.string KZ)
           simp only [List.setIfInBounds_toArray, List.set_cons_zero, List.set_cons_succ] at hX12
           have hs12 := hs11.grown hPd (fun g e => by injection e with e; have := HBASE.out; have := HBB2.out; have := HXB.out.1; have := HXB.out.2.1; omega)
           have hp12 : PfxsFrom b2 (w21.setCell ⟨gX, 1, none⟩ (.string KZ)) (.slice (some ⟨g9, 0, none⟩) (LP + 1) cap) (p ++ [(⟨BJ, e2, MA, 150, false, zn⟩ : Pfx)]) := World.ownsRow.kept hp11 hPd (.inr (fun e => HRX9.out _ e rfl))
           have hE12 := ye hX11 hE11 (by decide) hPd
           have hSS12 := Blk.grown hSS11 hPd (by have := HXB.out.2.2; simpa using this)
           have hG12 := jk hG11 hPd (fun g e => by injection e with e; have := HB1L.out; have := HB12.out; have := HXB.out.2.1; exact .inr (by omega))
           have hsz12 := Nat.le_trans hsz11 hPd.size
           have HR2 : Hid (rtR L l2 j P2 = ([⟨BJ, e2, MA, 150, false, zn⟩, ⟨BJ, KZ, ya, yz, false, zn⟩], P2 + 10)) := by
            show _ = _
            unfold rtR
            rw [HF.out, show decide (qx L (P2 + 6) 5 = 0) = true from HF5.out, HES.out, Ha.out, HZN.out, HBJ.out, HMA.out.1, show zm L (P2 + 7) [150, 160] = ya from HYA.out, show zm L (P2 + 8) [250, 345686400000] = yz from HYZ.out, HLE.out, show qx L (P2 + 9) (LE : Int) = (n2 : Int) from HV2.out, Int.toNat_natCast, HKZ.out.1]
            rfl
           go_wp2_with fail
           go_meet
           exact ⟨gX, p ++ [⟨BJ, e2, MA, 150, false, zn⟩], [⟨BJ, e2, MA, 150, false, zn⟩, ⟨BJ, KZ, ya, yz, false, zn⟩], ⟨BJ, KZ, ya, yz, false, zn⟩, P2 + 10, rfl, HR2, (by show _ = _; simp), (by show _ ≤ _; rw [List.length_append, HLP.out]; simp), by omega, by omega, (fun x hx => by
            have hyab := HYAB.out
            have hma := HMA.out
            rcases List.mem_append.1 hx with h | h
            ·rcases List.mem_append.1 h with h | h
             ·exact HAP.out x h
             simp only [List.mem_singleton] at h
             subst h
             exact ⟨HX1.out, HAE7.out, hma.2.1, by show MA ≤ _; omega, by show (0 : Int) ≤ 150; omega, by show (150 : Int) ≤ _; omega⟩
            ·simp only [List.mem_singleton] at h
             subst h
             exact ⟨HX1.out, HKZ.out.2, by show 0 ≤ ya; omega, by show ya ≤ _; omega, by show 0 ≤ yz; omega, hyab.2.2.2⟩), hX12, hp12, hE12, hs12, hSS12, hG12, hsz12⟩
         case rest =>
          obtain ⟨gY, p', r, x, P3, rfl, HR, HPX, HPL, hP30, hP31, HALL, hY, hownq, hownE4, hs4, hSS4, hG4, hsz4⟩ := hcut
          rename World => w14
          clear hX3 hownp3 hownE3 hs3 hSS3 hG3 hsz3
          obtain ⟨A5, c5, rfl, _, _⟩ := hownq.shape
          obtain ⟨LQ, hLQ⟩ : ∃ LQ, p'.length = LQ := ⟨_, rfl⟩
          have HLQ := Lib.hid hLQ
          have HOQ : Hid (World.ownsRow w14 b2 134 6 (.slice A5 LQ c5) LQ (p'.flatMap ju5)) := by
           show World.ownsRow _ _ _ _ _ _ _
           have h := hownq
           unfold PfxsFrom at h
           rw [hLQ] at h
           exact h
          have HRN : Hid (rtP L l2 P (j + 1) = (p' ++ [x], P3)) := by show _ = _; rw [HPX.out]; exact jlg HRP.out HR.out
          have HLL : Hid ((p' ++ [x]).length ≤ 2 * (j + 1)) := by show _ ≤ _; have := HPL.out; rw [List.length_append]; simp; omega
          have hLQb : LQ ≤ 30 := by have := HPL.out; omega
          (try rw [hLQ])
          clear hLQ hownq
          obtain ⟨XB, XE, XA, XZ, XW, XN⟩ := x
          have y0 := hY.cell 0
          have y1 := hY.cell 1
          have y2 := hY.cell 2
          have y3 := hY.cell 3
          have y4 := hY.cell 4
          have y5 := hY.cell 5
          simp only [geA, geZ, geS] at y0 y1 y2 y3 y4 y5
          have hrow := HOQ.out.lt
          go_wp2_with (at_builtin; refine wpList_append_lies _ rfl _ _ 27 rfl b2 134 j0 _ 6 64 Tryz.underlying27 hj hy0 hy1 hy2 rfl (by decide) _ LQ _ rfl (World.ownsRow.alloc HOQ.out _) ⟨_, 0, none⟩ 1 1 [.string XB, .string XE, .int .i64 XA, .int .i64 XZ, .bool XW, .int .i64 XN] rfl rfl (World.news_of_block (Blk.new _ _ _)) (jla _ _ _ _ _ _) (by decide) (by unfold maxLen; omega) (by omega) (by simp; omega) _ rfl ?_; intro g9 cap w15 hown9 hg9 hat9 hgl9)
          have hownE5 := jas (World.ownsRow.alloc hownE4 _) (fun g e => by simp [Value.ownBlock] at e; have := HE2.out.1; omega) hg9 (fun g e => (hrow g e).1)
          have hs5 := (hs4.alloc _).grown hg9 (fun g e => by have := (hrow g e).1; have := HBB2.out; have := HBASE.out; omega)
          have hSS5x := (hSS4.alloc _).grown hg9 (fun e => by have := (hrow _ e.symm).1; have := HS2.out.1; omega)
          have hG5x := jk (jd hG4 _) hg9 (fun g e => .inr (by have := (hrow g e).1; have := HB1L.out; have := HB12.out; omega))
          have hsz5x : b2 ≤ w15.heap.size := by have := hg9.size; simp at this; omega
          have hrow5 := jo4 HLQ.out.symm XB XE XA XZ XW XN hown9
          clear y0 y1 y2 y3 y4 y5 hY hg9 hat9
          go_wp2_with fail
          go_roundw
          case rel => exact ⟨j + 1, _, P3, by omega, by go_num, HRN, HLL.out, HALL, by omega, by omega, hrow5, hownE5, hs5, hSS5x, hG5x, hsz5x⟩
          case measure => simp [intOf]; omega
     have HR0 : Hid (rtP L l2 P (j + 1) = (p, P2 + 1)) := by
      show _ = _
      have hr : rtR L l2 j P2 = ([], P2 + 1) := by unfold rtR; rw [HF.out]; rfl
      have := jlg HRP.out hr
      rwa [List.append_nil] at this
     go_wp2_with fail
     go_roundw
     case rel => exact ⟨j + 1, p, P2 + 1, by omega, by go_num, HR0, by rw [HLP.out]; omega, HAP, by omega, by omega, hownp5, hownE5, hs5, hSS5, hG5, hsz5⟩
     case measure => simp [intOf]; omega
    have h12 : j = 12 := by omega
    have hnl2 : ¬ (j : Int) < 12 := by omega
    have HRP12 : Hid (rtP L l2 P 12 = (p, P2)) := by show _ = _; rw [← h12]; exact HRP.out
    have hpl24 : LP ≤ 24 := by omega
    have hP3' : P2 ≤ P + 120 := by omega
    have HALL0 : Hid (decide (qx L P2 3 = 0) = false → jfn L k = (l2, p, P2 + 1)) := fun h => by
     unfold jfn
     simp only [HRT5.out, HL2.out, HRP12.out, h]
     rfl
    have HALL1 : Hid (decide (qx L P2 3 = 0) = true → jfn L k = (l2, rtW p LP, P2 + 1)) := fun h => by
     unfold jfn
     simp only [HRT5.out, HL2.out, HRP12.out, h, if_true]
     rw [HLP.out]
    have hrowE := hownE
    have hrowP := hownp
    clear h12 hP3 hpl hj' hj12 HRP hownE hownp
    go_wp2_with fail
    refine (jac base b L P2 3 _ hs (by omega) (by omega) (by omega)).mono ?_
    rintro _ w5 ⟨f3, HF3, rfl, hs5, hg5⟩
    have hownE5 := EntsFrom.other hrowE hg5 HBB.out
    have hownp5 := PfxsFrom.other hrowP hg5 HBB2.out
    have hG5 := ja hG hg5
    have hsz5 := Nat.le_trans hsz hg5.size
    clear hs hSS hG hsz hg5 hrowE hrowP
    cases f3
    ·go_wp2_with fail
     go_ret2
     exact ⟨_, _, l2, p, P2 + 1, HALL0.out HF3.out, rfl, EntsFrom.low hownE5 HB1L.out, PfxsFrom.low hownp5 (Nat.le_trans HB1L.out HB12.out), by rw [HLE.out]; omega, by rw [HLE.out]; omega, by rw [HLP.out]; omega, HAE2.out, HAP.out, by omega, by omega, hs5, hG5⟩
    have HR1 : Hid (jfn L k = (l2, rtW p LP, P2 + 1)) := HALL1.out HF3.out
    go_wp2_with fail
    go_loopw [132] (fun iv wr => ∃ i3 : Nat, i3 ≤ LP ∧ iv = .int .i64 i3 ∧ PfxsFrom b2 wr (.slice A4 LP c4) (rtW p i3) ∧ EntsFrom b1 wr (.slice (some ⟨gE, 0, none⟩) LE c3) l2 ∧ SX base wr b L (P2 + 1) ∧ w.grownBy wr (some b) ∧ b2 ≤ wr.heap.size) (fun iv _ => LP - (intOf iv).toNat)
    case atStart => exact ⟨0, by omega, rfl, hownp5, hownE5, hs5, hG5, hsz5⟩
    case round =>
     obtain ⟨i3, hi3, rfl, hownq, hownF, hs6, hG6, hsz6⟩ := hrel
     clear hownp5 hownE5 hs5 hG5 hsz5
     by_cases hlt3 : i3 < LP
     ·have hqi : (i3 : Int) < (LP : Int) := by omega
      have HLEN : Hid ((rtW p i3).length = LP) := by show _ = _; rw [jdf, HLP.out]
      have hpi : i3 < p.length := by rw [HLP.out]; exact hlt3
      obtain ⟨gp, rfl, hgp2⟩ : ∃ gp, A4 = some ⟨gp, 0, none⟩ ∧ b2 ≤ gp := by
       obtain ⟨A', c', he, _, hA'⟩ := hownq.shape
       obtain ⟨g, hg, hge, _⟩ := hA' (by rw [HLEN.out]; omega)
       injection he with h1 h2 h3
       exact ⟨g, by rw [h1, hg], hge⟩
      have hat := (show PfxsFrom b2 wr (.slice (some ⟨gp, 0, none⟩) (rtW p i3).length c4) (rtW p i3) from by rw [HLEN.out]; exact hownq).at_ i3 (by rw [HLEN.out]; exact hlt3)
      have hxe : (rtW p i3)[i3]'(by rw [HLEN.out]; exact hlt3) = p[i3] := by
       have h1 := jlh p i3 i3 (Nat.le_refl _)
       rw [List.getElem?_eq_getElem (by rw [HLEN.out]; exact hlt3), List.getElem?_eq_getElem hpi] at h1
       exact Option.some.inj h1
      rw [hxe] at hat
      obtain ⟨q0, q1, q2, q3, q4, q5⟩ := hat
      have HW1 : Hid (p[i3].whole = true → rtW p (i3 + 1) = rtW p i3) := fun h => jsu p i3 hpi (.inr h)
      have hbi : yl p i3 = p[i3].beg := by unfold yl; rw [List.getElem?_eq_getElem hpi]
      have HNO : Hid (¬ (p[i3].beg = k1ab ∧ (i3 = 0 ∨ yl p (i3 - 1) ≠ k1ab) ∧ (i3 + 1 = p.length ∨ yl p (i3 + 1) ≠ k1ab)) → rtW p (i3 + 1) = rtW p i3) := fun h => jsu p i3 hpi (.inl (by
       unfold jea
       rw [hbi]
       cases hc : (decide (p[i3].beg = k1ab) && ((decide (i3 = 0) || !decide (yl p (i3 - 1) = k1ab)) && (decide (i3 + 1 = p.length) || !decide (yl p (i3 + 1) = k1ab)))) with
       | false => rfl
       | true => exact absurd (by simpa using hc) h))
      have HYES : Hid (p[i3].whole = false → p[i3].beg = k1ab → (i3 = 0 ∨ yl p (i3 - 1) ≠ k1ab) → (i3 + 1 = p.length ∨ yl p (i3 + 1) ≠ k1ab) → ∃ h : i3 < (rtW p i3).length, rtW p (i3 + 1) = (rtW p i3).set i3 (ji8 (rtW p i3)[i3])) := fun h1 h2 h3 h4 => by
       refine ⟨by rw [HLEN.out]; exact hlt3, ?_⟩
       rw [hxe]
       refine juh p i3 hpi ?_ h1
       unfold jea
       rw [hbi, h2]
       simpa using And.intro h3 h4
      generalize p[i3].beg = B at *
      generalize p[i3].ent = N at *
      generalize p[i3].a = xa at *
      generalize p[i3].z = xz at *
      generalize p[i3].whole = H at *
      generalize p[i3].zone = Z at *
      clear hxe
      have hX := Blk.new wr 134 #[.string B, .string N, .int .i64 xa, .int .i64 xz, .bool H, .int .i64 Z]
      have hgA := World.grownBy_alloc wr (.cells #[.string B, .string N, .int .i64 xa, .int .i64 xz, .bool H, .int .i64 Z] 134) none
      have cW4 := hgA.cell q4 (by simp)
      have hownq2 := PfxsFrom.grown hownq hgA
      have hownF2 := EntsFrom.grown hownF hgA
      have hs7 := hs6.alloc (.cells #[.string B, .string N, .int .i64 xa, .int .i64 xz, .bool H, .int .i64 Z] 134)
      have hG7 := jd hG6 (.cells #[.string B, .string N, .int .i64 xa, .int .i64 xz, .bool H, .int .i64 Z] 134)
      go_upto_region 35 with fail
      have hsz7 := Nat.le_trans hsz6 hgA.size
      generalize wr.alloc (.cells #[.string B, .string N, .int .i64 xa, .int .i64 xz, .bool H, .int .i64 Z] 134) = w7 at *
      have hownR : PfxsFrom b2 w7 (.slice (some ⟨gp, 0, none⟩) LP c4) (rtW p i3) := hownq2
      have HOW7 := Lib.hid hownR
      have HFZ : Hid (∀ j, w7.frozen? ⟨gp, j, none⟩ = false) := fun j => jry hownR HLEN.out.symm j
      obtain ⟨N1, hN1⟩ : ∃ N1, i3 + 1 = N1 := ⟨_, rfl⟩
      have hw2 : IntKind.i64.wrap ((i3 : Int) + 1) = (N1 : Int) := by rw [IntKind.wrap_i64]; have := HLP.out; omega
      have hw3 : IntKind.i64.wrap (N1 : Int) = (N1 : Int) := by rw [IntKind.wrap_i64]; have := HLP.out; omega
      have hN1L : N1 ≤ LP := by omega
      have hN1i : i3 < N1 := by omega
      have HN1 := Lib.hid hN1
      have HPUT : Hid (H = false → B = k1ab → (i3 = 0 ∨ yl p (i3 - 1) ≠ k1ab) → (i3 + 1 = p.length ∨ yl p (i3 + 1) ≠ k1ab) → PfxsFrom b2 (w7.setCell ⟨gp, i3 * 6 + 4, none⟩ (.bool true)) (.slice (some ⟨gp, 0, none⟩) LP c4) (rtW p N1) ∧ w7.grownBy (w7.setCell ⟨gp, i3 * 6 + 4, none⟩ (.bool true)) (some gp)) := fun h1 h2 h3 h4 => by
       obtain ⟨hl, he⟩ := HYES.out h1 h2 h3 h4
       rw [← HN1.out, he]
       exact jo5 hownR HLEN.out.symm i3 hl
      have x0 := hX.cell 0
      have x4 := hX.cell 4
      simp only [geA, geZ, geS] at x0 x4
      clear hownR hownq2 hownq HYES hX hN1 hownF hs6 hG6 hsz6
      by_cases hb : B = k1ab
      ·have hbb := jk4 hb
       have HB := Lib.hid hb
       clear hb
       cases H
       ·have HH : Hid (false = false) := rfl
        rcases Nat.eq_zero_or_pos i3 with h0 | h0
        ·have hz : ((i3 : Int) == 0) = true := by rw [h0]; simp
         have HI0 := Lib.hid h0
         clear h0
         by_cases hq : N1 = LP
         ·have hq1 : ((N1 : Int) == (LP : Int)) = true := by rw [hq]; simp
          have HROW := Lib.hid (HPUT.out HH.out HB.out (.inl HI0.out) (.inl (by rw [HN1.out, HLP.out]; exact hq)))
          clear hq
          obtain ⟨hrow8, hg8⟩ := HROW.out
          have hownF8 := jas (B := b2) hownF2 (fun g e => by simp [Value.ownBlock] at e; have := HE2.out.1; omega) hg8 (fun g e => by injection e with e; omega)
          have hs8 := hs7.grown hg8 (fun g e => by injection e with e; have := HBB2.out; have := HBASE.out; omega)
          have hG8 := jk hG7 hg8 (fun g e => by injection e with e; exact .inr (by have := HB1L.out; have := HB12.out; omega))
          have hsz8 := Nat.le_trans hsz7 hg8.size
          have hfz := HFZ.out
          have HR8 := Lib.hid hrow8
          clear hrow8 hg8 hownF2 hs7 hG7 hsz7
          go_wp2_with fail
          go_roundw
          case rel => exact ⟨N1, by omega, by first | rfl | go_num, HR8.out, hownF8, hs8, hG8, hsz8⟩
          case measure => simp [intOf]; omega
         have hq1 : ((N1 : Int) == (LP : Int)) = false := by rw [beq_eq_false_iff_ne]; omega
         have hqL : (N1 : Int) < (LP : Int) := by omega
         have hc1 : w7.cell? ⟨gp, N1 * 6, none⟩ = some (.string (yl p N1)) := by
          have h := jkb HOW7.out HLEN.out.symm N1 (by rw [HLEN.out]; omega)
          rw [jhf] at h
          exact h
         obtain ⟨BN, hBN⟩ : ∃ BN, yl p N1 = BN := ⟨_, rfl⟩
         rw [hBN] at hc1
         have HBN := Lib.hid hBN
         clear hBN hq
         by_cases hn : BN = k1ab
         ·have hnn := jk4 hn
          have HNN := Lib.hid hn
          clear hn
          have HROWN : Hid (PfxsFrom b2 w7 (.slice (some ⟨gp, 0, none⟩) LP c4) (rtW p N1)) := by show PfxsFrom _ _ _ _; rw [← HN1.out, HNO.out (fun h => h.2.2.elim (fun e => by rw [HN1.out, HLP.out] at e; omega) (fun e => e (by rw [HN1.out, HBN.out]; exact HNN.out)))]; exact HOW7.out
          go_wp2_with fail
          go_roundw
          case rel => exact ⟨N1, by omega, by first | rfl | go_num, HROWN.out, hownF2, hs7, hG7, hsz7⟩
          case measure => simp [intOf]; omega
         have hnn := jrn hn
         have HROW := Lib.hid (HPUT.out HH.out HB.out (.inl HI0.out) (.inr (by rw [HN1.out, HBN.out]; exact hn)))
         clear hn
         obtain ⟨hrow8, hg8⟩ := HROW.out
         have hownF8 := jas (B := b2) hownF2 (fun g e => by simp [Value.ownBlock] at e; have := HE2.out.1; omega) hg8 (fun g e => by injection e with e; omega)
         have hs8 := hs7.grown hg8 (fun g e => by injection e with e; have := HBB2.out; have := HBASE.out; omega)
         have hG8 := jk hG7 hg8 (fun g e => by injection e with e; exact .inr (by have := HB1L.out; have := HB12.out; omega))
         have hsz8 := Nat.le_trans hsz7 hg8.size
         have hfz := HFZ.out
         have HR8 := Lib.hid hrow8
         clear hrow8 hg8 hownF2 hs7 hG7 hsz7
         go_wp2_with fail
         go_roundw
         case rel => exact ⟨N1, by omega, by first | rfl | go_num, HR8.out, hownF8, hs8, hG8, hsz8⟩
         case measure => simp [intOf]; omega
        have hz : ((i3 : Int) == 0) = false := by rw [beq_eq_false_iff_ne]; omega
        obtain ⟨P1, hP1⟩ : ∃ P1, P1 + 1 = i3 := ⟨i3 - 1, by omega⟩
        have hw1 : IntKind.i64.wrap ((i3 : Int) - 1) = (P1 : Int) := by rw [IntKind.wrap_i64]; have := HLP.out; omega
        have hpL : (P1 : Int) < (LP : Int) := by omega
        have hi1 : i3 - 1 = P1 := by omega
        have hc0 : w7.cell? ⟨gp, P1 * 6, none⟩ = some (.string (yl p P1)) := by
         have h := jkb HOW7.out HLEN.out.symm P1 (by rw [HLEN.out]; omega)
         rw [jhf] at h
         exact h
        obtain ⟨BP, hBP⟩ : ∃ BP, yl p P1 = BP := ⟨_, rfl⟩
        rw [hBP] at hc0
        have HBP : Hid (yl p (i3 - 1) = BP) := by show _ = _; rw [hi1]; exact hBP
        clear hBP hP1 hi1 h0
        by_cases hp : BP = k1ab
        ·have hpp := jk4 hp
         have HPP := Lib.hid hp
         have HI1 : Hid (i3 ≠ 0) := fun e => by rw [e] at hz; simp at hz
         clear hp
         have HROWN : Hid (PfxsFrom b2 w7 (.slice (some ⟨gp, 0, none⟩) LP c4) (rtW p N1)) := by show PfxsFrom _ _ _ _; rw [← HN1.out, HNO.out (fun h => h.2.1.elim (fun e => HI1.out e) (fun e => e (by rw [HBP.out]; exact HPP.out)))]; exact HOW7.out
         go_wp2_with fail
         go_roundw
         case rel => exact ⟨N1, by omega, by first | rfl | go_num, HROWN.out, hownF2, hs7, hG7, hsz7⟩
         case measure => simp [intOf]; omega
        have hpp := jrn hp
        have HPP : Hid (yl p (i3 - 1) ≠ k1ab) := by show _ ≠ _; rw [HBP.out]; exact hp
        clear hp
        by_cases hq : N1 = LP
        ·have hq1 : ((N1 : Int) == (LP : Int)) = true := by rw [hq]; simp
         have HROW := Lib.hid (HPUT.out HH.out HB.out (.inr HPP.out) (.inl (by rw [HN1.out, HLP.out]; exact hq)))
         clear hq
         obtain ⟨hrow8, hg8⟩ := HROW.out
         have hownF8 := jas (B := b2) hownF2 (fun g e => by simp [Value.ownBlock] at e; have := HE2.out.1; omega) hg8 (fun g e => by injection e with e; omega)
         have hs8 := hs7.grown hg8 (fun g e => by injection e with e; have := HBB2.out; have := HBASE.out; omega)
         have hG8 := jk hG7 hg8 (fun g e => by injection e with e; exact .inr (by have := HB1L.out; have := HB12.out; omega))
         have hsz8 := Nat.le_trans hsz7 hg8.size
         have hfz := HFZ.out
         have HR8 := Lib.hid hrow8
         clear hrow8 hg8 hownF2 hs7 hG7 hsz7
         go_wp2_with fail
         go_roundw
         case rel => exact ⟨N1, by omega, by first | rfl | go_num, HR8.out, hownF8, hs8, hG8, hsz8⟩
         case measure => simp [intOf]; omega
        have hq1 : ((N1 : Int) == (LP : Int)) = false := by rw [beq_eq_false_iff_ne]; omega
        have hqL : (N1 : Int) < (LP : Int) := by omega
        have hc1 : w7.cell? ⟨gp, N1 * 6, none⟩ = some (.string (yl p N1)) := by
         have h := jkb HOW7.out HLEN.out.symm N1 (by rw [HLEN.out]; omega)
         rw [jhf] at h
         exact h
        obtain ⟨BN, hBN⟩ : ∃ BN, yl p N1 = BN := ⟨_, rfl⟩
        rw [hBN] at hc1
        have HBN := Lib.hid hBN
        clear hBN hq
        by_cases hn : BN = k1ab
        ·have hnn := jk4 hn
         have HNN := Lib.hid hn
         clear hn
         have HROWN : Hid (PfxsFrom b2 w7 (.slice (some ⟨gp, 0, none⟩) LP c4) (rtW p N1)) := by show PfxsFrom _ _ _ _; rw [← HN1.out, HNO.out (fun h => h.2.2.elim (fun e => by rw [HN1.out, HLP.out] at e; omega) (fun e => e (by rw [HN1.out, HBN.out]; exact HNN.out)))]; exact HOW7.out
         go_wp2_with fail
         go_roundw
         case rel => exact ⟨N1, by omega, by first | rfl | go_num, HROWN.out, hownF2, hs7, hG7, hsz7⟩
         case measure => simp [intOf]; omega
        have hnn := jrn hn
        have HROW := Lib.hid (HPUT.out HH.out HB.out (.inr HPP.out) (.inr (by rw [HN1.out, HBN.out]; exact hn)))
        clear hn
        obtain ⟨hrow8, hg8⟩ := HROW.out
        have hownF8 := jas (B := b2) hownF2 (fun g e => by simp [Value.ownBlock] at e; have := HE2.out.1; omega) hg8 (fun g e => by injection e with e; omega)
        have hs8 := hs7.grown hg8 (fun g e => by injection e with e; have := HBB2.out; have := HBASE.out; omega)
        have hG8 := jk hG7 hg8 (fun g e => by injection e with e; exact .inr (by have := HB1L.out; have := HB12.out; omega))
        have hsz8 := Nat.le_trans hsz7 hg8.size
        have hfz := HFZ.out
        have HR8 := Lib.hid hrow8
        clear hrow8 hg8 hownF2 hs7 hG7 hsz7
        go_wp2_with fail
        go_roundw
        case rel => exact ⟨N1, by omega, by first | rfl | go_num, HR8.out, hownF8, hs8, hG8, hsz8⟩
        case measure => simp [intOf]; omega
       have HH : Hid (true = true) := rfl
       have HROWN : Hid (PfxsFrom b2 w7 (.slice (some ⟨gp, 0, none⟩) LP c4) (rtW p N1)) := by show PfxsFrom _ _ _ _; rw [← HN1.out, HW1.out rfl]; exact HOW7.out
       go_wp2_with fail
       go_roundw
       case rel => exact ⟨N1, by omega, by first | rfl | go_num, HROWN.out, hownF2, hs7, hG7, hsz7⟩
       case measure => simp [intOf]; omega
      have hbb := jrn hb
      have HB := Lib.hid hb
      clear hb
      have HROWN : Hid (PfxsFrom b2 w7 (.slice (some ⟨gp, 0, none⟩) LP c4) (rtW p N1)) := by show PfxsFrom _ _ _ _; rw [← HN1.out, HNO.out (fun h => HB.out h.1)]; exact HOW7.out
      go_wp2_with fail
      go_roundw
      case rel => exact ⟨N1, by omega, by first | rfl | go_num, HROWN.out, hownF2, hs7, hG7, hsz7⟩
      case measure => simp [intOf]; omega
     have h3 : i3 = LP := by omega
     have hnl3 : ¬ (i3 : Int) < (LP : Int) := by omega
     rw [h3] at hownq
     clear h3 hlt3 hi3
     go_wp2_with fail
     go_ret2
     exact ⟨_, _, l2, rtW p LP, P2 + 1, HR1, rfl, EntsFrom.low hownF HB1L.out, PfxsFrom.low hownq (Nat.le_trans HB1L.out HB12.out), by rw [HLE.out]; omega, by rw [HLE.out]; omega, by rw [jdf, HLP.out]; omega, HAE2.out, jpc p HAP.out LP, by omega, by omega, hs6, hG6⟩
end Go.Proofs.YtbamhgaghngjiaaGreatDoor
