/- Parts of a proof: KeyB, CleanPlain. Conditions: as each statement says. -/
import Derived.Test.YtbamhgaghngjiaaGreatDoorCoab
import Derived.Lib.SplitLaws
import Derived.Deep.DeepCutAuto
namespace Go.Proofs.YtbamhgaghngjiaaGreatDoor
open Go.RowKit
set_option linter.unusedVariables false

def StrsFrom (base : Nat) (w : World) (v : Value) (l : List ByteArray) : Prop := w.ownsRow base 9 1 v l.length (l.map Value.string)
theorem StrsFrom.low {base base' : Nat} {w : World} {v : Value} {l : List ByteArray} (h : StrsFrom base w v l) (hb : base' ≤ base) : StrsFrom base' w v l := jq h hb
theorem StrsFrom.grown {base : Nat} {w w' : World} {v : Value} {l : List ByteArray} (h : StrsFrom base w v l) (hg : w.grownBy w' none) : StrsFrom base w' v l := j7 h hg
theorem StrsFrom.other {base b : Nat} {w w' : World} {v : Value} {l : List ByteArray} (h : StrsFrom base w v l) (hg : w.grownBy w' (some b)) (hb : b < base) : StrsFrom base w' v l := jy h hg hb
theorem StrsFrom.nil (base : Nat) (w : World) : StrsFrom base w (.slice none 0 0) [] := World.ownsRow_nil _ _ _ _
theorem StrsFrom.shape {base : Nat} {w : World} {v : Value} {l : List ByteArray} (h : StrsFrom base w v l) :
 ∃ A c, v = .slice A l.length c ∧ l.length ≤ 9223372036854775807 ∧ (0 < l.length → ∃ g, A = some ⟨g, 0, none⟩ ∧ base ≤ g ∧ g < w.heap.size) := j1 h
theorem StrsFrom.at_ {base : Nat} {w : World} {g c : Nat} {l : List ByteArray} (h : StrsFrom base w (.slice (some ⟨g, 0, none⟩) l.length c) l) (k : Nat) (hk : k < l.length) : w.cell? ⟨g, k, none⟩ = some (.string l[k]) := by
 rw [World.ownsRow.cellAt h k (by omega)]
 simp [hk]
theorem jqj {w : World} {g base : Nat} {l : List ByteArray} (h : Blk w g 9 (l.map Value.string).toArray) (hb : base ≤ g) (hn : l.length ≤ 100000000000) : StrsFrom base w (.slice (some ⟨g, 0, none⟩) l.length l.length) l := by
 refine ⟨by simp, .inr ⟨g, l.length, _, rfl, hb, h, Nat.le_refl _, by unfold maxLen; omega, by simp, ?_⟩⟩
 exact List.take_of_length_le (by simp)
theorem juq : (Tryz.prog.info? 9).map (fun i => (i.zero, i.size, i.bytes)) = some (some (.string ⟨#[]⟩), 1, 16) := by kernel_rfl
theorem jur (x : ByteArray) : ∀ u ∈ [Value.string x], u.oneCell' = true := by
 intro u hu; simp at hu; subst hu; rfl
def jdk : ByteArray := ⟨#[32]⟩
def jt (s : ByteArray) : List ByteArray := Lib.splitB jdk 0 (Lib.countB s jdk) s
theorem jci (s : ByteArray) : (jt s).length = Lib.countB s jdk + 1 := Lib.splitB_all jdk (by decide) 0 _ s rfl
theorem jch (s : ByteArray) : (jt s).length ≤ s.size + 1 := by
 rw [jci]
 have := Lib.countB_le jdk (by decide) s.size s (Nat.le_refl _)
 omega
theorem jax (s : ByteArray) : 0 < (jt s).length := by rw [jci]; omega
theorem jdv (sep : ByteArray) : ∀ (k : Nat) (s : ByteArray), ∀ p ∈ Lib.splitB sep 0 k s, p.size ≤ s.size
 | 0, s, p, hp => by
   rw [Lib.splitB_zero] at hp
   simp at hp
   rw [hp]
   exact Nat.le_refl _
 | k + 1, s, p, hp => by
   unfold Lib.splitB at hp
   split at hp
   ·simp at hp
    rw [hp]
    exact Nat.le_refl _
   rcases List.mem_cons.1 hp with h | h
   ·rw [h]; simp; omega
   have := jdv sep k _ p h
   simp at this
   omega
theorem jay (s : ByteArray) : ∀ p ∈ jt s, p.size ≤ s.size := jdv jdk _ s
def jqc (l : List ByteArray) (w : World) (e : Ending) (w' : World) : Prop := ∃ v, e = .returned v ∧ StrsFrom w.heap.size w' v l ∧ w.grownBy w' none
theorem jfb (b : Nat) (s : ByteArray) (w : World) (hgl : Gl b w) (hs : s.size < 4294967281) :
 Calls Tryz.prog 194 #[.string s, .string ⟨#[32]⟩] w (jqc (jt s) w) := by
 obtain ⟨m, hm⟩ := hgl.mx
 refine (Tryz.strings_Split s ⟨#[32]⟩ m w hs hm (by decide)).mono ?_
 rintro e w' ⟨he, hw⟩
 have hl := jci s
 have hf := jch s
 subst hw
 refine ⟨_, he, ?_, World.grownBy_alloc w _ none⟩
 have h := jqj (Blk.new w 9 ((jt s).map Value.string).toArray) (Nat.le_refl _) (by omega)
 show StrsFrom _ _ (.slice _ (Lib.countB s jdk + 1) (Lib.countB s jdk + 1)) (jt s)
 rw [← hl]
 exact h
end Go.Proofs.YtbamhgaghngjiaaGreatDoor

namespace Go.Proofs.YtbamhgaghngjiaaGreatDoor
open Go.RowKit
set_option linter.unusedVariables false

def jdb (l : List ByteArray) : Bool := l.all fun p => !p.toList.isEmpty
theorem jl4 {l : List ByteArray} (k : Nat) (h : k < l.length) (he : l[k].toList.isEmpty = true) : jdb l = false := by
 unfold jdb
 rw [List.all_eq_false]
 exact ⟨l[k], List.getElem_mem h, by simp [he]⟩
theorem jl5 (l : List ByteArray) (k : Nat) (h : k < l.length) (h1 : jdb (l.take k) = true) (he : l[k].toList.isEmpty = false) : jdb (l.take (k + 1)) = true := by
 rw [List.take_succ_eq_append_getElem h]
 unfold jdb at h1 ⊢
 rw [List.all_append, h1]
 simp [he]
def jnk (s : ByteArray) (w : World) (e : Ending) (w' : World) : Prop :=
 w.grownBy w' none ∧ ((jdb (jt s) = false ∧ e = .returned (.tuple #[.slice none 0 0, .bool false])) ∨
 (jdb (jt s) = true ∧ ∃ v, e = .returned (.tuple #[v, .bool true]) ∧ StrsFrom w.heap.size w' v (jt s)))
set_option maxHeartbeats 1000000 in
theorem jp5 (b : Nat) (s : ByteArray) (w : World) (hgl : Gl b w) (hs : s.size < 4294967281) :
 Calls Tryz.prog 147 #[.string s] w (jnk s w) := by
 go_enter Tryz.func147, Tryz.ntmps147
 go_wp2_with fail
 refine (jfb b s _ hgl hs).mono ?_
 rintro _ w1 ⟨v, rfl, hv, hg⟩
 obtain ⟨A, c, rfl, hl, hA⟩ := hv.shape
 obtain ⟨g, rfl, hg0, _⟩ := hA (jax s)
 have HV := Lib.hid hv
 clear hv hA hgl
 go_wp2_with fail
 go_loop [11] (fun i => ∃ k : Nat, k ≤ (jt s).length ∧ i = .int .i64 k ∧ Hid (jdb ((jt s).take k) = true)) (fun i => (jt s).length - (intOf i).toNat)
 case atStart => exact ⟨0, by omega, rfl, rfl⟩
 case round =>
  obtain ⟨k, hk, rfl, HR⟩ := hrel
  by_cases hlt : k < (jt s).length
  ·have hat := HV.out.at_ k hlt
   obtain ⟨p, hp⟩ : ∃ p, (jt s)[k] = p := ⟨_, rfl⟩
   rw [hp] at hat
   have hlt2 : (k : Int) < ((jt s).length : Int) := by omega
   cases he : p.toList.isEmpty
   ·have HN := Lib.hid (jl5 _ k hlt HR.out (by rw [hp]; exact he))
    have HP := Lib.hid hp
    clear hp
    go_wp2_with fail
    go_round
    case rel => exact ⟨k + 1, by omega, by go_num, HN⟩
    case measure => simp [intOf]; omega
   have HN := Lib.hid (jl4 k hlt (by rw [hp]; exact he))
   have HP := Lib.hid hp
   clear hp
   go_wp2_with fail
   go_ret2
   exact ⟨hg, .inl ⟨HN.out, rfl⟩⟩
  have hlt2 : ¬ (k : Int) < ((jt s).length : Int) := by omega
  have HF : Hid (jdb (jt s) = true) := by
   have := HR.out
   rwa [List.take_of_length_le (by omega)] at this
  go_wp2_with fail
  go_ret2
  exact ⟨hg, .inr ⟨HF.out, _, rfl, HV.out⟩⟩
def jjk (c : UInt8) : ByteArray := ⟨(zr c).toArray⟩
theorem jfv (c : UInt8) : (jjk c).data.toList = zr c := rfl
theorem jjl (c : UInt8) : (jjk c).toList.isEmpty = (zr c).isEmpty := by rw [Lib.toList_data, jfv]
theorem MapB.code {w : World} {bm : Nat} (h : MapB w bm 40 codeT) (c : UInt8) :
 (Instr.lookup 140 (.map (some bm)) (.int .u8 (c.toNat : Int)) false).run Tryz.prog w = .ok (.string (jjk c)) w := by
 have := h.look c
 rw [jme] at this
 exact this
def jjn (p : ByteArray) : Bool := p.data.toList.all fun c => !(zr c).isEmpty
def jb1 (s : ByteArray) : Int := if 500 < s.size then 2 else if jdb (jt s) = true ∧ (jt s).all jjn = true then 0 else 3
theorem jkl {s : ByteArray} (h : 500 < s.size) : jb1 s = 2 := by unfold jb1; rw [if_pos h]
theorem jr8 {s : ByteArray} (h : ¬ 500 < s.size) (h1 : jdb (jt s) = true) (h2 : (jt s).all jjn = true) : jb1 s = 0 := by unfold jb1; rw [if_neg h, if_pos ⟨h1, h2⟩]
theorem jpg {s : ByteArray} (h : ¬ 500 < s.size) (h1 : jdb (jt s) = false) : jb1 s = 3 := by unfold jb1; rw [if_neg h, if_neg (by rw [h1]; simp)]
theorem jmw {s : ByteArray} (h : ¬ 500 < s.size) (k : Nat) (hk : k < (jt s).length) (n : Nat) (hn : n < (jt s)[k].size) (he : (zr (jt s)[k][n]).isEmpty = true) : jb1 s = 3 := by
 unfold jb1
 rw [if_neg h, if_neg]
 rintro ⟨-, h2⟩
 have h3 := List.all_eq_true.1 h2 _ (List.getElem_mem hk)
 unfold jjn at h3
 have h4 := List.all_eq_true.1 h3 (jt s)[k][n] (by show (jt s)[k].data[n] ∈ _; simp)
 rw [he] at h4
 simp at h4
theorem jmx {s : ByteArray} (h : jb1 s = 0) : s.size ≤ 500 ∧ jdb (jt s) = true ∧ (jt s).all jjn = true := by
 unfold jb1 at h
 split at h
 ·omega
 split at h
 ·rename_i h1 h2; exact ⟨by omega, h2⟩
 omega
set_option maxRecDepth 100000 in
set_option maxHeartbeats 2000000 in
theorem jgm (b : Nat) (s : ByteArray) (w : World) (hgl : Gl b w) (hs : s.size < 4294967281) :
 Calls Tryz.prog 87 #[.string s] w fun e w' => e = .returned (.int .i64 (jb1 s)) ∧ w.grownBy w' none := by
 by_cases hl : 500 < s.size
 ·have hl2 : (500 : Int) < (s.size : Int) := by omega
  have HE := Lib.hid (jkl hl)
  clear hgl
  go_enter Tryz.func87, Tryz.ntmps87
  go_wp2_with fail
  go_ret
  exact ⟨ji HE.out.symm, jf _ _⟩
 have hl2 : ¬ (500 : Int) < (s.size : Int) := by omega
 have HGL := Lib.hid hgl
 clear hgl
 go_enter Tryz.func87, Tryz.ntmps87
 go_wp2_with fail
 refine (jp5 b s _ HGL.out hs).mono ?_
 rintro _ w1 ⟨hg1, hpost⟩
 rcases hpost with ⟨hf, rfl⟩ | ⟨hf, v, rfl, hv⟩
 ·have HE := Lib.hid (jpg hl hf)
  clear hf
  go_wp2_with fail
  go_ret
  exact ⟨ji HE.out.symm, hg1⟩
 have HF := Lib.hid hf
 obtain ⟨A, c, rfl, hvl, hA⟩ := hv.shape
 obtain ⟨g, rfl, hg0, _⟩ := hA (jax s)
 have HV := Lib.hid hv
 clear hv hA hf
 go_wp2_with fail
 refine (jee b _ (HGL.out.quiet hg1)).mono ?_
 rintro _ w2 ⟨bm, rfl, hbm, hM, hg2⟩
 have HM := Lib.hid hM
 have HW := Lib.hid (HV.out.grown hg2)
 have HG := Lib.hid (ja hg1 hg2)
 clear hM HV hg1 hg2
 go_wp2_with fail
 go_loop [22] (fun i => ∃ k : Nat, k ≤ (jt s).length ∧ i = .int .i64 k ∧ Hid (∀ j (hj : j < (jt s).length), j < k → jjn (jt s)[j] = true)) (fun i => (jt s).length - (intOf i).toNat)
 case atStart => exact ⟨0, by omega, rfl, fun j hj h => by omega⟩
 case round =>
  obtain ⟨k, hk, rfl, HR⟩ := hrel
  by_cases hlt : k < (jt s).length
  ·have hat := HW.out.at_ k hlt
   have hsm := jay s _ (List.getElem_mem hlt)
   have HS := @jmw s hl k hlt
   obtain ⟨p, hp⟩ : ∃ p, (jt s)[k] = p := ⟨_, rfl⟩
   rw [hp] at hat hsm
   have hlt2 : (k : Int) < ((jt s).length : Int) := by omega
   have HS2 : Hid (∀ n (hn : n < p.size), (zr p[n]).isEmpty = true → jb1 s = 3) := by
    intro n hn he
    subst hp
    exact HS n hn he
   have HP := Lib.hid hp
   clear hp HS
   go_wp2_with fail
   go_loop [28] (fun i => ∃ n : Nat, n ≤ p.size ∧ i = .int .i64 n ∧ Hid (∀ j (hj : j < p.size), j < n → (zr p[j]).isEmpty = false)) (fun i => p.size - (intOf i).toNat)
   case atStart => exact ⟨0, by omega, rfl, fun j hj h => by omega⟩
   case round =>
    obtain ⟨n, hn, rfl, HN⟩ := hrel
    by_cases hlt3 : n < p.size
    ·have hlt4 : (n : Int) < (p.size : Int) := by omega
     have hrun := HM.out.code p[n]
     have hem := jjl p[n]
     cases he : (zr p[n]).isEmpty
     ·rw [he] at hem
      have HN2 : Hid (∀ j (hj : j < p.size), j < n + 1 → (zr p[j]).isEmpty = false) := fun j hj h => by
       by_cases e : j = n
       ·subst e; exact he
       exact HN.out j hj (by omega)
      clear he
      go_wp2_with fail
      go_round
      case rel => exact ⟨n + 1, by omega, by go_num, HN2⟩
      case measure => simp [intOf]; omega
     rw [he] at hem
     have HE := Lib.hid (HS2.out n hlt3 he)
     clear he
     go_wp2_with fail
     go_ret
     exact ⟨ji HE.out.symm, HG.out⟩
    have hlt4 : ¬ (n : Int) < (p.size : Int) := by omega
    have HC : Hid (∀ j (hj : j < (jt s).length), j < k + 1 → jjn (jt s)[j] = true) := fun j hj h => by
     by_cases e : j = k
     ·subst e
      rw [HP.out]
      unfold jjn
      rw [List.all_eq_true]
      intro x hx
      obtain ⟨i, hi, rfl⟩ := List.mem_iff_getElem.1 hx
      have hi2 : i < p.size := by simpa using hi
      have := HN.out i hi2 (by omega)
      show (!(zr p[i]).isEmpty) = true
      rw [this]
      rfl
     exact HR.out j hj (by omega)
    go_wp2_with fail
    go_round
    case rel => exact ⟨k + 1, by omega, by go_num, HC⟩
    case measure => simp [intOf]; omega
  have hlt2 : ¬ (k : Int) < ((jt s).length : Int) := by omega
  have HE := Lib.hid (jr8 hl HF.out (List.all_eq_true.2 fun x hx => by
   obtain ⟨i, hi, rfl⟩ := List.mem_iff_getElem.1 hx
   exact HR.out i hi (by omega)))
  go_wp2_with fail
  go_ret
  exact ⟨ji HE.out.symm, HG.out⟩
end Go.Proofs.YtbamhgaghngjiaaGreatDoor

namespace Go.Proofs.YtbamhgaghngjiaaGreatDoor
open Go.RowKit
set_option linter.unusedVariables false

theorem jum : (Tryz.prog.info? 48).map (fun i => (i.zero, i.size, i.bytes)) = some (some (.slice none 0 0), 1, 24) := by kernel_rfl
theorem jun {base : Nat} {w : World} {v : Value} {l : List ByteArray} (h : StrsFrom base w v l) : ∀ u ∈ [v], u.oneCell' = true := by
 obtain ⟨A, c, rfl, _, _⟩ := h.shape
 intro u hu; simp at hu; subst hu; rfl
theorem jo2 {w : World} {b1 b2 s1 s2 n1 n2 : Nat} {e1 e2 : TypeId} {v1 v2 : Value} {x1 x2 : List Value} (h1 : w.ownsRow b1 e1 s1 v1 n1 x1) (h2 : w.ownsRow b2 e2 s2 v2 n2 x2) (he : e1 ≠ e2) : v1.ownBlock = none ∨ v1.ownBlock ≠ v2.ownBlock := by
 rcases h1.2 with ⟨rfl, _⟩ | ⟨g, cap, cur, rfl, _, hh, _⟩
 ·exact .inl rfl
 refine .inr fun e => ?_
 rcases h2.2 with ⟨rfl, _⟩ | ⟨g', cap', cur', rfl, _, hh', _⟩
 ·cases e
 simp only [Value.ownBlock, Option.some.injEq] at e
 subst e
 rw [hh] at hh'
 injection hh' with hh'
 injection hh' with _ h4
 exact he h4
def SsFrom (base : Nat) (w : World) (v : Value) (ll : List (List ByteArray)) : Prop :=
 ∃ vs : List Value, vs.length = ll.length ∧ w.ownsRow base 48 1 v ll.length vs ∧ ∀ (i : Nat) (u : Value) (l : List ByteArray), vs[i]? = some u → ll[i]? = some l → StrsFrom base w u l
theorem SsFrom.low {base base' : Nat} {w : World} {v : Value} {l : List (List ByteArray)} (h : SsFrom base w v l) (hb : base' ≤ base) : SsFrom base' w v l := by
 obtain ⟨vs, h1, h2, h3⟩ := h
 exact ⟨vs, h1, jq h2 hb, fun i u x hu hx => (h3 i u x hu hx).low hb⟩
theorem SsFrom.grown {base : Nat} {w w' : World} {v : Value} {l : List (List ByteArray)} (h : SsFrom base w v l) (hg : w.grownBy w' none) : SsFrom base w' v l := by
 obtain ⟨vs, h1, h2, h3⟩ := h
 exact ⟨vs, h1, j7 h2 hg, fun i u x hu hx => (h3 i u x hu hx).grown hg⟩
theorem SsFrom.nil (base : Nat) (w : World) : SsFrom base w (.slice none 0 0) [] := ⟨[], rfl, World.ownsRow_nil _ _ _ _, fun i u l hu => by simp at hu⟩
theorem SsFrom.shape {base : Nat} {w : World} {v : Value} {l : List (List ByteArray)} (h : SsFrom base w v l) :
 ∃ A c, v = .slice A l.length c ∧ l.length ≤ 9223372036854775807 ∧ (0 < l.length → ∃ g, A = some ⟨g, 0, none⟩ ∧ base ≤ g ∧ g < w.heap.size) := by
 obtain ⟨vs, h1, h2, h3⟩ := h
 exact j1 h2
theorem SsFrom.at_ {base : Nat} {w : World} {g c : Nat} {l : List (List ByteArray)} (h : SsFrom base w (.slice (some ⟨g, 0, none⟩) l.length c) l) (k : Nat) (hk : k < l.length) : ∃ u, w.cell? ⟨g, k, none⟩ = some u ∧ StrsFrom base w u l[k] := by
 obtain ⟨vs, h1, h2, h3⟩ := h
 refine ⟨vs[k]'(by omega), ?_, h3 k _ _ (List.getElem?_eq_getElem _) (List.getElem?_eq_getElem hk)⟩
 rw [World.ownsRow.cellAt h2 k (by omega)]
 simp [h1, hk]
def qp (p : ByteArray) : List ByteArray := p.data.toList.map jjk
def qc (s : ByteArray) : List (List ByteArray) := (jt s).map qp
def jvd (l : List (List ByteArray)) (w : World) (e : Ending) (w' : World) : Prop := ∃ v, e = .returned v ∧ SsFrom w.heap.size w' v l ∧ w.grownBy w' none
set_option maxRecDepth 100000 in
set_option maxHeartbeats 2000000 in
theorem jie (b : Nat) (s : ByteArray) (w : World) (hgl : Gl b w) (hs : s.size ≤ 1000000) :
 Calls Tryz.prog 149 #[.string s] w (jvd (qc s) w) := by
 have HGL := Lib.hid hgl
 clear hgl
 obtain ⟨i0, hi, hz0, hz1, hz2⟩ := info_parts juq
 obtain ⟨j0, hj, hy0, hy1, hy2⟩ := info_parts jum
 go_enter Tryz.func149, Tryz.ntmps149
 go_wp2_with fail
 refine (jee b _ HGL.out).mono ?_
 rintro _ w1 ⟨bm, rfl, hbm, hM, hg1⟩
 go_wp2_with fail
 refine (jfb b s _ (HGL.out.quiet hg1) (by omega)).mono ?_
 rintro _ w2 ⟨v, rfl, hv, hg2⟩
 obtain ⟨A, c, rfl, hvl, hA⟩ := hv.shape
 obtain ⟨g, rfl, hg0, _⟩ := hA (jax s)
 have HM := Lib.hid (hM.quiet hg2)
 have HV := Lib.hid hv
 have HG := Lib.hid (ja hg1 hg2)
 have hfew := jch s
 have hwl : (jt s).length ≤ 1000001 := by omega
 have hll : (qc s).length = (jt s).length := by unfold qc; simp
 have HLL := Lib.hid hll
 clear hv hA hM hg1 hg2 hll hfew
 go_wp2_with fail
 go_loopw [4, 13] (fun o i wr => ∃ k : Nat, k ≤ (jt s).length ∧ i = .int .i64 k ∧ SsFrom w2.heap.size wr o ((qc s).take k) ∧ w2.grownBy wr none) (fun _ i _ => (jt s).length - (intOf i).toNat)
 case atStart => exact ⟨0, by omega, rfl, SsFrom.nil _ _, jf _ _⟩
 case round =>
  obtain ⟨k, hk, rfl, ⟨vs, hvs, hown, hvv⟩, hgr⟩ := hrel
  have hlk : ((qc s).take k).length = k := by rw [List.length_take, HLL.out]; omega
  rw [hlk] at hvs hown
  obtain ⟨A2, c2, rfl, hk9, hA2⟩ := j1 hown
  by_cases hlt : k < (jt s).length
  ·have hat := (HV.out.grown hgr).at_ k hlt
   have hsm := jay s _ (List.getElem_mem hlt)
   have htk : (qc s).take (k + 1) = (qc s).take k ++ [qp (jt s)[k]] := by
    rw [List.take_succ_eq_append_getElem (by rw [HLL.out]; exact hlt)]
    simp [qc]
   obtain ⟨p, hp⟩ : ∃ p, (jt s)[k] = p := ⟨_, rfl⟩
   rw [hp] at hat hsm htk
   have hlt2 : (k : Int) < ((jt s).length : Int) := by omega
   have HP := Lib.hid hp
   have HT := Lib.hid htk
   have HO := Lib.hid hown
   have HVV := Lib.hid hvv
   have HVS := Lib.hid hvs
   have hcl : (qp p).length = p.size := by unfold qp; simp
   have HCL := Lib.hid hcl
   clear hp htk hown hvv hA2 hlk hvs hcl
   go_wp2_with fail
   generalize wr = wo at *
   go_loopw [7, 19] (fun l i wr => ∃ n : Nat, n ≤ p.size ∧ i = .int .i64 n ∧ StrsFrom wo.heap.size wr l ((qp p).take n) ∧ wo.grownBy wr none) (fun _ i _ => p.size - (intOf i).toNat)
   case atStart => exact ⟨0, by omega, rfl, StrsFrom.nil _ _, jf _ _⟩
   case round =>
    obtain ⟨n, hn, rfl, hl, hgq⟩ := hrel
    have hln : ((qp p).take n).length = n := by rw [List.length_take, HCL.out]; omega
    have hl1 : wr.ownsRow wo.heap.size 9 1 u7 n (((qp p).take n).map Value.string) := by
     have h := hl
     unfold StrsFrom at h
     rwa [hln] at h
    obtain ⟨A3, c3, rfl, hn9, hA3⟩ := j1 hl1
    by_cases hlt3 : n < p.size
    ·have hlt4 : (n : Int) < (p.size : Int) := by omega
     have htn : (qp p).take (n + 1) = (qp p).take n ++ [jjk p[n]] := by
      rw [List.take_succ_eq_append_getElem (by rw [HCL.out]; exact hlt3)]
      simp [qp]
      rfl
     have hrun := (HM.out.quiet (ja hgr hgq)).code p[n]
     have HTN := Lib.hid htn
     have HLN := Lib.hid hln
     have hzq := hgq.size
     have hrow : ∀ gg, (Value.slice A3 n c3).ownBlock = some gg → wo.heap.size ≤ gg := fun gg e => (hl1.lt gg e).1
     clear htn hln hl hA3
     go_wp2_with (at_builtin; refine wpList_append_own _ rfl _ _ 48 rfl wo.heap.size 9 i0 _ 1 16 Tryz.underlying48 hi hz0 hz1 hz2 rfl (by decide) _ _ _ rfl (hl1.alloc _) ⟨wr.heap.size, 0, none⟩ 1 1 [.string (jjk p[n])] rfl rfl (jeh _ _ _) (jur _) (by unfold maxLen; omega) (by omega) (by simp; omega) ?_; intro v' w6 hown2 hgrow2 _)
     have hG6 : wo.grownBy w6 none := jk (jd hgq _) hgrow2 (fun gg e => .inr (hrow gg e))
     have hl6 : StrsFrom wo.heap.size w6 v' ((qp p).take (n + 1)) := by
      unfold StrsFrom
      rw [HTN.out, List.map_append, List.length_append, HLN.out]
      exact hown2
     go_wp2_with fail
     go_roundw
     case rel => exact ⟨n + 1, by omega, by go_num, hl6, hG6⟩
     case measure => simp [intOf]; omega
    have hlt4 : ¬ (n : Int) < (p.size : Int) := by omega
    have hf : (qp p).take n = qp p := List.take_of_length_le (by rw [HCL.out]; omega)
    rw [hf] at hl
    have HL := Lib.hid hl
    have hgw := ja hgr hgq
    have hown3 : wr.ownsRow w2.heap.size 48 1 (.slice A2 k c2) k vs := j7 HO.out hgq
    have hz2 := hgw.size
    have hzr := hgr.size
    have hone := jun hl
    have hrow : ∀ gg, (Value.slice A2 k c2).ownBlock = some gg → w2.heap.size ≤ gg := fun gg e => (hown3.lt gg e).1
    clear hf hl hl1 hln hA3
    go_wp2_with (at_builtin; refine wpList_append_own _ rfl _ _ 211 rfl w2.heap.size 48 j0 _ 1 24 Tryz.underlying211 hj hy0 hy1 hy2 rfl (by decide) _ _ _ rfl (hown3.alloc _) ⟨wr.heap.size, 0, none⟩ 1 1 [.slice A3 n c3] rfl rfl (jeh _ _ _) hone (by unfold maxLen; omega) (by omega) (by simp; omega) ?_; intro v' w6 hown2 hgrow2 _)
    have hG6 : w2.grownBy w6 none := jk (jd hgw _) hgrow2 (fun gg e => .inr (hrow gg e))
    have hS6 : SsFrom w2.heap.size w6 v' ((qc s).take (k + 1)) := by
     have hkeep : ∀ (u : Value) (l : List ByteArray), StrsFrom w2.heap.size wr u l → StrsFrom w2.heap.size w6 u l := fun u l h =>
      World.ownsRow.kept (World.ownsRow.alloc h _) hgrow2 (jo2 h hown3 (by decide))
     have hlen2 : ((qc s).take (k + 1)).length = k + 1 := by rw [List.length_take, HLL.out]; omega
     refine ⟨vs ++ [.slice A3 n c3], ?_, ?_, fun i u l hu hl => ?_⟩
     ·rw [hlen2]; simp [HVS.out]
     ·rw [hlen2]; exact hown2
     rw [HT.out] at hl
     have hck : ((qc s).take k).length = k := by rw [List.length_take, HLL.out]; omega
     by_cases hik : i < k
     ·rw [List.getElem?_append_left (by rw [HVS.out]; exact hik)] at hu
      rw [List.getElem?_append_left (by rw [hck]; exact hik)] at hl
      exact hkeep u l ((HVV.out i u l hu hl).grown hgq)
     rw [List.getElem?_append_right (by rw [HVS.out]; omega)] at hu
     rw [List.getElem?_append_right (by rw [hck]; omega)] at hl
     rw [HVS.out] at hu
     rw [hck] at hl
     obtain rfl : i = k := by
      have := (List.getElem?_eq_some_iff.1 hu).1
      simp at this
      omega
     simp at hu hl
     subst hu; subst hl
     exact hkeep _ _ (HL.out.low hzr)
    go_wp2_with fail
    go_roundw
    case rel => exact ⟨k + 1, by omega, by go_num, hS6, hG6⟩
    case measure => simp [intOf]; omega
  have hlt2 : ¬ (k : Int) < ((jt s).length : Int) := by omega
  have hf : (qc s).take k = qc s := List.take_of_length_le (by rw [HLL.out]; omega)
  rw [hf] at hvv
  have HO := Lib.hid hown
  have HVV := Lib.hid hvv
  have HVS := Lib.hid hvs
  clear hown hvv hA2 hf hvs hlk
  go_wp2_with fail
  go_ret
  have hz2 := HG.out.size
  have hkk : (qc s).length = k := by rw [HLL.out]; omega
  exact ⟨_, rfl, SsFrom.low (base := w2.heap.size) ⟨vs, by rw [hkk]; exact HVS.out, by rw [hkk]; exact HO.out, HVV.out⟩ hz2, ja HG.out hgr⟩
end Go.Proofs.YtbamhgaghngjiaaGreatDoor

namespace Go.Proofs.YtbamhgaghngjiaaGreatDoor
open Go.RowKit
set_option linter.unusedVariables false

def isp {α : Type} (g : List α) : List (List α) → List α
 | [] => []
 | x :: r => x ++ r.flatMap fun y => g ++ y
def jm6 {α : Type} (g : List α) (l : List (List α)) : List α := if l = [] then [] else isp g l ++ g
theorem jg1 {α : Type} (g : List α) (l : List (List α)) (x : List α) : isp g (l ++ [x]) = jm6 g l ++ x := by
 cases l with
 | nil => simp [isp, jm6]
 | cons y r => simp [isp, jm6, List.flatMap_append]
theorem jet {α : Type} (g : List α) (l : List (List α)) (h : 0 < l.length) : jm6 g l = isp g l ++ g := by
 unfold jm6
 rw [if_neg (by intro e; rw [e] at h; simp at h)]
def dl (unit : Int) (c : UInt8) : Int := if c = 45 then unit * 3 else unit
def cL (unit : Int) (c : List UInt8) : List Int := isp [unit] (c.map fun b => [dl unit b])
def wL (unit slow : Int) (p : List ByteArray) : List Int := isp [3 * slow] (p.map fun c => cL unit c.data.toList)
def sL (unit slow : Int) (ll : List (List ByteArray)) : List Int := isp [7 * slow] (ll.map (wL unit slow))
def IsL (base : Nat) (w : World) (v : Value) (n : Nat) (L : List Int) : Prop := w.ownsRow base 3 1 v n (L.map (Value.int .i64))
theorem IsL.app {base n : Nat} {w : World} {v : Value} {L : List Int} {x : Int} (h : w.ownsRow base 3 1 v (n + 1) (L.map (Value.int .i64) ++ [.int .i64 x])) : IsL base w v (n + 1) (L ++ [x]) := by
 unfold IsL
 rw [List.map_append]
 exact h
theorem IsL.low {base n : Nat} {w : World} {v : Value} {L : List Int} (h : IsL base w v n L) (gg : Nat) (e : v.ownBlock = some gg) : base ≤ gg := (World.ownsRow.lt h gg e).1
theorem IsL.len {base n : Nat} {w : World} {v : Value} {L : List Int} (h : IsL base w v n L) : L.length = n := by
 have := h.1
 simpa using this
theorem IsL.ints {base n : Nat} {w : World} {v : Value} {L : List Int} (h : IsL base w v n L) : IntsFrom base w v L := by
 unfold IntsFrom
 rw [h.len]
 exact h
theorem jm1 (s : ByteArray) (k : Nat) (h : k < s.size) : s.data.toList.take (k + 1) = s.data.toList.take k ++ [s[k]] := by
 rw [List.take_succ_eq_append_getElem (by simpa using h)]; rfl
theorem jh3 (c : UInt8) : (zr c).length ≤ 6 := by
 have h : ∀ n : Fin 256, (zr (UInt8.ofNat n.val)).length ≤ 6 := by decide +kernel
 have := h ⟨c.toNat, c.toNat_lt⟩
 simpa using this
set_option maxRecDepth 100000 in
set_option maxHeartbeats 4000000 in
theorem jj2 (b : Nat) (s : ByteArray) (unit slow : Int) (w : World) (hgl : Gl b w) (hs : s.size ≤ 500) (hu0 : 0 ≤ unit) (hu1 : unit ≤ 1000000) (hs0 : 0 ≤ slow) (hs1 : slow ≤ 1000000) :
 Calls Tryz.prog 88 #[.string s, .int .i64 unit, .int .i64 slow] w fun e w' => ∃ v, e = .returned v ∧ IntsFrom w.heap.size w' v (sL unit slow (qc s)) ∧ (sL unit slow (qc s)).length ≤ 4000000 ∧ w.grownBy w' none := by
 obtain ⟨i0, hi, hz0, hz1, hz2⟩ := info_parts jdd
 go_enter Tryz.func88, Tryz.ntmps88
 go_wp2_with fail
 refine (jie b s _ hgl (by omega)).mono ?_
 rintro _ w1 ⟨v, rfl, hv, hg1⟩
 obtain ⟨A, c, rfl, hvl, hA⟩ := hv.shape
 have hll : (qc s).length = (jt s).length := by unfold qc; simp
 obtain ⟨g, rfl, hg0, _⟩ := hA (by rw [hll]; exact jax s)
 have hfew := jch s
 obtain ⟨N, hN⟩ : ∃ N, (qc s).length = N := ⟨_, rfl⟩
 rw [hN] at hv ⊢
 have HV := Lib.hid (show SsFrom w.heap.size w1 (.slice (some ⟨g, 0, none⟩) (qc s).length c) (qc s) by rw [hN]; exact hv)
 have hN5 : N ≤ 501 := by omega
 have HN := Lib.hid hN
 have HLL := Lib.hid hll
 clear hv hA hll hfew hN hgl hvl
 have hz1w := hg1.size
 go_wp2_with fail
 go_loopw [7, 17] (fun o i wr => ∃ k n : Nat, k ≤ N ∧ i = .int .i64 k ∧ n ≤ 7000 * k ∧ IsL w1.heap.size wr o n (sL unit slow ((qc s).take k)) ∧ w1.grownBy wr none) (fun _ i _ => N - (intOf i).toNat)
 case atStart => exact ⟨0, 0, by omega, rfl, by omega, World.ownsRow_nil _ _ _ _, jf _ _⟩
 case round =>
  obtain ⟨k, n, hk, rfl, hn, ho, hgr⟩ := hrel
  obtain ⟨A2, c2, rfl, hk9, hA2⟩ := j1 ho
  by_cases hlt : k < N
  ·have hkN : k < (qc s).length := by rw [HN.out]; exact hlt
   obtain ⟨u, hcu1, hu⟩ := HV.out.at_ k hkN
   have hcu : wr.cell? ⟨g, k, none⟩ = some u := (World.cell?_of_block (hgr.block g (World.block_lt_of_cell? w1 ⟨g, k, none⟩ hcu1) (by simp))).trans hcu1
   have hkw : k < (jt s).length := by rw [← HLL.out]; exact hkN
   have hsm := jay s _ (List.getElem_mem hkw)
   have hck : (qc s)[k] = qp (jt s)[k] := by simp [qc]
   have hlk : ((qc s).take k).length = k := by rw [List.length_take]; omega
   have htk : sL unit slow ((qc s).take (k + 1)) = jm6 [7 * slow] (((qc s).take k).map (wL unit slow)) ++ wL unit slow (qp (jt s)[k]) := by
    rw [List.take_succ_eq_append_getElem hkN, hck]
    unfold sL
    rw [List.map_append]
    exact jg1 _ _ _
   have hlk2 : (((qc s).take k).map (wL unit slow)).length = k := by rw [List.length_map]; exact hlk
   rw [hck] at hu
   obtain ⟨p, hp⟩ : ∃ p, (jt s)[k] = p := ⟨_, rfl⟩
   rw [hp] at hsm htk hu
   obtain ⟨A3, c3, rfl, hu9, hA3⟩ := hu.shape
   have hm : (qp p).length = p.size := by unfold qp; simp
   obtain ⟨M, hM⟩ : ∃ M, (qp p).length = M := ⟨_, rfl⟩
   rw [hM] at hA3 hcu
   clear hcu1
   have hM5 : M ≤ 500 := by omega
   have HU := Lib.hid hu
   have HM := Lib.hid hM
   have HT := Lib.hid htk
   have HA3 := Lib.hid hA3
   have HLK := Lib.hid hlk2
   have hlt2 : (k : Int) < (N : Int) := by omega
   have hzr := hgr.size
   clear hp htk hu hck hlk hlk2 hm hM hA2 hA3 hu9
   obtain ⟨L0, hL0⟩ : ∃ L0, jm6 [7 * slow] (((qc s).take k).map (wL unit slow)) = L0 := ⟨_, rfl⟩
   have HL0 := Lib.hid hL0
   clear hL0
   go_upto_if 23 with fail
   go_cut [7] (fun s7 wq => ∃ n' : Nat, n' ≤ 7000 * k + 1 ∧ IsL w1.heap.size wq s7 n' L0 ∧ w1.grownBy wq none)
   case first =>
    by_cases hk0 : 0 < k
    ·go_wp2_with (at_builtin; refine wpList_append_own _ rfl _ _ 22 rfl w1.heap.size 3 i0 _ 1 8 Tryz.underlying22 hi hz0 hz1 hz2 rfl (by decide) _ _ _ rfl (World.ownsRow.alloc ho _) ⟨wr.heap.size, 0, none⟩ 1 1 [.int .i64 (7 * slow)] rfl rfl (qw _ _ _) (j6 _) (by unfold maxLen; omega) (by omega) (by simp; omega) ?_; intro v2 w2 h2_ hgw_ _)
     have ho2 := IsL.app h2_
     have hg2 : w1.grownBy w2 none := jk (jd hgr _) hgw_ (fun gg e => .inr (ho.low gg e))
     clear h2_ hgw_
     go_wp2_with fail
     go_meet
     exact ⟨n + 1, by omega, by rw [← HL0.out, jet _ _ (by rw [HLK.out]; exact hk0)]; exact ho2, hg2⟩
    obtain rfl : k = 0 := by omega
    go_wp2_with fail
    go_meet
    exact ⟨n, by omega, by rw [← HL0.out]; exact ho, hgr⟩
   case rest =>
    obtain ⟨n1, hn1, ho1, hgc⟩ := hcut
    clear ho hgr hcu hzr
    go_wp2_with fail
    go_loopw [7, 31] (fun o i wr => ∃ k2 n2 : Nat, k2 ≤ M ∧ i = .int .i64 k2 ∧ n2 ≤ 7000 * k + 1 + 13 * k2 ∧ IsL w1.heap.size wr o n2 (L0 ++ isp [3 * slow] (((qp p).take k2).map fun c => cL unit c.data.toList)) ∧ w1.grownBy wr none) (fun _ i _ => M - (intOf i).toNat)
    case atStart => exact ⟨0, n1, by omega, rfl, by omega, by show IsL _ _ _ _ (L0 ++ []); rw [List.append_nil]; exact ho1, hgc⟩
    case round =>
     clear ho1 hgc
     obtain ⟨k2, n2, hk2, rfl, hn2, ho, hgr⟩ := hrel
     obtain ⟨A4, c4, rfl, hk8, hA4⟩ := j1 ho
     by_cases hlt3 : k2 < M
     ·obtain ⟨g3, rfl, hg3, _⟩ := HA3.out (by omega)
      have hkM : k2 < (qp p).length := by rw [HM.out]; exact hlt3
      have hat : wr.cell? ⟨g3, k2, none⟩ = some (.string (qp p)[k2]) := by
       have h := HU.out.grown hgr
       exact h.at_ k2 hkM
      have hq : (qp p)[k2] = jjk (p.data.toList[k2]'(by simpa [qp] using hkM)) := by simp [qp]
      have hqs : (qp p)[k2].size ≤ 6 := by
       rw [hq]
       have := jh3 (p.data.toList[k2]'(by simpa [qp] using hkM))
       rw [← jfv] at this
       simpa using this
      have htk : (((qp p).take (k2 + 1)).map fun c => cL unit c.data.toList) = (((qp p).take k2).map fun c => cL unit c.data.toList) ++ [cL unit (qp p)[k2].data.toList] := by
       rw [List.take_succ_eq_append_getElem hkM, List.map_append]
       rfl
      have hlk : (((qp p).take k2).map fun c => cL unit c.data.toList).length = k2 := by rw [List.length_map, List.length_take]; omega
      obtain ⟨q, hqq⟩ : ∃ q, (qp p)[k2] = q := ⟨_, rfl⟩
      rw [hqq] at hat hqs htk
      obtain ⟨Z, hZ⟩ : ∃ Z, (((qp p).take k2).map fun c => cL unit c.data.toList) = Z := ⟨_, rfl⟩
      rw [hZ] at htk hlk ho
      have HT2 := Lib.hid htk
      have HLK2 := Lib.hid hlk
      have hlt4 : (k2 : Int) < (M : Int) := by omega
      have hzr := hgr.size
      obtain ⟨L1, hL1⟩ : ∃ L1, L0 ++ jm6 [3 * slow] Z = L1 := ⟨_, rfl⟩
      have HL1 := Lib.hid hL1
      clear hq hqq htk hlk hZ hA4 hL1
      go_upto_if 37 with fail
      go_cut [7] (fun s7 wq => ∃ n' : Nat, n' ≤ 7000 * k + 2 + 13 * k2 ∧ IsL w1.heap.size wq s7 n' L1 ∧ w1.grownBy wq none)
      case first =>
       by_cases hk0 : 0 < k2
       ·go_wp2_with (at_builtin; refine wpList_append_own _ rfl _ _ 22 rfl w1.heap.size 3 i0 _ 1 8 Tryz.underlying22 hi hz0 hz1 hz2 rfl (by decide) _ _ _ rfl (World.ownsRow.alloc ho _) ⟨wr.heap.size, 0, none⟩ 1 1 [.int .i64 (3 * slow)] rfl rfl (qw _ _ _) (j6 _) (by unfold maxLen; omega) (by omega) (by simp; omega) ?_; intro v2 w2 h2_ hgw_ _)
        have ho2 := IsL.app h2_
        have hg2 : w1.grownBy w2 none := jk (jd hgr _) hgw_ (fun gg e => .inr (ho.low gg e))
        clear h2_ hgw_
        go_wp2_with fail
        go_meet
        exact ⟨n2 + 1, by omega, by rw [← HL1.out, jet _ _ (by rw [HLK2.out]; exact hk0), ← List.append_assoc]; exact ho2, hg2⟩
       obtain rfl : k2 = 0 := by omega
       go_wp2_with fail
       go_meet
       refine ⟨n2, by omega, ?_, hgr⟩
       have hZ0 : Z = [] := List.eq_nil_of_length_eq_zero HLK2.out
       rw [← HL1.out, hZ0]
       rw [hZ0] at ho
       exact ho
      case rest =>
       obtain ⟨n1', hn1', ho1, hgc⟩ := hcut
       clear ho hgr hat hzr
       go_wp2_with fail
       go_loopw [7, 45] (fun o i wr => ∃ k3 n3 : Nat, k3 ≤ q.size ∧ i = .int .i64 k3 ∧ n3 ≤ 7000 * k + 2 + 13 * k2 + 2 * k3 ∧ IsL w1.heap.size wr o n3 (L1 ++ isp [unit] ((q.data.toList.take k3).map fun b => [dl unit b])) ∧ w1.grownBy wr none) (fun _ i _ => q.size - (intOf i).toNat)
       case atStart => exact ⟨0, n1', by omega, rfl, by omega, by show IsL _ _ _ _ (L1 ++ []); rw [List.append_nil]; exact ho1, hgc⟩
       case round =>
        clear ho1 hgc
        obtain ⟨k3, n3, hk3, rfl, hn3, ho, hgr⟩ := hrel
        obtain ⟨A5, c5, rfl, hk7, hA5⟩ := j1 ho
        by_cases hlt5 : k3 < q.size
        ·have htk : ((q.data.toList.take (k3 + 1)).map fun b => [dl unit b]) = ((q.data.toList.take k3).map fun b => [dl unit b]) ++ [[dl unit q[k3]]] := by
          rw [jm1 q k3 hlt5, List.map_append]
          rfl
         have hlk : ((q.data.toList.take k3).map fun b => [dl unit b]).length = k3 := by
          rw [List.length_map, List.length_take]
          simp
          omega
         obtain ⟨ch, hch⟩ : ∃ ch, q[k3] = ch := ⟨_, rfl⟩
         obtain ⟨Y, hY⟩ : ∃ Y, ((q.data.toList.take k3).map fun b => [dl unit b]) = Y := ⟨_, rfl⟩
         rw [hY, hch] at htk
         rw [hY] at hlk ho
         have HT3 : Hid (∀ L : List Int, L = L1 ++ (jm6 [unit] Y ++ [dl unit ch]) → L = L1 ++ isp [unit] ((q.data.toList.take (k3 + 1)).map fun b => [dl unit b])) := fun L hL => by
          rw [hL, htk, jg1]
         have HLK3 := Lib.hid hlk
         have hlt6 : (k3 : Int) < (q.size : Int) := by omega
         have hzr := hgr.size
         by_cases hk0 : 0 < k3
         ·have hPY : jm6 [unit] Y = isp [unit] Y ++ [unit] := jet _ _ (by rw [hlk]; exact hk0)
          have HPY := Lib.hid hPY
          by_cases h45 : ch = 45
          ·have hd : dl unit ch = unit * 3 := by unfold dl; rw [if_pos h45]
           have HD := Lib.hid hd
           have he : ((ch.toNat : Int) == 45) = true := by rw [h45]; rfl
           have HC := Lib.hid h45
           clear htk hlk hY hA5 hPY hd h45
           skip
           go_wp2_with (first | (at_builtin; refine wpList_append_own _ rfl _ _ 22 rfl w1.heap.size 3 i0 _ 1 8 Tryz.underlying22 hi hz0 hz1 hz2 rfl (by decide) _ _ _ rfl (World.ownsRow.alloc ho _) ⟨wr.heap.size, 0, none⟩ 1 1 [.int .i64 (unit)] rfl rfl (qw _ _ _) (j6 _) (by unfold maxLen; omega) (by omega) (by simp; omega) ?_; intro v2 w2 h2_ hgw_ _; have ho2 := IsL.app h2_; have hg2 : w1.grownBy w2 none := jk (jd hgr _) hgw_ (fun gg e => .inr (ho.low gg e)); clear h2_ hgw_; have hzzw2 := hg2.size) | (at_builtin; refine wpList_append_own _ rfl _ _ 22 rfl w1.heap.size 3 i0 _ 1 8 Tryz.underlying22 hi hz0 hz1 hz2 rfl (by decide) _ _ _ rfl (World.ownsRow.alloc ho2 _) ⟨w2.heap.size, 0, none⟩ 1 1 [.int .i64 (unit * 3)] rfl rfl (qw _ _ _) (j6 _) (by unfold maxLen; omega) (by omega) (by simp; omega) ?_; intro v3 w3 h2_ hgw_ _; have ho3 := IsL.app h2_; have hg3' : w1.grownBy w3 none := jk (jd hg2 _) hgw_ (fun gg e => .inr (ho2.low gg e)); clear h2_ hgw_; have hzzw3 := hg3'.size) | fail)
           go_wp2_with fail
           go_roundw
           case rel => exact ⟨k3 + 1, n3 + 1 + 1, by omega, by go_num, by omega, by rw [← HT3.out _ (show (L1 ++ isp [unit] Y ++ [unit]) ++ [unit * 3] = _ by rw [HPY.out, HD.out]; simp)]; exact ho3, hg3'⟩
           case measure => simp [intOf]; omega
          have hd : dl unit ch = unit := by unfold dl; rw [if_neg h45]
          have HD := Lib.hid hd
          have he : ((ch.toNat : Int) == 45) = false := by
           rw [beq_eq_false_iff_ne]
           intro e
           exact h45 (UInt8.toNat_inj.1 (by show ch.toNat = 45; omega))
          clear htk hlk hY hA5 hPY hd h45
          skip
          go_wp2_with (first | (at_builtin; refine wpList_append_own _ rfl _ _ 22 rfl w1.heap.size 3 i0 _ 1 8 Tryz.underlying22 hi hz0 hz1 hz2 rfl (by decide) _ _ _ rfl (World.ownsRow.alloc ho _) ⟨wr.heap.size, 0, none⟩ 1 1 [.int .i64 (unit)] rfl rfl (qw _ _ _) (j6 _) (by unfold maxLen; omega) (by omega) (by simp; omega) ?_; intro v2 w2 h2_ hgw_ _; have ho2 := IsL.app h2_; have hg2 : w1.grownBy w2 none := jk (jd hgr _) hgw_ (fun gg e => .inr (ho.low gg e)); clear h2_ hgw_; have hzzw2 := hg2.size) | (at_builtin; refine wpList_append_own _ rfl _ _ 22 rfl w1.heap.size 3 i0 _ 1 8 Tryz.underlying22 hi hz0 hz1 hz2 rfl (by decide) _ _ _ rfl (World.ownsRow.alloc ho2 _) ⟨w2.heap.size, 0, none⟩ 1 1 [.int .i64 (unit)] rfl rfl (qw _ _ _) (j6 _) (by unfold maxLen; omega) (by omega) (by simp; omega) ?_; intro v3 w3 h2_ hgw_ _; have ho3 := IsL.app h2_; have hg3' : w1.grownBy w3 none := jk (jd hg2 _) hgw_ (fun gg e => .inr (ho2.low gg e)); clear h2_ hgw_; have hzzw3 := hg3'.size) | fail)
          go_wp2_with fail
          go_roundw
          case rel => exact ⟨k3 + 1, n3 + 1 + 1, by omega, by go_num, by omega, by rw [← HT3.out _ (show (L1 ++ isp [unit] Y ++ [unit]) ++ [unit] = _ by rw [HPY.out, HD.out]; simp)]; exact ho3, hg3'⟩
          case measure => simp [intOf]; omega
         obtain rfl : k3 = 0 := by omega
         have hY0 : Y = [] := List.eq_nil_of_length_eq_zero hlk
         have HY0 := Lib.hid hY0
         by_cases h45 : ch = 45
         ·have hd : dl unit ch = unit * 3 := by unfold dl; rw [if_pos h45]
          have HD := Lib.hid hd
          have he : ((ch.toNat : Int) == 45) = true := by rw [h45]; rfl
          have HC := Lib.hid h45
          clear htk hlk hY hA5 hd h45 hY0
          go_wp2_with (at_builtin; refine wpList_append_own _ rfl _ _ 22 rfl w1.heap.size 3 i0 _ 1 8 Tryz.underlying22 hi hz0 hz1 hz2 rfl (by decide) _ _ _ rfl (World.ownsRow.alloc ho _) ⟨wr.heap.size, 0, none⟩ 1 1 [.int .i64 (unit * 3)] rfl rfl (qw _ _ _) (j6 _) (by unfold maxLen; omega) (by omega) (by simp; omega) ?_; intro v3 w3 h2_ hgw_ _)
          have ho3 := IsL.app h2_
          have hg3' : w1.grownBy w3 none := jk (jd hgr _) hgw_ (fun gg e => .inr (ho.low gg e))
          clear h2_ hgw_
          go_wp2_with fail
          go_roundw
          case rel => exact ⟨1, n3 + 1, by omega, by go_num, by omega, by rw [← HT3.out _ (show (L1 ++ isp [unit] Y) ++ [unit * 3] = _ by rw [HY0.out, HD.out]; simp [isp, jm6])]; exact ho3, hg3'⟩
          case measure => simp [intOf]; omega
         have hd : dl unit ch = unit := by unfold dl; rw [if_neg h45]
         have HD := Lib.hid hd
         have he : ((ch.toNat : Int) == 45) = false := by
          rw [beq_eq_false_iff_ne]
          intro e
          exact h45 (UInt8.toNat_inj.1 (by show ch.toNat = 45; omega))
         clear htk hlk hY hA5 hd h45 hY0
         go_wp2_with (at_builtin; refine wpList_append_own _ rfl _ _ 22 rfl w1.heap.size 3 i0 _ 1 8 Tryz.underlying22 hi hz0 hz1 hz2 rfl (by decide) _ _ _ rfl (World.ownsRow.alloc ho _) ⟨wr.heap.size, 0, none⟩ 1 1 [.int .i64 (unit)] rfl rfl (qw _ _ _) (j6 _) (by unfold maxLen; omega) (by omega) (by simp; omega) ?_; intro v3 w3 h2_ hgw_ _)
         have ho3 := IsL.app h2_
         have hg3' : w1.grownBy w3 none := jk (jd hgr _) hgw_ (fun gg e => .inr (ho.low gg e))
         clear h2_ hgw_
         go_wp2_with fail
         go_roundw
         case rel => exact ⟨1, n3 + 1, by omega, by go_num, by omega, by rw [← HT3.out _ (show (L1 ++ isp [unit] Y) ++ [unit] = _ by rw [HY0.out, HD.out]; simp [isp, jm6])]; exact ho3, hg3'⟩
         case measure => simp [intOf]; omega
        have hf : q.data.toList.take k3 = q.data.toList := List.take_of_length_le (by simp; omega)
        rw [hf] at ho
        have hlt6 : ¬ (k3 : Int) < (q.size : Int) := by omega
        have HO := Lib.hid ho
        clear hf ho hA5
        go_wp2_with fail
        go_roundw
        case rel =>
         refine ⟨k2 + 1, n3, by omega, by go_num, by omega, ?_, hgr⟩
         rw [HT2.out, jg1, ← List.append_assoc, HL1.out]
         exact HO.out
        case measure => simp [intOf]; omega
     have hf : (qp p).take k2 = qp p := List.take_of_length_le (by rw [HM.out]; omega)
     rw [hf] at ho
     have hlt4 : ¬ (k2 : Int) < (M : Int) := by omega
     have HO := Lib.hid ho
     clear hf ho hA4
     go_wp2_with fail
     go_roundw
     case rel =>
      refine ⟨k + 1, n2, by omega, by go_num, by omega, ?_, hgr⟩
      rw [HT.out, HL0.out]
      exact HO.out
     case measure => simp [intOf]; omega
  have hf : (qc s).take k = qc s := List.take_of_length_le (by rw [HN.out]; omega)
  rw [hf] at ho
  have hlt2 : ¬ (k : Int) < (N : Int) := by omega
  have HO := Lib.hid ho
  clear hf ho hA2
  go_wp2_with fail
  go_ret
  exact ⟨_, rfl, jq HO.out.ints hz1w, by rw [HO.out.len]; omega, ja hg1 hgr⟩
end Go.Proofs.YtbamhgaghngjiaaGreatDoor

namespace Go.Proofs.YtbamhgaghngjiaaGreatDoor
open Go.RowKit
set_option linter.unusedVariables false

theorem jjw {α : Type} {g : List α} {l : List (List α)} {x : α} (h : x ∈ isp g l) : x ∈ g ∨ ∃ y ∈ l, x ∈ y := by
 cases l with
 | nil => simp [isp] at h
 | cons y r =>
   rcases List.mem_append.1 h with h | h
   ·exact .inr ⟨y, by simp, h⟩
   obtain ⟨z, hz, hx⟩ := List.mem_flatMap.1 h
   rcases List.mem_append.1 hx with h | h
   ·exact .inl h
   exact .inr ⟨z, by simp [hz], h⟩
theorem jwq (ll : List (List ByteArray)) : ∀ x ∈ sL 1 1 ll, 0 ≤ x ∧ x ≤ 7 := by
 intro x hx
 rcases jjw hx with h | ⟨y, hy, h⟩
 ·simp at h; omega
 obtain ⟨p, _, rfl⟩ := List.mem_map.1 hy
 rcases jjw h with h | ⟨z, hz, h⟩
 ·simp at h; omega
 obtain ⟨c, _, rfl⟩ := List.mem_map.1 hz
 rcases jjw h with h | ⟨u, hu, h⟩
 ·simp at h; omega
 obtain ⟨b, _, rfl⟩ := List.mem_map.1 hu
 simp at h
 rw [h]
 unfold dl
 split <;> omega
def ji6 (s : ByteArray) : Int := (sL 1 1 (qc s)).sum
theorem jsf (l : List Int) (k : Nat) (h : k < l.length) : (l.take (k + 1)).sum = (l.take k).sum + l[k] := by
 rw [List.take_succ_eq_append_getElem h, List.sum_append]
 simp
set_option maxHeartbeats 1000000 in
theorem jp1 (b : Nat) (s : ByteArray) (w : World) (hgl : Gl b w) (hs : s.size < 4294967281) :
 Calls Tryz.prog 43 #[.string s] w fun e w' => e = .returned (.tuple #[.int .i64 (okI (jb1 s) (ji6 s)), .int .i64 (jb1 s)]) ∧ w.grownBy w' none := by
 obtain ⟨E, hE⟩ : ∃ E, jb1 s = E := ⟨_, rfl⟩
 have HGL := Lib.hid hgl
 clear hgl
 rw [hE]
 have HC : Hid (∀ W : World, Gl b W → Calls Tryz.prog 87 #[.string s] W fun e w' => e = .returned (.int .i64 E) ∧ W.grownBy w' none) := fun W h => by
  have := jgm b s W h hs
  rw [hE] at this
  exact this
 by_cases h0 : E = 0
 ·subst h0
  have h5 := (jmx hE).1
  have HEE := Lib.hid hE
  clear hE
  go_enter Tryz.func43, Tryz.ntmps43
  go_wp2_with fail
  refine (HC.out _ HGL.out).mono ?_
  rintro _ w1 ⟨rfl, hg1⟩
  go_wp2_with fail
  refine (jj2 b s 1 1 _ (HGL.out.quiet hg1) h5 (by decide) (by decide) (by decide) (by decide)).mono ?_
  rintro _ w2 ⟨v, rfl, hv, hcm, hg2⟩
  obtain ⟨L, hL⟩ : ∃ L, sL 1 1 (qc s) = L := ⟨_, rfl⟩
  have hbd := jwq (qc s)
  have hun : ji6 s = L.sum := by unfold ji6; rw [hL]
  rw [hL] at hv hbd hcm
  obtain ⟨A, c, rfl, hvl, hA⟩ := hv.shape
  have HV := Lib.hid hv
  have HBD := Lib.hid hbd
  have HUN := Lib.hid hun
  have HA := Lib.hid hA
  clear hv hbd hun hL hA hvl
  go_wp2_with fail
  go_loop [5, 16] (fun t i => ∃ (k : Nat) (m : Int), k ≤ L.length ∧ i = .int .i64 k ∧ t = .int .i64 m ∧ 0 ≤ m ∧ m ≤ 7 * k ∧ Hid (m = (L.take k).sum)) (fun _ i => L.length - (intOf i).toNat)
  case atStart => exact ⟨0, 0, by omega, rfl, rfl, by omega, by omega, rfl⟩
  case round =>
   obtain ⟨k, m, hk, rfl, rfl, hm0, hm1, HR⟩ := hrel
   by_cases hlt : k < L.length
   ·obtain ⟨g, rfl, hg0, _⟩ := HA.out (by omega)
    have hat := HV.out.at_ k hlt
    have hb := HBD.out _ (List.getElem_mem hlt)
    have hsn := jsf L k hlt
    obtain ⟨x, hx⟩ : ∃ x, L[k] = x := ⟨_, rfl⟩
    rw [hx] at hat hb hsn
    obtain ⟨hb0, hb1⟩ := hb
    have HS : Hid (m + x = (L.take (k + 1)).sum) := by show _ = _; rw [hsn, HR.out]
    have hlt2 : (k : Int) < (L.length : Int) := by omega
    clear hsn hx
    go_wp2_with fail
    go_round
    case rel => exact ⟨k + 1, m + x, by omega, by go_num, rfl, by omega, by omega, HS⟩
    case measure => simp [intOf]; omega
   have hlt2 : ¬ (k : Int) < (L.length : Int) := by omega
   have HF : Hid (m = ji6 s) := by
    show _ = _
    have := HR.out
    rw [List.take_of_length_le (by omega)] at this
    rw [HUN.out, this]
   go_wp2_with fail
   go_ret2
   exact ⟨jlf (by rw [HF.out]; rfl) rfl, ja hg1 hg2⟩
 have hE0 : (E != 0) = true := by simpa using h0
 have HEE := Lib.hid hE
 clear hE
 go_enter Tryz.func43, Tryz.ntmps43
 go_wp2_with fail
 refine (HC.out _ HGL.out).mono ?_
 rintro _ w1 ⟨rfl, hg1⟩
 have h00 := Lib.hid h0
 clear h0
 go_wp2_with fail
 go_ret2
 exact ⟨jlf (by unfold okI; rw [if_neg h00.out]) rfl, hg1⟩
def jo3 : ByteArray := ⟨#[112, 97, 114, 105, 115]⟩
theorem jrx : jb1 jo3 = 0 := by decide +kernel
theorem jj8 : ji6 jo3 = 43 := by decide +kernel
end Go.Proofs.YtbamhgaghngjiaaGreatDoor
namespace Go.Proofs.YtbamhgaghngjiaaGreatDoor
set_option linter.unusedVariables false

def jwr (least : Int) (o : List Int) (g m : Int) : List Int := if g < least then o.set (o.length - 1) (o.getD (o.length - 1) 0 + (g + m)) else o ++ [g, m]
def jkw (least : Int) (l : List Int) : Nat → List Int
 | 0 => [l.getD 0 0]
 | k + 1 => jwr least (jkw least l k) (l.getD (2 * k + 1) 0) (l.getD (2 * k + 2) 0)
def jnr (least : Int) (l : List Int) : List Int := jkw least l (l.length / 2)
end Go.Proofs.YtbamhgaghngjiaaGreatDoor
