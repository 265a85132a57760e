/- The plain side of codes: what is said written as codes, codes read, and that one undoes the other. No condition. strings.Join at a row of strings, and strings.Split at any separator. Condition: short texts; MaxLen holds a number. The walk over key.Code: what is said, written as codes. Condition: a string of a size that fits in memory; asciiSpace is Go's own table. -/
import Derived.Test.YtlodmkdhlmineaaGreatDoorSaidPlain
import Derived.Test.YtlodmkdhlmineaaGreatDoorSplitPlain
namespace Go.Proofs.YtlodmkdhlmineaaGreatDoor
set_option linter.unusedVariables false
set_option linter.unusedSimpArgs false

def slashS : ByteArray := ⟨#[32, 47, 32]⟩
/-- The codes of a word, with blanks between. -/
def codesJ (p : List UInt8) : List UInt8 := isp [32] (p.map codeOf)
/-- What is said, as codes. -/
def codedL (s : List UInt8) : List UInt8 := isp [32, 47, 32] ((cutW s).map codesJ)
def codeOK (c : List UInt8) : Bool := decide (1 ≤ c.length) && decide (c.length ≤ 10) && c.all fun x => decide (x = 46 ∨ x = 45)
/-- The words of codes. -/
def wdsOf (s : ByteArray) : List (List ByteArray) := (piecesOf slashS s).map (piecesOf blankS)
def plainOK (s : ByteArray) : Bool := (wdsOf s).all fun w => w.all fun c => codeOK c.data.toList
def plainE (s : ByteArray) : Int := if 5000 < s.size then 2 else if plainOK s = true then 0 else 3
def rdW (w : List ByteArray) : List UInt8 := w.flatMap fun c => signOfL c.data.toList
def plainT (s : ByteArray) : List UInt8 := isp [32] ((wdsOf s).map rdW)
theorem codesJ_no47 {p : List UInt8} : (47 : UInt8) ∉ codesJ p := by
  intro h
  rcases isp_mem h with h | ⟨c, hc, h⟩
  · simp at h
  · obtain ⟨x, hx, rfl⟩ := List.mem_map.1 hc
    rcases codeOf_dash x 47 h with h | h <;> exact absurd h (by decide)
theorem code_no32 (c : UInt8) : (32 : UInt8) ∉ codeOf c := fun h => by
  rcases codeOf_dash c 32 h with h | h <;> exact absurd h (by decide)
theorem wds_coded {s : ByteArray} (h : saidE s = 0) : wdsOf (strB (codedL s.data.toList)) = (cutW s.data.toList).map fun p => (p.map codeOf).map strB := by
  obtain ⟨h0, h1⟩ := said_sayW h
  unfold wdsOf
  have e : piecesOf slashS (strB (codedL s.data.toList)) = ((cutW s.data.toList).map codesJ).map strB :=
    pieces_isp (sep := ⟨#[32, 47, 32]⟩) sep_slash _ (by simpa using h0) (fun p hp => by
      obtain ⟨q, _, rfl⟩ := List.mem_map.1 hp
      exact codesJ_no47)
  rw [e, List.map_map, List.map_map]
  apply List.map_congr_left
  intro p hp
  show piecesOf blankS (strB (codesJ p)) = _
  exact pieces_isp (sep := ⟨#[32]⟩) sep_blank _ (by simpa using (h1 p hp).1) (fun c hc => by
    obtain ⟨x, _, rfl⟩ := List.mem_map.1 hc
    exact code_no32 x)
theorem codeOK_code {c : UInt8} (h : codeOf c ≠ []) : codeOK (codeOf c) = true := by
  unfold codeOK
  simp only [Bool.and_eq_true, decide_eq_true_eq, List.all_eq_true]
  refine ⟨⟨?_, by have := codeOf_short c; omega⟩, codeOf_dash c⟩
  have := List.length_pos_iff.2 h
  omega
theorem plainOK_coded {s : ByteArray} (h : saidE s = 0) : plainOK (strB (codedL s.data.toList)) = true := by
  obtain ⟨h0, h1⟩ := said_sayW h
  unfold plainOK
  rw [wds_coded h, List.all_eq_true]
  intro w hw
  obtain ⟨p, hp, rfl⟩ := List.mem_map.1 hw
  rw [List.all_eq_true]
  intro c hc
  obtain ⟨x, hx, rfl⟩ := List.mem_map.1 hc
  obtain ⟨y, hy, rfl⟩ := List.mem_map.1 hx
  rw [strB_data]
  exact codeOK_code ((h1 p hp).2 y hy).2
theorem rdW_codes : ∀ {p : List UInt8}, (∀ c ∈ p, c ≠ 32 ∧ codeOf c ≠ []) → rdW ((p.map codeOf).map strB) = p
  | [], _ => rfl
  | c :: r, h => by
    have ih := rdW_codes (p := r) (fun x hx => h x (by simp [hx]))
    unfold rdW at ih ⊢
    simp only [List.map_cons, List.flatMap_cons]
    rw [ih, strB_data, sign_code (h c (by simp)).2]
    rfl
/-- What is written as codes comes back. -/
theorem plainT_coded {s : ByteArray} (h : saidE s = 0) : plainT (strB (codedL s.data.toList)) = s.data.toList := by
  obtain ⟨h0, h1⟩ := said_sayW h
  unfold plainT
  rw [wds_coded h, List.map_map]
  have e : (cutW s.data.toList).map (rdW ∘ fun p => (p.map codeOf).map strB) = cutW s.data.toList :=
    (List.map_congr_left (fun p hp => rdW_codes (h1 p hp).2)).trans (List.map_id _)
  rw [e, cutW_isp]
theorem codesJ_len (p : List UInt8) : (codesJ p).length ≤ 7 * p.length := by
  unfold codesJ
  cases p with
  | nil => simp [isp]
  | cons b r =>
    have key : ∀ r : List UInt8, ((r.map codeOf).flatMap fun y => [32] ++ y).length ≤ 7 * r.length := fun r => by
      induction r with
      | nil => simp
      | cons x r ih =>
        have := codeOf_short x
        simp only [List.map_cons, List.flatMap_cons, List.length_append, List.length_cons, List.length_nil]
        omega
    have := key r
    have := codeOf_short b
    show (codeOf b ++ _).length ≤ _
    simp only [List.length_append, List.length_cons]
    omega
theorem codedL_len (s : List UInt8) : (codedL s).length ≤ 7 * s.length := by
  have key : ∀ ps : List (List UInt8), ps ≠ [] → (isp [32, 47, 32] (ps.map codesJ)).length ≤ 7 * (isp [32] ps).length := fun ps => by
    induction ps with
    | nil => intro h; exact absurd rfl h
    | cons p r ih =>
      intro _
      have hp := codesJ_len p
      cases r with
      | nil => simpa [isp] using hp
      | cons q r =>
        have h := ih (by simp)
        simp only [List.map_cons] at h ⊢
        rw [isp_cons, isp_cons]
        simp only [List.length_append, List.length_cons, List.length_nil] at h ⊢
        omega
  have := key (cutW s) (cutW_ne s)
  rw [cutW_isp] at this
  exact this
theorem plainE_coded {s : ByteArray} (h : saidE s = 0) : plainE (strB (codedL s.data.toList)) = 0 := by
  obtain ⟨h1, _, _⟩ := saidE_zero h
  have h2 := codedL_len s.data.toList
  have h3 : (strB (codedL s.data.toList)).size ≤ 3500 := by
    rw [strB_size]
    have : s.data.toList.length = s.size := by simp
    omega
  unfold plainE
  rw [if_neg (by omega), if_pos (plainOK_coded h)]
end Go.Proofs.YtlodmkdhlmineaaGreatDoor

namespace Go.Proofs.YtlodmkdhlmineaaGreatDoor
open Go.RowKit
set_option linter.unusedVariables false
set_option linter.unusedSimpArgs false

theorem join_isp (xs : List (List UInt8)) (sep : List UInt8) : Lib.join xs sep = isp sep xs := by
  cases xs with
  | nil => rfl
  | cons x r => rw [Lib.join_cons]; simp [isp, Lib.joinTail, List.flatMap]
def joinB (sep : ByteArray) (l : List ByteArray) : ByteArray := strB (isp sep.data.toList (l.map (·.data.toList)))
theorem join_any (base : Nat) (v : Value) (l : List ByteArray) (sep : ByteArray) (w : World) (hl : StrsFrom base w v l) (hn : (isp sep.data.toList (l.map (·.data.toList))).length ≤ 1000000000) (hm : l.length ≤ 1000000000) :
    Calls Tryz.prog 87 #[v, .string sep] w fun e w' => e = .returned (.string (joinB sep l)) ∧ w.grownBy w' none := by
  obtain ⟨A, c, rfl, hlen, hA⟩ := hl.shape
  rcases Nat.eq_zero_or_pos l.length with h0 | h0
  · obtain rfl : l = [] := List.eq_nil_of_length_eq_zero h0
    refine (Any.strings_Join_none Tryz.lays156 Tryz.Builder_Extra_156 A c sep w).mono ?_
    rintro e w' ⟨rfl, rfl⟩
    exact ⟨rfl, gr_refl _ _⟩
  · obtain ⟨g, rfl, hg0, hg1⟩ := hA h0
    have hcap : l.length ≤ c := by
      rcases hl.2 with ⟨e, _⟩ | ⟨g', cap, cur, e, _, _, h1, _⟩
      · simp at e
      · injection e with _ _ e; omega
    refine (Tryz.strings_Join g 0 c l sep w (fun j x hx => ?_) hg1 (by omega) hcap (by rw [join_isp]; omega)).mono ?_
    · have hj : j < l.length := by
        rcases Nat.lt_or_ge j l.length with h | h
        · exact h
        · rw [List.getElem?_eq_none h] at hx; cases hx
      rw [List.getElem?_eq_getElem hj] at hx
      injection hx with hx
      rw [Nat.zero_add, ← hx]
      exact hl.at_ j hj
    · rintro e w' ⟨rfl, hb⟩
      refine ⟨?_, gr_of_below hb⟩
      rw [join_isp]; rfl

theorem pieces_len (sep s : ByteArray) (h : 1 ≤ sep.size) : (piecesOf sep s).length = Lib.countB s sep + 1 := Lib.splitB_all sep h 0 _ s rfl
theorem pieces_few (sep s : ByteArray) (h : 1 ≤ sep.size) : (piecesOf sep s).length ≤ s.size + 1 := by
  have := Lib.countB_mul_le sep h s.size s (Nat.le_refl _)
  have h2 := Nat.le_mul_of_pos_right (Lib.countB s sep) (show 0 < sep.size by omega)
  rw [pieces_len sep s h]
  omega
theorem splitSep_any (b : Nat) (s sep : ByteArray) (w : World) (hgl : Gl b w) (hs : s.size < 4294967281) (h1 : 1 ≤ sep.size) :
    Calls Tryz.prog 100 #[.string s, .string sep] w (StrsPost (piecesOf sep s) w) := by
  obtain ⟨m, hm⟩ := hgl.mx
  refine (Tryz.strings_Split s sep m w hs hm h1).mono ?_
  rintro e w' ⟨he, hw⟩
  have hl := pieces_len sep s h1
  have hf := pieces_few sep s h1
  subst hw
  refine ⟨_, he, ?_, World.grownBy_alloc w _ none⟩
  have h := blk_strs (Blk.new w 9 ((piecesOf sep s).map Value.string).toArray) (Nat.le_refl _) (by omega)
  show StrsFrom _ _ (.slice _ (Lib.countB s sep + 1) (Lib.countB s sep + 1)) (piecesOf sep s)
  rw [← hl]
  exact h
end Go.Proofs.YtlodmkdhlmineaaGreatDoor

namespace Go.Proofs.YtlodmkdhlmineaaGreatDoor
open Go.RowKit
set_option linter.unusedVariables false
set_option linter.unusedSimpArgs false

def codeK (s : ByteArray) : List UInt8 := if saidE s = 0 then codedL s.data.toList else []
def codeLL (s : ByteArray) : List ByteArray := (wordsOf s).map fun p => strB (codesJ p.data.toList)
theorem codeLL_len (s : ByteArray) : (codeLL s).length = (wordsOf s).length := by unfold codeLL; simp
theorem join_word (p : ByteArray) : joinB ⟨#[32]⟩ (codesW p) = strB (codesJ p.data.toList) := by
  unfold joinB codesW codesJ
  rw [List.map_map]; rfl
theorem join_words (s : ByteArray) : joinB ⟨#[32, 47, 32]⟩ (codeLL s) = strB (codedL s.data.toList) := by
  unfold joinB codeLL codedL
  rw [wordsOf_cut, List.map_map, List.map_map]
  rfl
theorem codesW_len (p : ByteArray) : (codesW p).length = p.size := by unfold codesW; simp
theorem codes_at (s : ByteArray) (k : Nat) (h : k < (codesOf s).length) (h2 : k < (wordsOf s).length) : (codesOf s)[k] = codesW (wordsOf s)[k] := List.getElem_map _
theorem codeLL_take (s : ByteArray) (k : Nat) (h : k < (wordsOf s).length) : (codeLL s).take (k + 1) = (codeLL s).take k ++ [strB (codesJ (wordsOf s)[k].data.toList)] := by
  rw [List.take_succ_eq_append_getElem (by rw [codeLL_len]; exact h)]
  congr 2
  exact List.getElem_map _
set_option maxRecDepth 100000 in
set_option maxHeartbeats 4000000 in
theorem code_any (b : Nat) (s : ByteArray) (w : World) (hgl : Gl b w) (hs : s.size < 4294967281) :
    Calls Tryz.prog 36 #[.string s] w fun e w' => e = .returned (.tuple #[.string (strB (codeK s)), .int .i64 (saidE s)]) ∧ w.grownBy w' none := by
  have HC := Lib.hid (checkSaid_any b s w hgl hs)
  have HGL := Lib.hid hgl
  by_cases h0 : saidE s = 0
  · have hsz := (saidE_zero h0).1
    have hk : codeK s = codedL s.data.toList := by unfold codeK; rw [if_pos h0]
    have HK := Lib.hid hk
    have hcl := codedL_len s.data.toList
    have hsl : s.data.toList.length = s.size := by simp
    have hwn := wordsOf_few s
    have hwp := wordsOf_pos s
    have HWS := Lib.hid (wordsOf_small s)
    have HW := Lib.hid (fun W (h : Gl b W) => keyWords_any b s W h (by omega))
    have HJ := Lib.hid (fun base v W (h : StrsFrom base W v (codeLL s)) => join_any base v (codeLL s) ⟨#[32, 47, 32]⟩ W h (by have h9 : (codedL s.data.toList).length ≤ 1000000000 := (by omega); have e := congrArg ByteArray.size (join_words s); unfold joinB at e; rw [strB_size, strB_size] at e; rw [e]; exact h9) (by rw [codeLL_len]; omega))
    rw [join_words] at HJ
    have hll : (codesOf s).length = (wordsOf s).length := by unfold codesOf; simp
    obtain ⟨i0, hi, hz0, hz1, hz2⟩ := info_parts strInfo
    rw [hk, h0]
    rw [h0] at HC
    clear h0 hk hgl hcl hsl
    go_enter Tryz.func36, Tryz.ntmps36
    go_wp2_with fail
    refine HC.out.mono ?_
    rintro _ w1 ⟨rfl, hg1⟩
    go_wp2_with fail
    refine (HW.out _ (HGL.out.quiet hg1)).mono ?_
    rintro _ w2 ⟨v, rfl, hv, hg2⟩
    obtain ⟨A, c, rfl, hvl, hA⟩ := hv.shape
    obtain ⟨g, rfl, hgb, hgl2⟩ := hA (by omega)
    have HV := Lib.hid hv
    have hG2 := gr_trans hg1 hg2
    obtain ⟨N, hN⟩ : ∃ N, (wordsOf s).length = N := ⟨_, rfl⟩
    have hNN : (codesOf s).length = N := by rw [hll]; exact hN
    have HN := Lib.hid hN
    have HNN := Lib.hid hNN
    have HAT : Hid (∀ W : World, w2.grownBy W none → ∀ k (hk : k < N), ∃ u, W.cell? ⟨g, k, none⟩ = some u ∧ StrsFrom w1.heap.size W u (codesW ((wordsOf s)[k]'(by rw [HN.out]; exact hk)))) := fun W hW k hk => by
      have h := (HV.out.grown hW).at_ k (by rw [hNN]; exact hk)
      rw [codes_at s k (by rw [hNN]; exact hk) (by rw [hN]; exact hk)] at h
      exact h
    rw [hNN] at hvl ⊢
    rw [hN] at hwn hwp
    clear hv hA hN hNN hll hg1 hg2
    go_wp2_with fail
    go_loopw [5, 16] (fun o i wr => ∃ k : Nat, k ≤ N ∧ i = .int .i64 k ∧ StrsFrom w2.heap.size wr o ((codeLL s).take k) ∧ w2.grownBy wr none) (fun _ i _ => N - (intOf i).toNat)
    case atStart => exact ⟨0, by omega, rfl, StrsFrom.nil _ _, gr_refl _ _⟩
    case round =>
      obtain ⟨k, hk, rfl, hown, hgr⟩ := hrel
      by_cases hlt : k < N
      · have hkn : (k : Int) < (N : Int) := by omega
        have hkw : k < (wordsOf s).length := by rw [HN.out]; exact hlt
        obtain ⟨u, hcu, hsu⟩ := HAT.out wr hgr k hlt
        have htk := Lib.hid (codeLL_take s k hkw)
        have hpz : ((wordsOf s)[k]).size ≤ s.size := HWS.out _ (List.getElem_mem hkw)
        have hjl := codesJ_len ((wordsOf s)[k]).data.toList
        have hpl : ((wordsOf s)[k]).data.toList.length = ((wordsOf s)[k]).size := by simp
        have hjw := join_word (wordsOf s)[k]
        have HJW := Lib.hid (join_any w1.heap.size u (codesW (wordsOf s)[k]) ⟨#[32]⟩ wr hsu (by have e := congrArg ByteArray.size hjw; unfold joinB at e; rw [strB_size, strB_size] at e; rw [e]; omega) (by rw [codesW_len]; omega))
        rw [hjw] at HJW
        obtain ⟨T, hT⟩ : ∃ T, strB (codesJ (wordsOf s)[k].data.toList) = T := ⟨_, rfl⟩
        rw [hT] at htk HJW
        have hlen : ((codeLL s).take k).length = k := by rw [List.length_take, codeLL_len, HN.out]; omega
        have hown1 : wr.ownsRow w2.heap.size 9 1 u5 k (((codeLL s).take k).map Value.string) := by
          have h := hown
          unfold StrsFrom at h
          rwa [hlen] at h
        obtain ⟨A2, c2, rfl, hk9, hA2⟩ := ownsRow_shape hown1
        have HO := Lib.hid hown1
        clear hown hown1 hA2 hpz hjl hpl hjw hT hsu
        go_wp2_with fail
        refine HJW.out.mono ?_
        rintro _ w3 ⟨rfl, hg3⟩
        have hownA : w3.ownsRow w2.heap.size 9 1 (.slice A2 k c2) k (((codeLL s).take k).map Value.string) := ownsRow_grown HO.out hg3
        have hG3 := gr_trans hgr hg3
        have hsz3 := hG3.size
        have hrow : ∀ g, (Value.slice A2 k c2).ownBlock = some g → w2.heap.size ≤ g := fun g e => (hownA.lt g e).1
        have HROW := Lib.hid hrow
        clear hrow hgr hg3
        go_wp2_with (at_builtin; refine wpList_append_own _ rfl _ _ 27 rfl w2.heap.size 9 i0 _ 1 16 Tryz.underlying27 hi hz0 hz1 hz2 rfl (by decide) _ _ _ rfl (hownA.alloc _) ⟨w3.heap.size, 0, none⟩ 1 1 [.string T] rfl rfl (cells_new _ _ _) (str_one _) (by unfold maxLen; omega) (by omega) (by simp; omega) ?_; intro v' w5 hownB hgrB _)
        have hG5 : w2.grownBy w5 none := gr_grown (gr_alloc hG3 _) hgrB (fun g e => .inr (HROW.out g e))
        have hown5 : StrsFrom w2.heap.size w5 v' ((codeLL s).take (k + 1)) := by
          unfold StrsFrom
          rw [htk.out, List.map_append, List.length_append, hlen]
          exact hownB
        clear hownA hgrB hownB
        go_wp2_with fail
        go_roundw
        case rel => exact ⟨k + 1, by omega, by go_num, hown5, hG5⟩
        case measure => simp [intOf]; omega
      · have hkn : ¬ (k : Int) < (N : Int) := by omega
        have hfull : (codeLL s).take k = codeLL s := List.take_of_length_le (by rw [codeLL_len, HN.out]; omega)
        rw [hfull] at hown
        have HJ2 := Lib.hid (HJ.out _ _ _ hown)
        have hG := gr_trans hG2 hgr
        clear hown hgr hG2 hfull
        obtain ⟨T, hT⟩ : ∃ T, strB (codedL s.data.toList) = T := ⟨_, rfl⟩
        rw [hT] at HJ2
        have HTT := Lib.hid hT
        clear hT HJ
        go_wp2_with fail
        refine HJ2.out.mono ?_
        rintro _ w3 ⟨rfl, hg3⟩
        go_wp2_with fail
        go_ret2
        exact ⟨by rw [HTT.out]; rfl, gr_trans hG hg3⟩
  · have hk : codeK s = [] := by unfold codeK; rw [if_neg h0]
    have hb : (saidE s != 0) = true := by rw [bne_iff_ne]; exact h0
    rw [hk]
    clear hgl h0 hk
    generalize saidE s = E at *
    go_enter Tryz.func36, Tryz.ntmps36
    go_wp2_with fail
    refine HC.out.mono ?_
    rintro _ w1 ⟨rfl, hg1⟩
    go_wp2_with fail
    go_ret2
    exact ⟨rfl, hg1⟩
end Go.Proofs.YtlodmkdhlmineaaGreatDoor
