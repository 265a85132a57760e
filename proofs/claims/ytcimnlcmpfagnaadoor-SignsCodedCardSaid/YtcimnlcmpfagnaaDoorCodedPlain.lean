/- The plain side of codes: what is said written as codes, codes read, and that one undoes the other. No condition. -/
import Derived.Test.YtcimnlcmpfagnaaDoorSaidPlain
namespace Go.Proofs.YtcimnlcmpfagnaaDoor
set_option linter.unusedVariables false
set_option linter.unusedSimpArgs false

def slashS : ByteArray := ⟨#[32, 47, 32]⟩
/-- The codes of a word, with blanks between. -/
def codesJ (p : List UInt8) : List UInt8 := isp [32] (p.map codeOf)
/-- What is said, as codes. -/
def codedL (s : List UInt8) : List UInt8 := isp [32, 47, 32] ((cutW s).map codesJ)
def codeOK (c : List UInt8) : Bool := decide (1 ≤ c.length) && decide (c.length ≤ 10) && c.all fun x => decide (x = 46 ∨ x = 45)
/-- The words of codes. -/
def wdsOf (s : ByteArray) : List (List ByteArray) := (piecesOf slashS s).map (piecesOf blankS)
def plainOK (s : ByteArray) : Bool := (wdsOf s).all fun w => w.all fun c => codeOK c.data.toList
def plainE (s : ByteArray) : Int := if 5000 < s.size then 2 else if plainOK s = true then 0 else 3
def rdW (w : List ByteArray) : List UInt8 := w.flatMap fun c => signOfL c.data.toList
def plainT (s : ByteArray) : List UInt8 := isp [32] ((wdsOf s).map rdW)
theorem codesJ_no47 {p : List UInt8} : (47 : UInt8) ∉ codesJ p := by
  intro h
  rcases isp_mem h with h | ⟨c, hc, h⟩
  · simp at h
  · obtain ⟨x, hx, rfl⟩ := List.mem_map.1 hc
    rcases codeOf_dash x 47 h with h | h <;> exact absurd h (by decide)
theorem code_no32 (c : UInt8) : (32 : UInt8) ∉ codeOf c := fun h => by
  rcases codeOf_dash c 32 h with h | h <;> exact absurd h (by decide)
theorem wds_coded {s : ByteArray} (h : saidE s = 0) : wdsOf (strB (codedL s.data.toList)) = (cutW s.data.toList).map fun p => (p.map codeOf).map strB := by
  obtain ⟨h0, h1⟩ := said_sayW h
  unfold wdsOf
  have e : piecesOf slashS (strB (codedL s.data.toList)) = ((cutW s.data.toList).map codesJ).map strB :=
    pieces_isp (sep := ⟨#[32, 47, 32]⟩) sep_slash _ (by simpa using h0) (fun p hp => by
      obtain ⟨q, _, rfl⟩ := List.mem_map.1 hp
      exact codesJ_no47)
  rw [e, List.map_map, List.map_map]
  apply List.map_congr_left
  intro p hp
  show piecesOf blankS (strB (codesJ p)) = _
  exact pieces_isp (sep := ⟨#[32]⟩) sep_blank _ (by simpa using (h1 p hp).1) (fun c hc => by
    obtain ⟨x, _, rfl⟩ := List.mem_map.1 hc
    exact code_no32 x)
theorem codeOK_code {c : UInt8} (h : codeOf c ≠ []) : codeOK (codeOf c) = true := by
  unfold codeOK
  simp only [Bool.and_eq_true, decide_eq_true_eq, List.all_eq_true]
  refine ⟨⟨?_, by have := codeOf_short c; omega⟩, codeOf_dash c⟩
  have := List.length_pos_iff.2 h
  omega
theorem plainOK_coded {s : ByteArray} (h : saidE s = 0) : plainOK (strB (codedL s.data.toList)) = true := by
  obtain ⟨h0, h1⟩ := said_sayW h
  unfold plainOK
  rw [wds_coded h, List.all_eq_true]
  intro w hw
  obtain ⟨p, hp, rfl⟩ := List.mem_map.1 hw
  rw [List.all_eq_true]
  intro c hc
  obtain ⟨x, hx, rfl⟩ := List.mem_map.1 hc
  obtain ⟨y, hy, rfl⟩ := List.mem_map.1 hx
  rw [strB_data]
  exact codeOK_code ((h1 p hp).2 y hy).2
theorem rdW_codes : ∀ {p : List UInt8}, (∀ c ∈ p, c ≠ 32 ∧ codeOf c ≠ []) → rdW ((p.map codeOf).map strB) = p
  | [], _ => rfl
  | c :: r, h => by
    have ih := rdW_codes (p := r) (fun x hx => h x (by simp [hx]))
    unfold rdW at ih ⊢
    simp only [List.map_cons, List.flatMap_cons]
    rw [ih, strB_data, sign_code (h c (by simp)).2]
    rfl
/-- What is written as codes comes back. -/
theorem plainT_coded {s : ByteArray} (h : saidE s = 0) : plainT (strB (codedL s.data.toList)) = s.data.toList := by
  obtain ⟨h0, h1⟩ := said_sayW h
  unfold plainT
  rw [wds_coded h, List.map_map]
  have e : (cutW s.data.toList).map (rdW ∘ fun p => (p.map codeOf).map strB) = cutW s.data.toList :=
    (List.map_congr_left (fun p hp => rdW_codes (h1 p hp).2)).trans (List.map_id _)
  rw [e, cutW_isp]
theorem codesJ_len (p : List UInt8) : (codesJ p).length ≤ 7 * p.length := by
  unfold codesJ
  cases p with
  | nil => simp [isp]
  | cons b r =>
    have key : ∀ r : List UInt8, ((r.map codeOf).flatMap fun y => [32] ++ y).length ≤ 7 * r.length := fun r => by
      induction r with
      | nil => simp
      | cons x r ih =>
        have := codeOf_short x
        simp only [List.map_cons, List.flatMap_cons, List.length_append, List.length_cons, List.length_nil]
        omega
    have := key r
    have := codeOf_short b
    show (codeOf b ++ _).length ≤ _
    simp only [List.length_append, List.length_cons]
    omega
theorem codedL_len (s : List UInt8) : (codedL s).length ≤ 7 * s.length := by
  have key : ∀ ps : List (List UInt8), ps ≠ [] → (isp [32, 47, 32] (ps.map codesJ)).length ≤ 7 * (isp [32] ps).length := fun ps => by
    induction ps with
    | nil => intro h; exact absurd rfl h
    | cons p r ih =>
      intro _
      have hp := codesJ_len p
      cases r with
      | nil => simpa [isp] using hp
      | cons q r =>
        have h := ih (by simp)
        simp only [List.map_cons] at h ⊢
        rw [isp_cons, isp_cons]
        simp only [List.length_append, List.length_cons, List.length_nil] at h ⊢
        omega
  have := key (cutW s) (cutW_ne s)
  rw [cutW_isp] at this
  exact this
theorem plainE_coded {s : ByteArray} (h : saidE s = 0) : plainE (strB (codedL s.data.toList)) = 0 := by
  obtain ⟨h1, _, _⟩ := saidE_zero h
  have h2 := codedL_len s.data.toList
  have h3 : (strB (codedL s.data.toList)).size ≤ 3500 := by
    rw [strB_size]
    have : s.data.toList.length = s.size := by simp
    omega
  unfold plainE
  rw [if_neg (by omega), if_pos (plainOK_coded h)]
end Go.Proofs.YtcimnlcmpfagnaaDoor
