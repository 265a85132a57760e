/- strings.LastIndexAny at bytes of ASCII: where the last byte is that is one of some. Condition: both strings are ASCII; the second one has two bytes or more. -/
import Derived.Test.YtjhklpffmfdkbaaGreatDoorCallBytes
import Derived.Test.YtjhklpffmfdkbaaGreatDoorShelf
import Derived.Lib.AsciiSet
import Derived.Lib.IndexAny
namespace Go.Proofs.YtjhklpffmfdkbaaGreatDoor
open Go.RowKit
set_option linter.unusedVariables false

theorem same_back {P : Program} {f : FuncId} {args : Array Value} {w : World} {v : Ending} (h : Calls P f args w fun e w' => e = v ∧ w' = w) : Calls P f args w fun e w' => e = v ∧ w = w' :=
  h.mono fun _ _ ⟨he, hm⟩ => ⟨he, hm.symm⟩
def Ascii (s : ByteArray) : Prop := ∀ (j : Nat) b, s.data.toList[j]? = some b → b.toNat < 128
theorem Ascii.at_ {s : ByteArray} (h : Ascii s) (k : Nat) (hk : k < s.size) : (s[k].toNat : Int) < 128 := by
  have := h k s[k] (by rw [List.getElem?_eq_getElem (by simpa using hk)]; rfl)
  omega

set_option maxHeartbeats 400000 in
theorem decodeLast_ascii (t : ByteArray) (k : Nat) (c : UInt8) (w : World) (ht : t.size ≤ 9223372036854775807) (hk : t.size = k + 1) (hc : t.data.toList[k]? = some c) (h1 : (c.toNat : Int) < 128) :
    Calls Tryz.prog 121 #[.string t] w fun e w' => e = .returned (.tuple #[.int .i32 (c.toNat : Int), .int .i64 1]) ∧ w = w' := by
  have hkt : k < t.size := by omega
  have hc' : t[k] = c := by
    rw [List.getElem?_eq_getElem (by simpa using hkt)] at hc
    injection hc
  have hz : (t.size : Int) - 1 = (k : Int) := by omega
  have h0 : ((t.size : Int) == 0) = false := by rw [beq_eq_false_iff_ne]; omega
  have hk2 : (k : Int) < (t.size : Int) := by omega
  have hk3 : (0 : Int) ≤ (k : Int) := by omega
  have HK := Lib.hid hk
  have HC := Lib.hid hc
  clear hk hc
  go_enter Tryz.func121, Tryz.ntmps121
  go_wp2_with fail
  go_ret2
  exact ⟨rfl, rfl⟩

theorem lastP_snocN (p : UInt8 → Bool) (s : ByteArray) (z : Int) (h : -1 ≤ z) (H : ∀ j (hj : j < s.size), z < (j : Int) → p s[j] = false) (hz : z < 0) : lastP p s.data.toList = -1 :=
  lastP_none p _ (fun j hj => H j (by simpa using hj) (by omega))
theorem lastP_atS (p : UInt8 → Bool) (s : ByteArray) (k : Nat) (hk : k < s.size) (h0 : p s[k] = true) (H : ∀ j (hj : j < s.size), (k : Int) < (j : Int) → p s[j] = false) : lastP p s.data.toList = (k : Int) :=
  lastP_at p _ k (by simpa using hk) h0 (fun j hj hkj => H j (by simpa using hj) (by omega))

theorem zero132 (w : World) : (zeroValue 136).run Tryz.prog w = .ok (.agg (Array.replicate 256 (.bool false))) w := by kernel_rfl

set_option maxRecDepth 100000 in
set_option maxHeartbeats 2000000 in
theorem lastAny_set (s chars : ByteArray) (w : World) (hs : s.size < 4294967281) (h8 : 8 < s.size) (hc : chars.size < 4294967281) (hne : chars.toList.isEmpty = false) (hca : Ascii chars) :
    Calls Tryz.prog 133 #[.string s, .string chars] w fun e w' => e = .returned (.int .i64 (lastP chars.data.toList.contains s.data.toList)) ∧ w.grownBy w' none := by
  have h8b : (8 : Int) < (s.size : Int) := by omega
  have h1 : ((s.size : Int) == 1) = false := by rw [beq_eq_false_iff_ne]; omega
  have H8 := Lib.hid h8
  have HCA := Lib.hid hca
  clear hca
  go_enter Tryz.func133, Tryz.ntmps133
  go_wp2_with fail
  refine (same_back (Tryz.strings_shouldUseASCIISet _ _)).mono ?_
  rintro _ _ ⟨rfl, rfl⟩
  go_wp2_with fail
  refine (Tryz.strings_makeASCIISet zero132 chars _ hc HCA.out).mono ?_
  rintro _ w1 ⟨rfl, hw1⟩
  have hsz := Lib.setCells_size chars.data.toList
  have hws : w1.heap.size = w.heap.size + 1 := by rw [hw1]; simp
  have hg1 : w.grownBy w1 none := by rw [hw1]; exact World.grownBy_alloc w _ none
  have hsc : (storeCells ⟨w1.heap.size, 0, none⟩ (Lib.setCells chars.data.toList).toList 0).run Tryz.prog (w1.alloc (.cells Tryz.zeroCells136 136)) = .ok () (w1.alloc (.cells (Lib.setCells chars.data.toList) 136)) :=
    run_storeCells_new (P := Tryz.prog) w1 136 Tryz.zeroCells136 (Lib.setCells chars.data.toList) (by rw [Lib.setCells_size]; kernel_rfl) (by rw [Lib.setCells_size]; kernel_rfl) (Lib.setCells_one _)
  have HWS := Lib.hid hws
  have HW1 := Lib.hid hw1
  clear hws hw1
  have HC : Hid (∀ x : UInt8, (w1.alloc (.cells (Lib.setCells chars.data.toList) 136)).cell? ⟨w1.heap.size, x.toNat, none⟩ = some (.bool (chars.data.toList.contains x))) := fun x => by
    rw [World.cell?_alloc_at _ _ _ _ (by simp), Lib.setCells_at]
  go_wp2_with fail
  have hgf : w.grownBy (w1.alloc (.cells (Lib.setCells chars.data.toList) 136)) none := gr_alloc hg1 _
  have HGF := Lib.hid hgf
  clear hg1 hsc hsz hgf
  generalize w1.alloc (.cells (Lib.setCells chars.data.toList) 136) = W at *
  generalize w1.heap.size = B at *
  go_loop [8] (fun i => ∃ z : Int, i = .int .i64 z ∧ -1 ≤ z ∧ z < s.size ∧ Hid (∀ j (hj : j < s.size), z < (j : Int) → chars.data.toList.contains s[j] = false)) (fun i => (intOf i + 1).toNat)
  case atStart => exact ⟨(s.size : Int) - 1, rfl, by omega, by omega, fun j hj h => by omega⟩
  case round =>
    obtain ⟨z, rfl, hz0, hz1, HR⟩ := hrel
    by_cases hz : z < 0
    · have HE := Lib.hid (lastP_snocN chars.data.toList.contains s z hz0 HR.out hz)
      have hz2 : ¬ 0 ≤ z := by omega
      go_wp2_with fail
      go_ret
      exact ⟨ret_of HE.out.symm, HGF.out⟩
    · obtain ⟨k, rfl⟩ := Int.eq_ofNat_of_zero_le (show 0 ≤ z by omega)
      have hk' : k < s.size := by omega
      obtain ⟨c, hc⟩ : ∃ c, s[k] = c := ⟨_, rfl⟩
      have hcc := HC.out c
      by_cases hi : chars.data.toList.contains c = true
      · have HE : Hid ((k : Int) = lastP chars.data.toList.contains s.data.toList) := by
          show _ = _
          rw [lastP_atS _ s k hk' (by rw [hc]; exact hi) HR.out]
        rw [hi] at hcc
        have HK := Lib.hid hk'
        go_wp2_with fail
        refine (same_back (Tryz.asciiSet_contains _ c true _ hcc)).mono ?_
        rintro _ _ ⟨rfl, rfl⟩
        go_wp2_with fail
        go_ret
        exact ⟨ret_of HE.out, HGF.out⟩
      · have hi' : chars.data.toList.contains c = false := by simpa using hi
        have HN : Hid (∀ j (hj : j < s.size), (k : Int) - 1 < (j : Int) → chars.data.toList.contains s[j] = false) := fun j hj h => by
          by_cases e : j = k
          · subst e; rw [hc]; exact hi'
          · exact HR.out j hj (by omega)
        rw [hi'] at hcc
        clear hi hi'
        go_wp2_with fail
        refine (same_back (Tryz.asciiSet_contains _ c false _ hcc)).mono ?_
        rintro _ _ ⟨rfl, rfl⟩
        go_wp2_with fail
        go_round
        case rel => exact ⟨(k : Int) - 1, rfl, by omega, by omega, HN⟩
        case measure => simp [intOf]

set_option maxRecDepth 100000 in
set_option maxHeartbeats 2000000 in
theorem lastAny_one (s chars : ByteArray) (w : World) (hs : s.size = 1) (hne : chars.toList.isEmpty = false) (ha : Ascii s) :
    Calls Tryz.prog 133 #[.string s, .string chars] w fun e w' => e = .returned (.int .i64 (lastP chars.data.toList.contains s.data.toList)) ∧ w = w' := by
  have h0 : 0 < s.size := by omega
  obtain ⟨c, hc⟩ : ∃ c, s[0] = c := ⟨_, rfl⟩
  have hca : (c.toNat : Int) < 128 := by rw [← hc]; exact ha.at_ 0 h0
  have hz : ((s.size : Int) == 1) = true := by rw [beq_iff_eq]; omega
  have hsl : s.data.toList = [c] := by
    have hl : s.data.toList.length = 1 := by simpa using hs
    obtain ⟨x, hx⟩ := List.length_eq_one_iff.1 hl
    have : s.data.toList[0]'(by omega) = c := hc
    simp only [hx, List.getElem_cons_zero] at this
    rw [hx, this]
  have HR : Hid (lastP chars.data.toList.contains s.data.toList = if 0 ≤ Lib.indexByte chars.data.toList c then 0 else -1) := by
    show _ = _
    have := Lib.contains_iff_indexByte chars.data.toList c
    rw [hsl]
    have hm : lastP chars.data.toList.contains [c] = if chars.data.toList.contains c then 0 else -1 := by
      have h : ¬ 0 ≤ lastP chars.data.toList.contains [] := by simp [lastP]
      exact if_neg h
    rw [hm, this]
    by_cases h : 0 ≤ Lib.indexByte chars.data.toList c <;> simp [h]
  have hcc : ((c.toNat : Int)).toNat.toUInt8 = c := by simp
  have HS := Lib.hid hs
  have HL := Lib.hid hsl
  clear hs hsl
  by_cases hi : 0 ≤ Lib.indexByte chars.data.toList c
  · have HE : Hid (0 = lastP chars.data.toList.contains s.data.toList) := by show _ = _; rw [HR.out, if_pos hi]
    go_enter Tryz.func133, Tryz.ntmps133
    go_wp2_with fail
    refine (same_back (Tryz.strings_IndexRune_ascii chars _ _ (by omega) hca)).mono ?_
    rintro _ _ ⟨rfl, rfl⟩
    rw [hcc]
    go_wp2_with fail
    go_ret
    exact ⟨ret_of HE.out, rfl⟩
  · have HE : Hid (-1 = lastP chars.data.toList.contains s.data.toList) := by show _ = _; rw [HR.out, if_neg hi]
    go_enter Tryz.func133, Tryz.ntmps133
    go_wp2_with fail
    refine (same_back (Tryz.strings_IndexRune_ascii chars _ _ (by omega) hca)).mono ?_
    rintro _ _ ⟨rfl, rfl⟩
    rw [hcc]
    go_wp2_with fail
    go_ret
    exact ⟨ret_of HE.out, rfl⟩

set_option maxRecDepth 100000 in
set_option maxHeartbeats 2000000 in
theorem lastAny_short (s chars : ByteArray) (w : World) (hs : s.size ≤ 8) (hs1 : ¬ s.size = 1) (hne : chars.toList.isEmpty = false) (hc1 : 2 ≤ chars.size) (ha : Ascii s) :
    Calls Tryz.prog 133 #[.string s, .string chars] w fun e w' => e = .returned (.int .i64 (lastP chars.data.toList.contains s.data.toList)) ∧ w = w' := by
  have h8b : ¬ (8 : Int) < (s.size : Int) := by omega
  have h1 : ((s.size : Int) == 1) = false := by rw [beq_eq_false_iff_ne]; omega
  have h2 : ((chars.size : Int) == 1) = false := by rw [beq_eq_false_iff_ne]; omega
  have HS1 := Lib.hid hs1
  have HA := Lib.hid ha
  clear hs1 ha
  go_enter Tryz.func133, Tryz.ntmps133
  go_wp2_with fail
  refine (same_back (Tryz.strings_shouldUseASCIISet _ _)).mono ?_
  rintro _ _ ⟨rfl, rfl⟩
  go_wp2_with fail
  go_loop [13] (fun i => ∃ k : Nat, k ≤ s.size ∧ i = .int .i64 k ∧ Hid (∀ j (hj : j < s.size), (k : Int) - 1 < (j : Int) → chars.data.toList.contains s[j] = false)) (fun i => (intOf i).toNat)
  case atStart => exact ⟨s.size, Nat.le_refl _, rfl, fun j hj h => by omega⟩
  case round =>
    obtain ⟨k, hk, rfl, HR⟩ := hrel
    cases k with
    | zero =>
      have HE := Lib.hid (lastP_snocN chars.data.toList.contains s (-1) (by omega) (fun j hj h => HR.out j hj (by simpa using h)) (by omega))
      go_wp2_with fail
      go_ret
      exact ⟨ret_of HE.out.symm, rfl⟩
    | succ k =>
      have hk' : k < s.size := by omega
      obtain ⟨c, hc⟩ : ∃ c, s[k] = c := ⟨_, rfl⟩
      have hca : (c.toNat : Int) < 128 := by rw [← hc]; exact HA.out.at_ k hk'
      have hcc : ((c.toNat : Int)).toNat.toUInt8 = c := by simp
      have hcont := Lib.contains_iff_indexByte chars.data.toList c
      have hk0 : (0 : Int) < ((k + 1 : Nat) : Int) := by omega
      have HD : ∀ W : World, Calls Tryz.prog 121 #[.string (s.extract 0 (k + 1))] W fun e w' => e = .returned (.tuple #[.int .i32 (c.toNat : Int), .int .i64 1]) ∧ W = w' := fun W =>
        decodeLast_ascii _ k c W (by simp; omega) (by simp; omega) (by
          rw [← hc]
          simp [ByteArray.data_extract, hk']
          rfl) hca
      have HK := Lib.hid hk'
      by_cases hi : 0 ≤ Lib.indexByte chars.data.toList c
      · have HE : Hid ((k : Int) = lastP chars.data.toList.contains s.data.toList) := by
          show _ = _
          rw [lastP_atS _ s k hk' (by rw [hc, hcont]; simpa using hi) (fun j hj h => HR.out j hj (by omega))]
        have HC := Lib.hid hc
        have HCT := Lib.hid hcont
        have HDD := Lib.hid HD
        clear hc hcont HD
        go_wp2_with fail
        refine (HDD.out _).mono ?_
        rintro _ _ ⟨rfl, rfl⟩
        go_wp2_with fail
        refine (same_back (Tryz.strings_IndexRune_ascii chars _ _ (by omega) hca)).mono ?_
        rintro _ _ ⟨rfl, rfl⟩
        rw [hcc]
        go_wp2_with fail
        go_ret
        exact ⟨ret_of HE.out, rfl⟩
      · have HN : Hid (∀ j (hj : j < s.size), (k : Int) - 1 < (j : Int) → chars.data.toList.contains s[j] = false) := fun j hj h => by
          by_cases e : j = k
          · subst e; rw [hc, hcont]; simpa using hi
          · exact HR.out j hj (by omega)
        have HC := Lib.hid hc
        have HCT := Lib.hid hcont
        have HDD := Lib.hid HD
        clear hc hcont HD
        go_wp2_with fail
        refine (HDD.out _).mono ?_
        rintro _ _ ⟨rfl, rfl⟩
        go_wp2_with fail
        refine (same_back (Tryz.strings_IndexRune_ascii chars _ _ (by omega) hca)).mono ?_
        rintro _ _ ⟨rfl, rfl⟩
        rw [hcc]
        go_wp2_with fail
        go_round
        case rel => exact ⟨k, by omega, by go_num, HN⟩
        case measure => simp [intOf]

/-- Where the last byte is that is one of some. -/
theorem lastAny_any (s chars : ByteArray) (w : World) (hs : s.size < 4294967281) (hc : chars.size < 4294967281) (hc1 : 2 ≤ chars.size) (ha : Ascii s) (hca : Ascii chars) :
    Calls Tryz.prog 133 #[.string s, .string chars] w fun e w' => e = .returned (.int .i64 (lastP chars.data.toList.contains s.data.toList)) ∧ w.grownBy w' none := by
  have hne : chars.toList.isEmpty = false := by
    rw [Lib.toList_data]
    cases h : chars.data.toList with
    | nil => have := Lib.size_eq chars; rw [h, List.length_nil] at this; omega
    | cons _ _ => rfl
  by_cases h1 : s.size = 1
  · exact (lastAny_one s chars w h1 hne ha).mono fun e w' ⟨he, hw⟩ => ⟨he, by rw [← hw]; exact gr_refl _ _⟩
  · by_cases h8 : 8 < s.size
    · exact lastAny_set s chars w hs h8 hc hne hca
    · exact (lastAny_short s chars w (by omega) h1 hne hc1 ha).mono fun e w' ⟨he, hw⟩ => ⟨he, by rw [← hw]; exact gr_refl _ _⟩

/-- The ten digits. -/
def digS : ByteArray := ⟨#[48, 49, 50, 51, 52, 53, 54, 55, 56, 57]⟩
theorem digS_has (c : UInt8) : digS.data.toList.contains c = dgB c := by
  revert c
  have h : ∀ n : Fin 256, digS.data.toList.contains (UInt8.ofNat n.val) = dgB (UInt8.ofNat n.val) := by decide +kernel
  intro c
  have := h ⟨c.toNat, c.toNat_lt⟩
  simpa using this
theorem lastP_congr {p q : UInt8 → Bool} (h : ∀ c, p c = q c) (l : List UInt8) : lastP p l = lastP q l := by
  have : p = q := funext h
  rw [this]
theorem digS_ascii : Ascii digS := by
  intro j b h
  have hm : b ∈ digS.data.toList := List.mem_of_getElem? h
  have hall : ∀ b ∈ digS.data.toList, b.toNat < 128 := by decide +kernel
  exact hall b hm
theorem lastDig_any (s : ByteArray) (w : World) (hs : s.size < 4294967281) (ha : Ascii s) :
    Calls Tryz.prog 133 #[.string s, .string ⟨#[48, 49, 50, 51, 52, 53, 54, 55, 56, 57]⟩] w fun e w' => e = .returned (.int .i64 (lastP dgB s.data.toList)) ∧ w.grownBy w' none := by
  have h := lastAny_any s digS w hs (by decide) (by decide) ha digS_ascii
  rw [lastP_congr digS_has] at h
  exact h
end Go.Proofs.YtjhklpffmfdkbaaGreatDoor
