/- The walk over the law NumbersComeBack. Condition: asciiSpace and the powers of ten are Go's own tables, MaxLen holds a number. -/
import Derived.Test.YtkidifpbmfknaaaDoorCutWalk
import Derived.Test.YtkidifpbmfknaaaDoorReady
import Derived.Test.YtkidifpbmfknaaaDoorStart
namespace Go.Proofs.YtkidifpbmfknaaaDoor
open Go.RowKit
set_option linter.unusedVariables false

/-- The powers of ten, as Itoa reads them. -/
structure P10 (b : Nat) (w : World) : Prop where
  tab : Lib.TabIs Tryd.prog w "internal/strconv.uint64pow10" .u64 Lib.pow10Tab
  lt : 1 < b
  lb : b ≤ w.heap.size
theorem P10.grown {b : Nat} {w w' : World} (h : P10 b w) (hg : w.grownBy w' none) : P10 b w' :=
  ⟨tab_grown (by kernel_rfl) h.tab hg (Nat.lt_of_lt_of_le h.lt h.lb) (by simp), h.lt, Nat.le_trans h.lb hg.size⟩
theorem itoa_any (b : Nat) (n : Nat) (w : World) (hn : n ≤ 99999) (hp : P10 b w) :
    Calls Tryd.prog 38 #[.int .i64 (n : Int)] w fun e w' => e = .returned (.string ⟨(Lib.decDigits n).toArray⟩) ∧ w.grownBy w' none := by
  refine (Tryd.strconv_Itoa (n : Int) (by omega) (by omega) w hp.tab).mono ?_
  rintro e w' ⟨rfl, k, os, rfl⟩
  refine ⟨by rw [Lib.itoa_nonneg], ?_⟩
  exact gr_trans (gr_drewN (gr_refl _ _) k) ⟨rfl, rfl, rfl, by simp, fun i hi _ => Sort.heap_grow_old _ _ (by simpa using hi)⟩

set_option maxRecDepth 100000 in
set_option maxHeartbeats 4000000 in
theorem numsLaw (A : Option Addr) (n c : Nat) (w : World) (hin : In w A n) (hgl : Gl w.heap.size w) (hp : P10 w.heap.size w) :
    Calls Tryd.prog 7 #[.slice A n c] w fun r w' => r = .returned (.bool true) ∧ Below w.heap.size w w' := by
  have hs0 := Str.start (c := c) hin
  have HGL := Lib.hid hgl
  have HP := Lib.hid hp
  clear hin hgl hp
  go_enter Tryd.func7, Tryd.ntmps7
  go_wp2_with fail
  have hG0 := World.grownBy_alloc w (.cells #[.slice A n c, .int .i64 0] 25) none
  generalize w.alloc (.cells #[.slice A n c, .int .i64 0] 25) = W0 at *
  generalize hb : w.heap.size = b at *
  have HB := Lib.hid hb
  clear hb
  refine (range_in b 0 0 99999 _ hs0 (by decide) (by decide) (by decide) (by decide)).mono ?_
  rintro _ w1 ⟨x, hx0, hx1, rfl, hs1, hg1⟩
  have hG1 : w.grownBy w1 none := gr_grown hG0 hg1 (fun g e => by injection e with e; exact .inr (by have := HB.out; omega))
  clear hs0 hG0 hg1
  go_wp2_with fail
  refine (range_in b _ 1 5 _ hs1 (by decide) (by decide) (by decide) (by decide)).mono ?_
  rintro _ w2 ⟨m, hm0, hm1, rfl, hs2, hg2⟩
  have hG2 : w.grownBy w2 none := gr_grown hG1 hg2 (fun g e => by injection e with e; exact .inr (by have := HB.out; omega))
  clear hs1 hG1 hg2
  go_wp2_with fail
  refine (cut_any x m _ hx0 hx1 hm0 hm1).mono ?_
  rintro _ _ ⟨s, rfl, hok, hval, hlen, hs5, rfl⟩
  have HOK := Lib.hid hok
  have HVAL := Lib.hid hval
  clear hok hval
  go_wp2_with fail
  refine (uncut_ok s _ (by omega) (by omega) HOK.out).mono ?_
  rintro _ _ ⟨rfl, rfl⟩
  rw [HVAL.out]
  obtain ⟨y, rfl⟩ := Int.eq_ofNat_of_zero_le hx0
  go_wp2_with fail
  refine (itoa_any b y _ (by omega) (HP.out.grown hG2)).mono ?_
  rintro _ w3 ⟨rfl, hg3⟩
  have hG3 := gr_trans hG2 hg3
  clear hG2 hg3 hs2
  go_wp2_with fail
  have hd := decDigits_num y
  have hdl : (⟨(Lib.decDigits y).toArray⟩ : ByteArray).size = Lib.nDigits y := by rw [size_len']; show (Lib.decDigits y).toArray.toList.length = _; rw [List.toList_toArray, Lib.decDigits_length]
  have h1 := nDigits_one y
  have h5 := nDigits_few 4 y (by omega)
  have hdd : (⟨(Lib.decDigits y).toArray⟩ : ByteArray).data.toList = Lib.decDigits y := by simp
  refine (uncut_ok ⟨(Lib.decDigits y).toArray⟩ _ (by rw [hdl]; exact h1) (by rw [hdl]; omega) (by rw [hdd]; exact hd.1)).mono ?_
  rintro _ _ ⟨rfl, rfl⟩
  rw [hdd, hd.2]
  clear hd hdl h1 h5 hdd
  go_wp2_with fail
  refine (ready_any b _ (HGL.out.quiet hG3)).mono ?_
  rintro _ w7 ⟨rfl, hg⟩
  go_wp2_with fail
  go_ret
  exact ⟨rfl, gr_below (gr_trans hG3 hg)⟩
end Go.Proofs.YtkidifpbmfknaaaDoor
