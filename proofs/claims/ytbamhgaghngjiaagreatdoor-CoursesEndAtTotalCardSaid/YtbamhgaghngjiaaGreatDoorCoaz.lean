/- The law CoursesEndAtTotal, jsq to a wide claim. Condition: as the jm9 asks. -/
import Derived.Test.YtbamhgaghngjiaaGreatDoorCoax
import Derived.Test.YtbamhgaghngjiaaGreatDoorCoay
namespace Go.Proofs.YtbamhgaghngjiaaGreatDoor.coursesEndAtTotal
open Go.ChangeShapes Go.WideShapes Go.ChangeAt Go.RowKit
open Go.ChangeMaps (open_string shut_string)
set_option linter.unusedVariables false

theorem jm9 (a0 : Option Addr) (len0 cap0 : Nat) (z0 : List Int) (w : World) (w0 : jqa .i64 w a0 len0 cap0 z0) (hgl : Gl w.heap.size w) (hpp : P10 w.heap.size w) :
 Calls Tryz.prog 4 #[.slice a0 len0 cap0] w fun e w' => e = .returned (.bool true) ∧ Below w.heap.size w w' :=
 jl0 a0 len0 cap0 w (InX.of_row w0) hgl hpp
theorem gl {W : World} (h : laidMetH Tryz.prog Rows.coursesEndAtTotalRow.laid W) (hs : W.ShapedOpen Tryz.prog) : Gl W.heap.size W := by
 rw [MakeChecks.laidMetH_plain _ _ _ (by kernel_rfl)] at h
 exact jrh (jty hs) (jsd (laidMet.tail (laidMet.tail (laidMet.tail (laidMet.tail (laidMet.tail h))))))
theorem jv1 : (Rows.laid_internal_strconv_uint64pow10 : DataW Unit) = Lib.tabData .u64 Lib.pow10Tab := by kernel_rfl
theorem jv0 {W : World} {rest : List (String × DataW Unit)} (h : laidMet Tryz.prog (("internal/strconv.uint64pow10", Rows.laid_internal_strconv_uint64pow10) :: rest) W) : Lib.TabIs Tryz.prog W "internal/strconv.uint64pow10" .u64 Lib.pow10Tab := by
 rw [jv1] at h
 exact Lib.tabIs_of_head (g := 5) (t := 282) (e := 180) (n := 20) (by kernel_rfl) (by kernel_rfl) Tryz.underlying282 Tryz.underlying180 (by kernel_rfl) (by kernel_rfl) h
theorem p10 {W : World} (h : laidMetH Tryz.prog Rows.coursesEndAtTotalRow.laid W) : P10 W.heap.size W := by
 rw [MakeChecks.laidMetH_plain _ _ _ (by kernel_rfl)] at h
 have ht := jv0 (laidMet.tail (laidMet.tail h))
 have hc := ht.cell (g := 5) (by kernel_rfl) 0 (by decide)
 exact ⟨ht, World.block_lt_of_cell? W _ hc, Nat.le_refl _⟩
set_option maxRecDepth 100000 in
theorem met1 (os : Os) (args : Array Value) : (DataW.laidRun Tryz.prog ((startW os).forCall (fun _ _ => 0) ⟨#[], args, []⟩).memory 8 ((Rows.coursesEndAtTotalRow.laid.filter fun x => x.2.handleName?.isNone).map (·.1))).map (·.1) = some (Rows.coursesEndAtTotalRow.laid.filter fun x => x.2.handleName?.isNone) := by kernel_rfl
set_option maxRecDepth 100000 in
theorem met2 (os : Os) (args : Array Value) : (DataW.laidRun Tryz.prog ((startW os).forCall (fun _ _ => 0) ⟨#[], args, []⟩).memory 8 ((Rows.coursesEndAtTotalRow.laid.filter fun x => x.2.handleName?.isNone).map (·.1))).map (fun x => nodupBits 257 x.2 0) = some true := by kernel_rfl
set_option maxRecDepth 100000 in
theorem met3 (os : Os) (args : Array Value) : (DataW.laidRun Tryz.prog ((startW os).forCall (fun _ _ => 0) ⟨#[], args, []⟩).memory 8 ((Rows.coursesEndAtTotalRow.laid.filter fun x => x.2.handleName?.isNone).map (·.1))).map (fun x => laidRowsB Tryz.prog ((startW os).forCall (fun _ _ => 0) ⟨#[], args, []⟩).memory x.2) = some true := by kernel_rfl
set_option maxRecDepth 100000 in
theorem met (os : Os) (args : Array Value) : laidMetH Tryz.prog Rows.coursesEndAtTotalRow.laid ((startW os).forCall (fun _ _ => 0) ⟨#[], args, []⟩).memory :=
 laidMetH_of_parts3 (fuel := 8) (jew 8 257 (met1 os args) (met2 os args) (met3 os args)) (by kernel_rfl) (by kernel_rfl)
set_option maxRecDepth 100000 in
theorem jsq (os : Os) (started : os.Started) (H : Type) (enc : TypeId × Value → H) :
 ReturnsInHanded {} Tryz.checked os 4 .any (fun w args => (Rows.coursesEndAtTotalSpec.pre enc Tryz.prog Tryz.f4 Rows.coursesEndAtTotalRow.domain false w args ∧ laidMetH Tryz.prog Rows.coursesEndAtTotalRow.laid w) ∧ sizedMet enc Tryz.prog Tryz.f4 (OpenSpec.ofChange Rows.coursesEndAtTotalSpec) false w args)
  (Rows.coursesEndAtTotalSpec.post enc Tryz.prog Tryz.f4 false true false false) := by
 refine jiv (C := Tryz.checked) (X := fun w _ => laidMetH Tryz.prog Rows.coursesEndAtTotalRow.laid w) (fun _ _ _ hh h => h.of_heap hh) js7 started (by kernel_rfl) Tryz.func4
  (ChangeSpec.witness_shaped (enc := enc) (C := Tryz.checked) (os := os) (X := fun w _ => laidMetH Tryz.prog Rows.coursesEndAtTotalRow.laid w) false (startW os) #[.slice none 0 0] 8 rfl (World.shaped_of_RefB (by kernel_rfl) (by kernel_rfl)) (by kernel_rfl) (by kernel_rfl) (by kernel_rfl) (met os _)) ?_
 intro W base args ds gs before hval0 hW hL hsh
 have hval : ∀ (j : Nat) t v, Tryz.f4.params[j]? = some t → args[j]? = some v → Value.okWide Tryz.prog W .any base t v := hval0
 have hW' := hW
 obtain ⟨p, q, hA0, hV, rfl, hfz, hnd⟩ := hW
 have hA : DataW.TrodAll enc Tryz.prog W 0 (fun _ => true) true Tryz.f4.params.toList args.toList ds p := hA0
 rw [Tryz.params4] at hA hval
 obtain ⟨v0, vs0, d0, ds0, p0, q0, hargs, rfl, rfl, h0, r0⟩ := trodAll_cons hA
 obtain ⟨rfl, rfl, rfl⟩ := trodAll_nil r0
 obtain rfl : args = #[v0] := by cases args; simp_all
 obtain ⟨rfl, rfl⟩ := trodVars_none hV
 obtain ⟨a0, len0, cap0, rfl⟩ := okWide_slice Tryz.underlying22 (hval 0 22 v0 rfl rfl)
 have k0 := h0
 have lt0 : ∀ x ∈ p0, x.block < W.heap.size := by obtain ⟨m, hm⟩ := k0; exact DataW.trod_lt m _ _ _ hm
 obtain ⟨z0, w0⟩ : ∃ zs, jqa .i64 W a0 len0 cap0 zs := by
  obtain ⟨fuel, hf⟩ := h0
  rcases open_ints Tryz.underlying22 Tryz.underlying3 (by kernel_rfl) hf with ⟨hcs, _⟩ | ⟨x, l, c, zs, hcs, _, hl, hm, hz, _, hcell, hwz⟩
  ·simp [Value.cells] at hcs
   obtain ⟨rfl, rfl, rfl⟩ := hcs
   exact ⟨[], .inl ⟨rfl, rfl, rfl, rfl⟩⟩
  simp [Value.cells] at hcs
  obtain ⟨rfl, rfl, rfl⟩ := hcs
  exact ⟨zs, .inr ⟨_, rfl, hl, hm, by simpa using hz, hcell, hwz⟩⟩
 clear hA0 hval0
 refine (jm9 a0 len0 cap0 z0 W w0 (gl hL hsh) (p10 hL)).mono fun e W' ⟨he, bel⟩ => ?_
 subst he
 exact ⟨_, rfl, _, _, _, [], _, [], hW', trodAll_mk1 (shut_bool Tryz.underlying4 _), (trodAll_cons_mk (Below.trod jjj (by kernel_rfl) (of_decide_eq_true (by kernel_rfl)) k0 bel lt0) trodAll_mk0), rfl, bel.frame _, fun h => by cases h⟩
end Go.Proofs.YtbamhgaghngjiaaGreatDoor.coursesEndAtTotal
