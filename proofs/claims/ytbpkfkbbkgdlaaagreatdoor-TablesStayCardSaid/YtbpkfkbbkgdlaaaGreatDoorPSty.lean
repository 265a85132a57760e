/- The law TablesStay answers true for every slice of ints and leaves its argument as it was. Condition: package-level variables of the library hold what its text lays in them (the card ties that to the text). -/
import Derived.Test.YtbpkfkbbkgdlaaaGreatDoorPStyao
import Derived.WalkKit
import Derived.ProofKit
import Derived.OpenShut
import Derived.ShutString
import Derived.ChangeOld
import Derived.Below
namespace Go.Proofs.YtbpkfkbbkgdlaaaGreatDoor.tablesStay
open Go.ChangeShapes Go.WideShapes Go.ChangeAt Go.RowKit
open Go.ChangeMaps (open_string shut_string)
set_option linter.unusedVariables false

theorem walk (a0 : Option Addr) (len0 cap0 : Nat) (z0 : List Int) (w : World) (w0 : IsRow .i64 w a0 len0 cap0 z0) (hgl : Gl w.heap.size w) :
 Calls Tryz.prog 5 #[.slice a0 len0 cap0] w fun e w' => e = .returned (.bool true) ∧ Below w.heap.size w w' :=
 staysLaw a0 len0 cap0 w (InX.of_row w0) hgl
theorem gl {W : World} (h : laidMetH Tryz.prog Rows.tablesStayRow.laid W) (hs : W.ShapedOpen Tryz.prog) : Gl W.heap.size W := by
 rw [MakeChecks.laidMetH_plain _ _ _ (by kernel_rfl)] at h
 exact gl_start (maxCell hs) (spaceTab (laidMet.tail (laidMet.tail h)))
set_option maxRecDepth 100000 in
theorem met1 (os : Os) (args : Array Value) : (DataW.laidRun Tryz.prog ((startW os).forCall (fun _ _ => 0) ⟨#[], args, []⟩).memory 8 ((Rows.tablesStayRow.laid.filter fun x => x.2.handleName?.isNone).map (·.1))).map (·.1) = some (Rows.tablesStayRow.laid.filter fun x => x.2.handleName?.isNone) := by kernel_rfl
set_option maxRecDepth 100000 in
theorem met2 (os : Os) (args : Array Value) : (DataW.laidRun Tryz.prog ((startW os).forCall (fun _ _ => 0) ⟨#[], args, []⟩).memory 8 ((Rows.tablesStayRow.laid.filter fun x => x.2.handleName?.isNone).map (·.1))).map (fun x => nodupBits 257 x.2 0) = some true := by kernel_rfl
set_option maxRecDepth 100000 in
theorem met3 (os : Os) (args : Array Value) : (DataW.laidRun Tryz.prog ((startW os).forCall (fun _ _ => 0) ⟨#[], args, []⟩).memory 8 ((Rows.tablesStayRow.laid.filter fun x => x.2.handleName?.isNone).map (·.1))).map (fun x => laidRowsB Tryz.prog ((startW os).forCall (fun _ _ => 0) ⟨#[], args, []⟩).memory x.2) = some true := by kernel_rfl
set_option maxRecDepth 100000 in
theorem met (os : Os) (args : Array Value) : laidMetH Tryz.prog Rows.tablesStayRow.laid ((startW os).forCall (fun _ _ => 0) ⟨#[], args, []⟩).memory :=
 laidMetH_of_parts3 (fuel := 8) (laidMet_of_bits 8 257 (met1 os args) (met2 os args) (met3 os args)) (by kernel_rfl) (by kernel_rfl)
set_option maxRecDepth 100000 in
theorem lifted (os : Os) (started : os.Started) (H : Type) (enc : TypeId × Value → H) :
 ReturnsInHanded {} Tryz.checked os 5 .any (fun w args => (Rows.tablesStaySpec.pre enc Tryz.prog Tryz.f5 Rows.tablesStayRow.domain false w args ∧ laidMetH Tryz.prog Rows.tablesStayRow.laid w) ∧ sizedMet enc Tryz.prog Tryz.f5 (OpenSpec.ofChange Rows.tablesStaySpec) false w args)
  (Rows.tablesStaySpec.post enc Tryz.prog Tryz.f5 false true false false) := by
 refine returns_both (C := Tryz.checked) (X := fun w _ => laidMetH Tryz.prog Rows.tablesStayRow.laid w) (fun _ _ _ hh h => h.of_heap hh) cardOwn started (by kernel_rfl) Tryz.func5
  (ChangeSpec.witness_shaped (enc := enc) (C := Tryz.checked) (os := os) (X := fun w _ => laidMetH Tryz.prog Rows.tablesStayRow.laid w) false (startW os) #[.slice none 0 0] 8 rfl (World.shaped_of_RefB (by kernel_rfl) (by kernel_rfl)) (by kernel_rfl) (by kernel_rfl) (by kernel_rfl) (met os _)) ?_
 intro W base args ds gs before hval0 hW hL hsh
 have hval : ∀ (j : Nat) t v, Tryz.f5.params[j]? = some t → args[j]? = some v → Value.okWide Tryz.prog W .any base t v := hval0
 have hW' := hW
 obtain ⟨p, q, hA0, hV, rfl, hfz, hnd⟩ := hW
 have hA : DataW.TrodAll enc Tryz.prog W 0 (fun _ => true) true Tryz.f5.params.toList args.toList ds p := hA0
 rw [Tryz.params5] at hA hval
 obtain ⟨v0, vs0, d0, ds0, p0, q0, hargs, rfl, rfl, h0, r0⟩ := trodAll_cons hA
 obtain ⟨rfl, rfl, rfl⟩ := trodAll_nil r0
 obtain rfl : args = #[v0] := by cases args; simp_all
 obtain ⟨rfl, rfl⟩ := trodVars_none hV
 obtain ⟨a0, len0, cap0, rfl⟩ := okWide_slice Tryz.underlying22 (hval 0 22 v0 rfl rfl)
 have k0 := h0
 have lt0 : ∀ x ∈ p0, x.block < W.heap.size := by obtain ⟨m, hm⟩ := k0; exact DataW.trod_lt m _ _ _ hm
 obtain ⟨z0, w0⟩ : ∃ zs, IsRow .i64 W a0 len0 cap0 zs := by
  obtain ⟨fuel, hf⟩ := h0
  rcases open_ints Tryz.underlying22 Tryz.underlying3 (by kernel_rfl) hf with ⟨hcs, _⟩ | ⟨x, l, c, zs, hcs, _, hl, hm, hz, _, hcell, hwz⟩
  ·simp [Value.cells] at hcs
   obtain ⟨rfl, rfl, rfl⟩ := hcs
   exact ⟨[], .inl ⟨rfl, rfl, rfl, rfl⟩⟩
  ·simp [Value.cells] at hcs
   obtain ⟨rfl, rfl, rfl⟩ := hcs
   exact ⟨zs, .inr ⟨_, rfl, hl, hm, by simpa using hz, hcell, hwz⟩⟩
 clear hA0 hval0
 refine (walk a0 len0 cap0 z0 W w0 (gl hL hsh)).mono fun e W' ⟨he, bel⟩ => ?_
 subst he
 exact ⟨_, rfl, _, _, _, [], _, [], hW', trodAll_mk1 (shut_bool Tryz.underlying4 _), (trodAll_cons_mk (Below.trod cardLaidOut (by kernel_rfl) (of_decide_eq_true (by kernel_rfl)) k0 bel lt0) trodAll_mk0), rfl, bel.frame _, fun h => by cases h⟩
theorem over : Rows.tablesStayRow.holds Tryz.pinned (OpenSpec.ofChange Rows.tablesStaySpec) :=
 OpenClaim.holds_of_wide 5 Tryz.f5 rfl rfl rfl rfl rfl rfl rfl ⟨rfl, rfl, rfl, rfl, rfl⟩ rfl rfl rfl rfl rfl (by kernel_rfl) Tryz.func5 (by kernel_rfl)
  (of_decide_eq_true (by kernel_rfl)) (by unfold Func.isWrapper; first | (rw [if_pos (by decide +kernel)]; kernel_rfl) | (rw [if_neg (by decide +kernel)]; exact ⟨rfl, rfl⟩))
  (fun os started H enc _ => lifted os started H enc)
theorem proved : Rows.TablesStayCardSaid :=
 Claim7.holds_tied_plain_at .later [] [.data, .listed, .data, .pinned] true (true, "35243245691c64b9e93f93eacec0e50f625e7a801e117e04819be6cbd86b8e1a") true
  over (fun _ h => by cases h) (by kernel_rfl) (fun _ h => by cases h) tablesStay_row_tie rfl ⟨rfl, rfl⟩ (by kernel_rfl) rfl
  (fun f fn hf hfn => by
   obtain rfl : f = 5 := Option.some.inj ((show Tryz.prog.funcNamed "pileup/pilekeep1.TablesStay" = some 5 by kernel_rfl).symm.trans hf) |>.symm
   obtain rfl : fn = Tryz.f5 := (Option.some.inj (Tryz.func5.symm.trans hfn)).symm
   exact ⟨by kernel_rfl, fun j t ht => by
    rw [Tryz.params5] at ht
    have hm : t ∈ [22] := by simpa using Array.mem_of_getElem? ht
    have hall : ([22].all fun u => !Tryz.prog.wantsStandIn u) = true := by kernel_rfl
    exact (show Tryz.prog.wantsStandIn t = false by simpa using List.all_eq_true.1 hall t hm)⟩)
  (by kernel_rfl)
#print axioms proved
end Go.Proofs.YtbpkfkbbkgdlaaaGreatDoor.tablesStay
