/- What the cards of this seat qf: a world that meets the rows' condition on package-level variables; what that condition gives the walks. No condition. -/
import Derived.Test.YtbamhgaghngjiaaGreatDoorCoaf
import Derived.Test.YtbamhgaghngjiaaGreatDoorCards
import Derived.Test.YtbamhgaghngjiaaGreatDoorTie
import Derived.LaidMore
import Derived.Stop.Joined
import Derived.Stop.LaidErr
import Derived.HandedShaped
import Derived.Shelf.Vars
import Derived.PinnedBridge
import Derived.SevenTiedAt
namespace Go.Proofs.YtbamhgaghngjiaaGreatDoor
open Go.ChangeShapes Go.WideShapes Go.ChangeAt Go.RowKit
set_option linter.unusedVariables false

theorem js7 : ownKnob Tryz.prog.godebug = none := by kernel_rfl
theorem jjj : laidOutB Tryz.prog = true := by kernel_rfl
theorem jiv {H : Type} {enc : TypeId × Value → H} {a : Assume} {C : Checked} {os : Os} {f : FuncId} {fn : Func} {s : ChangeSpec} {conds : List PathCond} {apart fresh handsOn again : Bool} {X : World → Array Value → Prop}
 (hX : ∀ (w w' : World) (args : Array Value), w.heap = w'.heap → X w args → X w' args)
 (own : ownKnob C.prog.godebug = none) (started : os.Started) (noInit : C.prog.inits.idxOf? f = none) (hfn : C.prog.funcs[f]? = some fn)
 (witness : ∃ (w : World) (tape : Tape) (i : Input), w.os = os ∧ (w.forCall tape i).Shaped C.prog ∧ i.vars = [] ∧ Input.okWide C.prog (w.forCall tape i) .any w.heap.size f i ∧
  ((s.pre enc C.prog fn conds apart (w.forCall tape i).memory i.args ∧ X (w.forCall tape i).memory i.args) ∧ sizedMet enc C.prog fn (OpenSpec.ofChange s) apart (w.forCall tape i).memory i.args) ∧ a.holds C.prog (lone (Frame.enter C.prog f i.args .normal) [] (w.forCall tape i)))
 (contract : ∀ (W : World) (base : Nat) (args : Array Value) (ds gs : List (DataW H)) (before : List MemPlace),
  (∀ (j : Nat) t v, fn.params[j]? = some t → args[j]? = some v → Value.okWide C.prog W .any base t v) →
  DataW.Whole enc C.prog fn.params.toList s.vars apart W args.toList ds gs before → X W args → W.ShapedOpen C.prog →
  Calls C.prog f args W fun e W' => ∃ v, e = .returned v ∧ s.post enc C.prog fn apart fresh handsOn again W args v W') :
 ReturnsInHanded a C os f .any (fun w args => (s.pre enc C.prog fn conds apart w args ∧ X w args) ∧ sizedMet enc C.prog fn (OpenSpec.ofChange s) apart w args) (s.post enc C.prog fn apart fresh handsOn again) := by
 refine returnsInHanded_of_calls own started noInit witness ?_
 intro w tape i _ hsh _ hok hpre hholds
 obtain ⟨_, _, _, fn', hfn', _, _, _, _, hval⟩ := hok
 have e : fn' = fn := Option.some.inj (hfn'.symm.trans hfn)
 subst e
 obtain ⟨⟨⟨ds, gs, before, hw, hc⟩, hx⟩, hz⟩ := hpre
 have hw' := DataW.Whole.of_heap (w' := w.forCall tape i) (by rfl) hw
 refine (contract (w.forCall tape i) w.heap.size i.args ds gs before hval hw' (hX _ _ _ (by rfl) hx) hsh).mono fun e W' ⟨v, he, hp⟩ => ?_
 subst he
 exact ChangeSpec.post_blind hp
theorem jew {P : Program} {w : World} {l : List (String × DataW Unit)} (fuel M : Nat) (h : (DataW.laidRun P w fuel (l.map (·.1))).map (·.1) = some l)
 (hn : (DataW.laidRun P w fuel (l.map (·.1))).map (fun x => nodupBits M x.2 0) = some true)
 (hr : (DataW.laidRun P w fuel (l.map (·.1))).map (fun x => laidRowsB P w x.2) = some true) : laidMet P l w := by
 cases hx : DataW.laidRun P w fuel (l.map (·.1)) with
 | none => simp [hx] at h
 | some x =>
   obtain ⟨l', ps⟩ := x
   simp only [hx, Option.map_some, Option.some.injEq] at h hr hn
   subst h
   exact laidMet_of_run fuel hx (decide_eq_true (nodupBits_sound hn).1) hr
def jvg : DataW Unit → Array Value
 | .agg ds => (ds.map fun d => match d with | .lit (.int k n) => Value.int k n | _ => .bool false).toArray
 | _ => #[]
noncomputable def startW (os : Os) : World :=
 let w0 := World.doorLaid Tryz.prog 200 os
 { w0 with heap := w0.heap.modify 1 fun
  | .cells _ t fr => .cells (jvg Go.Pinned.utf8First) t fr
  | o => o }
theorem jty {W : World} (h : W.ShapedOpen Tryz.prog) : ∃ m, W.cell? ⟨0, 0, none⟩ = some (.int .i64 m) :=
 cell_of_shapedOpen_int (t := 3) (zero := #[.int .i64 0]) h (of_decide_eq_true (by kernel_rfl)) (by kernel_rfl) (by kernel_rfl) (by kernel_rfl) (by kernel_rfl) Tryz.underlying3
theorem jvf : (Rows.laid_strings_asciiSpace : DataW Unit) = Lib.tabData .u8 Lib.asciiSpaceTab := by kernel_rfl
theorem jsd {W : World} {rest : List (String × DataW Unit)} (h : laidMet Tryz.prog (("strings.asciiSpace", Rows.laid_strings_asciiSpace) :: rest) W) : Lib.TabIs Tryz.prog W "strings.asciiSpace" .u8 Lib.asciiSpaceTab := by
 rw [jvf] at h
 exact Lib.tabIs_of_head (g := 3) (t := 263) (e := 5) (n := 256) (by kernel_rfl) (by kernel_rfl) Tryz.underlying263 Tryz.underlying5 (by kernel_rfl) (by kernel_rfl) h
theorem jrh {W : World} (h1 : ∃ m, W.cell? ⟨0, 0, none⟩ = some (.int .i64 m)) (h2 : Lib.TabIs Tryz.prog W "strings.asciiSpace" .u8 Lib.asciiSpaceTab) : Gl W.heap.size W := by
 obtain ⟨m, hm⟩ := h1
 have hc := h2.cell (g := 3) (by kernel_rfl) 0 (by rw [Lib.asciiSpaceTab_length]; decide)
 exact ⟨⟨m, hm⟩, h2, World.block_lt_of_cell? W _ hm, World.block_lt_of_cell? W _ hc, Nat.le_refl _⟩
end Go.Proofs.YtbamhgaghngjiaaGreatDoor
