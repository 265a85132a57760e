/- What the laws that compare two streams share: the two streams laid, the numbers that came in told exactly, rows that stay beside a store; slices.Equal at two slices of strings that are equal. No condition. -/
import Derived.Test.YtcimnlcmpfagnaaGreatDoorStrX
import Derived.Test.YtcimnlcmpfagnaaGreatDoorStart
import Derived.Test.YtcimnlcmpfagnaaGreatDoorKeyB
namespace Go.Proofs.YtcimnlcmpfagnaaGreatDoor
open Go.RowKit
set_option linter.unusedVariables false

theorem InX.of_row {w : World} {a : Option Addr} {len cap : Nat} {zs : List Int} (h : IsRow .i64 w a len cap zs) : InX w a len := by
  rcases h with ⟨_, rfl, _, _⟩ | ⟨x, rfl, h1, h2, h3, h4, _⟩
  · exact ⟨by omega, [], rfl, fun h => absurd h (by omega)⟩
  · unfold maxLen at h2
    refine ⟨by omega, zs.take len, by simp; omega, fun hn => ⟨x, rfl, ?_, fun j hj => ?_⟩⟩
    · have := World.block_lt_of_cell? w _ (h4 0 (by omega))
      rwa [add_block] at this
    · rw [h4 j (by omega), List.getD_eq_getElem?_getD, List.getD_eq_getElem?_getD, List.getElem?_take_of_lt hj]
theorem own_far {w w' : World} {base : Nat} {e : TypeId} {s : Nat} {v : Value} {n : Nat} {xs : List Value} (h : w.ownsRow base e s v n xs) {row : Option Nat} (hg : w.grownBy w' row) (hr : ∀ g, row = some g → g < base) : w'.ownsRow base e s v n xs := by
  refine h.kept hg ?_
  cases hv : v.ownBlock with
  | none => exact .inl rfl
  | some g => exact .inr fun e => by have h1 := hr g e.symm; have h2 := (h.lt g hv).1; omega
theorem own_low {w w' : World} {base B : Nat} {e : TypeId} {s : Nat} {v : Value} {n : Nat} {xs : List Value} (h : w.ownsRow base e s v n xs) (hv : ∀ g, v.ownBlock = some g → g < B) {row : Option Nat} (hg : w.grownBy w' row) (hr : ∀ g, row = some g → B ≤ g) : w'.ownsRow base e s v n xs := by
  refine h.kept hg ?_
  cases hv' : v.ownBlock with
  | none => exact .inl rfl
  | some g => exact .inr fun e => by have h1 := hr g e.symm; have h2 := hv g hv'; omega
theorem two_streams (w : World) (A : Option Addr) (n c : Nat) : ∃ W, W = (w.alloc (.cells #[.slice A n c, .int .i64 0] 25)).alloc (.cells #[.slice A n c, .int .i64 0] 25) ∧ Blk W w.heap.size 25 #[.slice A n c, .int .i64 0] ∧ Blk W (w.heap.size + 1) 25 #[.slice A n c, .int .i64 0] ∧ W.heap.size = w.heap.size + 2 ∧ w.grownBy W none :=
  ⟨_, rfl, (Blk.new w _ _).alloc _, by simpa using Blk.new (w.alloc (.cells #[.slice A n c, .int .i64 0] 25)) 25 #[.slice A n c, .int .i64 0], by simp, gr_alloc (World.grownBy_alloc w _ none) _⟩

set_option maxHeartbeats 2000000 in
/-- slices.Equal at two slices of strings that are equal. -/
theorem equalStrs_same (b1 b2 : Nat) (u v : Value) (l : List ByteArray) (w : World) (hu : StrsFrom b1 w u l) (hv : StrsFrom b2 w v l) :
    Calls Tryz.prog 25 #[u, v] w fun r w' => r = .returned (.bool true) ∧ w.grownBy w' none := by
  obtain ⟨A, ca, rfl, ha, hA⟩ := hu.shape
  obtain ⟨B, cb, rfl, hb, hB⟩ := hv.shape
  have HU := Lib.hid hu
  have HV := Lib.hid hv
  have HA := Lib.hid hA
  have HB := Lib.hid hB
  clear hu hv hA hB
  go_enter Tryz.func25, Tryz.ntmps25
  go_wp2_with fail
  go_loopw [13] (fun i wr => ∃ k : Nat, k ≤ l.length ∧ i = .int .i64 k ∧ w.grownBy wr none) (fun i _ => l.length - (intOf i).toNat)
  case atStart => exact ⟨0, by omega, rfl, gr_refl _ _⟩
  case round =>
    obtain ⟨k, hk, rfl, hgr⟩ := hrel
    by_cases hlt : k < l.length
    · obtain ⟨ga, rfl, _, _⟩ := HA.out (by omega)
      obtain ⟨gb, rfl, _, _⟩ := HB.out (by omega)
      have a0 := (HU.out.grown hgr).at_ k hlt
      have b0 := (HV.out.grown hgr).at_ k hlt
      generalize l[k] = x at *
      have hkl : (k : Int) < (l.length : Int) := by omega
      go_wp2_with fail
      go_quiet (fail)
      go_wp2_with fail
      go_roundw
      case rel => exact ⟨k + 1, by omega, by go_num, by repeat (first | exact hgr | refine gr_drewN ?_ _ | refine gr_drew ?_)⟩
      case measure => simp [intOf]; omega
    · have hkl : ¬ ((k : Int) < l.length) := by omega
      go_wp2_with fail
      go_ret
      exact ⟨rfl, hgr⟩
end Go.Proofs.YtcimnlcmpfagnaaGreatDoor
