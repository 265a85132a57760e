/- The walks over call.Is, call.Base; called. Condition: strings of ASCII. -/
import Derived.Test.YtffddmgnjecmdaaDoorCall
namespace Go.Proofs.YtffddmgnjecmdaaDoor
open Go.RowKit
set_option linter.unusedVariables false
set_option linter.unusedSimpArgs false

set_option maxRecDepth 100000 in
set_option maxHeartbeats 2000000 in
theorem isCall_any (s : ByteArray) (w : World) (hs : s.size ≤ 1000000000) (ha : Ascii s) :
    Calls Tryd.prog 14 #[.string s] w fun e w' => e = .returned (.bool (partsOf s).isSome) ∧ w.grownBy w' none := by
  go_enter Tryd.func14, Tryd.ntmps14
  go_wp2_with fail
  refine (parts_any s _ (by omega) ha).mono ?_
  rintro _ w1 ⟨hg, ⟨hn, rfl⟩ | ⟨t, k, kd, ad, hn, rfl⟩⟩
  · have HN := Lib.hid hn
    clear hn
    go_wp2_with fail
    go_ret
    exact ⟨by rw [HN.out]; rfl, gr_alloc hg _⟩
  · have HN := Lib.hid hn
    clear hn
    go_wp2_with fail
    go_ret
    exact ⟨by rw [HN.out]; rfl, gr_alloc hg _⟩
/-- What Base hands back. -/
def BasePost (s : ByteArray) (w : World) (e : Ending) (w' : World) : Prop :=
  w.grownBy w' none ∧ ((partsOf s = none ∧ e = .returned (.tuple #[.string ⟨#[]⟩, .int .i64 3])) ∨
  ∃ t k kd ad, partsOf s = some (t, k, kd, ad) ∧ e = .returned (.tuple #[.string t, .int .i64 0]))
set_option maxRecDepth 100000 in
set_option maxHeartbeats 2000000 in
theorem base_any (s : ByteArray) (w : World) (hs : s.size ≤ 1000000000) (ha : Ascii s) :
    Calls Tryd.prog 12 #[.string s] w (BasePost s w) := by
  go_enter Tryd.func12, Tryd.ntmps12
  go_wp2_with fail
  refine (apart_any s _ (by omega) ha).mono ?_
  rintro _ w1 ⟨hg, ⟨hn, rfl⟩ | ⟨t, k, kd, ad, hn, rfl⟩⟩
  · have HN := Lib.hid hn
    clear hn
    go_wp2_with fail
    go_ret2
    exact ⟨gr_alloc hg _, .inl ⟨HN.out, rfl⟩⟩
  · have HN := Lib.hid hn
    clear hn
    go_wp2_with fail
    go_ret2
    exact ⟨gr_alloc hg _, .inr ⟨t, k, kd, ad, HN.out, rfl⟩⟩
theorem apart_oh2 (w : World) : Calls Tryd.prog 11 #[.string ⟨#[111, 104, 50, 97, 98, 99, 47, 52]⟩] w fun e w' =>
    e = .returned (.tuple #[.agg #[.string ⟨#[111, 104, 50, 97, 98, 99]⟩, .string ⟨#[111, 104, 50]⟩, .string ⟨#[97, 98, 99]⟩, .int .i64 2, .string ⟨#[52]⟩], .int .i64 0]) ∧ w.grownBy w' none := by
  refine (apart_any _ w (by decide) ?_).mono ?_
  · intro j b h
    have hm := List.mem_of_getElem? h
    have hall : ∀ b ∈ (⟨#[111, 104, 50, 97, 98, 99, 47, 52]⟩ : ByteArray).data.toList, b.toNat < 128 := by decide +kernel
    exact hall b hm
  · rintro e w' ⟨hg, h⟩
    refine ⟨?_, hg⟩
    rcases h with ⟨h, _⟩ | ⟨t, k, kd, ad, h, rfl⟩
    · rw [partsOf_ready] at h; cases h
    · rw [partsOf_ready] at h
      simp only [Option.some.injEq, Prod.mk.injEq] at h
      obtain ⟨rfl, rfl, rfl, rfl⟩ := h
      rfl
set_option maxRecDepth 100000 in
set_option maxHeartbeats 2000000 in
theorem called_any (w : World) :
    Calls Tryd.prog 15 #[] w fun e w' => e = .returned (.bool true) ∧ w.grownBy w' none := by
  go_enter Tryd.func15, Tryd.ntmps15
  go_wp2_with fail
  refine (apart_oh2 _).mono ?_
  rintro _ w1 ⟨rfl, hg⟩
  go_wp2_with fail
  go_ret
  exact ⟨rfl, gr_alloc hg _⟩
theorem when_any (b : Bool) (n : Int) (w : World) :
    Calls Tryd.prog 13 #[.bool b, .int .i64 n] w fun e w' => e = .returned (.int .i64 (if b then n else 0)) ∧ w = w' := by
  cases b
  · go_enter Tryd.func13, Tryd.ntmps13
    go_wp2_with fail
    go_ret
    exact ⟨rfl, rfl⟩
  · go_enter Tryd.func13, Tryd.ntmps13
    go_wp2_with fail
    go_ret
    exact ⟨rfl, rfl⟩
end Go.Proofs.YtffddmgnjecmdaaDoor
