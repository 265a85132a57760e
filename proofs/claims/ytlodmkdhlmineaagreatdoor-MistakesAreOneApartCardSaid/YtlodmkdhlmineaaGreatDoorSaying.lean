/- The walk over the stream's Saying: a short string of ASCII. Condition: the stream has handed out at most 10^8 numbers. -/
import Derived.Test.YtlodmkdhlmineaaGreatDoorCodeJ
import Derived.Test.YtlodmkdhlmineaaGreatDoorChanged
import Derived.Test.YtlodmkdhlmineaaGreatDoorStreamA
namespace Go.Proofs.YtlodmkdhlmineaaGreatDoor
open Go.RowKit
set_option linter.unusedVariables false
set_option linter.unusedSimpArgs false

def say14 : List ByteArray := [⟨#[101]⟩, ⟨#[116]⟩, ⟨#[97]⟩, ⟨#[110]⟩, ⟨#[107]⟩, ⟨#[112]⟩, ⟨#[53]⟩, ⟨#[48]⟩, ⟨#[47]⟩, ⟨#[63]⟩, ⟨#[61]⟩, ⟨#[43]⟩, ⟨#[113]⟩, ⟨#[122]⟩]
theorem say14_ok : ∀ t ∈ say14, t.size = 1 ∧ ∀ c ∈ t.data.toList, c.toNat < 128 := by decide +kernel
theorem isp_all {P : UInt8 → Prop} {g : List UInt8} (hg : ∀ c ∈ g, P c) {l : List (List UInt8)} (hl : ∀ p ∈ l, ∀ c ∈ p, P c) : ∀ c ∈ isp g l, P c := by
  intro c hc
  rcases isp_mem hc with h | ⟨y, hy, h⟩
  · exact hg c h
  · exact hl y hy c h
theorem isp_len_le (g : List UInt8) (n : Nat) : ∀ l : List (List UInt8), (∀ p ∈ l, p.length ≤ n) → (isp g l).length ≤ l.length * (n + g.length) := by
  have key : ∀ r : List (List UInt8), (∀ p ∈ r, p.length ≤ n) → (r.flatMap fun y => g ++ y).length ≤ r.length * (n + g.length) := by
    intro r
    induction r with
    | nil => simp
    | cons y r ih =>
      intro h
      have h1 := h y (by simp)
      have h2 := ih (fun p hp => h p (by simp [hp]))
      simp only [List.flatMap_cons, List.length_append, List.length_cons, Nat.succ_mul] at *
      omega
  intro l h
  cases l with
  | nil => simp [isp]
  | cons x r =>
    have h1 := h x (by simp)
    have h2 := key r (fun p hp => h p (by simp [hp]))
    simp only [isp, List.length_append, List.length_cons, Nat.succ_mul] at *
    omega
def SayPost (b k : Nat) (w : World) (e : Ending) (w' : World) : Prop :=
  ∃ u : ByteArray, e = .returned (.string u) ∧ u.size ≤ 40 ∧ Ascii u ∧ Str w' b (k + 100) ∧ w.grownBy w' (some b)
end Go.Proofs.YtlodmkdhlmineaaGreatDoor
