/- place.Distance, place.Wind and place.Way at any sites: one contract each. No condition. -/
import Derived.Test.YtnapbnkbchaanaaPlacesE
namespace Go.Proofs.Ytnapbnkbchaanaa
open Go.RowKit
set_option linter.unusedVariables false

theorem bothE_ok {n e n2 e2 : Int} (h : bothE n e n2 e2 = 0) : siteE n e = 0 ∧ siteE n2 e2 = 0 := by
  rcases bothE_01 n e n2 e2 with ⟨_, h1, h2⟩ | h'
  · exact ⟨h1, h2⟩
  · omega
theorem distance_all (n e n2 e2 : Int) (w : World) :
    Calls Try.prog 16 #[.agg #[.int .i64 n, .int .i64 e], .agg #[.int .i64 n2, .int .i64 e2]] w fun r w' => r = .returned (.tuple #[.int .i64 (okI (bothE n e n2 e2) (distI n e n2 e2)), .int .i64 (bothE n e n2 e2)]) ∧ w.grownBy w' none := by
  rcases bothE_01 n e n2 e2 with ⟨h0, h1, h2⟩ | h'
  · rw [h0]; exact distance_ok n e n2 e2 w h1 h2
  · rw [h']; exact distance_bad n e n2 e2 w h'
theorem wind_all (n e n2 e2 : Int) (w : World) :
    Calls Try.prog 17 #[.agg #[.int .i64 n, .int .i64 e], .agg #[.int .i64 n2, .int .i64 e2]] w fun r w' => r = .returned (.tuple #[.int .i64 (okI (bothE n e n2 e2) (windV (northI n n2) (eastI n e n2 e2))), .int .i64 (if bothE n e n2 e2 = 0 then windErr (northI n n2) (eastI n e n2 e2) else 1)]) ∧ w.grownBy w' none := by
  rcases bothE_01 n e n2 e2 with ⟨h0, h1, h2⟩ | h'
  · rw [h0]; exact wind_ok n e n2 e2 w h1 h2
  · rw [h']; exact wind_bad n e n2 e2 w h'

def orP (t e : Int) : Int := if t = 0 then e else t
def wayX (n e n2 e2 p : Int) : List (Int × Int) := if orP (bothE n e n2 e2) (spanE p 1 1000) = 0 then wayL n e n2 e2 p else []
theorem way_all (n e n2 e2 p : Int) (w : World) :
    Calls Try.prog 18 #[.agg #[.int .i64 n, .int .i64 e], .agg #[.int .i64 n2, .int .i64 e2], .int .i64 p] w fun r w' =>
      ∃ u, r = .returned (.tuple #[u, .int .i64 (orP (bothE n e n2 e2) (spanE p 1 1000))]) ∧ Sites (w.heap.size + 1) w' u (wayX n e n2 e2 p) ∧ w.grownBy w' none := by
  rcases bothE_01 n e n2 e2 with ⟨h0, h1, h2⟩ | h'
  · rcases spanE_cases p 1 1000 with ⟨hs, p0, p1⟩ | ⟨hs, p0⟩
    · have hE : orP (bothE n e n2 e2) (spanE p 1 1000) = 0 := by rw [h0, hs]; rfl
      unfold wayX
      rw [hE, if_pos rfl]
      exact way_ok n e n2 e2 p w h1 h2 p0 p1
    · have hE : orP (bothE n e n2 e2) (spanE p 1 1000) = 1 := by rw [h0, hs]; rfl
      unfold wayX
      rw [hE, if_neg (by decide)]
      exact (way_span n e n2 e2 p w h0 (outB_yes p0)).mono fun r w' ⟨hr, hg⟩ => ⟨_, hr, Sites.nil _ _, hg⟩
  · have hE : orP (bothE n e n2 e2) (spanE p 1 1000) = 1 := by rw [h']; rfl
    unfold wayX
    rw [hE, if_neg (by decide)]
    exact (way_bad n e n2 e2 p w h').mono fun r w' ⟨hr, hg⟩ => ⟨_, hr, Sites.nil _ _, hg⟩
end Go.Proofs.Ytnapbnkbchaanaa
