/- Both Gaps are one place; no program in sight. Printed from Gq.tmpl. -/
import Derived.Test.YtfjccgihdnemkaaGp
import Derived.Test.YtfjccgihdnemkaaRg
namespace Go.Proofs.Ytfjccgihdnemkaa
open Go.RowKit Go.Um
theorem gap_uniq {f : Int → Bool} {m g g' : Int} (h1 : m ≤ g) (h2 : f g = false) (h3 : ∀ j, m ≤ j → j < g → f j = true) (k1 : m ≤ g') (k2 : f g' = false) (k3 : ∀ j, m ≤ j → j < g' → f j = true) : g = g' := by
  by_cases a : g < g'
  · have := k3 g h1 a
    rw [h2] at this
    cases this
  · by_cases b : g' < g
    · have := h3 g' k1 b
      rw [k2] at this
      cases this
    · omega
end Go.Proofs.Ytfjccgihdnemkaa
