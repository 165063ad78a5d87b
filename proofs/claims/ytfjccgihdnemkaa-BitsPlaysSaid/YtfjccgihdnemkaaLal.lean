/- A set's rising list is its numbers. -/
import Derived.Test.YtfjccgihdnemkaaRp
namespace Go.Proofs.Ytfjccgihdnemkaa
open Go.RowKit Go.Um
set_option linter.unusedSimpArgs false
set_option linter.unusedVariables false
theorem pw_eq : ∀ {a b : List Nat}, a.Pairwise (· < ·) → b.Pairwise (· < ·) → (∀ x, x ∈ a ↔ x ∈ b) → a = b
  | [], [], _, _, _ => rfl
  | [], y :: b, _, _, h => by have := (h y).2 (by simp); simp at this
  | x :: a, [], _, _, h => by have := (h x).1 (by simp); simp at this
  | x :: a, y :: b, ha, hb, h => by
    rw [List.pairwise_cons] at ha hb
    have hxy : x = y := by
      have h1 := (h x).1 (by simp)
      have h2 := (h y).2 (by simp)
      rcases List.mem_cons.1 h1 with e | e
      · exact e
      · rcases List.mem_cons.1 h2 with e2 | e2
        · exact e2.symm
        · have := hb.1 x e
          have := ha.1 y e2
          omega
    subst hxy
    rw [pw_eq ha.2 hb.2 fun z => ?_]
    constructor
    · intro hz
      have h1 := (h z).1 (List.mem_cons_of_mem _ hz)
      rcases List.mem_cons.1 h1 with e | e
      · subst e; exact absurd (ha.1 z hz) (Nat.lt_irrefl z)
      · exact e
    · intro hz
      have h1 := (h z).2 (List.mem_cons_of_mem _ hz)
      rcases List.mem_cons.1 h1 with e | e
      · subst e; exact absurd (hb.1 z hz) (Nat.lt_irrefl z)
      · exact e
theorem lis_all {L : List Nat} {N : Nat} (h : LisN L N) : L = allN N := by
  refine pw_eq h.up ?_ fun x => ?_
  · unfold allN upto
    exact List.pairwise_lt_range.filter _
  · unfold allN upto
    rw [List.mem_filter, List.mem_range, h.bit, decide_eq_true_eq]
    constructor
    · intro hx
      exact ⟨by have := h.bd x hx; omega, hx⟩
    · exact fun hx => hx.2
end Go.Proofs.Ytfjccgihdnemkaa
