/- Orders: Copy; Pairs' iterator over a list. -/
import Derived.Test.YtggbcailaeebfaaPlaces
namespace Go.Proofs.Ytggbcailaeebfaa
open Go.RowKit Go.Um Go.Shelf
attribute [local go_sem] Oper.semAt_some
set_option linter.unusedSimpArgs false
set_option linter.unusedVariables false
set_option maxHeartbeats 4000000
set_option maxRecDepth 100000
/-- a copy has the same lists, in the same places -/
theorem copy_any (S : Nat → Prop) (p : Nat) (L : Nat → List Int) (w : World) (h : OrdAt S w p L) :
    Calls Try.prog 17 #[.pointer (some ⟨p, 0, none⟩)] w fun e w' => e = .returned (.pointer (some ⟨w.heap.size, 0, none⟩)) ∧ OrdAt S w' w.heap.size L ∧ Below w.heap.size w w' := by
  have hi := is_any S p L w h
  have HI := Lib.hid hi
  have HH := Lib.hid h
  have c0 := h.c0
  obtain ⟨a0, k0, b0, o0, r0, _⟩ := h.row 0 (by decide)
  obtain ⟨a1, k1, b1, o1, r1, _⟩ := h.row 1 (by decide)
  obtain ⟨a2, k2, b2, o2, r2, _⟩ := h.row 2 (by decide)
  obtain ⟨a3, k3, b3, o3, r3, _⟩ := h.row 3 (by decide)
  obtain ⟨a4, k4, b4, o4, r4, _⟩ := h.row 4 (by decide)
  obtain ⟨a5, k5, b5, o5, r5, _⟩ := h.row 5 (by decide)
  obtain ⟨a6, k6, b6, o6, r6, _⟩ := h.row 6 (by decide)
  obtain ⟨a7, k7, b7, o7, r7, _⟩ := h.row 7 (by decide)
  simp only [Nat.reduceAdd] at r0 r1 r2 r3 r4 r5 r6 r7
  obtain ⟨l0, h0⟩ : ∃ n, n = (L 0).length := ⟨_, rfl⟩
  obtain ⟨l1, h1⟩ : ∃ n, n = (L 1).length := ⟨_, rfl⟩
  obtain ⟨l2, h2⟩ : ∃ n, n = (L 2).length := ⟨_, rfl⟩
  obtain ⟨l3, h3⟩ : ∃ n, n = (L 3).length := ⟨_, rfl⟩
  obtain ⟨l4, h4⟩ : ∃ n, n = (L 4).length := ⟨_, rfl⟩
  obtain ⟨l5, h5⟩ : ∃ n, n = (L 5).length := ⟨_, rfl⟩
  obtain ⟨l6, h6⟩ : ∃ n, n = (L 6).length := ⟨_, rfl⟩
  obtain ⟨l7, h7⟩ : ∃ n, n = (L 7).length := ⟨_, rfl⟩
  rw [← h0] at r0
  rw [← h1] at r1
  rw [← h2] at r2
  rw [← h3] at r3
  rw [← h4] at r4
  rw [← h5] at r5
  rw [← h6] at r6
  rw [← h7] at r7
  have HR : Hid (∀ k, k < 8 → ∃ v, w.cell? ⟨p, 1 + k, none⟩ = some v ∧ (#[Value.bool true, .slice a0 l0 k0, .slice a1 l1 k1, .slice a2 l2 k2, .slice a3 l3 k3, .slice a4 l4 k4, .slice a5 l5 k5, .slice a6 l6 k6, .slice a7 l7 k7] : Array Value)[1 + k]? = some v) := Lib.hid (fun k hk => by
    rcases (by omega : k = 0 ∨ k = 1 ∨ k = 2 ∨ k = 3 ∨ k = 4 ∨ k = 5 ∨ k = 6 ∨ k = 7) with rfl | rfl | rfl | rfl | rfl | rfl | rfl | rfl
    · exact ⟨_, r0, rfl⟩
    · exact ⟨_, r1, rfl⟩
    · exact ⟨_, r2, rfl⟩
    · exact ⟨_, r3, rfl⟩
    · exact ⟨_, r4, rfl⟩
    · exact ⟨_, r5, rfl⟩
    · exact ⟨_, r6, rfl⟩
    · exact ⟨_, r7, rfl⟩)
  clear hi h h0 h1 h2 h3 h4 h5 h6 h7
  go_enter Try.func17, Try.ntmps17
  go_wp2_with fail
  refine HI.out.mono ?_
  rintro e w1 ⟨rfl, rfl⟩
  go_wp2
  go_ret
  refine ⟨rfl, ⟨by simp [go_sem], fun k hk => ?_⟩, ba (bz w) _⟩
  obtain ⟨ao, cap, b, o, g1, g2, g3, g4, g5⟩ := HH.out.row k hk
  obtain ⟨v, q1, q2⟩ := HR.out k hk
  rw [g1] at q1
  cases q1
  refine ⟨ao, cap, b, o, ?_, by simp [go_sem], g3.below (ba (bz w) _), fun hp => ⟨(g4 hp).1, Nat.ne_of_lt (g3.lt (by rw [us_len]; omega))⟩, g5⟩
  rw [World.cell?_alloc_new]
  exact q2
end Go.Proofs.Ytggbcailaeebfaa
