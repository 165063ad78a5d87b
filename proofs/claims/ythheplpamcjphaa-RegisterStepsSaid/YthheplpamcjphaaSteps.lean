/- RegisterSteps: the step of any operation in any state is the document's; so is whether operations are idle. -/
import Derived.Test.YthheplpamcjphaaAwake
import Derived.StillTailTactics
namespace Go.Proofs.Ythheplpamcjphaa
open Go.RowKit Go.Um
set_option maxHeartbeats 1000000

theorem steps_law (s f o k a b : Int) (w : World) : Calls Try.prog 5 #[.int .u16 s, .agg #[.int .u8 f, .int .u8 o, .int .u8 k, .int .u16 a, .int .u16 b]] w fun e w' => e = .returned (.bool true) ∧ Below w.heap.size w w' := by
  have heq := eql35
  go_enter Try.func5, Try.ntmps5
  go_wp2_with fail
  refine (Step_any s f o k a b _).mono ?_
  rintro e w1 ⟨rfl, hb1⟩
  have g0 := kc hb1 w.heap.size 0 (.int .u8 f) (by simp [go_sem])
  have g1 := kc hb1 w.heap.size 1 (.int .u8 o) (by simp [go_sem])
  have g2 := kc hb1 w.heap.size 2 (.int .u8 k) (by simp [go_sem])
  have g3 := kc hb1 w.heap.size 3 (.int .u16 a) (by simp [go_sem])
  have g4 := kc hb1 w.heap.size 4 (.int .u16 b) (by simp [go_sem])
  have hz : w.heap.size < w1.heap.size := by have := hb1.size; simp at this; omega
  go_wp2_with fail
  refine (ref_any s f o k a b _).mono ?_
  rintro e w2 ⟨rfl, hb2⟩
  have r0 := kc hb2 w1.heap.size 0 (.int .u8 (stp s f a b).2.1) (by simp [go_sem])
  have r1 := kc hb2 w1.heap.size 1 (.int .u16 (stp s f a b).2.2.1) (by simp [go_sem])
  have q0 := kc hb2 w.heap.size 0 (.int .u8 f) (by simp [go_sem, hz, g0])
  have hz2 : w1.heap.size < w2.heap.size := by have := hb2.size; simp at this; omega
  have hz1 : w.heap.size < w2.heap.size := by omega
  go_wp2_with fail
  refine wp_region_still_tail 23 (by kernel_rfl) (by kernel_rfl) ?_
  change wpStill _ _ (World.drew (w2.alloc _)) (fun a' => wpList _ _ _ _ a' (World.drew (w2.alloc _))) _ _
  simp only [List.take_succ_cons, List.take_zero, List.drop_succ_cons, List.drop_zero]
  repeat still_step
  still_call ((idle_any f _).mono (by rintro e w' ⟨rfl, rfl⟩; exact ⟨rfl, rfl⟩))
  repeat still_step
  refine wpStill_nil ?_
  go_wp2_with fail
  refine (awake_any _).mono ?_
  rintro e w3 ⟨rfl, hb3⟩
  go_wp2
  go_ret
  exact ⟨rfl, bt ((ba (bt (ba (bt (ba (bz w) _) hb1) _) hb2) _).drew) hb3⟩
end Go.Proofs.Ythheplpamcjphaa
