/- Some of the chapter's answers: awake is true. -/
import Derived.Test.YthheplpamcjphaaSame
namespace Go.Proofs.Ythheplpamcjphaa
open Go.RowKit Go.Um
set_option maxHeartbeats 1000000

def awOps : List Op5 := [⟨1, 0, 0, 0, 0⟩, ⟨2, 0, 0, 5, 0⟩, ⟨3, 0, 0, 5, 7⟩, ⟨3, 0, 0, 5, 8⟩, ⟨1, 0, 0, 0, 0⟩]

def AwPost (w : World) (e : Ending) (w' : World) : Prop := ∃ ao cap b o, e = .returned (.tuple #[.int .u16 7, .slice ao 5 cap, .int .i64 0]) ∧ SlAt w' 2 5 ([((1 : Int), (0 : Int)), (0, 0), (3, 0), (4, 0), (1, 7)].flatMap resC) ao cap b o ∧ Below w.heap.size w w'

theorem aw_run (w : World) (g : Nat) (h : SlAt w 5 5 (awOps.flatMap Op5.cells) (some ⟨g, 0, none⟩) 5 g 0) :
    Calls Try.prog 9 #[.int .u16 0, .slice (some ⟨g, 0, none⟩) 5 5] w (AwPost w) := by
  refine (run_any 0 awOps _ 5 g 0 w h (by decide)).mono ?_
  intro e w' hr
  obtain ⟨ao, cap, b, o, rfl, hsl, hb⟩ := hr.two
  have e1 : stopAt awOps = 5 := by decide
  have e2 : stN 0 awOps 5 = 7 := by decide
  have e3 : outN 0 awOps 5 = [((1 : Int), (0 : Int)), (0, 0), (3, 0), (4, 0), (1, 7)] := by decide
  rw [e1, e3] at hsl
  exact ⟨ao, cap, b, o, by rw [errAt, e1, e2]; rfl, hsl, hb⟩

theorem awake_any (w : World) : Calls Try.prog 8 #[] w fun e w' => e = .returned (.bool true) ∧ Below w.heap.size w w' := by
  go_enter Try.func8, Try.ntmps8
  go_wp2_with (first | (go_at_call 20; refine (new_any _).mono ?_; rintro e w' ⟨rfl, rfl⟩))
  refine (op_any 1 0 0 _).mono ?_
  rintro e w1 ⟨rfl, hb1⟩
  go_wp2_with fail
  refine (op_any 2 5 0 _).mono ?_
  rintro e w2 ⟨rfl, hb2⟩
  go_wp2_with fail
  refine (op_any 3 5 7 _).mono ?_
  rintro e w3 ⟨rfl, hb3⟩
  go_wp2_with fail
  refine (op_any 3 5 8 _).mono ?_
  rintro e w4 ⟨rfl, hb4⟩
  go_wp2_with fail
  refine (op_any 1 0 0 _).mono ?_
  rintro e w5 ⟨rfl, hb5⟩
  go_wp2_with fail
  refine (aw_run _ _ ?_).mono ?_
  · exact SlAt.new _ _ _ _ (awOps.flatMap Op5.cells) _ rfl rfl (by decide)
  rintro e w6 ⟨ao, cap, b, o, rfl, hsl, hb6⟩
  go_wp2_with fail
  refine (is_any 1 0 _).mono ?_
  rintro e w7 ⟨rfl, hb7⟩
  go_wp2_with fail
  refine (is_any 0 0 _).mono ?_
  rintro e w8 ⟨rfl, hb8⟩
  go_wp2_with fail
  refine (is_any 3 0 _).mono ?_
  rintro e w9 ⟨rfl, hb9⟩
  go_wp2_with fail
  refine (is_any 4 0 _).mono ?_
  rintro e w10 ⟨rfl, hb10⟩
  go_wp2_with fail
  refine (is_any 1 7 _).mono ?_
  rintro e w11 ⟨rfl, hb11⟩
  go_wp2_with fail
  have hB : Below w6.heap.size w6 w11 := bt (bt (bt (bt hb7 hb8) hb9) hb10) hb11
  refine (answers_any [((1 : Int), (0 : Int)), (0, 0), (3, 0), (4, 0), (1, 7)] [((1 : Int), (0 : Int)), (0, 0), (3, 0), (4, 0), (1, 7)] _ _ _ _ _ _ _ _ _ ((hsl.below hB).below ((Below.refl _ _).alloc (Nat.le_refl _) _)) (SlAt.new w11 35 2 5 _ _ rfl rfl (by decide)) (by decide)).mono ?_
  rintro e w12 ⟨rfl, hb12⟩
  go_wp2
  go_ret
  exact ⟨rfl, bt (ba (bt (bt (ba (bt (bt (bt (bt hb1 hb2) hb3) hb4) hb5) _) hb6) hB) _) hb12⟩
end Go.Proofs.Ythheplpamcjphaa
