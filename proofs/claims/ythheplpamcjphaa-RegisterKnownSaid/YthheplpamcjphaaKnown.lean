/- RegisterKnown: the examples of the chapter hold. A closed statement. -/
import Derived.Test.YthheplpamcjphaaRows
import Derived.Test.YthheplpamcjphaaCode
import Derived.KernelRfl
namespace Go.Proofs.Ythheplpamcjphaa
open Go.RowKit Go.Um
set_option maxHeartbeats 1600000

def knOps : List Op5 := [⟨2, 0, 0, 5, 0⟩, ⟨4, 0, 0, 1, 0⟩, ⟨1, 0, 0, 0, 0⟩]

def KnPost (w : World) (e : Ending) (w' : World) : Prop := ∃ ao cap b o, e = .returned (.tuple #[.int .u16 5, .slice ao 1 cap, .int .i64 10]) ∧ SlAt w' 2 1 ([((0 : Int), (0 : Int))].flatMap resC) ao cap b o ∧ Below w.heap.size w w'

theorem kn_run (w : World) (g : Nat) (h : SlAt w 5 3 (knOps.flatMap Op5.cells) (some ⟨g, 0, none⟩) 3 g 0) :
    Calls Try.prog 9 #[.int .u16 0, .slice (some ⟨g, 0, none⟩) 3 3] w (KnPost w) := by
  refine (run_any 0 knOps _ 3 g 0 w h (by decide)).mono ?_
  intro e w' hr
  obtain ⟨ao, cap, b, o, rfl, hsl, hb⟩ := hr.two
  have e1 : stopAt knOps = 1 := by decide
  have e2 : stN 0 knOps 1 = 5 := by decide
  have e3 : outN 0 knOps 1 = [((0 : Int), (0 : Int))] := by decide
  rw [e1, e3] at hsl
  exact ⟨ao, cap, b, o, by rw [errAt, e1, e2]; rfl, hsl, hb⟩

theorem d12 : decS ⟨#[1, 2]⟩ = 258 ∧ decE ⟨#[1, 2]⟩ = 0 := by decide
theorem d1 : decS ⟨#[1]⟩ = 0 ∧ decE ⟨#[1]⟩ = 4 := by decide
theorem d123 : decS ⟨#[1, 2, 3]⟩ = 0 ∧ decE ⟨#[1, 2, 3]⟩ = 4 := by decide
theorem e258 : strOfNums (be 258 2) = ⟨#[1, 2]⟩ := by decide
theorem s9 : stp 9 4 1 0 = (9, 0, 0, 10) := by decide

theorem known_law (w : World) : Calls Try.prog 6 #[] w fun e w' => e = .returned (.bool true) ∧ Below w.heap.size w w' := by
  go_enter Try.func6, Try.ntmps6
  go_wp2_with fail
  refine (op_any 4 1 0 _).mono ?_
  rintro e w1 ⟨rfl, hb1⟩
  go_wp2_with fail
  refine (Step_any 9 4 0 0 1 0 _).mono ?_
  rintro e w2 ⟨rfl, hb2⟩
  rw [s9]
  go_wp2_with fail
  refine (op_any 2 5 0 _).mono ?_
  rintro e w3 ⟨rfl, hb3⟩
  go_wp2_with fail
  refine (op_any 4 1 0 _).mono ?_
  rintro e w4 ⟨rfl, hb4⟩
  go_wp2_with fail
  refine (op_any 1 0 0 _).mono ?_
  rintro e w5 ⟨rfl, hb5⟩
  go_wp2_with fail
  refine (kn_run _ _ (SlAt.new _ _ _ _ (knOps.flatMap Op5.cells) _ rfl rfl (by decide))).mono ?_
  rintro e w6 ⟨ao, cap, b, o, rfl, hsl, hb6⟩
  have Hsl := Lib.hid hsl
  clear hsl
  go_wp2_with fail
  refine (decode_any ⟨#[1, 2]⟩ _ (by decide)).mono ?_
  rintro e w7 ⟨rfl, hb7⟩
  rw [d12.1, d12.2]
  go_wp2_with fail
  refine (decode_any ⟨#[1]⟩ _ (by decide)).mono ?_
  rintro e w8 ⟨rfl, hb8⟩
  rw [d1.1, d1.2]
  go_wp2_with fail
  refine (decode_any ⟨#[1, 2, 3]⟩ _ (by decide)).mono ?_
  rintro e w9 ⟨rfl, hb9⟩
  rw [d123.1, d123.2]
  go_wp2_with fail
  refine (is_any 0 0 _).mono ?_
  rintro e w10 ⟨rfl, hb10⟩
  go_wp2_with fail
  have hB : Below w6.heap.size w6 w10 := bt (bt (bt hb7 hb8) hb9) hb10
  refine (answers_any [((0 : Int), (0 : Int))] [((0 : Int), (0 : Int))] _ _ _ _ _ _ _ _ _ ((Hsl.out.below hB).below (ba (bz w10) _)) (SlAt.new w10 35 2 1 _ _ rfl rfl (by decide)) (by decide)).mono ?_
  rintro e w11 ⟨rfl, hb11⟩
  rw [decide_eq_true (rfl : [((0 : Int), (0 : Int))] = [((0 : Int), (0 : Int))])]
  go_wp2_with fail
  refine (encode_any 258 _ (by decide)).mono ?_
  rintro e w12 ⟨rfl, hb12⟩
  rw [e258]
  go_wp2_with fail
  refine (idle_any 1 _).mono ?_
  rintro e w13 ⟨rfl, rfl⟩
  go_wp2_with fail
  refine (idle_any 3 _).mono ?_
  rintro e w13 ⟨rfl, rfl⟩
  go_wp2_with fail
  refine (idle_any 6 _).mono ?_
  rintro e w13 ⟨rfl, rfl⟩
  go_wp2_with fail
  refine (new_any _).mono ?_
  rintro e w13 ⟨rfl, rfl⟩
  go_wp2_with fail
  refine (awake_any _).mono ?_
  rintro e w14 ⟨rfl, hb14⟩
  go_wp2
  go_ret
  have h1 := bt hb1 hb2
  have h2 := bt (bt (bt (ba h1 _) hb3) hb4) hb5
  have h3 := bt (bt (ba h2 _) hb6) hB
  exact ⟨rfl, bt (bt (bt (ba h3 _) hb11) hb12) hb14⟩
end Go.Proofs.Ythheplpamcjphaa
namespace Go.Proofs.Ythheplpamcjphaa.lawKnown
open Go.ChangeShapes Go.WideShapes Go.ChangeAt Go.RowKit Go.Um

theorem own : ownKnob Try.prog.godebug = none := by kernel_rfl

set_option maxRecDepth 100000 in
theorem lifted (os : Os) (started : os.Started) (H : Type) (enc : TypeId × Value → H) :
    ReturnsInHanded {} Try.checked os 6 .any (Rows.registerKnownSpec.pre6 enc Try.prog Try.f6 Rows.registerKnownRow.domain false) (Rows.registerKnownSpec.post enc Try.prog Try.f6 false true false false) := by
  refine returnsInHanded_of_change (C := Try.checked) own started (by kernel_rfl) Try.func6
    (ChangeSpec.witness6 (enc := enc) (C := Try.checked) false ⟨#[], #[], []⟩ 8 (by kernel_rfl) (by kernel_rfl) (by kernel_rfl) (by kernel_rfl)) ?_
  intro W base args ds gs before hval0 hW hcnd _
  have hWk := hW
  obtain ⟨p, q, hA0, hV, rfl, hfz, hnd⟩ := hW
  have hA : DataW.TrodAll enc Try.prog W 0 (fun _ => true) true Try.f6.params.toList args.toList ds p := hA0
  rw [Try.params6] at hA
  obtain ⟨hargs, rfl, rfl⟩ := trodAll_nil hA
  obtain rfl : args = #[] := by cases args; simp_all
  obtain ⟨rfl, rfl⟩ := trodVars_none hV
  refine (known_law W).mono fun e W' ⟨he, hb⟩ => ?_
  subst he
  exact ⟨_, rfl, law_post (by kernel_rfl) (by kernel_rfl) (by kernel_rfl) Try.underlying4 rfl rfl hWk hb⟩

theorem holds : Rows.RegisterKnownSaid :=
  OpenClaim.holds_of_wide 6 Try.f6 rfl rfl rfl rfl rfl rfl rfl ⟨rfl, rfl, rfl, rfl, rfl⟩ rfl rfl rfl rfl rfl (by kernel_rfl) Try.func6 (by kernel_rfl)
    (of_decide_eq_true (by kernel_rfl)) (by unfold Func.isWrapper; first | (rw [if_pos (by decide +kernel)]; kernel_rfl) | (rw [if_neg (by decide +kernel)]; exact ⟨rfl, rfl⟩))
    (fun os started H enc _ => lifted os started H enc)
end Go.Proofs.Ythheplpamcjphaa.lawKnown
