/- RegisterRuns: for any state and any operations, the state, the answers and the error of the program's Run are the document's. No condition. -/
import Derived.Test.YthheplpamcjphaaRows
import Derived.Test.YthheplpamcjphaaAwake
import Derived.Test.YthheplpamcjphaaOpen
import Derived.KernelRfl
namespace Go.Proofs.Ythheplpamcjphaa
open Go.RowKit Go.Um
set_option maxHeartbeats 1000000

theorem length_out (s : Int) (l : List Op5) : ∀ k, k ≤ l.length → (outN s l k).length = k
  | 0, _ => rfl
  | k + 1, hk => by
    have hx : l[k]? = some (l[k]'(by omega)) := List.getElem?_eq_getElem (by omega)
    simp only [outN, hx, List.length_append, List.length_cons, List.length_nil]
    rw [length_out s l k (by omega)]

theorem runs_law (s : Int) (l : List Op5) (ao : Option Addr) (cap b o : Nat) (w : World) (h : SlAt w 5 l.length (l.flatMap Op5.cells) ao cap b o) :
    Calls Try.prog 3 #[.int .u16 s, .slice ao l.length cap] w fun e w' => e = .returned (.bool true) ∧ Below w.heap.size w w' := by
  have hm : l.length ≤ 9223372036854775807 := by have := h.le; have := h.max; unfold maxLen at this; omega
  by_cases hlen : l.length ≤ 200
  · have hout : (outN s l (stopAt l)).length = stopAt l := length_out s l _ (stopAt_le l)
    have hst := stopAt_le l
    have Hout := Lib.hid hout
    have Hsl := Lib.hid h
    clear hout h
    go_enter Try.func3, Try.ntmps3
    go_wp2_with fail
    refine (run_any s l ao cap b o _ Hsl.out hlen).mono ?_
    intro e w1 hr
    obtain ⟨ao1, cap1, b1, o1, rfl, hsl1, hb1⟩ := hr.two
    clear hr
    have H1 := Lib.hid hsl1
    clear hsl1
    go_wp2_with fail
    refine (refrun_any s l ao cap b o _ (Hsl.out.below hb1) hlen).mono ?_
    intro e w2 hr
    obtain ⟨ao2, cap2, b2, o2, rfl, hsl2, hb2⟩ := hr.two
    clear hr
    have H2 := Lib.hid hsl2
    clear hsl2
    go_wp2_with fail
    refine (same_len (outN s l (stopAt l)) (outN s l (stopAt l)) (stopAt l) (stopAt l) ao1 ao2 cap1 b1 o1 cap2 b2 o2 w2 Hout.out Hout.out (H1.out.below hb2) H2.out (by omega)).mono ?_
    rintro e w3 ⟨rfl, hb3⟩
    rw [decide_eq_true (rfl : outN s l (stopAt l) = outN s l (stopAt l))]
    go_wp2_with fail
    refine (awake_any _).mono ?_
    rintro e w4 ⟨rfl, hb4⟩
    go_wp2
    go_ret
    exact ⟨rfl, bt (bt (bt hb1 hb2) hb3) hb4⟩
  · have h1 : (200 : Int) < (l.length : Int) := by omega
    go_enter Try.func3, Try.ntmps3
    go_wp2_with fail
    refine (awake_any _).mono ?_
    rintro e w1 ⟨rfl, hb1⟩
    go_wp2
    go_ret
    exact ⟨rfl, hb1⟩

end Go.Proofs.Ythheplpamcjphaa
namespace Go.Proofs.Ythheplpamcjphaa.lawRuns
open Go.ChangeShapes Go.WideShapes Go.ChangeAt Go.RowKit Go.Um

theorem own : ownKnob Try.prog.godebug = none := by kernel_rfl

set_option maxRecDepth 100000 in
theorem lifted (os : Os) (started : os.Started) (H : Type) (enc : TypeId × Value → H) :
    ReturnsInHanded {} Try.checked os 3 .any (Rows.registerRunsSpec.pre6 enc Try.prog Try.f3 Rows.registerRunsRow.domain false) (Rows.registerRunsSpec.post enc Try.prog Try.f3 false true false false) := by
  refine returnsInHanded_of_change (C := Try.checked) own started (by kernel_rfl) Try.func3
    (ChangeSpec.witness6 (enc := enc) (C := Try.checked) false ⟨#[], #[.int .u16 0, .slice none 0 0], []⟩ 8 (by kernel_rfl) (by kernel_rfl) (by kernel_rfl) (by kernel_rfl)) ?_
  intro W base args ds gs before hval0 hW hcnd _
  have hval : ∀ (j : Nat) t v, Try.f3.params[j]? = some t → args[j]? = some v → Value.okWide Try.prog W .any base t v := hval0
  have hWk := hW
  obtain ⟨p, q, hA0, hV, rfl, hfz, hnd⟩ := hW
  have hA : DataW.TrodAll enc Try.prog W 0 (fun _ => true) true Try.f3.params.toList args.toList ds p := hA0
  rw [Try.params3] at hA hval
  obtain ⟨v0, vs0, d0, ds0, p0, q0, hargs, rfl, rfl, h0, r0⟩ := trodAll_cons hA
  obtain ⟨v1, vs1, d1, ds1, p1, q1, rfl, rfl, rfl, h1, r1⟩ := trodAll_cons r0
  obtain ⟨rfl, rfl, rfl⟩ := trodAll_nil r1
  obtain rfl : args = #[v0, v1] := by cases args; simp_all
  obtain ⟨rfl, rfl⟩ := trodVars_none hV
  obtain ⟨s, rfl, rfl, rfl, w0⟩ := open_int Try.underlying22 (hval 0 22 v0 rfl rfl) h0
  obtain ⟨l, ao, cap, b, o, rfl, hsl, hok⟩ := open_ops Try.underlying23 Try.underlying38 (by kernel_rfl) (by kernel_rfl) rfl rfl rfl rfl rfl Try.underlying5 Try.underlying5 Try.underlying5 Try.underlying22 Try.underlying22 (hval 1 23 v1 rfl rfl) h1
  refine (runs_law s l ao cap b o W hsl).mono fun e W' ⟨he, hb⟩ => ?_
  subst he
  exact ⟨_, rfl, law_post (by kernel_rfl) (by kernel_rfl) (by kernel_rfl) Try.underlying4 rfl rfl hWk hb⟩

theorem holds : Rows.RegisterRunsSaid :=
  OpenClaim.holds_of_wide 3 Try.f3 rfl rfl rfl rfl rfl rfl rfl ⟨rfl, rfl, rfl, rfl, rfl⟩ rfl rfl rfl rfl rfl (by kernel_rfl) Try.func3 (by kernel_rfl)
    (of_decide_eq_true (by kernel_rfl)) (by unfold Func.isWrapper; first | (rw [if_pos (by decide +kernel)]; kernel_rfl) | (rw [if_neg (by decide +kernel)]; exact ⟨rfl, rfl⟩))
    (fun os started H enc _ => lifted os started H enc)
end Go.Proofs.Ythheplpamcjphaa.lawRuns
