/- RegisterCode: Decode of Encode is the state; what is decoded has these bytes; an operation has one answer in one state, and an idle one leaves it. No condition. -/
import Derived.Test.YthheplpamcjphaaRows
import Derived.Test.YthheplpamcjphaaCode
import Derived.KernelRfl
namespace Go.Proofs.Ythheplpamcjphaa.lawCode
open Go.ChangeShapes Go.WideShapes Go.ChangeAt Go.RowKit Go.Um Go.Deep

theorem own : ownKnob Try.prog.godebug = none := by kernel_rfl

theorem six_of {α : Type} (l : List α) (h : l.length = 6) : ∃ c0 c1 c2 c3 c4 c5, l = [c0, c1, c2, c3, c4, c5] := by
  match l, h with
  | [c0, c1, c2, c3, c4, c5], _ => exact ⟨c0, c1, c2, c3, c4, c5, rfl⟩
theorem two_of' {α : Type} (l : List α) (h : l.length = 2) : ∃ c0 c1, l = [c0, c1] := by
  match l, h with
  | [c0, c1], _ => exact ⟨c0, c1, rfl⟩

theorem cells9 : Try.prog.cellsOf 9 = 1 := by kernel_rfl
theorem cells38 : Try.prog.cellsOf 38 = 5 := by kernel_rfl
theorem cells52 : Try.prog.cellsOf 52 = 6 := by kernel_rfl

theorem open_probe {H : Type} {enc : TypeId × Value → H} {W : World} {r : Reach} {b0 : Nat} {v : Value} {d : DataW H} {p : List MemPlace}
    (hv : Value.okWide Try.prog W r b0 52 v) (h : DataW.Trod enc Try.prog W 0 (fun _ => true) true 52 v d p) :
    ∃ (t : ByteArray) (f o k a b : Int), v = .agg #[.string t, .int .u8 f, .int .u8 o, .int .u8 k, .int .u16 a, .int .u16 b] ∧ t.size ≤ maxLen := by
  obtain ⟨cs, rfl, hsz⟩ := okWide_struct Try.underlying52 hv
  obtain ⟨l⟩ := cs
  obtain ⟨c0, c1, c2, c3, c4, c5, rfl⟩ := six_of l (hsz.trans cells52)
  obtain ⟨fuel, hf⟩ := h
  obtain ⟨xs, n, _, hx, _, hlen, hg⟩ := DataW.trod_struct Try.underlying52 hf
  obtain ⟨y0, y1, rfl⟩ := two_of' xs hlen
  have g0 : DataW.trod enc Try.prog W 0 (fun _ => true) true n 9 [c0] = some y0 := by simpa [Value.cells, cells9] using hg 0 _ rfl
  have g1 : DataW.trod enc Try.prog W 0 (fun _ => true) true n 38 [c1, c2, c3, c4, c5] = some y1 := by simpa [Value.cells, cells38] using hg 1 _ rfl
  obtain ⟨t, q0, _, ht⟩ := DataW.trod_string Try.underlying9 g0
  obtain ⟨x, q1, _⟩ := trod_op Try.underlying38 (by kernel_rfl) cells38 rfl rfl rfl rfl rfl Try.underlying5 Try.underlying5 Try.underlying5 Try.underlying22 Try.underlying22 g1
  simp only [List.cons.injEq, and_true] at q0
  subst q0
  simp only [Op5.cells, List.cons.injEq, and_true] at q1
  obtain ⟨rfl, rfl, rfl, rfl, rfl⟩ := q1
  exact ⟨t, x.f, x.o, x.k, x.a, x.b, rfl, ht⟩

set_option maxRecDepth 100000 in
theorem lifted (os : Os) (started : os.Started) (H : Type) (enc : TypeId × Value → H) :
    ReturnsInHanded {} Try.checked os 7 .any (Rows.registerCodeSpec.pre6 enc Try.prog Try.f7 Rows.registerCodeRow.domain false) (Rows.registerCodeSpec.post enc Try.prog Try.f7 false true false false) := by
  refine returnsInHanded_of_change (C := Try.checked) own started (by kernel_rfl) Try.func7
    (ChangeSpec.witness6 (enc := enc) (C := Try.checked) false ⟨#[], #[.int .u16 0, .int .u16 0, .agg #[.string ⟨#[]⟩, .int .u8 0, .int .u8 0, .int .u8 0, .int .u16 0, .int .u16 0]], []⟩ 8 (by kernel_rfl) (by kernel_rfl) (by kernel_rfl) (by kernel_rfl)) ?_
  intro W base args ds gs before hval0 hW hcnd _
  have hval : ∀ (j : Nat) t v, Try.f7.params[j]? = some t → args[j]? = some v → Value.okWide Try.prog W .any base t v := hval0
  have hWk := hW
  obtain ⟨p, q, hA0, hV, rfl, hfz, hnd⟩ := hW
  have hA : DataW.TrodAll enc Try.prog W 0 (fun _ => true) true Try.f7.params.toList args.toList ds p := hA0
  rw [Try.params7] at hA hval
  obtain ⟨v0, vs0, d0, ds0, p0, q0, hargs, rfl, rfl, h0, r0⟩ := trodAll_cons hA
  obtain ⟨v1, vs1, d1, ds1, p1, q1, rfl, rfl, rfl, h1, r1⟩ := trodAll_cons r0
  obtain ⟨v2, vs2, d2, ds2, p2, q2, rfl, rfl, rfl, h2, r2⟩ := trodAll_cons r1
  obtain ⟨rfl, rfl, rfl⟩ := trodAll_nil r2
  obtain rfl : args = #[v0, v1, v2] := by cases args; simp_all
  obtain ⟨rfl, rfl⟩ := trodVars_none hV
  obtain ⟨a, rfl, rfl, rfl, w0⟩ := open_int Try.underlying22 (hval 0 22 v0 rfl rfl) h0
  obtain ⟨b, rfl, rfl, rfl, w1⟩ := open_int Try.underlying22 (hval 1 22 v1 rfl rfl) h1
  obtain ⟨t, f, o, k, x, y, rfl, ht⟩ := open_probe (hval 2 52 v2 rfl rfl) h2
  refine (code_law a b t f o k x y W (in16_of w0) (in16_of w1) ht).mono fun e W' ⟨he, hb⟩ => ?_
  subst he
  exact ⟨_, rfl, law_post (by kernel_rfl) (by kernel_rfl) (by kernel_rfl) Try.underlying4 rfl rfl hWk hb⟩

theorem holds : Rows.RegisterCodeSaid :=
  OpenClaim.holds_of_wide 7 Try.f7 rfl rfl rfl rfl rfl rfl rfl ⟨rfl, rfl, rfl, rfl, rfl⟩ rfl rfl rfl rfl rfl (by kernel_rfl) Try.func7 (by kernel_rfl)
    (of_decide_eq_true (by kernel_rfl)) (by unfold Func.isWrapper; first | (rw [if_pos (by decide +kernel)]; kernel_rfl) | (rw [if_neg (by decide +kernel)]; exact ⟨rfl, rfl⟩))
    (fun os started H enc _ => lifted os started H enc)
end Go.Proofs.Ythheplpamcjphaa.lawCode
