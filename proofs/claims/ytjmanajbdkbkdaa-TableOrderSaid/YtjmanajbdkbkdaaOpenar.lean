/- An array of four bytes by value, opened: no program in sight. -/
import Derived.Test.YtjmanajbdkbkdaaOpenl
namespace Go.Um
open Go.RowKit Go.ChangeShapes Go.WideShapes Go.ChangeAt Go.Deep
set_option linter.unusedSimpArgs false
set_option linter.unusedVariables false
section
variable {H : Type} {enc : TypeId × Value → H} {P : Program} {W : World}
theorem open_arr4 {r : Reach} {b0 : Nat} {t e : TypeId} {v : Value} {d : DataW H} {p : List MemPlace} (ht : P.underlying t = some (.array 4 e)) (he : P.underlying e = some (.int .u8)) (hC : P.cellsOf t = 4) (hce : P.cellsOf e = 1)
    (hv : Value.okWide P W r b0 t v) (h : DataW.Trod enc P W 0 (fun _ => true) true t v d p) : ∃ x0 x1 x2 x3 : Int, v = .agg #[.int .u8 x0, .int .u8 x1, .int .u8 x2, .int .u8 x3] ∧ in8 x0 ∧ in8 x1 ∧ in8 x2 ∧ in8 x3 := by
  simp only [Value.okWide, ht] at hv
  obtain ⟨cs, rfl, hsz, _⟩ := hv
  obtain ⟨l⟩ := cs
  match l, hsz.trans hC with
  | [c0, c1, c2, c3], _ =>
    obtain ⟨fuel, hf⟩ := h
    obtain ⟨xs, n, _, hx, _, hlen, hg⟩ := DataW.trod_array ht hf
    match xs, hlen with
    | [y0, y1, y2, y3], _ =>
      have g0 : DataW.trod enc P W 0 (fun _ => true) true n e [c0] = some y0 := by simpa [Value.cells, hce] using hg 0 (by decide)
      have g1 : DataW.trod enc P W 0 (fun _ => true) true n e [c1] = some y1 := by simpa [Value.cells, hce] using hg 1 (by decide)
      have g2 : DataW.trod enc P W 0 (fun _ => true) true n e [c2] = some y2 := by simpa [Value.cells, hce] using hg 2 (by decide)
      have g3 : DataW.trod enc P W 0 (fun _ => true) true n e [c3] = some y3 := by simpa [Value.cells, hce] using hg 3 (by decide)
      obtain ⟨n0, q0, _, w0⟩ := DataW.trod_int he g0
      obtain ⟨n1, q1, _, w1⟩ := DataW.trod_int he g1
      obtain ⟨n2, q2, _, w2⟩ := DataW.trod_int he g2
      obtain ⟨n3, q3, _, w3⟩ := DataW.trod_int he g3
      simp only [List.cons.injEq, and_true] at q0 q1 q2 q3
      subst q0 q1 q2 q3
      exact ⟨n0, n1, n2, n3, rfl, in8_of w0, in8_of w1, in8_of w2, in8_of w3⟩
end
end Go.Um
