/- An array of two numbers by value, opened: no program in sight. -/
import Derived.Test.YtfjccgihdnemkaaOpenl
namespace Go.Um
open Go.RowKit Go.ChangeShapes Go.WideShapes Go.ChangeAt Go.Deep
set_option linter.unusedSimpArgs false
set_option linter.unusedVariables false
section
variable {H : Type} {enc : TypeId × Value → H} {P : Program} {W : World}
theorem open_arr2 {r : Reach} {b0 : Nat} {t e : TypeId} {v : Value} {d : DataW H} {p : List MemPlace} (ht : P.underlying t = some (.array 2 e)) (he : P.underlying e = some (.int .i64)) (hC : P.cellsOf t = 2) (hce : P.cellsOf e = 1)
    (hv : Value.okWide P W r b0 t v) (h : DataW.Trod enc P W 0 (fun _ => true) true t v d p) : ∃ x0 x1 : Int, v = .agg #[.int .i64 x0, .int .i64 x1] := by
  simp only [Value.okWide, ht] at hv
  obtain ⟨cs, rfl, hsz, _⟩ := hv
  obtain ⟨l⟩ := cs
  match l, hsz.trans hC with
  | [c0, c1], _ =>
    obtain ⟨fuel, hf⟩ := h
    obtain ⟨xs, n, _, hx, _, hlen, hg⟩ := DataW.trod_array ht hf
    match xs, hlen with
    | [y0, y1], _ =>
      have g0 : DataW.trod enc P W 0 (fun _ => true) true n e [c0] = some y0 := by simpa [Value.cells, hce] using hg 0 (by decide)
      have g1 : DataW.trod enc P W 0 (fun _ => true) true n e [c1] = some y1 := by simpa [Value.cells, hce] using hg 1 (by decide)
      obtain ⟨n0, q0, _, _⟩ := DataW.trod_int he g0
      obtain ⟨n1, q1, _, _⟩ := DataW.trod_int he g1
      simp only [List.cons.injEq, and_true] at q0 q1
      subst q0 q1
      exact ⟨n0, n1, rfl⟩
end
end Go.Um
