/- An act by value, opened: no program in sight. -/
import Derived.Test.YtgpfnlbhclefgaaOpact
namespace Go.Um
open Go.RowKit Go.ChangeShapes Go.WideShapes Go.ChangeAt Go.Deep
set_option linter.unusedSimpArgs false
set_option linter.unusedVariables false
section
variable {H : Type} {enc : TypeId × Value → H} {P : Program} {W : World}
theorem open_act {r : Reach} {b0 : Nat} {t t0 t1 t2 te : TypeId} {s0 s1 s2 : Field} {v : Value} {d : DataW H} {p : List MemPlace} (hs : P.underlying t = some (.struct #[s0, s1, s2])) (hone : oneCellFields P #[s0, s1, s2] = true) (hC : P.cellsOf t = 3)
    (e0 : s0.type = t0) (e1 : s1.type = t1) (e2 : s2.type = t2)
    (u0 : P.underlying t0 = some (.int .u8)) (u1 : P.underlying t1 = some (.slice te)) (ue : P.underlying te = some (.int .i64)) (hce : P.cellsOf te = 1) (u2 : P.underlying t2 = some .string)
    (hv : Value.okWide P W r b0 t v) (h : DataW.Trod enc P W 0 (fun _ => true) true t v d p) : ∃ x : Act3, v = .agg x.cells.toArray ∧ x.ok W := by
  obtain ⟨cs, rfl, hsz⟩ := okWide_struct hs hv
  obtain ⟨l⟩ := cs
  subst e0 e1 e2
  match l, hsz.trans hC with
  | [c0, c1, c2], _ =>
    obtain ⟨fuel, hf⟩ := h
    obtain ⟨xs, n, _, hx, _, hlen, hg⟩ := DataW.trod_struct hs hf
    obtain ⟨o0, k0⟩ := hone_of hone 0 s0 rfl
    obtain ⟨o1, k1⟩ := hone_of hone 1 s1 rfl
    obtain ⟨o2, k2⟩ := hone_of hone 2 s2 rfl
    match xs, hlen with
    | [y0, y1, y2], _ =>
      have g0 : DataW.trod enc P W 0 (fun _ => true) true n s0.type [c0] = some y0 := by simpa [Value.cells, o0, k0] using hg 0 s0 rfl
      have g1 : DataW.trod enc P W 0 (fun _ => true) true n s1.type [c1] = some y1 := by simpa [Value.cells, o1, k1] using hg 1 s1 rfl
      have g2 : DataW.trod enc P W 0 (fun _ => true) true n s2.type [c2] = some y2 := by simpa [Value.cells, o2, k2] using hg 2 s2 rfl
      obtain ⟨n0, q0, _, w0⟩ := DataW.trod_int u0 g0
      obtain ⟨l1, ao1, cap1, b1, o1, q1, hs1, hw1⟩ := nums_cell u1 ue hce g1
      obtain ⟨n2, q2, _, w2⟩ := DataW.trod_string u2 g2
      simp only [List.cons.injEq, and_true] at q0 q2
      subst q0 q1 q2
      exact ⟨⟨n0, l1, ao1, cap1, b1, o1, n2⟩, rfl, ⟨in8_of w0, hs1⟩⟩
end
end Go.Um
