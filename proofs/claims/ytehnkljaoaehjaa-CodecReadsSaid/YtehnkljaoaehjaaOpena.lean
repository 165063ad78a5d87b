/- A slice of what is asked, {Kind u8; N int}, opened: no program in sight. -/
import Derived.Test.YtehnkljaoaehjaaOpenl
namespace Go.Um
open Go.RowKit Go.ChangeShapes Go.WideShapes Go.ChangeAt Go.Deep
set_option linter.unusedSimpArgs false
set_option linter.unusedVariables false
structure Ask2 where
  kind : Int
  n : Int
def Ask2.cells (x : Ask2) : List Value := [.int .u8 x.kind, .int .i64 x.n]
theorem Ask2.two (x : Ask2) : x.cells.length = 2 := rfl
section
variable {H : Type} {enc : TypeId × Value → H} {P : Program} {W : World}
theorem open_asks {r : Reach} {b0 : Nat} {t e t0 t1 : TypeId} {s0 s1 : Field} {v : Value} {d : DataW H} {p : List MemPlace} (ht : P.underlying t = some (.slice e)) (hs : P.underlying e = some (.struct #[s0, s1])) (hone : oneCellFields P #[s0, s1] = true) (hC : P.cellsOf e = 2)
    (e0 : s0.type = t0) (e1 : s1.type = t1)
    (u0 : P.underlying t0 = some (.int .u8)) (u1 : P.underlying t1 = some (.int .i64))
    (hv : Value.okWide P W r b0 t v) (h : DataW.Trod enc P W 0 (fun _ => true) true t v d p) :
    ∃ (l : List Ask2) (ao : Option Addr) (cap b o : Nat), v = .slice ao l.length cap ∧ SlAt W 2 l.length (l.flatMap Ask2.cells) ao cap b o ∧ ∀ x ∈ l, in8 x.kind := by
  obtain ⟨n, ao, cap, b, o, E, rfl, hsl, hE⟩ := open_structs ht hs hone hC hv h
  subst e0 e1
  have each : ∀ i, i < n → (E i 0 = .int .u8 (intOf (E i 0)) ∧ E i 1 = .int .i64 (intOf (E i 1))) ∧ in8 (intOf (E i 0)) := by
    intro i hi
    obtain ⟨m0, y0, g0⟩ := hE i hi 0 s0 rfl
    obtain ⟨m1, y1, g1⟩ := hE i hi 1 s1 rfl
    obtain ⟨n0, q0, _, w0⟩ := DataW.trod_int u0 g0
    obtain ⟨n1, q1, _, w1⟩ := DataW.trod_int u1 g1
    simp only [List.cons.injEq, and_true] at q0 q1
    rw [q0, q1]
    exact ⟨⟨rfl, rfl⟩, in8_of w0⟩
  refine ⟨(List.range n).map fun i => ⟨intOf (E i 0), intOf (E i 1)⟩, ao, cap, b, o, by simp, ?_, ?_⟩
  · have he : ((List.range n).map fun i => (⟨intOf (E i 0), intOf (E i 1)⟩ : Ask2)).flatMap Ask2.cells = (List.range n).flatMap fun i => (List.range 2).map (E i) := by
      rw [List.flatMap_map]
      refine flatMap_congr_range fun i hi => ?_
      obtain ⟨⟨q0, q1⟩, _⟩ := each i hi
      show _ = [E i 0, E i 1]
      simp only [Ask2.cells]
      rw [← q0, ← q1]
    rw [he]
    simpa using hsl
  · intro x hx
    obtain ⟨i, hi, rfl⟩ := List.mem_map.1 hx
    exact (each i (List.mem_range.1 hi)).2
end
end Go.Um
