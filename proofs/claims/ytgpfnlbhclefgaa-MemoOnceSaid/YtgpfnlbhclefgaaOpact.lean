/- A slice of acts, {What u8; L []int; S string}, opened: no program in sight. -/
import Derived.Test.YtgpfnlbhclefgaaOpenth
namespace Go.Um
open Go.RowKit Go.ChangeShapes Go.WideShapes Go.ChangeAt Go.Deep
set_option linter.unusedSimpArgs false
set_option linter.unusedVariables false
structure Act3 where
  what : Int
  l : List Int
  ao : Option Addr
  cap : Nat
  b : Nat
  o : Nat
  s : ByteArray
def Act3.cells (x : Act3) : List Value := [.int .u8 x.what, .slice x.ao x.l.length x.cap, .string x.s]
theorem Act3.three (x : Act3) : x.cells.length = 3 := rfl
structure Act3.ok (W : World) (x : Act3) : Prop where
  what : in8 x.what
  l : SlAt W 1 x.l.length (x.l.map (Value.int .i64)) x.ao x.cap x.b x.o
theorem act_below {w w' : World} {x : Act3} (h : x.ok w) (hb : Below w.heap.size w w') : x.ok w' := ⟨h.what, h.l.below hb⟩
section
variable {H : Type} {enc : TypeId × Value → H} {P : Program} {W : World}
theorem open_acts {r : Reach} {b0 : Nat} {t e t0 t1 t2 te : TypeId} {s0 s1 s2 : Field} {v : Value} {d : DataW H} {p : List MemPlace} (ht : P.underlying t = some (.slice e)) (hs : P.underlying e = some (.struct #[s0, s1, s2])) (hone : oneCellFields P #[s0, s1, s2] = true) (hC : P.cellsOf e = 3)
    (e0 : s0.type = t0) (e1 : s1.type = t1) (e2 : s2.type = t2)
    (u0 : P.underlying t0 = some (.int .u8)) (u1 : P.underlying t1 = some (.slice te)) (ue : P.underlying te = some (.int .i64)) (hce : P.cellsOf te = 1) (u2 : P.underlying t2 = some .string)
    (hv : Value.okWide P W r b0 t v) (h : DataW.Trod enc P W 0 (fun _ => true) true t v d p) :
    ∃ (l : List Act3) (ao : Option Addr) (cap b o : Nat), v = .slice ao l.length cap ∧ SlAt W 3 l.length (l.flatMap Act3.cells) ao cap b o ∧ ∀ x ∈ l, x.ok W := by
  obtain ⟨n, ao, cap, b, o, E, rfl, hsl, hE⟩ := open_structs ht hs hone hC hv h
  subst e0 e1 e2
  have each : ∀ i, i < n → ∃ x : Act3, x.ok W ∧ [E i 0, E i 1, E i 2] = x.cells := by
    intro i hi
    obtain ⟨m0, y0, g0⟩ := hE i hi 0 s0 rfl
    obtain ⟨m1, y1, g1⟩ := hE i hi 1 s1 rfl
    obtain ⟨m2, y2, g2⟩ := hE i hi 2 s2 rfl
    obtain ⟨n0, q0, _, w0⟩ := DataW.trod_int u0 g0
    obtain ⟨l1, ao1, cap1, b1, o1, q1, hs1, hw1⟩ := nums_cell u1 ue hce g1
    obtain ⟨n2, q2, _, w2⟩ := DataW.trod_string u2 g2
    simp only [List.cons.injEq, and_true] at q0 q2
    rw [q0, q1, q2]
    exact ⟨⟨n0, l1, ao1, cap1, b1, o1, n2⟩, ⟨in8_of w0, hs1⟩, rfl⟩
  have hf : ∃ f : Nat → Act3, ∀ i, i < n → (f i).ok W ∧ [E i 0, E i 1, E i 2] = (f i).cells :=
    ⟨fun i => if h : i < n then Classical.choose (each i h) else ⟨0, [], none, 0, 0, 0, ⟨#[]⟩⟩, fun i hi => by simp only [dif_pos hi]; exact Classical.choose_spec (each i hi)⟩
  obtain ⟨f, hf⟩ := hf
  refine ⟨(List.range n).map f, ao, cap, b, o, by simp, ?_, ?_⟩
  · have he : ((List.range n).map f).flatMap Act3.cells = (List.range n).flatMap fun i => (List.range 3).map (E i) := by
      rw [List.flatMap_map]
      refine flatMap_congr_range fun i hi => ?_
      show _ = [E i 0, E i 1, E i 2]
      exact (hf i hi).2.symm
    rw [he]
    simpa using hsl
  · intro x hx
    obtain ⟨i, hi, rfl⟩ := List.mem_map.1 hx
    exact (hf i (List.mem_range.1 hi)).1
end
end Go.Um
