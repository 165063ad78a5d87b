/- A slice of acts, {What u8; N int; L []int}, opened: no program in sight. -/
import Derived.Test.YtfjccgihdnemkaaOpenl
namespace Go.Um
open Go.RowKit Go.ChangeShapes Go.WideShapes Go.ChangeAt Go.Deep
set_option linter.unusedSimpArgs false
set_option linter.unusedVariables false
structure Act3 where
  what : Int
  n : Int
  l : List Int
  ao : Option Addr
  cap : Nat
  b : Nat
  o : Nat
def Act3.cells (x : Act3) : List Value := [.int .u8 x.what, .int .i64 x.n, .slice x.ao x.l.length x.cap]
theorem Act3.three (x : Act3) : x.cells.length = 3 := rfl
structure Act3.ok (W : World) (x : Act3) : Prop where
  what : in8 x.what
  l : SlAt W 1 x.l.length (x.l.map (Value.int .i64)) x.ao x.cap x.b x.o
theorem act_below {w w' : World} {x : Act3} (h : x.ok w) (hb : Below w.heap.size w w') : x.ok w' := ⟨h.what, h.l.below hb⟩
section
variable {H : Type} {enc : TypeId × Value → H} {P : Program} {W : World}
theorem nums_cell {t e : TypeId} {q : IntKind} {u : Value} {fuel : Nat} {y : DataW H × List MemPlace} (ht : P.underlying t = some (.slice e)) (he : P.underlying e = some (.int q)) (hc : P.cellsOf e = 1)
    (hf : DataW.trod enc P W 0 (fun _ => true) true fuel t [u] = some y) :
    ∃ (l : List Int) (ao : Option Addr) (cap b o : Nat), u = .slice ao l.length cap ∧ SlAt W 1 l.length (l.map (Value.int q)) ao cap b o ∧ ∀ n ∈ l, (Lit.int q n).wf = true := by
  rcases open_ints ht he hc hf with ⟨hcs, _⟩ | ⟨a, len, cap, zs, hcs, hb, hl, hm, hz, hx, hcc, hwf⟩
  · simp only [List.cons.injEq, and_true] at hcs
    subst hcs
    exact ⟨[], none, 0, 0, 0, rfl, slat_nil, fun n hn => by cases hn⟩
  · simp only [List.cons.injEq, and_true] at hcs
    subst hcs
    simp only [if_true] at hz
    have hlen : (zs.take len).length = len := by rw [List.length_take]; omega
    refine ⟨zs.take len, some a, cap, a.block, a.off, by rw [hlen], slat_of (by simp) (by omega) hm ?_, fun n hn => hwf n (List.mem_of_mem_take hn)⟩
    intro j u hu
    have hj : j < len := by have := (List.getElem?_eq_some_iff.1 hu).1; rw [List.length_map, hlen] at this; exact this
    rw [hcc j (by omega)]
    simp only [List.getElem?_map, List.getElem?_take, if_pos hj, Option.map_eq_some_iff] at hu
    obtain ⟨z, hz', rfl⟩ := hu
    rw [List.getD_eq_getElem?_getD, hz']
    rfl
theorem open_acts {r : Reach} {b0 : Nat} {t e t0 t1 t2 te : TypeId} {s0 s1 s2 : Field} {v : Value} {d : DataW H} {p : List MemPlace} (ht : P.underlying t = some (.slice e)) (hs : P.underlying e = some (.struct #[s0, s1, s2])) (hone : oneCellFields P #[s0, s1, s2] = true) (hC : P.cellsOf e = 3)
    (e0 : s0.type = t0) (e1 : s1.type = t1) (e2 : s2.type = t2)
    (u0 : P.underlying t0 = some (.int .u8)) (u1 : P.underlying t1 = some (.int .i64)) (u2 : P.underlying t2 = some (.slice te)) (ue : P.underlying te = some (.int .i64)) (hce : P.cellsOf te = 1)
    (hv : Value.okWide P W r b0 t v) (h : DataW.Trod enc P W 0 (fun _ => true) true t v d p) :
    ∃ (l : List Act3) (ao : Option Addr) (cap b o : Nat), v = .slice ao l.length cap ∧ SlAt W 3 l.length (l.flatMap Act3.cells) ao cap b o ∧ ∀ x ∈ l, x.ok W := by
  obtain ⟨n, ao, cap, b, o, E, rfl, hsl, hE⟩ := open_structs ht hs hone hC hv h
  subst e0 e1 e2
  have each : ∀ i, i < n → ∃ x : Act3, x.ok W ∧ [E i 0, E i 1, E i 2] = x.cells := by
    intro i hi
    obtain ⟨m0, y0, g0⟩ := hE i hi 0 s0 rfl
    obtain ⟨m1, y1, g1⟩ := hE i hi 1 s1 rfl
    obtain ⟨m2, y2, g2⟩ := hE i hi 2 s2 rfl
    obtain ⟨n0, q0, _, w0⟩ := DataW.trod_int u0 g0
    obtain ⟨n1, q1, _, w1⟩ := DataW.trod_int u1 g1
    obtain ⟨l2, ao2, cap2, b2, o2, q2, hs2, hw2⟩ := nums_cell u2 ue hce g2
    simp only [List.cons.injEq, and_true] at q0 q1
    rw [q0, q1, q2]
    exact ⟨⟨n0, n1, l2, ao2, cap2, b2, o2⟩, ⟨in8_of w0, hs2⟩, rfl⟩
  have hf : ∃ f : Nat → Act3, ∀ i, i < n → (f i).ok W ∧ [E i 0, E i 1, E i 2] = (f i).cells :=
    ⟨fun i => if h : i < n then Classical.choose (each i h) else ⟨0, 0, [], none, 0, 0, 0⟩, fun i hi => by simp only [dif_pos hi]; exact Classical.choose_spec (each i hi)⟩
  obtain ⟨f, hf⟩ := hf
  refine ⟨(List.range n).map f, ao, cap, b, o, by simp, ?_, ?_⟩
  · have he : ((List.range n).map f).flatMap Act3.cells = (List.range n).flatMap fun i => (List.range 3).map (E i) := by
      rw [List.flatMap_map]
      refine flatMap_congr_range fun i hi => ?_
      show _ = [E i 0, E i 1, E i 2]
      exact (hf i hi).2.symm
    rw [he]
    simpa using hsl
  · intro x hx
    obtain ⟨i, hi, rfl⟩ := List.mem_map.1 hx
    exact (hf i (List.mem_range.1 hi)).1
end
end Go.Um
