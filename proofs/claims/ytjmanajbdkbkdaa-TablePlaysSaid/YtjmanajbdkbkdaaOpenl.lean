/- Slices of numbers and of strings, opened: no program in sight. -/
import Derived.Test.YtjmanajbdkbkdaaOpen
import Derived.SliceStrings
import Derived.ChangeMaps5
namespace Go.Um
open Go.RowKit Go.ChangeShapes Go.WideShapes Go.ChangeAt Go.Deep
section
variable {H : Type} {enc : TypeId × Value → H} {P : Program} {W : World}
theorem slat_of {a : Addr} {len cap : Nat} {cs : List Value} (hl : cs.length = len * 1) (hle : len ≤ cap) (hm : cap ≤ maxLen) (hcell : ∀ j u, cs[j]? = some u → W.cell? (a.add j) = some u) : SlAt W 1 len cs (some a) cap a.block a.off := by
  have hspot : 0 < cs.length → a.spot = none := by
    intro hp
    have h0 := hcell 0 _ (List.getElem?_eq_getElem hp)
    simpa [Addr.add] using World.cell?_spot h0
  refine ⟨hl, hle, hm, fun hp => ?_, fun hp => ?_, fun j u hu => ?_⟩
  · have := hspot hp
    cases a
    simp only at this
    subst this
    rfl
  · have h0 := hcell 0 _ (List.getElem?_eq_getElem hp)
    have := World.block_lt_of_cell? W _ h0
    simpa [Addr.add] using this
  · have h0 := hcell j u hu
    have hp : 0 < cs.length := by have := (List.getElem?_eq_some_iff.1 hu).1; omega
    have hsp := hspot hp
    obtain ⟨ab, aoff, aspot⟩ := a
    simp only at hsp
    subst hsp
    rwa [Addr.add_lit] at h0
theorem slat_nil : SlAt W 1 0 [] none 0 0 0 := ⟨rfl, Nat.le_refl _, Nat.zero_le _, fun h => absurd h (by decide), fun h => absurd h (by decide), fun j u hu => by simp at hu⟩

/-- a slice of numbers -/
theorem open_nums {r : Reach} {b0 : Nat} {t e : TypeId} {q : IntKind} {v : Value} {d : DataW H} {p : List MemPlace} (ht : P.underlying t = some (.slice e)) (he : P.underlying e = some (.int q)) (hc : P.cellsOf e = 1)
    (hv : Value.okWide P W r b0 t v) (h : DataW.Trod enc P W 0 (fun _ => true) true t v d p) :
    ∃ (l : List Int) (ao : Option Addr) (cap b o : Nat), v = .slice ao l.length cap ∧ SlAt W 1 l.length (l.map (Value.int q)) ao cap b o ∧ ∀ n ∈ l, (Lit.int q n).wf = true := by
  obtain ⟨a0, len0, cap0, rfl⟩ := okWide_slice ht hv
  obtain ⟨fuel, hf⟩ := h
  rcases open_ints ht he hc hf with ⟨hcs, _⟩ | ⟨a, len, cap, zs, hcs, hb, hl, hm, hz, hx, hcc, hwf⟩
  · simp [Value.cells] at hcs
    obtain ⟨rfl, rfl, rfl⟩ := hcs
    exact ⟨[], none, 0, 0, 0, rfl, slat_nil, fun n hn => by cases hn⟩
  · simp [Value.cells] at hcs
    obtain ⟨rfl, rfl, rfl⟩ := hcs
    simp only [if_true] at hz
    have hlen : (zs.take len0).length = len0 := by rw [List.length_take]; omega
    refine ⟨zs.take len0, some a, cap0, a.block, a.off, by rw [hlen], slat_of (by simp) (by omega) hm ?_, fun n hn => hwf n (List.mem_of_mem_take hn)⟩
    intro j u hu
    have hj : j < len0 := by have := (List.getElem?_eq_some_iff.1 hu).1; rw [List.length_map, hlen] at this; exact this
    rw [hcc j (by omega)]
    simp only [List.getElem?_map, List.getElem?_take, if_pos hj, Option.map_eq_some_iff] at hu
    obtain ⟨z, hz', rfl⟩ := hu
    rw [List.getD_eq_getElem?_getD, hz']
    rfl
/-- a slice of strings -/
theorem open_strs {r : Reach} {b0 : Nat} {t e : TypeId} {v : Value} {d : DataW H} {p : List MemPlace} (ht : P.underlying t = some (.slice e)) (he : P.underlying e = some .string) (hc : P.cellsOf e = 1)
    (hv : Value.okWide P W r b0 t v) (h : DataW.Trod enc P W 0 (fun _ => true) true t v d p) :
    ∃ (l : List ByteArray) (ao : Option Addr) (cap b o : Nat), v = .slice ao l.length cap ∧ SlAt W 1 l.length (l.map Value.string) ao cap b o ∧ ∀ s ∈ l, s.size ≤ maxLen := by
  obtain ⟨a0, len0, cap0, rfl⟩ := okWide_slice ht hv
  obtain ⟨fuel, hf⟩ := h
  rcases open_strings ht he hc hf with ⟨hcs, _⟩ | ⟨a, len, cap, ss, hcs, hb, hl, hm, hz, hx, hcc, hwf⟩
  · simp [Value.cells] at hcs
    obtain ⟨rfl, rfl, rfl⟩ := hcs
    exact ⟨[], none, 0, 0, 0, rfl, slat_nil, fun n hn => by cases hn⟩
  · simp [Value.cells] at hcs
    obtain ⟨rfl, rfl, rfl⟩ := hcs
    simp only [if_true] at hz
    have hlen : (ss.take len0).length = len0 := by rw [List.length_take]; omega
    refine ⟨ss.take len0, some a, cap0, a.block, a.off, by rw [hlen], slat_of (by simp) (by omega) hm ?_, fun n hn => hwf n (List.mem_of_mem_take hn)⟩
    intro j u hu
    have hj : j < len0 := by have := (List.getElem?_eq_some_iff.1 hu).1; rw [List.length_map, hlen] at this; exact this
    rw [hcc j (by omega)]
    simp only [List.getElem?_map, List.getElem?_take, if_pos hj, Option.map_eq_some_iff] at hu
    obtain ⟨z, hz', rfl⟩ := hu
    rw [List.getD_eq_getElem?_getD, hz']
    rfl
end
end Go.Um
