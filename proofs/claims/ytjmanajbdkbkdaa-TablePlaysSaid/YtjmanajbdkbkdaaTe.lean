/- The table: a row that is open ends. -/
import Derived.Test.YtjmanajbdkbkdaaTd
namespace Go.Proofs.Ytjmanajbdkbkdaa
open Go.RowKit Go.Um
set_option linter.unusedSimpArgs false
set_option linter.unusedVariables false
set_option maxHeartbeats 4000000
set_option maxRecDepth 100000
theorem flat_set : ∀ (F : List (List Value)) (i j : Nat) (c : List Value) (u : Value), (∀ c ∈ F, c.length = 12) → F[i]? = some c → j < 12 → F.flatten.set (i * 12 + j) u = (F.set i (c.set j u)).flatten
  | [], i, j, c, u, _, h, _ => by simp at h
  | d :: F, 0, j, c, u, hF, h, hj => by
    simp only [List.getElem?_cons_zero, Option.some.injEq] at h
    subst h
    have := hF d (by simp)
    simp only [Nat.zero_mul, Nat.zero_add, List.flatten_cons, List.set_cons_zero]
    rw [List.set_append_left _ _ (by omega)]
  | d :: F, i + 1, j, c, u, hF, h, hj => by
    have hd := hF d (by simp)
    simp only [List.flatten_cons, List.set_cons_succ]
    rw [List.set_append_right _ _ (by omega), show (i + 1) * 12 + j - d.length = i * 12 + j by omega]
    rw [flat_set F i j c u (fun c hc => hF c (by simp [hc])) (by simpa using h) hj]
theorem row_set {L : List Rw} {i j : Nat} {c : List Value} {F : List (List Value)} {u : Value} (hF : F = (L.map Rw.cells).set i c) (hi : i < L.length) (hc : c.length = 12) (hj : j < 12) : F.flatten.set (i * 12 + j) u = ((L.map Rw.cells).set i (c.set j u)).flatten := by
  subst hF
  rw [flat_set _ i j c u ?_ ?_ hj]
  · rw [List.set_set]
  · intro d hd
    rcases List.mem_or_eq_of_mem_set hd with h | h
    · obtain ⟨x, _, rfl⟩ := List.mem_map.1 h
      rfl
    · rw [h]; exact hc
  · rw [List.getElem?_set_self (by simpa using hi)]
theorem flat_map (L : List Rw) : L.flatMap Rw.cells = (L.map Rw.cells).flatten := by rw [List.flatMap_def]
theorem set_self {L : List Rw} {i : Nat} {x : Rw} (h : L[i]? = some x) : L.map Rw.cells = (L.map Rw.cells).set i x.cells := by
  obtain ⟨hi, e⟩ := List.getElem?_eq_some_iff.1 h
  apply List.ext_getElem?
  intro k
  rw [List.getElem?_set]
  split
  · rename_i hk
    subst hk
    rw [if_pos (by simpa using hi), List.getElem?_map, h]
    rfl
  · rfl
theorem set_row {L : List Rw} {i : Nat} {x : Rw} : ((L.map Rw.cells).set i x.cells).flatten = (L.set i x).flatMap Rw.cells := by
  rw [flat_map, List.map_set]
/-- what ends well: the row's status, answer, end -/
def retR (x : Rw) (k v t : Int) : Rw := { x with st := 1, k := k, v := v, to := t }
def lostR (x : Rw) : Rw := { x with st := 2 }
theorem own_lost {w : World} {base n g cap i : Nat} {L : List Rw} {x : Rw} (h : w.ownsRow base 41 12 (.slice (some ⟨g, 0, none⟩) n cap) n (L.flatMap Rw.cells)) (hx : L[i]? = some x) :
    (w.setCell ⟨g, i * 12 + 9, none⟩ (.int .u8 2)).ownsRow base 41 12 (.slice (some ⟨g, 0, none⟩) n cap) n ((L.set i (lostR x)).flatMap Rw.cells) ∧ w.grownBy (w.setCell ⟨g, i * 12 + 9, none⟩ (.int .u8 2)) (some g) := by
  have hi := (List.getElem?_eq_some_iff.1 hx).1
  obtain ⟨h1, h2⟩ := h.stored (i * 12 + 9) (.int .u8 2)
  refine ⟨?_, h2⟩
  rw [flat_map, row_set (set_self hx) hi rfl (by decide)] at h1
  rw [← set_row]
  exact h1
theorem own_ret {w : World} {base n g cap i : Nat} {L : List Rw} {x : Rw} {k v t : Int} (h : w.ownsRow base 41 12 (.slice (some ⟨g, 0, none⟩) n cap) n (L.flatMap Rw.cells)) (hx : L[i]? = some x) :
    ((((w.setCell ⟨g, i * 12 + 9, none⟩ (.int .u8 1)).setCell ⟨g, i * 12 + 7, none⟩ (.int .u8 k)).setCell ⟨g, i * 12 + 8, none⟩ (.int .u16 v)).setCell ⟨g, i * 12 + 11, none⟩ (.int .i64 t)).ownsRow base 41 12 (.slice (some ⟨g, 0, none⟩) n cap) n ((L.set i (retR x k v t)).flatMap Rw.cells) ∧
    w.grownBy ((((w.setCell ⟨g, i * 12 + 9, none⟩ (.int .u8 1)).setCell ⟨g, i * 12 + 7, none⟩ (.int .u8 k)).setCell ⟨g, i * 12 + 8, none⟩ (.int .u16 v)).setCell ⟨g, i * 12 + 11, none⟩ (.int .i64 t)) (some g) := by
  have hi := (List.getElem?_eq_some_iff.1 hx).1
  obtain ⟨h1, g1⟩ := h.stored (i * 12 + 9) (.int .u8 1)
  obtain ⟨h2, g2⟩ := h1.stored (i * 12 + 7) (.int .u8 k)
  obtain ⟨h3, g3⟩ := h2.stored (i * 12 + 8) (.int .u16 v)
  obtain ⟨h4, g4⟩ := h3.stored (i * 12 + 11) (.int .i64 t)
  refine ⟨?_, ((g1.trans g2).trans g3).trans g4⟩
  rw [flat_map, row_set (set_self hx) hi rfl (by decide), row_set rfl hi rfl (by decide), row_set rfl hi rfl (by decide), row_set rfl hi rfl (by decide)] at h4
  rw [← set_row]
  exact h4
theorem set_end {base : Nat} {w W w3 : World} {p : Nat} {v : Value} {L L' : List Rw} {nx t : Int} (hT : TabAt base w p v L nx) (hW : Below w.heap.size w W) (hg : W.grownBy w3 v.ownBlock)
    (hown : w3.ownsRow base 41 12 v L'.length (L'.flatMap Rw.cells)) :
    TPost base p v 0 L' t w (.returned (.int .i64 0)) (w3.setCell ⟨p, 1, none⟩ (.int .i64 t)) := by
  have hp := hT.lt
  have hpW : p < W.heap.size := Nat.lt_of_lt_of_le hp hW.size
  have hTW := hT.below hW
  have hne : some p ≠ v.ownBlock := fun e => hT.ne e.symm
  have k0 : w3.cell? ⟨p, 0, none⟩ = some v := (hg.cell_far ⟨p, 0, none⟩ hpW hne).trans hTW.c0
  have k1 : w3.cell? ⟨p, 1, none⟩ = some (.int .i64 nx) := (hg.cell_far ⟨p, 1, none⟩ hpW hne).trans hTW.c1
  have k2 : w3.cell? ⟨p, 2, none⟩ = some (.bool true) := (hg.cell_far ⟨p, 2, none⟩ hpW hne).trans hTW.c2
  have j0 : w3.frozen? ⟨p, 0, none⟩ = false := (hg.frozen_far ⟨p, 0, none⟩ hpW hne).trans hTW.f0
  have j1 : w3.frozen? ⟨p, 1, none⟩ = false := (hg.frozen_far ⟨p, 1, none⟩ hpW hne).trans hTW.f1
  refine ⟨rfl, v, ⟨?_, ?_, ?_, ?_, ?_, ?_, hT.ne⟩, ?_, .inl rfl⟩
  · rw [World.cell?_setCell_other _ _ _ _ (by simp)]; exact k0
  · rw [World.frozen?_setCell]; exact j0
  · exact World.cell?_setCell_same _ _ _ k1
  · rw [World.frozen?_setCell]; exact j1
  · rw [World.cell?_setCell_other _ _ _ _ (by simp)]; exact k2
  · exact own_setCell hown (fun e => hT.ne e) _
  · have h1 : Kept (Own p v) w W := (Kept.of_below hW).mono (fun i hi h => absurd h (by omega))
    exact (h1.grown hg (fun k e _ => .inr e)).setCell (p := ⟨p, 1, none⟩) (fun _ => .inl rfl) _
end Go.Proofs.Ytjmanajbdkbkdaa
