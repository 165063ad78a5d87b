/- The table: a row laid over another one, a table cut short; clear. -/
import Derived.Test.YtjmanajbdkbkdaaTe
import Derived.Laws.IdiomCopy
namespace Go.Proofs.Ytjmanajbdkbkdaa
open Go.RowKit Go.Um
set_option linter.unusedSimpArgs false
set_option linter.unusedVariables false
set_option maxHeartbeats 4000000
set_option maxRecDepth 100000
/-- no row -/
def Rw.zeroV : Value := .agg #[.int .u8 0, .int .u16 0, .int .u8 0, .int .u8 0, .int .u8 0, .int .u16 0, .int .u16 0, .int .u8 0, .int .u16 0, .int .u8 0, .int .i64 0, .int .i64 0]
/-- a row is laid over the cells from o on -/
def putR (w : World) (c o : Nat) (x : Rw) : World := ((((((((((((w.setCell ⟨c, o, none⟩ (.int .u8 x.cl)).setCell ⟨c, o + 1, none⟩ (.int .u16 x.id)).setCell ⟨c, o + 2, none⟩ (.int .u8 x.f)).setCell ⟨c, o + 3, none⟩ (.int .u8 x.ob)).setCell ⟨c, o + 4, none⟩ (.int .u8 x.ke)).setCell ⟨c, o + 5, none⟩ (.int .u16 x.a)).setCell ⟨c, o + 6, none⟩ (.int .u16 x.b)).setCell ⟨c, o + 7, none⟩ (.int .u8 x.k)).setCell ⟨c, o + 8, none⟩ (.int .u16 x.v)).setCell ⟨c, o + 9, none⟩ (.int .u8 x.st)).setCell ⟨c, o + 10, none⟩ (.int .i64 x.fr)).setCell ⟨c, o + 11, none⟩ (.int .i64 x.to))
theorem own_put {w : World} {base n g cap i : Nat} {L : List Rw} {x : Rw} (h : w.ownsRow base 41 12 (.slice (some ⟨g, 0, none⟩) n cap) n (L.flatMap Rw.cells)) (hi : i < L.length) :
    (putR w g (i * 12) x).ownsRow base 41 12 (.slice (some ⟨g, 0, none⟩) n cap) n ((L.set i x).flatMap Rw.cells) ∧ w.grownBy (putR w g (i * 12) x) (some g) := by
  obtain ⟨y, hy⟩ : ∃ y, L[i]? = some y := ⟨_, List.getElem?_eq_getElem hi⟩
  obtain ⟨h0, g0⟩ := h.stored (i * 12) (.int .u8 x.cl)
  obtain ⟨h1, g1⟩ := h0.stored (i * 12 + 1) (.int .u16 x.id)
  obtain ⟨h2, g2⟩ := h1.stored (i * 12 + 2) (.int .u8 x.f)
  obtain ⟨h3, g3⟩ := h2.stored (i * 12 + 3) (.int .u8 x.ob)
  obtain ⟨h4, g4⟩ := h3.stored (i * 12 + 4) (.int .u8 x.ke)
  obtain ⟨h5, g5⟩ := h4.stored (i * 12 + 5) (.int .u16 x.a)
  obtain ⟨h6, g6⟩ := h5.stored (i * 12 + 6) (.int .u16 x.b)
  obtain ⟨h7, g7⟩ := h6.stored (i * 12 + 7) (.int .u8 x.k)
  obtain ⟨h8, g8⟩ := h7.stored (i * 12 + 8) (.int .u16 x.v)
  obtain ⟨h9, g9⟩ := h8.stored (i * 12 + 9) (.int .u8 x.st)
  obtain ⟨h10, g10⟩ := h9.stored (i * 12 + 10) (.int .i64 x.fr)
  obtain ⟨h11, g11⟩ := h10.stored (i * 12 + 11) (.int .i64 x.to)
  unfold putR
  refine ⟨?_, ((((((((((g0.trans g1).trans g2).trans g3).trans g4).trans g5).trans g6).trans g7).trans g8).trans g9).trans g10).trans g11⟩
  have e0 : i * 12 = i * 12 + 0 := rfl
  have key : (((((((((((((L.flatMap Rw.cells).set (i * 12) (.int .u8 x.cl)).set (i * 12 + 1) (.int .u16 x.id)).set (i * 12 + 2) (.int .u8 x.f)).set (i * 12 + 3) (.int .u8 x.ob)).set (i * 12 + 4) (.int .u8 x.ke)).set (i * 12 + 5) (.int .u16 x.a)).set (i * 12 + 6) (.int .u16 x.b)).set (i * 12 + 7) (.int .u8 x.k)).set (i * 12 + 8) (.int .u16 x.v)).set (i * 12 + 9) (.int .u8 x.st)).set (i * 12 + 10) (.int .i64 x.fr)).set (i * 12 + 11) (.int .i64 x.to)) = (L.set i x).flatMap Rw.cells := by
    rw [flat_map]
    rw [show ((L.map Rw.cells).flatten.set (i * 12) (.int .u8 x.cl)) = ((L.map Rw.cells).flatten.set (i * 12 + 0) (.int .u8 x.cl)) from rfl]
    rw [row_set (set_self hy) hi rfl (by decide), row_set rfl hi rfl (by decide), row_set rfl hi rfl (by decide), row_set rfl hi rfl (by decide), row_set rfl hi rfl (by decide), row_set rfl hi rfl (by decide), row_set rfl hi rfl (by decide), row_set rfl hi rfl (by decide), row_set rfl hi rfl (by decide), row_set rfl hi rfl (by decide), row_set rfl hi rfl (by decide), row_set rfl hi rfl (by decide)]
    rw [← set_row]
    rfl
  rw [← key]
  exact h11
theorem own_short {w : World} {base n g cap i : Nat} {L : List Rw} (h : w.ownsRow base 41 12 (.slice (some ⟨g, 0, none⟩) n cap) n (L.flatMap Rw.cells)) (hi : i ≤ n) :
    w.ownsRow base 41 12 (.slice (some ⟨g, 0, none⟩) i cap) i ((L.take i).flatMap Rw.cells) := by
  rcases h.2 with ⟨h', _⟩ | ⟨g', cap', cur, h', hb, hg, hnc, hcm, hcs, htake⟩
  · simp at h'
  · simp only [Value.slice.injEq, Option.some.injEq, Addr.mk.injEq, and_true, true_and] at h'
    obtain ⟨rfl, rfl⟩ := h'
    have hl := h.1
    rw [length_flat Rw.twelve] at hl
    have hln : L.length = n := by omega
    have e : (L.take i).flatMap Rw.cells = (L.flatMap Rw.cells).take (i * 12) := by
      have h1 : L.flatMap Rw.cells = (L.take i).flatMap Rw.cells ++ (L.drop i).flatMap Rw.cells := by rw [← List.flatMap_append, List.take_append_drop]
      rw [h1, List.take_left' (by rw [length_flat Rw.twelve, List.length_take]; omega)]
    refine ⟨by rw [length_flat Rw.twelve, List.length_take]; omega, .inr ⟨g, cap, cur, rfl, hb, hg, by omega, hcm, hcs, ?_⟩⟩
    rw [e, ← htake, List.take_take]
    congr 1
    omega
theorem own_cells {base n g cap : Nat} {xs : List Value} : ∀ (vs : List Value) (o : Nat) (w : World), w.ownsRow base 41 12 (.slice (some ⟨g, 0, none⟩) n cap) n xs → xs.length ≤ o →
    (w.setCells g o vs).ownsRow base 41 12 (.slice (some ⟨g, 0, none⟩) n cap) n xs ∧ w.grownBy (w.setCells g o vs) (some g)
  | [], o, w, h, _ => ⟨h, ⟨rfl, rfl, rfl, Nat.le_refl _, fun _ _ _ => rfl⟩⟩
  | v :: vs, o, w, h, ho => by
    obtain ⟨h1, g1⟩ := h.stored o v
    rw [List.set_eq_of_length_le ho] at h1
    obtain ⟨h2, g2⟩ := own_cells vs (o + 1) _ h1 (by omega)
    exact ⟨h2, g1.trans g2⟩
theorem zero41 (w : World) : (zeroValue 41).run Try.prog w = .ok Rw.zeroV w := by kernel_rfl
theorem zeros_one (n : Nat) : ∀ v ∈ (Builtin.zeroCells Rw.zeroV.cells n).toList, v.oneCell' = true := by
  intro v hv
  simp only [Builtin.zeroCells, Array.toList_map, List.mem_map] at hv
  obtain ⟨k, _, rfl⟩ := hv
  have hs : Rw.zeroV.cells.size = 12 := rfl
  rw [hs]
  have hk := Nat.mod_lt k (show 0 < 12 by decide)
  generalize k % 12 = r at hk ⊢
  rcases (by omega : r = 0 ∨ r = 1 ∨ r = 2 ∨ r = 3 ∨ r = 4 ∨ r = 5 ∨ r = 6 ∨ r = 7 ∨ r = 8 ∨ r = 9 ∨ r = 10 ∨ r = 11) with rfl | rfl | rfl | rfl | rfl | rfl | rfl | rfl | rfl | rfl | rfl | rfl <;> rfl
theorem clear_rows {w : World} {base g cap i n c : Nat} {L : List Rw} (h : w.ownsRow base 41 12 (.slice (some ⟨g, 0, none⟩) n cap) n (L.flatMap Rw.cells)) (hi : i ≤ n) :
    ∃ w', (∀ ty, (Builtin.clear_ #[38] ty #[.slice (some ⟨g, i * 12, none⟩) (n - i) c]).run Try.prog w = .ok (.tuple #[]) w') ∧ w'.ownsRow base 41 12 (.slice (some ⟨g, 0, none⟩) i cap) i ((L.take i).flatMap Rw.cells) ∧ w.grownBy w' (some g) := by
  have hln : L.length = n := by
    have := h.1
    rw [length_flat Rw.twelve] at this
    omega
  have hs := own_short h hi
  have hlt : ((L.take i).flatMap Rw.cells).length ≤ i * 12 := by rw [length_flat Rw.twelve, List.length_take]; omega
  rcases Nat.eq_zero_or_pos (n - i) with h0 | h0
  · refine ⟨w, fun ty => ?_, hs, ⟨rfl, rfl, rfl, Nat.le_refl _, fun _ _ _ => rfl⟩⟩
    rw [h0]
    simp [Builtin.clear_, run_underlying Try.underlying38]
  · obtain ⟨h1, h2⟩ := own_cells (Builtin.zeroCells Rw.zeroV.cells (n - i)).toList (i * 12) w hs hlt
    refine ⟨_, fun ty => ?_, h1, h2⟩
    have hsz : (Builtin.zeroCells Rw.zeroV.cells (n - i)).toList.length = (n - i) * 12 := by rw [Array.length_toList, size_zeroCells]; rfl
    have hst := run_storeCells_cells (P := Try.prog) g (i * 12) (Builtin.zeroCells Rw.zeroV.cells (n - i)).toList 0 w (fun j hj => by
      rw [hsz] at hj
      rw [h.cellAt _ (by omega), List.getElem?_eq_getElem (by rw [h.1]; omega)]
      rfl) (fun j _ => h.frozenAt _) (zeros_one _)
    rw [Nat.add_zero] at hst
    obtain ⟨m, hm⟩ : ∃ m, n - i = m + 1 := ⟨n - i - 1, by omega⟩
    rw [hm] at hst ⊢
    unfold Rw.zeroV at hst
    simp [Builtin.clear_, run_underlying Try.underlying38, zero41, hst, Rw.zeroV]
end Go.Proofs.Ytjmanajbdkbkdaa
