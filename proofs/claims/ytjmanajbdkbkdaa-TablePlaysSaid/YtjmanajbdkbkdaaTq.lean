/- TableOrder: definitions behind its walk. -/
import Derived.Test.YtjmanajbdkbkdaaTp
namespace Go.Proofs.Ytjmanajbdkbkdaa
open Go.RowKit Go.Um
set_option linter.unusedSimpArgs false
set_option linter.unusedVariables false
set_option maxHeartbeats 4000000
set_option maxRecDepth 100000
theorem cutL {p q : Prop} (h : p → q) (hp : p) : q := h hp
/-- a row's block -/
structure RowF (w : World) (c : Nat) (x : Rw) : Prop where
  row : RowC w c 0 x
  fz : ∀ j, j < 12 → w.frozen? ⟨c, j, none⟩ = false
theorem RowF.below {w W : World} {c : Nat} {x : Rw} (h : RowF w c x) (hb : Below w.heap.size w W) : RowF W c x :=
  ⟨h.row.below hb, fun j hj => kf hb _ _ (World.block_lt_of_cell? _ _ h.row.c0) (h.fz j hj)⟩
theorem RowF.new (w : World) : RowF (w.alloc (.cells #[.int .u8 0, .int .u16 0, .int .u8 0, .int .u8 0, .int .u8 0, .int .u16 0, .int .u16 0, .int .u8 0, .int .u16 0, .int .u8 0, .int .i64 0, .int .i64 0] 41)) w.heap.size Rw.zero := by
  refine ⟨⟨by simp [go_sem, Rw.zero], by simp [go_sem, Rw.zero], by simp [go_sem, Rw.zero], by simp [go_sem, Rw.zero], by simp [go_sem, Rw.zero], by simp [go_sem, Rw.zero], by simp [go_sem, Rw.zero], by simp [go_sem, Rw.zero], by simp [go_sem, Rw.zero], by simp [go_sem, Rw.zero], by simp [go_sem, Rw.zero], by simp [go_sem, Rw.zero]⟩, fun j hj => ?_⟩
  rcases (by omega : j = 0 ∨ j = 1 ∨ j = 2 ∨ j = 3 ∨ j = 4 ∨ j = 5 ∨ j = 6 ∨ j = 7 ∨ j = 8 ∨ j = 9 ∨ j = 10 ∨ j = 11) with rfl | rfl | rfl | rfl | rfl | rfl | rfl | rfl | rfl | rfl | rfl | rfl <;> simp [go_sem]
/-- a row is laid over a block -/
def put12 (w : World) (c : Nat) (x : Rw) : World := ((((((((((((w.setCell ⟨c, 0, none⟩ (.int .u8 x.cl)).setCell ⟨c, 1, none⟩ (.int .u16 x.id)).setCell ⟨c, 2, none⟩ (.int .u8 x.f)).setCell ⟨c, 3, none⟩ (.int .u8 x.ob)).setCell ⟨c, 4, none⟩ (.int .u8 x.ke)).setCell ⟨c, 5, none⟩ (.int .u16 x.a)).setCell ⟨c, 6, none⟩ (.int .u16 x.b)).setCell ⟨c, 7, none⟩ (.int .u8 x.k)).setCell ⟨c, 8, none⟩ (.int .u16 x.v)).setCell ⟨c, 9, none⟩ (.int .u8 x.st)).setCell ⟨c, 10, none⟩ (.int .i64 x.fr)).setCell ⟨c, 11, none⟩ (.int .i64 x.to))
theorem put12_below {B : Nat} {a w : World} {c : Nat} (h : Below B a w) (hc : B ≤ c) (x : Rw) : Below B a (put12 w c x) := by
  unfold put12
  exact ((((((((((((h.setCell (p := ⟨c, 0, none⟩) hc _).setCell (p := ⟨c, 1, none⟩) hc _).setCell (p := ⟨c, 2, none⟩) hc _).setCell (p := ⟨c, 3, none⟩) hc _).setCell (p := ⟨c, 4, none⟩) hc _).setCell (p := ⟨c, 5, none⟩) hc _).setCell (p := ⟨c, 6, none⟩) hc _).setCell (p := ⟨c, 7, none⟩) hc _).setCell (p := ⟨c, 8, none⟩) hc _).setCell (p := ⟨c, 9, none⟩) hc _).setCell (p := ⟨c, 10, none⟩) hc _).setCell (p := ⟨c, 11, none⟩) hc _)
theorem put12_kept (w : World) (c : Nat) (x : Rw) : Kept (fun j => j = c) w (put12 w c x) := by
  unfold put12
  exact ((((((((((((((Kept.refl (fun j => j = c) w)).setCell (p := ⟨c, 0, none⟩) (fun _ => rfl) _).setCell (p := ⟨c, 1, none⟩) (fun _ => rfl) _).setCell (p := ⟨c, 2, none⟩) (fun _ => rfl) _).setCell (p := ⟨c, 3, none⟩) (fun _ => rfl) _).setCell (p := ⟨c, 4, none⟩) (fun _ => rfl) _).setCell (p := ⟨c, 5, none⟩) (fun _ => rfl) _).setCell (p := ⟨c, 6, none⟩) (fun _ => rfl) _).setCell (p := ⟨c, 7, none⟩) (fun _ => rfl) _).setCell (p := ⟨c, 8, none⟩) (fun _ => rfl) _).setCell (p := ⟨c, 9, none⟩) (fun _ => rfl) _).setCell (p := ⟨c, 10, none⟩) (fun _ => rfl) _).setCell (p := ⟨c, 11, none⟩) (fun _ => rfl) _)
theorem RowF.put_other {w : World} {c c' : Nat} {y : Rw} (h : RowF w c' y) (x : Rw) (hne : c' ≠ c) : RowF (put12 w c x) c' y := by
  have hk := put12_kept w c x
  have hn : ¬ (c' = c) := hne
  obtain ⟨⟨c0, c1, c2, c3, c4, c5, c6, c7, c8, c9, c10, c11⟩, fz⟩ := h
  exact ⟨⟨hk.cell c0 hn, hk.cell c1 hn, hk.cell c2 hn, hk.cell c3 hn, hk.cell c4 hn, hk.cell c5 hn, hk.cell c6 hn, hk.cell c7 hn, hk.cell c8 hn, hk.cell c9 hn, hk.cell c10 hn, hk.cell c11 hn⟩, fun j hj => (hk.frozen (World.block_lt_of_cell? _ _ c0) hn).trans (fz j hj)⟩
theorem RowF.put {w : World} {c : Nat} {y : Rw} (h : RowF w c y) (x : Rw) : RowF (put12 w c x) c x := by
  obtain ⟨⟨c0, c1, c2, c3, c4, c5, c6, c7, c8, c9, c10, c11⟩, fz⟩ := h
  simp only [Nat.zero_add] at c0 c1 c2 c3 c4 c5 c6 c7 c8 c9 c10 c11
  unfold put12
  exact ⟨⟨by simp [go_sem, c0], by simp [go_sem, c1], by simp [go_sem, c2], by simp [go_sem, c3], by simp [go_sem, c4], by simp [go_sem, c5], by simp [go_sem, c6], by simp [go_sem, c7], by simp [go_sem, c8], by simp [go_sem, c9], by simp [go_sem, c10], by simp [go_sem, c11]⟩, fun j hj => by simp only [World.frozen?_setCell]; exact fz j hj⟩
structure Leaf4 (w2 W : World) (c11 c12 c13 c14 : Nat) : Prop where
  below : Below w2.heap.size w2 W
  z11 : RowF W c11 Rw.zero
  z12 : RowF W c12 Rw.zero
  z13 : RowF W c13 Rw.zero
  z14 : RowF W c14 Rw.zero
  ge11 : w2.heap.size ≤ c11
  ge12 : w2.heap.size ≤ c12
  ge13 : w2.heap.size ≤ c13
  ge14 : w2.heap.size ≤ c14
  ne1112 : c11 ≠ c12
  ne1113 : c11 ≠ c13
  ne1114 : c11 ≠ c14
  ne1213 : c12 ≠ c13
  ne1214 : c12 ≠ c14
  ne1314 : c13 ≠ c14
structure Cut4 (w2 : World) (xa xb xc xd : Rw) (c11 c12 c13 c14 : Nat) (wx : World) : Prop where
  below : Below w2.heap.size w2 wx
  a : RowC wx c11 0 xa
  b : RowC wx c12 0 xb
  c : RowC wx c13 0 xc
  d : RowC wx c14 0 xd
theorem load_u8 {w : World} {b a : Nat} {u : Value} (h0 : w.cell? ⟨b, a, none⟩ = some u) {ev : Operand → Value} {x : Operand} (hx : ev x = .pointer (some ⟨b, a, none⟩)) {d : Option Tmp} {ty : TypeId} {ps : String} {af : Array Edge} {g : Option (Nat × Bool)} :
    (execOp ev { dst := d, op := .load 5 x, type := ty, pos := ps, after := af, guard := g }).run Try.prog w = .ok (.value u) w := by
  simp [execOp, hx, go_sem, h0]
theorem up_at {L : List Rw} {nx : Int} (h : RL L nx) {j : Nat} {x y : Rw} (hx : L[j]? = some x) (hy : L[j - 1]? = some y) (hj : 1 ≤ j) : y.fr < x.fr := by
  obtain ⟨h1, e1⟩ := List.getElem?_eq_some_iff.1 hx
  obtain ⟨h2, e2⟩ := List.getElem?_eq_some_iff.1 hy
  have := List.pairwise_iff_getElem.1 h.up (j - 1) j h2 h1 (by omega)
  rw [e1, e2] at this
  exact this
theorem below_drewN {B : Nat} {a w : World} (h : Below B a w) (n : Nat) : Below B a (w.drewN n) := ⟨h.os, h.tape, h.output, h.size, h.block⟩
end Go.Proofs.Ytjmanajbdkbkdaa
