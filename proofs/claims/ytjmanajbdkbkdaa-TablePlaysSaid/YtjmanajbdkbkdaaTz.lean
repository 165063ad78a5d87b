/- Acts in memory. -/
import Derived.Test.YtjmanajbdkbkdaaTq
namespace Go.Proofs.Ytjmanajbdkbkdaa
open Go.RowKit Go.Um
set_option linter.unusedSimpArgs false
set_option linter.unusedVariables false
set_option maxHeartbeats 4000000
set_option maxRecDepth 100000
structure ActC (w : World) (b o : Nat) (x : Ac) : Prop where
  c0 : w.cell? ⟨b, o, none⟩ = some (.int .u8 x.wh)
  c1 : w.cell? ⟨b, o + 1, none⟩ = some (.int .u8 x.cl)
  c2 : w.cell? ⟨b, o + 2, none⟩ = some (.int .u16 x.id)
  c3 : w.cell? ⟨b, o + 3, none⟩ = some (.int .u8 x.f)
  c4 : w.cell? ⟨b, o + 4, none⟩ = some (.int .u8 x.ob)
  c5 : w.cell? ⟨b, o + 5, none⟩ = some (.int .u8 x.ke)
  c6 : w.cell? ⟨b, o + 6, none⟩ = some (.int .u16 x.a)
  c7 : w.cell? ⟨b, o + 7, none⟩ = some (.int .u16 x.b)
  c8 : w.cell? ⟨b, o + 8, none⟩ = some (.int .u8 x.k)
  c9 : w.cell? ⟨b, o + 9, none⟩ = some (.int .u16 x.v)
  c10 : w.cell? ⟨b, o + 10, none⟩ = some (.int .i64 x.t)
theorem act_at {w : World} {l : List Ac} {ao : Option Addr} {n cap b o k : Nat} {x : Ac} (h : SlAt w 11 n (l.flatMap Ac.cells) ao cap b o) (hx : l[k]? = some x) : ActC w b (o + k * 11) x := by
  have g := fun j (hj : j < 11) u (hu : x.cells[j]? = some u) => h.cell (k * 11 + j) u ((cell_of Ac.eleven l k x hx j hj).trans hu)
  exact ⟨g 0 (by omega) _ rfl, g 1 (by omega) _ rfl, g 2 (by omega) _ rfl, g 3 (by omega) _ rfl, g 4 (by omega) _ rfl, g 5 (by omega) _ rfl, g 6 (by omega) _ rfl, g 7 (by omega) _ rfl, g 8 (by omega) _ rfl, g 9 (by omega) _ rfl, g 10 (by omega) _ rfl⟩
theorem ActC.below {w W : World} {b o : Nat} {x : Ac} (h : ActC w b o x) (hb : Below w.heap.size w W) : ActC W b o x :=
  ⟨cell_past hb h.c0, cell_past hb h.c1, cell_past hb h.c2, cell_past hb h.c3, cell_past hb h.c4, cell_past hb h.c5, cell_past hb h.c6, cell_past hb h.c7, cell_past hb h.c8, cell_past hb h.c9, cell_past hb h.c10⟩
theorem ActC.new (w : World) (n : Nat) (x : Ac) (hn : n = w.heap.size) : ActC (w.alloc (.cells #[.int .u8 x.wh, .int .u8 x.cl, .int .u16 x.id, .int .u8 x.f, .int .u8 x.ob, .int .u8 x.ke, .int .u16 x.a, .int .u16 x.b, .int .u8 x.k, .int .u16 x.v, .int .i64 x.t] 33)) n 0 x := by
  subst hn
  exact ⟨by simp [go_sem], by simp [go_sem], by simp [go_sem], by simp [go_sem], by simp [go_sem], by simp [go_sem], by simp [go_sem], by simp [go_sem], by simp [go_sem], by simp [go_sem], by simp [go_sem]⟩
theorem size33 : (Try.prog.info? 33).map (·.size) = some 11 := by kernel_rfl
theorem actc_of {wo w3 w4 : World} {c : Nat} {x : Ac} (h : ActC w3 c 0 x) (hc : ∀ b o u, wo.heap.size ≤ b → w3.cell? ⟨b, o, none⟩ = some u → w4.cell? ⟨b, o, none⟩ = some u) (hb : wo.heap.size ≤ c) : ActC w4 c 0 x :=
  ⟨hc _ _ _ hb h.c0, hc _ _ _ hb h.c1, hc _ _ _ hb h.c2, hc _ _ _ hb h.c3, hc _ _ _ hb h.c4, hc _ _ _ hb h.c5, hc _ _ _ hb h.c6, hc _ _ _ hb h.c7, hc _ _ _ hb h.c8, hc _ _ _ hb h.c9, hc _ _ _ hb h.c10⟩
end Go.Proofs.Ytjmanajbdkbkdaa
