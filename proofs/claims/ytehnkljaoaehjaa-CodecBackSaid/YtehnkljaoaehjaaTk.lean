/- Laws for taking a drawn region's operations by hand. -/
import Derived.Test.YtehnkljaoaehjaaRd
import Derived.Deep.RegionHeld3
namespace Go.Um
theorem takeE {P : Program} {ops : Array Oper} {Q : Exit → Act → World → Prop} {md : Region.Mode} {S : World → Prop} {i : Nat} {oi : Oper} {v : Value} {fuel : Nat} {listed : Array Bool} {a : Act} {w : World} (d : Option Tmp) (hi : ops[i]? = some oi) (hd : oi.dst = d)
    (hs : Region.noSelect ops = true) (hf : Region.free md ops listed i = true) (hr : (Region.ready md ops listed).contains i = true)
    (hQ : ∀ c a w, Q (.panic c) (a.put oi.dst v) w → Q (.panic c) a w) (hy : YieldsIf P ops S oi v a) (hS : S w)
    (h : wpAnyH P md ops Q S fuel (listed.setIfInBounds i true) (a.put d v) w) : wpAnyH P md ops Q S (fuel + 1) listed a w := by
  subst hd
  exact wpAnyH_take hi hs hf hr hQ hy hS h
/-- what is held may be made stronger on the way -/
theorem wpAnyH_grow {P : Program} {ops : Array Oper} {Q : Exit → Act → World → Prop} {md : Region.Mode} {S1 S2 : World → Prop} (hS : ∀ w, S2 w → S1 w) :
    ∀ (fuel : Nat) (listed : Array Bool) (a : Act) (w : World), wpAnyH P md ops Q S2 fuel listed a w → wpAnyH P md ops Q S1 fuel listed a w
  | 0, _, _, _, h => h
  | fuel + 1, _, _, _, h => ⟨h.1, fun i hi => wpOp_mono (fun a' w' h' => ⟨hS _ h'.1, wpAnyH_grow hS fuel _ a' w' h'.2⟩) (h.2 i hi)⟩
end Go.Um
namespace Go.Proofs.Ytehnkljaoaehjaa
open Go.RowKit Go.Um
set_option linter.unusedSimpArgs false
set_option linter.unusedVariables false
theorem load_int {w : World} {b a : Nat} {u : Value} (h0 : w.cell? ⟨b, a, none⟩ = some u) {ev : Operand → Value} {x : Operand} (hx : ev x = .pointer (some ⟨b, a, none⟩)) {d : Option Tmp} {ty : TypeId} {ps : String} {af : Array Edge} {g : Option (Nat × Bool)} :
    (execOp ev { dst := d, op := .load 3 x, type := ty, pos := ps, after := af, guard := g }).run Try.prog w = .ok (.value u) w := by
  simp [execOp, hx, go_sem, h0]
theorem load_string {w : World} {b a : Nat} {T : ByteArray} (h0 : w.cell? ⟨b, a, none⟩ = some (.string T)) {ev : Operand → Value} {x : Operand} (hx : ev x = .pointer (some ⟨b, a, none⟩)) {d : Option Tmp} {ty : TypeId} {ps : String} {af : Array Edge} {g : Option (Nat × Bool)} :
    (execOp ev { dst := d, op := .load 9 x, type := ty, pos := ps, after := af, guard := g }).run Try.prog w = .ok (.value (.string T)) w := by
  simp [execOp, hx, go_sem, h0]
theorem dd_ (w : World) (a b : Nat) : (w.drewN a).drewN b = w.drewN (a + b) := by simp [World.drewN, Nat.add_assoc]
theorem bdd_ (w : World) (a b : Nat) : Below (w.drewN a).heap.size (w.drewN a) (w.drewN (a + b)) := by
  rw [← dd_]; exact below_drewN (bz _) _
theorem bdd2_ {B a : Nat} {v w : World} (h : Below B v (w.drewN a)) (b : Nat) : Below B v (w.drewN (a + b)) := by
  rw [← dd_]; exact below_drewN h _
end Go.Proofs.Ytehnkljaoaehjaa
