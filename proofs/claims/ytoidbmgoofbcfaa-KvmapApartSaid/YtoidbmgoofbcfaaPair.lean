/- Two lists of the call's own that grow side by side: no program in sight. -/
import Derived.Test.YtoidbmgoofbcfaaGen
namespace Go.Um
open Go.RowKit
set_option linter.unusedSimpArgs false
set_option linter.unusedVariables false
structure Pair (w : World) (e1 s1 e2 s2 : Nat) (n m : Nat) (xs ys : List Value) (t1 t2 : Value) (wr : World) : Prop where
  o1 : wr.ownsRow w.heap.size e1 s1 t1 n xs
  o2 : wr.ownsRow w.heap.size e2 s2 t2 m ys
  ap : t1.ownBlock = none ∨ t1.ownBlock ≠ t2.ownBlock
  bel : Below w.heap.size w wr
variable {w wr w2 : World} {e1 s1 e2 s2 n m : Nat} {xs ys : List Value} {t1 t2 : Value}
theorem Pair.past (h : Pair w e1 s1 e2 s2 n m xs ys t1 t2 wr) (hb : Below wr.heap.size wr w2) : Pair w e1 s1 e2 s2 n m xs ys t1 t2 w2 :=
  ⟨own_past h.o1 hb, own_past h.o2 hb, h.ap, h.bel.trans (hb.mono h.bel.size)⟩
theorem Pair.put1 {cs : List Value} {g c k H : Nat} (h : Pair w e1 s1 e2 s2 n m xs ys t1 t2 wr) (hg : wr.grownBy w2 t1.ownBlock)
    (ho : w2.ownsRow w.heap.size e1 s1 (.slice (some ⟨g, 0, none⟩) k c) k (xs ++ cs)) (hH : H = wr.heap.size) (hat : t1.ownBlock = some g ∨ g = H) :
    Pair w e1 s1 e2 s2 k m (xs ++ cs) ys (.slice (some ⟨g, 0, none⟩) k c) t2 w2 := by
  refine ⟨ho, h.o2.kept hg ?_, .inr ?_, below_own h.bel h.o1 hg (Nat.le_refl _) h.bel.size⟩
  · rcases h.ap with e | e
    · rw [e]
      cases t2.ownBlock <;> simp
    · exact .inr (fun e' => e e'.symm)
  · intro e
    have hl := h.o2.lt g e.symm
    rcases hat with e' | e'
    · rcases h.ap with e2 | e2
      · rw [e2] at e'; cases e'
      · exact e2 (e'.trans e)
    · omega
theorem Pair.put2 {cs : List Value} {g c k H : Nat} (h : Pair w e1 s1 e2 s2 n m xs ys t1 t2 wr) (hg : wr.grownBy w2 t2.ownBlock)
    (ho : w2.ownsRow w.heap.size e2 s2 (.slice (some ⟨g, 0, none⟩) k c) k (ys ++ cs)) (hH : H = wr.heap.size) (hat : t2.ownBlock = some g ∨ g = H) :
    Pair w e1 s1 e2 s2 n k xs (ys ++ cs) t1 (.slice (some ⟨g, 0, none⟩) k c) w2 := by
  refine ⟨h.o1.kept hg h.ap, ho, ?_, below_own h.bel h.o2 hg (Nat.le_refl _) h.bel.size⟩
  rcases hat with e' | e'
  · rcases h.ap with e2 | e2
    · exact .inl e2
    · exact .inr (fun e => e2 (e.trans e'.symm))
  · right
    intro e
    have hl := h.o1.lt g e
    omega
theorem Pair.nil (w : World) (e1 s1 e2 s2 : Nat) : Pair w e1 s1 e2 s2 0 0 [] [] (.slice none 0 0) (.slice none 0 0) w :=
  ⟨World.ownsRow_nil _ _ _ _, World.ownsRow_nil _ _ _ _, .inl rfl, bz w⟩
end Go.Um
