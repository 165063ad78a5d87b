/- A region's operations, looked up in a function's body. Printed by gen_apr.py. -/
import Derived.Test.YtfjccgihdnemkaaApl
namespace Go.Um
/-- a part of a function's body, by its path -/
def subC : List Nat → Code → Code
  | [], c => c
  | k :: p, c => match c with
    | .seq a b => subC p (if k = 0 then a else b)
    | .cond _ a b => subC p (if k = 0 then a else b)
    | .block _ c => subC p c
    | .loop c => subC p c
    | .scope c => subC p c
    | .rangeFunc _ _ a b => subC p (if k = 0 then a else b)
    | c => c
end Go.Um
namespace Go.Proofs.Ytfjccgihdnemkaa
open Go.RowKit Go.Um
structure ApCut (W1 : World) (N : Nat) (x0 : Int) (c14 c15 : Nat) (wx : World) : Prop where
  below : Below W1.heap.size W1 wx
  s14 : ∃ u, wx.cell? ⟨c14, 0, none⟩ = some u ∧ SetAt wx (.agg #[u]) (withN N x0)
  s15 : ∃ u, wx.cell? ⟨c15, 0, none⟩ = some u ∧ SetAt wx (.agg #[u]) (withoutN N x0)
end Go.Proofs.Ytfjccgihdnemkaa
