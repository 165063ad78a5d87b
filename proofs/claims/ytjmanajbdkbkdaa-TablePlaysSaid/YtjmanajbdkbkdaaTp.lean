/- A part of a function's body, by its path. -/
import Derived.Test.YtjmanajbdkbkdaaTj
namespace Go.Um
/-- a part of a function's body, by its path -/
def subC : List Nat → Code → Code
  | [], c => c
  | k :: p, c => match c with
    | .seq a b => subC p (if k = 0 then a else b)
    | .cond _ a b => subC p (if k = 0 then a else b)
    | .block _ c => subC p c
    | .loop c => subC p c
    | .scope c => subC p c
    | .rangeFunc _ _ a b => subC p (if k = 0 then a else b)
    | c => c
end Go.Um
