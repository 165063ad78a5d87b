/-
  No cell of these rows narrows 'for every input' (looked for: loops, veiled, ifaces, maps, wideKeys, modest, calm, conditions, laid).
  DERIVED. THE GIVEN ROWS OF THIS SEAT. 4 by the template 'for every input the law returns true; each argument reads behind the call as it read before'; 0 by the template 'total and deterministic' (their statements: YtgpfnlbhclefgaaTotals.lean).
  GIVEN WITH THE SEED: the statements are not yours to turn. If you find one false, say at which input.
  Laid BY PROGRAM, IN A SANDBOX (cutbox-rows.mjs): the forced cells as the released guide's own fill.sh prints them over the translation 3a7ec6b661e4a7e4… (all of the seat's roots in one cut). By AI agents, Wed Nov 11 2026. No macro, syntax, notation, axiom, sorry.
-/
import Derived.Test.YtgpfnlbhclefgaaChecked
import GoSem.Claim
import GoSem.ClaimJoined
import GoSem.ClaimMapViews
import Derived.JoinedTies
import Derived.KernelRfl
namespace Go.Proofs.Ytgpfnlbhclefgaa
/- THE CELL 'sum', in the pinned program and in every row, IS THE sha256 OF THE DUMP (.gsa) THAT YtgpfnlbhclefgaaProg.lean LOADS. Nothing in Lean hashes anything: it is a label: what it is worth is what the hold of that sum in a sandbox is worth. -/
noncomputable def Try.pinned : Pinned := { name := "ytgpfnlbhclefgaa", sum := "3a7ec6b661e4a7e442f5def19584079cad4ec89440e7c34440658cb76f294e23", checked := Try.checked }
namespace Rows
def none {H : Type} : Left H := { results := [], args := [] }

/-- 'umpirelaw17.MemoPlays': WHATEVER THE INPUT: true; the input reads as it did. -/
def memoPlaysSpec : ChangeSpec := { name := "memoPlays", fn := fun _ => fun
  | [d1, d2] => { results := [.lit (.bool true)], args := [d1, d2] }
  | _ => none }
def memoPlaysRow : OpenClaim := { program := "ytgpfnlbhclefgaa", sum := "3a7ec6b661e4a7e442f5def19584079cad4ec89440e7c34440658cb76f294e23", func := "umpire/umpirelaw17.MemoPlays", spec := "memoPlays", plainKeys := false, apart := false }
def MemoPlaysSaid : Prop := memoPlaysRow.holds Try.pinned (OpenSpec.ofChange memoPlaysSpec)

/-- ITS FALSE NEIGHBOUR: 'it returns false'. Refute it at one input. -/
def memoPlaysWrong : ChangeSpec := { name := "memoPlays", fn := fun _ => fun
  | [d1, d2] => { results := [.lit (.bool false)], args := [d1, d2] }
  | _ => none }
def MemoPlaysWrongFalsely : Prop := memoPlaysRow.holds Try.pinned (OpenSpec.ofChange memoPlaysWrong)

/-- 'umpirelaw17.MemoKnown': WHATEVER THE INPUT: true; the input reads as it did. -/
def memoKnownSpec : ChangeSpec := { name := "memoKnown", fn := fun _ => fun
  | [] => { results := [.lit (.bool true)], args := [] }
  | _ => none }
def memoKnownRow : OpenClaim := { program := "ytgpfnlbhclefgaa", sum := "3a7ec6b661e4a7e442f5def19584079cad4ec89440e7c34440658cb76f294e23", func := "umpire/umpirelaw17.MemoKnown", spec := "memoKnown", plainKeys := false, apart := false }
def MemoKnownSaid : Prop := memoKnownRow.holds Try.pinned (OpenSpec.ofChange memoKnownSpec)

/-- ITS FALSE NEIGHBOUR: 'it returns false'. Refute it at one input. -/
def memoKnownWrong : ChangeSpec := { name := "memoKnown", fn := fun _ => fun
  | [] => { results := [.lit (.bool false)], args := [] }
  | _ => none }
def MemoKnownWrongFalsely : Prop := memoKnownRow.holds Try.pinned (OpenSpec.ofChange memoKnownWrong)

/-- 'umpirelaw17.MemoApart': WHATEVER THE INPUT: true; the input reads as it did. -/
def memoApartSpec : ChangeSpec := { name := "memoApart", fn := fun _ => fun
  | [d1, d2] => { results := [.lit (.bool true)], args := [d1, d2] }
  | _ => none }
def memoApartRow : OpenClaim := { program := "ytgpfnlbhclefgaa", sum := "3a7ec6b661e4a7e442f5def19584079cad4ec89440e7c34440658cb76f294e23", func := "umpire/umpirelaw17.MemoApart", spec := "memoApart", plainKeys := false, apart := false }
def MemoApartSaid : Prop := memoApartRow.holds Try.pinned (OpenSpec.ofChange memoApartSpec)

/-- ITS FALSE NEIGHBOUR: 'it returns false'. Refute it at one input. -/
def memoApartWrong : ChangeSpec := { name := "memoApart", fn := fun _ => fun
  | [d1, d2] => { results := [.lit (.bool false)], args := [d1, d2] }
  | _ => none }
def MemoApartWrongFalsely : Prop := memoApartRow.holds Try.pinned (OpenSpec.ofChange memoApartWrong)

/-- 'umpirelaw17.MemoOnce': WHATEVER THE INPUT: true; the input reads as it did. -/
def memoOnceSpec : ChangeSpec := { name := "memoOnce", fn := fun _ => fun
  | [d] => { results := [.lit (.bool true)], args := [d] }
  | _ => none }
def memoOnceRow : OpenClaim := { program := "ytgpfnlbhclefgaa", sum := "3a7ec6b661e4a7e442f5def19584079cad4ec89440e7c34440658cb76f294e23", func := "umpire/umpirelaw17.MemoOnce", spec := "memoOnce", unfollowed := true, recurses := true, plainKeys := false, apart := false }
def MemoOnceSaid : Prop := memoOnceRow.holds Try.pinned (OpenSpec.ofChange memoOnceSpec)

/-- ITS FALSE NEIGHBOUR: 'it returns false'. Refute it at one input. -/
def memoOnceWrong : ChangeSpec := { name := "memoOnce", fn := fun _ => fun
  | [d] => { results := [.lit (.bool false)], args := [d] }
  | _ => none }
def MemoOnceWrongFalsely : Prop := memoOnceRow.holds Try.pinned (OpenSpec.ofChange memoOnceWrong)

/- THE SECOND FORM. 'bulk': how many values and letters a reading holds, each counted each time it is reached (what is shared counts as often as it is met; a slice's spare places count too). A statement '..UptoSaid' is the law's where the arguments, and the package variables that the reading takes, are together of bulk at most 1048576: NARROWER than '..Said'. Prove '..Said' where nothing that the law and all that it calls make is longer than what came in: it says more and counts as full. Else prove '..UptoSaid'. A law counts once. -/
mutual
def uptoBulk {H : Type} : DataW H → Nat
  | .lit (.string bytes) => bytes.length + 1
  | .lit _ => 1
  | .nil => 1
  | .ptr d => uptoBulk d + 1
  | .slice elems spare => uptoBulkAll elems + uptoBulkAll spare + 1
  | .agg parts => uptoBulkAll parts + 1
  | .iface _ d => uptoBulk d + 1
  | .map entries => uptoBulkEntries entries + 1
  | .held _ => 1
def uptoBulkAll {H : Type} : List (DataW H) → Nat
  | [] => 0
  | d :: r => uptoBulk d + uptoBulkAll r
def uptoBulkEntries {H : Type} : List (Lit × DataW H) → Nat
  | [] => 0
  | x :: r => uptoBulkEntry x + uptoBulkEntries r
def uptoBulkEntry {H : Type} : Lit × DataW H → Nat
  | (.string bytes, d) => bytes.length + uptoBulk d + 1
  | (_, d) => uptoBulk d + 1
 end
def uptoSmall : (H : Type) → List (DataW H) → Bool := fun _ ds => decide (uptoBulkAll ds ≤ 1048576)
def OpenSpec.upto (s : _root_.Go.ChangeSpec) : _root_.Go.OpenSpec := { _root_.Go.OpenSpec.ofChange s with cond := some uptoSmall }

/-- 'umpirelaw17.MemoPlays', WHERE WHAT IT READS IS OF BULK AT MOST 1048576: true; the input reads as it did. -/
def memoPlaysUptoRow : OpenClaim := { program := "ytgpfnlbhclefgaa", sum := "3a7ec6b661e4a7e442f5def19584079cad4ec89440e7c34440658cb76f294e23", func := "umpire/umpirelaw17.MemoPlays", spec := "memoPlays", plainKeys := false, apart := false, narrowed := true }
def MemoPlaysUptoSaid : Prop := memoPlaysUptoRow.holds Try.pinned (OpenSpec.upto memoPlaysSpec)

/-- 'umpirelaw17.MemoKnown', WHERE WHAT IT READS IS OF BULK AT MOST 1048576: true; the input reads as it did. -/
def memoKnownUptoRow : OpenClaim := { program := "ytgpfnlbhclefgaa", sum := "3a7ec6b661e4a7e442f5def19584079cad4ec89440e7c34440658cb76f294e23", func := "umpire/umpirelaw17.MemoKnown", spec := "memoKnown", plainKeys := false, apart := false, narrowed := true }
def MemoKnownUptoSaid : Prop := memoKnownUptoRow.holds Try.pinned (OpenSpec.upto memoKnownSpec)

/-- 'umpirelaw17.MemoApart', WHERE WHAT IT READS IS OF BULK AT MOST 1048576: true; the input reads as it did. -/
def memoApartUptoRow : OpenClaim := { program := "ytgpfnlbhclefgaa", sum := "3a7ec6b661e4a7e442f5def19584079cad4ec89440e7c34440658cb76f294e23", func := "umpire/umpirelaw17.MemoApart", spec := "memoApart", plainKeys := false, apart := false, narrowed := true }
def MemoApartUptoSaid : Prop := memoApartUptoRow.holds Try.pinned (OpenSpec.upto memoApartSpec)

/-- 'umpirelaw17.MemoOnce', WHERE WHAT IT READS IS OF BULK AT MOST 1048576: true; the input reads as it did. -/
def memoOnceUptoRow : OpenClaim := { program := "ytgpfnlbhclefgaa", sum := "3a7ec6b661e4a7e442f5def19584079cad4ec89440e7c34440658cb76f294e23", func := "umpire/umpirelaw17.MemoOnce", spec := "memoOnce", unfollowed := true, recurses := true, plainKeys := false, apart := false, narrowed := true }
def MemoOnceUptoSaid : Prop := memoOnceUptoRow.holds Try.pinned (OpenSpec.upto memoOnceSpec)

end Rows
end Go.Proofs.Ytgpfnlbhclefgaa
