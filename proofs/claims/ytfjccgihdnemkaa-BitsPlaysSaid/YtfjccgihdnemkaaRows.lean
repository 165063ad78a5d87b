/-
  No cell of these rows narrows 'for every input' (looked for: loops, veiled, ifaces, maps, wideKeys, modest, calm, conditions, laid).
  DERIVED. THE GIVEN ROWS OF THIS SEAT. 5 by the template 'for every input the law returns true; each argument reads behind the call as it read before'; 0 by the template 'total and deterministic' (their statements: YtfjccgihdnemkaaTotals.lean).
  GIVEN WITH THE SEED: the statements are not yours to turn. If you find one false, say at which input.
  Laid BY PROGRAM, IN A SANDBOX (cutbox-rows.mjs): the forced cells as the released guide's own fill.sh prints them over the translation 9abed3629d7510e5… (all of the seat's roots in one cut). By AI agents, Wed Nov 11 2026. No macro, syntax, notation, axiom, sorry.
-/
import Derived.Test.YtfjccgihdnemkaaChecked
import GoSem.Claim
import GoSem.ClaimJoined
import GoSem.ClaimMapViews
import Derived.JoinedTies
import Derived.KernelRfl
namespace Go.Proofs.Ytfjccgihdnemkaa
/- THE CELL 'sum', in the pinned program and in every row, IS THE sha256 OF THE DUMP (.gsa) THAT YtfjccgihdnemkaaProg.lean LOADS. Nothing in Lean hashes anything: it is a label: what it is worth is what the hold of that sum in a sandbox is worth. -/
noncomputable def Try.pinned : Pinned := { name := "ytfjccgihdnemkaa", sum := "9abed3629d7510e59949b48aa6a85acea7dcafbeef3ceb785773ea625e15229b", checked := Try.checked }
namespace Rows
def none {H : Type} : Left H := { results := [], args := [] }

/-- 'umpirelaw15.BitsDown': WHATEVER THE INPUT: true; the input reads as it did. -/
def bitsDownSpec : ChangeSpec := { name := "bitsDown", fn := fun _ => fun
  | [d1, d2, d3] => { results := [.lit (.bool true)], args := [d1, d2, d3] }
  | _ => none }
def bitsDownRow : OpenClaim := { program := "ytfjccgihdnemkaa", sum := "9abed3629d7510e59949b48aa6a85acea7dcafbeef3ceb785773ea625e15229b", func := "umpire/umpirelaw15.BitsDown", spec := "bitsDown", unfollowed := true, recurses := true, apart := false }
def BitsDownSaid : Prop := bitsDownRow.holds Try.pinned (OpenSpec.ofChange bitsDownSpec)

/-- ITS FALSE NEIGHBOUR: 'it returns false'. Refute it at one input. -/
def bitsDownWrong : ChangeSpec := { name := "bitsDown", fn := fun _ => fun
  | [d1, d2, d3] => { results := [.lit (.bool false)], args := [d1, d2, d3] }
  | _ => none }
def BitsDownWrongFalsely : Prop := bitsDownRow.holds Try.pinned (OpenSpec.ofChange bitsDownWrong)

/-- 'umpirelaw15.BitsKeys': WHATEVER THE INPUT: true; the input reads as it did. -/
def bitsKeysSpec : ChangeSpec := { name := "bitsKeys", fn := fun _ => fun
  | [d] => { results := [.lit (.bool true)], args := [d] }
  | _ => none }
def bitsKeysRow : OpenClaim := { program := "ytfjccgihdnemkaa", sum := "9abed3629d7510e59949b48aa6a85acea7dcafbeef3ceb785773ea625e15229b", func := "umpire/umpirelaw15.BitsKeys", spec := "bitsKeys", unfollowed := true, recurses := true, apart := false }
def BitsKeysSaid : Prop := bitsKeysRow.holds Try.pinned (OpenSpec.ofChange bitsKeysSpec)

/-- ITS FALSE NEIGHBOUR: 'it returns false'. Refute it at one input. -/
def bitsKeysWrong : ChangeSpec := { name := "bitsKeys", fn := fun _ => fun
  | [d] => { results := [.lit (.bool false)], args := [d] }
  | _ => none }
def BitsKeysWrongFalsely : Prop := bitsKeysRow.holds Try.pinned (OpenSpec.ofChange bitsKeysWrong)

/-- 'umpirelaw15.BitsPlays': WHATEVER THE INPUT: true; the input reads as it did. -/
def bitsPlaysSpec : ChangeSpec := { name := "bitsPlays", fn := fun _ => fun
  | [d] => { results := [.lit (.bool true)], args := [d] }
  | _ => none }
def bitsPlaysRow : OpenClaim := { program := "ytfjccgihdnemkaa", sum := "9abed3629d7510e59949b48aa6a85acea7dcafbeef3ceb785773ea625e15229b", func := "umpire/umpirelaw15.BitsPlays", spec := "bitsPlays", unfollowed := true, recurses := true, apart := false }
def BitsPlaysSaid : Prop := bitsPlaysRow.holds Try.pinned (OpenSpec.ofChange bitsPlaysSpec)

/-- ITS FALSE NEIGHBOUR: 'it returns false'. Refute it at one input. -/
def bitsPlaysWrong : ChangeSpec := { name := "bitsPlays", fn := fun _ => fun
  | [d] => { results := [.lit (.bool false)], args := [d] }
  | _ => none }
def BitsPlaysWrongFalsely : Prop := bitsPlaysRow.holds Try.pinned (OpenSpec.ofChange bitsPlaysWrong)

/-- 'umpirelaw15.BitsApart': WHATEVER THE INPUT: true; the input reads as it did. -/
def bitsApartSpec : ChangeSpec := { name := "bitsApart", fn := fun _ => fun
  | [d1, d2, d3] => { results := [.lit (.bool true)], args := [d1, d2, d3] }
  | _ => none }
def bitsApartRow : OpenClaim := { program := "ytfjccgihdnemkaa", sum := "9abed3629d7510e59949b48aa6a85acea7dcafbeef3ceb785773ea625e15229b", func := "umpire/umpirelaw15.BitsApart", spec := "bitsApart", unfollowed := true, recurses := true, apart := false }
def BitsApartSaid : Prop := bitsApartRow.holds Try.pinned (OpenSpec.ofChange bitsApartSpec)

/-- ITS FALSE NEIGHBOUR: 'it returns false'. Refute it at one input. -/
def bitsApartWrong : ChangeSpec := { name := "bitsApart", fn := fun _ => fun
  | [d1, d2, d3] => { results := [.lit (.bool false)], args := [d1, d2, d3] }
  | _ => none }
def BitsApartWrongFalsely : Prop := bitsApartRow.holds Try.pinned (OpenSpec.ofChange bitsApartWrong)

/-- 'umpirelaw15.BitsKnown': WHATEVER THE INPUT: true; the input reads as it did. -/
def bitsKnownSpec : ChangeSpec := { name := "bitsKnown", fn := fun _ => fun
  | [] => { results := [.lit (.bool true)], args := [] }
  | _ => none }
def bitsKnownRow : OpenClaim := { program := "ytfjccgihdnemkaa", sum := "9abed3629d7510e59949b48aa6a85acea7dcafbeef3ceb785773ea625e15229b", func := "umpire/umpirelaw15.BitsKnown", spec := "bitsKnown", inPlace := ["internal/abi.NoEscape", "internal/bytealg.MakeNoZero"], unfollowed := true, recurses := true, apart := false }
def BitsKnownSaid : Prop := bitsKnownRow.holds Try.pinned (OpenSpec.ofChange bitsKnownSpec)

/-- ITS FALSE NEIGHBOUR: 'it returns false'. Refute it at one input. -/
def bitsKnownWrong : ChangeSpec := { name := "bitsKnown", fn := fun _ => fun
  | [] => { results := [.lit (.bool false)], args := [] }
  | _ => none }
def BitsKnownWrongFalsely : Prop := bitsKnownRow.holds Try.pinned (OpenSpec.ofChange bitsKnownWrong)

/- THE SECOND FORM. 'bulk': how many values and letters a reading holds, each counted each time it is reached (what is shared counts as often as it is met; a slice's spare places count too). A statement '..UptoSaid' is the law's where the arguments, and the package variables that the reading takes, are together of bulk at most 1048576: NARROWER than '..Said'. Prove '..Said' where nothing that the law and all that it calls make is longer than what came in: it says more and counts as full. Else prove '..UptoSaid'. A law counts once. -/
mutual
def uptoBulk {H : Type} : DataW H → Nat
  | .lit (.string bytes) => bytes.length + 1
  | .lit _ => 1
  | .nil => 1
  | .ptr d => uptoBulk d + 1
  | .slice elems spare => uptoBulkAll elems + uptoBulkAll spare + 1
  | .agg parts => uptoBulkAll parts + 1
  | .iface _ d => uptoBulk d + 1
  | .map entries => uptoBulkEntries entries + 1
  | .held _ => 1
def uptoBulkAll {H : Type} : List (DataW H) → Nat
  | [] => 0
  | d :: r => uptoBulk d + uptoBulkAll r
def uptoBulkEntries {H : Type} : List (Lit × DataW H) → Nat
  | [] => 0
  | x :: r => uptoBulkEntry x + uptoBulkEntries r
def uptoBulkEntry {H : Type} : Lit × DataW H → Nat
  | (.string bytes, d) => bytes.length + uptoBulk d + 1
  | (_, d) => uptoBulk d + 1
 end
def uptoSmall : (H : Type) → List (DataW H) → Bool := fun _ ds => decide (uptoBulkAll ds ≤ 1048576)
def OpenSpec.upto (s : _root_.Go.ChangeSpec) : _root_.Go.OpenSpec := { _root_.Go.OpenSpec.ofChange s with cond := some uptoSmall }

/-- 'umpirelaw15.BitsDown', WHERE WHAT IT READS IS OF BULK AT MOST 1048576: true; the input reads as it did. -/
def bitsDownUptoRow : OpenClaim := { program := "ytfjccgihdnemkaa", sum := "9abed3629d7510e59949b48aa6a85acea7dcafbeef3ceb785773ea625e15229b", func := "umpire/umpirelaw15.BitsDown", spec := "bitsDown", unfollowed := true, recurses := true, apart := false, narrowed := true }
def BitsDownUptoSaid : Prop := bitsDownUptoRow.holds Try.pinned (OpenSpec.upto bitsDownSpec)

/-- 'umpirelaw15.BitsKeys', WHERE WHAT IT READS IS OF BULK AT MOST 1048576: true; the input reads as it did. -/
def bitsKeysUptoRow : OpenClaim := { program := "ytfjccgihdnemkaa", sum := "9abed3629d7510e59949b48aa6a85acea7dcafbeef3ceb785773ea625e15229b", func := "umpire/umpirelaw15.BitsKeys", spec := "bitsKeys", unfollowed := true, recurses := true, apart := false, narrowed := true }
def BitsKeysUptoSaid : Prop := bitsKeysUptoRow.holds Try.pinned (OpenSpec.upto bitsKeysSpec)

/-- 'umpirelaw15.BitsPlays', WHERE WHAT IT READS IS OF BULK AT MOST 1048576: true; the input reads as it did. -/
def bitsPlaysUptoRow : OpenClaim := { program := "ytfjccgihdnemkaa", sum := "9abed3629d7510e59949b48aa6a85acea7dcafbeef3ceb785773ea625e15229b", func := "umpire/umpirelaw15.BitsPlays", spec := "bitsPlays", unfollowed := true, recurses := true, apart := false, narrowed := true }
def BitsPlaysUptoSaid : Prop := bitsPlaysUptoRow.holds Try.pinned (OpenSpec.upto bitsPlaysSpec)

/-- 'umpirelaw15.BitsApart', WHERE WHAT IT READS IS OF BULK AT MOST 1048576: true; the input reads as it did. -/
def bitsApartUptoRow : OpenClaim := { program := "ytfjccgihdnemkaa", sum := "9abed3629d7510e59949b48aa6a85acea7dcafbeef3ceb785773ea625e15229b", func := "umpire/umpirelaw15.BitsApart", spec := "bitsApart", unfollowed := true, recurses := true, apart := false, narrowed := true }
def BitsApartUptoSaid : Prop := bitsApartUptoRow.holds Try.pinned (OpenSpec.upto bitsApartSpec)

/-- 'umpirelaw15.BitsKnown', WHERE WHAT IT READS IS OF BULK AT MOST 1048576: true; the input reads as it did. -/
def bitsKnownUptoRow : OpenClaim := { program := "ytfjccgihdnemkaa", sum := "9abed3629d7510e59949b48aa6a85acea7dcafbeef3ceb785773ea625e15229b", func := "umpire/umpirelaw15.BitsKnown", spec := "bitsKnown", inPlace := ["internal/abi.NoEscape", "internal/bytealg.MakeNoZero"], unfollowed := true, recurses := true, apart := false, narrowed := true }
def BitsKnownUptoSaid : Prop := bitsKnownUptoRow.holds Try.pinned (OpenSpec.upto bitsKnownSpec)

end Rows
end Go.Proofs.Ytfjccgihdnemkaa
