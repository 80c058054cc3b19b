/-
  No cell of these rows narrows 'for every input' (looked for: loops, veiled, ifaces, maps, wideKeys, modest, calm, conditions, laid).
  DERIVED. THE GIVEN ROWS OF THIS SEAT. 10 by the template 'for every input the law returns true; each argument reads behind the call as it read before'; 0 by the template 'total and deterministic' (their statements: YtohkocaalbndoaaTotals.lean).
  GIVEN WITH THE SEED: the statements are not yours to turn. If you find one false, say at which input.
  Laid BY PROGRAM, IN A SANDBOX (cutbox-rows.mjs): the forced cells as the released guide's own fill.sh prints them over the translation f1e6658d51f2e516… (all of the seat's roots in one cut). By AI agents, Wed Nov 11 2026. No macro, syntax, notation, axiom, sorry.
-/
import Derived.Test.YtohkocaalbndoaaChecked
import GoSem.Claim
import GoSem.ClaimJoined
import GoSem.ClaimMapViews
import Derived.JoinedTies
import Derived.KernelRfl
namespace Go.Proofs.Ytohkocaalbndoaa
/- THE CELL 'sum', in the pinned program and in every row, IS THE sha256 OF THE DUMP (.gsa) THAT YtohkocaalbndoaaProg.lean LOADS. Nothing in Lean hashes anything: it is a label: what it is worth is what the hold of that sum in a sandbox is worth. -/
noncomputable def Try.pinned : Pinned := { name := "ytohkocaalbndoaa", sum := "f1e6658d51f2e51673decbd0acd8f468371b47b33296201fcaa07c91f0211a7e", checked := Try.checked }
namespace Rows
def none {H : Type} : Left H := { results := [], args := [] }

/-- 'laws.FnExactActOk': WHATEVER THE INPUT: true; the input reads as it did. -/
def fnExactActOkSpec : ChangeSpec := { name := "fnExactActOk", fn := fun _ => fun
  | [d] => { results := [.lit (.bool true)], args := [d] }
  | _ => none }
def fnExactActOkRow : OpenClaim := { program := "ytohkocaalbndoaa", sum := "f1e6658d51f2e51673decbd0acd8f468371b47b33296201fcaa07c91f0211a7e", func := "loop.example/g00984/laws.FnExactActOk", spec := "fnExactActOk", apart := false }
def FnExactActOkSaid : Prop := fnExactActOkRow.holds Try.pinned (OpenSpec.ofChange fnExactActOkSpec)

/-- ITS FALSE NEIGHBOUR: 'it returns false'. Refute it at one input. -/
def fnExactActOkWrong : ChangeSpec := { name := "fnExactActOk", fn := fun _ => fun
  | [d] => { results := [.lit (.bool false)], args := [d] }
  | _ => none }
def FnExactActOkWrongFalsely : Prop := fnExactActOkRow.holds Try.pinned (OpenSpec.ofChange fnExactActOkWrong)

/-- 'laws.FnExactIsUpDown': WHATEVER THE INPUT: true; the input reads as it did. -/
def fnExactIsUpDownSpec : ChangeSpec := { name := "fnExactIsUpDown", fn := fun _ => fun
  | [d1, d2] => { results := [.lit (.bool true)], args := [d1, d2] }
  | _ => none }
def fnExactIsUpDownRow : OpenClaim := { program := "ytohkocaalbndoaa", sum := "f1e6658d51f2e51673decbd0acd8f468371b47b33296201fcaa07c91f0211a7e", func := "loop.example/g00984/laws.FnExactIsUpDown", spec := "fnExactIsUpDown", apart := false }
def FnExactIsUpDownSaid : Prop := fnExactIsUpDownRow.holds Try.pinned (OpenSpec.ofChange fnExactIsUpDownSpec)

/-- ITS FALSE NEIGHBOUR: 'it returns false'. Refute it at one input. -/
def fnExactIsUpDownWrong : ChangeSpec := { name := "fnExactIsUpDown", fn := fun _ => fun
  | [d1, d2] => { results := [.lit (.bool false)], args := [d1, d2] }
  | _ => none }
def FnExactIsUpDownWrongFalsely : Prop := fnExactIsUpDownRow.holds Try.pinned (OpenSpec.ofChange fnExactIsUpDownWrong)

/-- 'laws.FnExactAncestorsOf': WHATEVER THE INPUT: true; the input reads as it did. -/
def fnExactAncestorsOfSpec : ChangeSpec := { name := "fnExactAncestorsOf", fn := fun _ => fun
  | [d1, d2] => { results := [.lit (.bool true)], args := [d1, d2] }
  | _ => none }
def fnExactAncestorsOfRow : OpenClaim := { program := "ytohkocaalbndoaa", sum := "f1e6658d51f2e51673decbd0acd8f468371b47b33296201fcaa07c91f0211a7e", func := "loop.example/g00984/laws.FnExactAncestorsOf", spec := "fnExactAncestorsOf", apart := false }
def FnExactAncestorsOfSaid : Prop := fnExactAncestorsOfRow.holds Try.pinned (OpenSpec.ofChange fnExactAncestorsOfSpec)

/-- ITS FALSE NEIGHBOUR: 'it returns false'. Refute it at one input. -/
def fnExactAncestorsOfWrong : ChangeSpec := { name := "fnExactAncestorsOf", fn := fun _ => fun
  | [d1, d2] => { results := [.lit (.bool false)], args := [d1, d2] }
  | _ => none }
def FnExactAncestorsOfWrongFalsely : Prop := fnExactAncestorsOfRow.holds Try.pinned (OpenSpec.ofChange fnExactAncestorsOfWrong)

/-- 'laws.FnExactCommonAncestor': WHATEVER THE INPUT: true; the input reads as it did. -/
def fnExactCommonAncestorSpec : ChangeSpec := { name := "fnExactCommonAncestor", fn := fun _ => fun
  | [d1, d2, d3] => { results := [.lit (.bool true)], args := [d1, d2, d3] }
  | _ => none }
def fnExactCommonAncestorRow : OpenClaim := { program := "ytohkocaalbndoaa", sum := "f1e6658d51f2e51673decbd0acd8f468371b47b33296201fcaa07c91f0211a7e", func := "loop.example/g00984/laws.FnExactCommonAncestor", spec := "fnExactCommonAncestor", apart := false }
def FnExactCommonAncestorSaid : Prop := fnExactCommonAncestorRow.holds Try.pinned (OpenSpec.ofChange fnExactCommonAncestorSpec)

/-- ITS FALSE NEIGHBOUR: 'it returns false'. Refute it at one input. -/
def fnExactCommonAncestorWrong : ChangeSpec := { name := "fnExactCommonAncestor", fn := fun _ => fun
  | [d1, d2, d3] => { results := [.lit (.bool false)], args := [d1, d2, d3] }
  | _ => none }
def FnExactCommonAncestorWrongFalsely : Prop := fnExactCommonAncestorRow.holds Try.pinned (OpenSpec.ofChange fnExactCommonAncestorWrong)

/-- 'laws.FnExactTreeNodes': WHATEVER THE INPUT: true; the input reads as it did. -/
def fnExactTreeNodesSpec : ChangeSpec := { name := "fnExactTreeNodes", fn := fun _ => fun
  | [d1, d2, d3] => { results := [.lit (.bool true)], args := [d1, d2, d3] }
  | _ => none }
def fnExactTreeNodesRow : OpenClaim := { program := "ytohkocaalbndoaa", sum := "f1e6658d51f2e51673decbd0acd8f468371b47b33296201fcaa07c91f0211a7e", func := "loop.example/g00984/laws.FnExactTreeNodes", spec := "fnExactTreeNodes", apart := false }
def FnExactTreeNodesSaid : Prop := fnExactTreeNodesRow.holds Try.pinned (OpenSpec.ofChange fnExactTreeNodesSpec)

/-- ITS FALSE NEIGHBOUR: 'it returns false'. Refute it at one input. -/
def fnExactTreeNodesWrong : ChangeSpec := { name := "fnExactTreeNodes", fn := fun _ => fun
  | [d1, d2, d3] => { results := [.lit (.bool false)], args := [d1, d2, d3] }
  | _ => none }
def FnExactTreeNodesWrongFalsely : Prop := fnExactTreeNodesRow.holds Try.pinned (OpenSpec.ofChange fnExactTreeNodesWrong)

/-- 'laws.FnLinks': WHATEVER THE INPUT: true; the input reads as it did. -/
def fnLinksSpec : ChangeSpec := { name := "fnLinks", fn := fun _ => fun
  | [d] => { results := [.lit (.bool true)], args := [d] }
  | _ => none }
def fnLinksRow : OpenClaim := { program := "ytohkocaalbndoaa", sum := "f1e6658d51f2e51673decbd0acd8f468371b47b33296201fcaa07c91f0211a7e", func := "loop.example/g00984/laws.FnLinks", spec := "fnLinks", apart := false }
def FnLinksSaid : Prop := fnLinksRow.holds Try.pinned (OpenSpec.ofChange fnLinksSpec)

/-- ITS FALSE NEIGHBOUR: 'it returns false'. Refute it at one input. -/
def fnLinksWrong : ChangeSpec := { name := "fnLinks", fn := fun _ => fun
  | [d] => { results := [.lit (.bool false)], args := [d] }
  | _ => none }
def FnLinksWrongFalsely : Prop := fnLinksRow.holds Try.pinned (OpenSpec.ofChange fnLinksWrong)

/-- 'laws.FnExactIsLink': WHATEVER THE INPUT: true; the input reads as it did. -/
def fnExactIsLinkSpec : ChangeSpec := { name := "fnExactIsLink", fn := fun _ => fun
  | [d1, d2] => { results := [.lit (.bool true)], args := [d1, d2] }
  | _ => none }
def fnExactIsLinkRow : OpenClaim := { program := "ytohkocaalbndoaa", sum := "f1e6658d51f2e51673decbd0acd8f468371b47b33296201fcaa07c91f0211a7e", func := "loop.example/g00984/laws.FnExactIsLink", spec := "fnExactIsLink", apart := false }
def FnExactIsLinkSaid : Prop := fnExactIsLinkRow.holds Try.pinned (OpenSpec.ofChange fnExactIsLinkSpec)

/-- ITS FALSE NEIGHBOUR: 'it returns false'. Refute it at one input. -/
def fnExactIsLinkWrong : ChangeSpec := { name := "fnExactIsLink", fn := fun _ => fun
  | [d1, d2] => { results := [.lit (.bool false)], args := [d1, d2] }
  | _ => none }
def FnExactIsLinkWrongFalsely : Prop := fnExactIsLinkRow.holds Try.pinned (OpenSpec.ofChange fnExactIsLinkWrong)

/-- 'laws.FnExactIsBranching': WHATEVER THE INPUT: true; the input reads as it did. -/
def fnExactIsBranchingSpec : ChangeSpec := { name := "fnExactIsBranching", fn := fun _ => fun
  | [d1, d2, d3] => { results := [.lit (.bool true)], args := [d1, d2, d3] }
  | _ => none }
def fnExactIsBranchingRow : OpenClaim := { program := "ytohkocaalbndoaa", sum := "f1e6658d51f2e51673decbd0acd8f468371b47b33296201fcaa07c91f0211a7e", func := "loop.example/g00984/laws.FnExactIsBranching", spec := "fnExactIsBranching", unfollowed := true, recurses := true, apart := false }
def FnExactIsBranchingSaid : Prop := fnExactIsBranchingRow.holds Try.pinned (OpenSpec.ofChange fnExactIsBranchingSpec)

/-- ITS FALSE NEIGHBOUR: 'it returns false'. Refute it at one input. -/
def fnExactIsBranchingWrong : ChangeSpec := { name := "fnExactIsBranching", fn := fun _ => fun
  | [d1, d2, d3] => { results := [.lit (.bool false)], args := [d1, d2, d3] }
  | _ => none }
def FnExactIsBranchingWrongFalsely : Prop := fnExactIsBranchingRow.holds Try.pinned (OpenSpec.ofChange fnExactIsBranchingWrong)

/-- 'laws.FnTrees': WHATEVER THE INPUT: true; the input reads as it did. -/
def fnTreesSpec : ChangeSpec := { name := "fnTrees", fn := fun _ => fun
  | [d] => { results := [.lit (.bool true)], args := [d] }
  | _ => none }
def fnTreesRow : OpenClaim := { program := "ytohkocaalbndoaa", sum := "f1e6658d51f2e51673decbd0acd8f468371b47b33296201fcaa07c91f0211a7e", func := "loop.example/g00984/laws.FnTrees", spec := "fnTrees", apart := false }
def FnTreesSaid : Prop := fnTreesRow.holds Try.pinned (OpenSpec.ofChange fnTreesSpec)

/-- ITS FALSE NEIGHBOUR: 'it returns false'. Refute it at one input. -/
def fnTreesWrong : ChangeSpec := { name := "fnTrees", fn := fun _ => fun
  | [d] => { results := [.lit (.bool false)], args := [d] }
  | _ => none }
def FnTreesWrongFalsely : Prop := fnTreesRow.holds Try.pinned (OpenSpec.ofChange fnTreesWrong)

/-- 'laws.FnExactIsConnected': WHATEVER THE INPUT: true; the input reads as it did. -/
def fnExactIsConnectedSpec : ChangeSpec := { name := "fnExactIsConnected", fn := fun _ => fun
  | [d] => { results := [.lit (.bool true)], args := [d] }
  | _ => none }
def fnExactIsConnectedRow : OpenClaim := { program := "ytohkocaalbndoaa", sum := "f1e6658d51f2e51673decbd0acd8f468371b47b33296201fcaa07c91f0211a7e", func := "loop.example/g00984/laws.FnExactIsConnected", spec := "fnExactIsConnected", apart := false }
def FnExactIsConnectedSaid : Prop := fnExactIsConnectedRow.holds Try.pinned (OpenSpec.ofChange fnExactIsConnectedSpec)

/-- ITS FALSE NEIGHBOUR: 'it returns false'. Refute it at one input. -/
def fnExactIsConnectedWrong : ChangeSpec := { name := "fnExactIsConnected", fn := fun _ => fun
  | [d] => { results := [.lit (.bool false)], args := [d] }
  | _ => none }
def FnExactIsConnectedWrongFalsely : Prop := fnExactIsConnectedRow.holds Try.pinned (OpenSpec.ofChange fnExactIsConnectedWrong)

/- THE SECOND FORM. 'bulk': how many values and letters a reading holds, each counted each time it is reached (what is shared counts as often as it is met; a slice's spare places count too). A statement '..UptoSaid' is the law's where the arguments, and the package variables that the reading takes, are together of bulk at most 1048576: NARROWER than '..Said'. Prove '..Said' where nothing that the law and all that it calls make is longer than what came in: it says more and counts as full. Else prove '..UptoSaid'. A law counts once. -/
mutual
def uptoBulk {H : Type} : DataW H → Nat
  | .lit (.string bytes) => bytes.length + 1
  | .lit _ => 1
  | .nil => 1
  | .ptr d => uptoBulk d + 1
  | .slice elems spare => uptoBulkAll elems + uptoBulkAll spare + 1
  | .agg parts => uptoBulkAll parts + 1
  | .iface _ d => uptoBulk d + 1
  | .map entries => uptoBulkEntries entries + 1
  | .held _ => 1
def uptoBulkAll {H : Type} : List (DataW H) → Nat
  | [] => 0
  | d :: r => uptoBulk d + uptoBulkAll r
def uptoBulkEntries {H : Type} : List (Lit × DataW H) → Nat
  | [] => 0
  | x :: r => uptoBulkEntry x + uptoBulkEntries r
def uptoBulkEntry {H : Type} : Lit × DataW H → Nat
  | (.string bytes, d) => bytes.length + uptoBulk d + 1
  | (_, d) => uptoBulk d + 1
 end
def uptoSmall : (H : Type) → List (DataW H) → Bool := fun _ ds => decide (uptoBulkAll ds ≤ 1048576)
def OpenSpec.upto (s : _root_.Go.ChangeSpec) : _root_.Go.OpenSpec := { _root_.Go.OpenSpec.ofChange s with cond := some uptoSmall }

/-- 'laws.FnExactActOk', WHERE WHAT IT READS IS OF BULK AT MOST 1048576: true; the input reads as it did. -/
def fnExactActOkUptoRow : OpenClaim := { program := "ytohkocaalbndoaa", sum := "f1e6658d51f2e51673decbd0acd8f468371b47b33296201fcaa07c91f0211a7e", func := "loop.example/g00984/laws.FnExactActOk", spec := "fnExactActOk", apart := false, narrowed := true }
def FnExactActOkUptoSaid : Prop := fnExactActOkUptoRow.holds Try.pinned (OpenSpec.upto fnExactActOkSpec)

/-- 'laws.FnExactIsUpDown', WHERE WHAT IT READS IS OF BULK AT MOST 1048576: true; the input reads as it did. -/
def fnExactIsUpDownUptoRow : OpenClaim := { program := "ytohkocaalbndoaa", sum := "f1e6658d51f2e51673decbd0acd8f468371b47b33296201fcaa07c91f0211a7e", func := "loop.example/g00984/laws.FnExactIsUpDown", spec := "fnExactIsUpDown", apart := false, narrowed := true }
def FnExactIsUpDownUptoSaid : Prop := fnExactIsUpDownUptoRow.holds Try.pinned (OpenSpec.upto fnExactIsUpDownSpec)

/-- 'laws.FnExactAncestorsOf', WHERE WHAT IT READS IS OF BULK AT MOST 1048576: true; the input reads as it did. -/
def fnExactAncestorsOfUptoRow : OpenClaim := { program := "ytohkocaalbndoaa", sum := "f1e6658d51f2e51673decbd0acd8f468371b47b33296201fcaa07c91f0211a7e", func := "loop.example/g00984/laws.FnExactAncestorsOf", spec := "fnExactAncestorsOf", apart := false, narrowed := true }
def FnExactAncestorsOfUptoSaid : Prop := fnExactAncestorsOfUptoRow.holds Try.pinned (OpenSpec.upto fnExactAncestorsOfSpec)

/-- 'laws.FnExactCommonAncestor', WHERE WHAT IT READS IS OF BULK AT MOST 1048576: true; the input reads as it did. -/
def fnExactCommonAncestorUptoRow : OpenClaim := { program := "ytohkocaalbndoaa", sum := "f1e6658d51f2e51673decbd0acd8f468371b47b33296201fcaa07c91f0211a7e", func := "loop.example/g00984/laws.FnExactCommonAncestor", spec := "fnExactCommonAncestor", apart := false, narrowed := true }
def FnExactCommonAncestorUptoSaid : Prop := fnExactCommonAncestorUptoRow.holds Try.pinned (OpenSpec.upto fnExactCommonAncestorSpec)

/-- 'laws.FnExactTreeNodes', WHERE WHAT IT READS IS OF BULK AT MOST 1048576: true; the input reads as it did. -/
def fnExactTreeNodesUptoRow : OpenClaim := { program := "ytohkocaalbndoaa", sum := "f1e6658d51f2e51673decbd0acd8f468371b47b33296201fcaa07c91f0211a7e", func := "loop.example/g00984/laws.FnExactTreeNodes", spec := "fnExactTreeNodes", apart := false, narrowed := true }
def FnExactTreeNodesUptoSaid : Prop := fnExactTreeNodesUptoRow.holds Try.pinned (OpenSpec.upto fnExactTreeNodesSpec)

/-- 'laws.FnLinks', WHERE WHAT IT READS IS OF BULK AT MOST 1048576: true; the input reads as it did. -/
def fnLinksUptoRow : OpenClaim := { program := "ytohkocaalbndoaa", sum := "f1e6658d51f2e51673decbd0acd8f468371b47b33296201fcaa07c91f0211a7e", func := "loop.example/g00984/laws.FnLinks", spec := "fnLinks", apart := false, narrowed := true }
def FnLinksUptoSaid : Prop := fnLinksUptoRow.holds Try.pinned (OpenSpec.upto fnLinksSpec)

/-- 'laws.FnExactIsLink', WHERE WHAT IT READS IS OF BULK AT MOST 1048576: true; the input reads as it did. -/
def fnExactIsLinkUptoRow : OpenClaim := { program := "ytohkocaalbndoaa", sum := "f1e6658d51f2e51673decbd0acd8f468371b47b33296201fcaa07c91f0211a7e", func := "loop.example/g00984/laws.FnExactIsLink", spec := "fnExactIsLink", apart := false, narrowed := true }
def FnExactIsLinkUptoSaid : Prop := fnExactIsLinkUptoRow.holds Try.pinned (OpenSpec.upto fnExactIsLinkSpec)

/-- 'laws.FnExactIsBranching', WHERE WHAT IT READS IS OF BULK AT MOST 1048576: true; the input reads as it did. -/
def fnExactIsBranchingUptoRow : OpenClaim := { program := "ytohkocaalbndoaa", sum := "f1e6658d51f2e51673decbd0acd8f468371b47b33296201fcaa07c91f0211a7e", func := "loop.example/g00984/laws.FnExactIsBranching", spec := "fnExactIsBranching", unfollowed := true, recurses := true, apart := false, narrowed := true }
def FnExactIsBranchingUptoSaid : Prop := fnExactIsBranchingUptoRow.holds Try.pinned (OpenSpec.upto fnExactIsBranchingSpec)

/-- 'laws.FnTrees', WHERE WHAT IT READS IS OF BULK AT MOST 1048576: true; the input reads as it did. -/
def fnTreesUptoRow : OpenClaim := { program := "ytohkocaalbndoaa", sum := "f1e6658d51f2e51673decbd0acd8f468371b47b33296201fcaa07c91f0211a7e", func := "loop.example/g00984/laws.FnTrees", spec := "fnTrees", apart := false, narrowed := true }
def FnTreesUptoSaid : Prop := fnTreesUptoRow.holds Try.pinned (OpenSpec.upto fnTreesSpec)

/-- 'laws.FnExactIsConnected', WHERE WHAT IT READS IS OF BULK AT MOST 1048576: true; the input reads as it did. -/
def fnExactIsConnectedUptoRow : OpenClaim := { program := "ytohkocaalbndoaa", sum := "f1e6658d51f2e51673decbd0acd8f468371b47b33296201fcaa07c91f0211a7e", func := "loop.example/g00984/laws.FnExactIsConnected", spec := "fnExactIsConnected", apart := false, narrowed := true }
def FnExactIsConnectedUptoSaid : Prop := fnExactIsConnectedUptoRow.holds Try.pinned (OpenSpec.upto fnExactIsConnectedSpec)

end Rows
end Go.Proofs.Ytohkocaalbndoaa
