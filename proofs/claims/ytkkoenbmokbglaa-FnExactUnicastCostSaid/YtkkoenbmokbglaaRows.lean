/-
  No cell of these rows narrows 'for every input' (looked for: loops, veiled, ifaces, maps, wideKeys, modest, calm, conditions, laid).
  DERIVED. THE GIVEN ROWS OF THIS SEAT. 10 by the template 'for every input the law returns true; each argument reads behind the call as it read before'; 0 by the template 'total and deterministic' (their statements: YtkkoenbmokbglaaTotals.lean).
  GIVEN WITH THE SEED: the statements are not yours to turn. If you find one false, say at which input.
  Laid BY PROGRAM, IN A SANDBOX (cutbox-rows.mjs): the forced cells as the released guide's own fill.sh prints them over the translation a994493fa60d1195… (all of the seat's roots in one cut). By AI agents, Wed Nov 11 2026. No macro, syntax, notation, axiom, sorry.
-/
import Derived.Test.YtkkoenbmokbglaaChecked
import GoSem.Claim
import GoSem.ClaimJoined
import GoSem.ClaimMapViews
import Derived.JoinedTies
import Derived.KernelRfl
namespace Go.Proofs.Ytkkoenbmokbglaa
/- THE CELL 'sum', in the pinned program and in every row, IS THE sha256 OF THE DUMP (.gsa) THAT YtkkoenbmokbglaaProg.lean LOADS. Nothing in Lean hashes anything: it is a label: what it is worth is what the hold of that sum in a sandbox is worth. -/
noncomputable def Try.pinned : Pinned := { name := "ytkkoenbmokbglaa", sum := "a994493fa60d119587ff902bd0b97725eaf9908f66d8d0ad61df371bb89f566b", checked := Try.checked }
namespace Rows
def none {H : Type} : Left H := { results := [], args := [] }

/-- 'laws.FnExactUnicastCost': WHATEVER THE INPUT: true; the input reads as it did. -/
def fnExactUnicastCostSpec : ChangeSpec := { name := "fnExactUnicastCost", fn := fun _ => fun
  | [d1, d2, d3, d4] => { results := [.lit (.bool true)], args := [d1, d2, d3, d4] }
  | _ => none }
def fnExactUnicastCostRow : OpenClaim := { program := "ytkkoenbmokbglaa", sum := "a994493fa60d119587ff902bd0b97725eaf9908f66d8d0ad61df371bb89f566b", func := "loop.example/g00984/laws.FnExactUnicastCost", spec := "fnExactUnicastCost", unfollowed := true, recurses := true, apart := false }
def FnExactUnicastCostSaid : Prop := fnExactUnicastCostRow.holds Try.pinned (OpenSpec.ofChange fnExactUnicastCostSpec)

/-- ITS FALSE NEIGHBOUR: 'it returns false'. Refute it at one input. -/
def fnExactUnicastCostWrong : ChangeSpec := { name := "fnExactUnicastCost", fn := fun _ => fun
  | [d1, d2, d3, d4] => { results := [.lit (.bool false)], args := [d1, d2, d3, d4] }
  | _ => none }
def FnExactUnicastCostWrongFalsely : Prop := fnExactUnicastCostRow.holds Try.pinned (OpenSpec.ofChange fnExactUnicastCostWrong)

/-- 'laws.FnExactTreeDepths': WHATEVER THE INPUT: true; the input reads as it did. -/
def fnExactTreeDepthsSpec : ChangeSpec := { name := "fnExactTreeDepths", fn := fun _ => fun
  | [d1, d2] => { results := [.lit (.bool true)], args := [d1, d2] }
  | _ => none }
def fnExactTreeDepthsRow : OpenClaim := { program := "ytkkoenbmokbglaa", sum := "a994493fa60d119587ff902bd0b97725eaf9908f66d8d0ad61df371bb89f566b", func := "loop.example/g00984/laws.FnExactTreeDepths", spec := "fnExactTreeDepths", apart := false }
def FnExactTreeDepthsSaid : Prop := fnExactTreeDepthsRow.holds Try.pinned (OpenSpec.ofChange fnExactTreeDepthsSpec)

/-- ITS FALSE NEIGHBOUR: 'it returns false'. Refute it at one input. -/
def fnExactTreeDepthsWrong : ChangeSpec := { name := "fnExactTreeDepths", fn := fun _ => fun
  | [d1, d2] => { results := [.lit (.bool false)], args := [d1, d2] }
  | _ => none }
def FnExactTreeDepthsWrongFalsely : Prop := fnExactTreeDepthsRow.holds Try.pinned (OpenSpec.ofChange fnExactTreeDepthsWrong)

/-- 'laws.FnExactDepthOfTree': WHATEVER THE INPUT: true; the input reads as it did. -/
def fnExactDepthOfTreeSpec : ChangeSpec := { name := "fnExactDepthOfTree", fn := fun _ => fun
  | [d1, d2] => { results := [.lit (.bool true)], args := [d1, d2] }
  | _ => none }
def fnExactDepthOfTreeRow : OpenClaim := { program := "ytkkoenbmokbglaa", sum := "a994493fa60d119587ff902bd0b97725eaf9908f66d8d0ad61df371bb89f566b", func := "loop.example/g00984/laws.FnExactDepthOfTree", spec := "fnExactDepthOfTree", apart := false }
def FnExactDepthOfTreeSaid : Prop := fnExactDepthOfTreeRow.holds Try.pinned (OpenSpec.ofChange fnExactDepthOfTreeSpec)

/-- ITS FALSE NEIGHBOUR: 'it returns false'. Refute it at one input. -/
def fnExactDepthOfTreeWrong : ChangeSpec := { name := "fnExactDepthOfTree", fn := fun _ => fun
  | [d1, d2] => { results := [.lit (.bool false)], args := [d1, d2] }
  | _ => none }
def FnExactDepthOfTreeWrongFalsely : Prop := fnExactDepthOfTreeRow.holds Try.pinned (OpenSpec.ofChange fnExactDepthOfTreeWrong)

/-- 'laws.FnUpDown': WHATEVER THE INPUT: true; the input reads as it did. -/
def fnUpDownSpec : ChangeSpec := { name := "fnUpDown", fn := fun _ => fun
  | [d] => { results := [.lit (.bool true)], args := [d] }
  | _ => none }
def fnUpDownRow : OpenClaim := { program := "ytkkoenbmokbglaa", sum := "a994493fa60d119587ff902bd0b97725eaf9908f66d8d0ad61df371bb89f566b", func := "loop.example/g00984/laws.FnUpDown", spec := "fnUpDown", apart := false }
def FnUpDownSaid : Prop := fnUpDownRow.holds Try.pinned (OpenSpec.ofChange fnUpDownSpec)

/-- ITS FALSE NEIGHBOUR: 'it returns false'. Refute it at one input. -/
def fnUpDownWrong : ChangeSpec := { name := "fnUpDown", fn := fun _ => fun
  | [d] => { results := [.lit (.bool false)], args := [d] }
  | _ => none }
def FnUpDownWrongFalsely : Prop := fnUpDownRow.holds Try.pinned (OpenSpec.ofChange fnUpDownWrong)

/-- 'laws.FnExactTreeParents': WHATEVER THE INPUT: true; the input reads as it did. -/
def fnExactTreeParentsSpec : ChangeSpec := { name := "fnExactTreeParents", fn := fun _ => fun
  | [d1, d2] => { results := [.lit (.bool true)], args := [d1, d2] }
  | _ => none }
def fnExactTreeParentsRow : OpenClaim := { program := "ytkkoenbmokbglaa", sum := "a994493fa60d119587ff902bd0b97725eaf9908f66d8d0ad61df371bb89f566b", func := "loop.example/g00984/laws.FnExactTreeParents", spec := "fnExactTreeParents", apart := false }
def FnExactTreeParentsSaid : Prop := fnExactTreeParentsRow.holds Try.pinned (OpenSpec.ofChange fnExactTreeParentsSpec)

/-- ITS FALSE NEIGHBOUR: 'it returns false'. Refute it at one input. -/
def fnExactTreeParentsWrong : ChangeSpec := { name := "fnExactTreeParents", fn := fun _ => fun
  | [d1, d2] => { results := [.lit (.bool false)], args := [d1, d2] }
  | _ => none }
def FnExactTreeParentsWrongFalsely : Prop := fnExactTreeParentsRow.holds Try.pinned (OpenSpec.ofChange fnExactTreeParentsWrong)

/-- 'laws.FnLineDetours': WHATEVER THE INPUT: true; the input reads as it did. -/
def fnLineDetoursSpec : ChangeSpec := { name := "fnLineDetours", fn := fun _ => fun
  | [d] => { results := [.lit (.bool true)], args := [d] }
  | _ => none }
def fnLineDetoursRow : OpenClaim := { program := "ytkkoenbmokbglaa", sum := "a994493fa60d119587ff902bd0b97725eaf9908f66d8d0ad61df371bb89f566b", func := "loop.example/g00984/laws.FnLineDetours", spec := "fnLineDetours", unfollowed := true, recurses := true, apart := false }
def FnLineDetoursSaid : Prop := fnLineDetoursRow.holds Try.pinned (OpenSpec.ofChange fnLineDetoursSpec)

/-- ITS FALSE NEIGHBOUR: 'it returns false'. Refute it at one input. -/
def fnLineDetoursWrong : ChangeSpec := { name := "fnLineDetours", fn := fun _ => fun
  | [d] => { results := [.lit (.bool false)], args := [d] }
  | _ => none }
def FnLineDetoursWrongFalsely : Prop := fnLineDetoursRow.holds Try.pinned (OpenSpec.ofChange fnLineDetoursWrong)

/-- 'laws.FnAncestors': WHATEVER THE INPUT: true; the input reads as it did. -/
def fnAncestorsSpec : ChangeSpec := { name := "fnAncestors", fn := fun _ => fun
  | [d] => { results := [.lit (.bool true)], args := [d] }
  | _ => none }
def fnAncestorsRow : OpenClaim := { program := "ytkkoenbmokbglaa", sum := "a994493fa60d119587ff902bd0b97725eaf9908f66d8d0ad61df371bb89f566b", func := "loop.example/g00984/laws.FnAncestors", spec := "fnAncestors", apart := false }
def FnAncestorsSaid : Prop := fnAncestorsRow.holds Try.pinned (OpenSpec.ofChange fnAncestorsSpec)

/-- ITS FALSE NEIGHBOUR: 'it returns false'. Refute it at one input. -/
def fnAncestorsWrong : ChangeSpec := { name := "fnAncestors", fn := fun _ => fun
  | [d] => { results := [.lit (.bool false)], args := [d] }
  | _ => none }
def FnAncestorsWrongFalsely : Prop := fnAncestorsRow.holds Try.pinned (OpenSpec.ofChange fnAncestorsWrong)

/-- 'laws.FnExactBestRoot': WHATEVER THE INPUT: true; the input reads as it did. -/
def fnExactBestRootSpec : ChangeSpec := { name := "fnExactBestRoot", fn := fun _ => fun
  | [d] => { results := [.lit (.bool true)], args := [d] }
  | _ => none }
def fnExactBestRootRow : OpenClaim := { program := "ytkkoenbmokbglaa", sum := "a994493fa60d119587ff902bd0b97725eaf9908f66d8d0ad61df371bb89f566b", func := "loop.example/g00984/laws.FnExactBestRoot", spec := "fnExactBestRoot", apart := false }
def FnExactBestRootSaid : Prop := fnExactBestRootRow.holds Try.pinned (OpenSpec.ofChange fnExactBestRootSpec)

/-- ITS FALSE NEIGHBOUR: 'it returns false'. Refute it at one input. -/
def fnExactBestRootWrong : ChangeSpec := { name := "fnExactBestRoot", fn := fun _ => fun
  | [d] => { results := [.lit (.bool false)], args := [d] }
  | _ => none }
def FnExactBestRootWrongFalsely : Prop := fnExactBestRootRow.holds Try.pinned (OpenSpec.ofChange fnExactBestRootWrong)

/-- 'laws.FnExactReplyTime': WHATEVER THE INPUT: true; the input reads as it did. -/
def fnExactReplyTimeSpec : ChangeSpec := { name := "fnExactReplyTime", fn := fun _ => fun
  | [d1, d2, d3, d4] => { results := [.lit (.bool true)], args := [d1, d2, d3, d4] }
  | _ => none }
def fnExactReplyTimeRow : OpenClaim := { program := "ytkkoenbmokbglaa", sum := "a994493fa60d119587ff902bd0b97725eaf9908f66d8d0ad61df371bb89f566b", func := "loop.example/g00984/laws.FnExactReplyTime", spec := "fnExactReplyTime", unfollowed := true, recurses := true, apart := false }
def FnExactReplyTimeSaid : Prop := fnExactReplyTimeRow.holds Try.pinned (OpenSpec.ofChange fnExactReplyTimeSpec)

/-- ITS FALSE NEIGHBOUR: 'it returns false'. Refute it at one input. -/
def fnExactReplyTimeWrong : ChangeSpec := { name := "fnExactReplyTime", fn := fun _ => fun
  | [d1, d2, d3, d4] => { results := [.lit (.bool false)], args := [d1, d2, d3, d4] }
  | _ => none }
def FnExactReplyTimeWrongFalsely : Prop := fnExactReplyTimeRow.holds Try.pinned (OpenSpec.ofChange fnExactReplyTimeWrong)

/-- 'laws.FnExactSameChip': WHATEVER THE INPUT: true; the input reads as it did. -/
def fnExactSameChipSpec : ChangeSpec := { name := "fnExactSameChip", fn := fun _ => fun
  | [d1, d2] => { results := [.lit (.bool true)], args := [d1, d2] }
  | _ => none }
def fnExactSameChipRow : OpenClaim := { program := "ytkkoenbmokbglaa", sum := "a994493fa60d119587ff902bd0b97725eaf9908f66d8d0ad61df371bb89f566b", func := "loop.example/g00984/laws.FnExactSameChip", spec := "fnExactSameChip", unfollowed := true, recurses := true, apart := false }
def FnExactSameChipSaid : Prop := fnExactSameChipRow.holds Try.pinned (OpenSpec.ofChange fnExactSameChipSpec)

/-- ITS FALSE NEIGHBOUR: 'it returns false'. Refute it at one input. -/
def fnExactSameChipWrong : ChangeSpec := { name := "fnExactSameChip", fn := fun _ => fun
  | [d1, d2] => { results := [.lit (.bool false)], args := [d1, d2] }
  | _ => none }
def FnExactSameChipWrongFalsely : Prop := fnExactSameChipRow.holds Try.pinned (OpenSpec.ofChange fnExactSameChipWrong)

/- THE SECOND FORM. 'bulk': how many values and letters a reading holds, each counted each time it is reached (what is shared counts as often as it is met; a slice's spare places count too). A statement '..UptoSaid' is the law's where the arguments, and the package variables that the reading takes, are together of bulk at most 1048576: NARROWER than '..Said'. Prove '..Said' where nothing that the law and all that it calls make is longer than what came in: it says more and counts as full. Else prove '..UptoSaid'. A law counts once. -/
mutual
def uptoBulk {H : Type} : DataW H → Nat
  | .lit (.string bytes) => bytes.length + 1
  | .lit _ => 1
  | .nil => 1
  | .ptr d => uptoBulk d + 1
  | .slice elems spare => uptoBulkAll elems + uptoBulkAll spare + 1
  | .agg parts => uptoBulkAll parts + 1
  | .iface _ d => uptoBulk d + 1
  | .map entries => uptoBulkEntries entries + 1
  | .held _ => 1
def uptoBulkAll {H : Type} : List (DataW H) → Nat
  | [] => 0
  | d :: r => uptoBulk d + uptoBulkAll r
def uptoBulkEntries {H : Type} : List (Lit × DataW H) → Nat
  | [] => 0
  | x :: r => uptoBulkEntry x + uptoBulkEntries r
def uptoBulkEntry {H : Type} : Lit × DataW H → Nat
  | (.string bytes, d) => bytes.length + uptoBulk d + 1
  | (_, d) => uptoBulk d + 1
 end
def uptoSmall : (H : Type) → List (DataW H) → Bool := fun _ ds => decide (uptoBulkAll ds ≤ 1048576)
def OpenSpec.upto (s : _root_.Go.ChangeSpec) : _root_.Go.OpenSpec := { _root_.Go.OpenSpec.ofChange s with cond := some uptoSmall }

/-- 'laws.FnExactUnicastCost', WHERE WHAT IT READS IS OF BULK AT MOST 1048576: true; the input reads as it did. -/
def fnExactUnicastCostUptoRow : OpenClaim := { program := "ytkkoenbmokbglaa", sum := "a994493fa60d119587ff902bd0b97725eaf9908f66d8d0ad61df371bb89f566b", func := "loop.example/g00984/laws.FnExactUnicastCost", spec := "fnExactUnicastCost", unfollowed := true, recurses := true, apart := false, narrowed := true }
def FnExactUnicastCostUptoSaid : Prop := fnExactUnicastCostUptoRow.holds Try.pinned (OpenSpec.upto fnExactUnicastCostSpec)

/-- 'laws.FnExactTreeDepths', WHERE WHAT IT READS IS OF BULK AT MOST 1048576: true; the input reads as it did. -/
def fnExactTreeDepthsUptoRow : OpenClaim := { program := "ytkkoenbmokbglaa", sum := "a994493fa60d119587ff902bd0b97725eaf9908f66d8d0ad61df371bb89f566b", func := "loop.example/g00984/laws.FnExactTreeDepths", spec := "fnExactTreeDepths", apart := false, narrowed := true }
def FnExactTreeDepthsUptoSaid : Prop := fnExactTreeDepthsUptoRow.holds Try.pinned (OpenSpec.upto fnExactTreeDepthsSpec)

/-- 'laws.FnExactDepthOfTree', WHERE WHAT IT READS IS OF BULK AT MOST 1048576: true; the input reads as it did. -/
def fnExactDepthOfTreeUptoRow : OpenClaim := { program := "ytkkoenbmokbglaa", sum := "a994493fa60d119587ff902bd0b97725eaf9908f66d8d0ad61df371bb89f566b", func := "loop.example/g00984/laws.FnExactDepthOfTree", spec := "fnExactDepthOfTree", apart := false, narrowed := true }
def FnExactDepthOfTreeUptoSaid : Prop := fnExactDepthOfTreeUptoRow.holds Try.pinned (OpenSpec.upto fnExactDepthOfTreeSpec)

/-- 'laws.FnUpDown', WHERE WHAT IT READS IS OF BULK AT MOST 1048576: true; the input reads as it did. -/
def fnUpDownUptoRow : OpenClaim := { program := "ytkkoenbmokbglaa", sum := "a994493fa60d119587ff902bd0b97725eaf9908f66d8d0ad61df371bb89f566b", func := "loop.example/g00984/laws.FnUpDown", spec := "fnUpDown", apart := false, narrowed := true }
def FnUpDownUptoSaid : Prop := fnUpDownUptoRow.holds Try.pinned (OpenSpec.upto fnUpDownSpec)

/-- 'laws.FnExactTreeParents', WHERE WHAT IT READS IS OF BULK AT MOST 1048576: true; the input reads as it did. -/
def fnExactTreeParentsUptoRow : OpenClaim := { program := "ytkkoenbmokbglaa", sum := "a994493fa60d119587ff902bd0b97725eaf9908f66d8d0ad61df371bb89f566b", func := "loop.example/g00984/laws.FnExactTreeParents", spec := "fnExactTreeParents", apart := false, narrowed := true }
def FnExactTreeParentsUptoSaid : Prop := fnExactTreeParentsUptoRow.holds Try.pinned (OpenSpec.upto fnExactTreeParentsSpec)

/-- 'laws.FnLineDetours', WHERE WHAT IT READS IS OF BULK AT MOST 1048576: true; the input reads as it did. -/
def fnLineDetoursUptoRow : OpenClaim := { program := "ytkkoenbmokbglaa", sum := "a994493fa60d119587ff902bd0b97725eaf9908f66d8d0ad61df371bb89f566b", func := "loop.example/g00984/laws.FnLineDetours", spec := "fnLineDetours", unfollowed := true, recurses := true, apart := false, narrowed := true }
def FnLineDetoursUptoSaid : Prop := fnLineDetoursUptoRow.holds Try.pinned (OpenSpec.upto fnLineDetoursSpec)

/-- 'laws.FnAncestors', WHERE WHAT IT READS IS OF BULK AT MOST 1048576: true; the input reads as it did. -/
def fnAncestorsUptoRow : OpenClaim := { program := "ytkkoenbmokbglaa", sum := "a994493fa60d119587ff902bd0b97725eaf9908f66d8d0ad61df371bb89f566b", func := "loop.example/g00984/laws.FnAncestors", spec := "fnAncestors", apart := false, narrowed := true }
def FnAncestorsUptoSaid : Prop := fnAncestorsUptoRow.holds Try.pinned (OpenSpec.upto fnAncestorsSpec)

/-- 'laws.FnExactBestRoot', WHERE WHAT IT READS IS OF BULK AT MOST 1048576: true; the input reads as it did. -/
def fnExactBestRootUptoRow : OpenClaim := { program := "ytkkoenbmokbglaa", sum := "a994493fa60d119587ff902bd0b97725eaf9908f66d8d0ad61df371bb89f566b", func := "loop.example/g00984/laws.FnExactBestRoot", spec := "fnExactBestRoot", apart := false, narrowed := true }
def FnExactBestRootUptoSaid : Prop := fnExactBestRootUptoRow.holds Try.pinned (OpenSpec.upto fnExactBestRootSpec)

/-- 'laws.FnExactReplyTime', WHERE WHAT IT READS IS OF BULK AT MOST 1048576: true; the input reads as it did. -/
def fnExactReplyTimeUptoRow : OpenClaim := { program := "ytkkoenbmokbglaa", sum := "a994493fa60d119587ff902bd0b97725eaf9908f66d8d0ad61df371bb89f566b", func := "loop.example/g00984/laws.FnExactReplyTime", spec := "fnExactReplyTime", unfollowed := true, recurses := true, apart := false, narrowed := true }
def FnExactReplyTimeUptoSaid : Prop := fnExactReplyTimeUptoRow.holds Try.pinned (OpenSpec.upto fnExactReplyTimeSpec)

/-- 'laws.FnExactSameChip', WHERE WHAT IT READS IS OF BULK AT MOST 1048576: true; the input reads as it did. -/
def fnExactSameChipUptoRow : OpenClaim := { program := "ytkkoenbmokbglaa", sum := "a994493fa60d119587ff902bd0b97725eaf9908f66d8d0ad61df371bb89f566b", func := "loop.example/g00984/laws.FnExactSameChip", spec := "fnExactSameChip", unfollowed := true, recurses := true, apart := false, narrowed := true }
def FnExactSameChipUptoSaid : Prop := fnExactSameChipUptoRow.holds Try.pinned (OpenSpec.upto fnExactSameChipSpec)

end Rows
end Go.Proofs.Ytkkoenbmokbglaa
