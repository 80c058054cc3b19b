/-
  No cell of these rows narrows 'for every input' (looked for: loops, veiled, ifaces, maps, wideKeys, modest, calm, conditions, laid).
  DERIVED. THE GIVEN ROWS OF THIS SEAT. 12 by the template 'for every input the law returns true; each argument reads behind the call as it read before'; 0 by the template 'total and deterministic' (their statements: YtnakhkfgheapoaaTotals.lean).
  GIVEN WITH THE SEED: the statements are not yours to turn. If you find one false, say at which input.
  Laid BY PROGRAM, IN A SANDBOX (cutbox-rows.mjs): the forced cells as the released guide's own fill.sh prints them over the translation 8e07f20f5d87709a… (all of the seat's roots in one cut). By AI agents, Wed Nov 11 2026. No macro, syntax, notation, axiom, sorry.
-/
import Derived.Test.YtnakhkfgheapoaaChecked
import GoSem.Claim
import GoSem.ClaimJoined
import GoSem.ClaimMapViews
import Derived.JoinedTies
import Derived.KernelRfl
namespace Go.Proofs.Ytnakhkfgheapoaa
/- THE CELL 'sum', in the pinned program and in every row, IS THE sha256 OF THE DUMP (.gsa) THAT YtnakhkfgheapoaaProg.lean LOADS. Nothing in Lean hashes anything: it is a label: what it is worth is what the hold of that sum in a sandbox is worth. -/
noncomputable def Try.pinned : Pinned := { name := "ytnakhkfgheapoaa", sum := "8e07f20f5d87709ab483a3accd5b7941e8ea1539cb88fea01649f832b10295da", checked := Try.checked }
namespace Rows
def none {H : Type} : Left H := { results := [], args := [] }

/-- 'laws.FnExactTreeNodes': WHATEVER THE INPUT: true; the input reads as it did. -/
def fnExactTreeNodesSpec : ChangeSpec := { name := "fnExactTreeNodes", fn := fun _ => fun
  | [d1, d2, d3] => { results := [.lit (.bool true)], args := [d1, d2, d3] }
  | _ => none }
def fnExactTreeNodesRow : OpenClaim := { program := "ytnakhkfgheapoaa", sum := "8e07f20f5d87709ab483a3accd5b7941e8ea1539cb88fea01649f832b10295da", func := "loop.example/g00984/laws.FnExactTreeNodes", spec := "fnExactTreeNodes", apart := false }
def FnExactTreeNodesSaid : Prop := fnExactTreeNodesRow.holds Try.pinned (OpenSpec.ofChange fnExactTreeNodesSpec)

/-- ITS FALSE NEIGHBOUR: 'it returns false'. Refute it at one input. -/
def fnExactTreeNodesWrong : ChangeSpec := { name := "fnExactTreeNodes", fn := fun _ => fun
  | [d1, d2, d3] => { results := [.lit (.bool false)], args := [d1, d2, d3] }
  | _ => none }
def FnExactTreeNodesWrongFalsely : Prop := fnExactTreeNodesRow.holds Try.pinned (OpenSpec.ofChange fnExactTreeNodesWrong)

/-- 'laws.FnUpDown': WHATEVER THE INPUT: true; the input reads as it did. -/
def fnUpDownSpec : ChangeSpec := { name := "fnUpDown", fn := fun _ => fun
  | [d] => { results := [.lit (.bool true)], args := [d] }
  | _ => none }
def fnUpDownRow : OpenClaim := { program := "ytnakhkfgheapoaa", sum := "8e07f20f5d87709ab483a3accd5b7941e8ea1539cb88fea01649f832b10295da", func := "loop.example/g00984/laws.FnUpDown", spec := "fnUpDown", apart := false }
def FnUpDownSaid : Prop := fnUpDownRow.holds Try.pinned (OpenSpec.ofChange fnUpDownSpec)

/-- ITS FALSE NEIGHBOUR: 'it returns false'. Refute it at one input. -/
def fnUpDownWrong : ChangeSpec := { name := "fnUpDown", fn := fun _ => fun
  | [d] => { results := [.lit (.bool false)], args := [d] }
  | _ => none }
def FnUpDownWrongFalsely : Prop := fnUpDownRow.holds Try.pinned (OpenSpec.ofChange fnUpDownWrong)

/-- 'laws.FnTrees': WHATEVER THE INPUT: true; the input reads as it did. -/
def fnTreesSpec : ChangeSpec := { name := "fnTrees", fn := fun _ => fun
  | [d] => { results := [.lit (.bool true)], args := [d] }
  | _ => none }
def fnTreesRow : OpenClaim := { program := "ytnakhkfgheapoaa", sum := "8e07f20f5d87709ab483a3accd5b7941e8ea1539cb88fea01649f832b10295da", func := "loop.example/g00984/laws.FnTrees", spec := "fnTrees", apart := false }
def FnTreesSaid : Prop := fnTreesRow.holds Try.pinned (OpenSpec.ofChange fnTreesSpec)

/-- ITS FALSE NEIGHBOUR: 'it returns false'. Refute it at one input. -/
def fnTreesWrong : ChangeSpec := { name := "fnTrees", fn := fun _ => fun
  | [d] => { results := [.lit (.bool false)], args := [d] }
  | _ => none }
def FnTreesWrongFalsely : Prop := fnTreesRow.holds Try.pinned (OpenSpec.ofChange fnTreesWrong)

/-- 'laws.FnExactTreeTable': WHATEVER THE INPUT: true; the input reads as it did. -/
def fnExactTreeTableSpec : ChangeSpec := { name := "fnExactTreeTable", fn := fun _ => fun
  | [d1, d2] => { results := [.lit (.bool true)], args := [d1, d2] }
  | _ => none }
def fnExactTreeTableRow : OpenClaim := { program := "ytnakhkfgheapoaa", sum := "8e07f20f5d87709ab483a3accd5b7941e8ea1539cb88fea01649f832b10295da", func := "loop.example/g00984/laws.FnExactTreeTable", spec := "fnExactTreeTable", apart := false }
def FnExactTreeTableSaid : Prop := fnExactTreeTableRow.holds Try.pinned (OpenSpec.ofChange fnExactTreeTableSpec)

/-- ITS FALSE NEIGHBOUR: 'it returns false'. Refute it at one input. -/
def fnExactTreeTableWrong : ChangeSpec := { name := "fnExactTreeTable", fn := fun _ => fun
  | [d1, d2] => { results := [.lit (.bool false)], args := [d1, d2] }
  | _ => none }
def FnExactTreeTableWrongFalsely : Prop := fnExactTreeTableRow.holds Try.pinned (OpenSpec.ofChange fnExactTreeTableWrong)

/-- 'laws.FnExactRepairClasses': WHATEVER THE INPUT: true; the input reads as it did. -/
def fnExactRepairClassesSpec : ChangeSpec := { name := "fnExactRepairClasses", fn := fun _ => fun
  | [d] => { results := [.lit (.bool true)], args := [d] }
  | _ => none }
def fnExactRepairClassesRow : OpenClaim := { program := "ytnakhkfgheapoaa", sum := "8e07f20f5d87709ab483a3accd5b7941e8ea1539cb88fea01649f832b10295da", func := "loop.example/g00984/laws.FnExactRepairClasses", spec := "fnExactRepairClasses", apart := false }
def FnExactRepairClassesSaid : Prop := fnExactRepairClassesRow.holds Try.pinned (OpenSpec.ofChange fnExactRepairClassesSpec)

/-- ITS FALSE NEIGHBOUR: 'it returns false'. Refute it at one input. -/
def fnExactRepairClassesWrong : ChangeSpec := { name := "fnExactRepairClasses", fn := fun _ => fun
  | [d] => { results := [.lit (.bool false)], args := [d] }
  | _ => none }
def FnExactRepairClassesWrongFalsely : Prop := fnExactRepairClassesRow.holds Try.pinned (OpenSpec.ofChange fnExactRepairClassesWrong)

/-- 'laws.FnExactDetourOf': WHATEVER THE INPUT: true; the input reads as it did. -/
def fnExactDetourOfSpec : ChangeSpec := { name := "fnExactDetourOf", fn := fun _ => fun
  | [d] => { results := [.lit (.bool true)], args := [d] }
  | _ => none }
def fnExactDetourOfRow : OpenClaim := { program := "ytnakhkfgheapoaa", sum := "8e07f20f5d87709ab483a3accd5b7941e8ea1539cb88fea01649f832b10295da", func := "loop.example/g00984/laws.FnExactDetourOf", spec := "fnExactDetourOf", unfollowed := true, recurses := true, apart := false }
def FnExactDetourOfSaid : Prop := fnExactDetourOfRow.holds Try.pinned (OpenSpec.ofChange fnExactDetourOfSpec)

/-- ITS FALSE NEIGHBOUR: 'it returns false'. Refute it at one input. -/
def fnExactDetourOfWrong : ChangeSpec := { name := "fnExactDetourOf", fn := fun _ => fun
  | [d] => { results := [.lit (.bool false)], args := [d] }
  | _ => none }
def FnExactDetourOfWrongFalsely : Prop := fnExactDetourOfRow.holds Try.pinned (OpenSpec.ofChange fnExactDetourOfWrong)

/-- 'laws.FnLineDetours': WHATEVER THE INPUT: true; the input reads as it did. -/
def fnLineDetoursSpec : ChangeSpec := { name := "fnLineDetours", fn := fun _ => fun
  | [d] => { results := [.lit (.bool true)], args := [d] }
  | _ => none }
def fnLineDetoursRow : OpenClaim := { program := "ytnakhkfgheapoaa", sum := "8e07f20f5d87709ab483a3accd5b7941e8ea1539cb88fea01649f832b10295da", func := "loop.example/g00984/laws.FnLineDetours", spec := "fnLineDetours", unfollowed := true, recurses := true, apart := false }
def FnLineDetoursSaid : Prop := fnLineDetoursRow.holds Try.pinned (OpenSpec.ofChange fnLineDetoursSpec)

/-- ITS FALSE NEIGHBOUR: 'it returns false'. Refute it at one input. -/
def fnLineDetoursWrong : ChangeSpec := { name := "fnLineDetours", fn := fun _ => fun
  | [d] => { results := [.lit (.bool false)], args := [d] }
  | _ => none }
def FnLineDetoursWrongFalsely : Prop := fnLineDetoursRow.holds Try.pinned (OpenSpec.ofChange fnLineDetoursWrong)

/-- 'laws.FnExactWithBroken': WHATEVER THE INPUT: true; the input reads as it did. -/
def fnExactWithBrokenSpec : ChangeSpec := { name := "fnExactWithBroken", fn := fun _ => fun
  | [d1, d2] => { results := [.lit (.bool true)], args := [d1, d2] }
  | _ => none }
def fnExactWithBrokenRow : OpenClaim := { program := "ytnakhkfgheapoaa", sum := "8e07f20f5d87709ab483a3accd5b7941e8ea1539cb88fea01649f832b10295da", func := "loop.example/g00984/laws.FnExactWithBroken", spec := "fnExactWithBroken", recurses := true, apart := false }
def FnExactWithBrokenSaid : Prop := fnExactWithBrokenRow.holds Try.pinned (OpenSpec.ofChange fnExactWithBrokenSpec)

/-- ITS FALSE NEIGHBOUR: 'it returns false'. Refute it at one input. -/
def fnExactWithBrokenWrong : ChangeSpec := { name := "fnExactWithBroken", fn := fun _ => fun
  | [d1, d2] => { results := [.lit (.bool false)], args := [d1, d2] }
  | _ => none }
def FnExactWithBrokenWrongFalsely : Prop := fnExactWithBrokenRow.holds Try.pinned (OpenSpec.ofChange fnExactWithBrokenWrong)

/-- 'laws.FnBroken': WHATEVER THE INPUT: true; the input reads as it did. -/
def fnBrokenSpec : ChangeSpec := { name := "fnBroken", fn := fun _ => fun
  | [d] => { results := [.lit (.bool true)], args := [d] }
  | _ => none }
def fnBrokenRow : OpenClaim := { program := "ytnakhkfgheapoaa", sum := "8e07f20f5d87709ab483a3accd5b7941e8ea1539cb88fea01649f832b10295da", func := "loop.example/g00984/laws.FnBroken", spec := "fnBroken", recurses := true, apart := false }
def FnBrokenSaid : Prop := fnBrokenRow.holds Try.pinned (OpenSpec.ofChange fnBrokenSpec)

/-- ITS FALSE NEIGHBOUR: 'it returns false'. Refute it at one input. -/
def fnBrokenWrong : ChangeSpec := { name := "fnBroken", fn := fun _ => fun
  | [d] => { results := [.lit (.bool false)], args := [d] }
  | _ => none }
def FnBrokenWrongFalsely : Prop := fnBrokenRow.holds Try.pinned (OpenSpec.ofChange fnBrokenWrong)

/-- 'laws.FnExactMulticastCost': WHATEVER THE INPUT: true; the input reads as it did. -/
def fnExactMulticastCostSpec : ChangeSpec := { name := "fnExactMulticastCost", fn := fun _ => fun
  | [d1, d2, d3, d4] => { results := [.lit (.bool true)], args := [d1, d2, d3, d4] }
  | _ => none }
def fnExactMulticastCostRow : OpenClaim := { program := "ytnakhkfgheapoaa", sum := "8e07f20f5d87709ab483a3accd5b7941e8ea1539cb88fea01649f832b10295da", func := "loop.example/g00984/laws.FnExactMulticastCost", spec := "fnExactMulticastCost", unfollowed := true, recurses := true, apart := false }
def FnExactMulticastCostSaid : Prop := fnExactMulticastCostRow.holds Try.pinned (OpenSpec.ofChange fnExactMulticastCostSpec)

/-- ITS FALSE NEIGHBOUR: 'it returns false'. Refute it at one input. -/
def fnExactMulticastCostWrong : ChangeSpec := { name := "fnExactMulticastCost", fn := fun _ => fun
  | [d1, d2, d3, d4] => { results := [.lit (.bool false)], args := [d1, d2, d3, d4] }
  | _ => none }
def FnExactMulticastCostWrongFalsely : Prop := fnExactMulticastCostRow.holds Try.pinned (OpenSpec.ofChange fnExactMulticastCostWrong)

/-- 'laws.FnExactBranchesOf': WHATEVER THE INPUT: true; the input reads as it did. -/
def fnExactBranchesOfSpec : ChangeSpec := { name := "fnExactBranchesOf", fn := fun _ => fun
  | [d1, d2, d3, d4] => { results := [.lit (.bool true)], args := [d1, d2, d3, d4] }
  | _ => none }
def fnExactBranchesOfRow : OpenClaim := { program := "ytnakhkfgheapoaa", sum := "8e07f20f5d87709ab483a3accd5b7941e8ea1539cb88fea01649f832b10295da", func := "loop.example/g00984/laws.FnExactBranchesOf", spec := "fnExactBranchesOf", unfollowed := true, recurses := true, apart := false }
def FnExactBranchesOfSaid : Prop := fnExactBranchesOfRow.holds Try.pinned (OpenSpec.ofChange fnExactBranchesOfSpec)

/-- ITS FALSE NEIGHBOUR: 'it returns false'. Refute it at one input. -/
def fnExactBranchesOfWrong : ChangeSpec := { name := "fnExactBranchesOf", fn := fun _ => fun
  | [d1, d2, d3, d4] => { results := [.lit (.bool false)], args := [d1, d2, d3, d4] }
  | _ => none }
def FnExactBranchesOfWrongFalsely : Prop := fnExactBranchesOfRow.holds Try.pinned (OpenSpec.ofChange fnExactBranchesOfWrong)

/-- 'laws.FnMulticast': WHATEVER THE INPUT: true; the input reads as it did. -/
def fnMulticastSpec : ChangeSpec := { name := "fnMulticast", fn := fun _ => fun
  | [d] => { results := [.lit (.bool true)], args := [d] }
  | _ => none }
def fnMulticastRow : OpenClaim := { program := "ytnakhkfgheapoaa", sum := "8e07f20f5d87709ab483a3accd5b7941e8ea1539cb88fea01649f832b10295da", func := "loop.example/g00984/laws.FnMulticast", spec := "fnMulticast", unfollowed := true, recurses := true, apart := false }
def FnMulticastSaid : Prop := fnMulticastRow.holds Try.pinned (OpenSpec.ofChange fnMulticastSpec)

/-- ITS FALSE NEIGHBOUR: 'it returns false'. Refute it at one input. -/
def fnMulticastWrong : ChangeSpec := { name := "fnMulticast", fn := fun _ => fun
  | [d] => { results := [.lit (.bool false)], args := [d] }
  | _ => none }
def FnMulticastWrongFalsely : Prop := fnMulticastRow.holds Try.pinned (OpenSpec.ofChange fnMulticastWrong)

/- THE SECOND FORM. 'bulk': how many values and letters a reading holds, each counted each time it is reached (what is shared counts as often as it is met; a slice's spare places count too). A statement '..UptoSaid' is the law's where the arguments, and the package variables that the reading takes, are together of bulk at most 1048576: NARROWER than '..Said'. Prove '..Said' where nothing that the law and all that it calls make is longer than what came in: it says more and counts as full. Else prove '..UptoSaid'. A law counts once. -/
mutual
def uptoBulk {H : Type} : DataW H → Nat
  | .lit (.string bytes) => bytes.length + 1
  | .lit _ => 1
  | .nil => 1
  | .ptr d => uptoBulk d + 1
  | .slice elems spare => uptoBulkAll elems + uptoBulkAll spare + 1
  | .agg parts => uptoBulkAll parts + 1
  | .iface _ d => uptoBulk d + 1
  | .map entries => uptoBulkEntries entries + 1
  | .held _ => 1
def uptoBulkAll {H : Type} : List (DataW H) → Nat
  | [] => 0
  | d :: r => uptoBulk d + uptoBulkAll r
def uptoBulkEntries {H : Type} : List (Lit × DataW H) → Nat
  | [] => 0
  | x :: r => uptoBulkEntry x + uptoBulkEntries r
def uptoBulkEntry {H : Type} : Lit × DataW H → Nat
  | (.string bytes, d) => bytes.length + uptoBulk d + 1
  | (_, d) => uptoBulk d + 1
 end
def uptoSmall : (H : Type) → List (DataW H) → Bool := fun _ ds => decide (uptoBulkAll ds ≤ 1048576)
def OpenSpec.upto (s : _root_.Go.ChangeSpec) : _root_.Go.OpenSpec := { _root_.Go.OpenSpec.ofChange s with cond := some uptoSmall }

/-- 'laws.FnExactTreeNodes', WHERE WHAT IT READS IS OF BULK AT MOST 1048576: true; the input reads as it did. -/
def fnExactTreeNodesUptoRow : OpenClaim := { program := "ytnakhkfgheapoaa", sum := "8e07f20f5d87709ab483a3accd5b7941e8ea1539cb88fea01649f832b10295da", func := "loop.example/g00984/laws.FnExactTreeNodes", spec := "fnExactTreeNodes", apart := false, narrowed := true }
def FnExactTreeNodesUptoSaid : Prop := fnExactTreeNodesUptoRow.holds Try.pinned (OpenSpec.upto fnExactTreeNodesSpec)

/-- 'laws.FnUpDown', WHERE WHAT IT READS IS OF BULK AT MOST 1048576: true; the input reads as it did. -/
def fnUpDownUptoRow : OpenClaim := { program := "ytnakhkfgheapoaa", sum := "8e07f20f5d87709ab483a3accd5b7941e8ea1539cb88fea01649f832b10295da", func := "loop.example/g00984/laws.FnUpDown", spec := "fnUpDown", apart := false, narrowed := true }
def FnUpDownUptoSaid : Prop := fnUpDownUptoRow.holds Try.pinned (OpenSpec.upto fnUpDownSpec)

/-- 'laws.FnTrees', WHERE WHAT IT READS IS OF BULK AT MOST 1048576: true; the input reads as it did. -/
def fnTreesUptoRow : OpenClaim := { program := "ytnakhkfgheapoaa", sum := "8e07f20f5d87709ab483a3accd5b7941e8ea1539cb88fea01649f832b10295da", func := "loop.example/g00984/laws.FnTrees", spec := "fnTrees", apart := false, narrowed := true }
def FnTreesUptoSaid : Prop := fnTreesUptoRow.holds Try.pinned (OpenSpec.upto fnTreesSpec)

/-- 'laws.FnExactTreeTable', WHERE WHAT IT READS IS OF BULK AT MOST 1048576: true; the input reads as it did. -/
def fnExactTreeTableUptoRow : OpenClaim := { program := "ytnakhkfgheapoaa", sum := "8e07f20f5d87709ab483a3accd5b7941e8ea1539cb88fea01649f832b10295da", func := "loop.example/g00984/laws.FnExactTreeTable", spec := "fnExactTreeTable", apart := false, narrowed := true }
def FnExactTreeTableUptoSaid : Prop := fnExactTreeTableUptoRow.holds Try.pinned (OpenSpec.upto fnExactTreeTableSpec)

/-- 'laws.FnExactRepairClasses', WHERE WHAT IT READS IS OF BULK AT MOST 1048576: true; the input reads as it did. -/
def fnExactRepairClassesUptoRow : OpenClaim := { program := "ytnakhkfgheapoaa", sum := "8e07f20f5d87709ab483a3accd5b7941e8ea1539cb88fea01649f832b10295da", func := "loop.example/g00984/laws.FnExactRepairClasses", spec := "fnExactRepairClasses", apart := false, narrowed := true }
def FnExactRepairClassesUptoSaid : Prop := fnExactRepairClassesUptoRow.holds Try.pinned (OpenSpec.upto fnExactRepairClassesSpec)

/-- 'laws.FnExactDetourOf', WHERE WHAT IT READS IS OF BULK AT MOST 1048576: true; the input reads as it did. -/
def fnExactDetourOfUptoRow : OpenClaim := { program := "ytnakhkfgheapoaa", sum := "8e07f20f5d87709ab483a3accd5b7941e8ea1539cb88fea01649f832b10295da", func := "loop.example/g00984/laws.FnExactDetourOf", spec := "fnExactDetourOf", unfollowed := true, recurses := true, apart := false, narrowed := true }
def FnExactDetourOfUptoSaid : Prop := fnExactDetourOfUptoRow.holds Try.pinned (OpenSpec.upto fnExactDetourOfSpec)

/-- 'laws.FnLineDetours', WHERE WHAT IT READS IS OF BULK AT MOST 1048576: true; the input reads as it did. -/
def fnLineDetoursUptoRow : OpenClaim := { program := "ytnakhkfgheapoaa", sum := "8e07f20f5d87709ab483a3accd5b7941e8ea1539cb88fea01649f832b10295da", func := "loop.example/g00984/laws.FnLineDetours", spec := "fnLineDetours", unfollowed := true, recurses := true, apart := false, narrowed := true }
def FnLineDetoursUptoSaid : Prop := fnLineDetoursUptoRow.holds Try.pinned (OpenSpec.upto fnLineDetoursSpec)

/-- 'laws.FnExactWithBroken', WHERE WHAT IT READS IS OF BULK AT MOST 1048576: true; the input reads as it did. -/
def fnExactWithBrokenUptoRow : OpenClaim := { program := "ytnakhkfgheapoaa", sum := "8e07f20f5d87709ab483a3accd5b7941e8ea1539cb88fea01649f832b10295da", func := "loop.example/g00984/laws.FnExactWithBroken", spec := "fnExactWithBroken", recurses := true, apart := false, narrowed := true }
def FnExactWithBrokenUptoSaid : Prop := fnExactWithBrokenUptoRow.holds Try.pinned (OpenSpec.upto fnExactWithBrokenSpec)

/-- 'laws.FnBroken', WHERE WHAT IT READS IS OF BULK AT MOST 1048576: true; the input reads as it did. -/
def fnBrokenUptoRow : OpenClaim := { program := "ytnakhkfgheapoaa", sum := "8e07f20f5d87709ab483a3accd5b7941e8ea1539cb88fea01649f832b10295da", func := "loop.example/g00984/laws.FnBroken", spec := "fnBroken", recurses := true, apart := false, narrowed := true }
def FnBrokenUptoSaid : Prop := fnBrokenUptoRow.holds Try.pinned (OpenSpec.upto fnBrokenSpec)

/-- 'laws.FnExactMulticastCost', WHERE WHAT IT READS IS OF BULK AT MOST 1048576: true; the input reads as it did. -/
def fnExactMulticastCostUptoRow : OpenClaim := { program := "ytnakhkfgheapoaa", sum := "8e07f20f5d87709ab483a3accd5b7941e8ea1539cb88fea01649f832b10295da", func := "loop.example/g00984/laws.FnExactMulticastCost", spec := "fnExactMulticastCost", unfollowed := true, recurses := true, apart := false, narrowed := true }
def FnExactMulticastCostUptoSaid : Prop := fnExactMulticastCostUptoRow.holds Try.pinned (OpenSpec.upto fnExactMulticastCostSpec)

/-- 'laws.FnExactBranchesOf', WHERE WHAT IT READS IS OF BULK AT MOST 1048576: true; the input reads as it did. -/
def fnExactBranchesOfUptoRow : OpenClaim := { program := "ytnakhkfgheapoaa", sum := "8e07f20f5d87709ab483a3accd5b7941e8ea1539cb88fea01649f832b10295da", func := "loop.example/g00984/laws.FnExactBranchesOf", spec := "fnExactBranchesOf", unfollowed := true, recurses := true, apart := false, narrowed := true }
def FnExactBranchesOfUptoSaid : Prop := fnExactBranchesOfUptoRow.holds Try.pinned (OpenSpec.upto fnExactBranchesOfSpec)

/-- 'laws.FnMulticast', WHERE WHAT IT READS IS OF BULK AT MOST 1048576: true; the input reads as it did. -/
def fnMulticastUptoRow : OpenClaim := { program := "ytnakhkfgheapoaa", sum := "8e07f20f5d87709ab483a3accd5b7941e8ea1539cb88fea01649f832b10295da", func := "loop.example/g00984/laws.FnMulticast", spec := "fnMulticast", unfollowed := true, recurses := true, apart := false, narrowed := true }
def FnMulticastUptoSaid : Prop := fnMulticastUptoRow.holds Try.pinned (OpenSpec.upto fnMulticastSpec)

end Rows
end Go.Proofs.Ytnakhkfgheapoaa
