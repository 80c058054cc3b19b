/-
  No cell of these rows narrows 'for every input' (looked for: loops, veiled, ifaces, maps, wideKeys, modest, calm, conditions, laid).
  DERIVED. THE GIVEN ROWS OF THIS SEAT. 8 by the template 'for every input the law returns true; each argument reads behind the call as it read before'; 0 by the template 'total and deterministic' (their statements: YtcigpclbhfkgaaaTotals.lean).
  GIVEN WITH THE SEED: the statements are not yours to turn. If you find one false, say at which input.
  Laid BY PROGRAM, IN A SANDBOX (cutbox-rows.mjs): the forced cells as the released guide's own fill.sh prints them over the translation 6ccbede219017d1d… (all of the seat's roots in one cut). By AI agents, Wed Nov 11 2026. No macro, syntax, notation, axiom, sorry.
-/
import Derived.Test.YtcigpclbhfkgaaaChecked
import GoSem.Claim
import GoSem.ClaimJoined
import GoSem.ClaimMapViews
import Derived.JoinedTies
import Derived.KernelRfl
namespace Go.Proofs.Ytcigpclbhfkgaaa
/- THE CELL 'sum', in the pinned program and in every row, IS THE sha256 OF THE DUMP (.gsa) THAT YtcigpclbhfkgaaaProg.lean LOADS. Nothing in Lean hashes anything: it is a label: what it is worth is what the hold of that sum in a sandbox is worth. -/
noncomputable def Try.pinned : Pinned := { name := "ytcigpclbhfkgaaa", sum := "6ccbede219017d1da8e933c95959b56274a063de027b5e8e81605b1e5ea72b35", checked := Try.checked }
namespace Rows
def none {H : Type} : Left H := { results := [], args := [] }

/-- 'laws.FnExactReplyTime': WHATEVER THE INPUT: true; the input reads as it did. -/
def fnExactReplyTimeSpec : ChangeSpec := { name := "fnExactReplyTime", fn := fun _ => fun
  | [d1, d2, d3, d4] => { results := [.lit (.bool true)], args := [d1, d2, d3, d4] }
  | _ => none }
def fnExactReplyTimeRow : OpenClaim := { program := "ytcigpclbhfkgaaa", sum := "6ccbede219017d1da8e933c95959b56274a063de027b5e8e81605b1e5ea72b35", func := "loop.example/g00984/laws.FnExactReplyTime", spec := "fnExactReplyTime", unfollowed := true, recurses := true, apart := false }
def FnExactReplyTimeSaid : Prop := fnExactReplyTimeRow.holds Try.pinned (OpenSpec.ofChange fnExactReplyTimeSpec)

/-- ITS FALSE NEIGHBOUR: 'it returns false'. Refute it at one input. -/
def fnExactReplyTimeWrong : ChangeSpec := { name := "fnExactReplyTime", fn := fun _ => fun
  | [d1, d2, d3, d4] => { results := [.lit (.bool false)], args := [d1, d2, d3, d4] }
  | _ => none }
def FnExactReplyTimeWrongFalsely : Prop := fnExactReplyTimeRow.holds Try.pinned (OpenSpec.ofChange fnExactReplyTimeWrong)

/-- 'laws.FnExactSameChip': WHATEVER THE INPUT: true; the input reads as it did. -/
def fnExactSameChipSpec : ChangeSpec := { name := "fnExactSameChip", fn := fun _ => fun
  | [d1, d2] => { results := [.lit (.bool true)], args := [d1, d2] }
  | _ => none }
def fnExactSameChipRow : OpenClaim := { program := "ytcigpclbhfkgaaa", sum := "6ccbede219017d1da8e933c95959b56274a063de027b5e8e81605b1e5ea72b35", func := "loop.example/g00984/laws.FnExactSameChip", spec := "fnExactSameChip", unfollowed := true, recurses := true, apart := false }
def FnExactSameChipSaid : Prop := fnExactSameChipRow.holds Try.pinned (OpenSpec.ofChange fnExactSameChipSpec)

/-- ITS FALSE NEIGHBOUR: 'it returns false'. Refute it at one input. -/
def fnExactSameChipWrong : ChangeSpec := { name := "fnExactSameChip", fn := fun _ => fun
  | [d1, d2] => { results := [.lit (.bool false)], args := [d1, d2] }
  | _ => none }
def FnExactSameChipWrongFalsely : Prop := fnExactSameChipRow.holds Try.pinned (OpenSpec.ofChange fnExactSameChipWrong)

/-- 'laws.FnExactAllOwnersFree': WHATEVER THE INPUT: true; the input reads as it did. -/
def fnExactAllOwnersFreeSpec : ChangeSpec := { name := "fnExactAllOwnersFree", fn := fun _ => fun
  | [d] => { results := [.lit (.bool true)], args := [d] }
  | _ => none }
def fnExactAllOwnersFreeRow : OpenClaim := { program := "ytcigpclbhfkgaaa", sum := "6ccbede219017d1da8e933c95959b56274a063de027b5e8e81605b1e5ea72b35", func := "loop.example/g00984/laws.FnExactAllOwnersFree", spec := "fnExactAllOwnersFree", unfollowed := true, recurses := true, apart := false }
def FnExactAllOwnersFreeSaid : Prop := fnExactAllOwnersFreeRow.holds Try.pinned (OpenSpec.ofChange fnExactAllOwnersFreeSpec)

/-- ITS FALSE NEIGHBOUR: 'it returns false'. Refute it at one input. -/
def fnExactAllOwnersFreeWrong : ChangeSpec := { name := "fnExactAllOwnersFree", fn := fun _ => fun
  | [d] => { results := [.lit (.bool false)], args := [d] }
  | _ => none }
def FnExactAllOwnersFreeWrongFalsely : Prop := fnExactAllOwnersFreeRow.holds Try.pinned (OpenSpec.ofChange fnExactAllOwnersFreeWrong)

/-- 'laws.FnExactChipNew': WHATEVER THE INPUT: true; the input reads as it did. -/
def fnExactChipNewSpec : ChangeSpec := { name := "fnExactChipNew", fn := fun _ => fun
  | [d] => { results := [.lit (.bool true)], args := [d] }
  | _ => none }
def fnExactChipNewRow : OpenClaim := { program := "ytcigpclbhfkgaaa", sum := "6ccbede219017d1da8e933c95959b56274a063de027b5e8e81605b1e5ea72b35", func := "loop.example/g00984/laws.FnExactChipNew", spec := "fnExactChipNew", unfollowed := true, recurses := true, apart := false }
def FnExactChipNewSaid : Prop := fnExactChipNewRow.holds Try.pinned (OpenSpec.ofChange fnExactChipNewSpec)

/-- ITS FALSE NEIGHBOUR: 'it returns false'. Refute it at one input. -/
def fnExactChipNewWrong : ChangeSpec := { name := "fnExactChipNew", fn := fun _ => fun
  | [d] => { results := [.lit (.bool false)], args := [d] }
  | _ => none }
def FnExactChipNewWrongFalsely : Prop := fnExactChipNewRow.holds Try.pinned (OpenSpec.ofChange fnExactChipNewWrong)

/-- 'laws.FnExactReplaceClasses': WHATEVER THE INPUT: true; the input reads as it did. -/
def fnExactReplaceClassesSpec : ChangeSpec := { name := "fnExactReplaceClasses", fn := fun _ => fun
  | [d1, d2] => { results := [.lit (.bool true)], args := [d1, d2] }
  | _ => none }
def fnExactReplaceClassesRow : OpenClaim := { program := "ytcigpclbhfkgaaa", sum := "6ccbede219017d1da8e933c95959b56274a063de027b5e8e81605b1e5ea72b35", func := "loop.example/g00984/laws.FnExactReplaceClasses", spec := "fnExactReplaceClasses", unfollowed := true, recurses := true, apart := false }
def FnExactReplaceClassesSaid : Prop := fnExactReplaceClassesRow.holds Try.pinned (OpenSpec.ofChange fnExactReplaceClassesSpec)

/-- ITS FALSE NEIGHBOUR: 'it returns false'. Refute it at one input. -/
def fnExactReplaceClassesWrong : ChangeSpec := { name := "fnExactReplaceClasses", fn := fun _ => fun
  | [d1, d2] => { results := [.lit (.bool false)], args := [d1, d2] }
  | _ => none }
def FnExactReplaceClassesWrongFalsely : Prop := fnExactReplaceClassesRow.holds Try.pinned (OpenSpec.ofChange fnExactReplaceClassesWrong)

/-- 'laws.FnExactChipOk': WHATEVER THE INPUT: true; the input reads as it did. -/
def fnExactChipOkSpec : ChangeSpec := { name := "fnExactChipOk", fn := fun _ => fun
  | [d] => { results := [.lit (.bool true)], args := [d] }
  | _ => none }
def fnExactChipOkRow : OpenClaim := { program := "ytcigpclbhfkgaaa", sum := "6ccbede219017d1da8e933c95959b56274a063de027b5e8e81605b1e5ea72b35", func := "loop.example/g00984/laws.FnExactChipOk", spec := "fnExactChipOk", unfollowed := true, recurses := true, apart := false }
def FnExactChipOkSaid : Prop := fnExactChipOkRow.holds Try.pinned (OpenSpec.ofChange fnExactChipOkSpec)

/-- ITS FALSE NEIGHBOUR: 'it returns false'. Refute it at one input. -/
def fnExactChipOkWrong : ChangeSpec := { name := "fnExactChipOk", fn := fun _ => fun
  | [d] => { results := [.lit (.bool false)], args := [d] }
  | _ => none }
def FnExactChipOkWrongFalsely : Prop := fnExactChipOkRow.holds Try.pinned (OpenSpec.ofChange fnExactChipOkWrong)

/-- 'laws.FnExactDelivered': WHATEVER THE INPUT: true; the input reads as it did. -/
def fnExactDeliveredSpec : ChangeSpec := { name := "fnExactDelivered", fn := fun _ => fun
  | [d] => { results := [.lit (.bool true)], args := [d] }
  | _ => none }
def fnExactDeliveredRow : OpenClaim := { program := "ytcigpclbhfkgaaa", sum := "6ccbede219017d1da8e933c95959b56274a063de027b5e8e81605b1e5ea72b35", func := "loop.example/g00984/laws.FnExactDelivered", spec := "fnExactDelivered", unfollowed := true, recurses := true, apart := false }
def FnExactDeliveredSaid : Prop := fnExactDeliveredRow.holds Try.pinned (OpenSpec.ofChange fnExactDeliveredSpec)

/-- ITS FALSE NEIGHBOUR: 'it returns false'. Refute it at one input. -/
def fnExactDeliveredWrong : ChangeSpec := { name := "fnExactDelivered", fn := fun _ => fun
  | [d] => { results := [.lit (.bool false)], args := [d] }
  | _ => none }
def FnExactDeliveredWrongFalsely : Prop := fnExactDeliveredRow.holds Try.pinned (OpenSpec.ofChange fnExactDeliveredWrong)

/-- 'laws.FnReplaced': WHATEVER THE INPUT: true; the input reads as it did. -/
def fnReplacedSpec : ChangeSpec := { name := "fnReplaced", fn := fun _ => fun
  | [d] => { results := [.lit (.bool true)], args := [d] }
  | _ => none }
def fnReplacedRow : OpenClaim := { program := "ytcigpclbhfkgaaa", sum := "6ccbede219017d1da8e933c95959b56274a063de027b5e8e81605b1e5ea72b35", func := "loop.example/g00984/laws.FnReplaced", spec := "fnReplaced", unfollowed := true, recurses := true, apart := false }
def FnReplacedSaid : Prop := fnReplacedRow.holds Try.pinned (OpenSpec.ofChange fnReplacedSpec)

/-- ITS FALSE NEIGHBOUR: 'it returns false'. Refute it at one input. -/
def fnReplacedWrong : ChangeSpec := { name := "fnReplaced", fn := fun _ => fun
  | [d] => { results := [.lit (.bool false)], args := [d] }
  | _ => none }
def FnReplacedWrongFalsely : Prop := fnReplacedRow.holds Try.pinned (OpenSpec.ofChange fnReplacedWrong)

/- THE SECOND FORM. 'bulk': how many values and letters a reading holds, each counted each time it is reached (what is shared counts as often as it is met; a slice's spare places count too). A statement '..UptoSaid' is the law's where the arguments, and the package variables that the reading takes, are together of bulk at most 1048576: NARROWER than '..Said'. Prove '..Said' where nothing that the law and all that it calls make is longer than what came in: it says more and counts as full. Else prove '..UptoSaid'. A law counts once. -/
mutual
def uptoBulk {H : Type} : DataW H → Nat
  | .lit (.string bytes) => bytes.length + 1
  | .lit _ => 1
  | .nil => 1
  | .ptr d => uptoBulk d + 1
  | .slice elems spare => uptoBulkAll elems + uptoBulkAll spare + 1
  | .agg parts => uptoBulkAll parts + 1
  | .iface _ d => uptoBulk d + 1
  | .map entries => uptoBulkEntries entries + 1
  | .held _ => 1
def uptoBulkAll {H : Type} : List (DataW H) → Nat
  | [] => 0
  | d :: r => uptoBulk d + uptoBulkAll r
def uptoBulkEntries {H : Type} : List (Lit × DataW H) → Nat
  | [] => 0
  | x :: r => uptoBulkEntry x + uptoBulkEntries r
def uptoBulkEntry {H : Type} : Lit × DataW H → Nat
  | (.string bytes, d) => bytes.length + uptoBulk d + 1
  | (_, d) => uptoBulk d + 1
 end
def uptoSmall : (H : Type) → List (DataW H) → Bool := fun _ ds => decide (uptoBulkAll ds ≤ 1048576)
def OpenSpec.upto (s : _root_.Go.ChangeSpec) : _root_.Go.OpenSpec := { _root_.Go.OpenSpec.ofChange s with cond := some uptoSmall }

/-- 'laws.FnExactReplyTime', WHERE WHAT IT READS IS OF BULK AT MOST 1048576: true; the input reads as it did. -/
def fnExactReplyTimeUptoRow : OpenClaim := { program := "ytcigpclbhfkgaaa", sum := "6ccbede219017d1da8e933c95959b56274a063de027b5e8e81605b1e5ea72b35", func := "loop.example/g00984/laws.FnExactReplyTime", spec := "fnExactReplyTime", unfollowed := true, recurses := true, apart := false, narrowed := true }
def FnExactReplyTimeUptoSaid : Prop := fnExactReplyTimeUptoRow.holds Try.pinned (OpenSpec.upto fnExactReplyTimeSpec)

/-- 'laws.FnExactSameChip', WHERE WHAT IT READS IS OF BULK AT MOST 1048576: true; the input reads as it did. -/
def fnExactSameChipUptoRow : OpenClaim := { program := "ytcigpclbhfkgaaa", sum := "6ccbede219017d1da8e933c95959b56274a063de027b5e8e81605b1e5ea72b35", func := "loop.example/g00984/laws.FnExactSameChip", spec := "fnExactSameChip", unfollowed := true, recurses := true, apart := false, narrowed := true }
def FnExactSameChipUptoSaid : Prop := fnExactSameChipUptoRow.holds Try.pinned (OpenSpec.upto fnExactSameChipSpec)

/-- 'laws.FnExactAllOwnersFree', WHERE WHAT IT READS IS OF BULK AT MOST 1048576: true; the input reads as it did. -/
def fnExactAllOwnersFreeUptoRow : OpenClaim := { program := "ytcigpclbhfkgaaa", sum := "6ccbede219017d1da8e933c95959b56274a063de027b5e8e81605b1e5ea72b35", func := "loop.example/g00984/laws.FnExactAllOwnersFree", spec := "fnExactAllOwnersFree", unfollowed := true, recurses := true, apart := false, narrowed := true }
def FnExactAllOwnersFreeUptoSaid : Prop := fnExactAllOwnersFreeUptoRow.holds Try.pinned (OpenSpec.upto fnExactAllOwnersFreeSpec)

/-- 'laws.FnExactChipNew', WHERE WHAT IT READS IS OF BULK AT MOST 1048576: true; the input reads as it did. -/
def fnExactChipNewUptoRow : OpenClaim := { program := "ytcigpclbhfkgaaa", sum := "6ccbede219017d1da8e933c95959b56274a063de027b5e8e81605b1e5ea72b35", func := "loop.example/g00984/laws.FnExactChipNew", spec := "fnExactChipNew", unfollowed := true, recurses := true, apart := false, narrowed := true }
def FnExactChipNewUptoSaid : Prop := fnExactChipNewUptoRow.holds Try.pinned (OpenSpec.upto fnExactChipNewSpec)

/-- 'laws.FnExactReplaceClasses', WHERE WHAT IT READS IS OF BULK AT MOST 1048576: true; the input reads as it did. -/
def fnExactReplaceClassesUptoRow : OpenClaim := { program := "ytcigpclbhfkgaaa", sum := "6ccbede219017d1da8e933c95959b56274a063de027b5e8e81605b1e5ea72b35", func := "loop.example/g00984/laws.FnExactReplaceClasses", spec := "fnExactReplaceClasses", unfollowed := true, recurses := true, apart := false, narrowed := true }
def FnExactReplaceClassesUptoSaid : Prop := fnExactReplaceClassesUptoRow.holds Try.pinned (OpenSpec.upto fnExactReplaceClassesSpec)

/-- 'laws.FnExactChipOk', WHERE WHAT IT READS IS OF BULK AT MOST 1048576: true; the input reads as it did. -/
def fnExactChipOkUptoRow : OpenClaim := { program := "ytcigpclbhfkgaaa", sum := "6ccbede219017d1da8e933c95959b56274a063de027b5e8e81605b1e5ea72b35", func := "loop.example/g00984/laws.FnExactChipOk", spec := "fnExactChipOk", unfollowed := true, recurses := true, apart := false, narrowed := true }
def FnExactChipOkUptoSaid : Prop := fnExactChipOkUptoRow.holds Try.pinned (OpenSpec.upto fnExactChipOkSpec)

/-- 'laws.FnExactDelivered', WHERE WHAT IT READS IS OF BULK AT MOST 1048576: true; the input reads as it did. -/
def fnExactDeliveredUptoRow : OpenClaim := { program := "ytcigpclbhfkgaaa", sum := "6ccbede219017d1da8e933c95959b56274a063de027b5e8e81605b1e5ea72b35", func := "loop.example/g00984/laws.FnExactDelivered", spec := "fnExactDelivered", unfollowed := true, recurses := true, apart := false, narrowed := true }
def FnExactDeliveredUptoSaid : Prop := fnExactDeliveredUptoRow.holds Try.pinned (OpenSpec.upto fnExactDeliveredSpec)

/-- 'laws.FnReplaced', WHERE WHAT IT READS IS OF BULK AT MOST 1048576: true; the input reads as it did. -/
def fnReplacedUptoRow : OpenClaim := { program := "ytcigpclbhfkgaaa", sum := "6ccbede219017d1da8e933c95959b56274a063de027b5e8e81605b1e5ea72b35", func := "loop.example/g00984/laws.FnReplaced", spec := "fnReplaced", unfollowed := true, recurses := true, apart := false, narrowed := true }
def FnReplacedUptoSaid : Prop := fnReplacedUptoRow.holds Try.pinned (OpenSpec.upto fnReplacedSpec)

end Rows
end Go.Proofs.Ytcigpclbhfkgaaa
