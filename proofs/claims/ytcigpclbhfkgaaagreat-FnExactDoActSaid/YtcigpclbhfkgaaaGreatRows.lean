/-
  No cell of these rows narrows 'for every input' (looked for: loops, veiled, ifaces, maps, wideKeys, modest, calm, conditions, laid).
  DERIVED. THE GIVEN ROWS OF THIS SEAT. 4 by the template 'for every input the law returns true; each argument reads behind the call as it read before'; 0 by the template 'total and deterministic' (their statements: YtcigpclbhfkgaaaGreatTotals.lean).
  GIVEN WITH THE SEED: the statements are not yours to turn. If you find one false, say at which input.
  Laid BY PROGRAM, IN A SANDBOX (cutbox-rows.mjs): the forced cells as the released guide's own fill.sh prints them over the translation c1f60714d88c3899… (all of the seat's roots in one cut). By AI agents, Wed Nov 11 2026. No macro, syntax, notation, axiom, sorry.
-/
import Derived.Test.YtcigpclbhfkgaaaGreatChecked
import GoSem.Claim
import GoSem.ClaimJoined
import GoSem.ClaimMapViews
import Derived.JoinedTies
import Derived.KernelRfl
namespace Go.Proofs.YtcigpclbhfkgaaaGreat
/- THE CELL 'sum', in the pinned program and in every row, IS THE sha256 OF THE DUMP (.gsa) THAT YtcigpclbhfkgaaaGreatProg.lean LOADS. Nothing in Lean hashes anything: it is a label: what it is worth is what the hold of that sum in a sandbox is worth. -/
noncomputable def Tryz.pinned : Pinned := { name := "ytcigpclbhfkgaaagreat", sum := "c1f60714d88c3899b0c459511807d0ed8e3b9ea94178fe5757b66998808fe677", checked := Tryz.checked }
namespace Rows
def none {H : Type} : Left H := { results := [], args := [] }

/-- 'laws.FnExactChipSend': WHATEVER THE INPUT: true; the input reads as it did. -/
def fnExactChipSendSpec : ChangeSpec := { name := "fnExactChipSend", fn := fun _ => fun
  | [d1, d2, d3, d4, d5] => { results := [.lit (.bool true)], args := [d1, d2, d3, d4, d5] }
  | _ => none }
def fnExactChipSendRow : OpenClaim := { program := "ytcigpclbhfkgaaagreat", sum := "c1f60714d88c3899b0c459511807d0ed8e3b9ea94178fe5757b66998808fe677", func := "loop.example/g00984/laws.FnExactChipSend", spec := "fnExactChipSend", unfollowed := true, recurses := true, apart := false }
def FnExactChipSendSaid : Prop := fnExactChipSendRow.holds Tryz.pinned (OpenSpec.ofChange fnExactChipSendSpec)

/-- ITS FALSE NEIGHBOUR: 'it returns false'. Refute it at one input. -/
def fnExactChipSendWrong : ChangeSpec := { name := "fnExactChipSend", fn := fun _ => fun
  | [d1, d2, d3, d4, d5] => { results := [.lit (.bool false)], args := [d1, d2, d3, d4, d5] }
  | _ => none }
def FnExactChipSendWrongFalsely : Prop := fnExactChipSendRow.holds Tryz.pinned (OpenSpec.ofChange fnExactChipSendWrong)

/-- 'laws.FnExactChipRun': WHATEVER THE INPUT: true; the input reads as it did. -/
def fnExactChipRunSpec : ChangeSpec := { name := "fnExactChipRun", fn := fun _ => fun
  | [d1, d2] => { results := [.lit (.bool true)], args := [d1, d2] }
  | _ => none }
def fnExactChipRunRow : OpenClaim := { program := "ytcigpclbhfkgaaagreat", sum := "c1f60714d88c3899b0c459511807d0ed8e3b9ea94178fe5757b66998808fe677", func := "loop.example/g00984/laws.FnExactChipRun", spec := "fnExactChipRun", unfollowed := true, recurses := true, apart := false }
def FnExactChipRunSaid : Prop := fnExactChipRunRow.holds Tryz.pinned (OpenSpec.ofChange fnExactChipRunSpec)

/-- ITS FALSE NEIGHBOUR: 'it returns false'. Refute it at one input. -/
def fnExactChipRunWrong : ChangeSpec := { name := "fnExactChipRun", fn := fun _ => fun
  | [d1, d2] => { results := [.lit (.bool false)], args := [d1, d2] }
  | _ => none }
def FnExactChipRunWrongFalsely : Prop := fnExactChipRunRow.holds Tryz.pinned (OpenSpec.ofChange fnExactChipRunWrong)

/-- 'laws.FnExactBreakChannel': WHATEVER THE INPUT: true; the input reads as it did. -/
def fnExactBreakChannelSpec : ChangeSpec := { name := "fnExactBreakChannel", fn := fun _ => fun
  | [d1, d2] => { results := [.lit (.bool true)], args := [d1, d2] }
  | _ => none }
def fnExactBreakChannelRow : OpenClaim := { program := "ytcigpclbhfkgaaagreat", sum := "c1f60714d88c3899b0c459511807d0ed8e3b9ea94178fe5757b66998808fe677", func := "loop.example/g00984/laws.FnExactBreakChannel", spec := "fnExactBreakChannel", unfollowed := true, recurses := true, apart := false }
def FnExactBreakChannelSaid : Prop := fnExactBreakChannelRow.holds Tryz.pinned (OpenSpec.ofChange fnExactBreakChannelSpec)

/-- ITS FALSE NEIGHBOUR: 'it returns false'. Refute it at one input. -/
def fnExactBreakChannelWrong : ChangeSpec := { name := "fnExactBreakChannel", fn := fun _ => fun
  | [d1, d2] => { results := [.lit (.bool false)], args := [d1, d2] }
  | _ => none }
def FnExactBreakChannelWrongFalsely : Prop := fnExactBreakChannelRow.holds Tryz.pinned (OpenSpec.ofChange fnExactBreakChannelWrong)

/-- 'laws.FnExactDoAct': WHATEVER THE INPUT: true; the input reads as it did. -/
def fnExactDoActSpec : ChangeSpec := { name := "fnExactDoAct", fn := fun _ => fun
  | [d1, d2] => { results := [.lit (.bool true)], args := [d1, d2] }
  | _ => none }
def fnExactDoActRow : OpenClaim := { program := "ytcigpclbhfkgaaagreat", sum := "c1f60714d88c3899b0c459511807d0ed8e3b9ea94178fe5757b66998808fe677", func := "loop.example/g00984/laws.FnExactDoAct", spec := "fnExactDoAct", unfollowed := true, recurses := true, apart := false }
def FnExactDoActSaid : Prop := fnExactDoActRow.holds Tryz.pinned (OpenSpec.ofChange fnExactDoActSpec)

/-- ITS FALSE NEIGHBOUR: 'it returns false'. Refute it at one input. -/
def fnExactDoActWrong : ChangeSpec := { name := "fnExactDoAct", fn := fun _ => fun
  | [d1, d2] => { results := [.lit (.bool false)], args := [d1, d2] }
  | _ => none }
def FnExactDoActWrongFalsely : Prop := fnExactDoActRow.holds Tryz.pinned (OpenSpec.ofChange fnExactDoActWrong)

/- THE SECOND FORM. 'bulk': how many values and letters a reading holds, each counted each time it is reached (what is shared counts as often as it is met; a slice's spare places count too). A statement '..UptoSaid' is the law's where the arguments, and the package variables that the reading takes, are together of bulk at most 1048576: NARROWER than '..Said'. Prove '..Said' where nothing that the law and all that it calls make is longer than what came in: it says more and counts as full. Else prove '..UptoSaid'. A law counts once. -/
mutual
def uptoBulk {H : Type} : DataW H → Nat
  | .lit (.string bytes) => bytes.length + 1
  | .lit _ => 1
  | .nil => 1
  | .ptr d => uptoBulk d + 1
  | .slice elems spare => uptoBulkAll elems + uptoBulkAll spare + 1
  | .agg parts => uptoBulkAll parts + 1
  | .iface _ d => uptoBulk d + 1
  | .map entries => uptoBulkEntries entries + 1
  | .held _ => 1
def uptoBulkAll {H : Type} : List (DataW H) → Nat
  | [] => 0
  | d :: r => uptoBulk d + uptoBulkAll r
def uptoBulkEntries {H : Type} : List (Lit × DataW H) → Nat
  | [] => 0
  | x :: r => uptoBulkEntry x + uptoBulkEntries r
def uptoBulkEntry {H : Type} : Lit × DataW H → Nat
  | (.string bytes, d) => bytes.length + uptoBulk d + 1
  | (_, d) => uptoBulk d + 1
 end
def uptoSmall : (H : Type) → List (DataW H) → Bool := fun _ ds => decide (uptoBulkAll ds ≤ 1048576)
def OpenSpec.upto (s : _root_.Go.ChangeSpec) : _root_.Go.OpenSpec := { _root_.Go.OpenSpec.ofChange s with cond := some uptoSmall }

/-- 'laws.FnExactChipSend', WHERE WHAT IT READS IS OF BULK AT MOST 1048576: true; the input reads as it did. -/
def fnExactChipSendUptoRow : OpenClaim := { program := "ytcigpclbhfkgaaagreat", sum := "c1f60714d88c3899b0c459511807d0ed8e3b9ea94178fe5757b66998808fe677", func := "loop.example/g00984/laws.FnExactChipSend", spec := "fnExactChipSend", unfollowed := true, recurses := true, apart := false, narrowed := true }
def FnExactChipSendUptoSaid : Prop := fnExactChipSendUptoRow.holds Tryz.pinned (OpenSpec.upto fnExactChipSendSpec)

/-- 'laws.FnExactChipRun', WHERE WHAT IT READS IS OF BULK AT MOST 1048576: true; the input reads as it did. -/
def fnExactChipRunUptoRow : OpenClaim := { program := "ytcigpclbhfkgaaagreat", sum := "c1f60714d88c3899b0c459511807d0ed8e3b9ea94178fe5757b66998808fe677", func := "loop.example/g00984/laws.FnExactChipRun", spec := "fnExactChipRun", unfollowed := true, recurses := true, apart := false, narrowed := true }
def FnExactChipRunUptoSaid : Prop := fnExactChipRunUptoRow.holds Tryz.pinned (OpenSpec.upto fnExactChipRunSpec)

/-- 'laws.FnExactBreakChannel', WHERE WHAT IT READS IS OF BULK AT MOST 1048576: true; the input reads as it did. -/
def fnExactBreakChannelUptoRow : OpenClaim := { program := "ytcigpclbhfkgaaagreat", sum := "c1f60714d88c3899b0c459511807d0ed8e3b9ea94178fe5757b66998808fe677", func := "loop.example/g00984/laws.FnExactBreakChannel", spec := "fnExactBreakChannel", unfollowed := true, recurses := true, apart := false, narrowed := true }
def FnExactBreakChannelUptoSaid : Prop := fnExactBreakChannelUptoRow.holds Tryz.pinned (OpenSpec.upto fnExactBreakChannelSpec)

/-- 'laws.FnExactDoAct', WHERE WHAT IT READS IS OF BULK AT MOST 1048576: true; the input reads as it did. -/
def fnExactDoActUptoRow : OpenClaim := { program := "ytcigpclbhfkgaaagreat", sum := "c1f60714d88c3899b0c459511807d0ed8e3b9ea94178fe5757b66998808fe677", func := "loop.example/g00984/laws.FnExactDoAct", spec := "fnExactDoAct", unfollowed := true, recurses := true, apart := false, narrowed := true }
def FnExactDoActUptoSaid : Prop := fnExactDoActUptoRow.holds Tryz.pinned (OpenSpec.upto fnExactDoActSpec)

end Rows
end Go.Proofs.YtcigpclbhfkgaaaGreat
