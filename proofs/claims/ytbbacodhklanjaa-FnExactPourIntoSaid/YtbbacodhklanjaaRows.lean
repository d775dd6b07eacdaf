/-
  No cell of these rows narrows 'for every input' (looked for: loops, veiled, ifaces, maps, wideKeys, modest, calm, conditions, laid).
  DERIVED. THE GIVEN ROWS OF THIS SEAT. 14 by the template 'for every input the law returns true; each argument reads behind the call as it read before'; 0 by the template 'total and deterministic' (their statements: YtbbacodhklanjaaTotals.lean).
  GIVEN WITH THE SEED: the statements are not yours to turn. If you find one false, say at which input.
  Laid BY PROGRAM, IN A SANDBOX (cutbox-rows.mjs): the forced cells as the released guide's own fill.sh prints them over the translation 4f0166909a115dd4… (all of the seat's roots in one cut). By AI agents, Wed Nov 11 2026. No macro, syntax, notation, axiom, sorry.
-/
import Derived.Test.YtbbacodhklanjaaChecked
import GoSem.Claim
import GoSem.ClaimJoined
import GoSem.ClaimMapViews
import Derived.JoinedTies
import Derived.KernelRfl
namespace Go.Proofs.Ytbbacodhklanjaa
/- THE CELL 'sum', in the pinned program and in every row, IS THE sha256 OF THE DUMP (.gsa) THAT YtbbacodhklanjaaProg.lean LOADS. Nothing in Lean hashes anything: it is a label: what it is worth is what the hold of that sum in a sandbox is worth. -/
noncomputable def Try.pinned : Pinned := { name := "ytbbacodhklanjaa", sum := "4f0166909a115dd46d8ea85023bbfdbe9a6eb91707edb8bdd6b5a9422e815659", checked := Try.checked }
namespace Rows
def none {H : Type} : Left H := { results := [], args := [] }

/-- 'laws.FnExactCisternOk': WHATEVER THE INPUT: true; the input reads as it did. -/
def fnExactCisternOkSpec : ChangeSpec := { name := "fnExactCisternOk", fn := fun _ => fun
  | [d] => { results := [.lit (.bool true)], args := [d] }
  | _ => none }
def fnExactCisternOkRow : OpenClaim := { program := "ytbbacodhklanjaa", sum := "4f0166909a115dd46d8ea85023bbfdbe9a6eb91707edb8bdd6b5a9422e815659", func := "loop.example/g03307/laws.FnExactCisternOk", spec := "fnExactCisternOk", apart := false }
def FnExactCisternOkSaid : Prop := fnExactCisternOkRow.holds Try.pinned (OpenSpec.ofChange fnExactCisternOkSpec)

/-- ITS FALSE NEIGHBOUR: 'it returns false'. Refute it at one input. -/
def fnExactCisternOkWrong : ChangeSpec := { name := "fnExactCisternOk", fn := fun _ => fun
  | [d] => { results := [.lit (.bool false)], args := [d] }
  | _ => none }
def FnExactCisternOkWrongFalsely : Prop := fnExactCisternOkRow.holds Try.pinned (OpenSpec.ofChange fnExactCisternOkWrong)

/-- 'laws.FnExactPartFull': WHATEVER THE INPUT: true; the input reads as it did. -/
def fnExactPartFullSpec : ChangeSpec := { name := "fnExactPartFull", fn := fun _ => fun
  | [d] => { results := [.lit (.bool true)], args := [d] }
  | _ => none }
def fnExactPartFullRow : OpenClaim := { program := "ytbbacodhklanjaa", sum := "4f0166909a115dd46d8ea85023bbfdbe9a6eb91707edb8bdd6b5a9422e815659", func := "loop.example/g03307/laws.FnExactPartFull", spec := "fnExactPartFull", apart := false }
def FnExactPartFullSaid : Prop := fnExactPartFullRow.holds Try.pinned (OpenSpec.ofChange fnExactPartFullSpec)

/-- ITS FALSE NEIGHBOUR: 'it returns false'. Refute it at one input. -/
def fnExactPartFullWrong : ChangeSpec := { name := "fnExactPartFull", fn := fun _ => fun
  | [d] => { results := [.lit (.bool false)], args := [d] }
  | _ => none }
def FnExactPartFullWrongFalsely : Prop := fnExactPartFullRow.holds Try.pinned (OpenSpec.ofChange fnExactPartFullWrong)

/-- 'laws.FnExactSpaceIn': WHATEVER THE INPUT: true; the input reads as it did. -/
def fnExactSpaceInSpec : ChangeSpec := { name := "fnExactSpaceIn", fn := fun _ => fun
  | [d] => { results := [.lit (.bool true)], args := [d] }
  | _ => none }
def fnExactSpaceInRow : OpenClaim := { program := "ytbbacodhklanjaa", sum := "4f0166909a115dd46d8ea85023bbfdbe9a6eb91707edb8bdd6b5a9422e815659", func := "loop.example/g03307/laws.FnExactSpaceIn", spec := "fnExactSpaceIn", apart := false }
def FnExactSpaceInSaid : Prop := fnExactSpaceInRow.holds Try.pinned (OpenSpec.ofChange fnExactSpaceInSpec)

/-- ITS FALSE NEIGHBOUR: 'it returns false'. Refute it at one input. -/
def fnExactSpaceInWrong : ChangeSpec := { name := "fnExactSpaceIn", fn := fun _ => fun
  | [d] => { results := [.lit (.bool false)], args := [d] }
  | _ => none }
def FnExactSpaceInWrongFalsely : Prop := fnExactSpaceInRow.holds Try.pinned (OpenSpec.ofChange fnExactSpaceInWrong)

/-- 'laws.FnExactPour': WHATEVER THE INPUT: true; the input reads as it did. -/
def fnExactPourSpec : ChangeSpec := { name := "fnExactPour", fn := fun _ => fun
  | [d1, d2] => { results := [.lit (.bool true)], args := [d1, d2] }
  | _ => none }
def fnExactPourRow : OpenClaim := { program := "ytbbacodhklanjaa", sum := "4f0166909a115dd46d8ea85023bbfdbe9a6eb91707edb8bdd6b5a9422e815659", func := "loop.example/g03307/laws.FnExactPour", spec := "fnExactPour", apart := false }
def FnExactPourSaid : Prop := fnExactPourRow.holds Try.pinned (OpenSpec.ofChange fnExactPourSpec)

/-- ITS FALSE NEIGHBOUR: 'it returns false'. Refute it at one input. -/
def fnExactPourWrong : ChangeSpec := { name := "fnExactPour", fn := fun _ => fun
  | [d1, d2] => { results := [.lit (.bool false)], args := [d1, d2] }
  | _ => none }
def FnExactPourWrongFalsely : Prop := fnExactPourRow.holds Try.pinned (OpenSpec.ofChange fnExactPourWrong)

/-- 'laws.FnExactTakeOut': WHATEVER THE INPUT: true; the input reads as it did. -/
def fnExactTakeOutSpec : ChangeSpec := { name := "fnExactTakeOut", fn := fun _ => fun
  | [d1, d2] => { results := [.lit (.bool true)], args := [d1, d2] }
  | _ => none }
def fnExactTakeOutRow : OpenClaim := { program := "ytbbacodhklanjaa", sum := "4f0166909a115dd46d8ea85023bbfdbe9a6eb91707edb8bdd6b5a9422e815659", func := "loop.example/g03307/laws.FnExactTakeOut", spec := "fnExactTakeOut", apart := false }
def FnExactTakeOutSaid : Prop := fnExactTakeOutRow.holds Try.pinned (OpenSpec.ofChange fnExactTakeOutSpec)

/-- ITS FALSE NEIGHBOUR: 'it returns false'. Refute it at one input. -/
def fnExactTakeOutWrong : ChangeSpec := { name := "fnExactTakeOut", fn := fun _ => fun
  | [d1, d2] => { results := [.lit (.bool false)], args := [d1, d2] }
  | _ => none }
def FnExactTakeOutWrongFalsely : Prop := fnExactTakeOutRow.holds Try.pinned (OpenSpec.ofChange fnExactTakeOutWrong)

/-- 'laws.FnExactBalance': WHATEVER THE INPUT: true; the input reads as it did. -/
def fnExactBalanceSpec : ChangeSpec := { name := "fnExactBalance", fn := fun _ => fun
  | [d1, d2, d3] => { results := [.lit (.bool true)], args := [d1, d2, d3] }
  | _ => none }
def fnExactBalanceRow : OpenClaim := { program := "ytbbacodhklanjaa", sum := "4f0166909a115dd46d8ea85023bbfdbe9a6eb91707edb8bdd6b5a9422e815659", func := "loop.example/g03307/laws.FnExactBalance", spec := "fnExactBalance", apart := false }
def FnExactBalanceSaid : Prop := fnExactBalanceRow.holds Try.pinned (OpenSpec.ofChange fnExactBalanceSpec)

/-- ITS FALSE NEIGHBOUR: 'it returns false'. Refute it at one input. -/
def fnExactBalanceWrong : ChangeSpec := { name := "fnExactBalance", fn := fun _ => fun
  | [d1, d2, d3] => { results := [.lit (.bool false)], args := [d1, d2, d3] }
  | _ => none }
def FnExactBalanceWrongFalsely : Prop := fnExactBalanceRow.holds Try.pinned (OpenSpec.ofChange fnExactBalanceWrong)

/-- 'laws.FnCisterns': WHATEVER THE INPUT: true; the input reads as it did. -/
def fnCisternsSpec : ChangeSpec := { name := "fnCisterns", fn := fun _ => fun
  | [d] => { results := [.lit (.bool true)], args := [d] }
  | _ => none }
def fnCisternsRow : OpenClaim := { program := "ytbbacodhklanjaa", sum := "4f0166909a115dd46d8ea85023bbfdbe9a6eb91707edb8bdd6b5a9422e815659", func := "loop.example/g03307/laws.FnCisterns", spec := "fnCisterns", apart := false }
def FnCisternsSaid : Prop := fnCisternsRow.holds Try.pinned (OpenSpec.ofChange fnCisternsSpec)

/-- ITS FALSE NEIGHBOUR: 'it returns false'. Refute it at one input. -/
def fnCisternsWrong : ChangeSpec := { name := "fnCisterns", fn := fun _ => fun
  | [d] => { results := [.lit (.bool false)], args := [d] }
  | _ => none }
def FnCisternsWrongFalsely : Prop := fnCisternsRow.holds Try.pinned (OpenSpec.ofChange fnCisternsWrong)

/-- 'laws.FnExactCircleIn': WHATEVER THE INPUT: true; the input reads as it did. -/
def fnExactCircleInSpec : ChangeSpec := { name := "fnExactCircleIn", fn := fun _ => fun
  | [d] => { results := [.lit (.bool true)], args := [d] }
  | _ => none }
def fnExactCircleInRow : OpenClaim := { program := "ytbbacodhklanjaa", sum := "4f0166909a115dd46d8ea85023bbfdbe9a6eb91707edb8bdd6b5a9422e815659", func := "loop.example/g03307/laws.FnExactCircleIn", spec := "fnExactCircleIn", apart := false }
def FnExactCircleInSaid : Prop := fnExactCircleInRow.holds Try.pinned (OpenSpec.ofChange fnExactCircleInSpec)

/-- ITS FALSE NEIGHBOUR: 'it returns false'. Refute it at one input. -/
def fnExactCircleInWrong : ChangeSpec := { name := "fnExactCircleIn", fn := fun _ => fun
  | [d] => { results := [.lit (.bool false)], args := [d] }
  | _ => none }
def FnExactCircleInWrongFalsely : Prop := fnExactCircleInRow.holds Try.pinned (OpenSpec.ofChange fnExactCircleInWrong)

/-- 'laws.FnExactChainOk': WHATEVER THE INPUT: true; the input reads as it did. -/
def fnExactChainOkSpec : ChangeSpec := { name := "fnExactChainOk", fn := fun _ => fun
  | [d] => { results := [.lit (.bool true)], args := [d] }
  | _ => none }
def fnExactChainOkRow : OpenClaim := { program := "ytbbacodhklanjaa", sum := "4f0166909a115dd46d8ea85023bbfdbe9a6eb91707edb8bdd6b5a9422e815659", func := "loop.example/g03307/laws.FnExactChainOk", spec := "fnExactChainOk", apart := false }
def FnExactChainOkSaid : Prop := fnExactChainOkRow.holds Try.pinned (OpenSpec.ofChange fnExactChainOkSpec)

/-- ITS FALSE NEIGHBOUR: 'it returns false'. Refute it at one input. -/
def fnExactChainOkWrong : ChangeSpec := { name := "fnExactChainOk", fn := fun _ => fun
  | [d] => { results := [.lit (.bool false)], args := [d] }
  | _ => none }
def FnExactChainOkWrongFalsely : Prop := fnExactChainOkRow.holds Try.pinned (OpenSpec.ofChange fnExactChainOkWrong)

/-- 'laws.FnExactPourInto': WHATEVER THE INPUT: true; the input reads as it did. -/
def fnExactPourIntoSpec : ChangeSpec := { name := "fnExactPourInto", fn := fun _ => fun
  | [d1, d2, d3] => { results := [.lit (.bool true)], args := [d1, d2, d3] }
  | _ => none }
def fnExactPourIntoRow : OpenClaim := { program := "ytbbacodhklanjaa", sum := "4f0166909a115dd46d8ea85023bbfdbe9a6eb91707edb8bdd6b5a9422e815659", func := "loop.example/g03307/laws.FnExactPourInto", spec := "fnExactPourInto", apart := false }
def FnExactPourIntoSaid : Prop := fnExactPourIntoRow.holds Try.pinned (OpenSpec.ofChange fnExactPourIntoSpec)

/-- ITS FALSE NEIGHBOUR: 'it returns false'. Refute it at one input. -/
def fnExactPourIntoWrong : ChangeSpec := { name := "fnExactPourInto", fn := fun _ => fun
  | [d1, d2, d3] => { results := [.lit (.bool false)], args := [d1, d2, d3] }
  | _ => none }
def FnExactPourIntoWrongFalsely : Prop := fnExactPourIntoRow.holds Try.pinned (OpenSpec.ofChange fnExactPourIntoWrong)

/-- 'laws.FnExactTotalLevel': WHATEVER THE INPUT: true; the input reads as it did. -/
def fnExactTotalLevelSpec : ChangeSpec := { name := "fnExactTotalLevel", fn := fun _ => fun
  | [d] => { results := [.lit (.bool true)], args := [d] }
  | _ => none }
def fnExactTotalLevelRow : OpenClaim := { program := "ytbbacodhklanjaa", sum := "4f0166909a115dd46d8ea85023bbfdbe9a6eb91707edb8bdd6b5a9422e815659", func := "loop.example/g03307/laws.FnExactTotalLevel", spec := "fnExactTotalLevel", apart := false }
def FnExactTotalLevelSaid : Prop := fnExactTotalLevelRow.holds Try.pinned (OpenSpec.ofChange fnExactTotalLevelSpec)

/-- ITS FALSE NEIGHBOUR: 'it returns false'. Refute it at one input. -/
def fnExactTotalLevelWrong : ChangeSpec := { name := "fnExactTotalLevel", fn := fun _ => fun
  | [d] => { results := [.lit (.bool false)], args := [d] }
  | _ => none }
def FnExactTotalLevelWrongFalsely : Prop := fnExactTotalLevelRow.holds Try.pinned (OpenSpec.ofChange fnExactTotalLevelWrong)

/-- 'laws.FnExactWayOf': WHATEVER THE INPUT: true; the input reads as it did. -/
def fnExactWayOfSpec : ChangeSpec := { name := "fnExactWayOf", fn := fun _ => fun
  | [d1, d2] => { results := [.lit (.bool true)], args := [d1, d2] }
  | _ => none }
def fnExactWayOfRow : OpenClaim := { program := "ytbbacodhklanjaa", sum := "4f0166909a115dd46d8ea85023bbfdbe9a6eb91707edb8bdd6b5a9422e815659", func := "loop.example/g03307/laws.FnExactWayOf", spec := "fnExactWayOf", apart := false }
def FnExactWayOfSaid : Prop := fnExactWayOfRow.holds Try.pinned (OpenSpec.ofChange fnExactWayOfSpec)

/-- ITS FALSE NEIGHBOUR: 'it returns false'. Refute it at one input. -/
def fnExactWayOfWrong : ChangeSpec := { name := "fnExactWayOf", fn := fun _ => fun
  | [d1, d2] => { results := [.lit (.bool false)], args := [d1, d2] }
  | _ => none }
def FnExactWayOfWrongFalsely : Prop := fnExactWayOfRow.holds Try.pinned (OpenSpec.ofChange fnExactWayOfWrong)

/-- 'laws.FnExactRoomFrom': WHATEVER THE INPUT: true; the input reads as it did. -/
def fnExactRoomFromSpec : ChangeSpec := { name := "fnExactRoomFrom", fn := fun _ => fun
  | [d1, d2] => { results := [.lit (.bool true)], args := [d1, d2] }
  | _ => none }
def fnExactRoomFromRow : OpenClaim := { program := "ytbbacodhklanjaa", sum := "4f0166909a115dd46d8ea85023bbfdbe9a6eb91707edb8bdd6b5a9422e815659", func := "loop.example/g03307/laws.FnExactRoomFrom", spec := "fnExactRoomFrom", apart := false }
def FnExactRoomFromSaid : Prop := fnExactRoomFromRow.holds Try.pinned (OpenSpec.ofChange fnExactRoomFromSpec)

/-- ITS FALSE NEIGHBOUR: 'it returns false'. Refute it at one input. -/
def fnExactRoomFromWrong : ChangeSpec := { name := "fnExactRoomFrom", fn := fun _ => fun
  | [d1, d2] => { results := [.lit (.bool false)], args := [d1, d2] }
  | _ => none }
def FnExactRoomFromWrongFalsely : Prop := fnExactRoomFromRow.holds Try.pinned (OpenSpec.ofChange fnExactRoomFromWrong)

/-- 'laws.FnChains': WHATEVER THE INPUT: true; the input reads as it did. -/
def fnChainsSpec : ChangeSpec := { name := "fnChains", fn := fun _ => fun
  | [d] => { results := [.lit (.bool true)], args := [d] }
  | _ => none }
def fnChainsRow : OpenClaim := { program := "ytbbacodhklanjaa", sum := "4f0166909a115dd46d8ea85023bbfdbe9a6eb91707edb8bdd6b5a9422e815659", func := "loop.example/g03307/laws.FnChains", spec := "fnChains", apart := false }
def FnChainsSaid : Prop := fnChainsRow.holds Try.pinned (OpenSpec.ofChange fnChainsSpec)

/-- ITS FALSE NEIGHBOUR: 'it returns false'. Refute it at one input. -/
def fnChainsWrong : ChangeSpec := { name := "fnChains", fn := fun _ => fun
  | [d] => { results := [.lit (.bool false)], args := [d] }
  | _ => none }
def FnChainsWrongFalsely : Prop := fnChainsRow.holds Try.pinned (OpenSpec.ofChange fnChainsWrong)

/- THE SECOND FORM. 'bulk': how many values and letters a reading holds, each counted each time it is reached (what is shared counts as often as it is met; a slice's spare places count too). A statement '..UptoSaid' is the law's where the arguments, and the package variables that the reading takes, are together of bulk at most 1048576: NARROWER than '..Said'. Prove '..Said' where nothing that the law and all that it calls make is longer than what came in: it says more and counts as full. Else prove '..UptoSaid'. A law counts once. -/
mutual
def uptoBulk {H : Type} : DataW H → Nat
  | .lit (.string bytes) => bytes.length + 1
  | .lit _ => 1
  | .nil => 1
  | .ptr d => uptoBulk d + 1
  | .slice elems spare => uptoBulkAll elems + uptoBulkAll spare + 1
  | .agg parts => uptoBulkAll parts + 1
  | .iface _ d => uptoBulk d + 1
  | .map entries => uptoBulkEntries entries + 1
  | .held _ => 1
def uptoBulkAll {H : Type} : List (DataW H) → Nat
  | [] => 0
  | d :: r => uptoBulk d + uptoBulkAll r
def uptoBulkEntries {H : Type} : List (Lit × DataW H) → Nat
  | [] => 0
  | x :: r => uptoBulkEntry x + uptoBulkEntries r
def uptoBulkEntry {H : Type} : Lit × DataW H → Nat
  | (.string bytes, d) => bytes.length + uptoBulk d + 1
  | (_, d) => uptoBulk d + 1
 end
def uptoSmall : (H : Type) → List (DataW H) → Bool := fun _ ds => decide (uptoBulkAll ds ≤ 1048576)
def OpenSpec.upto (s : _root_.Go.ChangeSpec) : _root_.Go.OpenSpec := { _root_.Go.OpenSpec.ofChange s with cond := some uptoSmall }

/-- 'laws.FnExactCisternOk', WHERE WHAT IT READS IS OF BULK AT MOST 1048576: true; the input reads as it did. -/
def fnExactCisternOkUptoRow : OpenClaim := { program := "ytbbacodhklanjaa", sum := "4f0166909a115dd46d8ea85023bbfdbe9a6eb91707edb8bdd6b5a9422e815659", func := "loop.example/g03307/laws.FnExactCisternOk", spec := "fnExactCisternOk", apart := false, narrowed := true }
def FnExactCisternOkUptoSaid : Prop := fnExactCisternOkUptoRow.holds Try.pinned (OpenSpec.upto fnExactCisternOkSpec)

/-- 'laws.FnExactPartFull', WHERE WHAT IT READS IS OF BULK AT MOST 1048576: true; the input reads as it did. -/
def fnExactPartFullUptoRow : OpenClaim := { program := "ytbbacodhklanjaa", sum := "4f0166909a115dd46d8ea85023bbfdbe9a6eb91707edb8bdd6b5a9422e815659", func := "loop.example/g03307/laws.FnExactPartFull", spec := "fnExactPartFull", apart := false, narrowed := true }
def FnExactPartFullUptoSaid : Prop := fnExactPartFullUptoRow.holds Try.pinned (OpenSpec.upto fnExactPartFullSpec)

/-- 'laws.FnExactSpaceIn', WHERE WHAT IT READS IS OF BULK AT MOST 1048576: true; the input reads as it did. -/
def fnExactSpaceInUptoRow : OpenClaim := { program := "ytbbacodhklanjaa", sum := "4f0166909a115dd46d8ea85023bbfdbe9a6eb91707edb8bdd6b5a9422e815659", func := "loop.example/g03307/laws.FnExactSpaceIn", spec := "fnExactSpaceIn", apart := false, narrowed := true }
def FnExactSpaceInUptoSaid : Prop := fnExactSpaceInUptoRow.holds Try.pinned (OpenSpec.upto fnExactSpaceInSpec)

/-- 'laws.FnExactPour', WHERE WHAT IT READS IS OF BULK AT MOST 1048576: true; the input reads as it did. -/
def fnExactPourUptoRow : OpenClaim := { program := "ytbbacodhklanjaa", sum := "4f0166909a115dd46d8ea85023bbfdbe9a6eb91707edb8bdd6b5a9422e815659", func := "loop.example/g03307/laws.FnExactPour", spec := "fnExactPour", apart := false, narrowed := true }
def FnExactPourUptoSaid : Prop := fnExactPourUptoRow.holds Try.pinned (OpenSpec.upto fnExactPourSpec)

/-- 'laws.FnExactTakeOut', WHERE WHAT IT READS IS OF BULK AT MOST 1048576: true; the input reads as it did. -/
def fnExactTakeOutUptoRow : OpenClaim := { program := "ytbbacodhklanjaa", sum := "4f0166909a115dd46d8ea85023bbfdbe9a6eb91707edb8bdd6b5a9422e815659", func := "loop.example/g03307/laws.FnExactTakeOut", spec := "fnExactTakeOut", apart := false, narrowed := true }
def FnExactTakeOutUptoSaid : Prop := fnExactTakeOutUptoRow.holds Try.pinned (OpenSpec.upto fnExactTakeOutSpec)

/-- 'laws.FnExactBalance', WHERE WHAT IT READS IS OF BULK AT MOST 1048576: true; the input reads as it did. -/
def fnExactBalanceUptoRow : OpenClaim := { program := "ytbbacodhklanjaa", sum := "4f0166909a115dd46d8ea85023bbfdbe9a6eb91707edb8bdd6b5a9422e815659", func := "loop.example/g03307/laws.FnExactBalance", spec := "fnExactBalance", apart := false, narrowed := true }
def FnExactBalanceUptoSaid : Prop := fnExactBalanceUptoRow.holds Try.pinned (OpenSpec.upto fnExactBalanceSpec)

/-- 'laws.FnCisterns', WHERE WHAT IT READS IS OF BULK AT MOST 1048576: true; the input reads as it did. -/
def fnCisternsUptoRow : OpenClaim := { program := "ytbbacodhklanjaa", sum := "4f0166909a115dd46d8ea85023bbfdbe9a6eb91707edb8bdd6b5a9422e815659", func := "loop.example/g03307/laws.FnCisterns", spec := "fnCisterns", apart := false, narrowed := true }
def FnCisternsUptoSaid : Prop := fnCisternsUptoRow.holds Try.pinned (OpenSpec.upto fnCisternsSpec)

/-- 'laws.FnExactCircleIn', WHERE WHAT IT READS IS OF BULK AT MOST 1048576: true; the input reads as it did. -/
def fnExactCircleInUptoRow : OpenClaim := { program := "ytbbacodhklanjaa", sum := "4f0166909a115dd46d8ea85023bbfdbe9a6eb91707edb8bdd6b5a9422e815659", func := "loop.example/g03307/laws.FnExactCircleIn", spec := "fnExactCircleIn", apart := false, narrowed := true }
def FnExactCircleInUptoSaid : Prop := fnExactCircleInUptoRow.holds Try.pinned (OpenSpec.upto fnExactCircleInSpec)

/-- 'laws.FnExactChainOk', WHERE WHAT IT READS IS OF BULK AT MOST 1048576: true; the input reads as it did. -/
def fnExactChainOkUptoRow : OpenClaim := { program := "ytbbacodhklanjaa", sum := "4f0166909a115dd46d8ea85023bbfdbe9a6eb91707edb8bdd6b5a9422e815659", func := "loop.example/g03307/laws.FnExactChainOk", spec := "fnExactChainOk", apart := false, narrowed := true }
def FnExactChainOkUptoSaid : Prop := fnExactChainOkUptoRow.holds Try.pinned (OpenSpec.upto fnExactChainOkSpec)

/-- 'laws.FnExactPourInto', WHERE WHAT IT READS IS OF BULK AT MOST 1048576: true; the input reads as it did. -/
def fnExactPourIntoUptoRow : OpenClaim := { program := "ytbbacodhklanjaa", sum := "4f0166909a115dd46d8ea85023bbfdbe9a6eb91707edb8bdd6b5a9422e815659", func := "loop.example/g03307/laws.FnExactPourInto", spec := "fnExactPourInto", apart := false, narrowed := true }
def FnExactPourIntoUptoSaid : Prop := fnExactPourIntoUptoRow.holds Try.pinned (OpenSpec.upto fnExactPourIntoSpec)

/-- 'laws.FnExactTotalLevel', WHERE WHAT IT READS IS OF BULK AT MOST 1048576: true; the input reads as it did. -/
def fnExactTotalLevelUptoRow : OpenClaim := { program := "ytbbacodhklanjaa", sum := "4f0166909a115dd46d8ea85023bbfdbe9a6eb91707edb8bdd6b5a9422e815659", func := "loop.example/g03307/laws.FnExactTotalLevel", spec := "fnExactTotalLevel", apart := false, narrowed := true }
def FnExactTotalLevelUptoSaid : Prop := fnExactTotalLevelUptoRow.holds Try.pinned (OpenSpec.upto fnExactTotalLevelSpec)

/-- 'laws.FnExactWayOf', WHERE WHAT IT READS IS OF BULK AT MOST 1048576: true; the input reads as it did. -/
def fnExactWayOfUptoRow : OpenClaim := { program := "ytbbacodhklanjaa", sum := "4f0166909a115dd46d8ea85023bbfdbe9a6eb91707edb8bdd6b5a9422e815659", func := "loop.example/g03307/laws.FnExactWayOf", spec := "fnExactWayOf", apart := false, narrowed := true }
def FnExactWayOfUptoSaid : Prop := fnExactWayOfUptoRow.holds Try.pinned (OpenSpec.upto fnExactWayOfSpec)

/-- 'laws.FnExactRoomFrom', WHERE WHAT IT READS IS OF BULK AT MOST 1048576: true; the input reads as it did. -/
def fnExactRoomFromUptoRow : OpenClaim := { program := "ytbbacodhklanjaa", sum := "4f0166909a115dd46d8ea85023bbfdbe9a6eb91707edb8bdd6b5a9422e815659", func := "loop.example/g03307/laws.FnExactRoomFrom", spec := "fnExactRoomFrom", apart := false, narrowed := true }
def FnExactRoomFromUptoSaid : Prop := fnExactRoomFromUptoRow.holds Try.pinned (OpenSpec.upto fnExactRoomFromSpec)

/-- 'laws.FnChains', WHERE WHAT IT READS IS OF BULK AT MOST 1048576: true; the input reads as it did. -/
def fnChainsUptoRow : OpenClaim := { program := "ytbbacodhklanjaa", sum := "4f0166909a115dd46d8ea85023bbfdbe9a6eb91707edb8bdd6b5a9422e815659", func := "loop.example/g03307/laws.FnChains", spec := "fnChains", apart := false, narrowed := true }
def FnChainsUptoSaid : Prop := fnChainsUptoRow.holds Try.pinned (OpenSpec.upto fnChainsSpec)

end Rows
end Go.Proofs.Ytbbacodhklanjaa
