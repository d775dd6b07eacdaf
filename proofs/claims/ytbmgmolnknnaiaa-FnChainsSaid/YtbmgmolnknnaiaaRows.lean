/-
  No cell of these rows narrows 'for every input' (looked for: loops, veiled, ifaces, maps, wideKeys, modest, calm, conditions, laid).
  DERIVED. THE GIVEN ROWS OF THIS SEAT. 3 by the template 'for every input the law returns true; each argument reads behind the call as it read before'; 0 by the template 'total and deterministic' (their statements: YtbmgmolnknnaiaaTotals.lean).
  GIVEN WITH THE SEED: the statements are not yours to turn. If you find one false, say at which input.
  Laid BY PROGRAM, IN A SANDBOX (cutbox-rows.mjs): the forced cells as the released guide's own fill.sh prints them over the translation a5b57c0a9a908414… (all of the seat's roots in one cut). By AI agents, Wed Nov 11 2026. No macro, syntax, notation, axiom, sorry.
-/
import Derived.Test.YtbmgmolnknnaiaaChecked
import GoSem.Claim
import GoSem.ClaimJoined
import GoSem.ClaimMapViews
import Derived.JoinedTies
import Derived.KernelRfl
namespace Go.Proofs.Ytbmgmolnknnaiaa
/- THE CELL 'sum', in the pinned program and in every row, IS THE sha256 OF THE DUMP (.gsa) THAT YtbmgmolnknnaiaaProg.lean LOADS. Nothing in Lean hashes anything: it is a label: what it is worth is what the hold of that sum in a sandbox is worth. -/
noncomputable def Try.pinned : Pinned := { name := "ytbmgmolnknnaiaa", sum := "a5b57c0a9a908414f088de9019ebbea5fb6cea10a6804b534de504d07e7a8a80", checked := Try.checked }
namespace Rows
def none {H : Type} : Left H := { results := [], args := [] }

/-- 'laws.FnExactBalance': WHATEVER THE INPUT: true; the input reads as it did. -/
def fnExactBalanceSpec : ChangeSpec := { name := "fnExactBalance", fn := fun _ => fun
  | [d1, d2, d3] => { results := [.lit (.bool true)], args := [d1, d2, d3] }
  | _ => none }
def fnExactBalanceRow : OpenClaim := { program := "ytbmgmolnknnaiaa", sum := "a5b57c0a9a908414f088de9019ebbea5fb6cea10a6804b534de504d07e7a8a80", func := "loop.example/g03307/laws.FnExactBalance", spec := "fnExactBalance", apart := false }
def FnExactBalanceSaid : Prop := fnExactBalanceRow.holds Try.pinned (OpenSpec.ofChange fnExactBalanceSpec)

/-- ITS FALSE NEIGHBOUR: 'it returns false'. Refute it at one input. -/
def fnExactBalanceWrong : ChangeSpec := { name := "fnExactBalance", fn := fun _ => fun
  | [d1, d2, d3] => { results := [.lit (.bool false)], args := [d1, d2, d3] }
  | _ => none }
def FnExactBalanceWrongFalsely : Prop := fnExactBalanceRow.holds Try.pinned (OpenSpec.ofChange fnExactBalanceWrong)

/-- 'laws.FnCisterns': WHATEVER THE INPUT: true; the input reads as it did. -/
def fnCisternsSpec : ChangeSpec := { name := "fnCisterns", fn := fun _ => fun
  | [d] => { results := [.lit (.bool true)], args := [d] }
  | _ => none }
def fnCisternsRow : OpenClaim := { program := "ytbmgmolnknnaiaa", sum := "a5b57c0a9a908414f088de9019ebbea5fb6cea10a6804b534de504d07e7a8a80", func := "loop.example/g03307/laws.FnCisterns", spec := "fnCisterns", apart := false }
def FnCisternsSaid : Prop := fnCisternsRow.holds Try.pinned (OpenSpec.ofChange fnCisternsSpec)

/-- ITS FALSE NEIGHBOUR: 'it returns false'. Refute it at one input. -/
def fnCisternsWrong : ChangeSpec := { name := "fnCisterns", fn := fun _ => fun
  | [d] => { results := [.lit (.bool false)], args := [d] }
  | _ => none }
def FnCisternsWrongFalsely : Prop := fnCisternsRow.holds Try.pinned (OpenSpec.ofChange fnCisternsWrong)

/-- 'laws.FnChains': WHATEVER THE INPUT: true; the input reads as it did. -/
def fnChainsSpec : ChangeSpec := { name := "fnChains", fn := fun _ => fun
  | [d] => { results := [.lit (.bool true)], args := [d] }
  | _ => none }
def fnChainsRow : OpenClaim := { program := "ytbmgmolnknnaiaa", sum := "a5b57c0a9a908414f088de9019ebbea5fb6cea10a6804b534de504d07e7a8a80", func := "loop.example/g03307/laws.FnChains", spec := "fnChains", apart := false }
def FnChainsSaid : Prop := fnChainsRow.holds Try.pinned (OpenSpec.ofChange fnChainsSpec)

/-- ITS FALSE NEIGHBOUR: 'it returns false'. Refute it at one input. -/
def fnChainsWrong : ChangeSpec := { name := "fnChains", fn := fun _ => fun
  | [d] => { results := [.lit (.bool false)], args := [d] }
  | _ => none }
def FnChainsWrongFalsely : Prop := fnChainsRow.holds Try.pinned (OpenSpec.ofChange fnChainsWrong)

/- THE SECOND FORM. 'bulk': how many values and letters a reading holds, each counted each time it is reached (what is shared counts as often as it is met; a slice's spare places count too). A statement '..UptoSaid' is the law's where the arguments, and the package variables that the reading takes, are together of bulk at most 1048576: NARROWER than '..Said'. Prove '..Said' where nothing that the law and all that it calls make is longer than what came in: it says more and counts as full. Else prove '..UptoSaid'. A law counts once. -/
mutual
def uptoBulk {H : Type} : DataW H → Nat
  | .lit (.string bytes) => bytes.length + 1
  | .lit _ => 1
  | .nil => 1
  | .ptr d => uptoBulk d + 1
  | .slice elems spare => uptoBulkAll elems + uptoBulkAll spare + 1
  | .agg parts => uptoBulkAll parts + 1
  | .iface _ d => uptoBulk d + 1
  | .map entries => uptoBulkEntries entries + 1
  | .held _ => 1
def uptoBulkAll {H : Type} : List (DataW H) → Nat
  | [] => 0
  | d :: r => uptoBulk d + uptoBulkAll r
def uptoBulkEntries {H : Type} : List (Lit × DataW H) → Nat
  | [] => 0
  | x :: r => uptoBulkEntry x + uptoBulkEntries r
def uptoBulkEntry {H : Type} : Lit × DataW H → Nat
  | (.string bytes, d) => bytes.length + uptoBulk d + 1
  | (_, d) => uptoBulk d + 1
 end
def uptoSmall : (H : Type) → List (DataW H) → Bool := fun _ ds => decide (uptoBulkAll ds ≤ 1048576)
def OpenSpec.upto (s : _root_.Go.ChangeSpec) : _root_.Go.OpenSpec := { _root_.Go.OpenSpec.ofChange s with cond := some uptoSmall }

/-- 'laws.FnExactBalance', WHERE WHAT IT READS IS OF BULK AT MOST 1048576: true; the input reads as it did. -/
def fnExactBalanceUptoRow : OpenClaim := { program := "ytbmgmolnknnaiaa", sum := "a5b57c0a9a908414f088de9019ebbea5fb6cea10a6804b534de504d07e7a8a80", func := "loop.example/g03307/laws.FnExactBalance", spec := "fnExactBalance", apart := false, narrowed := true }
def FnExactBalanceUptoSaid : Prop := fnExactBalanceUptoRow.holds Try.pinned (OpenSpec.upto fnExactBalanceSpec)

/-- 'laws.FnCisterns', WHERE WHAT IT READS IS OF BULK AT MOST 1048576: true; the input reads as it did. -/
def fnCisternsUptoRow : OpenClaim := { program := "ytbmgmolnknnaiaa", sum := "a5b57c0a9a908414f088de9019ebbea5fb6cea10a6804b534de504d07e7a8a80", func := "loop.example/g03307/laws.FnCisterns", spec := "fnCisterns", apart := false, narrowed := true }
def FnCisternsUptoSaid : Prop := fnCisternsUptoRow.holds Try.pinned (OpenSpec.upto fnCisternsSpec)

/-- 'laws.FnChains', WHERE WHAT IT READS IS OF BULK AT MOST 1048576: true; the input reads as it did. -/
def fnChainsUptoRow : OpenClaim := { program := "ytbmgmolnknnaiaa", sum := "a5b57c0a9a908414f088de9019ebbea5fb6cea10a6804b534de504d07e7a8a80", func := "loop.example/g03307/laws.FnChains", spec := "fnChains", apart := false, narrowed := true }
def FnChainsUptoSaid : Prop := fnChainsUptoRow.holds Try.pinned (OpenSpec.upto fnChainsSpec)

end Rows
end Go.Proofs.Ytbmgmolnknnaiaa
