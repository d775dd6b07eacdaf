/-
  No cell of these rows narrows 'for every input' (looked for: loops, veiled, ifaces, maps, wideKeys, modest, calm, conditions, laid).
  DERIVED. THE GIVEN ROWS OF THIS SEAT. 3 by the template 'for every input the law returns true; each argument reads behind the call as it read before'; 0 by the template 'total and deterministic' (their statements: YtbkpphcmdjllnaaTotals.lean).
  GIVEN WITH THE SEED: the statements are not yours to turn. If you find one false, say at which input.
  Laid BY PROGRAM, IN A SANDBOX (cutbox-rows.mjs): the forced cells as the released guide's own fill.sh prints them over the translation c7c71565ad45bdda… (all of the seat's roots in one cut). By AI agents, Wed Nov 11 2026. No macro, syntax, notation, axiom, sorry.
-/
import Derived.Test.YtbkpphcmdjllnaaChecked
import GoSem.Claim
import GoSem.ClaimJoined
import GoSem.ClaimMapViews
import Derived.JoinedTies
import Derived.KernelRfl
namespace Go.Proofs.Ytbkpphcmdjllnaa
/- THE CELL 'sum', in the pinned program and in every row, IS THE sha256 OF THE DUMP (.gsa) THAT YtbkpphcmdjllnaaProg.lean LOADS. Nothing in Lean hashes anything: it is a label: what it is worth is what the hold of that sum in a sandbox is worth. -/
noncomputable def Try.pinned : Pinned := { name := "ytbkpphcmdjllnaa", sum := "c7c71565ad45bdda7c05d33be8d858d2d73190bf47d65b0aa6baf7d29d2376bd", checked := Try.checked }
namespace Rows
def none {H : Type} : Left H := { results := [], args := [] }

/-- 'laws.FnExactNetOk': WHATEVER THE INPUT: true; the input reads as it did. -/
def fnExactNetOkSpec : ChangeSpec := { name := "fnExactNetOk", fn := fun _ => fun
  | [d] => { results := [.lit (.bool true)], args := [d] }
  | _ => none }
def fnExactNetOkRow : OpenClaim := { program := "ytbkpphcmdjllnaa", sum := "c7c71565ad45bdda7c05d33be8d858d2d73190bf47d65b0aa6baf7d29d2376bd", func := "loop.example/g03307/laws.FnExactNetOk", spec := "fnExactNetOk", apart := false }
def FnExactNetOkSaid : Prop := fnExactNetOkRow.holds Try.pinned (OpenSpec.ofChange fnExactNetOkSpec)

/-- ITS FALSE NEIGHBOUR: 'it returns false'. Refute it at one input. -/
def fnExactNetOkWrong : ChangeSpec := { name := "fnExactNetOk", fn := fun _ => fun
  | [d] => { results := [.lit (.bool false)], args := [d] }
  | _ => none }
def FnExactNetOkWrongFalsely : Prop := fnExactNetOkRow.holds Try.pinned (OpenSpec.ofChange fnExactNetOkWrong)

/-- 'laws.FnExactOutOf': WHATEVER THE INPUT: true; the input reads as it did. -/
def fnExactOutOfSpec : ChangeSpec := { name := "fnExactOutOf", fn := fun _ => fun
  | [d1, d2] => { results := [.lit (.bool true)], args := [d1, d2] }
  | _ => none }
def fnExactOutOfRow : OpenClaim := { program := "ytbkpphcmdjllnaa", sum := "c7c71565ad45bdda7c05d33be8d858d2d73190bf47d65b0aa6baf7d29d2376bd", func := "loop.example/g03307/laws.FnExactOutOf", spec := "fnExactOutOf", apart := false }
def FnExactOutOfSaid : Prop := fnExactOutOfRow.holds Try.pinned (OpenSpec.ofChange fnExactOutOfSpec)

/-- ITS FALSE NEIGHBOUR: 'it returns false'. Refute it at one input. -/
def fnExactOutOfWrong : ChangeSpec := { name := "fnExactOutOf", fn := fun _ => fun
  | [d1, d2] => { results := [.lit (.bool false)], args := [d1, d2] }
  | _ => none }
def FnExactOutOfWrongFalsely : Prop := fnExactOutOfRow.holds Try.pinned (OpenSpec.ofChange fnExactOutOfWrong)

/-- 'laws.FnPipes': WHATEVER THE INPUT: true; the input reads as it did. -/
def fnPipesSpec : ChangeSpec := { name := "fnPipes", fn := fun _ => fun
  | [d] => { results := [.lit (.bool true)], args := [d] }
  | _ => none }
def fnPipesRow : OpenClaim := { program := "ytbkpphcmdjllnaa", sum := "c7c71565ad45bdda7c05d33be8d858d2d73190bf47d65b0aa6baf7d29d2376bd", func := "loop.example/g03307/laws.FnPipes", spec := "fnPipes", apart := false }
def FnPipesSaid : Prop := fnPipesRow.holds Try.pinned (OpenSpec.ofChange fnPipesSpec)

/-- ITS FALSE NEIGHBOUR: 'it returns false'. Refute it at one input. -/
def fnPipesWrong : ChangeSpec := { name := "fnPipes", fn := fun _ => fun
  | [d] => { results := [.lit (.bool false)], args := [d] }
  | _ => none }
def FnPipesWrongFalsely : Prop := fnPipesRow.holds Try.pinned (OpenSpec.ofChange fnPipesWrong)

/- THE SECOND FORM. 'bulk': how many values and letters a reading holds, each counted each time it is reached (what is shared counts as often as it is met; a slice's spare places count too). A statement '..UptoSaid' is the law's where the arguments, and the package variables that the reading takes, are together of bulk at most 1048576: NARROWER than '..Said'. Prove '..Said' where nothing that the law and all that it calls make is longer than what came in: it says more and counts as full. Else prove '..UptoSaid'. A law counts once. -/
mutual
def uptoBulk {H : Type} : DataW H → Nat
  | .lit (.string bytes) => bytes.length + 1
  | .lit _ => 1
  | .nil => 1
  | .ptr d => uptoBulk d + 1
  | .slice elems spare => uptoBulkAll elems + uptoBulkAll spare + 1
  | .agg parts => uptoBulkAll parts + 1
  | .iface _ d => uptoBulk d + 1
  | .map entries => uptoBulkEntries entries + 1
  | .held _ => 1
def uptoBulkAll {H : Type} : List (DataW H) → Nat
  | [] => 0
  | d :: r => uptoBulk d + uptoBulkAll r
def uptoBulkEntries {H : Type} : List (Lit × DataW H) → Nat
  | [] => 0
  | x :: r => uptoBulkEntry x + uptoBulkEntries r
def uptoBulkEntry {H : Type} : Lit × DataW H → Nat
  | (.string bytes, d) => bytes.length + uptoBulk d + 1
  | (_, d) => uptoBulk d + 1
 end
def uptoSmall : (H : Type) → List (DataW H) → Bool := fun _ ds => decide (uptoBulkAll ds ≤ 1048576)
def OpenSpec.upto (s : _root_.Go.ChangeSpec) : _root_.Go.OpenSpec := { _root_.Go.OpenSpec.ofChange s with cond := some uptoSmall }

/-- 'laws.FnExactNetOk', WHERE WHAT IT READS IS OF BULK AT MOST 1048576: true; the input reads as it did. -/
def fnExactNetOkUptoRow : OpenClaim := { program := "ytbkpphcmdjllnaa", sum := "c7c71565ad45bdda7c05d33be8d858d2d73190bf47d65b0aa6baf7d29d2376bd", func := "loop.example/g03307/laws.FnExactNetOk", spec := "fnExactNetOk", apart := false, narrowed := true }
def FnExactNetOkUptoSaid : Prop := fnExactNetOkUptoRow.holds Try.pinned (OpenSpec.upto fnExactNetOkSpec)

/-- 'laws.FnExactOutOf', WHERE WHAT IT READS IS OF BULK AT MOST 1048576: true; the input reads as it did. -/
def fnExactOutOfUptoRow : OpenClaim := { program := "ytbkpphcmdjllnaa", sum := "c7c71565ad45bdda7c05d33be8d858d2d73190bf47d65b0aa6baf7d29d2376bd", func := "loop.example/g03307/laws.FnExactOutOf", spec := "fnExactOutOf", apart := false, narrowed := true }
def FnExactOutOfUptoSaid : Prop := fnExactOutOfUptoRow.holds Try.pinned (OpenSpec.upto fnExactOutOfSpec)

/-- 'laws.FnPipes', WHERE WHAT IT READS IS OF BULK AT MOST 1048576: true; the input reads as it did. -/
def fnPipesUptoRow : OpenClaim := { program := "ytbkpphcmdjllnaa", sum := "c7c71565ad45bdda7c05d33be8d858d2d73190bf47d65b0aa6baf7d29d2376bd", func := "loop.example/g03307/laws.FnPipes", spec := "fnPipes", apart := false, narrowed := true }
def FnPipesUptoSaid : Prop := fnPipesUptoRow.holds Try.pinned (OpenSpec.upto fnPipesSpec)

end Rows
end Go.Proofs.Ytbkpphcmdjllnaa
