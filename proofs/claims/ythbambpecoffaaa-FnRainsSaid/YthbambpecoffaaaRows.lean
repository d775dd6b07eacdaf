/-
  No cell of these rows narrows 'for every input' (looked for: loops, veiled, ifaces, maps, wideKeys, modest, calm, conditions, laid).
  DERIVED. THE GIVEN ROWS OF THIS SEAT. 15 by the template 'for every input the law returns true; each argument reads behind the call as it read before'; 0 by the template 'total and deterministic' (their statements: YthbambpecoffaaaTotals.lean).
  GIVEN WITH THE SEED: the statements are not yours to turn. If you find one false, say at which input.
  Laid BY PROGRAM, IN A SANDBOX (cutbox-rows.mjs): the forced cells as the released guide's own fill.sh prints them over the translation a72c674f656fc761… (all of the seat's roots in one cut). By AI agents, Wed Nov 11 2026. No macro, syntax, notation, axiom, sorry.
-/
import Derived.Test.YthbambpecoffaaaChecked
import GoSem.Claim
import GoSem.ClaimJoined
import GoSem.ClaimMapViews
import Derived.JoinedTies
import Derived.KernelRfl
namespace Go.Proofs.Ythbambpecoffaaa
/- THE CELL 'sum', in the pinned program and in every row, IS THE sha256 OF THE DUMP (.gsa) THAT YthbambpecoffaaaProg.lean LOADS. Nothing in Lean hashes anything: it is a label: what it is worth is what the hold of that sum in a sandbox is worth. -/
noncomputable def Try.pinned : Pinned := { name := "ythbambpecoffaaa", sum := "a72c674f656fc761a09eca120d4198b8a1bf98355ce1f26c1c13034de82292f6", checked := Try.checked }
namespace Rows
def none {H : Type} : Left H := { results := [], args := [] }

/-- 'laws.FnExactRoofOk': WHATEVER THE INPUT: true; the input reads as it did. -/
def fnExactRoofOkSpec : ChangeSpec := { name := "fnExactRoofOk", fn := fun _ => fun
  | [d] => { results := [.lit (.bool true)], args := [d] }
  | _ => none }
def fnExactRoofOkRow : OpenClaim := { program := "ythbambpecoffaaa", sum := "a72c674f656fc761a09eca120d4198b8a1bf98355ce1f26c1c13034de82292f6", func := "loop.example/g03307/laws.FnExactRoofOk", spec := "fnExactRoofOk", apart := false }
def FnExactRoofOkSaid : Prop := fnExactRoofOkRow.holds Try.pinned (OpenSpec.ofChange fnExactRoofOkSpec)

/-- ITS FALSE NEIGHBOUR: 'it returns false'. Refute it at one input. -/
def fnExactRoofOkWrong : ChangeSpec := { name := "fnExactRoofOk", fn := fun _ => fun
  | [d] => { results := [.lit (.bool false)], args := [d] }
  | _ => none }
def FnExactRoofOkWrongFalsely : Prop := fnExactRoofOkRow.holds Try.pinned (OpenSpec.ofChange fnExactRoofOkWrong)

/-- 'laws.FnExactCatch': WHATEVER THE INPUT: true; the input reads as it did. -/
def fnExactCatchSpec : ChangeSpec := { name := "fnExactCatch", fn := fun _ => fun
  | [d1, d2] => { results := [.lit (.bool true)], args := [d1, d2] }
  | _ => none }
def fnExactCatchRow : OpenClaim := { program := "ythbambpecoffaaa", sum := "a72c674f656fc761a09eca120d4198b8a1bf98355ce1f26c1c13034de82292f6", func := "loop.example/g03307/laws.FnExactCatch", spec := "fnExactCatch", apart := false }
def FnExactCatchSaid : Prop := fnExactCatchRow.holds Try.pinned (OpenSpec.ofChange fnExactCatchSpec)

/-- ITS FALSE NEIGHBOUR: 'it returns false'. Refute it at one input. -/
def fnExactCatchWrong : ChangeSpec := { name := "fnExactCatch", fn := fun _ => fun
  | [d1, d2] => { results := [.lit (.bool false)], args := [d1, d2] }
  | _ => none }
def FnExactCatchWrongFalsely : Prop := fnExactCatchRow.holds Try.pinned (OpenSpec.ofChange fnExactCatchWrong)

/-- 'laws.FnExactAreaFor': WHATEVER THE INPUT: true; the input reads as it did. -/
def fnExactAreaForSpec : ChangeSpec := { name := "fnExactAreaFor", fn := fun _ => fun
  | [d1, d2, d3] => { results := [.lit (.bool true)], args := [d1, d2, d3] }
  | _ => none }
def fnExactAreaForRow : OpenClaim := { program := "ythbambpecoffaaa", sum := "a72c674f656fc761a09eca120d4198b8a1bf98355ce1f26c1c13034de82292f6", func := "loop.example/g03307/laws.FnExactAreaFor", spec := "fnExactAreaFor", apart := false }
def FnExactAreaForSaid : Prop := fnExactAreaForRow.holds Try.pinned (OpenSpec.ofChange fnExactAreaForSpec)

/-- ITS FALSE NEIGHBOUR: 'it returns false'. Refute it at one input. -/
def fnExactAreaForWrong : ChangeSpec := { name := "fnExactAreaFor", fn := fun _ => fun
  | [d1, d2, d3] => { results := [.lit (.bool false)], args := [d1, d2, d3] }
  | _ => none }
def FnExactAreaForWrongFalsely : Prop := fnExactAreaForRow.holds Try.pinned (OpenSpec.ofChange fnExactAreaForWrong)

/-- 'laws.FnExactRainOk': WHATEVER THE INPUT: true; the input reads as it did. -/
def fnExactRainOkSpec : ChangeSpec := { name := "fnExactRainOk", fn := fun _ => fun
  | [d] => { results := [.lit (.bool true)], args := [d] }
  | _ => none }
def fnExactRainOkRow : OpenClaim := { program := "ythbambpecoffaaa", sum := "a72c674f656fc761a09eca120d4198b8a1bf98355ce1f26c1c13034de82292f6", func := "loop.example/g03307/laws.FnExactRainOk", spec := "fnExactRainOk", apart := false }
def FnExactRainOkSaid : Prop := fnExactRainOkRow.holds Try.pinned (OpenSpec.ofChange fnExactRainOkSpec)

/-- ITS FALSE NEIGHBOUR: 'it returns false'. Refute it at one input. -/
def fnExactRainOkWrong : ChangeSpec := { name := "fnExactRainOk", fn := fun _ => fun
  | [d] => { results := [.lit (.bool false)], args := [d] }
  | _ => none }
def FnExactRainOkWrongFalsely : Prop := fnExactRainOkRow.holds Try.pinned (OpenSpec.ofChange fnExactRainOkWrong)

/-- 'laws.FnExactBetterRoof': WHATEVER THE INPUT: true; the input reads as it did. -/
def fnExactBetterRoofSpec : ChangeSpec := { name := "fnExactBetterRoof", fn := fun _ => fun
  | [d1, d2] => { results := [.lit (.bool true)], args := [d1, d2] }
  | _ => none }
def fnExactBetterRoofRow : OpenClaim := { program := "ythbambpecoffaaa", sum := "a72c674f656fc761a09eca120d4198b8a1bf98355ce1f26c1c13034de82292f6", func := "loop.example/g03307/laws.FnExactBetterRoof", spec := "fnExactBetterRoof", apart := false }
def FnExactBetterRoofSaid : Prop := fnExactBetterRoofRow.holds Try.pinned (OpenSpec.ofChange fnExactBetterRoofSpec)

/-- ITS FALSE NEIGHBOUR: 'it returns false'. Refute it at one input. -/
def fnExactBetterRoofWrong : ChangeSpec := { name := "fnExactBetterRoof", fn := fun _ => fun
  | [d1, d2] => { results := [.lit (.bool false)], args := [d1, d2] }
  | _ => none }
def FnExactBetterRoofWrongFalsely : Prop := fnExactBetterRoofRow.holds Try.pinned (OpenSpec.ofChange fnExactBetterRoofWrong)

/-- 'laws.FnExactTotalRain': WHATEVER THE INPUT: true; the input reads as it did. -/
def fnExactTotalRainSpec : ChangeSpec := { name := "fnExactTotalRain", fn := fun _ => fun
  | [d] => { results := [.lit (.bool true)], args := [d] }
  | _ => none }
def fnExactTotalRainRow : OpenClaim := { program := "ythbambpecoffaaa", sum := "a72c674f656fc761a09eca120d4198b8a1bf98355ce1f26c1c13034de82292f6", func := "loop.example/g03307/laws.FnExactTotalRain", spec := "fnExactTotalRain", apart := false }
def FnExactTotalRainSaid : Prop := fnExactTotalRainRow.holds Try.pinned (OpenSpec.ofChange fnExactTotalRainSpec)

/-- ITS FALSE NEIGHBOUR: 'it returns false'. Refute it at one input. -/
def fnExactTotalRainWrong : ChangeSpec := { name := "fnExactTotalRain", fn := fun _ => fun
  | [d] => { results := [.lit (.bool false)], args := [d] }
  | _ => none }
def FnExactTotalRainWrongFalsely : Prop := fnExactTotalRainRow.holds Try.pinned (OpenSpec.ofChange fnExactTotalRainWrong)

/-- 'laws.FnExactWettestDay': WHATEVER THE INPUT: true; the input reads as it did. -/
def fnExactWettestDaySpec : ChangeSpec := { name := "fnExactWettestDay", fn := fun _ => fun
  | [d] => { results := [.lit (.bool true)], args := [d] }
  | _ => none }
def fnExactWettestDayRow : OpenClaim := { program := "ythbambpecoffaaa", sum := "a72c674f656fc761a09eca120d4198b8a1bf98355ce1f26c1c13034de82292f6", func := "loop.example/g03307/laws.FnExactWettestDay", spec := "fnExactWettestDay", apart := false }
def FnExactWettestDaySaid : Prop := fnExactWettestDayRow.holds Try.pinned (OpenSpec.ofChange fnExactWettestDaySpec)

/-- ITS FALSE NEIGHBOUR: 'it returns false'. Refute it at one input. -/
def fnExactWettestDayWrong : ChangeSpec := { name := "fnExactWettestDay", fn := fun _ => fun
  | [d] => { results := [.lit (.bool false)], args := [d] }
  | _ => none }
def FnExactWettestDayWrongFalsely : Prop := fnExactWettestDayRow.holds Try.pinned (OpenSpec.ofChange fnExactWettestDayWrong)

/-- 'laws.FnExactLongestDry': WHATEVER THE INPUT: true; the input reads as it did. -/
def fnExactLongestDrySpec : ChangeSpec := { name := "fnExactLongestDry", fn := fun _ => fun
  | [d] => { results := [.lit (.bool true)], args := [d] }
  | _ => none }
def fnExactLongestDryRow : OpenClaim := { program := "ythbambpecoffaaa", sum := "a72c674f656fc761a09eca120d4198b8a1bf98355ce1f26c1c13034de82292f6", func := "loop.example/g03307/laws.FnExactLongestDry", spec := "fnExactLongestDry", apart := false }
def FnExactLongestDrySaid : Prop := fnExactLongestDryRow.holds Try.pinned (OpenSpec.ofChange fnExactLongestDrySpec)

/-- ITS FALSE NEIGHBOUR: 'it returns false'. Refute it at one input. -/
def fnExactLongestDryWrong : ChangeSpec := { name := "fnExactLongestDry", fn := fun _ => fun
  | [d] => { results := [.lit (.bool false)], args := [d] }
  | _ => none }
def FnExactLongestDryWrongFalsely : Prop := fnExactLongestDryRow.holds Try.pinned (OpenSpec.ofChange fnExactLongestDryWrong)

/-- 'laws.FnExactSumsOf': WHATEVER THE INPUT: true; the input reads as it did. -/
def fnExactSumsOfSpec : ChangeSpec := { name := "fnExactSumsOf", fn := fun _ => fun
  | [d] => { results := [.lit (.bool true)], args := [d] }
  | _ => none }
def fnExactSumsOfRow : OpenClaim := { program := "ythbambpecoffaaa", sum := "a72c674f656fc761a09eca120d4198b8a1bf98355ce1f26c1c13034de82292f6", func := "loop.example/g03307/laws.FnExactSumsOf", spec := "fnExactSumsOf", apart := false }
def FnExactSumsOfSaid : Prop := fnExactSumsOfRow.holds Try.pinned (OpenSpec.ofChange fnExactSumsOfSpec)

/-- ITS FALSE NEIGHBOUR: 'it returns false'. Refute it at one input. -/
def fnExactSumsOfWrong : ChangeSpec := { name := "fnExactSumsOf", fn := fun _ => fun
  | [d] => { results := [.lit (.bool false)], args := [d] }
  | _ => none }
def FnExactSumsOfWrongFalsely : Prop := fnExactSumsOfRow.holds Try.pinned (OpenSpec.ofChange fnExactSumsOfWrong)

/-- 'laws.FnExactHasWetPart': WHATEVER THE INPUT: true; the input reads as it did. -/
def fnExactHasWetPartSpec : ChangeSpec := { name := "fnExactHasWetPart", fn := fun _ => fun
  | [d1, d2, d3] => { results := [.lit (.bool true)], args := [d1, d2, d3] }
  | _ => none }
def fnExactHasWetPartRow : OpenClaim := { program := "ythbambpecoffaaa", sum := "a72c674f656fc761a09eca120d4198b8a1bf98355ce1f26c1c13034de82292f6", func := "loop.example/g03307/laws.FnExactHasWetPart", spec := "fnExactHasWetPart", apart := false }
def FnExactHasWetPartSaid : Prop := fnExactHasWetPartRow.holds Try.pinned (OpenSpec.ofChange fnExactHasWetPartSpec)

/-- ITS FALSE NEIGHBOUR: 'it returns false'. Refute it at one input. -/
def fnExactHasWetPartWrong : ChangeSpec := { name := "fnExactHasWetPart", fn := fun _ => fun
  | [d1, d2, d3] => { results := [.lit (.bool false)], args := [d1, d2, d3] }
  | _ => none }
def FnExactHasWetPartWrongFalsely : Prop := fnExactHasWetPartRow.holds Try.pinned (OpenSpec.ofChange fnExactHasWetPartWrong)

/-- 'laws.FnExactCatchAll': WHATEVER THE INPUT: true; the input reads as it did. -/
def fnExactCatchAllSpec : ChangeSpec := { name := "fnExactCatchAll", fn := fun _ => fun
  | [d1, d2] => { results := [.lit (.bool true)], args := [d1, d2] }
  | _ => none }
def fnExactCatchAllRow : OpenClaim := { program := "ythbambpecoffaaa", sum := "a72c674f656fc761a09eca120d4198b8a1bf98355ce1f26c1c13034de82292f6", func := "loop.example/g03307/laws.FnExactCatchAll", spec := "fnExactCatchAll", apart := false }
def FnExactCatchAllSaid : Prop := fnExactCatchAllRow.holds Try.pinned (OpenSpec.ofChange fnExactCatchAllSpec)

/-- ITS FALSE NEIGHBOUR: 'it returns false'. Refute it at one input. -/
def fnExactCatchAllWrong : ChangeSpec := { name := "fnExactCatchAll", fn := fun _ => fun
  | [d1, d2] => { results := [.lit (.bool false)], args := [d1, d2] }
  | _ => none }
def FnExactCatchAllWrongFalsely : Prop := fnExactCatchAllRow.holds Try.pinned (OpenSpec.ofChange fnExactCatchAllWrong)

/-- 'laws.FnExactWettestWeek': WHATEVER THE INPUT: true; the input reads as it did. -/
def fnExactWettestWeekSpec : ChangeSpec := { name := "fnExactWettestWeek", fn := fun _ => fun
  | [d] => { results := [.lit (.bool true)], args := [d] }
  | _ => none }
def fnExactWettestWeekRow : OpenClaim := { program := "ythbambpecoffaaa", sum := "a72c674f656fc761a09eca120d4198b8a1bf98355ce1f26c1c13034de82292f6", func := "loop.example/g03307/laws.FnExactWettestWeek", spec := "fnExactWettestWeek", apart := false }
def FnExactWettestWeekSaid : Prop := fnExactWettestWeekRow.holds Try.pinned (OpenSpec.ofChange fnExactWettestWeekSpec)

/-- ITS FALSE NEIGHBOUR: 'it returns false'. Refute it at one input. -/
def fnExactWettestWeekWrong : ChangeSpec := { name := "fnExactWettestWeek", fn := fun _ => fun
  | [d] => { results := [.lit (.bool false)], args := [d] }
  | _ => none }
def FnExactWettestWeekWrongFalsely : Prop := fnExactWettestWeekRow.holds Try.pinned (OpenSpec.ofChange fnExactWettestWeekWrong)

/-- 'laws.FnExactCatchDays': WHATEVER THE INPUT: true; the input reads as it did. -/
def fnExactCatchDaysSpec : ChangeSpec := { name := "fnExactCatchDays", fn := fun _ => fun
  | [d1, d2] => { results := [.lit (.bool true)], args := [d1, d2] }
  | _ => none }
def fnExactCatchDaysRow : OpenClaim := { program := "ythbambpecoffaaa", sum := "a72c674f656fc761a09eca120d4198b8a1bf98355ce1f26c1c13034de82292f6", func := "loop.example/g03307/laws.FnExactCatchDays", spec := "fnExactCatchDays", apart := false }
def FnExactCatchDaysSaid : Prop := fnExactCatchDaysRow.holds Try.pinned (OpenSpec.ofChange fnExactCatchDaysSpec)

/-- ITS FALSE NEIGHBOUR: 'it returns false'. Refute it at one input. -/
def fnExactCatchDaysWrong : ChangeSpec := { name := "fnExactCatchDays", fn := fun _ => fun
  | [d1, d2] => { results := [.lit (.bool false)], args := [d1, d2] }
  | _ => none }
def FnExactCatchDaysWrongFalsely : Prop := fnExactCatchDaysRow.holds Try.pinned (OpenSpec.ofChange fnExactCatchDaysWrong)

/-- 'laws.FnRains': WHATEVER THE INPUT: true; the input reads as it did. -/
def fnRainsSpec : ChangeSpec := { name := "fnRains", fn := fun _ => fun
  | [d] => { results := [.lit (.bool true)], args := [d] }
  | _ => none }
def fnRainsRow : OpenClaim := { program := "ythbambpecoffaaa", sum := "a72c674f656fc761a09eca120d4198b8a1bf98355ce1f26c1c13034de82292f6", func := "loop.example/g03307/laws.FnRains", spec := "fnRains", apart := false }
def FnRainsSaid : Prop := fnRainsRow.holds Try.pinned (OpenSpec.ofChange fnRainsSpec)

/-- ITS FALSE NEIGHBOUR: 'it returns false'. Refute it at one input. -/
def fnRainsWrong : ChangeSpec := { name := "fnRains", fn := fun _ => fun
  | [d] => { results := [.lit (.bool false)], args := [d] }
  | _ => none }
def FnRainsWrongFalsely : Prop := fnRainsRow.holds Try.pinned (OpenSpec.ofChange fnRainsWrong)

/-- 'laws.FnRoofs': WHATEVER THE INPUT: true; the input reads as it did. -/
def fnRoofsSpec : ChangeSpec := { name := "fnRoofs", fn := fun _ => fun
  | [d] => { results := [.lit (.bool true)], args := [d] }
  | _ => none }
def fnRoofsRow : OpenClaim := { program := "ythbambpecoffaaa", sum := "a72c674f656fc761a09eca120d4198b8a1bf98355ce1f26c1c13034de82292f6", func := "loop.example/g03307/laws.FnRoofs", spec := "fnRoofs", apart := false }
def FnRoofsSaid : Prop := fnRoofsRow.holds Try.pinned (OpenSpec.ofChange fnRoofsSpec)

/-- ITS FALSE NEIGHBOUR: 'it returns false'. Refute it at one input. -/
def fnRoofsWrong : ChangeSpec := { name := "fnRoofs", fn := fun _ => fun
  | [d] => { results := [.lit (.bool false)], args := [d] }
  | _ => none }
def FnRoofsWrongFalsely : Prop := fnRoofsRow.holds Try.pinned (OpenSpec.ofChange fnRoofsWrong)

/- THE SECOND FORM. 'bulk': how many values and letters a reading holds, each counted each time it is reached (what is shared counts as often as it is met; a slice's spare places count too). A statement '..UptoSaid' is the law's where the arguments, and the package variables that the reading takes, are together of bulk at most 1048576: NARROWER than '..Said'. Prove '..Said' where nothing that the law and all that it calls make is longer than what came in: it says more and counts as full. Else prove '..UptoSaid'. A law counts once. -/
mutual
def uptoBulk {H : Type} : DataW H → Nat
  | .lit (.string bytes) => bytes.length + 1
  | .lit _ => 1
  | .nil => 1
  | .ptr d => uptoBulk d + 1
  | .slice elems spare => uptoBulkAll elems + uptoBulkAll spare + 1
  | .agg parts => uptoBulkAll parts + 1
  | .iface _ d => uptoBulk d + 1
  | .map entries => uptoBulkEntries entries + 1
  | .held _ => 1
def uptoBulkAll {H : Type} : List (DataW H) → Nat
  | [] => 0
  | d :: r => uptoBulk d + uptoBulkAll r
def uptoBulkEntries {H : Type} : List (Lit × DataW H) → Nat
  | [] => 0
  | x :: r => uptoBulkEntry x + uptoBulkEntries r
def uptoBulkEntry {H : Type} : Lit × DataW H → Nat
  | (.string bytes, d) => bytes.length + uptoBulk d + 1
  | (_, d) => uptoBulk d + 1
 end
def uptoSmall : (H : Type) → List (DataW H) → Bool := fun _ ds => decide (uptoBulkAll ds ≤ 1048576)
def OpenSpec.upto (s : _root_.Go.ChangeSpec) : _root_.Go.OpenSpec := { _root_.Go.OpenSpec.ofChange s with cond := some uptoSmall }

/-- 'laws.FnExactRoofOk', WHERE WHAT IT READS IS OF BULK AT MOST 1048576: true; the input reads as it did. -/
def fnExactRoofOkUptoRow : OpenClaim := { program := "ythbambpecoffaaa", sum := "a72c674f656fc761a09eca120d4198b8a1bf98355ce1f26c1c13034de82292f6", func := "loop.example/g03307/laws.FnExactRoofOk", spec := "fnExactRoofOk", apart := false, narrowed := true }
def FnExactRoofOkUptoSaid : Prop := fnExactRoofOkUptoRow.holds Try.pinned (OpenSpec.upto fnExactRoofOkSpec)

/-- 'laws.FnExactCatch', WHERE WHAT IT READS IS OF BULK AT MOST 1048576: true; the input reads as it did. -/
def fnExactCatchUptoRow : OpenClaim := { program := "ythbambpecoffaaa", sum := "a72c674f656fc761a09eca120d4198b8a1bf98355ce1f26c1c13034de82292f6", func := "loop.example/g03307/laws.FnExactCatch", spec := "fnExactCatch", apart := false, narrowed := true }
def FnExactCatchUptoSaid : Prop := fnExactCatchUptoRow.holds Try.pinned (OpenSpec.upto fnExactCatchSpec)

/-- 'laws.FnExactAreaFor', WHERE WHAT IT READS IS OF BULK AT MOST 1048576: true; the input reads as it did. -/
def fnExactAreaForUptoRow : OpenClaim := { program := "ythbambpecoffaaa", sum := "a72c674f656fc761a09eca120d4198b8a1bf98355ce1f26c1c13034de82292f6", func := "loop.example/g03307/laws.FnExactAreaFor", spec := "fnExactAreaFor", apart := false, narrowed := true }
def FnExactAreaForUptoSaid : Prop := fnExactAreaForUptoRow.holds Try.pinned (OpenSpec.upto fnExactAreaForSpec)

/-- 'laws.FnExactRainOk', WHERE WHAT IT READS IS OF BULK AT MOST 1048576: true; the input reads as it did. -/
def fnExactRainOkUptoRow : OpenClaim := { program := "ythbambpecoffaaa", sum := "a72c674f656fc761a09eca120d4198b8a1bf98355ce1f26c1c13034de82292f6", func := "loop.example/g03307/laws.FnExactRainOk", spec := "fnExactRainOk", apart := false, narrowed := true }
def FnExactRainOkUptoSaid : Prop := fnExactRainOkUptoRow.holds Try.pinned (OpenSpec.upto fnExactRainOkSpec)

/-- 'laws.FnExactBetterRoof', WHERE WHAT IT READS IS OF BULK AT MOST 1048576: true; the input reads as it did. -/
def fnExactBetterRoofUptoRow : OpenClaim := { program := "ythbambpecoffaaa", sum := "a72c674f656fc761a09eca120d4198b8a1bf98355ce1f26c1c13034de82292f6", func := "loop.example/g03307/laws.FnExactBetterRoof", spec := "fnExactBetterRoof", apart := false, narrowed := true }
def FnExactBetterRoofUptoSaid : Prop := fnExactBetterRoofUptoRow.holds Try.pinned (OpenSpec.upto fnExactBetterRoofSpec)

/-- 'laws.FnExactTotalRain', WHERE WHAT IT READS IS OF BULK AT MOST 1048576: true; the input reads as it did. -/
def fnExactTotalRainUptoRow : OpenClaim := { program := "ythbambpecoffaaa", sum := "a72c674f656fc761a09eca120d4198b8a1bf98355ce1f26c1c13034de82292f6", func := "loop.example/g03307/laws.FnExactTotalRain", spec := "fnExactTotalRain", apart := false, narrowed := true }
def FnExactTotalRainUptoSaid : Prop := fnExactTotalRainUptoRow.holds Try.pinned (OpenSpec.upto fnExactTotalRainSpec)

/-- 'laws.FnExactWettestDay', WHERE WHAT IT READS IS OF BULK AT MOST 1048576: true; the input reads as it did. -/
def fnExactWettestDayUptoRow : OpenClaim := { program := "ythbambpecoffaaa", sum := "a72c674f656fc761a09eca120d4198b8a1bf98355ce1f26c1c13034de82292f6", func := "loop.example/g03307/laws.FnExactWettestDay", spec := "fnExactWettestDay", apart := false, narrowed := true }
def FnExactWettestDayUptoSaid : Prop := fnExactWettestDayUptoRow.holds Try.pinned (OpenSpec.upto fnExactWettestDaySpec)

/-- 'laws.FnExactLongestDry', WHERE WHAT IT READS IS OF BULK AT MOST 1048576: true; the input reads as it did. -/
def fnExactLongestDryUptoRow : OpenClaim := { program := "ythbambpecoffaaa", sum := "a72c674f656fc761a09eca120d4198b8a1bf98355ce1f26c1c13034de82292f6", func := "loop.example/g03307/laws.FnExactLongestDry", spec := "fnExactLongestDry", apart := false, narrowed := true }
def FnExactLongestDryUptoSaid : Prop := fnExactLongestDryUptoRow.holds Try.pinned (OpenSpec.upto fnExactLongestDrySpec)

/-- 'laws.FnExactSumsOf', WHERE WHAT IT READS IS OF BULK AT MOST 1048576: true; the input reads as it did. -/
def fnExactSumsOfUptoRow : OpenClaim := { program := "ythbambpecoffaaa", sum := "a72c674f656fc761a09eca120d4198b8a1bf98355ce1f26c1c13034de82292f6", func := "loop.example/g03307/laws.FnExactSumsOf", spec := "fnExactSumsOf", apart := false, narrowed := true }
def FnExactSumsOfUptoSaid : Prop := fnExactSumsOfUptoRow.holds Try.pinned (OpenSpec.upto fnExactSumsOfSpec)

/-- 'laws.FnExactHasWetPart', WHERE WHAT IT READS IS OF BULK AT MOST 1048576: true; the input reads as it did. -/
def fnExactHasWetPartUptoRow : OpenClaim := { program := "ythbambpecoffaaa", sum := "a72c674f656fc761a09eca120d4198b8a1bf98355ce1f26c1c13034de82292f6", func := "loop.example/g03307/laws.FnExactHasWetPart", spec := "fnExactHasWetPart", apart := false, narrowed := true }
def FnExactHasWetPartUptoSaid : Prop := fnExactHasWetPartUptoRow.holds Try.pinned (OpenSpec.upto fnExactHasWetPartSpec)

/-- 'laws.FnExactCatchAll', WHERE WHAT IT READS IS OF BULK AT MOST 1048576: true; the input reads as it did. -/
def fnExactCatchAllUptoRow : OpenClaim := { program := "ythbambpecoffaaa", sum := "a72c674f656fc761a09eca120d4198b8a1bf98355ce1f26c1c13034de82292f6", func := "loop.example/g03307/laws.FnExactCatchAll", spec := "fnExactCatchAll", apart := false, narrowed := true }
def FnExactCatchAllUptoSaid : Prop := fnExactCatchAllUptoRow.holds Try.pinned (OpenSpec.upto fnExactCatchAllSpec)

/-- 'laws.FnExactWettestWeek', WHERE WHAT IT READS IS OF BULK AT MOST 1048576: true; the input reads as it did. -/
def fnExactWettestWeekUptoRow : OpenClaim := { program := "ythbambpecoffaaa", sum := "a72c674f656fc761a09eca120d4198b8a1bf98355ce1f26c1c13034de82292f6", func := "loop.example/g03307/laws.FnExactWettestWeek", spec := "fnExactWettestWeek", apart := false, narrowed := true }
def FnExactWettestWeekUptoSaid : Prop := fnExactWettestWeekUptoRow.holds Try.pinned (OpenSpec.upto fnExactWettestWeekSpec)

/-- 'laws.FnExactCatchDays', WHERE WHAT IT READS IS OF BULK AT MOST 1048576: true; the input reads as it did. -/
def fnExactCatchDaysUptoRow : OpenClaim := { program := "ythbambpecoffaaa", sum := "a72c674f656fc761a09eca120d4198b8a1bf98355ce1f26c1c13034de82292f6", func := "loop.example/g03307/laws.FnExactCatchDays", spec := "fnExactCatchDays", apart := false, narrowed := true }
def FnExactCatchDaysUptoSaid : Prop := fnExactCatchDaysUptoRow.holds Try.pinned (OpenSpec.upto fnExactCatchDaysSpec)

/-- 'laws.FnRains', WHERE WHAT IT READS IS OF BULK AT MOST 1048576: true; the input reads as it did. -/
def fnRainsUptoRow : OpenClaim := { program := "ythbambpecoffaaa", sum := "a72c674f656fc761a09eca120d4198b8a1bf98355ce1f26c1c13034de82292f6", func := "loop.example/g03307/laws.FnRains", spec := "fnRains", apart := false, narrowed := true }
def FnRainsUptoSaid : Prop := fnRainsUptoRow.holds Try.pinned (OpenSpec.upto fnRainsSpec)

/-- 'laws.FnRoofs', WHERE WHAT IT READS IS OF BULK AT MOST 1048576: true; the input reads as it did. -/
def fnRoofsUptoRow : OpenClaim := { program := "ythbambpecoffaaa", sum := "a72c674f656fc761a09eca120d4198b8a1bf98355ce1f26c1c13034de82292f6", func := "loop.example/g03307/laws.FnRoofs", spec := "fnRoofs", apart := false, narrowed := true }
def FnRoofsUptoSaid : Prop := fnRoofsUptoRow.holds Try.pinned (OpenSpec.upto fnRoofsSpec)

end Rows
end Go.Proofs.Ythbambpecoffaaa
