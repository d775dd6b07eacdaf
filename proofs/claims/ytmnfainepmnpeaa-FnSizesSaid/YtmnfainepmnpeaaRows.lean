/-
  No cell of these rows narrows 'for every input' (looked for: loops, veiled, ifaces, maps, wideKeys, modest, calm, conditions, laid).
  DERIVED. THE GIVEN ROWS OF THIS SEAT. 14 by the template 'for every input the law returns true; each argument reads behind the call as it read before'; 0 by the template 'total and deterministic' (their statements: YtmnfainepmnpeaaTotals.lean).
  GIVEN WITH THE SEED: the statements are not yours to turn. If you find one false, say at which input.
  Laid BY PROGRAM, IN A SANDBOX (cutbox-rows.mjs): the forced cells as the released guide's own fill.sh prints them over the translation d7d7952d1b1b17bb… (all of the seat's roots in one cut). By AI agents, Wed Nov 11 2026. No macro, syntax, notation, axiom, sorry.
-/
import Derived.Test.YtmnfainepmnpeaaChecked
import GoSem.Claim
import GoSem.ClaimJoined
import GoSem.ClaimMapViews
import Derived.JoinedTies
import Derived.KernelRfl
namespace Go.Proofs.Ytmnfainepmnpeaa
/- THE CELL 'sum', in the pinned program and in every row, IS THE sha256 OF THE DUMP (.gsa) THAT YtmnfainepmnpeaaProg.lean LOADS. Nothing in Lean hashes anything: it is a label: what it is worth is what the hold of that sum in a sandbox is worth. -/
noncomputable def Try.pinned : Pinned := { name := "ytmnfainepmnpeaa", sum := "d7d7952d1b1b17bb2aa472e727bb8c113041f8e929de016107291c2e80b73ae6", checked := Try.checked }
namespace Rows
def none {H : Type} : Left H := { results := [], args := [] }

/-- 'laws.FnExactYearOk': WHATEVER THE INPUT: true; the input reads as it did. -/
def fnExactYearOkSpec : ChangeSpec := { name := "fnExactYearOk", fn := fun _ => fun
  | [d] => { results := [.lit (.bool true)], args := [d] }
  | _ => none }
def fnExactYearOkRow : OpenClaim := { program := "ytmnfainepmnpeaa", sum := "d7d7952d1b1b17bb2aa472e727bb8c113041f8e929de016107291c2e80b73ae6", func := "loop.example/g03307/laws.FnExactYearOk", spec := "fnExactYearOk", apart := false }
def FnExactYearOkSaid : Prop := fnExactYearOkRow.holds Try.pinned (OpenSpec.ofChange fnExactYearOkSpec)

/-- ITS FALSE NEIGHBOUR: 'it returns false'. Refute it at one input. -/
def fnExactYearOkWrong : ChangeSpec := { name := "fnExactYearOk", fn := fun _ => fun
  | [d] => { results := [.lit (.bool false)], args := [d] }
  | _ => none }
def FnExactYearOkWrongFalsely : Prop := fnExactYearOkRow.holds Try.pinned (OpenSpec.ofChange fnExactYearOkWrong)

/-- 'laws.FnExactAverageCatch': WHATEVER THE INPUT: true; the input reads as it did. -/
def fnExactAverageCatchSpec : ChangeSpec := { name := "fnExactAverageCatch", fn := fun _ => fun
  | [d] => { results := [.lit (.bool true)], args := [d] }
  | _ => none }
def fnExactAverageCatchRow : OpenClaim := { program := "ytmnfainepmnpeaa", sum := "d7d7952d1b1b17bb2aa472e727bb8c113041f8e929de016107291c2e80b73ae6", func := "loop.example/g03307/laws.FnExactAverageCatch", spec := "fnExactAverageCatch", apart := false }
def FnExactAverageCatchSaid : Prop := fnExactAverageCatchRow.holds Try.pinned (OpenSpec.ofChange fnExactAverageCatchSpec)

/-- ITS FALSE NEIGHBOUR: 'it returns false'. Refute it at one input. -/
def fnExactAverageCatchWrong : ChangeSpec := { name := "fnExactAverageCatch", fn := fun _ => fun
  | [d] => { results := [.lit (.bool false)], args := [d] }
  | _ => none }
def FnExactAverageCatchWrongFalsely : Prop := fnExactAverageCatchRow.holds Try.pinned (OpenSpec.ofChange fnExactAverageCatchWrong)

/-- 'laws.FnExactWithRoom': WHATEVER THE INPUT: true; the input reads as it did. -/
def fnExactWithRoomSpec : ChangeSpec := { name := "fnExactWithRoom", fn := fun _ => fun
  | [d1, d2] => { results := [.lit (.bool true)], args := [d1, d2] }
  | _ => none }
def fnExactWithRoomRow : OpenClaim := { program := "ytmnfainepmnpeaa", sum := "d7d7952d1b1b17bb2aa472e727bb8c113041f8e929de016107291c2e80b73ae6", func := "loop.example/g03307/laws.FnExactWithRoom", spec := "fnExactWithRoom", apart := false }
def FnExactWithRoomSaid : Prop := fnExactWithRoomRow.holds Try.pinned (OpenSpec.ofChange fnExactWithRoomSpec)

/-- ITS FALSE NEIGHBOUR: 'it returns false'. Refute it at one input. -/
def fnExactWithRoomWrong : ChangeSpec := { name := "fnExactWithRoom", fn := fun _ => fun
  | [d1, d2] => { results := [.lit (.bool false)], args := [d1, d2] }
  | _ => none }
def FnExactWithRoomWrongFalsely : Prop := fnExactWithRoomRow.holds Try.pinned (OpenSpec.ofChange fnExactWithRoomWrong)

/-- 'laws.FnExactLostWater': WHATEVER THE INPUT: true; the input reads as it did. -/
def fnExactLostWaterSpec : ChangeSpec := { name := "fnExactLostWater", fn := fun _ => fun
  | [d] => { results := [.lit (.bool true)], args := [d] }
  | _ => none }
def fnExactLostWaterRow : OpenClaim := { program := "ytmnfainepmnpeaa", sum := "d7d7952d1b1b17bb2aa472e727bb8c113041f8e929de016107291c2e80b73ae6", func := "loop.example/g03307/laws.FnExactLostWater", spec := "fnExactLostWater", unfollowed := true, recurses := true, apart := false }
def FnExactLostWaterSaid : Prop := fnExactLostWaterRow.holds Try.pinned (OpenSpec.ofChange fnExactLostWaterSpec)

/-- ITS FALSE NEIGHBOUR: 'it returns false'. Refute it at one input. -/
def fnExactLostWaterWrong : ChangeSpec := { name := "fnExactLostWater", fn := fun _ => fun
  | [d] => { results := [.lit (.bool false)], args := [d] }
  | _ => none }
def FnExactLostWaterWrongFalsely : Prop := fnExactLostWaterRow.holds Try.pinned (OpenSpec.ofChange fnExactLostWaterWrong)

/-- 'laws.FnExactTakenWater': WHATEVER THE INPUT: true; the input reads as it did. -/
def fnExactTakenWaterSpec : ChangeSpec := { name := "fnExactTakenWater", fn := fun _ => fun
  | [d] => { results := [.lit (.bool true)], args := [d] }
  | _ => none }
def fnExactTakenWaterRow : OpenClaim := { program := "ytmnfainepmnpeaa", sum := "d7d7952d1b1b17bb2aa472e727bb8c113041f8e929de016107291c2e80b73ae6", func := "loop.example/g03307/laws.FnExactTakenWater", spec := "fnExactTakenWater", unfollowed := true, recurses := true, apart := false }
def FnExactTakenWaterSaid : Prop := fnExactTakenWaterRow.holds Try.pinned (OpenSpec.ofChange fnExactTakenWaterSpec)

/-- ITS FALSE NEIGHBOUR: 'it returns false'. Refute it at one input. -/
def fnExactTakenWaterWrong : ChangeSpec := { name := "fnExactTakenWater", fn := fun _ => fun
  | [d] => { results := [.lit (.bool false)], args := [d] }
  | _ => none }
def FnExactTakenWaterWrongFalsely : Prop := fnExactTakenWaterRow.holds Try.pinned (OpenSpec.ofChange fnExactTakenWaterWrong)

/-- 'laws.FnExactIsEnough': WHATEVER THE INPUT: true; the input reads as it did. -/
def fnExactIsEnoughSpec : ChangeSpec := { name := "fnExactIsEnough", fn := fun _ => fun
  | [d] => { results := [.lit (.bool true)], args := [d] }
  | _ => none }
def fnExactIsEnoughRow : OpenClaim := { program := "ytmnfainepmnpeaa", sum := "d7d7952d1b1b17bb2aa472e727bb8c113041f8e929de016107291c2e80b73ae6", func := "loop.example/g03307/laws.FnExactIsEnough", spec := "fnExactIsEnough", unfollowed := true, recurses := true, apart := false }
def FnExactIsEnoughSaid : Prop := fnExactIsEnoughRow.holds Try.pinned (OpenSpec.ofChange fnExactIsEnoughSpec)

/-- ITS FALSE NEIGHBOUR: 'it returns false'. Refute it at one input. -/
def fnExactIsEnoughWrong : ChangeSpec := { name := "fnExactIsEnough", fn := fun _ => fun
  | [d] => { results := [.lit (.bool false)], args := [d] }
  | _ => none }
def FnExactIsEnoughWrongFalsely : Prop := fnExactIsEnoughRow.holds Try.pinned (OpenSpec.ofChange fnExactIsEnoughWrong)

/-- 'laws.FnExactDryDays': WHATEVER THE INPUT: true; the input reads as it did. -/
def fnExactDryDaysSpec : ChangeSpec := { name := "fnExactDryDays", fn := fun _ => fun
  | [d] => { results := [.lit (.bool true)], args := [d] }
  | _ => none }
def fnExactDryDaysRow : OpenClaim := { program := "ytmnfainepmnpeaa", sum := "d7d7952d1b1b17bb2aa472e727bb8c113041f8e929de016107291c2e80b73ae6", func := "loop.example/g03307/laws.FnExactDryDays", spec := "fnExactDryDays", unfollowed := true, recurses := true, apart := false }
def FnExactDryDaysSaid : Prop := fnExactDryDaysRow.holds Try.pinned (OpenSpec.ofChange fnExactDryDaysSpec)

/-- ITS FALSE NEIGHBOUR: 'it returns false'. Refute it at one input. -/
def fnExactDryDaysWrong : ChangeSpec := { name := "fnExactDryDays", fn := fun _ => fun
  | [d] => { results := [.lit (.bool false)], args := [d] }
  | _ => none }
def FnExactDryDaysWrongFalsely : Prop := fnExactDryDaysRow.holds Try.pinned (OpenSpec.ofChange fnExactDryDaysWrong)

/-- 'laws.FnYears': WHATEVER THE INPUT: true; the input reads as it did. -/
def fnYearsSpec : ChangeSpec := { name := "fnYears", fn := fun _ => fun
  | [d] => { results := [.lit (.bool true)], args := [d] }
  | _ => none }
def fnYearsRow : OpenClaim := { program := "ytmnfainepmnpeaa", sum := "d7d7952d1b1b17bb2aa472e727bb8c113041f8e929de016107291c2e80b73ae6", func := "loop.example/g03307/laws.FnYears", spec := "fnYears", unfollowed := true, recurses := true, apart := false }
def FnYearsSaid : Prop := fnYearsRow.holds Try.pinned (OpenSpec.ofChange fnYearsSpec)

/-- ITS FALSE NEIGHBOUR: 'it returns false'. Refute it at one input. -/
def fnYearsWrong : ChangeSpec := { name := "fnYears", fn := fun _ => fun
  | [d] => { results := [.lit (.bool false)], args := [d] }
  | _ => none }
def FnYearsWrongFalsely : Prop := fnYearsRow.holds Try.pinned (OpenSpec.ofChange fnYearsWrong)

/-- 'laws.FnSizes': WHATEVER THE INPUT: true; the input reads as it did. -/
def fnSizesSpec : ChangeSpec := { name := "fnSizes", fn := fun _ => fun
  | [d] => { results := [.lit (.bool true)], args := [d] }
  | _ => none }
def fnSizesRow : OpenClaim := { program := "ytmnfainepmnpeaa", sum := "d7d7952d1b1b17bb2aa472e727bb8c113041f8e929de016107291c2e80b73ae6", func := "loop.example/g03307/laws.FnSizes", spec := "fnSizes", unfollowed := true, recurses := true, apart := false }
def FnSizesSaid : Prop := fnSizesRow.holds Try.pinned (OpenSpec.ofChange fnSizesSpec)

/-- ITS FALSE NEIGHBOUR: 'it returns false'. Refute it at one input. -/
def fnSizesWrong : ChangeSpec := { name := "fnSizes", fn := fun _ => fun
  | [d] => { results := [.lit (.bool false)], args := [d] }
  | _ => none }
def FnSizesWrongFalsely : Prop := fnSizesRow.holds Try.pinned (OpenSpec.ofChange fnSizesWrong)

/-- 'laws.FnExactLevelsOf': WHATEVER THE INPUT: true; the input reads as it did. -/
def fnExactLevelsOfSpec : ChangeSpec := { name := "fnExactLevelsOf", fn := fun _ => fun
  | [d] => { results := [.lit (.bool true)], args := [d] }
  | _ => none }
def fnExactLevelsOfRow : OpenClaim := { program := "ytmnfainepmnpeaa", sum := "d7d7952d1b1b17bb2aa472e727bb8c113041f8e929de016107291c2e80b73ae6", func := "loop.example/g03307/laws.FnExactLevelsOf", spec := "fnExactLevelsOf", unfollowed := true, recurses := true, apart := false }
def FnExactLevelsOfSaid : Prop := fnExactLevelsOfRow.holds Try.pinned (OpenSpec.ofChange fnExactLevelsOfSpec)

/-- ITS FALSE NEIGHBOUR: 'it returns false'. Refute it at one input. -/
def fnExactLevelsOfWrong : ChangeSpec := { name := "fnExactLevelsOf", fn := fun _ => fun
  | [d] => { results := [.lit (.bool false)], args := [d] }
  | _ => none }
def FnExactLevelsOfWrongFalsely : Prop := fnExactLevelsOfRow.holds Try.pinned (OpenSpec.ofChange fnExactLevelsOfWrong)

/-- 'laws.FnExactShortDays': WHATEVER THE INPUT: true; the input reads as it did. -/
def fnExactShortDaysSpec : ChangeSpec := { name := "fnExactShortDays", fn := fun _ => fun
  | [d] => { results := [.lit (.bool true)], args := [d] }
  | _ => none }
def fnExactShortDaysRow : OpenClaim := { program := "ytmnfainepmnpeaa", sum := "d7d7952d1b1b17bb2aa472e727bb8c113041f8e929de016107291c2e80b73ae6", func := "loop.example/g03307/laws.FnExactShortDays", spec := "fnExactShortDays", unfollowed := true, recurses := true, apart := false }
def FnExactShortDaysSaid : Prop := fnExactShortDaysRow.holds Try.pinned (OpenSpec.ofChange fnExactShortDaysSpec)

/-- ITS FALSE NEIGHBOUR: 'it returns false'. Refute it at one input. -/
def fnExactShortDaysWrong : ChangeSpec := { name := "fnExactShortDays", fn := fun _ => fun
  | [d] => { results := [.lit (.bool false)], args := [d] }
  | _ => none }
def FnExactShortDaysWrongFalsely : Prop := fnExactShortDaysRow.holds Try.pinned (OpenSpec.ofChange fnExactShortDaysWrong)

/-- 'laws.FnExactMostNeed': WHATEVER THE INPUT: true; the input reads as it did. -/
def fnExactMostNeedSpec : ChangeSpec := { name := "fnExactMostNeed", fn := fun _ => fun
  | [d] => { results := [.lit (.bool true)], args := [d] }
  | _ => none }
def fnExactMostNeedRow : OpenClaim := { program := "ytmnfainepmnpeaa", sum := "d7d7952d1b1b17bb2aa472e727bb8c113041f8e929de016107291c2e80b73ae6", func := "loop.example/g03307/laws.FnExactMostNeed", spec := "fnExactMostNeed", unfollowed := true, recurses := true, apart := false }
def FnExactMostNeedSaid : Prop := fnExactMostNeedRow.holds Try.pinned (OpenSpec.ofChange fnExactMostNeedSpec)

/-- ITS FALSE NEIGHBOUR: 'it returns false'. Refute it at one input. -/
def fnExactMostNeedWrong : ChangeSpec := { name := "fnExactMostNeed", fn := fun _ => fun
  | [d] => { results := [.lit (.bool false)], args := [d] }
  | _ => none }
def FnExactMostNeedWrongFalsely : Prop := fnExactMostNeedRow.holds Try.pinned (OpenSpec.ofChange fnExactMostNeedWrong)

/-- 'laws.FnExactLeastStart': WHATEVER THE INPUT: true; the input reads as it did. -/
def fnExactLeastStartSpec : ChangeSpec := { name := "fnExactLeastStart", fn := fun _ => fun
  | [d] => { results := [.lit (.bool true)], args := [d] }
  | _ => none }
def fnExactLeastStartRow : OpenClaim := { program := "ytmnfainepmnpeaa", sum := "d7d7952d1b1b17bb2aa472e727bb8c113041f8e929de016107291c2e80b73ae6", func := "loop.example/g03307/laws.FnExactLeastStart", spec := "fnExactLeastStart", unfollowed := true, recurses := true, apart := false }
def FnExactLeastStartSaid : Prop := fnExactLeastStartRow.holds Try.pinned (OpenSpec.ofChange fnExactLeastStartSpec)

/-- ITS FALSE NEIGHBOUR: 'it returns false'. Refute it at one input. -/
def fnExactLeastStartWrong : ChangeSpec := { name := "fnExactLeastStart", fn := fun _ => fun
  | [d] => { results := [.lit (.bool false)], args := [d] }
  | _ => none }
def FnExactLeastStartWrongFalsely : Prop := fnExactLeastStartRow.holds Try.pinned (OpenSpec.ofChange fnExactLeastStartWrong)

/-- 'laws.FnExactLeastRoom': WHATEVER THE INPUT: true; the input reads as it did. -/
def fnExactLeastRoomSpec : ChangeSpec := { name := "fnExactLeastRoom", fn := fun _ => fun
  | [d] => { results := [.lit (.bool true)], args := [d] }
  | _ => none }
def fnExactLeastRoomRow : OpenClaim := { program := "ytmnfainepmnpeaa", sum := "d7d7952d1b1b17bb2aa472e727bb8c113041f8e929de016107291c2e80b73ae6", func := "loop.example/g03307/laws.FnExactLeastRoom", spec := "fnExactLeastRoom", unfollowed := true, recurses := true, apart := false }
def FnExactLeastRoomSaid : Prop := fnExactLeastRoomRow.holds Try.pinned (OpenSpec.ofChange fnExactLeastRoomSpec)

/-- ITS FALSE NEIGHBOUR: 'it returns false'. Refute it at one input. -/
def fnExactLeastRoomWrong : ChangeSpec := { name := "fnExactLeastRoom", fn := fun _ => fun
  | [d] => { results := [.lit (.bool false)], args := [d] }
  | _ => none }
def FnExactLeastRoomWrongFalsely : Prop := fnExactLeastRoomRow.holds Try.pinned (OpenSpec.ofChange fnExactLeastRoomWrong)

/- THE SECOND FORM. 'bulk': how many values and letters a reading holds, each counted each time it is reached (what is shared counts as often as it is met; a slice's spare places count too). A statement '..UptoSaid' is the law's where the arguments, and the package variables that the reading takes, are together of bulk at most 1048576: NARROWER than '..Said'. Prove '..Said' where nothing that the law and all that it calls make is longer than what came in: it says more and counts as full. Else prove '..UptoSaid'. A law counts once. -/
mutual
def uptoBulk {H : Type} : DataW H → Nat
  | .lit (.string bytes) => bytes.length + 1
  | .lit _ => 1
  | .nil => 1
  | .ptr d => uptoBulk d + 1
  | .slice elems spare => uptoBulkAll elems + uptoBulkAll spare + 1
  | .agg parts => uptoBulkAll parts + 1
  | .iface _ d => uptoBulk d + 1
  | .map entries => uptoBulkEntries entries + 1
  | .held _ => 1
def uptoBulkAll {H : Type} : List (DataW H) → Nat
  | [] => 0
  | d :: r => uptoBulk d + uptoBulkAll r
def uptoBulkEntries {H : Type} : List (Lit × DataW H) → Nat
  | [] => 0
  | x :: r => uptoBulkEntry x + uptoBulkEntries r
def uptoBulkEntry {H : Type} : Lit × DataW H → Nat
  | (.string bytes, d) => bytes.length + uptoBulk d + 1
  | (_, d) => uptoBulk d + 1
 end
def uptoSmall : (H : Type) → List (DataW H) → Bool := fun _ ds => decide (uptoBulkAll ds ≤ 1048576)
def OpenSpec.upto (s : _root_.Go.ChangeSpec) : _root_.Go.OpenSpec := { _root_.Go.OpenSpec.ofChange s with cond := some uptoSmall }

/-- 'laws.FnExactYearOk', WHERE WHAT IT READS IS OF BULK AT MOST 1048576: true; the input reads as it did. -/
def fnExactYearOkUptoRow : OpenClaim := { program := "ytmnfainepmnpeaa", sum := "d7d7952d1b1b17bb2aa472e727bb8c113041f8e929de016107291c2e80b73ae6", func := "loop.example/g03307/laws.FnExactYearOk", spec := "fnExactYearOk", apart := false, narrowed := true }
def FnExactYearOkUptoSaid : Prop := fnExactYearOkUptoRow.holds Try.pinned (OpenSpec.upto fnExactYearOkSpec)

/-- 'laws.FnExactAverageCatch', WHERE WHAT IT READS IS OF BULK AT MOST 1048576: true; the input reads as it did. -/
def fnExactAverageCatchUptoRow : OpenClaim := { program := "ytmnfainepmnpeaa", sum := "d7d7952d1b1b17bb2aa472e727bb8c113041f8e929de016107291c2e80b73ae6", func := "loop.example/g03307/laws.FnExactAverageCatch", spec := "fnExactAverageCatch", apart := false, narrowed := true }
def FnExactAverageCatchUptoSaid : Prop := fnExactAverageCatchUptoRow.holds Try.pinned (OpenSpec.upto fnExactAverageCatchSpec)

/-- 'laws.FnExactWithRoom', WHERE WHAT IT READS IS OF BULK AT MOST 1048576: true; the input reads as it did. -/
def fnExactWithRoomUptoRow : OpenClaim := { program := "ytmnfainepmnpeaa", sum := "d7d7952d1b1b17bb2aa472e727bb8c113041f8e929de016107291c2e80b73ae6", func := "loop.example/g03307/laws.FnExactWithRoom", spec := "fnExactWithRoom", apart := false, narrowed := true }
def FnExactWithRoomUptoSaid : Prop := fnExactWithRoomUptoRow.holds Try.pinned (OpenSpec.upto fnExactWithRoomSpec)

/-- 'laws.FnExactLostWater', WHERE WHAT IT READS IS OF BULK AT MOST 1048576: true; the input reads as it did. -/
def fnExactLostWaterUptoRow : OpenClaim := { program := "ytmnfainepmnpeaa", sum := "d7d7952d1b1b17bb2aa472e727bb8c113041f8e929de016107291c2e80b73ae6", func := "loop.example/g03307/laws.FnExactLostWater", spec := "fnExactLostWater", unfollowed := true, recurses := true, apart := false, narrowed := true }
def FnExactLostWaterUptoSaid : Prop := fnExactLostWaterUptoRow.holds Try.pinned (OpenSpec.upto fnExactLostWaterSpec)

/-- 'laws.FnExactTakenWater', WHERE WHAT IT READS IS OF BULK AT MOST 1048576: true; the input reads as it did. -/
def fnExactTakenWaterUptoRow : OpenClaim := { program := "ytmnfainepmnpeaa", sum := "d7d7952d1b1b17bb2aa472e727bb8c113041f8e929de016107291c2e80b73ae6", func := "loop.example/g03307/laws.FnExactTakenWater", spec := "fnExactTakenWater", unfollowed := true, recurses := true, apart := false, narrowed := true }
def FnExactTakenWaterUptoSaid : Prop := fnExactTakenWaterUptoRow.holds Try.pinned (OpenSpec.upto fnExactTakenWaterSpec)

/-- 'laws.FnExactIsEnough', WHERE WHAT IT READS IS OF BULK AT MOST 1048576: true; the input reads as it did. -/
def fnExactIsEnoughUptoRow : OpenClaim := { program := "ytmnfainepmnpeaa", sum := "d7d7952d1b1b17bb2aa472e727bb8c113041f8e929de016107291c2e80b73ae6", func := "loop.example/g03307/laws.FnExactIsEnough", spec := "fnExactIsEnough", unfollowed := true, recurses := true, apart := false, narrowed := true }
def FnExactIsEnoughUptoSaid : Prop := fnExactIsEnoughUptoRow.holds Try.pinned (OpenSpec.upto fnExactIsEnoughSpec)

/-- 'laws.FnExactDryDays', WHERE WHAT IT READS IS OF BULK AT MOST 1048576: true; the input reads as it did. -/
def fnExactDryDaysUptoRow : OpenClaim := { program := "ytmnfainepmnpeaa", sum := "d7d7952d1b1b17bb2aa472e727bb8c113041f8e929de016107291c2e80b73ae6", func := "loop.example/g03307/laws.FnExactDryDays", spec := "fnExactDryDays", unfollowed := true, recurses := true, apart := false, narrowed := true }
def FnExactDryDaysUptoSaid : Prop := fnExactDryDaysUptoRow.holds Try.pinned (OpenSpec.upto fnExactDryDaysSpec)

/-- 'laws.FnYears', WHERE WHAT IT READS IS OF BULK AT MOST 1048576: true; the input reads as it did. -/
def fnYearsUptoRow : OpenClaim := { program := "ytmnfainepmnpeaa", sum := "d7d7952d1b1b17bb2aa472e727bb8c113041f8e929de016107291c2e80b73ae6", func := "loop.example/g03307/laws.FnYears", spec := "fnYears", unfollowed := true, recurses := true, apart := false, narrowed := true }
def FnYearsUptoSaid : Prop := fnYearsUptoRow.holds Try.pinned (OpenSpec.upto fnYearsSpec)

/-- 'laws.FnSizes', WHERE WHAT IT READS IS OF BULK AT MOST 1048576: true; the input reads as it did. -/
def fnSizesUptoRow : OpenClaim := { program := "ytmnfainepmnpeaa", sum := "d7d7952d1b1b17bb2aa472e727bb8c113041f8e929de016107291c2e80b73ae6", func := "loop.example/g03307/laws.FnSizes", spec := "fnSizes", unfollowed := true, recurses := true, apart := false, narrowed := true }
def FnSizesUptoSaid : Prop := fnSizesUptoRow.holds Try.pinned (OpenSpec.upto fnSizesSpec)

/-- 'laws.FnExactLevelsOf', WHERE WHAT IT READS IS OF BULK AT MOST 1048576: true; the input reads as it did. -/
def fnExactLevelsOfUptoRow : OpenClaim := { program := "ytmnfainepmnpeaa", sum := "d7d7952d1b1b17bb2aa472e727bb8c113041f8e929de016107291c2e80b73ae6", func := "loop.example/g03307/laws.FnExactLevelsOf", spec := "fnExactLevelsOf", unfollowed := true, recurses := true, apart := false, narrowed := true }
def FnExactLevelsOfUptoSaid : Prop := fnExactLevelsOfUptoRow.holds Try.pinned (OpenSpec.upto fnExactLevelsOfSpec)

/-- 'laws.FnExactShortDays', WHERE WHAT IT READS IS OF BULK AT MOST 1048576: true; the input reads as it did. -/
def fnExactShortDaysUptoRow : OpenClaim := { program := "ytmnfainepmnpeaa", sum := "d7d7952d1b1b17bb2aa472e727bb8c113041f8e929de016107291c2e80b73ae6", func := "loop.example/g03307/laws.FnExactShortDays", spec := "fnExactShortDays", unfollowed := true, recurses := true, apart := false, narrowed := true }
def FnExactShortDaysUptoSaid : Prop := fnExactShortDaysUptoRow.holds Try.pinned (OpenSpec.upto fnExactShortDaysSpec)

/-- 'laws.FnExactMostNeed', WHERE WHAT IT READS IS OF BULK AT MOST 1048576: true; the input reads as it did. -/
def fnExactMostNeedUptoRow : OpenClaim := { program := "ytmnfainepmnpeaa", sum := "d7d7952d1b1b17bb2aa472e727bb8c113041f8e929de016107291c2e80b73ae6", func := "loop.example/g03307/laws.FnExactMostNeed", spec := "fnExactMostNeed", unfollowed := true, recurses := true, apart := false, narrowed := true }
def FnExactMostNeedUptoSaid : Prop := fnExactMostNeedUptoRow.holds Try.pinned (OpenSpec.upto fnExactMostNeedSpec)

/-- 'laws.FnExactLeastStart', WHERE WHAT IT READS IS OF BULK AT MOST 1048576: true; the input reads as it did. -/
def fnExactLeastStartUptoRow : OpenClaim := { program := "ytmnfainepmnpeaa", sum := "d7d7952d1b1b17bb2aa472e727bb8c113041f8e929de016107291c2e80b73ae6", func := "loop.example/g03307/laws.FnExactLeastStart", spec := "fnExactLeastStart", unfollowed := true, recurses := true, apart := false, narrowed := true }
def FnExactLeastStartUptoSaid : Prop := fnExactLeastStartUptoRow.holds Try.pinned (OpenSpec.upto fnExactLeastStartSpec)

/-- 'laws.FnExactLeastRoom', WHERE WHAT IT READS IS OF BULK AT MOST 1048576: true; the input reads as it did. -/
def fnExactLeastRoomUptoRow : OpenClaim := { program := "ytmnfainepmnpeaa", sum := "d7d7952d1b1b17bb2aa472e727bb8c113041f8e929de016107291c2e80b73ae6", func := "loop.example/g03307/laws.FnExactLeastRoom", spec := "fnExactLeastRoom", unfollowed := true, recurses := true, apart := false, narrowed := true }
def FnExactLeastRoomUptoSaid : Prop := fnExactLeastRoomUptoRow.holds Try.pinned (OpenSpec.upto fnExactLeastRoomSpec)

end Rows
end Go.Proofs.Ytmnfainepmnpeaa
