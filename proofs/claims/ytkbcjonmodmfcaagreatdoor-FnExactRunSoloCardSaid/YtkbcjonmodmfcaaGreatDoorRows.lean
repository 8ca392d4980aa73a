/-
  NARROWER THAN 'FOR EVERY INPUT', by the rows' own cells (each row's printed sentence says how): FnExactStepHart: laid · FnExactStepMany: laid · FnExactRunSolo: laid · FnSteps: laid · FnMany: laid · FnFaults: laid · FnLanes: laid.
  DERIVED. THE GIVEN ROWS OF THIS SEAT. 7 by the template 'for every input the law returns true; each argument reads behind the call as it read before'; 0 by the template 'total and deterministic' (their statements: YtkbcjonmodmfcaaGreatDoorTotals.lean).
  GIVEN WITH THE SEED: the statements are not yours to turn. If you find one false, say at which input.
  Laid BY PROGRAM, IN A SANDBOX (cutbox-rows.mjs): the forced cells as the released guide's own fill.sh prints them over the translation 02ae94bb501a8b0f… (all of the seat's roots in one cut). By AI agents, Wed Nov 11 2026. No macro, syntax, notation, axiom, sorry.
-/
import Derived.Test.YtkbcjonmodmfcaaGreatDoorChecked
import GoSem.Claim
import GoSem.ClaimJoined
import GoSem.ClaimMapViews
import Derived.JoinedTies
import Derived.KernelRfl
namespace Go.Proofs.YtkbcjonmodmfcaaGreatDoor
/- THE CELL 'sum', in the pinned program and in every row, IS THE sha256 OF THE DUMP (.gsa) THAT YtkbcjonmodmfcaaGreatDoorProg.lean LOADS. Nothing in Lean hashes anything: it is a label: what it is worth is what the hold of that sum in a sandbox is worth. -/
noncomputable def Tryz.pinned : Pinned := { name := "ytkbcjonmodmfcaagreatdoor", sum := "02ae94bb501a8b0faca15148e21d5b52a59acd965d9fb15d3c2b8d67fcd548aa", checked := Tryz.checked }
namespace Rows
def none {H : Type} : Left H := { results := [], args := [] }

/- WHAT THE LISTED PACKAGE-LEVEL VARIABLES READ AS WHEN THE CALL BEGINS. Each datum BY PROGRAM (the guide's laid-datum.mjs) off the statement by which the dump's own 'gosem.cut.vars' lays the variable. In a bare row this is a premise. The card (YtkbcjonmodmfcaaGreatDoorCards.lean) ties it to the program's text. -/
def laid_math_bits_deBruijn64tab {H : Type} : DataW H := .agg [.lit (.int .u8 0), .lit (.int .u8 1), .lit (.int .u8 56), .lit (.int .u8 2), .lit (.int .u8 57), .lit (.int .u8 49), .lit (.int .u8 28), .lit (.int .u8 3), .lit (.int .u8 61), .lit (.int .u8 58), .lit (.int .u8 42), .lit (.int .u8 50), .lit (.int .u8 38), .lit (.int .u8 29), .lit (.int .u8 17), .lit (.int .u8 4), .lit (.int .u8 62), .lit (.int .u8 47), .lit (.int .u8 59), .lit (.int .u8 36), .lit (.int .u8 45), .lit (.int .u8 43), .lit (.int .u8 51), .lit (.int .u8 22), .lit (.int .u8 53), .lit (.int .u8 39), .lit (.int .u8 33), .lit (.int .u8 30), .lit (.int .u8 24), .lit (.int .u8 18), .lit (.int .u8 12), .lit (.int .u8 5), .lit (.int .u8 63), .lit (.int .u8 55), .lit (.int .u8 48), .lit (.int .u8 27), .lit (.int .u8 60), .lit (.int .u8 41), .lit (.int .u8 37), .lit (.int .u8 16), .lit (.int .u8 46), .lit (.int .u8 35), .lit (.int .u8 44), .lit (.int .u8 21), .lit (.int .u8 52), .lit (.int .u8 32), .lit (.int .u8 23), .lit (.int .u8 11), .lit (.int .u8 54), .lit (.int .u8 26), .lit (.int .u8 40), .lit (.int .u8 15), .lit (.int .u8 34), .lit (.int .u8 20), .lit (.int .u8 31), .lit (.int .u8 10), .lit (.int .u8 25), .lit (.int .u8 14), .lit (.int .u8 19), .lit (.int .u8 9), .lit (.int .u8 13), .lit (.int .u8 8), .lit (.int .u8 7), .lit (.int .u8 6)]

/-- 'laws.FnExactStepHart': WHATEVER THE INPUT: true; the input reads as it did. -/
def fnExactStepHartSpec : ChangeSpec := { name := "fnExactStepHart", fn := fun _ => fun
  | [d1, d2, d3] => { results := [.lit (.bool true)], args := [d1, d2, d3] }
  | _ => none }
def fnExactStepHartRow : OpenClaim := { program := "ytkbcjonmodmfcaagreatdoor", sum := "02ae94bb501a8b0faca15148e21d5b52a59acd965d9fb15d3c2b8d67fcd548aa", func := "loop.example/g00213/laws.FnExactStepHart", spec := "fnExactStepHart", unfollowed := true, recurses := true, named := ["math/bits.deBruijn64tab"], apart := false, laid := [("math/bits.deBruijn64tab", laid_math_bits_deBruijn64tab)] }
def FnExactStepHartSaid : Prop := fnExactStepHartRow.holds Tryz.pinned (OpenSpec.ofChange fnExactStepHartSpec)

/-- ITS FALSE NEIGHBOUR: 'it returns false'. Refute it at one input. -/
def fnExactStepHartWrong : ChangeSpec := { name := "fnExactStepHart", fn := fun _ => fun
  | [d1, d2, d3] => { results := [.lit (.bool false)], args := [d1, d2, d3] }
  | _ => none }
def FnExactStepHartWrongFalsely : Prop := fnExactStepHartRow.holds Tryz.pinned (OpenSpec.ofChange fnExactStepHartWrong)

/-- 'laws.FnExactStepMany': WHATEVER THE INPUT: true; the input reads as it did. -/
def fnExactStepManySpec : ChangeSpec := { name := "fnExactStepMany", fn := fun _ => fun
  | [d1, d2, d3, d4] => { results := [.lit (.bool true)], args := [d1, d2, d3, d4] }
  | _ => none }
def fnExactStepManyRow : OpenClaim := { program := "ytkbcjonmodmfcaagreatdoor", sum := "02ae94bb501a8b0faca15148e21d5b52a59acd965d9fb15d3c2b8d67fcd548aa", func := "loop.example/g00213/laws.FnExactStepMany", spec := "fnExactStepMany", unfollowed := true, recurses := true, named := ["math/bits.deBruijn64tab"], apart := false, laid := [("math/bits.deBruijn64tab", laid_math_bits_deBruijn64tab)] }
def FnExactStepManySaid : Prop := fnExactStepManyRow.holds Tryz.pinned (OpenSpec.ofChange fnExactStepManySpec)

/-- ITS FALSE NEIGHBOUR: 'it returns false'. Refute it at one input. -/
def fnExactStepManyWrong : ChangeSpec := { name := "fnExactStepMany", fn := fun _ => fun
  | [d1, d2, d3, d4] => { results := [.lit (.bool false)], args := [d1, d2, d3, d4] }
  | _ => none }
def FnExactStepManyWrongFalsely : Prop := fnExactStepManyRow.holds Tryz.pinned (OpenSpec.ofChange fnExactStepManyWrong)

/-- 'laws.FnExactRunSolo': WHATEVER THE INPUT: true; the input reads as it did. -/
def fnExactRunSoloSpec : ChangeSpec := { name := "fnExactRunSolo", fn := fun _ => fun
  | [d1, d2] => { results := [.lit (.bool true)], args := [d1, d2] }
  | _ => none }
def fnExactRunSoloRow : OpenClaim := { program := "ytkbcjonmodmfcaagreatdoor", sum := "02ae94bb501a8b0faca15148e21d5b52a59acd965d9fb15d3c2b8d67fcd548aa", func := "loop.example/g00213/laws.FnExactRunSolo", spec := "fnExactRunSolo", unfollowed := true, recurses := true, named := ["math/bits.deBruijn64tab"], apart := false, laid := [("math/bits.deBruijn64tab", laid_math_bits_deBruijn64tab)] }
def FnExactRunSoloSaid : Prop := fnExactRunSoloRow.holds Tryz.pinned (OpenSpec.ofChange fnExactRunSoloSpec)

/-- ITS FALSE NEIGHBOUR: 'it returns false'. Refute it at one input. -/
def fnExactRunSoloWrong : ChangeSpec := { name := "fnExactRunSolo", fn := fun _ => fun
  | [d1, d2] => { results := [.lit (.bool false)], args := [d1, d2] }
  | _ => none }
def FnExactRunSoloWrongFalsely : Prop := fnExactRunSoloRow.holds Tryz.pinned (OpenSpec.ofChange fnExactRunSoloWrong)

/-- 'laws.FnSteps': WHATEVER THE INPUT: true; the input reads as it did. -/
def fnStepsSpec : ChangeSpec := { name := "fnSteps", fn := fun _ => fun
  | [d] => { results := [.lit (.bool true)], args := [d] }
  | _ => none }
def fnStepsRow : OpenClaim := { program := "ytkbcjonmodmfcaagreatdoor", sum := "02ae94bb501a8b0faca15148e21d5b52a59acd965d9fb15d3c2b8d67fcd548aa", func := "loop.example/g00213/laws.FnSteps", spec := "fnSteps", unfollowed := true, recurses := true, named := ["math/bits.deBruijn64tab"], apart := false, laid := [("math/bits.deBruijn64tab", laid_math_bits_deBruijn64tab)] }
def FnStepsSaid : Prop := fnStepsRow.holds Tryz.pinned (OpenSpec.ofChange fnStepsSpec)

/-- ITS FALSE NEIGHBOUR: 'it returns false'. Refute it at one input. -/
def fnStepsWrong : ChangeSpec := { name := "fnSteps", fn := fun _ => fun
  | [d] => { results := [.lit (.bool false)], args := [d] }
  | _ => none }
def FnStepsWrongFalsely : Prop := fnStepsRow.holds Tryz.pinned (OpenSpec.ofChange fnStepsWrong)

/-- 'laws.FnMany': WHATEVER THE INPUT: true; the input reads as it did. -/
def fnManySpec : ChangeSpec := { name := "fnMany", fn := fun _ => fun
  | [d] => { results := [.lit (.bool true)], args := [d] }
  | _ => none }
def fnManyRow : OpenClaim := { program := "ytkbcjonmodmfcaagreatdoor", sum := "02ae94bb501a8b0faca15148e21d5b52a59acd965d9fb15d3c2b8d67fcd548aa", func := "loop.example/g00213/laws.FnMany", spec := "fnMany", unfollowed := true, recurses := true, named := ["math/bits.deBruijn64tab"], apart := false, laid := [("math/bits.deBruijn64tab", laid_math_bits_deBruijn64tab)] }
def FnManySaid : Prop := fnManyRow.holds Tryz.pinned (OpenSpec.ofChange fnManySpec)

/-- ITS FALSE NEIGHBOUR: 'it returns false'. Refute it at one input. -/
def fnManyWrong : ChangeSpec := { name := "fnMany", fn := fun _ => fun
  | [d] => { results := [.lit (.bool false)], args := [d] }
  | _ => none }
def FnManyWrongFalsely : Prop := fnManyRow.holds Tryz.pinned (OpenSpec.ofChange fnManyWrong)

/-- 'laws.FnFaults': WHATEVER THE INPUT: true; the input reads as it did. -/
def fnFaultsSpec : ChangeSpec := { name := "fnFaults", fn := fun _ => fun
  | [d] => { results := [.lit (.bool true)], args := [d] }
  | _ => none }
def fnFaultsRow : OpenClaim := { program := "ytkbcjonmodmfcaagreatdoor", sum := "02ae94bb501a8b0faca15148e21d5b52a59acd965d9fb15d3c2b8d67fcd548aa", func := "loop.example/g00213/laws.FnFaults", spec := "fnFaults", unfollowed := true, recurses := true, named := ["math/bits.deBruijn64tab"], apart := false, laid := [("math/bits.deBruijn64tab", laid_math_bits_deBruijn64tab)] }
def FnFaultsSaid : Prop := fnFaultsRow.holds Tryz.pinned (OpenSpec.ofChange fnFaultsSpec)

/-- ITS FALSE NEIGHBOUR: 'it returns false'. Refute it at one input. -/
def fnFaultsWrong : ChangeSpec := { name := "fnFaults", fn := fun _ => fun
  | [d] => { results := [.lit (.bool false)], args := [d] }
  | _ => none }
def FnFaultsWrongFalsely : Prop := fnFaultsRow.holds Tryz.pinned (OpenSpec.ofChange fnFaultsWrong)

/-- 'laws.FnLanes': WHATEVER THE INPUT: true; the input reads as it did. -/
def fnLanesSpec : ChangeSpec := { name := "fnLanes", fn := fun _ => fun
  | [d] => { results := [.lit (.bool true)], args := [d] }
  | _ => none }
def fnLanesRow : OpenClaim := { program := "ytkbcjonmodmfcaagreatdoor", sum := "02ae94bb501a8b0faca15148e21d5b52a59acd965d9fb15d3c2b8d67fcd548aa", func := "loop.example/g00213/laws.FnLanes", spec := "fnLanes", unfollowed := true, recurses := true, named := ["math/bits.deBruijn64tab"], apart := false, laid := [("math/bits.deBruijn64tab", laid_math_bits_deBruijn64tab)] }
def FnLanesSaid : Prop := fnLanesRow.holds Tryz.pinned (OpenSpec.ofChange fnLanesSpec)

/-- ITS FALSE NEIGHBOUR: 'it returns false'. Refute it at one input. -/
def fnLanesWrong : ChangeSpec := { name := "fnLanes", fn := fun _ => fun
  | [d] => { results := [.lit (.bool false)], args := [d] }
  | _ => none }
def FnLanesWrongFalsely : Prop := fnLanesRow.holds Tryz.pinned (OpenSpec.ofChange fnLanesWrong)

/- THE SECOND FORM. 'bulk': how many values and letters a reading holds, each counted each time it is reached (what is shared counts as often as it is met; a slice's spare places count too). A statement '..UptoSaid' is the law's where the arguments, and the package variables that the reading takes, are together of bulk at most 1048576: NARROWER than '..Said'. Prove '..Said' where nothing that the law and all that it calls make is longer than what came in: it says more and counts as full. Else prove '..UptoSaid'. A law counts once. -/
mutual
def uptoBulk {H : Type} : DataW H → Nat
  | .lit (.string bytes) => bytes.length + 1
  | .lit _ => 1
  | .nil => 1
  | .ptr d => uptoBulk d + 1
  | .slice elems spare => uptoBulkAll elems + uptoBulkAll spare + 1
  | .agg parts => uptoBulkAll parts + 1
  | .iface _ d => uptoBulk d + 1
  | .map entries => uptoBulkEntries entries + 1
  | .held _ => 1
def uptoBulkAll {H : Type} : List (DataW H) → Nat
  | [] => 0
  | d :: r => uptoBulk d + uptoBulkAll r
def uptoBulkEntries {H : Type} : List (Lit × DataW H) → Nat
  | [] => 0
  | x :: r => uptoBulkEntry x + uptoBulkEntries r
def uptoBulkEntry {H : Type} : Lit × DataW H → Nat
  | (.string bytes, d) => bytes.length + uptoBulk d + 1
  | (_, d) => uptoBulk d + 1
 end
def uptoSmall : (H : Type) → List (DataW H) → Bool := fun _ ds => decide (uptoBulkAll ds ≤ 1048576)
def OpenSpec.upto (s : _root_.Go.ChangeSpec) : _root_.Go.OpenSpec := { _root_.Go.OpenSpec.ofChange s with cond := some uptoSmall }

/-- 'laws.FnExactStepHart', WHERE WHAT IT READS IS OF BULK AT MOST 1048576: true; the input reads as it did. -/
def fnExactStepHartUptoRow : OpenClaim := { program := "ytkbcjonmodmfcaagreatdoor", sum := "02ae94bb501a8b0faca15148e21d5b52a59acd965d9fb15d3c2b8d67fcd548aa", func := "loop.example/g00213/laws.FnExactStepHart", spec := "fnExactStepHart", unfollowed := true, recurses := true, named := ["math/bits.deBruijn64tab"], apart := false, laid := [("math/bits.deBruijn64tab", laid_math_bits_deBruijn64tab)], narrowed := true }
def FnExactStepHartUptoSaid : Prop := fnExactStepHartUptoRow.holds Tryz.pinned (OpenSpec.upto fnExactStepHartSpec)

/-- 'laws.FnExactStepMany', WHERE WHAT IT READS IS OF BULK AT MOST 1048576: true; the input reads as it did. -/
def fnExactStepManyUptoRow : OpenClaim := { program := "ytkbcjonmodmfcaagreatdoor", sum := "02ae94bb501a8b0faca15148e21d5b52a59acd965d9fb15d3c2b8d67fcd548aa", func := "loop.example/g00213/laws.FnExactStepMany", spec := "fnExactStepMany", unfollowed := true, recurses := true, named := ["math/bits.deBruijn64tab"], apart := false, laid := [("math/bits.deBruijn64tab", laid_math_bits_deBruijn64tab)], narrowed := true }
def FnExactStepManyUptoSaid : Prop := fnExactStepManyUptoRow.holds Tryz.pinned (OpenSpec.upto fnExactStepManySpec)

/-- 'laws.FnExactRunSolo', WHERE WHAT IT READS IS OF BULK AT MOST 1048576: true; the input reads as it did. -/
def fnExactRunSoloUptoRow : OpenClaim := { program := "ytkbcjonmodmfcaagreatdoor", sum := "02ae94bb501a8b0faca15148e21d5b52a59acd965d9fb15d3c2b8d67fcd548aa", func := "loop.example/g00213/laws.FnExactRunSolo", spec := "fnExactRunSolo", unfollowed := true, recurses := true, named := ["math/bits.deBruijn64tab"], apart := false, laid := [("math/bits.deBruijn64tab", laid_math_bits_deBruijn64tab)], narrowed := true }
def FnExactRunSoloUptoSaid : Prop := fnExactRunSoloUptoRow.holds Tryz.pinned (OpenSpec.upto fnExactRunSoloSpec)

/-- 'laws.FnSteps', WHERE WHAT IT READS IS OF BULK AT MOST 1048576: true; the input reads as it did. -/
def fnStepsUptoRow : OpenClaim := { program := "ytkbcjonmodmfcaagreatdoor", sum := "02ae94bb501a8b0faca15148e21d5b52a59acd965d9fb15d3c2b8d67fcd548aa", func := "loop.example/g00213/laws.FnSteps", spec := "fnSteps", unfollowed := true, recurses := true, named := ["math/bits.deBruijn64tab"], apart := false, laid := [("math/bits.deBruijn64tab", laid_math_bits_deBruijn64tab)], narrowed := true }
def FnStepsUptoSaid : Prop := fnStepsUptoRow.holds Tryz.pinned (OpenSpec.upto fnStepsSpec)

/-- 'laws.FnMany', WHERE WHAT IT READS IS OF BULK AT MOST 1048576: true; the input reads as it did. -/
def fnManyUptoRow : OpenClaim := { program := "ytkbcjonmodmfcaagreatdoor", sum := "02ae94bb501a8b0faca15148e21d5b52a59acd965d9fb15d3c2b8d67fcd548aa", func := "loop.example/g00213/laws.FnMany", spec := "fnMany", unfollowed := true, recurses := true, named := ["math/bits.deBruijn64tab"], apart := false, laid := [("math/bits.deBruijn64tab", laid_math_bits_deBruijn64tab)], narrowed := true }
def FnManyUptoSaid : Prop := fnManyUptoRow.holds Tryz.pinned (OpenSpec.upto fnManySpec)

/-- 'laws.FnFaults', WHERE WHAT IT READS IS OF BULK AT MOST 1048576: true; the input reads as it did. -/
def fnFaultsUptoRow : OpenClaim := { program := "ytkbcjonmodmfcaagreatdoor", sum := "02ae94bb501a8b0faca15148e21d5b52a59acd965d9fb15d3c2b8d67fcd548aa", func := "loop.example/g00213/laws.FnFaults", spec := "fnFaults", unfollowed := true, recurses := true, named := ["math/bits.deBruijn64tab"], apart := false, laid := [("math/bits.deBruijn64tab", laid_math_bits_deBruijn64tab)], narrowed := true }
def FnFaultsUptoSaid : Prop := fnFaultsUptoRow.holds Tryz.pinned (OpenSpec.upto fnFaultsSpec)

/-- 'laws.FnLanes', WHERE WHAT IT READS IS OF BULK AT MOST 1048576: true; the input reads as it did. -/
def fnLanesUptoRow : OpenClaim := { program := "ytkbcjonmodmfcaagreatdoor", sum := "02ae94bb501a8b0faca15148e21d5b52a59acd965d9fb15d3c2b8d67fcd548aa", func := "loop.example/g00213/laws.FnLanes", spec := "fnLanes", unfollowed := true, recurses := true, named := ["math/bits.deBruijn64tab"], apart := false, laid := [("math/bits.deBruijn64tab", laid_math_bits_deBruijn64tab)], narrowed := true }
def FnLanesUptoSaid : Prop := fnLanesUptoRow.holds Tryz.pinned (OpenSpec.upto fnLanesSpec)

end Rows
end Go.Proofs.YtkbcjonmodmfcaaGreatDoor
