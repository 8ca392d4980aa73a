/-
  No cell of these rows narrows 'for every input' (looked for: loops, veiled, ifaces, maps, wideKeys, modest, calm, conditions, laid).
  DERIVED. THE GIVEN ROWS OF THIS SEAT. 11 by the template 'for every input the law returns true; each argument reads behind the call as it read before'; 0 by the template 'total and deterministic' (their statements: YteddlkdbefloaaaTotals.lean).
  GIVEN WITH THE SEED: the statements are not yours to turn. If you find one false, say at which input.
  Laid BY PROGRAM, IN A SANDBOX (cutbox-rows.mjs): the forced cells as the released guide's own fill.sh prints them over the translation 1db21711d609f84f… (all of the seat's roots in one cut). By AI agents, Wed Nov 11 2026. No macro, syntax, notation, axiom, sorry.
-/
import Derived.Test.YteddlkdbefloaaaChecked
import GoSem.Claim
import GoSem.ClaimJoined
import GoSem.ClaimMapViews
import Derived.JoinedTies
import Derived.KernelRfl
namespace Go.Proofs.Yteddlkdbefloaaa
/- THE CELL 'sum', in the pinned program and in every row, IS THE sha256 OF THE DUMP (.gsa) THAT YteddlkdbefloaaaProg.lean LOADS. Nothing in Lean hashes anything: it is a label: what it is worth is what the hold of that sum in a sandbox is worth. -/
noncomputable def Try.pinned : Pinned := { name := "yteddlkdbefloaaa", sum := "1db21711d609f84f4faa048a80206f724c7d331c37a6614e75501d1ed2cd138f", checked := Try.checked }
namespace Rows
def none {H : Type} : Left H := { results := [], args := [] }

/-- 'laws.FnExactDigestOf': WHATEVER THE INPUT: true; the input reads as it did. -/
def fnExactDigestOfSpec : ChangeSpec := { name := "fnExactDigestOf", fn := fun _ => fun
  | [d] => { results := [.lit (.bool true)], args := [d] }
  | _ => none }
def fnExactDigestOfRow : OpenClaim := { program := "yteddlkdbefloaaa", sum := "1db21711d609f84f4faa048a80206f724c7d331c37a6614e75501d1ed2cd138f", func := "loop.example/g00213/laws.FnExactDigestOf", spec := "fnExactDigestOf", unfollowed := true, recurses := true, apart := false }
def FnExactDigestOfSaid : Prop := fnExactDigestOfRow.holds Try.pinned (OpenSpec.ofChange fnExactDigestOfSpec)

/-- ITS FALSE NEIGHBOUR: 'it returns false'. Refute it at one input. -/
def fnExactDigestOfWrong : ChangeSpec := { name := "fnExactDigestOf", fn := fun _ => fun
  | [d] => { results := [.lit (.bool false)], args := [d] }
  | _ => none }
def FnExactDigestOfWrongFalsely : Prop := fnExactDigestOfRow.holds Try.pinned (OpenSpec.ofChange fnExactDigestOfWrong)

/-- 'laws.FnExactPatchImage': WHATEVER THE INPUT: true; the input reads as it did. -/
def fnExactPatchImageSpec : ChangeSpec := { name := "fnExactPatchImage", fn := fun _ => fun
  | [d1, d2, d3] => { results := [.lit (.bool true)], args := [d1, d2, d3] }
  | _ => none }
def fnExactPatchImageRow : OpenClaim := { program := "yteddlkdbefloaaa", sum := "1db21711d609f84f4faa048a80206f724c7d331c37a6614e75501d1ed2cd138f", func := "loop.example/g00213/laws.FnExactPatchImage", spec := "fnExactPatchImage", unfollowed := true, recurses := true, apart := false }
def FnExactPatchImageSaid : Prop := fnExactPatchImageRow.holds Try.pinned (OpenSpec.ofChange fnExactPatchImageSpec)

/-- ITS FALSE NEIGHBOUR: 'it returns false'. Refute it at one input. -/
def fnExactPatchImageWrong : ChangeSpec := { name := "fnExactPatchImage", fn := fun _ => fun
  | [d1, d2, d3] => { results := [.lit (.bool false)], args := [d1, d2, d3] }
  | _ => none }
def FnExactPatchImageWrongFalsely : Prop := fnExactPatchImageRow.holds Try.pinned (OpenSpec.ofChange fnExactPatchImageWrong)

/-- 'laws.FnExactSameViews': WHATEVER THE INPUT: true; the input reads as it did. -/
def fnExactSameViewsSpec : ChangeSpec := { name := "fnExactSameViews", fn := fun _ => fun
  | [d1, d2] => { results := [.lit (.bool true)], args := [d1, d2] }
  | _ => none }
def fnExactSameViewsRow : OpenClaim := { program := "yteddlkdbefloaaa", sum := "1db21711d609f84f4faa048a80206f724c7d331c37a6614e75501d1ed2cd138f", func := "loop.example/g00213/laws.FnExactSameViews", spec := "fnExactSameViews", apart := false }
def FnExactSameViewsSaid : Prop := fnExactSameViewsRow.holds Try.pinned (OpenSpec.ofChange fnExactSameViewsSpec)

/-- ITS FALSE NEIGHBOUR: 'it returns false'. Refute it at one input. -/
def fnExactSameViewsWrong : ChangeSpec := { name := "fnExactSameViews", fn := fun _ => fun
  | [d1, d2] => { results := [.lit (.bool false)], args := [d1, d2] }
  | _ => none }
def FnExactSameViewsWrongFalsely : Prop := fnExactSameViewsRow.holds Try.pinned (OpenSpec.ofChange fnExactSameViewsWrong)

/-- 'laws.FnExactChangedPages': WHATEVER THE INPUT: true; the input reads as it did. -/
def fnExactChangedPagesSpec : ChangeSpec := { name := "fnExactChangedPages", fn := fun _ => fun
  | [d1, d2] => { results := [.lit (.bool true)], args := [d1, d2] }
  | _ => none }
def fnExactChangedPagesRow : OpenClaim := { program := "yteddlkdbefloaaa", sum := "1db21711d609f84f4faa048a80206f724c7d331c37a6614e75501d1ed2cd138f", func := "loop.example/g00213/laws.FnExactChangedPages", spec := "fnExactChangedPages", unfollowed := true, recurses := true, apart := false }
def FnExactChangedPagesSaid : Prop := fnExactChangedPagesRow.holds Try.pinned (OpenSpec.ofChange fnExactChangedPagesSpec)

/-- ITS FALSE NEIGHBOUR: 'it returns false'. Refute it at one input. -/
def fnExactChangedPagesWrong : ChangeSpec := { name := "fnExactChangedPages", fn := fun _ => fun
  | [d1, d2] => { results := [.lit (.bool false)], args := [d1, d2] }
  | _ => none }
def FnExactChangedPagesWrongFalsely : Prop := fnExactChangedPagesRow.holds Try.pinned (OpenSpec.ofChange fnExactChangedPagesWrong)

/-- 'laws.FnPatches': WHATEVER THE INPUT: true; the input reads as it did. -/
def fnPatchesSpec : ChangeSpec := { name := "fnPatches", fn := fun _ => fun
  | [d] => { results := [.lit (.bool true)], args := [d] }
  | _ => none }
def fnPatchesRow : OpenClaim := { program := "yteddlkdbefloaaa", sum := "1db21711d609f84f4faa048a80206f724c7d331c37a6614e75501d1ed2cd138f", func := "loop.example/g00213/laws.FnPatches", spec := "fnPatches", unfollowed := true, recurses := true, apart := false }
def FnPatchesSaid : Prop := fnPatchesRow.holds Try.pinned (OpenSpec.ofChange fnPatchesSpec)

/-- ITS FALSE NEIGHBOUR: 'it returns false'. Refute it at one input. -/
def fnPatchesWrong : ChangeSpec := { name := "fnPatches", fn := fun _ => fun
  | [d] => { results := [.lit (.bool false)], args := [d] }
  | _ => none }
def FnPatchesWrongFalsely : Prop := fnPatchesRow.holds Try.pinned (OpenSpec.ofChange fnPatchesWrong)

/-- 'laws.FnGaps': WHATEVER THE INPUT: true; the input reads as it did. -/
def fnGapsSpec : ChangeSpec := { name := "fnGaps", fn := fun _ => fun
  | [d] => { results := [.lit (.bool true)], args := [d] }
  | _ => none }
def fnGapsRow : OpenClaim := { program := "yteddlkdbefloaaa", sum := "1db21711d609f84f4faa048a80206f724c7d331c37a6614e75501d1ed2cd138f", func := "loop.example/g00213/laws.FnGaps", spec := "fnGaps", unfollowed := true, recurses := true, apart := false }
def FnGapsSaid : Prop := fnGapsRow.holds Try.pinned (OpenSpec.ofChange fnGapsSpec)

/-- ITS FALSE NEIGHBOUR: 'it returns false'. Refute it at one input. -/
def fnGapsWrong : ChangeSpec := { name := "fnGaps", fn := fun _ => fun
  | [d] => { results := [.lit (.bool false)], args := [d] }
  | _ => none }
def FnGapsWrongFalsely : Prop := fnGapsRow.holds Try.pinned (OpenSpec.ofChange fnGapsWrong)

/-- 'laws.FnExactGapOf': WHATEVER THE INPUT: true; the input reads as it did. -/
def fnExactGapOfSpec : ChangeSpec := { name := "fnExactGapOf", fn := fun _ => fun
  | [d1, d2] => { results := [.lit (.bool true)], args := [d1, d2] }
  | _ => none }
def fnExactGapOfRow : OpenClaim := { program := "yteddlkdbefloaaa", sum := "1db21711d609f84f4faa048a80206f724c7d331c37a6614e75501d1ed2cd138f", func := "loop.example/g00213/laws.FnExactGapOf", spec := "fnExactGapOf", unfollowed := true, recurses := true, apart := false }
def FnExactGapOfSaid : Prop := fnExactGapOfRow.holds Try.pinned (OpenSpec.ofChange fnExactGapOfSpec)

/-- ITS FALSE NEIGHBOUR: 'it returns false'. Refute it at one input. -/
def fnExactGapOfWrong : ChangeSpec := { name := "fnExactGapOf", fn := fun _ => fun
  | [d1, d2] => { results := [.lit (.bool false)], args := [d1, d2] }
  | _ => none }
def FnExactGapOfWrongFalsely : Prop := fnExactGapOfRow.holds Try.pinned (OpenSpec.ofChange fnExactGapOfWrong)

/-- 'laws.FnExactHostFault': WHATEVER THE INPUT: true; the input reads as it did. -/
def fnExactHostFaultSpec : ChangeSpec := { name := "fnExactHostFault", fn := fun _ => fun
  | [d] => { results := [.lit (.bool true)], args := [d] }
  | _ => none }
def fnExactHostFaultRow : OpenClaim := { program := "yteddlkdbefloaaa", sum := "1db21711d609f84f4faa048a80206f724c7d331c37a6614e75501d1ed2cd138f", func := "loop.example/g00213/laws.FnExactHostFault", spec := "fnExactHostFault", unfollowed := true, recurses := true, apart := false }
def FnExactHostFaultSaid : Prop := fnExactHostFaultRow.holds Try.pinned (OpenSpec.ofChange fnExactHostFaultSpec)

/-- ITS FALSE NEIGHBOUR: 'it returns false'. Refute it at one input. -/
def fnExactHostFaultWrong : ChangeSpec := { name := "fnExactHostFault", fn := fun _ => fun
  | [d] => { results := [.lit (.bool false)], args := [d] }
  | _ => none }
def FnExactHostFaultWrongFalsely : Prop := fnExactHostFaultRow.holds Try.pinned (OpenSpec.ofChange fnExactHostFaultWrong)

/-- 'laws.FnExactRestOf': WHATEVER THE INPUT: true; the input reads as it did. -/
def fnExactRestOfSpec : ChangeSpec := { name := "fnExactRestOf", fn := fun _ => fun
  | [d] => { results := [.lit (.bool true)], args := [d] }
  | _ => none }
def fnExactRestOfRow : OpenClaim := { program := "yteddlkdbefloaaa", sum := "1db21711d609f84f4faa048a80206f724c7d331c37a6614e75501d1ed2cd138f", func := "loop.example/g00213/laws.FnExactRestOf", spec := "fnExactRestOf", unfollowed := true, recurses := true, apart := false }
def FnExactRestOfSaid : Prop := fnExactRestOfRow.holds Try.pinned (OpenSpec.ofChange fnExactRestOfSpec)

/-- ITS FALSE NEIGHBOUR: 'it returns false'. Refute it at one input. -/
def fnExactRestOfWrong : ChangeSpec := { name := "fnExactRestOf", fn := fun _ => fun
  | [d] => { results := [.lit (.bool false)], args := [d] }
  | _ => none }
def FnExactRestOfWrongFalsely : Prop := fnExactRestOfRow.holds Try.pinned (OpenSpec.ofChange fnExactRestOfWrong)

/-- 'laws.FnExactStrangersTo': WHATEVER THE INPUT: true; the input reads as it did. -/
def fnExactStrangersToSpec : ChangeSpec := { name := "fnExactStrangersTo", fn := fun _ => fun
  | [d1, d2] => { results := [.lit (.bool true)], args := [d1, d2] }
  | _ => none }
def fnExactStrangersToRow : OpenClaim := { program := "yteddlkdbefloaaa", sum := "1db21711d609f84f4faa048a80206f724c7d331c37a6614e75501d1ed2cd138f", func := "loop.example/g00213/laws.FnExactStrangersTo", spec := "fnExactStrangersTo", unfollowed := true, recurses := true, apart := false }
def FnExactStrangersToSaid : Prop := fnExactStrangersToRow.holds Try.pinned (OpenSpec.ofChange fnExactStrangersToSpec)

/-- ITS FALSE NEIGHBOUR: 'it returns false'. Refute it at one input. -/
def fnExactStrangersToWrong : ChangeSpec := { name := "fnExactStrangersTo", fn := fun _ => fun
  | [d1, d2] => { results := [.lit (.bool false)], args := [d1, d2] }
  | _ => none }
def FnExactStrangersToWrongFalsely : Prop := fnExactStrangersToRow.holds Try.pinned (OpenSpec.ofChange fnExactStrangersToWrong)

/-- 'laws.FnExactMayChange': WHATEVER THE INPUT: true; the input reads as it did. -/
def fnExactMayChangeSpec : ChangeSpec := { name := "fnExactMayChange", fn := fun _ => fun
  | [d1, d2] => { results := [.lit (.bool true)], args := [d1, d2] }
  | _ => none }
def fnExactMayChangeRow : OpenClaim := { program := "yteddlkdbefloaaa", sum := "1db21711d609f84f4faa048a80206f724c7d331c37a6614e75501d1ed2cd138f", func := "loop.example/g00213/laws.FnExactMayChange", spec := "fnExactMayChange", unfollowed := true, recurses := true, apart := false }
def FnExactMayChangeSaid : Prop := fnExactMayChangeRow.holds Try.pinned (OpenSpec.ofChange fnExactMayChangeSpec)

/-- ITS FALSE NEIGHBOUR: 'it returns false'. Refute it at one input. -/
def fnExactMayChangeWrong : ChangeSpec := { name := "fnExactMayChange", fn := fun _ => fun
  | [d1, d2] => { results := [.lit (.bool false)], args := [d1, d2] }
  | _ => none }
def FnExactMayChangeWrongFalsely : Prop := fnExactMayChangeRow.holds Try.pinned (OpenSpec.ofChange fnExactMayChangeWrong)

/- THE SECOND FORM. 'bulk': how many values and letters a reading holds, each counted each time it is reached (what is shared counts as often as it is met; a slice's spare places count too). A statement '..UptoSaid' is the law's where the arguments, and the package variables that the reading takes, are together of bulk at most 1048576: NARROWER than '..Said'. Prove '..Said' where nothing that the law and all that it calls make is longer than what came in: it says more and counts as full. Else prove '..UptoSaid'. A law counts once. -/
mutual
def uptoBulk {H : Type} : DataW H → Nat
  | .lit (.string bytes) => bytes.length + 1
  | .lit _ => 1
  | .nil => 1
  | .ptr d => uptoBulk d + 1
  | .slice elems spare => uptoBulkAll elems + uptoBulkAll spare + 1
  | .agg parts => uptoBulkAll parts + 1
  | .iface _ d => uptoBulk d + 1
  | .map entries => uptoBulkEntries entries + 1
  | .held _ => 1
def uptoBulkAll {H : Type} : List (DataW H) → Nat
  | [] => 0
  | d :: r => uptoBulk d + uptoBulkAll r
def uptoBulkEntries {H : Type} : List (Lit × DataW H) → Nat
  | [] => 0
  | x :: r => uptoBulkEntry x + uptoBulkEntries r
def uptoBulkEntry {H : Type} : Lit × DataW H → Nat
  | (.string bytes, d) => bytes.length + uptoBulk d + 1
  | (_, d) => uptoBulk d + 1
 end
def uptoSmall : (H : Type) → List (DataW H) → Bool := fun _ ds => decide (uptoBulkAll ds ≤ 1048576)
def OpenSpec.upto (s : _root_.Go.ChangeSpec) : _root_.Go.OpenSpec := { _root_.Go.OpenSpec.ofChange s with cond := some uptoSmall }

/-- 'laws.FnExactDigestOf', WHERE WHAT IT READS IS OF BULK AT MOST 1048576: true; the input reads as it did. -/
def fnExactDigestOfUptoRow : OpenClaim := { program := "yteddlkdbefloaaa", sum := "1db21711d609f84f4faa048a80206f724c7d331c37a6614e75501d1ed2cd138f", func := "loop.example/g00213/laws.FnExactDigestOf", spec := "fnExactDigestOf", unfollowed := true, recurses := true, apart := false, narrowed := true }
def FnExactDigestOfUptoSaid : Prop := fnExactDigestOfUptoRow.holds Try.pinned (OpenSpec.upto fnExactDigestOfSpec)

/-- 'laws.FnExactPatchImage', WHERE WHAT IT READS IS OF BULK AT MOST 1048576: true; the input reads as it did. -/
def fnExactPatchImageUptoRow : OpenClaim := { program := "yteddlkdbefloaaa", sum := "1db21711d609f84f4faa048a80206f724c7d331c37a6614e75501d1ed2cd138f", func := "loop.example/g00213/laws.FnExactPatchImage", spec := "fnExactPatchImage", unfollowed := true, recurses := true, apart := false, narrowed := true }
def FnExactPatchImageUptoSaid : Prop := fnExactPatchImageUptoRow.holds Try.pinned (OpenSpec.upto fnExactPatchImageSpec)

/-- 'laws.FnExactSameViews', WHERE WHAT IT READS IS OF BULK AT MOST 1048576: true; the input reads as it did. -/
def fnExactSameViewsUptoRow : OpenClaim := { program := "yteddlkdbefloaaa", sum := "1db21711d609f84f4faa048a80206f724c7d331c37a6614e75501d1ed2cd138f", func := "loop.example/g00213/laws.FnExactSameViews", spec := "fnExactSameViews", apart := false, narrowed := true }
def FnExactSameViewsUptoSaid : Prop := fnExactSameViewsUptoRow.holds Try.pinned (OpenSpec.upto fnExactSameViewsSpec)

/-- 'laws.FnExactChangedPages', WHERE WHAT IT READS IS OF BULK AT MOST 1048576: true; the input reads as it did. -/
def fnExactChangedPagesUptoRow : OpenClaim := { program := "yteddlkdbefloaaa", sum := "1db21711d609f84f4faa048a80206f724c7d331c37a6614e75501d1ed2cd138f", func := "loop.example/g00213/laws.FnExactChangedPages", spec := "fnExactChangedPages", unfollowed := true, recurses := true, apart := false, narrowed := true }
def FnExactChangedPagesUptoSaid : Prop := fnExactChangedPagesUptoRow.holds Try.pinned (OpenSpec.upto fnExactChangedPagesSpec)

/-- 'laws.FnPatches', WHERE WHAT IT READS IS OF BULK AT MOST 1048576: true; the input reads as it did. -/
def fnPatchesUptoRow : OpenClaim := { program := "yteddlkdbefloaaa", sum := "1db21711d609f84f4faa048a80206f724c7d331c37a6614e75501d1ed2cd138f", func := "loop.example/g00213/laws.FnPatches", spec := "fnPatches", unfollowed := true, recurses := true, apart := false, narrowed := true }
def FnPatchesUptoSaid : Prop := fnPatchesUptoRow.holds Try.pinned (OpenSpec.upto fnPatchesSpec)

/-- 'laws.FnGaps', WHERE WHAT IT READS IS OF BULK AT MOST 1048576: true; the input reads as it did. -/
def fnGapsUptoRow : OpenClaim := { program := "yteddlkdbefloaaa", sum := "1db21711d609f84f4faa048a80206f724c7d331c37a6614e75501d1ed2cd138f", func := "loop.example/g00213/laws.FnGaps", spec := "fnGaps", unfollowed := true, recurses := true, apart := false, narrowed := true }
def FnGapsUptoSaid : Prop := fnGapsUptoRow.holds Try.pinned (OpenSpec.upto fnGapsSpec)

/-- 'laws.FnExactGapOf', WHERE WHAT IT READS IS OF BULK AT MOST 1048576: true; the input reads as it did. -/
def fnExactGapOfUptoRow : OpenClaim := { program := "yteddlkdbefloaaa", sum := "1db21711d609f84f4faa048a80206f724c7d331c37a6614e75501d1ed2cd138f", func := "loop.example/g00213/laws.FnExactGapOf", spec := "fnExactGapOf", unfollowed := true, recurses := true, apart := false, narrowed := true }
def FnExactGapOfUptoSaid : Prop := fnExactGapOfUptoRow.holds Try.pinned (OpenSpec.upto fnExactGapOfSpec)

/-- 'laws.FnExactHostFault', WHERE WHAT IT READS IS OF BULK AT MOST 1048576: true; the input reads as it did. -/
def fnExactHostFaultUptoRow : OpenClaim := { program := "yteddlkdbefloaaa", sum := "1db21711d609f84f4faa048a80206f724c7d331c37a6614e75501d1ed2cd138f", func := "loop.example/g00213/laws.FnExactHostFault", spec := "fnExactHostFault", unfollowed := true, recurses := true, apart := false, narrowed := true }
def FnExactHostFaultUptoSaid : Prop := fnExactHostFaultUptoRow.holds Try.pinned (OpenSpec.upto fnExactHostFaultSpec)

/-- 'laws.FnExactRestOf', WHERE WHAT IT READS IS OF BULK AT MOST 1048576: true; the input reads as it did. -/
def fnExactRestOfUptoRow : OpenClaim := { program := "yteddlkdbefloaaa", sum := "1db21711d609f84f4faa048a80206f724c7d331c37a6614e75501d1ed2cd138f", func := "loop.example/g00213/laws.FnExactRestOf", spec := "fnExactRestOf", unfollowed := true, recurses := true, apart := false, narrowed := true }
def FnExactRestOfUptoSaid : Prop := fnExactRestOfUptoRow.holds Try.pinned (OpenSpec.upto fnExactRestOfSpec)

/-- 'laws.FnExactStrangersTo', WHERE WHAT IT READS IS OF BULK AT MOST 1048576: true; the input reads as it did. -/
def fnExactStrangersToUptoRow : OpenClaim := { program := "yteddlkdbefloaaa", sum := "1db21711d609f84f4faa048a80206f724c7d331c37a6614e75501d1ed2cd138f", func := "loop.example/g00213/laws.FnExactStrangersTo", spec := "fnExactStrangersTo", unfollowed := true, recurses := true, apart := false, narrowed := true }
def FnExactStrangersToUptoSaid : Prop := fnExactStrangersToUptoRow.holds Try.pinned (OpenSpec.upto fnExactStrangersToSpec)

/-- 'laws.FnExactMayChange', WHERE WHAT IT READS IS OF BULK AT MOST 1048576: true; the input reads as it did. -/
def fnExactMayChangeUptoRow : OpenClaim := { program := "yteddlkdbefloaaa", sum := "1db21711d609f84f4faa048a80206f724c7d331c37a6614e75501d1ed2cd138f", func := "loop.example/g00213/laws.FnExactMayChange", spec := "fnExactMayChange", unfollowed := true, recurses := true, apart := false, narrowed := true }
def FnExactMayChangeUptoSaid : Prop := fnExactMayChangeUptoRow.holds Try.pinned (OpenSpec.upto fnExactMayChangeSpec)

end Rows
end Go.Proofs.Yteddlkdbefloaaa
