/-
  No cell of these rows narrows 'for every input' (looked for: loops, veiled, ifaces, maps, wideKeys, modest, calm, conditions, laid).
  DERIVED. THE GIVEN ROWS OF THIS SEAT. 6 by the template 'for every input the law returns true; each argument reads behind the call as it read before'; 0 by the template 'total and deterministic' (their statements: YtimbcpeilkaahaaGreatTotals.lean).
  GIVEN WITH THE SEED: the statements are not yours to turn. If you find one false, say at which input.
  Laid BY PROGRAM, IN A SANDBOX (cutbox-rows.mjs): the forced cells as the released guide's own fill.sh prints them over the translation 8ee6b025ca20b85b… (all of the seat's roots in one cut). By AI agents, Wed Nov 11 2026. No macro, syntax, notation, axiom, sorry.
-/
import Derived.Test.YtimbcpeilkaahaaGreatChecked
import GoSem.Claim
import GoSem.ClaimJoined
import GoSem.ClaimMapViews
import Derived.JoinedTies
import Derived.KernelRfl
namespace Go.Proofs.YtimbcpeilkaahaaGreat
/- THE CELL 'sum', in the pinned program and in every row, IS THE sha256 OF THE DUMP (.gsa) THAT YtimbcpeilkaahaaGreatProg.lean LOADS. Nothing in Lean hashes anything: it is a label: what it is worth is what the hold of that sum in a sandbox is worth. -/
noncomputable def Tryz.pinned : Pinned := { name := "ytimbcpeilkaahaagreat", sum := "8ee6b025ca20b85b9cf47c0215186c5205e4e9a8cfc847193f81a27b34b0c689", checked := Tryz.checked }
namespace Rows
def none {H : Type} : Left H := { results := [], args := [] }

/-- 'laws.FnExactTraceOf': WHATEVER THE INPUT: true; the input reads as it did. -/
def fnExactTraceOfSpec : ChangeSpec := { name := "fnExactTraceOf", fn := fun _ => fun
  | [d1, d2] => { results := [.lit (.bool true)], args := [d1, d2] }
  | _ => none }
def fnExactTraceOfRow : OpenClaim := { program := "ytimbcpeilkaahaagreat", sum := "8ee6b025ca20b85b9cf47c0215186c5205e4e9a8cfc847193f81a27b34b0c689", func := "loop.example/g00213/laws.FnExactTraceOf", spec := "fnExactTraceOf", unfollowed := true, recurses := true, apart := false }
def FnExactTraceOfSaid : Prop := fnExactTraceOfRow.holds Tryz.pinned (OpenSpec.ofChange fnExactTraceOfSpec)

/-- ITS FALSE NEIGHBOUR: 'it returns false'. Refute it at one input. -/
def fnExactTraceOfWrong : ChangeSpec := { name := "fnExactTraceOf", fn := fun _ => fun
  | [d1, d2] => { results := [.lit (.bool false)], args := [d1, d2] }
  | _ => none }
def FnExactTraceOfWrongFalsely : Prop := fnExactTraceOfRow.holds Tryz.pinned (OpenSpec.ofChange fnExactTraceOfWrong)

/-- 'laws.FnExactBootHost': WHATEVER THE INPUT: true; the input reads as it did. -/
def fnExactBootHostSpec : ChangeSpec := { name := "fnExactBootHost", fn := fun _ => fun
  | [d1, d2, d3] => { results := [.lit (.bool true)], args := [d1, d2, d3] }
  | _ => none }
def fnExactBootHostRow : OpenClaim := { program := "ytimbcpeilkaahaagreat", sum := "8ee6b025ca20b85b9cf47c0215186c5205e4e9a8cfc847193f81a27b34b0c689", func := "loop.example/g00213/laws.FnExactBootHost", spec := "fnExactBootHost", unfollowed := true, recurses := true, apart := false }
def FnExactBootHostSaid : Prop := fnExactBootHostRow.holds Tryz.pinned (OpenSpec.ofChange fnExactBootHostSpec)

/-- ITS FALSE NEIGHBOUR: 'it returns false'. Refute it at one input. -/
def fnExactBootHostWrong : ChangeSpec := { name := "fnExactBootHost", fn := fun _ => fun
  | [d1, d2, d3] => { results := [.lit (.bool false)], args := [d1, d2, d3] }
  | _ => none }
def FnExactBootHostWrongFalsely : Prop := fnExactBootHostRow.holds Tryz.pinned (OpenSpec.ofChange fnExactBootHostWrong)

/-- 'laws.FnExactTwinHost': WHATEVER THE INPUT: true; the input reads as it did. -/
def fnExactTwinHostSpec : ChangeSpec := { name := "fnExactTwinHost", fn := fun _ => fun
  | [d1, d2, d3, d4, d5, d6] => { results := [.lit (.bool true)], args := [d1, d2, d3, d4, d5, d6] }
  | _ => none }
def fnExactTwinHostRow : OpenClaim := { program := "ytimbcpeilkaahaagreat", sum := "8ee6b025ca20b85b9cf47c0215186c5205e4e9a8cfc847193f81a27b34b0c689", func := "loop.example/g00213/laws.FnExactTwinHost", spec := "fnExactTwinHost", unfollowed := true, recurses := true, apart := false }
def FnExactTwinHostSaid : Prop := fnExactTwinHostRow.holds Tryz.pinned (OpenSpec.ofChange fnExactTwinHostSpec)

/-- ITS FALSE NEIGHBOUR: 'it returns false'. Refute it at one input. -/
def fnExactTwinHostWrong : ChangeSpec := { name := "fnExactTwinHost", fn := fun _ => fun
  | [d1, d2, d3, d4, d5, d6] => { results := [.lit (.bool false)], args := [d1, d2, d3, d4, d5, d6] }
  | _ => none }
def FnExactTwinHostWrongFalsely : Prop := fnExactTwinHostRow.holds Tryz.pinned (OpenSpec.ofChange fnExactTwinHostWrong)

/-- 'laws.FnExactSoloView': WHATEVER THE INPUT: true; the input reads as it did. -/
def fnExactSoloViewSpec : ChangeSpec := { name := "fnExactSoloView", fn := fun _ => fun
  | [d1, d2, d3] => { results := [.lit (.bool true)], args := [d1, d2, d3] }
  | _ => none }
def fnExactSoloViewRow : OpenClaim := { program := "ytimbcpeilkaahaagreat", sum := "8ee6b025ca20b85b9cf47c0215186c5205e4e9a8cfc847193f81a27b34b0c689", func := "loop.example/g00213/laws.FnExactSoloView", spec := "fnExactSoloView", unfollowed := true, recurses := true, apart := false }
def FnExactSoloViewSaid : Prop := fnExactSoloViewRow.holds Tryz.pinned (OpenSpec.ofChange fnExactSoloViewSpec)

/-- ITS FALSE NEIGHBOUR: 'it returns false'. Refute it at one input. -/
def fnExactSoloViewWrong : ChangeSpec := { name := "fnExactSoloView", fn := fun _ => fun
  | [d1, d2, d3] => { results := [.lit (.bool false)], args := [d1, d2, d3] }
  | _ => none }
def FnExactSoloViewWrongFalsely : Prop := fnExactSoloViewRow.holds Tryz.pinned (OpenSpec.ofChange fnExactSoloViewWrong)

/-- 'laws.FnExactViewOf': WHATEVER THE INPUT: true; the input reads as it did. -/
def fnExactViewOfSpec : ChangeSpec := { name := "fnExactViewOf", fn := fun _ => fun
  | [d1, d2] => { results := [.lit (.bool true)], args := [d1, d2] }
  | _ => none }
def fnExactViewOfRow : OpenClaim := { program := "ytimbcpeilkaahaagreat", sum := "8ee6b025ca20b85b9cf47c0215186c5205e4e9a8cfc847193f81a27b34b0c689", func := "loop.example/g00213/laws.FnExactViewOf", spec := "fnExactViewOf", unfollowed := true, recurses := true, apart := false }
def FnExactViewOfSaid : Prop := fnExactViewOfRow.holds Tryz.pinned (OpenSpec.ofChange fnExactViewOfSpec)

/-- ITS FALSE NEIGHBOUR: 'it returns false'. Refute it at one input. -/
def fnExactViewOfWrong : ChangeSpec := { name := "fnExactViewOf", fn := fun _ => fun
  | [d1, d2] => { results := [.lit (.bool false)], args := [d1, d2] }
  | _ => none }
def FnExactViewOfWrongFalsely : Prop := fnExactViewOfRow.holds Tryz.pinned (OpenSpec.ofChange fnExactViewOfWrong)

/-- 'laws.FnExactFeedHost': WHATEVER THE INPUT: true; the input reads as it did. -/
def fnExactFeedHostSpec : ChangeSpec := { name := "fnExactFeedHost", fn := fun _ => fun
  | [d1, d2, d3] => { results := [.lit (.bool true)], args := [d1, d2, d3] }
  | _ => none }
def fnExactFeedHostRow : OpenClaim := { program := "ytimbcpeilkaahaagreat", sum := "8ee6b025ca20b85b9cf47c0215186c5205e4e9a8cfc847193f81a27b34b0c689", func := "loop.example/g00213/laws.FnExactFeedHost", spec := "fnExactFeedHost", unfollowed := true, recurses := true, apart := false }
def FnExactFeedHostSaid : Prop := fnExactFeedHostRow.holds Tryz.pinned (OpenSpec.ofChange fnExactFeedHostSpec)

/-- ITS FALSE NEIGHBOUR: 'it returns false'. Refute it at one input. -/
def fnExactFeedHostWrong : ChangeSpec := { name := "fnExactFeedHost", fn := fun _ => fun
  | [d1, d2, d3] => { results := [.lit (.bool false)], args := [d1, d2, d3] }
  | _ => none }
def FnExactFeedHostWrongFalsely : Prop := fnExactFeedHostRow.holds Tryz.pinned (OpenSpec.ofChange fnExactFeedHostWrong)

/- THE SECOND FORM. 'bulk': how many values and letters a reading holds, each counted each time it is reached (what is shared counts as often as it is met; a slice's spare places count too). A statement '..UptoSaid' is the law's where the arguments, and the package variables that the reading takes, are together of bulk at most 1048576: NARROWER than '..Said'. Prove '..Said' where nothing that the law and all that it calls make is longer than what came in: it says more and counts as full. Else prove '..UptoSaid'. A law counts once. -/
mutual
def uptoBulk {H : Type} : DataW H → Nat
  | .lit (.string bytes) => bytes.length + 1
  | .lit _ => 1
  | .nil => 1
  | .ptr d => uptoBulk d + 1
  | .slice elems spare => uptoBulkAll elems + uptoBulkAll spare + 1
  | .agg parts => uptoBulkAll parts + 1
  | .iface _ d => uptoBulk d + 1
  | .map entries => uptoBulkEntries entries + 1
  | .held _ => 1
def uptoBulkAll {H : Type} : List (DataW H) → Nat
  | [] => 0
  | d :: r => uptoBulk d + uptoBulkAll r
def uptoBulkEntries {H : Type} : List (Lit × DataW H) → Nat
  | [] => 0
  | x :: r => uptoBulkEntry x + uptoBulkEntries r
def uptoBulkEntry {H : Type} : Lit × DataW H → Nat
  | (.string bytes, d) => bytes.length + uptoBulk d + 1
  | (_, d) => uptoBulk d + 1
 end
def uptoSmall : (H : Type) → List (DataW H) → Bool := fun _ ds => decide (uptoBulkAll ds ≤ 1048576)
def OpenSpec.upto (s : _root_.Go.ChangeSpec) : _root_.Go.OpenSpec := { _root_.Go.OpenSpec.ofChange s with cond := some uptoSmall }

/-- 'laws.FnExactTraceOf', WHERE WHAT IT READS IS OF BULK AT MOST 1048576: true; the input reads as it did. -/
def fnExactTraceOfUptoRow : OpenClaim := { program := "ytimbcpeilkaahaagreat", sum := "8ee6b025ca20b85b9cf47c0215186c5205e4e9a8cfc847193f81a27b34b0c689", func := "loop.example/g00213/laws.FnExactTraceOf", spec := "fnExactTraceOf", unfollowed := true, recurses := true, apart := false, narrowed := true }
def FnExactTraceOfUptoSaid : Prop := fnExactTraceOfUptoRow.holds Tryz.pinned (OpenSpec.upto fnExactTraceOfSpec)

/-- 'laws.FnExactBootHost', WHERE WHAT IT READS IS OF BULK AT MOST 1048576: true; the input reads as it did. -/
def fnExactBootHostUptoRow : OpenClaim := { program := "ytimbcpeilkaahaagreat", sum := "8ee6b025ca20b85b9cf47c0215186c5205e4e9a8cfc847193f81a27b34b0c689", func := "loop.example/g00213/laws.FnExactBootHost", spec := "fnExactBootHost", unfollowed := true, recurses := true, apart := false, narrowed := true }
def FnExactBootHostUptoSaid : Prop := fnExactBootHostUptoRow.holds Tryz.pinned (OpenSpec.upto fnExactBootHostSpec)

/-- 'laws.FnExactTwinHost', WHERE WHAT IT READS IS OF BULK AT MOST 1048576: true; the input reads as it did. -/
def fnExactTwinHostUptoRow : OpenClaim := { program := "ytimbcpeilkaahaagreat", sum := "8ee6b025ca20b85b9cf47c0215186c5205e4e9a8cfc847193f81a27b34b0c689", func := "loop.example/g00213/laws.FnExactTwinHost", spec := "fnExactTwinHost", unfollowed := true, recurses := true, apart := false, narrowed := true }
def FnExactTwinHostUptoSaid : Prop := fnExactTwinHostUptoRow.holds Tryz.pinned (OpenSpec.upto fnExactTwinHostSpec)

/-- 'laws.FnExactSoloView', WHERE WHAT IT READS IS OF BULK AT MOST 1048576: true; the input reads as it did. -/
def fnExactSoloViewUptoRow : OpenClaim := { program := "ytimbcpeilkaahaagreat", sum := "8ee6b025ca20b85b9cf47c0215186c5205e4e9a8cfc847193f81a27b34b0c689", func := "loop.example/g00213/laws.FnExactSoloView", spec := "fnExactSoloView", unfollowed := true, recurses := true, apart := false, narrowed := true }
def FnExactSoloViewUptoSaid : Prop := fnExactSoloViewUptoRow.holds Tryz.pinned (OpenSpec.upto fnExactSoloViewSpec)

/-- 'laws.FnExactViewOf', WHERE WHAT IT READS IS OF BULK AT MOST 1048576: true; the input reads as it did. -/
def fnExactViewOfUptoRow : OpenClaim := { program := "ytimbcpeilkaahaagreat", sum := "8ee6b025ca20b85b9cf47c0215186c5205e4e9a8cfc847193f81a27b34b0c689", func := "loop.example/g00213/laws.FnExactViewOf", spec := "fnExactViewOf", unfollowed := true, recurses := true, apart := false, narrowed := true }
def FnExactViewOfUptoSaid : Prop := fnExactViewOfUptoRow.holds Tryz.pinned (OpenSpec.upto fnExactViewOfSpec)

/-- 'laws.FnExactFeedHost', WHERE WHAT IT READS IS OF BULK AT MOST 1048576: true; the input reads as it did. -/
def fnExactFeedHostUptoRow : OpenClaim := { program := "ytimbcpeilkaahaagreat", sum := "8ee6b025ca20b85b9cf47c0215186c5205e4e9a8cfc847193f81a27b34b0c689", func := "loop.example/g00213/laws.FnExactFeedHost", spec := "fnExactFeedHost", unfollowed := true, recurses := true, apart := false, narrowed := true }
def FnExactFeedHostUptoSaid : Prop := fnExactFeedHostUptoRow.holds Tryz.pinned (OpenSpec.upto fnExactFeedHostSpec)

end Rows
end Go.Proofs.YtimbcpeilkaahaaGreat
