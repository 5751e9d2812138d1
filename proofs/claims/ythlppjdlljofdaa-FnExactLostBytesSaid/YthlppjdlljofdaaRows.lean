/-
  No cell of these rows narrows 'for every input' (looked for: loops, veiled, ifaces, maps, wideKeys, modest, calm, conditions, laid).
  DERIVED. THE GIVEN ROWS OF THIS SEAT. 12 by the template 'for every input the law returns true; each argument reads behind the call as it read before'; 0 by the template 'total and deterministic' (their statements: YthlppjdlljofdaaTotals.lean).
  GIVEN WITH THE SEED: the statements are not yours to turn. If you find one false, say at which input.
  Laid BY PROGRAM, IN A SANDBOX (cutbox-rows.mjs): the forced cells as the released guide's own fill.sh prints them over the translation aeb7e8c1df157415… (all of the seat's roots in one cut). By AI agents, Wed Nov 11 2026. No macro, syntax, notation, axiom, sorry.
-/
import Derived.Test.YthlppjdlljofdaaChecked
import GoSem.Claim
import GoSem.ClaimJoined
import GoSem.ClaimMapViews
import Derived.JoinedTies
import Derived.KernelRfl
namespace Go.Proofs.Ythlppjdlljofdaa
/- THE CELL 'sum', in the pinned program and in every row, IS THE sha256 OF THE DUMP (.gsa) THAT YthlppjdlljofdaaProg.lean LOADS. Nothing in Lean hashes anything: it is a label: what it is worth is what the hold of that sum in a sandbox is worth. -/
noncomputable def Try.pinned : Pinned := { name := "ythlppjdlljofdaa", sum := "aeb7e8c1df157415c6e2837f3a6d05fec3ed73b2b5470f0ac47becd63538b27f", checked := Try.checked }
namespace Rows
def none {H : Type} : Left H := { results := [], args := [] }

/-- 'laws.FnExactScrubArena': WHATEVER THE INPUT: true; the input reads as it did. -/
def fnExactScrubArenaSpec : ChangeSpec := { name := "fnExactScrubArena", fn := fun _ => fun
  | [d] => { results := [.lit (.bool true)], args := [d] }
  | _ => none }
def fnExactScrubArenaRow : OpenClaim := { program := "ythlppjdlljofdaa", sum := "aeb7e8c1df157415c6e2837f3a6d05fec3ed73b2b5470f0ac47becd63538b27f", func := "loop.example/g01179/laws.FnExactScrubArena", spec := "fnExactScrubArena", unfollowed := true, recurses := true, apart := false }
def FnExactScrubArenaSaid : Prop := fnExactScrubArenaRow.holds Try.pinned (OpenSpec.ofChange fnExactScrubArenaSpec)

/-- ITS FALSE NEIGHBOUR: 'it returns false'. Refute it at one input. -/
def fnExactScrubArenaWrong : ChangeSpec := { name := "fnExactScrubArena", fn := fun _ => fun
  | [d] => { results := [.lit (.bool false)], args := [d] }
  | _ => none }
def FnExactScrubArenaWrongFalsely : Prop := fnExactScrubArenaRow.holds Try.pinned (OpenSpec.ofChange fnExactScrubArenaWrong)

/-- 'laws.FnExactNewConsole': WHATEVER THE INPUT: true; the input reads as it did. -/
def fnExactNewConsoleSpec : ChangeSpec := { name := "fnExactNewConsole", fn := fun _ => fun
  | [d] => { results := [.lit (.bool true)], args := [d] }
  | _ => none }
def fnExactNewConsoleRow : OpenClaim := { program := "ythlppjdlljofdaa", sum := "aeb7e8c1df157415c6e2837f3a6d05fec3ed73b2b5470f0ac47becd63538b27f", func := "loop.example/g01179/laws.FnExactNewConsole", spec := "fnExactNewConsole", unfollowed := true, recurses := true, apart := false }
def FnExactNewConsoleSaid : Prop := fnExactNewConsoleRow.holds Try.pinned (OpenSpec.ofChange fnExactNewConsoleSpec)

/-- ITS FALSE NEIGHBOUR: 'it returns false'. Refute it at one input. -/
def fnExactNewConsoleWrong : ChangeSpec := { name := "fnExactNewConsole", fn := fun _ => fun
  | [d] => { results := [.lit (.bool false)], args := [d] }
  | _ => none }
def FnExactNewConsoleWrongFalsely : Prop := fnExactNewConsoleRow.holds Try.pinned (OpenSpec.ofChange fnExactNewConsoleWrong)

/-- 'laws.FnExactPutBytes': WHATEVER THE INPUT: true; the input reads as it did. -/
def fnExactPutBytesSpec : ChangeSpec := { name := "fnExactPutBytes", fn := fun _ => fun
  | [d1, d2] => { results := [.lit (.bool true)], args := [d1, d2] }
  | _ => none }
def fnExactPutBytesRow : OpenClaim := { program := "ythlppjdlljofdaa", sum := "aeb7e8c1df157415c6e2837f3a6d05fec3ed73b2b5470f0ac47becd63538b27f", func := "loop.example/g01179/laws.FnExactPutBytes", spec := "fnExactPutBytes", unfollowed := true, recurses := true, apart := false }
def FnExactPutBytesSaid : Prop := fnExactPutBytesRow.holds Try.pinned (OpenSpec.ofChange fnExactPutBytesSpec)

/-- ITS FALSE NEIGHBOUR: 'it returns false'. Refute it at one input. -/
def fnExactPutBytesWrong : ChangeSpec := { name := "fnExactPutBytes", fn := fun _ => fun
  | [d1, d2] => { results := [.lit (.bool false)], args := [d1, d2] }
  | _ => none }
def FnExactPutBytesWrongFalsely : Prop := fnExactPutBytesRow.holds Try.pinned (OpenSpec.ofChange fnExactPutBytesWrong)

/-- 'laws.FnRings': WHATEVER THE INPUT: true; the input reads as it did. -/
def fnRingsSpec : ChangeSpec := { name := "fnRings", fn := fun _ => fun
  | [d] => { results := [.lit (.bool true)], args := [d] }
  | _ => none }
def fnRingsRow : OpenClaim := { program := "ythlppjdlljofdaa", sum := "aeb7e8c1df157415c6e2837f3a6d05fec3ed73b2b5470f0ac47becd63538b27f", func := "loop.example/g01179/laws.FnRings", spec := "fnRings", inPlace := ["internal/bytealg.IndexByte"], unfollowed := true, recurses := true, apart := false }
def FnRingsSaid : Prop := fnRingsRow.holds Try.pinned (OpenSpec.ofChange fnRingsSpec)

/-- ITS FALSE NEIGHBOUR: 'it returns false'. Refute it at one input. -/
def fnRingsWrong : ChangeSpec := { name := "fnRings", fn := fun _ => fun
  | [d] => { results := [.lit (.bool false)], args := [d] }
  | _ => none }
def FnRingsWrongFalsely : Prop := fnRingsRow.holds Try.pinned (OpenSpec.ofChange fnRingsWrong)

/-- 'laws.FnExactLostBytes': WHATEVER THE INPUT: true; the input reads as it did. -/
def fnExactLostBytesSpec : ChangeSpec := { name := "fnExactLostBytes", fn := fun _ => fun
  | [d1, d2] => { results := [.lit (.bool true)], args := [d1, d2] }
  | _ => none }
def fnExactLostBytesRow : OpenClaim := { program := "ythlppjdlljofdaa", sum := "aeb7e8c1df157415c6e2837f3a6d05fec3ed73b2b5470f0ac47becd63538b27f", func := "loop.example/g01179/laws.FnExactLostBytes", spec := "fnExactLostBytes", unfollowed := true, recurses := true, apart := false }
def FnExactLostBytesSaid : Prop := fnExactLostBytesRow.holds Try.pinned (OpenSpec.ofChange fnExactLostBytesSpec)

/-- ITS FALSE NEIGHBOUR: 'it returns false'. Refute it at one input. -/
def fnExactLostBytesWrong : ChangeSpec := { name := "fnExactLostBytes", fn := fun _ => fun
  | [d1, d2] => { results := [.lit (.bool false)], args := [d1, d2] }
  | _ => none }
def FnExactLostBytesWrongFalsely : Prop := fnExactLostBytesRow.holds Try.pinned (OpenSpec.ofChange fnExactLostBytesWrong)

/-- 'laws.FnRopesChanged': WHATEVER THE INPUT: true; the input reads as it did. -/
def fnRopesChangedSpec : ChangeSpec := { name := "fnRopesChanged", fn := fun _ => fun
  | [d] => { results := [.lit (.bool true)], args := [d] }
  | _ => none }
def fnRopesChangedRow : OpenClaim := { program := "ythlppjdlljofdaa", sum := "aeb7e8c1df157415c6e2837f3a6d05fec3ed73b2b5470f0ac47becd63538b27f", func := "loop.example/g01179/laws.FnRopesChanged", spec := "fnRopesChanged", unfollowed := true, recurses := true, apart := false }
def FnRopesChangedSaid : Prop := fnRopesChangedRow.holds Try.pinned (OpenSpec.ofChange fnRopesChangedSpec)

/-- ITS FALSE NEIGHBOUR: 'it returns false'. Refute it at one input. -/
def fnRopesChangedWrong : ChangeSpec := { name := "fnRopesChanged", fn := fun _ => fun
  | [d] => { results := [.lit (.bool false)], args := [d] }
  | _ => none }
def FnRopesChangedWrongFalsely : Prop := fnRopesChangedRow.holds Try.pinned (OpenSpec.ofChange fnRopesChangedWrong)

/-- 'laws.FnExactGive': WHATEVER THE INPUT: true; the input reads as it did. -/
def fnExactGiveSpec : ChangeSpec := { name := "fnExactGive", fn := fun _ => fun
  | [d1, d2] => { results := [.lit (.bool true)], args := [d1, d2] }
  | _ => none }
def fnExactGiveRow : OpenClaim := { program := "ythlppjdlljofdaa", sum := "aeb7e8c1df157415c6e2837f3a6d05fec3ed73b2b5470f0ac47becd63538b27f", func := "loop.example/g01179/laws.FnExactGive", spec := "fnExactGive", unfollowed := true, recurses := true, apart := false }
def FnExactGiveSaid : Prop := fnExactGiveRow.holds Try.pinned (OpenSpec.ofChange fnExactGiveSpec)

/-- ITS FALSE NEIGHBOUR: 'it returns false'. Refute it at one input. -/
def fnExactGiveWrong : ChangeSpec := { name := "fnExactGive", fn := fun _ => fun
  | [d1, d2] => { results := [.lit (.bool false)], args := [d1, d2] }
  | _ => none }
def FnExactGiveWrongFalsely : Prop := fnExactGiveRow.holds Try.pinned (OpenSpec.ofChange fnExactGiveWrong)

/-- 'laws.FnNoticing': WHATEVER THE INPUT: true; the input reads as it did. -/
def fnNoticingSpec : ChangeSpec := { name := "fnNoticing", fn := fun _ => fun
  | [d] => { results := [.lit (.bool true)], args := [d] }
  | _ => none }
def fnNoticingRow : OpenClaim := { program := "ythlppjdlljofdaa", sum := "aeb7e8c1df157415c6e2837f3a6d05fec3ed73b2b5470f0ac47becd63538b27f", func := "loop.example/g01179/laws.FnNoticing", spec := "fnNoticing", unfollowed := true, recurses := true, apart := false }
def FnNoticingSaid : Prop := fnNoticingRow.holds Try.pinned (OpenSpec.ofChange fnNoticingSpec)

/-- ITS FALSE NEIGHBOUR: 'it returns false'. Refute it at one input. -/
def fnNoticingWrong : ChangeSpec := { name := "fnNoticing", fn := fun _ => fun
  | [d] => { results := [.lit (.bool false)], args := [d] }
  | _ => none }
def FnNoticingWrongFalsely : Prop := fnNoticingRow.holds Try.pinned (OpenSpec.ofChange fnNoticingWrong)

/-- 'laws.FnExactGiveZero': WHATEVER THE INPUT: true; the input reads as it did. -/
def fnExactGiveZeroSpec : ChangeSpec := { name := "fnExactGiveZero", fn := fun _ => fun
  | [d1, d2] => { results := [.lit (.bool true)], args := [d1, d2] }
  | _ => none }
def fnExactGiveZeroRow : OpenClaim := { program := "ythlppjdlljofdaa", sum := "aeb7e8c1df157415c6e2837f3a6d05fec3ed73b2b5470f0ac47becd63538b27f", func := "loop.example/g01179/laws.FnExactGiveZero", spec := "fnExactGiveZero", unfollowed := true, recurses := true, apart := false }
def FnExactGiveZeroSaid : Prop := fnExactGiveZeroRow.holds Try.pinned (OpenSpec.ofChange fnExactGiveZeroSpec)

/-- ITS FALSE NEIGHBOUR: 'it returns false'. Refute it at one input. -/
def fnExactGiveZeroWrong : ChangeSpec := { name := "fnExactGiveZero", fn := fun _ => fun
  | [d1, d2] => { results := [.lit (.bool false)], args := [d1, d2] }
  | _ => none }
def FnExactGiveZeroWrongFalsely : Prop := fnExactGiveZeroRow.holds Try.pinned (OpenSpec.ofChange fnExactGiveZeroWrong)

/-- 'laws.FnShrinking': WHATEVER THE INPUT: true; the input reads as it did. -/
def fnShrinkingSpec : ChangeSpec := { name := "fnShrinking", fn := fun _ => fun
  | [d] => { results := [.lit (.bool true)], args := [d] }
  | _ => none }
def fnShrinkingRow : OpenClaim := { program := "ythlppjdlljofdaa", sum := "aeb7e8c1df157415c6e2837f3a6d05fec3ed73b2b5470f0ac47becd63538b27f", func := "loop.example/g01179/laws.FnShrinking", spec := "fnShrinking", unfollowed := true, recurses := true, apart := false }
def FnShrinkingSaid : Prop := fnShrinkingRow.holds Try.pinned (OpenSpec.ofChange fnShrinkingSpec)

/-- ITS FALSE NEIGHBOUR: 'it returns false'. Refute it at one input. -/
def fnShrinkingWrong : ChangeSpec := { name := "fnShrinking", fn := fun _ => fun
  | [d] => { results := [.lit (.bool false)], args := [d] }
  | _ => none }
def FnShrinkingWrongFalsely : Prop := fnShrinkingRow.holds Try.pinned (OpenSpec.ofChange fnShrinkingWrong)

/-- 'laws.FnWrites': WHATEVER THE INPUT: true; the input reads as it did. -/
def fnWritesSpec : ChangeSpec := { name := "fnWrites", fn := fun _ => fun
  | [d] => { results := [.lit (.bool true)], args := [d] }
  | _ => none }
def fnWritesRow : OpenClaim := { program := "ythlppjdlljofdaa", sum := "aeb7e8c1df157415c6e2837f3a6d05fec3ed73b2b5470f0ac47becd63538b27f", func := "loop.example/g01179/laws.FnWrites", spec := "fnWrites", inPlace := ["internal/bytealg.MakeNoZero", "internal/bytealg.IndexByte"], unfollowed := true, recurses := true, apart := false }
def FnWritesSaid : Prop := fnWritesRow.holds Try.pinned (OpenSpec.ofChange fnWritesSpec)

/-- ITS FALSE NEIGHBOUR: 'it returns false'. Refute it at one input. -/
def fnWritesWrong : ChangeSpec := { name := "fnWrites", fn := fun _ => fun
  | [d] => { results := [.lit (.bool false)], args := [d] }
  | _ => none }
def FnWritesWrongFalsely : Prop := fnWritesRow.holds Try.pinned (OpenSpec.ofChange fnWritesWrong)

/-- 'laws.FnExactInsertText': WHATEVER THE INPUT: true; the input reads as it did. -/
def fnExactInsertTextSpec : ChangeSpec := { name := "fnExactInsertText", fn := fun _ => fun
  | [d1, d2, d3, d4] => { results := [.lit (.bool true)], args := [d1, d2, d3, d4] }
  | _ => none }
def fnExactInsertTextRow : OpenClaim := { program := "ythlppjdlljofdaa", sum := "aeb7e8c1df157415c6e2837f3a6d05fec3ed73b2b5470f0ac47becd63538b27f", func := "loop.example/g01179/laws.FnExactInsertText", spec := "fnExactInsertText", unfollowed := true, recurses := true, apart := false }
def FnExactInsertTextSaid : Prop := fnExactInsertTextRow.holds Try.pinned (OpenSpec.ofChange fnExactInsertTextSpec)

/-- ITS FALSE NEIGHBOUR: 'it returns false'. Refute it at one input. -/
def fnExactInsertTextWrong : ChangeSpec := { name := "fnExactInsertText", fn := fun _ => fun
  | [d1, d2, d3, d4] => { results := [.lit (.bool false)], args := [d1, d2, d3, d4] }
  | _ => none }
def FnExactInsertTextWrongFalsely : Prop := fnExactInsertTextRow.holds Try.pinned (OpenSpec.ofChange fnExactInsertTextWrong)

/- THE SECOND FORM. 'bulk': how many values and letters a reading holds, each counted each time it is reached (what is shared counts as often as it is met; a slice's spare places count too). A statement '..UptoSaid' is the law's where the arguments, and the package variables that the reading takes, are together of bulk at most 1048576: NARROWER than '..Said'. Prove '..Said' where nothing that the law and all that it calls make is longer than what came in: it says more and counts as full. Else prove '..UptoSaid'. A law counts once. -/
mutual
def uptoBulk {H : Type} : DataW H → Nat
  | .lit (.string bytes) => bytes.length + 1
  | .lit _ => 1
  | .nil => 1
  | .ptr d => uptoBulk d + 1
  | .slice elems spare => uptoBulkAll elems + uptoBulkAll spare + 1
  | .agg parts => uptoBulkAll parts + 1
  | .iface _ d => uptoBulk d + 1
  | .map entries => uptoBulkEntries entries + 1
  | .held _ => 1
def uptoBulkAll {H : Type} : List (DataW H) → Nat
  | [] => 0
  | d :: r => uptoBulk d + uptoBulkAll r
def uptoBulkEntries {H : Type} : List (Lit × DataW H) → Nat
  | [] => 0
  | x :: r => uptoBulkEntry x + uptoBulkEntries r
def uptoBulkEntry {H : Type} : Lit × DataW H → Nat
  | (.string bytes, d) => bytes.length + uptoBulk d + 1
  | (_, d) => uptoBulk d + 1
 end
def uptoSmall : (H : Type) → List (DataW H) → Bool := fun _ ds => decide (uptoBulkAll ds ≤ 1048576)
def OpenSpec.upto (s : _root_.Go.ChangeSpec) : _root_.Go.OpenSpec := { _root_.Go.OpenSpec.ofChange s with cond := some uptoSmall }

/-- 'laws.FnExactScrubArena', WHERE WHAT IT READS IS OF BULK AT MOST 1048576: true; the input reads as it did. -/
def fnExactScrubArenaUptoRow : OpenClaim := { program := "ythlppjdlljofdaa", sum := "aeb7e8c1df157415c6e2837f3a6d05fec3ed73b2b5470f0ac47becd63538b27f", func := "loop.example/g01179/laws.FnExactScrubArena", spec := "fnExactScrubArena", unfollowed := true, recurses := true, apart := false, narrowed := true }
def FnExactScrubArenaUptoSaid : Prop := fnExactScrubArenaUptoRow.holds Try.pinned (OpenSpec.upto fnExactScrubArenaSpec)

/-- 'laws.FnExactNewConsole', WHERE WHAT IT READS IS OF BULK AT MOST 1048576: true; the input reads as it did. -/
def fnExactNewConsoleUptoRow : OpenClaim := { program := "ythlppjdlljofdaa", sum := "aeb7e8c1df157415c6e2837f3a6d05fec3ed73b2b5470f0ac47becd63538b27f", func := "loop.example/g01179/laws.FnExactNewConsole", spec := "fnExactNewConsole", unfollowed := true, recurses := true, apart := false, narrowed := true }
def FnExactNewConsoleUptoSaid : Prop := fnExactNewConsoleUptoRow.holds Try.pinned (OpenSpec.upto fnExactNewConsoleSpec)

/-- 'laws.FnExactPutBytes', WHERE WHAT IT READS IS OF BULK AT MOST 1048576: true; the input reads as it did. -/
def fnExactPutBytesUptoRow : OpenClaim := { program := "ythlppjdlljofdaa", sum := "aeb7e8c1df157415c6e2837f3a6d05fec3ed73b2b5470f0ac47becd63538b27f", func := "loop.example/g01179/laws.FnExactPutBytes", spec := "fnExactPutBytes", unfollowed := true, recurses := true, apart := false, narrowed := true }
def FnExactPutBytesUptoSaid : Prop := fnExactPutBytesUptoRow.holds Try.pinned (OpenSpec.upto fnExactPutBytesSpec)

/-- 'laws.FnRings', WHERE WHAT IT READS IS OF BULK AT MOST 1048576: true; the input reads as it did. -/
def fnRingsUptoRow : OpenClaim := { program := "ythlppjdlljofdaa", sum := "aeb7e8c1df157415c6e2837f3a6d05fec3ed73b2b5470f0ac47becd63538b27f", func := "loop.example/g01179/laws.FnRings", spec := "fnRings", inPlace := ["internal/bytealg.IndexByte"], unfollowed := true, recurses := true, apart := false, narrowed := true }
def FnRingsUptoSaid : Prop := fnRingsUptoRow.holds Try.pinned (OpenSpec.upto fnRingsSpec)

/-- 'laws.FnExactLostBytes', WHERE WHAT IT READS IS OF BULK AT MOST 1048576: true; the input reads as it did. -/
def fnExactLostBytesUptoRow : OpenClaim := { program := "ythlppjdlljofdaa", sum := "aeb7e8c1df157415c6e2837f3a6d05fec3ed73b2b5470f0ac47becd63538b27f", func := "loop.example/g01179/laws.FnExactLostBytes", spec := "fnExactLostBytes", unfollowed := true, recurses := true, apart := false, narrowed := true }
def FnExactLostBytesUptoSaid : Prop := fnExactLostBytesUptoRow.holds Try.pinned (OpenSpec.upto fnExactLostBytesSpec)

/-- 'laws.FnRopesChanged', WHERE WHAT IT READS IS OF BULK AT MOST 1048576: true; the input reads as it did. -/
def fnRopesChangedUptoRow : OpenClaim := { program := "ythlppjdlljofdaa", sum := "aeb7e8c1df157415c6e2837f3a6d05fec3ed73b2b5470f0ac47becd63538b27f", func := "loop.example/g01179/laws.FnRopesChanged", spec := "fnRopesChanged", unfollowed := true, recurses := true, apart := false, narrowed := true }
def FnRopesChangedUptoSaid : Prop := fnRopesChangedUptoRow.holds Try.pinned (OpenSpec.upto fnRopesChangedSpec)

/-- 'laws.FnExactGive', WHERE WHAT IT READS IS OF BULK AT MOST 1048576: true; the input reads as it did. -/
def fnExactGiveUptoRow : OpenClaim := { program := "ythlppjdlljofdaa", sum := "aeb7e8c1df157415c6e2837f3a6d05fec3ed73b2b5470f0ac47becd63538b27f", func := "loop.example/g01179/laws.FnExactGive", spec := "fnExactGive", unfollowed := true, recurses := true, apart := false, narrowed := true }
def FnExactGiveUptoSaid : Prop := fnExactGiveUptoRow.holds Try.pinned (OpenSpec.upto fnExactGiveSpec)

/-- 'laws.FnNoticing', WHERE WHAT IT READS IS OF BULK AT MOST 1048576: true; the input reads as it did. -/
def fnNoticingUptoRow : OpenClaim := { program := "ythlppjdlljofdaa", sum := "aeb7e8c1df157415c6e2837f3a6d05fec3ed73b2b5470f0ac47becd63538b27f", func := "loop.example/g01179/laws.FnNoticing", spec := "fnNoticing", unfollowed := true, recurses := true, apart := false, narrowed := true }
def FnNoticingUptoSaid : Prop := fnNoticingUptoRow.holds Try.pinned (OpenSpec.upto fnNoticingSpec)

/-- 'laws.FnExactGiveZero', WHERE WHAT IT READS IS OF BULK AT MOST 1048576: true; the input reads as it did. -/
def fnExactGiveZeroUptoRow : OpenClaim := { program := "ythlppjdlljofdaa", sum := "aeb7e8c1df157415c6e2837f3a6d05fec3ed73b2b5470f0ac47becd63538b27f", func := "loop.example/g01179/laws.FnExactGiveZero", spec := "fnExactGiveZero", unfollowed := true, recurses := true, apart := false, narrowed := true }
def FnExactGiveZeroUptoSaid : Prop := fnExactGiveZeroUptoRow.holds Try.pinned (OpenSpec.upto fnExactGiveZeroSpec)

/-- 'laws.FnShrinking', WHERE WHAT IT READS IS OF BULK AT MOST 1048576: true; the input reads as it did. -/
def fnShrinkingUptoRow : OpenClaim := { program := "ythlppjdlljofdaa", sum := "aeb7e8c1df157415c6e2837f3a6d05fec3ed73b2b5470f0ac47becd63538b27f", func := "loop.example/g01179/laws.FnShrinking", spec := "fnShrinking", unfollowed := true, recurses := true, apart := false, narrowed := true }
def FnShrinkingUptoSaid : Prop := fnShrinkingUptoRow.holds Try.pinned (OpenSpec.upto fnShrinkingSpec)

/-- 'laws.FnWrites', WHERE WHAT IT READS IS OF BULK AT MOST 1048576: true; the input reads as it did. -/
def fnWritesUptoRow : OpenClaim := { program := "ythlppjdlljofdaa", sum := "aeb7e8c1df157415c6e2837f3a6d05fec3ed73b2b5470f0ac47becd63538b27f", func := "loop.example/g01179/laws.FnWrites", spec := "fnWrites", inPlace := ["internal/bytealg.MakeNoZero", "internal/bytealg.IndexByte"], unfollowed := true, recurses := true, apart := false, narrowed := true }
def FnWritesUptoSaid : Prop := fnWritesUptoRow.holds Try.pinned (OpenSpec.upto fnWritesSpec)

/-- 'laws.FnExactInsertText', WHERE WHAT IT READS IS OF BULK AT MOST 1048576: true; the input reads as it did. -/
def fnExactInsertTextUptoRow : OpenClaim := { program := "ythlppjdlljofdaa", sum := "aeb7e8c1df157415c6e2837f3a6d05fec3ed73b2b5470f0ac47becd63538b27f", func := "loop.example/g01179/laws.FnExactInsertText", spec := "fnExactInsertText", unfollowed := true, recurses := true, apart := false, narrowed := true }
def FnExactInsertTextUptoSaid : Prop := fnExactInsertTextUptoRow.holds Try.pinned (OpenSpec.upto fnExactInsertTextSpec)

end Rows
end Go.Proofs.Ythlppjdlljofdaa
