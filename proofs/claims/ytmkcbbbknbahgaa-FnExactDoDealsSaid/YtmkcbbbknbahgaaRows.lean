/-
  No cell of these rows narrows 'for every input' (looked for: loops, veiled, ifaces, maps, wideKeys, modest, calm, conditions, laid).
  DERIVED. THE GIVEN ROWS OF THIS SEAT. 10 by the template 'for every input the law returns true; each argument reads behind the call as it read before'; 0 by the template 'total and deterministic' (their statements: YtmkcbbbknbahgaaTotals.lean).
  GIVEN WITH THE SEED: the statements are not yours to turn. If you find one false, say at which input.
  Laid BY PROGRAM, IN A SANDBOX (cutbox-rows.mjs): the forced cells as the released guide's own fill.sh prints them over the translation 83fcf74adc321479… (all of the seat's roots in one cut). By AI agents, Wed Nov 11 2026. No macro, syntax, notation, axiom, sorry.
-/
import Derived.Test.YtmkcbbbknbahgaaChecked
import GoSem.Claim
import GoSem.ClaimJoined
import GoSem.ClaimMapViews
import Derived.JoinedTies
import Derived.KernelRfl
namespace Go.Proofs.Ytmkcbbbknbahgaa
/- THE CELL 'sum', in the pinned program and in every row, IS THE sha256 OF THE DUMP (.gsa) THAT YtmkcbbbknbahgaaProg.lean LOADS. Nothing in Lean hashes anything: it is a label: what it is worth is what the hold of that sum in a sandbox is worth. -/
noncomputable def Try.pinned : Pinned := { name := "ytmkcbbbknbahgaa", sum := "83fcf74adc32147929c5e9d5ad392f958d1e3a2e358585a1f744402085cdb92d", checked := Try.checked }
namespace Rows
def none {H : Type} : Left H := { results := [], args := [] }

/-- 'laws.FnExactPutBytes': WHATEVER THE INPUT: true; the input reads as it did. -/
def fnExactPutBytesSpec : ChangeSpec := { name := "fnExactPutBytes", fn := fun _ => fun
  | [d1, d2] => { results := [.lit (.bool true)], args := [d1, d2] }
  | _ => none }
def fnExactPutBytesRow : OpenClaim := { program := "ytmkcbbbknbahgaa", sum := "83fcf74adc32147929c5e9d5ad392f958d1e3a2e358585a1f744402085cdb92d", func := "loop.example/g01179/laws.FnExactPutBytes", spec := "fnExactPutBytes", unfollowed := true, recurses := true, apart := false }
def FnExactPutBytesSaid : Prop := fnExactPutBytesRow.holds Try.pinned (OpenSpec.ofChange fnExactPutBytesSpec)

/-- ITS FALSE NEIGHBOUR: 'it returns false'. Refute it at one input. -/
def fnExactPutBytesWrong : ChangeSpec := { name := "fnExactPutBytes", fn := fun _ => fun
  | [d1, d2] => { results := [.lit (.bool false)], args := [d1, d2] }
  | _ => none }
def FnExactPutBytesWrongFalsely : Prop := fnExactPutBytesRow.holds Try.pinned (OpenSpec.ofChange fnExactPutBytesWrong)

/-- 'laws.FnExactDoEdit': WHATEVER THE INPUT: true; the input reads as it did. -/
def fnExactDoEditSpec : ChangeSpec := { name := "fnExactDoEdit", fn := fun _ => fun
  | [d1, d2] => { results := [.lit (.bool true)], args := [d1, d2] }
  | _ => none }
def fnExactDoEditRow : OpenClaim := { program := "ytmkcbbbknbahgaa", sum := "83fcf74adc32147929c5e9d5ad392f958d1e3a2e358585a1f744402085cdb92d", func := "loop.example/g01179/laws.FnExactDoEdit", spec := "fnExactDoEdit", unfollowed := true, recurses := true, apart := false }
def FnExactDoEditSaid : Prop := fnExactDoEditRow.holds Try.pinned (OpenSpec.ofChange fnExactDoEditSpec)

/-- ITS FALSE NEIGHBOUR: 'it returns false'. Refute it at one input. -/
def fnExactDoEditWrong : ChangeSpec := { name := "fnExactDoEdit", fn := fun _ => fun
  | [d1, d2] => { results := [.lit (.bool false)], args := [d1, d2] }
  | _ => none }
def FnExactDoEditWrongFalsely : Prop := fnExactDoEditRow.holds Try.pinned (OpenSpec.ofChange fnExactDoEditWrong)

/-- 'laws.FnExactDoEdits': WHATEVER THE INPUT: true; the input reads as it did. -/
def fnExactDoEditsSpec : ChangeSpec := { name := "fnExactDoEdits", fn := fun _ => fun
  | [d1, d2] => { results := [.lit (.bool true)], args := [d1, d2] }
  | _ => none }
def fnExactDoEditsRow : OpenClaim := { program := "ytmkcbbbknbahgaa", sum := "83fcf74adc32147929c5e9d5ad392f958d1e3a2e358585a1f744402085cdb92d", func := "loop.example/g01179/laws.FnExactDoEdits", spec := "fnExactDoEdits", unfollowed := true, recurses := true, apart := false }
def FnExactDoEditsSaid : Prop := fnExactDoEditsRow.holds Try.pinned (OpenSpec.ofChange fnExactDoEditsSpec)

/-- ITS FALSE NEIGHBOUR: 'it returns false'. Refute it at one input. -/
def fnExactDoEditsWrong : ChangeSpec := { name := "fnExactDoEdits", fn := fun _ => fun
  | [d1, d2] => { results := [.lit (.bool false)], args := [d1, d2] }
  | _ => none }
def FnExactDoEditsWrongFalsely : Prop := fnExactDoEditsRow.holds Try.pinned (OpenSpec.ofChange fnExactDoEditsWrong)

/-- 'laws.FnExactGive': WHATEVER THE INPUT: true; the input reads as it did. -/
def fnExactGiveSpec : ChangeSpec := { name := "fnExactGive", fn := fun _ => fun
  | [d1, d2] => { results := [.lit (.bool true)], args := [d1, d2] }
  | _ => none }
def fnExactGiveRow : OpenClaim := { program := "ytmkcbbbknbahgaa", sum := "83fcf74adc32147929c5e9d5ad392f958d1e3a2e358585a1f744402085cdb92d", func := "loop.example/g01179/laws.FnExactGive", spec := "fnExactGive", unfollowed := true, recurses := true, apart := false }
def FnExactGiveSaid : Prop := fnExactGiveRow.holds Try.pinned (OpenSpec.ofChange fnExactGiveSpec)

/-- ITS FALSE NEIGHBOUR: 'it returns false'. Refute it at one input. -/
def fnExactGiveWrong : ChangeSpec := { name := "fnExactGive", fn := fun _ => fun
  | [d1, d2] => { results := [.lit (.bool false)], args := [d1, d2] }
  | _ => none }
def FnExactGiveWrongFalsely : Prop := fnExactGiveRow.holds Try.pinned (OpenSpec.ofChange fnExactGiveWrong)

/-- 'laws.FnExactGiveZero': WHATEVER THE INPUT: true; the input reads as it did. -/
def fnExactGiveZeroSpec : ChangeSpec := { name := "fnExactGiveZero", fn := fun _ => fun
  | [d1, d2] => { results := [.lit (.bool true)], args := [d1, d2] }
  | _ => none }
def fnExactGiveZeroRow : OpenClaim := { program := "ytmkcbbbknbahgaa", sum := "83fcf74adc32147929c5e9d5ad392f958d1e3a2e358585a1f744402085cdb92d", func := "loop.example/g01179/laws.FnExactGiveZero", spec := "fnExactGiveZero", unfollowed := true, recurses := true, apart := false }
def FnExactGiveZeroSaid : Prop := fnExactGiveZeroRow.holds Try.pinned (OpenSpec.ofChange fnExactGiveZeroSpec)

/-- ITS FALSE NEIGHBOUR: 'it returns false'. Refute it at one input. -/
def fnExactGiveZeroWrong : ChangeSpec := { name := "fnExactGiveZero", fn := fun _ => fun
  | [d1, d2] => { results := [.lit (.bool false)], args := [d1, d2] }
  | _ => none }
def FnExactGiveZeroWrongFalsely : Prop := fnExactGiveZeroRow.holds Try.pinned (OpenSpec.ofChange fnExactGiveZeroWrong)

/-- 'laws.FnExactGiveAll': WHATEVER THE INPUT: true; the input reads as it did. -/
def fnExactGiveAllSpec : ChangeSpec := { name := "fnExactGiveAll", fn := fun _ => fun
  | [d1, d2] => { results := [.lit (.bool true)], args := [d1, d2] }
  | _ => none }
def fnExactGiveAllRow : OpenClaim := { program := "ytmkcbbbknbahgaa", sum := "83fcf74adc32147929c5e9d5ad392f958d1e3a2e358585a1f744402085cdb92d", func := "loop.example/g01179/laws.FnExactGiveAll", spec := "fnExactGiveAll", unfollowed := true, recurses := true, apart := false }
def FnExactGiveAllSaid : Prop := fnExactGiveAllRow.holds Try.pinned (OpenSpec.ofChange fnExactGiveAllSpec)

/-- ITS FALSE NEIGHBOUR: 'it returns false'. Refute it at one input. -/
def fnExactGiveAllWrong : ChangeSpec := { name := "fnExactGiveAll", fn := fun _ => fun
  | [d1, d2] => { results := [.lit (.bool false)], args := [d1, d2] }
  | _ => none }
def FnExactGiveAllWrongFalsely : Prop := fnExactGiveAllRow.holds Try.pinned (OpenSpec.ofChange fnExactGiveAllWrong)

/-- 'laws.FnExactInsertText': WHATEVER THE INPUT: true; the input reads as it did. -/
def fnExactInsertTextSpec : ChangeSpec := { name := "fnExactInsertText", fn := fun _ => fun
  | [d1, d2, d3, d4] => { results := [.lit (.bool true)], args := [d1, d2, d3, d4] }
  | _ => none }
def fnExactInsertTextRow : OpenClaim := { program := "ytmkcbbbknbahgaa", sum := "83fcf74adc32147929c5e9d5ad392f958d1e3a2e358585a1f744402085cdb92d", func := "loop.example/g01179/laws.FnExactInsertText", spec := "fnExactInsertText", unfollowed := true, recurses := true, apart := false }
def FnExactInsertTextSaid : Prop := fnExactInsertTextRow.holds Try.pinned (OpenSpec.ofChange fnExactInsertTextSpec)

/-- ITS FALSE NEIGHBOUR: 'it returns false'. Refute it at one input. -/
def fnExactInsertTextWrong : ChangeSpec := { name := "fnExactInsertText", fn := fun _ => fun
  | [d1, d2, d3, d4] => { results := [.lit (.bool false)], args := [d1, d2, d3, d4] }
  | _ => none }
def FnExactInsertTextWrongFalsely : Prop := fnExactInsertTextRow.holds Try.pinned (OpenSpec.ofChange fnExactInsertTextWrong)

/-- 'laws.FnExactWriteRope': WHATEVER THE INPUT: true; the input reads as it did. -/
def fnExactWriteRopeSpec : ChangeSpec := { name := "fnExactWriteRope", fn := fun _ => fun
  | [d1, d2, d3, d4] => { results := [.lit (.bool true)], args := [d1, d2, d3, d4] }
  | _ => none }
def fnExactWriteRopeRow : OpenClaim := { program := "ytmkcbbbknbahgaa", sum := "83fcf74adc32147929c5e9d5ad392f958d1e3a2e358585a1f744402085cdb92d", func := "loop.example/g01179/laws.FnExactWriteRope", spec := "fnExactWriteRope", unfollowed := true, recurses := true, apart := false }
def FnExactWriteRopeSaid : Prop := fnExactWriteRopeRow.holds Try.pinned (OpenSpec.ofChange fnExactWriteRopeSpec)

/-- ITS FALSE NEIGHBOUR: 'it returns false'. Refute it at one input. -/
def fnExactWriteRopeWrong : ChangeSpec := { name := "fnExactWriteRope", fn := fun _ => fun
  | [d1, d2, d3, d4] => { results := [.lit (.bool false)], args := [d1, d2, d3, d4] }
  | _ => none }
def FnExactWriteRopeWrongFalsely : Prop := fnExactWriteRopeRow.holds Try.pinned (OpenSpec.ofChange fnExactWriteRopeWrong)

/-- 'laws.FnExactDoDeal': WHATEVER THE INPUT: true; the input reads as it did. -/
def fnExactDoDealSpec : ChangeSpec := { name := "fnExactDoDeal", fn := fun _ => fun
  | [d1, d2] => { results := [.lit (.bool true)], args := [d1, d2] }
  | _ => none }
def fnExactDoDealRow : OpenClaim := { program := "ytmkcbbbknbahgaa", sum := "83fcf74adc32147929c5e9d5ad392f958d1e3a2e358585a1f744402085cdb92d", func := "loop.example/g01179/laws.FnExactDoDeal", spec := "fnExactDoDeal", unfollowed := true, recurses := true, apart := false }
def FnExactDoDealSaid : Prop := fnExactDoDealRow.holds Try.pinned (OpenSpec.ofChange fnExactDoDealSpec)

/-- ITS FALSE NEIGHBOUR: 'it returns false'. Refute it at one input. -/
def fnExactDoDealWrong : ChangeSpec := { name := "fnExactDoDeal", fn := fun _ => fun
  | [d1, d2] => { results := [.lit (.bool false)], args := [d1, d2] }
  | _ => none }
def FnExactDoDealWrongFalsely : Prop := fnExactDoDealRow.holds Try.pinned (OpenSpec.ofChange fnExactDoDealWrong)

/-- 'laws.FnExactDoDeals': WHATEVER THE INPUT: true; the input reads as it did. -/
def fnExactDoDealsSpec : ChangeSpec := { name := "fnExactDoDeals", fn := fun _ => fun
  | [d1, d2] => { results := [.lit (.bool true)], args := [d1, d2] }
  | _ => none }
def fnExactDoDealsRow : OpenClaim := { program := "ytmkcbbbknbahgaa", sum := "83fcf74adc32147929c5e9d5ad392f958d1e3a2e358585a1f744402085cdb92d", func := "loop.example/g01179/laws.FnExactDoDeals", spec := "fnExactDoDeals", unfollowed := true, recurses := true, apart := false }
def FnExactDoDealsSaid : Prop := fnExactDoDealsRow.holds Try.pinned (OpenSpec.ofChange fnExactDoDealsSpec)

/-- ITS FALSE NEIGHBOUR: 'it returns false'. Refute it at one input. -/
def fnExactDoDealsWrong : ChangeSpec := { name := "fnExactDoDeals", fn := fun _ => fun
  | [d1, d2] => { results := [.lit (.bool false)], args := [d1, d2] }
  | _ => none }
def FnExactDoDealsWrongFalsely : Prop := fnExactDoDealsRow.holds Try.pinned (OpenSpec.ofChange fnExactDoDealsWrong)

/- THE SECOND FORM. 'bulk': how many values and letters a reading holds, each counted each time it is reached (what is shared counts as often as it is met; a slice's spare places count too). A statement '..UptoSaid' is the law's where the arguments, and the package variables that the reading takes, are together of bulk at most 1048576: NARROWER than '..Said'. Prove '..Said' where nothing that the law and all that it calls make is longer than what came in: it says more and counts as full. Else prove '..UptoSaid'. A law counts once. -/
mutual
def uptoBulk {H : Type} : DataW H → Nat
  | .lit (.string bytes) => bytes.length + 1
  | .lit _ => 1
  | .nil => 1
  | .ptr d => uptoBulk d + 1
  | .slice elems spare => uptoBulkAll elems + uptoBulkAll spare + 1
  | .agg parts => uptoBulkAll parts + 1
  | .iface _ d => uptoBulk d + 1
  | .map entries => uptoBulkEntries entries + 1
  | .held _ => 1
def uptoBulkAll {H : Type} : List (DataW H) → Nat
  | [] => 0
  | d :: r => uptoBulk d + uptoBulkAll r
def uptoBulkEntries {H : Type} : List (Lit × DataW H) → Nat
  | [] => 0
  | x :: r => uptoBulkEntry x + uptoBulkEntries r
def uptoBulkEntry {H : Type} : Lit × DataW H → Nat
  | (.string bytes, d) => bytes.length + uptoBulk d + 1
  | (_, d) => uptoBulk d + 1
 end
def uptoSmall : (H : Type) → List (DataW H) → Bool := fun _ ds => decide (uptoBulkAll ds ≤ 1048576)
def OpenSpec.upto (s : _root_.Go.ChangeSpec) : _root_.Go.OpenSpec := { _root_.Go.OpenSpec.ofChange s with cond := some uptoSmall }

/-- 'laws.FnExactPutBytes', WHERE WHAT IT READS IS OF BULK AT MOST 1048576: true; the input reads as it did. -/
def fnExactPutBytesUptoRow : OpenClaim := { program := "ytmkcbbbknbahgaa", sum := "83fcf74adc32147929c5e9d5ad392f958d1e3a2e358585a1f744402085cdb92d", func := "loop.example/g01179/laws.FnExactPutBytes", spec := "fnExactPutBytes", unfollowed := true, recurses := true, apart := false, narrowed := true }
def FnExactPutBytesUptoSaid : Prop := fnExactPutBytesUptoRow.holds Try.pinned (OpenSpec.upto fnExactPutBytesSpec)

/-- 'laws.FnExactDoEdit', WHERE WHAT IT READS IS OF BULK AT MOST 1048576: true; the input reads as it did. -/
def fnExactDoEditUptoRow : OpenClaim := { program := "ytmkcbbbknbahgaa", sum := "83fcf74adc32147929c5e9d5ad392f958d1e3a2e358585a1f744402085cdb92d", func := "loop.example/g01179/laws.FnExactDoEdit", spec := "fnExactDoEdit", unfollowed := true, recurses := true, apart := false, narrowed := true }
def FnExactDoEditUptoSaid : Prop := fnExactDoEditUptoRow.holds Try.pinned (OpenSpec.upto fnExactDoEditSpec)

/-- 'laws.FnExactDoEdits', WHERE WHAT IT READS IS OF BULK AT MOST 1048576: true; the input reads as it did. -/
def fnExactDoEditsUptoRow : OpenClaim := { program := "ytmkcbbbknbahgaa", sum := "83fcf74adc32147929c5e9d5ad392f958d1e3a2e358585a1f744402085cdb92d", func := "loop.example/g01179/laws.FnExactDoEdits", spec := "fnExactDoEdits", unfollowed := true, recurses := true, apart := false, narrowed := true }
def FnExactDoEditsUptoSaid : Prop := fnExactDoEditsUptoRow.holds Try.pinned (OpenSpec.upto fnExactDoEditsSpec)

/-- 'laws.FnExactGive', WHERE WHAT IT READS IS OF BULK AT MOST 1048576: true; the input reads as it did. -/
def fnExactGiveUptoRow : OpenClaim := { program := "ytmkcbbbknbahgaa", sum := "83fcf74adc32147929c5e9d5ad392f958d1e3a2e358585a1f744402085cdb92d", func := "loop.example/g01179/laws.FnExactGive", spec := "fnExactGive", unfollowed := true, recurses := true, apart := false, narrowed := true }
def FnExactGiveUptoSaid : Prop := fnExactGiveUptoRow.holds Try.pinned (OpenSpec.upto fnExactGiveSpec)

/-- 'laws.FnExactGiveZero', WHERE WHAT IT READS IS OF BULK AT MOST 1048576: true; the input reads as it did. -/
def fnExactGiveZeroUptoRow : OpenClaim := { program := "ytmkcbbbknbahgaa", sum := "83fcf74adc32147929c5e9d5ad392f958d1e3a2e358585a1f744402085cdb92d", func := "loop.example/g01179/laws.FnExactGiveZero", spec := "fnExactGiveZero", unfollowed := true, recurses := true, apart := false, narrowed := true }
def FnExactGiveZeroUptoSaid : Prop := fnExactGiveZeroUptoRow.holds Try.pinned (OpenSpec.upto fnExactGiveZeroSpec)

/-- 'laws.FnExactGiveAll', WHERE WHAT IT READS IS OF BULK AT MOST 1048576: true; the input reads as it did. -/
def fnExactGiveAllUptoRow : OpenClaim := { program := "ytmkcbbbknbahgaa", sum := "83fcf74adc32147929c5e9d5ad392f958d1e3a2e358585a1f744402085cdb92d", func := "loop.example/g01179/laws.FnExactGiveAll", spec := "fnExactGiveAll", unfollowed := true, recurses := true, apart := false, narrowed := true }
def FnExactGiveAllUptoSaid : Prop := fnExactGiveAllUptoRow.holds Try.pinned (OpenSpec.upto fnExactGiveAllSpec)

/-- 'laws.FnExactInsertText', WHERE WHAT IT READS IS OF BULK AT MOST 1048576: true; the input reads as it did. -/
def fnExactInsertTextUptoRow : OpenClaim := { program := "ytmkcbbbknbahgaa", sum := "83fcf74adc32147929c5e9d5ad392f958d1e3a2e358585a1f744402085cdb92d", func := "loop.example/g01179/laws.FnExactInsertText", spec := "fnExactInsertText", unfollowed := true, recurses := true, apart := false, narrowed := true }
def FnExactInsertTextUptoSaid : Prop := fnExactInsertTextUptoRow.holds Try.pinned (OpenSpec.upto fnExactInsertTextSpec)

/-- 'laws.FnExactWriteRope', WHERE WHAT IT READS IS OF BULK AT MOST 1048576: true; the input reads as it did. -/
def fnExactWriteRopeUptoRow : OpenClaim := { program := "ytmkcbbbknbahgaa", sum := "83fcf74adc32147929c5e9d5ad392f958d1e3a2e358585a1f744402085cdb92d", func := "loop.example/g01179/laws.FnExactWriteRope", spec := "fnExactWriteRope", unfollowed := true, recurses := true, apart := false, narrowed := true }
def FnExactWriteRopeUptoSaid : Prop := fnExactWriteRopeUptoRow.holds Try.pinned (OpenSpec.upto fnExactWriteRopeSpec)

/-- 'laws.FnExactDoDeal', WHERE WHAT IT READS IS OF BULK AT MOST 1048576: true; the input reads as it did. -/
def fnExactDoDealUptoRow : OpenClaim := { program := "ytmkcbbbknbahgaa", sum := "83fcf74adc32147929c5e9d5ad392f958d1e3a2e358585a1f744402085cdb92d", func := "loop.example/g01179/laws.FnExactDoDeal", spec := "fnExactDoDeal", unfollowed := true, recurses := true, apart := false, narrowed := true }
def FnExactDoDealUptoSaid : Prop := fnExactDoDealUptoRow.holds Try.pinned (OpenSpec.upto fnExactDoDealSpec)

/-- 'laws.FnExactDoDeals', WHERE WHAT IT READS IS OF BULK AT MOST 1048576: true; the input reads as it did. -/
def fnExactDoDealsUptoRow : OpenClaim := { program := "ytmkcbbbknbahgaa", sum := "83fcf74adc32147929c5e9d5ad392f958d1e3a2e358585a1f744402085cdb92d", func := "loop.example/g01179/laws.FnExactDoDeals", spec := "fnExactDoDeals", unfollowed := true, recurses := true, apart := false, narrowed := true }
def FnExactDoDealsUptoSaid : Prop := fnExactDoDealsUptoRow.holds Try.pinned (OpenSpec.upto fnExactDoDealsSpec)

end Rows
end Go.Proofs.Ytmkcbbbknbahgaa
