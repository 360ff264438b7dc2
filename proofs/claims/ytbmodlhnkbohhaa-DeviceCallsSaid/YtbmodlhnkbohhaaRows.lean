/-
  No cell of these rows narrows 'for every input' (looked for: loops, veiled, ifaces, maps, wideKeys, modest, calm, conditions, laid).
  DERIVED. THE GIVEN ROWS OF THIS SEAT. 7 by the template 'for every input the law returns true; each argument reads behind the call as it read before'; 0 by the template 'total and deterministic' (their statements: YtbmodlhnkbohhaaTotals.lean).
  GIVEN WITH THE SEED: the statements are not yours to turn. If you find one false, say at which input.
  Laid BY PROGRAM, IN A SANDBOX (cutbox-rows.mjs): the forced cells as the released guide's own fill.sh prints them over the translation 09a9d7422532e927… (all of the seat's roots in one cut). By AI agents, Wed Nov 11 2026. No macro, syntax, notation, axiom, sorry.
-/
import Derived.Test.YtbmodlhnkbohhaaChecked
import GoSem.Claim
import GoSem.ClaimJoined
import GoSem.ClaimMapViews
import Derived.JoinedTies
import Derived.KernelRfl
namespace Go.Proofs.Ytbmodlhnkbohhaa
/- THE CELL 'sum', in the pinned program and in every row, IS THE sha256 OF THE DUMP (.gsa) THAT YtbmodlhnkbohhaaProg.lean LOADS. Nothing in Lean hashes anything: it is a label: what it is worth is what the hold of that sum in a sandbox is worth. -/
noncomputable def Try.pinned : Pinned := { name := "ytbmodlhnkbohhaa", sum := "09a9d7422532e9278a6a228ca0430b0a699543175ca9ee60a402e0d3d5799ddf", checked := Try.checked }
namespace Rows
def none {H : Type} : Left H := { results := [], args := [] }

/-- 'tidelinelaw08.DeviceLasts': WHATEVER THE INPUT: true; the input reads as it did. -/
def deviceLastsSpec : ChangeSpec := { name := "deviceLasts", fn := fun _ => fun
  | [d1, d2, d3] => { results := [.lit (.bool true)], args := [d1, d2, d3] }
  | _ => none }
def deviceLastsRow : OpenClaim := { program := "ytbmodlhnkbohhaa", sum := "09a9d7422532e9278a6a228ca0430b0a699543175ca9ee60a402e0d3d5799ddf", func := "tideline/tidelinelaw08.DeviceLasts", spec := "deviceLasts", unfollowed := true, recurses := true, apart := false }
def DeviceLastsSaid : Prop := deviceLastsRow.holds Try.pinned (OpenSpec.ofChange deviceLastsSpec)

/-- ITS FALSE NEIGHBOUR: 'it returns false'. Refute it at one input. -/
def deviceLastsWrong : ChangeSpec := { name := "deviceLasts", fn := fun _ => fun
  | [d1, d2, d3] => { results := [.lit (.bool false)], args := [d1, d2, d3] }
  | _ => none }
def DeviceLastsWrongFalsely : Prop := deviceLastsRow.holds Try.pinned (OpenSpec.ofChange deviceLastsWrong)

/-- 'tidelinelaw08.DeviceFills': WHATEVER THE INPUT: true; the input reads as it did. -/
def deviceFillsSpec : ChangeSpec := { name := "deviceFills", fn := fun _ => fun
  | [d1, d2, d3] => { results := [.lit (.bool true)], args := [d1, d2, d3] }
  | _ => none }
def deviceFillsRow : OpenClaim := { program := "ytbmodlhnkbohhaa", sum := "09a9d7422532e9278a6a228ca0430b0a699543175ca9ee60a402e0d3d5799ddf", func := "tideline/tidelinelaw08.DeviceFills", spec := "deviceFills", unfollowed := true, recurses := true, apart := false }
def DeviceFillsSaid : Prop := deviceFillsRow.holds Try.pinned (OpenSpec.ofChange deviceFillsSpec)

/-- ITS FALSE NEIGHBOUR: 'it returns false'. Refute it at one input. -/
def deviceFillsWrong : ChangeSpec := { name := "deviceFills", fn := fun _ => fun
  | [d1, d2, d3] => { results := [.lit (.bool false)], args := [d1, d2, d3] }
  | _ => none }
def DeviceFillsWrongFalsely : Prop := deviceFillsRow.holds Try.pinned (OpenSpec.ofChange deviceFillsWrong)

/-- 'tidelinelaw08.DeviceCalls': WHATEVER THE INPUT: true; the input reads as it did. -/
def deviceCallsSpec : ChangeSpec := { name := "deviceCalls", fn := fun _ => fun
  | [d1, d2] => { results := [.lit (.bool true)], args := [d1, d2] }
  | _ => none }
def deviceCallsRow : OpenClaim := { program := "ytbmodlhnkbohhaa", sum := "09a9d7422532e9278a6a228ca0430b0a699543175ca9ee60a402e0d3d5799ddf", func := "tideline/tidelinelaw08.DeviceCalls", spec := "deviceCalls", unfollowed := true, recurses := true, apart := false }
def DeviceCallsSaid : Prop := deviceCallsRow.holds Try.pinned (OpenSpec.ofChange deviceCallsSpec)

/-- ITS FALSE NEIGHBOUR: 'it returns false'. Refute it at one input. -/
def deviceCallsWrong : ChangeSpec := { name := "deviceCalls", fn := fun _ => fun
  | [d1, d2] => { results := [.lit (.bool false)], args := [d1, d2] }
  | _ => none }
def DeviceCallsWrongFalsely : Prop := deviceCallsRow.holds Try.pinned (OpenSpec.ofChange deviceCallsWrong)

/-- 'tidelinelaw08.DeviceTwins': WHATEVER THE INPUT: true; the input reads as it did. -/
def deviceTwinsSpec : ChangeSpec := { name := "deviceTwins", fn := fun _ => fun
  | [d1, d2] => { results := [.lit (.bool true)], args := [d1, d2] }
  | _ => none }
def deviceTwinsRow : OpenClaim := { program := "ytbmodlhnkbohhaa", sum := "09a9d7422532e9278a6a228ca0430b0a699543175ca9ee60a402e0d3d5799ddf", func := "tideline/tidelinelaw08.DeviceTwins", spec := "deviceTwins", unfollowed := true, recurses := true, apart := false }
def DeviceTwinsSaid : Prop := deviceTwinsRow.holds Try.pinned (OpenSpec.ofChange deviceTwinsSpec)

/-- ITS FALSE NEIGHBOUR: 'it returns false'. Refute it at one input. -/
def deviceTwinsWrong : ChangeSpec := { name := "deviceTwins", fn := fun _ => fun
  | [d1, d2] => { results := [.lit (.bool false)], args := [d1, d2] }
  | _ => none }
def DeviceTwinsWrongFalsely : Prop := deviceTwinsRow.holds Try.pinned (OpenSpec.ofChange deviceTwinsWrong)

/-- 'tidelinelaw11.PlanShrinks': WHATEVER THE INPUT: true; the input reads as it did. -/
def planShrinksSpec : ChangeSpec := { name := "planShrinks", fn := fun _ => fun
  | [d1, d2, d3, d4] => { results := [.lit (.bool true)], args := [d1, d2, d3, d4] }
  | _ => none }
def planShrinksRow : OpenClaim := { program := "ytbmodlhnkbohhaa", sum := "09a9d7422532e9278a6a228ca0430b0a699543175ca9ee60a402e0d3d5799ddf", func := "tideline/tidelinelaw11.PlanShrinks", spec := "planShrinks", unfollowed := true, recurses := true, apart := false }
def PlanShrinksSaid : Prop := planShrinksRow.holds Try.pinned (OpenSpec.ofChange planShrinksSpec)

/-- ITS FALSE NEIGHBOUR: 'it returns false'. Refute it at one input. -/
def planShrinksWrong : ChangeSpec := { name := "planShrinks", fn := fun _ => fun
  | [d1, d2, d3, d4] => { results := [.lit (.bool false)], args := [d1, d2, d3, d4] }
  | _ => none }
def PlanShrinksWrongFalsely : Prop := planShrinksRow.holds Try.pinned (OpenSpec.ofChange planShrinksWrong)

/-- 'tidelinelaw11.PlanAll': WHATEVER THE INPUT: true; the input reads as it did. -/
def planAllSpec : ChangeSpec := { name := "planAll", fn := fun _ => fun
  | [d1, d2, d3] => { results := [.lit (.bool true)], args := [d1, d2, d3] }
  | _ => none }
def planAllRow : OpenClaim := { program := "ytbmodlhnkbohhaa", sum := "09a9d7422532e9278a6a228ca0430b0a699543175ca9ee60a402e0d3d5799ddf", func := "tideline/tidelinelaw11.PlanAll", spec := "planAll", unfollowed := true, recurses := true, apart := false }
def PlanAllSaid : Prop := planAllRow.holds Try.pinned (OpenSpec.ofChange planAllSpec)

/-- ITS FALSE NEIGHBOUR: 'it returns false'. Refute it at one input. -/
def planAllWrong : ChangeSpec := { name := "planAll", fn := fun _ => fun
  | [d1, d2, d3] => { results := [.lit (.bool false)], args := [d1, d2, d3] }
  | _ => none }
def PlanAllWrongFalsely : Prop := planAllRow.holds Try.pinned (OpenSpec.ofChange planAllWrong)

/-- 'tidelinelaw01.OctetWrong': WHATEVER THE INPUT: true; the input reads as it did. -/
def octetWrongSpec : ChangeSpec := { name := "octetWrong", fn := fun _ => fun
  | [d1, d2] => { results := [.lit (.bool true)], args := [d1, d2] }
  | _ => none }
def octetWrongRow : OpenClaim := { program := "ytbmodlhnkbohhaa", sum := "09a9d7422532e9278a6a228ca0430b0a699543175ca9ee60a402e0d3d5799ddf", func := "tideline/tidelinelaw01.OctetWrong", spec := "octetWrong", unfollowed := true, recurses := true, apart := false }
def OctetWrongSaid : Prop := octetWrongRow.holds Try.pinned (OpenSpec.ofChange octetWrongSpec)

/-- ITS FALSE NEIGHBOUR: 'it returns false'. Refute it at one input. -/
def octetWrongWrong : ChangeSpec := { name := "octetWrong", fn := fun _ => fun
  | [d1, d2] => { results := [.lit (.bool false)], args := [d1, d2] }
  | _ => none }
def OctetWrongWrongFalsely : Prop := octetWrongRow.holds Try.pinned (OpenSpec.ofChange octetWrongWrong)

/- THE SECOND FORM. 'bulk': how many values and letters a reading holds, each counted each time it is reached (what is shared counts as often as it is met; a slice's spare places count too). A statement '..UptoSaid' is the law's where the arguments, and the package variables that the reading takes, are together of bulk at most 1048576: NARROWER than '..Said'. Prove '..Said' where nothing that the law and all that it calls make is longer than what came in: it says more and counts as full. Else prove '..UptoSaid'. A law counts once. -/
mutual
def uptoBulk {H : Type} : DataW H → Nat
  | .lit (.string bytes) => bytes.length + 1
  | .lit _ => 1
  | .nil => 1
  | .ptr d => uptoBulk d + 1
  | .slice elems spare => uptoBulkAll elems + uptoBulkAll spare + 1
  | .agg parts => uptoBulkAll parts + 1
  | .iface _ d => uptoBulk d + 1
  | .map entries => uptoBulkEntries entries + 1
  | .held _ => 1
def uptoBulkAll {H : Type} : List (DataW H) → Nat
  | [] => 0
  | d :: r => uptoBulk d + uptoBulkAll r
def uptoBulkEntries {H : Type} : List (Lit × DataW H) → Nat
  | [] => 0
  | x :: r => uptoBulkEntry x + uptoBulkEntries r
def uptoBulkEntry {H : Type} : Lit × DataW H → Nat
  | (.string bytes, d) => bytes.length + uptoBulk d + 1
  | (_, d) => uptoBulk d + 1
 end
def uptoSmall : (H : Type) → List (DataW H) → Bool := fun _ ds => decide (uptoBulkAll ds ≤ 1048576)
def OpenSpec.upto (s : _root_.Go.ChangeSpec) : _root_.Go.OpenSpec := { _root_.Go.OpenSpec.ofChange s with cond := some uptoSmall }

/-- 'tidelinelaw08.DeviceLasts', WHERE WHAT IT READS IS OF BULK AT MOST 1048576: true; the input reads as it did. -/
def deviceLastsUptoRow : OpenClaim := { program := "ytbmodlhnkbohhaa", sum := "09a9d7422532e9278a6a228ca0430b0a699543175ca9ee60a402e0d3d5799ddf", func := "tideline/tidelinelaw08.DeviceLasts", spec := "deviceLasts", unfollowed := true, recurses := true, apart := false, narrowed := true }
def DeviceLastsUptoSaid : Prop := deviceLastsUptoRow.holds Try.pinned (OpenSpec.upto deviceLastsSpec)

/-- 'tidelinelaw08.DeviceFills', WHERE WHAT IT READS IS OF BULK AT MOST 1048576: true; the input reads as it did. -/
def deviceFillsUptoRow : OpenClaim := { program := "ytbmodlhnkbohhaa", sum := "09a9d7422532e9278a6a228ca0430b0a699543175ca9ee60a402e0d3d5799ddf", func := "tideline/tidelinelaw08.DeviceFills", spec := "deviceFills", unfollowed := true, recurses := true, apart := false, narrowed := true }
def DeviceFillsUptoSaid : Prop := deviceFillsUptoRow.holds Try.pinned (OpenSpec.upto deviceFillsSpec)

/-- 'tidelinelaw08.DeviceCalls', WHERE WHAT IT READS IS OF BULK AT MOST 1048576: true; the input reads as it did. -/
def deviceCallsUptoRow : OpenClaim := { program := "ytbmodlhnkbohhaa", sum := "09a9d7422532e9278a6a228ca0430b0a699543175ca9ee60a402e0d3d5799ddf", func := "tideline/tidelinelaw08.DeviceCalls", spec := "deviceCalls", unfollowed := true, recurses := true, apart := false, narrowed := true }
def DeviceCallsUptoSaid : Prop := deviceCallsUptoRow.holds Try.pinned (OpenSpec.upto deviceCallsSpec)

/-- 'tidelinelaw08.DeviceTwins', WHERE WHAT IT READS IS OF BULK AT MOST 1048576: true; the input reads as it did. -/
def deviceTwinsUptoRow : OpenClaim := { program := "ytbmodlhnkbohhaa", sum := "09a9d7422532e9278a6a228ca0430b0a699543175ca9ee60a402e0d3d5799ddf", func := "tideline/tidelinelaw08.DeviceTwins", spec := "deviceTwins", unfollowed := true, recurses := true, apart := false, narrowed := true }
def DeviceTwinsUptoSaid : Prop := deviceTwinsUptoRow.holds Try.pinned (OpenSpec.upto deviceTwinsSpec)

/-- 'tidelinelaw11.PlanShrinks', WHERE WHAT IT READS IS OF BULK AT MOST 1048576: true; the input reads as it did. -/
def planShrinksUptoRow : OpenClaim := { program := "ytbmodlhnkbohhaa", sum := "09a9d7422532e9278a6a228ca0430b0a699543175ca9ee60a402e0d3d5799ddf", func := "tideline/tidelinelaw11.PlanShrinks", spec := "planShrinks", unfollowed := true, recurses := true, apart := false, narrowed := true }
def PlanShrinksUptoSaid : Prop := planShrinksUptoRow.holds Try.pinned (OpenSpec.upto planShrinksSpec)

/-- 'tidelinelaw11.PlanAll', WHERE WHAT IT READS IS OF BULK AT MOST 1048576: true; the input reads as it did. -/
def planAllUptoRow : OpenClaim := { program := "ytbmodlhnkbohhaa", sum := "09a9d7422532e9278a6a228ca0430b0a699543175ca9ee60a402e0d3d5799ddf", func := "tideline/tidelinelaw11.PlanAll", spec := "planAll", unfollowed := true, recurses := true, apart := false, narrowed := true }
def PlanAllUptoSaid : Prop := planAllUptoRow.holds Try.pinned (OpenSpec.upto planAllSpec)

/-- 'tidelinelaw01.OctetWrong', WHERE WHAT IT READS IS OF BULK AT MOST 1048576: true; the input reads as it did. -/
def octetWrongUptoRow : OpenClaim := { program := "ytbmodlhnkbohhaa", sum := "09a9d7422532e9278a6a228ca0430b0a699543175ca9ee60a402e0d3d5799ddf", func := "tideline/tidelinelaw01.OctetWrong", spec := "octetWrong", unfollowed := true, recurses := true, apart := false, narrowed := true }
def OctetWrongUptoSaid : Prop := octetWrongUptoRow.holds Try.pinned (OpenSpec.upto octetWrongSpec)

end Rows
end Go.Proofs.Ytbmodlhnkbohhaa
