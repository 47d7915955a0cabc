/-
  No cell of these rows narrows 'for every input' (looked for: loops, veiled, ifaces, maps, wideKeys, modest, calm, conditions, laid).
  DERIVED. THE GIVEN ROWS OF THIS SEAT. 8 by the template 'for every input the law returns true; each argument reads behind the call as it read before'; 0 by the template 'total and deterministic' (their statements: YtgdmeaoghhkknaaTotals.lean).
  GIVEN WITH THE SEED: the statements are not yours to turn. If you find one false, say at which input.
  Laid BY PROGRAM, IN A SANDBOX (cutbox-rows.mjs): the forced cells as the released guide's own fill.sh prints them over the translation 355b6f0b7c689caa… (all of the seat's roots in one cut). By AI agents, Wed Nov 11 2026. No macro, syntax, notation, axiom, sorry.
-/
import Derived.Test.YtgdmeaoghhkknaaChecked
import GoSem.Claim
import GoSem.ClaimJoined
import GoSem.ClaimMapViews
import Derived.JoinedTies
import Derived.KernelRfl
namespace Go.Proofs.Ytgdmeaoghhkknaa
/- THE CELL 'sum', in the pinned program and in every row, IS THE sha256 OF THE DUMP (.gsa) THAT YtgdmeaoghhkknaaProg.lean LOADS. Nothing in Lean hashes anything: it is a label: what it is worth is what the hold of that sum in a sandbox is worth. -/
noncomputable def Try.pinned : Pinned := { name := "ytgdmeaoghhkknaa", sum := "355b6f0b7c689caac7b7d9aac7e9a7f1f3ba1cd045b1740209054f8ed713cf56", checked := Try.checked }
namespace Rows
def none {H : Type} : Left H := { results := [], args := [] }

/-- 'vagabondlaw11.ScreenFills': WHATEVER THE INPUT: true; the input reads as it did. -/
def screenFillsSpec : ChangeSpec := { name := "screenFills", fn := fun _ => fun
  | [d1, d2, d3] => { results := [.lit (.bool true)], args := [d1, d2, d3] }
  | _ => none }
def screenFillsRow : OpenClaim := { program := "ytgdmeaoghhkknaa", sum := "355b6f0b7c689caac7b7d9aac7e9a7f1f3ba1cd045b1740209054f8ed713cf56", func := "vagabond/vagabondlaw11.ScreenFills", spec := "screenFills", inPlace := ["internal/abi.NoEscape", "internal/bytealg.MakeNoZero"], apart := false }
def ScreenFillsSaid : Prop := screenFillsRow.holds Try.pinned (OpenSpec.ofChange screenFillsSpec)

/-- ITS FALSE NEIGHBOUR: 'it returns false'. Refute it at one input. -/
def screenFillsWrong : ChangeSpec := { name := "screenFills", fn := fun _ => fun
  | [d1, d2, d3] => { results := [.lit (.bool false)], args := [d1, d2, d3] }
  | _ => none }
def ScreenFillsWrongFalsely : Prop := screenFillsRow.holds Try.pinned (OpenSpec.ofChange screenFillsWrong)

/-- 'vagabondlaw11.ScreenStays': WHATEVER THE INPUT: true; the input reads as it did. -/
def screenStaysSpec : ChangeSpec := { name := "screenStays", fn := fun _ => fun
  | [d1, d2, d3, d4] => { results := [.lit (.bool true)], args := [d1, d2, d3, d4] }
  | _ => none }
def screenStaysRow : OpenClaim := { program := "ytgdmeaoghhkknaa", sum := "355b6f0b7c689caac7b7d9aac7e9a7f1f3ba1cd045b1740209054f8ed713cf56", func := "vagabond/vagabondlaw11.ScreenStays", spec := "screenStays", inPlace := ["internal/abi.NoEscape", "internal/bytealg.MakeNoZero"], apart := false }
def ScreenStaysSaid : Prop := screenStaysRow.holds Try.pinned (OpenSpec.ofChange screenStaysSpec)

/-- ITS FALSE NEIGHBOUR: 'it returns false'. Refute it at one input. -/
def screenStaysWrong : ChangeSpec := { name := "screenStays", fn := fun _ => fun
  | [d1, d2, d3, d4] => { results := [.lit (.bool false)], args := [d1, d2, d3, d4] }
  | _ => none }
def ScreenStaysWrongFalsely : Prop := screenStaysRow.holds Try.pinned (OpenSpec.ofChange screenStaysWrong)

/-- 'vagabondlaw11.ScreenScrolls': WHATEVER THE INPUT: true; the input reads as it did. -/
def screenScrollsSpec : ChangeSpec := { name := "screenScrolls", fn := fun _ => fun
  | [d1, d2, d3, d4] => { results := [.lit (.bool true)], args := [d1, d2, d3, d4] }
  | _ => none }
def screenScrollsRow : OpenClaim := { program := "ytgdmeaoghhkknaa", sum := "355b6f0b7c689caac7b7d9aac7e9a7f1f3ba1cd045b1740209054f8ed713cf56", func := "vagabond/vagabondlaw11.ScreenScrolls", spec := "screenScrolls", inPlace := ["internal/abi.NoEscape", "internal/bytealg.MakeNoZero"], apart := false }
def ScreenScrollsSaid : Prop := screenScrollsRow.holds Try.pinned (OpenSpec.ofChange screenScrollsSpec)

/-- ITS FALSE NEIGHBOUR: 'it returns false'. Refute it at one input. -/
def screenScrollsWrong : ChangeSpec := { name := "screenScrolls", fn := fun _ => fun
  | [d1, d2, d3, d4] => { results := [.lit (.bool false)], args := [d1, d2, d3, d4] }
  | _ => none }
def ScreenScrollsWrongFalsely : Prop := screenScrollsRow.holds Try.pinned (OpenSpec.ofChange screenScrollsWrong)

/-- 'vagabondlaw11.ScreenPuts': WHATEVER THE INPUT: true; the input reads as it did. -/
def screenPutsSpec : ChangeSpec := { name := "screenPuts", fn := fun _ => fun
  | [d1, d2, d3, d4] => { results := [.lit (.bool true)], args := [d1, d2, d3, d4] }
  | _ => none }
def screenPutsRow : OpenClaim := { program := "ytgdmeaoghhkknaa", sum := "355b6f0b7c689caac7b7d9aac7e9a7f1f3ba1cd045b1740209054f8ed713cf56", func := "vagabond/vagabondlaw11.ScreenPuts", spec := "screenPuts", inPlace := ["internal/abi.NoEscape", "internal/bytealg.MakeNoZero"], apart := false }
def ScreenPutsSaid : Prop := screenPutsRow.holds Try.pinned (OpenSpec.ofChange screenPutsSpec)

/-- ITS FALSE NEIGHBOUR: 'it returns false'. Refute it at one input. -/
def screenPutsWrong : ChangeSpec := { name := "screenPuts", fn := fun _ => fun
  | [d1, d2, d3, d4] => { results := [.lit (.bool false)], args := [d1, d2, d3, d4] }
  | _ => none }
def ScreenPutsWrongFalsely : Prop := screenPutsRow.holds Try.pinned (OpenSpec.ofChange screenPutsWrong)

/-- 'vagabondlaw11.ScreenTexts': WHATEVER THE INPUT: true; the input reads as it did. -/
def screenTextsSpec : ChangeSpec := { name := "screenTexts", fn := fun _ => fun
  | [d1, d2, d3, d4] => { results := [.lit (.bool true)], args := [d1, d2, d3, d4] }
  | _ => none }
def screenTextsRow : OpenClaim := { program := "ytgdmeaoghhkknaa", sum := "355b6f0b7c689caac7b7d9aac7e9a7f1f3ba1cd045b1740209054f8ed713cf56", func := "vagabond/vagabondlaw11.ScreenTexts", spec := "screenTexts", inPlace := ["internal/abi.NoEscape", "internal/bytealg.MakeNoZero"], apart := false }
def ScreenTextsSaid : Prop := screenTextsRow.holds Try.pinned (OpenSpec.ofChange screenTextsSpec)

/-- ITS FALSE NEIGHBOUR: 'it returns false'. Refute it at one input. -/
def screenTextsWrong : ChangeSpec := { name := "screenTexts", fn := fun _ => fun
  | [d1, d2, d3, d4] => { results := [.lit (.bool false)], args := [d1, d2, d3, d4] }
  | _ => none }
def ScreenTextsWrongFalsely : Prop := screenTextsRow.holds Try.pinned (OpenSpec.ofChange screenTextsWrong)

/-- 'vagabondlaw12.DeltaEmpty': WHATEVER THE INPUT: true; the input reads as it did. -/
def deltaEmptySpec : ChangeSpec := { name := "deltaEmpty", fn := fun _ => fun
  | [d1, d2] => { results := [.lit (.bool true)], args := [d1, d2] }
  | _ => none }
def deltaEmptyRow : OpenClaim := { program := "ytgdmeaoghhkknaa", sum := "355b6f0b7c689caac7b7d9aac7e9a7f1f3ba1cd045b1740209054f8ed713cf56", func := "vagabond/vagabondlaw12.DeltaEmpty", spec := "deltaEmpty", inPlace := ["internal/abi.NoEscape", "internal/bytealg.MakeNoZero"], apart := false }
def DeltaEmptySaid : Prop := deltaEmptyRow.holds Try.pinned (OpenSpec.ofChange deltaEmptySpec)

/-- ITS FALSE NEIGHBOUR: 'it returns false'. Refute it at one input. -/
def deltaEmptyWrong : ChangeSpec := { name := "deltaEmpty", fn := fun _ => fun
  | [d1, d2] => { results := [.lit (.bool false)], args := [d1, d2] }
  | _ => none }
def DeltaEmptyWrongFalsely : Prop := deltaEmptyRow.holds Try.pinned (OpenSpec.ofChange deltaEmptyWrong)

/-- 'vagabondlaw12.DeltaChains': WHATEVER THE INPUT: true; the input reads as it did. -/
def deltaChainsSpec : ChangeSpec := { name := "deltaChains", fn := fun _ => fun
  | [d1, d2, d3, d4] => { results := [.lit (.bool true)], args := [d1, d2, d3, d4] }
  | _ => none }
def deltaChainsRow : OpenClaim := { program := "ytgdmeaoghhkknaa", sum := "355b6f0b7c689caac7b7d9aac7e9a7f1f3ba1cd045b1740209054f8ed713cf56", func := "vagabond/vagabondlaw12.DeltaChains", spec := "deltaChains", inPlace := ["internal/abi.NoEscape", "internal/bytealg.MakeNoZero"], apart := false }
def DeltaChainsSaid : Prop := deltaChainsRow.holds Try.pinned (OpenSpec.ofChange deltaChainsSpec)

/-- ITS FALSE NEIGHBOUR: 'it returns false'. Refute it at one input. -/
def deltaChainsWrong : ChangeSpec := { name := "deltaChains", fn := fun _ => fun
  | [d1, d2, d3, d4] => { results := [.lit (.bool false)], args := [d1, d2, d3, d4] }
  | _ => none }
def DeltaChainsWrongFalsely : Prop := deltaChainsRow.holds Try.pinned (OpenSpec.ofChange deltaChainsWrong)

/-- 'vagabondlaw12.DeltaMakes': WHATEVER THE INPUT: true; the input reads as it did. -/
def deltaMakesSpec : ChangeSpec := { name := "deltaMakes", fn := fun _ => fun
  | [d1, d2, d3] => { results := [.lit (.bool true)], args := [d1, d2, d3] }
  | _ => none }
def deltaMakesRow : OpenClaim := { program := "ytgdmeaoghhkknaa", sum := "355b6f0b7c689caac7b7d9aac7e9a7f1f3ba1cd045b1740209054f8ed713cf56", func := "vagabond/vagabondlaw12.DeltaMakes", spec := "deltaMakes", inPlace := ["internal/abi.NoEscape", "internal/bytealg.MakeNoZero"], apart := false }
def DeltaMakesSaid : Prop := deltaMakesRow.holds Try.pinned (OpenSpec.ofChange deltaMakesSpec)

/-- ITS FALSE NEIGHBOUR: 'it returns false'. Refute it at one input. -/
def deltaMakesWrong : ChangeSpec := { name := "deltaMakes", fn := fun _ => fun
  | [d1, d2, d3] => { results := [.lit (.bool false)], args := [d1, d2, d3] }
  | _ => none }
def DeltaMakesWrongFalsely : Prop := deltaMakesRow.holds Try.pinned (OpenSpec.ofChange deltaMakesWrong)

/- THE SECOND FORM. 'bulk': how many values and letters a reading holds, each counted each time it is reached (what is shared counts as often as it is met; a slice's spare places count too). A statement '..UptoSaid' is the law's where the arguments, and the package variables that the reading takes, are together of bulk at most 1048576: NARROWER than '..Said'. Prove '..Said' where nothing that the law and all that it calls make is longer than what came in: it says more and counts as full. Else prove '..UptoSaid'. A law counts once. -/
mutual
def uptoBulk {H : Type} : DataW H → Nat
  | .lit (.string bytes) => bytes.length + 1
  | .lit _ => 1
  | .nil => 1
  | .ptr d => uptoBulk d + 1
  | .slice elems spare => uptoBulkAll elems + uptoBulkAll spare + 1
  | .agg parts => uptoBulkAll parts + 1
  | .iface _ d => uptoBulk d + 1
  | .map entries => uptoBulkEntries entries + 1
  | .held _ => 1
def uptoBulkAll {H : Type} : List (DataW H) → Nat
  | [] => 0
  | d :: r => uptoBulk d + uptoBulkAll r
def uptoBulkEntries {H : Type} : List (Lit × DataW H) → Nat
  | [] => 0
  | x :: r => uptoBulkEntry x + uptoBulkEntries r
def uptoBulkEntry {H : Type} : Lit × DataW H → Nat
  | (.string bytes, d) => bytes.length + uptoBulk d + 1
  | (_, d) => uptoBulk d + 1
 end
def uptoSmall : (H : Type) → List (DataW H) → Bool := fun _ ds => decide (uptoBulkAll ds ≤ 1048576)
def OpenSpec.upto (s : _root_.Go.ChangeSpec) : _root_.Go.OpenSpec := { _root_.Go.OpenSpec.ofChange s with cond := some uptoSmall }

/-- 'vagabondlaw11.ScreenFills', WHERE WHAT IT READS IS OF BULK AT MOST 1048576: true; the input reads as it did. -/
def screenFillsUptoRow : OpenClaim := { program := "ytgdmeaoghhkknaa", sum := "355b6f0b7c689caac7b7d9aac7e9a7f1f3ba1cd045b1740209054f8ed713cf56", func := "vagabond/vagabondlaw11.ScreenFills", spec := "screenFills", inPlace := ["internal/abi.NoEscape", "internal/bytealg.MakeNoZero"], apart := false, narrowed := true }
def ScreenFillsUptoSaid : Prop := screenFillsUptoRow.holds Try.pinned (OpenSpec.upto screenFillsSpec)

/-- 'vagabondlaw11.ScreenStays', WHERE WHAT IT READS IS OF BULK AT MOST 1048576: true; the input reads as it did. -/
def screenStaysUptoRow : OpenClaim := { program := "ytgdmeaoghhkknaa", sum := "355b6f0b7c689caac7b7d9aac7e9a7f1f3ba1cd045b1740209054f8ed713cf56", func := "vagabond/vagabondlaw11.ScreenStays", spec := "screenStays", inPlace := ["internal/abi.NoEscape", "internal/bytealg.MakeNoZero"], apart := false, narrowed := true }
def ScreenStaysUptoSaid : Prop := screenStaysUptoRow.holds Try.pinned (OpenSpec.upto screenStaysSpec)

/-- 'vagabondlaw11.ScreenScrolls', WHERE WHAT IT READS IS OF BULK AT MOST 1048576: true; the input reads as it did. -/
def screenScrollsUptoRow : OpenClaim := { program := "ytgdmeaoghhkknaa", sum := "355b6f0b7c689caac7b7d9aac7e9a7f1f3ba1cd045b1740209054f8ed713cf56", func := "vagabond/vagabondlaw11.ScreenScrolls", spec := "screenScrolls", inPlace := ["internal/abi.NoEscape", "internal/bytealg.MakeNoZero"], apart := false, narrowed := true }
def ScreenScrollsUptoSaid : Prop := screenScrollsUptoRow.holds Try.pinned (OpenSpec.upto screenScrollsSpec)

/-- 'vagabondlaw11.ScreenPuts', WHERE WHAT IT READS IS OF BULK AT MOST 1048576: true; the input reads as it did. -/
def screenPutsUptoRow : OpenClaim := { program := "ytgdmeaoghhkknaa", sum := "355b6f0b7c689caac7b7d9aac7e9a7f1f3ba1cd045b1740209054f8ed713cf56", func := "vagabond/vagabondlaw11.ScreenPuts", spec := "screenPuts", inPlace := ["internal/abi.NoEscape", "internal/bytealg.MakeNoZero"], apart := false, narrowed := true }
def ScreenPutsUptoSaid : Prop := screenPutsUptoRow.holds Try.pinned (OpenSpec.upto screenPutsSpec)

/-- 'vagabondlaw11.ScreenTexts', WHERE WHAT IT READS IS OF BULK AT MOST 1048576: true; the input reads as it did. -/
def screenTextsUptoRow : OpenClaim := { program := "ytgdmeaoghhkknaa", sum := "355b6f0b7c689caac7b7d9aac7e9a7f1f3ba1cd045b1740209054f8ed713cf56", func := "vagabond/vagabondlaw11.ScreenTexts", spec := "screenTexts", inPlace := ["internal/abi.NoEscape", "internal/bytealg.MakeNoZero"], apart := false, narrowed := true }
def ScreenTextsUptoSaid : Prop := screenTextsUptoRow.holds Try.pinned (OpenSpec.upto screenTextsSpec)

/-- 'vagabondlaw12.DeltaEmpty', WHERE WHAT IT READS IS OF BULK AT MOST 1048576: true; the input reads as it did. -/
def deltaEmptyUptoRow : OpenClaim := { program := "ytgdmeaoghhkknaa", sum := "355b6f0b7c689caac7b7d9aac7e9a7f1f3ba1cd045b1740209054f8ed713cf56", func := "vagabond/vagabondlaw12.DeltaEmpty", spec := "deltaEmpty", inPlace := ["internal/abi.NoEscape", "internal/bytealg.MakeNoZero"], apart := false, narrowed := true }
def DeltaEmptyUptoSaid : Prop := deltaEmptyUptoRow.holds Try.pinned (OpenSpec.upto deltaEmptySpec)

/-- 'vagabondlaw12.DeltaChains', WHERE WHAT IT READS IS OF BULK AT MOST 1048576: true; the input reads as it did. -/
def deltaChainsUptoRow : OpenClaim := { program := "ytgdmeaoghhkknaa", sum := "355b6f0b7c689caac7b7d9aac7e9a7f1f3ba1cd045b1740209054f8ed713cf56", func := "vagabond/vagabondlaw12.DeltaChains", spec := "deltaChains", inPlace := ["internal/abi.NoEscape", "internal/bytealg.MakeNoZero"], apart := false, narrowed := true }
def DeltaChainsUptoSaid : Prop := deltaChainsUptoRow.holds Try.pinned (OpenSpec.upto deltaChainsSpec)

/-- 'vagabondlaw12.DeltaMakes', WHERE WHAT IT READS IS OF BULK AT MOST 1048576: true; the input reads as it did. -/
def deltaMakesUptoRow : OpenClaim := { program := "ytgdmeaoghhkknaa", sum := "355b6f0b7c689caac7b7d9aac7e9a7f1f3ba1cd045b1740209054f8ed713cf56", func := "vagabond/vagabondlaw12.DeltaMakes", spec := "deltaMakes", inPlace := ["internal/abi.NoEscape", "internal/bytealg.MakeNoZero"], apart := false, narrowed := true }
def DeltaMakesUptoSaid : Prop := deltaMakesUptoRow.holds Try.pinned (OpenSpec.upto deltaMakesSpec)

end Rows
end Go.Proofs.Ytgdmeaoghhkknaa
