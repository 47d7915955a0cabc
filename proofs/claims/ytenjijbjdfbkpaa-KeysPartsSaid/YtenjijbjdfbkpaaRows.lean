/-
  No cell of these rows narrows 'for every input' (looked for: loops, veiled, ifaces, maps, wideKeys, modest, calm, conditions, laid).
  DERIVED. THE GIVEN ROWS OF THIS SEAT. 4 by the template 'for every input the law returns true; each argument reads behind the call as it read before'; 0 by the template 'total and deterministic' (their statements: YtenjijbjdfbkpaaTotals.lean).
  GIVEN WITH THE SEED: the statements are not yours to turn. If you find one false, say at which input.
  Laid BY PROGRAM, IN A SANDBOX (cutbox-rows.mjs): the forced cells as the released guide's own fill.sh prints them over the translation e1cbfdd0f233307d… (all of the seat's roots in one cut). By AI agents, Wed Nov 11 2026. No macro, syntax, notation, axiom, sorry.
-/
import Derived.Test.YtenjijbjdfbkpaaChecked
import GoSem.Claim
import GoSem.ClaimJoined
import GoSem.ClaimMapViews
import Derived.JoinedTies
import Derived.KernelRfl
namespace Go.Proofs.Ytenjijbjdfbkpaa
/- THE CELL 'sum', in the pinned program and in every row, IS THE sha256 OF THE DUMP (.gsa) THAT YtenjijbjdfbkpaaProg.lean LOADS. Nothing in Lean hashes anything: it is a label: what it is worth is what the hold of that sum in a sandbox is worth. -/
noncomputable def Try.pinned : Pinned := { name := "ytenjijbjdfbkpaa", sum := "e1cbfdd0f233307d0db43fd199fdaa1b34a4078f5dbecd495c123b3a419bb32b", checked := Try.checked }
namespace Rows
def none {H : Type} : Left H := { results := [], args := [] }

/-- 'vagabondlaw13.KeysFollow': WHATEVER THE INPUT: true; the input reads as it did. -/
def keysFollowSpec : ChangeSpec := { name := "keysFollow", fn := fun _ => fun
  | [d1, d2] => { results := [.lit (.bool true)], args := [d1, d2] }
  | _ => none }
def keysFollowRow : OpenClaim := { program := "ytenjijbjdfbkpaa", sum := "e1cbfdd0f233307d0db43fd199fdaa1b34a4078f5dbecd495c123b3a419bb32b", func := "vagabond/vagabondlaw13.KeysFollow", spec := "keysFollow", apart := false }
def KeysFollowSaid : Prop := keysFollowRow.holds Try.pinned (OpenSpec.ofChange keysFollowSpec)

/-- ITS FALSE NEIGHBOUR: 'it returns false'. Refute it at one input. -/
def keysFollowWrong : ChangeSpec := { name := "keysFollow", fn := fun _ => fun
  | [d1, d2] => { results := [.lit (.bool false)], args := [d1, d2] }
  | _ => none }
def KeysFollowWrongFalsely : Prop := keysFollowRow.holds Try.pinned (OpenSpec.ofChange keysFollowWrong)

/-- 'vagabondlaw13.KeysTurns': WHATEVER THE INPUT: true; the input reads as it did. -/
def keysTurnsSpec : ChangeSpec := { name := "keysTurns", fn := fun _ => fun
  | [d1, d2] => { results := [.lit (.bool true)], args := [d1, d2] }
  | _ => none }
def keysTurnsRow : OpenClaim := { program := "ytenjijbjdfbkpaa", sum := "e1cbfdd0f233307d0db43fd199fdaa1b34a4078f5dbecd495c123b3a419bb32b", func := "vagabond/vagabondlaw13.KeysTurns", spec := "keysTurns", inPlace := ["internal/abi.NoEscape", "internal/bytealg.MakeNoZero"], apart := false }
def KeysTurnsSaid : Prop := keysTurnsRow.holds Try.pinned (OpenSpec.ofChange keysTurnsSpec)

/-- ITS FALSE NEIGHBOUR: 'it returns false'. Refute it at one input. -/
def keysTurnsWrong : ChangeSpec := { name := "keysTurns", fn := fun _ => fun
  | [d1, d2] => { results := [.lit (.bool false)], args := [d1, d2] }
  | _ => none }
def KeysTurnsWrongFalsely : Prop := keysTurnsRow.holds Try.pinned (OpenSpec.ofChange keysTurnsWrong)

/-- 'vagabondlaw13.KeysParts': WHATEVER THE INPUT: true; the input reads as it did. -/
def keysPartsSpec : ChangeSpec := { name := "keysParts", fn := fun _ => fun
  | [d1, d2, d3] => { results := [.lit (.bool true)], args := [d1, d2, d3] }
  | _ => none }
def keysPartsRow : OpenClaim := { program := "ytenjijbjdfbkpaa", sum := "e1cbfdd0f233307d0db43fd199fdaa1b34a4078f5dbecd495c123b3a419bb32b", func := "vagabond/vagabondlaw13.KeysParts", spec := "keysParts", inPlace := ["internal/abi.NoEscape", "internal/bytealg.MakeNoZero"], apart := false }
def KeysPartsSaid : Prop := keysPartsRow.holds Try.pinned (OpenSpec.ofChange keysPartsSpec)

/-- ITS FALSE NEIGHBOUR: 'it returns false'. Refute it at one input. -/
def keysPartsWrong : ChangeSpec := { name := "keysParts", fn := fun _ => fun
  | [d1, d2, d3] => { results := [.lit (.bool false)], args := [d1, d2, d3] }
  | _ => none }
def KeysPartsWrongFalsely : Prop := keysPartsRow.holds Try.pinned (OpenSpec.ofChange keysPartsWrong)

/-- 'vagabondlaw13.KeysDiffs': WHATEVER THE INPUT: true; the input reads as it did. -/
def keysDiffsSpec : ChangeSpec := { name := "keysDiffs", fn := fun _ => fun
  | [d1, d2] => { results := [.lit (.bool true)], args := [d1, d2] }
  | _ => none }
def keysDiffsRow : OpenClaim := { program := "ytenjijbjdfbkpaa", sum := "e1cbfdd0f233307d0db43fd199fdaa1b34a4078f5dbecd495c123b3a419bb32b", func := "vagabond/vagabondlaw13.KeysDiffs", spec := "keysDiffs", inPlace := ["internal/abi.NoEscape", "internal/bytealg.MakeNoZero"], apart := false }
def KeysDiffsSaid : Prop := keysDiffsRow.holds Try.pinned (OpenSpec.ofChange keysDiffsSpec)

/-- ITS FALSE NEIGHBOUR: 'it returns false'. Refute it at one input. -/
def keysDiffsWrong : ChangeSpec := { name := "keysDiffs", fn := fun _ => fun
  | [d1, d2] => { results := [.lit (.bool false)], args := [d1, d2] }
  | _ => none }
def KeysDiffsWrongFalsely : Prop := keysDiffsRow.holds Try.pinned (OpenSpec.ofChange keysDiffsWrong)

/- THE SECOND FORM. 'bulk': how many values and letters a reading holds, each counted each time it is reached (what is shared counts as often as it is met; a slice's spare places count too). A statement '..UptoSaid' is the law's where the arguments, and the package variables that the reading takes, are together of bulk at most 1048576: NARROWER than '..Said'. Prove '..Said' where nothing that the law and all that it calls make is longer than what came in: it says more and counts as full. Else prove '..UptoSaid'. A law counts once. -/
mutual
def uptoBulk {H : Type} : DataW H → Nat
  | .lit (.string bytes) => bytes.length + 1
  | .lit _ => 1
  | .nil => 1
  | .ptr d => uptoBulk d + 1
  | .slice elems spare => uptoBulkAll elems + uptoBulkAll spare + 1
  | .agg parts => uptoBulkAll parts + 1
  | .iface _ d => uptoBulk d + 1
  | .map entries => uptoBulkEntries entries + 1
  | .held _ => 1
def uptoBulkAll {H : Type} : List (DataW H) → Nat
  | [] => 0
  | d :: r => uptoBulk d + uptoBulkAll r
def uptoBulkEntries {H : Type} : List (Lit × DataW H) → Nat
  | [] => 0
  | x :: r => uptoBulkEntry x + uptoBulkEntries r
def uptoBulkEntry {H : Type} : Lit × DataW H → Nat
  | (.string bytes, d) => bytes.length + uptoBulk d + 1
  | (_, d) => uptoBulk d + 1
 end
def uptoSmall : (H : Type) → List (DataW H) → Bool := fun _ ds => decide (uptoBulkAll ds ≤ 1048576)
def OpenSpec.upto (s : _root_.Go.ChangeSpec) : _root_.Go.OpenSpec := { _root_.Go.OpenSpec.ofChange s with cond := some uptoSmall }

/-- 'vagabondlaw13.KeysFollow', WHERE WHAT IT READS IS OF BULK AT MOST 1048576: true; the input reads as it did. -/
def keysFollowUptoRow : OpenClaim := { program := "ytenjijbjdfbkpaa", sum := "e1cbfdd0f233307d0db43fd199fdaa1b34a4078f5dbecd495c123b3a419bb32b", func := "vagabond/vagabondlaw13.KeysFollow", spec := "keysFollow", apart := false, narrowed := true }
def KeysFollowUptoSaid : Prop := keysFollowUptoRow.holds Try.pinned (OpenSpec.upto keysFollowSpec)

/-- 'vagabondlaw13.KeysTurns', WHERE WHAT IT READS IS OF BULK AT MOST 1048576: true; the input reads as it did. -/
def keysTurnsUptoRow : OpenClaim := { program := "ytenjijbjdfbkpaa", sum := "e1cbfdd0f233307d0db43fd199fdaa1b34a4078f5dbecd495c123b3a419bb32b", func := "vagabond/vagabondlaw13.KeysTurns", spec := "keysTurns", inPlace := ["internal/abi.NoEscape", "internal/bytealg.MakeNoZero"], apart := false, narrowed := true }
def KeysTurnsUptoSaid : Prop := keysTurnsUptoRow.holds Try.pinned (OpenSpec.upto keysTurnsSpec)

/-- 'vagabondlaw13.KeysParts', WHERE WHAT IT READS IS OF BULK AT MOST 1048576: true; the input reads as it did. -/
def keysPartsUptoRow : OpenClaim := { program := "ytenjijbjdfbkpaa", sum := "e1cbfdd0f233307d0db43fd199fdaa1b34a4078f5dbecd495c123b3a419bb32b", func := "vagabond/vagabondlaw13.KeysParts", spec := "keysParts", inPlace := ["internal/abi.NoEscape", "internal/bytealg.MakeNoZero"], apart := false, narrowed := true }
def KeysPartsUptoSaid : Prop := keysPartsUptoRow.holds Try.pinned (OpenSpec.upto keysPartsSpec)

/-- 'vagabondlaw13.KeysDiffs', WHERE WHAT IT READS IS OF BULK AT MOST 1048576: true; the input reads as it did. -/
def keysDiffsUptoRow : OpenClaim := { program := "ytenjijbjdfbkpaa", sum := "e1cbfdd0f233307d0db43fd199fdaa1b34a4078f5dbecd495c123b3a419bb32b", func := "vagabond/vagabondlaw13.KeysDiffs", spec := "keysDiffs", inPlace := ["internal/abi.NoEscape", "internal/bytealg.MakeNoZero"], apart := false, narrowed := true }
def KeysDiffsUptoSaid : Prop := keysDiffsUptoRow.holds Try.pinned (OpenSpec.upto keysDiffsSpec)

end Rows
end Go.Proofs.Ytenjijbjdfbkpaa
