/-
  No cell of these rows narrows 'for every input' (looked for: loops, veiled, ifaces, maps, wideKeys, modest, calm, conditions, laid).
  DERIVED. THE GIVEN ROWS OF THIS SEAT. 8 by the template 'for every input the law returns true; each argument reads behind the call as it read before'; 0 by the template 'total and deterministic' (their statements: YtgceepjfnncilaaTotals.lean).
  GIVEN WITH THE SEED: the statements are not yours to turn. If you find one false, say at which input.
  Laid BY PROGRAM, IN A SANDBOX (cutbox-rows.mjs): the forced cells as the released guide's own fill.sh prints them over the translation c7774eb79f616d2c… (all of the seat's roots in one cut). By AI agents, Wed Nov 11 2026. No macro, syntax, notation, axiom, sorry.
-/
import Derived.Test.YtgceepjfnncilaaChecked
import GoSem.Claim
import GoSem.ClaimJoined
import GoSem.ClaimMapViews
import Derived.JoinedTies
import Derived.KernelRfl
namespace Go.Proofs.Ytgceepjfnncilaa
/- THE CELL 'sum', in the pinned program and in every row, IS THE sha256 OF THE DUMP (.gsa) THAT YtgceepjfnncilaaProg.lean LOADS. Nothing in Lean hashes anything: it is a label: what it is worth is what the hold of that sum in a sandbox is worth. -/
noncomputable def Try.pinned : Pinned := { name := "ytgceepjfnncilaa", sum := "c7774eb79f616d2cedb3368c396625521819907c249654108f28d84a68a788db", checked := Try.checked }
namespace Rows
def none {H : Type} : Left H := { results := [], args := [] }

/-- 'vagabondlaw03.ShaSums': WHATEVER THE INPUT: true; the input reads as it did. -/
def shaSumsSpec : ChangeSpec := { name := "shaSums", fn := fun _ => fun
  | [d1, d2, d3] => { results := [.lit (.bool true)], args := [d1, d2, d3] }
  | _ => none }
def shaSumsRow : OpenClaim := { program := "ytgceepjfnncilaa", sum := "c7774eb79f616d2cedb3368c396625521819907c249654108f28d84a68a788db", func := "vagabond/vagabondlaw03.ShaSums", spec := "shaSums", inPlace := ["internal/abi.NoEscape", "internal/bytealg.MakeNoZero"], apart := false }
def ShaSumsSaid : Prop := shaSumsRow.holds Try.pinned (OpenSpec.ofChange shaSumsSpec)

/-- ITS FALSE NEIGHBOUR: 'it returns false'. Refute it at one input. -/
def shaSumsWrong : ChangeSpec := { name := "shaSums", fn := fun _ => fun
  | [d1, d2, d3] => { results := [.lit (.bool false)], args := [d1, d2, d3] }
  | _ => none }
def ShaSumsWrongFalsely : Prop := shaSumsRow.holds Try.pinned (OpenSpec.ofChange shaSumsWrong)

/-- 'vagabondlaw03.ShaPads': WHATEVER THE INPUT: true; the input reads as it did. -/
def shaPadsSpec : ChangeSpec := { name := "shaPads", fn := fun _ => fun
  | [d1, d2] => { results := [.lit (.bool true)], args := [d1, d2] }
  | _ => none }
def shaPadsRow : OpenClaim := { program := "ytgceepjfnncilaa", sum := "c7774eb79f616d2cedb3368c396625521819907c249654108f28d84a68a788db", func := "vagabond/vagabondlaw03.ShaPads", spec := "shaPads", inPlace := ["internal/abi.NoEscape", "internal/bytealg.MakeNoZero"], apart := false }
def ShaPadsSaid : Prop := shaPadsRow.holds Try.pinned (OpenSpec.ofChange shaPadsSpec)

/-- ITS FALSE NEIGHBOUR: 'it returns false'. Refute it at one input. -/
def shaPadsWrong : ChangeSpec := { name := "shaPads", fn := fun _ => fun
  | [d1, d2] => { results := [.lit (.bool false)], args := [d1, d2] }
  | _ => none }
def ShaPadsWrongFalsely : Prop := shaPadsRow.holds Try.pinned (OpenSpec.ofChange shaPadsWrong)

/-- 'vagabondlaw03.ShaSteps': WHATEVER THE INPUT: true; the input reads as it did. -/
def shaStepsSpec : ChangeSpec := { name := "shaSteps", fn := fun _ => fun
  | [d1, d2] => { results := [.lit (.bool true)], args := [d1, d2] }
  | _ => none }
def shaStepsRow : OpenClaim := { program := "ytgceepjfnncilaa", sum := "c7774eb79f616d2cedb3368c396625521819907c249654108f28d84a68a788db", func := "vagabond/vagabondlaw03.ShaSteps", spec := "shaSteps", inPlace := ["internal/abi.NoEscape", "internal/bytealg.MakeNoZero"], apart := false }
def ShaStepsSaid : Prop := shaStepsRow.holds Try.pinned (OpenSpec.ofChange shaStepsSpec)

/-- ITS FALSE NEIGHBOUR: 'it returns false'. Refute it at one input. -/
def shaStepsWrong : ChangeSpec := { name := "shaSteps", fn := fun _ => fun
  | [d1, d2] => { results := [.lit (.bool false)], args := [d1, d2] }
  | _ => none }
def ShaStepsWrongFalsely : Prop := shaStepsRow.holds Try.pinned (OpenSpec.ofChange shaStepsWrong)

/-- 'vagabondlaw03.ShaExtends': WHATEVER THE INPUT: true; the input reads as it did. -/
def shaExtendsSpec : ChangeSpec := { name := "shaExtends", fn := fun _ => fun
  | [d1, d2] => { results := [.lit (.bool true)], args := [d1, d2] }
  | _ => none }
def shaExtendsRow : OpenClaim := { program := "ytgceepjfnncilaa", sum := "c7774eb79f616d2cedb3368c396625521819907c249654108f28d84a68a788db", func := "vagabond/vagabondlaw03.ShaExtends", spec := "shaExtends", inPlace := ["internal/abi.NoEscape", "internal/bytealg.MakeNoZero"], apart := false }
def ShaExtendsSaid : Prop := shaExtendsRow.holds Try.pinned (OpenSpec.ofChange shaExtendsSpec)

/-- ITS FALSE NEIGHBOUR: 'it returns false'. Refute it at one input. -/
def shaExtendsWrong : ChangeSpec := { name := "shaExtends", fn := fun _ => fun
  | [d1, d2] => { results := [.lit (.bool false)], args := [d1, d2] }
  | _ => none }
def ShaExtendsWrongFalsely : Prop := shaExtendsRow.holds Try.pinned (OpenSpec.ofChange shaExtendsWrong)

/-- 'vagabondlaw04.HmacKeys': WHATEVER THE INPUT: true; the input reads as it did. -/
def hmacKeysSpec : ChangeSpec := { name := "hmacKeys", fn := fun _ => fun
  | [d1, d2, d3] => { results := [.lit (.bool true)], args := [d1, d2, d3] }
  | _ => none }
def hmacKeysRow : OpenClaim := { program := "ytgceepjfnncilaa", sum := "c7774eb79f616d2cedb3368c396625521819907c249654108f28d84a68a788db", func := "vagabond/vagabondlaw04.HmacKeys", spec := "hmacKeys", inPlace := ["internal/abi.NoEscape", "internal/bytealg.MakeNoZero"], apart := false }
def HmacKeysSaid : Prop := hmacKeysRow.holds Try.pinned (OpenSpec.ofChange hmacKeysSpec)

/-- ITS FALSE NEIGHBOUR: 'it returns false'. Refute it at one input. -/
def hmacKeysWrong : ChangeSpec := { name := "hmacKeys", fn := fun _ => fun
  | [d1, d2, d3] => { results := [.lit (.bool false)], args := [d1, d2, d3] }
  | _ => none }
def HmacKeysWrongFalsely : Prop := hmacKeysRow.holds Try.pinned (OpenSpec.ofChange hmacKeysWrong)

/-- 'vagabondlaw04.HmacSums': WHATEVER THE INPUT: true; the input reads as it did. -/
def hmacSumsSpec : ChangeSpec := { name := "hmacSums", fn := fun _ => fun
  | [d1, d2, d3] => { results := [.lit (.bool true)], args := [d1, d2, d3] }
  | _ => none }
def hmacSumsRow : OpenClaim := { program := "ytgceepjfnncilaa", sum := "c7774eb79f616d2cedb3368c396625521819907c249654108f28d84a68a788db", func := "vagabond/vagabondlaw04.HmacSums", spec := "hmacSums", inPlace := ["internal/abi.NoEscape", "internal/bytealg.MakeNoZero"], apart := false }
def HmacSumsSaid : Prop := hmacSumsRow.holds Try.pinned (OpenSpec.ofChange hmacSumsSpec)

/-- ITS FALSE NEIGHBOUR: 'it returns false'. Refute it at one input. -/
def hmacSumsWrong : ChangeSpec := { name := "hmacSums", fn := fun _ => fun
  | [d1, d2, d3] => { results := [.lit (.bool false)], args := [d1, d2, d3] }
  | _ => none }
def HmacSumsWrongFalsely : Prop := hmacSumsRow.holds Try.pinned (OpenSpec.ofChange hmacSumsWrong)

/-- 'vagabondlaw04.HmacDerives': WHATEVER THE INPUT: true; the input reads as it did. -/
def hmacDerivesSpec : ChangeSpec := { name := "hmacDerives", fn := fun _ => fun
  | [d1, d2, d3, d4] => { results := [.lit (.bool true)], args := [d1, d2, d3, d4] }
  | _ => none }
def hmacDerivesRow : OpenClaim := { program := "ytgceepjfnncilaa", sum := "c7774eb79f616d2cedb3368c396625521819907c249654108f28d84a68a788db", func := "vagabond/vagabondlaw04.HmacDerives", spec := "hmacDerives", inPlace := ["internal/abi.NoEscape", "internal/bytealg.MakeNoZero"], apart := false }
def HmacDerivesSaid : Prop := hmacDerivesRow.holds Try.pinned (OpenSpec.ofChange hmacDerivesSpec)

/-- ITS FALSE NEIGHBOUR: 'it returns false'. Refute it at one input. -/
def hmacDerivesWrong : ChangeSpec := { name := "hmacDerives", fn := fun _ => fun
  | [d1, d2, d3, d4] => { results := [.lit (.bool false)], args := [d1, d2, d3, d4] }
  | _ => none }
def HmacDerivesWrongFalsely : Prop := hmacDerivesRow.holds Try.pinned (OpenSpec.ofChange hmacDerivesWrong)

/-- 'vagabondlaw04.HmacChains': WHATEVER THE INPUT: true; the input reads as it did. -/
def hmacChainsSpec : ChangeSpec := { name := "hmacChains", fn := fun _ => fun
  | [d1, d2, d3] => { results := [.lit (.bool true)], args := [d1, d2, d3] }
  | _ => none }
def hmacChainsRow : OpenClaim := { program := "ytgceepjfnncilaa", sum := "c7774eb79f616d2cedb3368c396625521819907c249654108f28d84a68a788db", func := "vagabond/vagabondlaw04.HmacChains", spec := "hmacChains", inPlace := ["internal/abi.NoEscape", "internal/bytealg.MakeNoZero"], apart := false }
def HmacChainsSaid : Prop := hmacChainsRow.holds Try.pinned (OpenSpec.ofChange hmacChainsSpec)

/-- ITS FALSE NEIGHBOUR: 'it returns false'. Refute it at one input. -/
def hmacChainsWrong : ChangeSpec := { name := "hmacChains", fn := fun _ => fun
  | [d1, d2, d3] => { results := [.lit (.bool false)], args := [d1, d2, d3] }
  | _ => none }
def HmacChainsWrongFalsely : Prop := hmacChainsRow.holds Try.pinned (OpenSpec.ofChange hmacChainsWrong)

/- THE SECOND FORM. 'bulk': how many values and letters a reading holds, each counted each time it is reached (what is shared counts as often as it is met; a slice's spare places count too). A statement '..UptoSaid' is the law's where the arguments, and the package variables that the reading takes, are together of bulk at most 1048576: NARROWER than '..Said'. Prove '..Said' where nothing that the law and all that it calls make is longer than what came in: it says more and counts as full. Else prove '..UptoSaid'. A law counts once. -/
mutual
def uptoBulk {H : Type} : DataW H → Nat
  | .lit (.string bytes) => bytes.length + 1
  | .lit _ => 1
  | .nil => 1
  | .ptr d => uptoBulk d + 1
  | .slice elems spare => uptoBulkAll elems + uptoBulkAll spare + 1
  | .agg parts => uptoBulkAll parts + 1
  | .iface _ d => uptoBulk d + 1
  | .map entries => uptoBulkEntries entries + 1
  | .held _ => 1
def uptoBulkAll {H : Type} : List (DataW H) → Nat
  | [] => 0
  | d :: r => uptoBulk d + uptoBulkAll r
def uptoBulkEntries {H : Type} : List (Lit × DataW H) → Nat
  | [] => 0
  | x :: r => uptoBulkEntry x + uptoBulkEntries r
def uptoBulkEntry {H : Type} : Lit × DataW H → Nat
  | (.string bytes, d) => bytes.length + uptoBulk d + 1
  | (_, d) => uptoBulk d + 1
 end
def uptoSmall : (H : Type) → List (DataW H) → Bool := fun _ ds => decide (uptoBulkAll ds ≤ 1048576)
def OpenSpec.upto (s : _root_.Go.ChangeSpec) : _root_.Go.OpenSpec := { _root_.Go.OpenSpec.ofChange s with cond := some uptoSmall }

/-- 'vagabondlaw03.ShaSums', WHERE WHAT IT READS IS OF BULK AT MOST 1048576: true; the input reads as it did. -/
def shaSumsUptoRow : OpenClaim := { program := "ytgceepjfnncilaa", sum := "c7774eb79f616d2cedb3368c396625521819907c249654108f28d84a68a788db", func := "vagabond/vagabondlaw03.ShaSums", spec := "shaSums", inPlace := ["internal/abi.NoEscape", "internal/bytealg.MakeNoZero"], apart := false, narrowed := true }
def ShaSumsUptoSaid : Prop := shaSumsUptoRow.holds Try.pinned (OpenSpec.upto shaSumsSpec)

/-- 'vagabondlaw03.ShaPads', WHERE WHAT IT READS IS OF BULK AT MOST 1048576: true; the input reads as it did. -/
def shaPadsUptoRow : OpenClaim := { program := "ytgceepjfnncilaa", sum := "c7774eb79f616d2cedb3368c396625521819907c249654108f28d84a68a788db", func := "vagabond/vagabondlaw03.ShaPads", spec := "shaPads", inPlace := ["internal/abi.NoEscape", "internal/bytealg.MakeNoZero"], apart := false, narrowed := true }
def ShaPadsUptoSaid : Prop := shaPadsUptoRow.holds Try.pinned (OpenSpec.upto shaPadsSpec)

/-- 'vagabondlaw03.ShaSteps', WHERE WHAT IT READS IS OF BULK AT MOST 1048576: true; the input reads as it did. -/
def shaStepsUptoRow : OpenClaim := { program := "ytgceepjfnncilaa", sum := "c7774eb79f616d2cedb3368c396625521819907c249654108f28d84a68a788db", func := "vagabond/vagabondlaw03.ShaSteps", spec := "shaSteps", inPlace := ["internal/abi.NoEscape", "internal/bytealg.MakeNoZero"], apart := false, narrowed := true }
def ShaStepsUptoSaid : Prop := shaStepsUptoRow.holds Try.pinned (OpenSpec.upto shaStepsSpec)

/-- 'vagabondlaw03.ShaExtends', WHERE WHAT IT READS IS OF BULK AT MOST 1048576: true; the input reads as it did. -/
def shaExtendsUptoRow : OpenClaim := { program := "ytgceepjfnncilaa", sum := "c7774eb79f616d2cedb3368c396625521819907c249654108f28d84a68a788db", func := "vagabond/vagabondlaw03.ShaExtends", spec := "shaExtends", inPlace := ["internal/abi.NoEscape", "internal/bytealg.MakeNoZero"], apart := false, narrowed := true }
def ShaExtendsUptoSaid : Prop := shaExtendsUptoRow.holds Try.pinned (OpenSpec.upto shaExtendsSpec)

/-- 'vagabondlaw04.HmacKeys', WHERE WHAT IT READS IS OF BULK AT MOST 1048576: true; the input reads as it did. -/
def hmacKeysUptoRow : OpenClaim := { program := "ytgceepjfnncilaa", sum := "c7774eb79f616d2cedb3368c396625521819907c249654108f28d84a68a788db", func := "vagabond/vagabondlaw04.HmacKeys", spec := "hmacKeys", inPlace := ["internal/abi.NoEscape", "internal/bytealg.MakeNoZero"], apart := false, narrowed := true }
def HmacKeysUptoSaid : Prop := hmacKeysUptoRow.holds Try.pinned (OpenSpec.upto hmacKeysSpec)

/-- 'vagabondlaw04.HmacSums', WHERE WHAT IT READS IS OF BULK AT MOST 1048576: true; the input reads as it did. -/
def hmacSumsUptoRow : OpenClaim := { program := "ytgceepjfnncilaa", sum := "c7774eb79f616d2cedb3368c396625521819907c249654108f28d84a68a788db", func := "vagabond/vagabondlaw04.HmacSums", spec := "hmacSums", inPlace := ["internal/abi.NoEscape", "internal/bytealg.MakeNoZero"], apart := false, narrowed := true }
def HmacSumsUptoSaid : Prop := hmacSumsUptoRow.holds Try.pinned (OpenSpec.upto hmacSumsSpec)

/-- 'vagabondlaw04.HmacDerives', WHERE WHAT IT READS IS OF BULK AT MOST 1048576: true; the input reads as it did. -/
def hmacDerivesUptoRow : OpenClaim := { program := "ytgceepjfnncilaa", sum := "c7774eb79f616d2cedb3368c396625521819907c249654108f28d84a68a788db", func := "vagabond/vagabondlaw04.HmacDerives", spec := "hmacDerives", inPlace := ["internal/abi.NoEscape", "internal/bytealg.MakeNoZero"], apart := false, narrowed := true }
def HmacDerivesUptoSaid : Prop := hmacDerivesUptoRow.holds Try.pinned (OpenSpec.upto hmacDerivesSpec)

/-- 'vagabondlaw04.HmacChains', WHERE WHAT IT READS IS OF BULK AT MOST 1048576: true; the input reads as it did. -/
def hmacChainsUptoRow : OpenClaim := { program := "ytgceepjfnncilaa", sum := "c7774eb79f616d2cedb3368c396625521819907c249654108f28d84a68a788db", func := "vagabond/vagabondlaw04.HmacChains", spec := "hmacChains", inPlace := ["internal/abi.NoEscape", "internal/bytealg.MakeNoZero"], apart := false, narrowed := true }
def HmacChainsUptoSaid : Prop := hmacChainsUptoRow.holds Try.pinned (OpenSpec.upto hmacChainsSpec)

end Rows
end Go.Proofs.Ytgceepjfnncilaa
