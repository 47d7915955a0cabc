/-
  No cell of these rows narrows 'for every input' (looked for: loops, veiled, ifaces, maps, wideKeys, modest, calm, conditions, laid).
  DERIVED. THE GIVEN ROWS OF THIS SEAT. 5 by the template 'for every input the law returns true; each argument reads behind the call as it read before'; 0 by the template 'total and deterministic' (their statements: YtpnbmfpdoipioaaTotals.lean).
  GIVEN WITH THE SEED: the statements are not yours to turn. If you find one false, say at which input.
  Laid BY PROGRAM, IN A SANDBOX (cutbox-rows.mjs): the forced cells as the released guide's own fill.sh prints them over the translation df1f5cba907de9d1… (all of the seat's roots in one cut). By AI agents, Wed Nov 11 2026. No macro, syntax, notation, axiom, sorry.
-/
import Derived.Test.YtpnbmfpdoipioaaChecked
import GoSem.Claim
import GoSem.ClaimJoined
import GoSem.ClaimMapViews
import Derived.JoinedTies
import Derived.KernelRfl
namespace Go.Proofs.Ytpnbmfpdoipioaa
/- THE CELL 'sum', in the pinned program and in every row, IS THE sha256 OF THE DUMP (.gsa) THAT YtpnbmfpdoipioaaProg.lean LOADS. Nothing in Lean hashes anything: it is a label: what it is worth is what the hold of that sum in a sandbox is worth. -/
noncomputable def Try.pinned : Pinned := { name := "ytpnbmfpdoipioaa", sum := "df1f5cba907de9d1e800413d316510b0c558811143cd17662555d126de3a4ede", checked := Try.checked }
namespace Rows
def none {H : Type} : Left H := { results := [], args := [] }

/-- 'vagabondlaw15.SenderEnds': WHATEVER THE INPUT: true; the input reads as it did. -/
def senderEndsSpec : ChangeSpec := { name := "senderEnds", fn := fun _ => fun
  | [d1, d2] => { results := [.lit (.bool true)], args := [d1, d2] }
  | _ => none }
def senderEndsRow : OpenClaim := { program := "ytpnbmfpdoipioaa", sum := "df1f5cba907de9d1e800413d316510b0c558811143cd17662555d126de3a4ede", func := "vagabond/vagabondlaw15.SenderEnds", spec := "senderEnds", unfollowed := true, recurses := true, apart := false }
def SenderEndsSaid : Prop := senderEndsRow.holds Try.pinned (OpenSpec.ofChange senderEndsSpec)

/-- ITS FALSE NEIGHBOUR: 'it returns false'. Refute it at one input. -/
def senderEndsWrong : ChangeSpec := { name := "senderEnds", fn := fun _ => fun
  | [d1, d2] => { results := [.lit (.bool false)], args := [d1, d2] }
  | _ => none }
def SenderEndsWrongFalsely : Prop := senderEndsRow.holds Try.pinned (OpenSpec.ofChange senderEndsWrong)

/-- 'vagabondlaw15.SenderBeats': WHATEVER THE INPUT: true; the input reads as it did. -/
def senderBeatsSpec : ChangeSpec := { name := "senderBeats", fn := fun _ => fun
  | [d1, d2] => { results := [.lit (.bool true)], args := [d1, d2] }
  | _ => none }
def senderBeatsRow : OpenClaim := { program := "ytpnbmfpdoipioaa", sum := "df1f5cba907de9d1e800413d316510b0c558811143cd17662555d126de3a4ede", func := "vagabond/vagabondlaw15.SenderBeats", spec := "senderBeats", unfollowed := true, recurses := true, apart := false }
def SenderBeatsSaid : Prop := senderBeatsRow.holds Try.pinned (OpenSpec.ofChange senderBeatsSpec)

/-- ITS FALSE NEIGHBOUR: 'it returns false'. Refute it at one input. -/
def senderBeatsWrong : ChangeSpec := { name := "senderBeats", fn := fun _ => fun
  | [d1, d2] => { results := [.lit (.bool false)], args := [d1, d2] }
  | _ => none }
def SenderBeatsWrongFalsely : Prop := senderBeatsRow.holds Try.pinned (OpenSpec.ofChange senderBeatsWrong)

/-- 'vagabondlaw15.SenderPlays': WHATEVER THE INPUT: true; the input reads as it did. -/
def senderPlaysSpec : ChangeSpec := { name := "senderPlays", fn := fun _ => fun
  | [d1, d2] => { results := [.lit (.bool true)], args := [d1, d2] }
  | _ => none }
def senderPlaysRow : OpenClaim := { program := "ytpnbmfpdoipioaa", sum := "df1f5cba907de9d1e800413d316510b0c558811143cd17662555d126de3a4ede", func := "vagabond/vagabondlaw15.SenderPlays", spec := "senderPlays", unfollowed := true, recurses := true, apart := false }
def SenderPlaysSaid : Prop := senderPlaysRow.holds Try.pinned (OpenSpec.ofChange senderPlaysSpec)

/-- ITS FALSE NEIGHBOUR: 'it returns false'. Refute it at one input. -/
def senderPlaysWrong : ChangeSpec := { name := "senderPlays", fn := fun _ => fun
  | [d1, d2] => { results := [.lit (.bool false)], args := [d1, d2] }
  | _ => none }
def SenderPlaysWrongFalsely : Prop := senderPlaysRow.holds Try.pinned (OpenSpec.ofChange senderPlaysWrong)

/-- 'vagabondlaw15.SenderTexts': WHATEVER THE INPUT: true; the input reads as it did. -/
def senderTextsSpec : ChangeSpec := { name := "senderTexts", fn := fun _ => fun
  | [d1, d2] => { results := [.lit (.bool true)], args := [d1, d2] }
  | _ => none }
def senderTextsRow : OpenClaim := { program := "ytpnbmfpdoipioaa", sum := "df1f5cba907de9d1e800413d316510b0c558811143cd17662555d126de3a4ede", func := "vagabond/vagabondlaw15.SenderTexts", spec := "senderTexts", unfollowed := true, recurses := true, apart := false }
def SenderTextsSaid : Prop := senderTextsRow.holds Try.pinned (OpenSpec.ofChange senderTextsSpec)

/-- ITS FALSE NEIGHBOUR: 'it returns false'. Refute it at one input. -/
def senderTextsWrong : ChangeSpec := { name := "senderTexts", fn := fun _ => fun
  | [d1, d2] => { results := [.lit (.bool false)], args := [d1, d2] }
  | _ => none }
def SenderTextsWrongFalsely : Prop := senderTextsRow.holds Try.pinned (OpenSpec.ofChange senderTextsWrong)

/-- 'vagabondlaw15.SenderFull': WHATEVER THE INPUT: true; the input reads as it did. -/
def senderFullSpec : ChangeSpec := { name := "senderFull", fn := fun _ => fun
  | [d1, d2, d3] => { results := [.lit (.bool true)], args := [d1, d2, d3] }
  | _ => none }
def senderFullRow : OpenClaim := { program := "ytpnbmfpdoipioaa", sum := "df1f5cba907de9d1e800413d316510b0c558811143cd17662555d126de3a4ede", func := "vagabond/vagabondlaw15.SenderFull", spec := "senderFull", inPlace := ["internal/abi.NoEscape", "internal/bytealg.MakeNoZero"], unfollowed := true, recurses := true, apart := false }
def SenderFullSaid : Prop := senderFullRow.holds Try.pinned (OpenSpec.ofChange senderFullSpec)

/-- ITS FALSE NEIGHBOUR: 'it returns false'. Refute it at one input. -/
def senderFullWrong : ChangeSpec := { name := "senderFull", fn := fun _ => fun
  | [d1, d2, d3] => { results := [.lit (.bool false)], args := [d1, d2, d3] }
  | _ => none }
def SenderFullWrongFalsely : Prop := senderFullRow.holds Try.pinned (OpenSpec.ofChange senderFullWrong)

/- THE SECOND FORM. 'bulk': how many values and letters a reading holds, each counted each time it is reached (what is shared counts as often as it is met; a slice's spare places count too). A statement '..UptoSaid' is the law's where the arguments, and the package variables that the reading takes, are together of bulk at most 1048576: NARROWER than '..Said'. Prove '..Said' where nothing that the law and all that it calls make is longer than what came in: it says more and counts as full. Else prove '..UptoSaid'. A law counts once. -/
mutual
def uptoBulk {H : Type} : DataW H → Nat
  | .lit (.string bytes) => bytes.length + 1
  | .lit _ => 1
  | .nil => 1
  | .ptr d => uptoBulk d + 1
  | .slice elems spare => uptoBulkAll elems + uptoBulkAll spare + 1
  | .agg parts => uptoBulkAll parts + 1
  | .iface _ d => uptoBulk d + 1
  | .map entries => uptoBulkEntries entries + 1
  | .held _ => 1
def uptoBulkAll {H : Type} : List (DataW H) → Nat
  | [] => 0
  | d :: r => uptoBulk d + uptoBulkAll r
def uptoBulkEntries {H : Type} : List (Lit × DataW H) → Nat
  | [] => 0
  | x :: r => uptoBulkEntry x + uptoBulkEntries r
def uptoBulkEntry {H : Type} : Lit × DataW H → Nat
  | (.string bytes, d) => bytes.length + uptoBulk d + 1
  | (_, d) => uptoBulk d + 1
 end
def uptoSmall : (H : Type) → List (DataW H) → Bool := fun _ ds => decide (uptoBulkAll ds ≤ 1048576)
def OpenSpec.upto (s : _root_.Go.ChangeSpec) : _root_.Go.OpenSpec := { _root_.Go.OpenSpec.ofChange s with cond := some uptoSmall }

/-- 'vagabondlaw15.SenderEnds', WHERE WHAT IT READS IS OF BULK AT MOST 1048576: true; the input reads as it did. -/
def senderEndsUptoRow : OpenClaim := { program := "ytpnbmfpdoipioaa", sum := "df1f5cba907de9d1e800413d316510b0c558811143cd17662555d126de3a4ede", func := "vagabond/vagabondlaw15.SenderEnds", spec := "senderEnds", unfollowed := true, recurses := true, apart := false, narrowed := true }
def SenderEndsUptoSaid : Prop := senderEndsUptoRow.holds Try.pinned (OpenSpec.upto senderEndsSpec)

/-- 'vagabondlaw15.SenderBeats', WHERE WHAT IT READS IS OF BULK AT MOST 1048576: true; the input reads as it did. -/
def senderBeatsUptoRow : OpenClaim := { program := "ytpnbmfpdoipioaa", sum := "df1f5cba907de9d1e800413d316510b0c558811143cd17662555d126de3a4ede", func := "vagabond/vagabondlaw15.SenderBeats", spec := "senderBeats", unfollowed := true, recurses := true, apart := false, narrowed := true }
def SenderBeatsUptoSaid : Prop := senderBeatsUptoRow.holds Try.pinned (OpenSpec.upto senderBeatsSpec)

/-- 'vagabondlaw15.SenderPlays', WHERE WHAT IT READS IS OF BULK AT MOST 1048576: true; the input reads as it did. -/
def senderPlaysUptoRow : OpenClaim := { program := "ytpnbmfpdoipioaa", sum := "df1f5cba907de9d1e800413d316510b0c558811143cd17662555d126de3a4ede", func := "vagabond/vagabondlaw15.SenderPlays", spec := "senderPlays", unfollowed := true, recurses := true, apart := false, narrowed := true }
def SenderPlaysUptoSaid : Prop := senderPlaysUptoRow.holds Try.pinned (OpenSpec.upto senderPlaysSpec)

/-- 'vagabondlaw15.SenderTexts', WHERE WHAT IT READS IS OF BULK AT MOST 1048576: true; the input reads as it did. -/
def senderTextsUptoRow : OpenClaim := { program := "ytpnbmfpdoipioaa", sum := "df1f5cba907de9d1e800413d316510b0c558811143cd17662555d126de3a4ede", func := "vagabond/vagabondlaw15.SenderTexts", spec := "senderTexts", unfollowed := true, recurses := true, apart := false, narrowed := true }
def SenderTextsUptoSaid : Prop := senderTextsUptoRow.holds Try.pinned (OpenSpec.upto senderTextsSpec)

/-- 'vagabondlaw15.SenderFull', WHERE WHAT IT READS IS OF BULK AT MOST 1048576: true; the input reads as it did. -/
def senderFullUptoRow : OpenClaim := { program := "ytpnbmfpdoipioaa", sum := "df1f5cba907de9d1e800413d316510b0c558811143cd17662555d126de3a4ede", func := "vagabond/vagabondlaw15.SenderFull", spec := "senderFull", inPlace := ["internal/abi.NoEscape", "internal/bytealg.MakeNoZero"], unfollowed := true, recurses := true, apart := false, narrowed := true }
def SenderFullUptoSaid : Prop := senderFullUptoRow.holds Try.pinned (OpenSpec.upto senderFullSpec)

end Rows
end Go.Proofs.Ytpnbmfpdoipioaa
