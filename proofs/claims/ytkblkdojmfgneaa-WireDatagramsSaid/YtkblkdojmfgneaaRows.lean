/-
  No cell of these rows narrows 'for every input' (looked for: loops, veiled, ifaces, maps, wideKeys, modest, calm, conditions, laid).
  DERIVED. THE GIVEN ROWS OF THIS SEAT. 11 by the template 'for every input the law returns true; each argument reads behind the call as it read before'; 0 by the template 'total and deterministic' (their statements: YtkblkdojmfgneaaTotals.lean).
  GIVEN WITH THE SEED: the statements are not yours to turn. If you find one false, say at which input.
  Laid BY PROGRAM, IN A SANDBOX (cutbox-rows.mjs): the forced cells as the released guide's own fill.sh prints them over the translation 0c34141c9b1ad9a7… (all of the seat's roots in one cut). By AI agents, Wed Nov 11 2026. No macro, syntax, notation, axiom, sorry.
-/
import Derived.Test.YtkblkdojmfgneaaChecked
import GoSem.Claim
import GoSem.ClaimJoined
import GoSem.ClaimMapViews
import Derived.JoinedTies
import Derived.KernelRfl
namespace Go.Proofs.Ytkblkdojmfgneaa
/- THE CELL 'sum', in the pinned program and in every row, IS THE sha256 OF THE DUMP (.gsa) THAT YtkblkdojmfgneaaProg.lean LOADS. Nothing in Lean hashes anything: it is a label: what it is worth is what the hold of that sum in a sandbox is worth. -/
noncomputable def Try.pinned : Pinned := { name := "ytkblkdojmfgneaa", sum := "0c34141c9b1ad9a7ad14f3138d65351a0f110425f2489e21c223edd21c58ac94", checked := Try.checked }
namespace Rows
def none {H : Type} : Left H := { results := [], args := [] }

/-- 'vagabondlaw06.CtrStreams': WHATEVER THE INPUT: true; the input reads as it did. -/
def ctrStreamsSpec : ChangeSpec := { name := "ctrStreams", fn := fun _ => fun
  | [d1, d2, d3, d4, d5] => { results := [.lit (.bool true)], args := [d1, d2, d3, d4, d5] }
  | _ => none }
def ctrStreamsRow : OpenClaim := { program := "ytkblkdojmfgneaa", sum := "0c34141c9b1ad9a7ad14f3138d65351a0f110425f2489e21c223edd21c58ac94", func := "vagabond/vagabondlaw06.CtrStreams", spec := "ctrStreams", inPlace := ["internal/abi.NoEscape", "internal/bytealg.MakeNoZero"], unfollowed := true, recurses := true, apart := false }
def CtrStreamsSaid : Prop := ctrStreamsRow.holds Try.pinned (OpenSpec.ofChange ctrStreamsSpec)

/-- ITS FALSE NEIGHBOUR: 'it returns false'. Refute it at one input. -/
def ctrStreamsWrong : ChangeSpec := { name := "ctrStreams", fn := fun _ => fun
  | [d1, d2, d3, d4, d5] => { results := [.lit (.bool false)], args := [d1, d2, d3, d4, d5] }
  | _ => none }
def CtrStreamsWrongFalsely : Prop := ctrStreamsRow.holds Try.pinned (OpenSpec.ofChange ctrStreamsWrong)

/-- 'vagabondlaw06.CtrLonger': WHATEVER THE INPUT: true; the input reads as it did. -/
def ctrLongerSpec : ChangeSpec := { name := "ctrLonger", fn := fun _ => fun
  | [d1, d2, d3, d4, d5, d6] => { results := [.lit (.bool true)], args := [d1, d2, d3, d4, d5, d6] }
  | _ => none }
def ctrLongerRow : OpenClaim := { program := "ytkblkdojmfgneaa", sum := "0c34141c9b1ad9a7ad14f3138d65351a0f110425f2489e21c223edd21c58ac94", func := "vagabond/vagabondlaw06.CtrLonger", spec := "ctrLonger", inPlace := ["internal/abi.NoEscape", "internal/bytealg.MakeNoZero"], unfollowed := true, recurses := true, apart := false }
def CtrLongerSaid : Prop := ctrLongerRow.holds Try.pinned (OpenSpec.ofChange ctrLongerSpec)

/-- ITS FALSE NEIGHBOUR: 'it returns false'. Refute it at one input. -/
def ctrLongerWrong : ChangeSpec := { name := "ctrLonger", fn := fun _ => fun
  | [d1, d2, d3, d4, d5, d6] => { results := [.lit (.bool false)], args := [d1, d2, d3, d4, d5, d6] }
  | _ => none }
def CtrLongerWrongFalsely : Prop := ctrLongerRow.holds Try.pinned (OpenSpec.ofChange ctrLongerWrong)

/-- 'vagabondlaw06.CtrBlocks': WHATEVER THE INPUT: true; the input reads as it did. -/
def ctrBlocksSpec : ChangeSpec := { name := "ctrBlocks", fn := fun _ => fun
  | [d1, d2, d3] => { results := [.lit (.bool true)], args := [d1, d2, d3] }
  | _ => none }
def ctrBlocksRow : OpenClaim := { program := "ytkblkdojmfgneaa", sum := "0c34141c9b1ad9a7ad14f3138d65351a0f110425f2489e21c223edd21c58ac94", func := "vagabond/vagabondlaw06.CtrBlocks", spec := "ctrBlocks", inPlace := ["internal/abi.NoEscape", "internal/bytealg.MakeNoZero"], unfollowed := true, recurses := true, apart := false }
def CtrBlocksSaid : Prop := ctrBlocksRow.holds Try.pinned (OpenSpec.ofChange ctrBlocksSpec)

/-- ITS FALSE NEIGHBOUR: 'it returns false'. Refute it at one input. -/
def ctrBlocksWrong : ChangeSpec := { name := "ctrBlocks", fn := fun _ => fun
  | [d1, d2, d3] => { results := [.lit (.bool false)], args := [d1, d2, d3] }
  | _ => none }
def CtrBlocksWrongFalsely : Prop := ctrBlocksRow.holds Try.pinned (OpenSpec.ofChange ctrBlocksWrong)

/-- 'vagabondlaw06.CtrParts': WHATEVER THE INPUT: true; the input reads as it did. -/
def ctrPartsSpec : ChangeSpec := { name := "ctrParts", fn := fun _ => fun
  | [d1, d2, d3, d4] => { results := [.lit (.bool true)], args := [d1, d2, d3, d4] }
  | _ => none }
def ctrPartsRow : OpenClaim := { program := "ytkblkdojmfgneaa", sum := "0c34141c9b1ad9a7ad14f3138d65351a0f110425f2489e21c223edd21c58ac94", func := "vagabond/vagabondlaw06.CtrParts", spec := "ctrParts", inPlace := ["internal/abi.NoEscape", "internal/bytealg.MakeNoZero"], unfollowed := true, recurses := true, apart := false }
def CtrPartsSaid : Prop := ctrPartsRow.holds Try.pinned (OpenSpec.ofChange ctrPartsSpec)

/-- ITS FALSE NEIGHBOUR: 'it returns false'. Refute it at one input. -/
def ctrPartsWrong : ChangeSpec := { name := "ctrParts", fn := fun _ => fun
  | [d1, d2, d3, d4] => { results := [.lit (.bool false)], args := [d1, d2, d3, d4] }
  | _ => none }
def CtrPartsWrongFalsely : Prop := ctrPartsRow.holds Try.pinned (OpenSpec.ofChange ctrPartsWrong)

/-- 'vagabondlaw07.SealApart': WHATEVER THE INPUT: true; the input reads as it did. -/
def sealApartSpec : ChangeSpec := { name := "sealApart", fn := fun _ => fun
  | [d1, d2, d3, d4, d5, d6, d7, d8] => { results := [.lit (.bool true)], args := [d1, d2, d3, d4, d5, d6, d7, d8] }
  | _ => none }
def sealApartRow : OpenClaim := { program := "ytkblkdojmfgneaa", sum := "0c34141c9b1ad9a7ad14f3138d65351a0f110425f2489e21c223edd21c58ac94", func := "vagabond/vagabondlaw07.SealApart", spec := "sealApart", inPlace := ["internal/abi.NoEscape", "internal/bytealg.MakeNoZero"], unfollowed := true, recurses := true, apart := false }
def SealApartSaid : Prop := sealApartRow.holds Try.pinned (OpenSpec.ofChange sealApartSpec)

/-- ITS FALSE NEIGHBOUR: 'it returns false'. Refute it at one input. -/
def sealApartWrong : ChangeSpec := { name := "sealApart", fn := fun _ => fun
  | [d1, d2, d3, d4, d5, d6, d7, d8] => { results := [.lit (.bool false)], args := [d1, d2, d3, d4, d5, d6, d7, d8] }
  | _ => none }
def SealApartWrongFalsely : Prop := sealApartRow.holds Try.pinned (OpenSpec.ofChange sealApartWrong)

/-- 'vagabondlaw07.SealKeys': WHATEVER THE INPUT: true; the input reads as it did. -/
def sealKeysSpec : ChangeSpec := { name := "sealKeys", fn := fun _ => fun
  | [d1, d2, d3, d4, d5] => { results := [.lit (.bool true)], args := [d1, d2, d3, d4, d5] }
  | _ => none }
def sealKeysRow : OpenClaim := { program := "ytkblkdojmfgneaa", sum := "0c34141c9b1ad9a7ad14f3138d65351a0f110425f2489e21c223edd21c58ac94", func := "vagabond/vagabondlaw07.SealKeys", spec := "sealKeys", inPlace := ["internal/abi.NoEscape", "internal/bytealg.MakeNoZero"], unfollowed := true, recurses := true, apart := false }
def SealKeysSaid : Prop := sealKeysRow.holds Try.pinned (OpenSpec.ofChange sealKeysSpec)

/-- ITS FALSE NEIGHBOUR: 'it returns false'. Refute it at one input. -/
def sealKeysWrong : ChangeSpec := { name := "sealKeys", fn := fun _ => fun
  | [d1, d2, d3, d4, d5] => { results := [.lit (.bool false)], args := [d1, d2, d3, d4, d5] }
  | _ => none }
def SealKeysWrongFalsely : Prop := sealKeysRow.holds Try.pinned (OpenSpec.ofChange sealKeysWrong)

/-- 'vagabondlaw07.SealBodies': WHATEVER THE INPUT: true; the input reads as it did. -/
def sealBodiesSpec : ChangeSpec := { name := "sealBodies", fn := fun _ => fun
  | [d1, d2, d3, d4, d5, d6, d7] => { results := [.lit (.bool true)], args := [d1, d2, d3, d4, d5, d6, d7] }
  | _ => none }
def sealBodiesRow : OpenClaim := { program := "ytkblkdojmfgneaa", sum := "0c34141c9b1ad9a7ad14f3138d65351a0f110425f2489e21c223edd21c58ac94", func := "vagabond/vagabondlaw07.SealBodies", spec := "sealBodies", inPlace := ["internal/abi.NoEscape", "internal/bytealg.MakeNoZero"], unfollowed := true, recurses := true, apart := false }
def SealBodiesSaid : Prop := sealBodiesRow.holds Try.pinned (OpenSpec.ofChange sealBodiesSpec)

/-- ITS FALSE NEIGHBOUR: 'it returns false'. Refute it at one input. -/
def sealBodiesWrong : ChangeSpec := { name := "sealBodies", fn := fun _ => fun
  | [d1, d2, d3, d4, d5, d6, d7] => { results := [.lit (.bool false)], args := [d1, d2, d3, d4, d5, d6, d7] }
  | _ => none }
def SealBodiesWrongFalsely : Prop := sealBodiesRow.holds Try.pinned (OpenSpec.ofChange sealBodiesWrong)

/-- 'vagabondlaw09.WireParts': WHATEVER THE INPUT: true; the input reads as it did. -/
def wirePartsSpec : ChangeSpec := { name := "wireParts", fn := fun _ => fun
  | [d1, d2] => { results := [.lit (.bool true)], args := [d1, d2] }
  | _ => none }
def wirePartsRow : OpenClaim := { program := "ytkblkdojmfgneaa", sum := "0c34141c9b1ad9a7ad14f3138d65351a0f110425f2489e21c223edd21c58ac94", func := "vagabond/vagabondlaw09.WireParts", spec := "wireParts", inPlace := ["internal/abi.NoEscape", "internal/bytealg.MakeNoZero"], unfollowed := true, recurses := true, apart := false }
def WirePartsSaid : Prop := wirePartsRow.holds Try.pinned (OpenSpec.ofChange wirePartsSpec)

/-- ITS FALSE NEIGHBOUR: 'it returns false'. Refute it at one input. -/
def wirePartsWrong : ChangeSpec := { name := "wireParts", fn := fun _ => fun
  | [d1, d2] => { results := [.lit (.bool false)], args := [d1, d2] }
  | _ => none }
def WirePartsWrongFalsely : Prop := wirePartsRow.holds Try.pinned (OpenSpec.ofChange wirePartsWrong)

/-- 'vagabondlaw09.WireDatagrams': WHATEVER THE INPUT: true; the input reads as it did. -/
def wireDatagramsSpec : ChangeSpec := { name := "wireDatagrams", fn := fun _ => fun
  | [d1, d2] => { results := [.lit (.bool true)], args := [d1, d2] }
  | _ => none }
def wireDatagramsRow : OpenClaim := { program := "ytkblkdojmfgneaa", sum := "0c34141c9b1ad9a7ad14f3138d65351a0f110425f2489e21c223edd21c58ac94", func := "vagabond/vagabondlaw09.WireDatagrams", spec := "wireDatagrams", inPlace := ["internal/abi.NoEscape", "internal/bytealg.MakeNoZero"], unfollowed := true, recurses := true, apart := false }
def WireDatagramsSaid : Prop := wireDatagramsRow.holds Try.pinned (OpenSpec.ofChange wireDatagramsSpec)

/-- ITS FALSE NEIGHBOUR: 'it returns false'. Refute it at one input. -/
def wireDatagramsWrong : ChangeSpec := { name := "wireDatagrams", fn := fun _ => fun
  | [d1, d2] => { results := [.lit (.bool false)], args := [d1, d2] }
  | _ => none }
def WireDatagramsWrongFalsely : Prop := wireDatagramsRow.holds Try.pinned (OpenSpec.ofChange wireDatagramsWrong)

/-- 'vagabondlaw09.WireRooms': WHATEVER THE INPUT: true; the input reads as it did. -/
def wireRoomsSpec : ChangeSpec := { name := "wireRooms", fn := fun _ => fun
  | [d1, d2, d3] => { results := [.lit (.bool true)], args := [d1, d2, d3] }
  | _ => none }
def wireRoomsRow : OpenClaim := { program := "ytkblkdojmfgneaa", sum := "0c34141c9b1ad9a7ad14f3138d65351a0f110425f2489e21c223edd21c58ac94", func := "vagabond/vagabondlaw09.WireRooms", spec := "wireRooms", inPlace := ["internal/abi.NoEscape", "internal/bytealg.MakeNoZero"], unfollowed := true, recurses := true, apart := false }
def WireRoomsSaid : Prop := wireRoomsRow.holds Try.pinned (OpenSpec.ofChange wireRoomsSpec)

/-- ITS FALSE NEIGHBOUR: 'it returns false'. Refute it at one input. -/
def wireRoomsWrong : ChangeSpec := { name := "wireRooms", fn := fun _ => fun
  | [d1, d2, d3] => { results := [.lit (.bool false)], args := [d1, d2, d3] }
  | _ => none }
def WireRoomsWrongFalsely : Prop := wireRoomsRow.holds Try.pinned (OpenSpec.ofChange wireRoomsWrong)

/-- 'vagabondlaw09.WireSealed': WHATEVER THE INPUT: true; the input reads as it did. -/
def wireSealedSpec : ChangeSpec := { name := "wireSealed", fn := fun _ => fun
  | [d1, d2, d3, d4, d5] => { results := [.lit (.bool true)], args := [d1, d2, d3, d4, d5] }
  | _ => none }
def wireSealedRow : OpenClaim := { program := "ytkblkdojmfgneaa", sum := "0c34141c9b1ad9a7ad14f3138d65351a0f110425f2489e21c223edd21c58ac94", func := "vagabond/vagabondlaw09.WireSealed", spec := "wireSealed", inPlace := ["internal/abi.NoEscape", "internal/bytealg.MakeNoZero"], unfollowed := true, recurses := true, apart := false }
def WireSealedSaid : Prop := wireSealedRow.holds Try.pinned (OpenSpec.ofChange wireSealedSpec)

/-- ITS FALSE NEIGHBOUR: 'it returns false'. Refute it at one input. -/
def wireSealedWrong : ChangeSpec := { name := "wireSealed", fn := fun _ => fun
  | [d1, d2, d3, d4, d5] => { results := [.lit (.bool false)], args := [d1, d2, d3, d4, d5] }
  | _ => none }
def WireSealedWrongFalsely : Prop := wireSealedRow.holds Try.pinned (OpenSpec.ofChange wireSealedWrong)

/- THE SECOND FORM. 'bulk': how many values and letters a reading holds, each counted each time it is reached (what is shared counts as often as it is met; a slice's spare places count too). A statement '..UptoSaid' is the law's where the arguments, and the package variables that the reading takes, are together of bulk at most 1048576: NARROWER than '..Said'. Prove '..Said' where nothing that the law and all that it calls make is longer than what came in: it says more and counts as full. Else prove '..UptoSaid'. A law counts once. -/
mutual
def uptoBulk {H : Type} : DataW H → Nat
  | .lit (.string bytes) => bytes.length + 1
  | .lit _ => 1
  | .nil => 1
  | .ptr d => uptoBulk d + 1
  | .slice elems spare => uptoBulkAll elems + uptoBulkAll spare + 1
  | .agg parts => uptoBulkAll parts + 1
  | .iface _ d => uptoBulk d + 1
  | .map entries => uptoBulkEntries entries + 1
  | .held _ => 1
def uptoBulkAll {H : Type} : List (DataW H) → Nat
  | [] => 0
  | d :: r => uptoBulk d + uptoBulkAll r
def uptoBulkEntries {H : Type} : List (Lit × DataW H) → Nat
  | [] => 0
  | x :: r => uptoBulkEntry x + uptoBulkEntries r
def uptoBulkEntry {H : Type} : Lit × DataW H → Nat
  | (.string bytes, d) => bytes.length + uptoBulk d + 1
  | (_, d) => uptoBulk d + 1
 end
def uptoSmall : (H : Type) → List (DataW H) → Bool := fun _ ds => decide (uptoBulkAll ds ≤ 1048576)
def OpenSpec.upto (s : _root_.Go.ChangeSpec) : _root_.Go.OpenSpec := { _root_.Go.OpenSpec.ofChange s with cond := some uptoSmall }

/-- 'vagabondlaw06.CtrStreams', WHERE WHAT IT READS IS OF BULK AT MOST 1048576: true; the input reads as it did. -/
def ctrStreamsUptoRow : OpenClaim := { program := "ytkblkdojmfgneaa", sum := "0c34141c9b1ad9a7ad14f3138d65351a0f110425f2489e21c223edd21c58ac94", func := "vagabond/vagabondlaw06.CtrStreams", spec := "ctrStreams", inPlace := ["internal/abi.NoEscape", "internal/bytealg.MakeNoZero"], unfollowed := true, recurses := true, apart := false, narrowed := true }
def CtrStreamsUptoSaid : Prop := ctrStreamsUptoRow.holds Try.pinned (OpenSpec.upto ctrStreamsSpec)

/-- 'vagabondlaw06.CtrLonger', WHERE WHAT IT READS IS OF BULK AT MOST 1048576: true; the input reads as it did. -/
def ctrLongerUptoRow : OpenClaim := { program := "ytkblkdojmfgneaa", sum := "0c34141c9b1ad9a7ad14f3138d65351a0f110425f2489e21c223edd21c58ac94", func := "vagabond/vagabondlaw06.CtrLonger", spec := "ctrLonger", inPlace := ["internal/abi.NoEscape", "internal/bytealg.MakeNoZero"], unfollowed := true, recurses := true, apart := false, narrowed := true }
def CtrLongerUptoSaid : Prop := ctrLongerUptoRow.holds Try.pinned (OpenSpec.upto ctrLongerSpec)

/-- 'vagabondlaw06.CtrBlocks', WHERE WHAT IT READS IS OF BULK AT MOST 1048576: true; the input reads as it did. -/
def ctrBlocksUptoRow : OpenClaim := { program := "ytkblkdojmfgneaa", sum := "0c34141c9b1ad9a7ad14f3138d65351a0f110425f2489e21c223edd21c58ac94", func := "vagabond/vagabondlaw06.CtrBlocks", spec := "ctrBlocks", inPlace := ["internal/abi.NoEscape", "internal/bytealg.MakeNoZero"], unfollowed := true, recurses := true, apart := false, narrowed := true }
def CtrBlocksUptoSaid : Prop := ctrBlocksUptoRow.holds Try.pinned (OpenSpec.upto ctrBlocksSpec)

/-- 'vagabondlaw06.CtrParts', WHERE WHAT IT READS IS OF BULK AT MOST 1048576: true; the input reads as it did. -/
def ctrPartsUptoRow : OpenClaim := { program := "ytkblkdojmfgneaa", sum := "0c34141c9b1ad9a7ad14f3138d65351a0f110425f2489e21c223edd21c58ac94", func := "vagabond/vagabondlaw06.CtrParts", spec := "ctrParts", inPlace := ["internal/abi.NoEscape", "internal/bytealg.MakeNoZero"], unfollowed := true, recurses := true, apart := false, narrowed := true }
def CtrPartsUptoSaid : Prop := ctrPartsUptoRow.holds Try.pinned (OpenSpec.upto ctrPartsSpec)

/-- 'vagabondlaw07.SealApart', WHERE WHAT IT READS IS OF BULK AT MOST 1048576: true; the input reads as it did. -/
def sealApartUptoRow : OpenClaim := { program := "ytkblkdojmfgneaa", sum := "0c34141c9b1ad9a7ad14f3138d65351a0f110425f2489e21c223edd21c58ac94", func := "vagabond/vagabondlaw07.SealApart", spec := "sealApart", inPlace := ["internal/abi.NoEscape", "internal/bytealg.MakeNoZero"], unfollowed := true, recurses := true, apart := false, narrowed := true }
def SealApartUptoSaid : Prop := sealApartUptoRow.holds Try.pinned (OpenSpec.upto sealApartSpec)

/-- 'vagabondlaw07.SealKeys', WHERE WHAT IT READS IS OF BULK AT MOST 1048576: true; the input reads as it did. -/
def sealKeysUptoRow : OpenClaim := { program := "ytkblkdojmfgneaa", sum := "0c34141c9b1ad9a7ad14f3138d65351a0f110425f2489e21c223edd21c58ac94", func := "vagabond/vagabondlaw07.SealKeys", spec := "sealKeys", inPlace := ["internal/abi.NoEscape", "internal/bytealg.MakeNoZero"], unfollowed := true, recurses := true, apart := false, narrowed := true }
def SealKeysUptoSaid : Prop := sealKeysUptoRow.holds Try.pinned (OpenSpec.upto sealKeysSpec)

/-- 'vagabondlaw07.SealBodies', WHERE WHAT IT READS IS OF BULK AT MOST 1048576: true; the input reads as it did. -/
def sealBodiesUptoRow : OpenClaim := { program := "ytkblkdojmfgneaa", sum := "0c34141c9b1ad9a7ad14f3138d65351a0f110425f2489e21c223edd21c58ac94", func := "vagabond/vagabondlaw07.SealBodies", spec := "sealBodies", inPlace := ["internal/abi.NoEscape", "internal/bytealg.MakeNoZero"], unfollowed := true, recurses := true, apart := false, narrowed := true }
def SealBodiesUptoSaid : Prop := sealBodiesUptoRow.holds Try.pinned (OpenSpec.upto sealBodiesSpec)

/-- 'vagabondlaw09.WireParts', WHERE WHAT IT READS IS OF BULK AT MOST 1048576: true; the input reads as it did. -/
def wirePartsUptoRow : OpenClaim := { program := "ytkblkdojmfgneaa", sum := "0c34141c9b1ad9a7ad14f3138d65351a0f110425f2489e21c223edd21c58ac94", func := "vagabond/vagabondlaw09.WireParts", spec := "wireParts", inPlace := ["internal/abi.NoEscape", "internal/bytealg.MakeNoZero"], unfollowed := true, recurses := true, apart := false, narrowed := true }
def WirePartsUptoSaid : Prop := wirePartsUptoRow.holds Try.pinned (OpenSpec.upto wirePartsSpec)

/-- 'vagabondlaw09.WireDatagrams', WHERE WHAT IT READS IS OF BULK AT MOST 1048576: true; the input reads as it did. -/
def wireDatagramsUptoRow : OpenClaim := { program := "ytkblkdojmfgneaa", sum := "0c34141c9b1ad9a7ad14f3138d65351a0f110425f2489e21c223edd21c58ac94", func := "vagabond/vagabondlaw09.WireDatagrams", spec := "wireDatagrams", inPlace := ["internal/abi.NoEscape", "internal/bytealg.MakeNoZero"], unfollowed := true, recurses := true, apart := false, narrowed := true }
def WireDatagramsUptoSaid : Prop := wireDatagramsUptoRow.holds Try.pinned (OpenSpec.upto wireDatagramsSpec)

/-- 'vagabondlaw09.WireRooms', WHERE WHAT IT READS IS OF BULK AT MOST 1048576: true; the input reads as it did. -/
def wireRoomsUptoRow : OpenClaim := { program := "ytkblkdojmfgneaa", sum := "0c34141c9b1ad9a7ad14f3138d65351a0f110425f2489e21c223edd21c58ac94", func := "vagabond/vagabondlaw09.WireRooms", spec := "wireRooms", inPlace := ["internal/abi.NoEscape", "internal/bytealg.MakeNoZero"], unfollowed := true, recurses := true, apart := false, narrowed := true }
def WireRoomsUptoSaid : Prop := wireRoomsUptoRow.holds Try.pinned (OpenSpec.upto wireRoomsSpec)

/-- 'vagabondlaw09.WireSealed', WHERE WHAT IT READS IS OF BULK AT MOST 1048576: true; the input reads as it did. -/
def wireSealedUptoRow : OpenClaim := { program := "ytkblkdojmfgneaa", sum := "0c34141c9b1ad9a7ad14f3138d65351a0f110425f2489e21c223edd21c58ac94", func := "vagabond/vagabondlaw09.WireSealed", spec := "wireSealed", inPlace := ["internal/abi.NoEscape", "internal/bytealg.MakeNoZero"], unfollowed := true, recurses := true, apart := false, narrowed := true }
def WireSealedUptoSaid : Prop := wireSealedUptoRow.holds Try.pinned (OpenSpec.upto wireSealedSpec)

end Rows
end Go.Proofs.Ytkblkdojmfgneaa
