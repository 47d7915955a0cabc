/-
  No cell of these rows narrows 'for every input' (looked for: loops, veiled, ifaces, maps, wideKeys, modest, calm, conditions, laid).
  DERIVED. THE GIVEN ROWS OF THIS SEAT. 7 by the template 'for every input the law returns true; each argument reads behind the call as it read before'; 0 by the template 'total and deterministic' (their statements: YtkfgbaieghlhkaaTotals.lean).
  GIVEN WITH THE SEED: the statements are not yours to turn. If you find one false, say at which input.
  Laid BY PROGRAM, IN A SANDBOX (cutbox-rows.mjs): the forced cells as the released guide's own fill.sh prints them over the translation c4a3668eb3c00b36… (all of the seat's roots in one cut). By AI agents, Wed Nov 11 2026. No macro, syntax, notation, axiom, sorry.
-/
import Derived.Test.YtkfgbaieghlhkaaChecked
import GoSem.Claim
import GoSem.ClaimJoined
import GoSem.ClaimMapViews
import Derived.JoinedTies
import Derived.KernelRfl
namespace Go.Proofs.Ytkfgbaieghlhkaa
/- THE CELL 'sum', in the pinned program and in every row, IS THE sha256 OF THE DUMP (.gsa) THAT YtkfgbaieghlhkaaProg.lean LOADS. Nothing in Lean hashes anything: it is a label: what it is worth is what the hold of that sum in a sandbox is worth. -/
noncomputable def Try.pinned : Pinned := { name := "ytkfgbaieghlhkaa", sum := "c4a3668eb3c00b3622894ef7c5af165f05795a3435f41e770c636e6e32a12cd4", checked := Try.checked }
namespace Rows
def none {H : Type} : Left H := { results := [], args := [] }

/-- 'vagabondlaw08.PoolFills': WHATEVER THE INPUT: true; the input reads as it did. -/
def poolFillsSpec : ChangeSpec := { name := "poolFills", fn := fun _ => fun
  | [d1, d2] => { results := [.lit (.bool true)], args := [d1, d2] }
  | _ => none }
def poolFillsRow : OpenClaim := { program := "ytkfgbaieghlhkaa", sum := "c4a3668eb3c00b3622894ef7c5af165f05795a3435f41e770c636e6e32a12cd4", func := "vagabond/vagabondlaw08.PoolFills", spec := "poolFills", unfollowed := true, recurses := true, apart := false }
def PoolFillsSaid : Prop := poolFillsRow.holds Try.pinned (OpenSpec.ofChange poolFillsSpec)

/-- ITS FALSE NEIGHBOUR: 'it returns false'. Refute it at one input. -/
def poolFillsWrong : ChangeSpec := { name := "poolFills", fn := fun _ => fun
  | [d1, d2] => { results := [.lit (.bool false)], args := [d1, d2] }
  | _ => none }
def PoolFillsWrongFalsely : Prop := poolFillsRow.holds Try.pinned (OpenSpec.ofChange poolFillsWrong)

/-- 'vagabondlaw08.PoolNil': WHATEVER THE INPUT: true; the input reads as it did. -/
def poolNilSpec : ChangeSpec := { name := "poolNil", fn := fun _ => fun
  | [] => { results := [.lit (.bool true)], args := [] }
  | _ => none }
def poolNilRow : OpenClaim := { program := "ytkfgbaieghlhkaa", sum := "c4a3668eb3c00b3622894ef7c5af165f05795a3435f41e770c636e6e32a12cd4", func := "vagabond/vagabondlaw08.PoolNil", spec := "poolNil", unfollowed := true, recurses := true, apart := false }
def PoolNilSaid : Prop := poolNilRow.holds Try.pinned (OpenSpec.ofChange poolNilSpec)

/-- ITS FALSE NEIGHBOUR: 'it returns false'. Refute it at one input. -/
def poolNilWrong : ChangeSpec := { name := "poolNil", fn := fun _ => fun
  | [] => { results := [.lit (.bool false)], args := [] }
  | _ => none }
def PoolNilWrongFalsely : Prop := poolNilRow.holds Try.pinned (OpenSpec.ofChange poolNilWrong)

/-- 'vagabondlaw22.BatchNil': WHATEVER THE INPUT: true; the input reads as it did. -/
def batchNilSpec : ChangeSpec := { name := "batchNil", fn := fun _ => fun
  | [] => { results := [.lit (.bool true)], args := [] }
  | _ => none }
def batchNilRow : OpenClaim := { program := "ytkfgbaieghlhkaa", sum := "c4a3668eb3c00b3622894ef7c5af165f05795a3435f41e770c636e6e32a12cd4", func := "vagabond/vagabondlaw22.BatchNil", spec := "batchNil", unfollowed := true, recurses := true, apart := false }
def BatchNilSaid : Prop := batchNilRow.holds Try.pinned (OpenSpec.ofChange batchNilSpec)

/-- ITS FALSE NEIGHBOUR: 'it returns false'. Refute it at one input. -/
def batchNilWrong : ChangeSpec := { name := "batchNil", fn := fun _ => fun
  | [] => { results := [.lit (.bool false)], args := [] }
  | _ => none }
def BatchNilWrongFalsely : Prop := batchNilRow.holds Try.pinned (OpenSpec.ofChange batchNilWrong)

/-- 'vagabondlaw22.BatchShares': WHATEVER THE INPUT: true; the input reads as it did. -/
def batchSharesSpec : ChangeSpec := { name := "batchShares", fn := fun _ => fun
  | [d1, d2, d3] => { results := [.lit (.bool true)], args := [d1, d2, d3] }
  | _ => none }
def batchSharesRow : OpenClaim := { program := "ytkfgbaieghlhkaa", sum := "c4a3668eb3c00b3622894ef7c5af165f05795a3435f41e770c636e6e32a12cd4", func := "vagabond/vagabondlaw22.BatchShares", spec := "batchShares", unfollowed := true, recurses := true, apart := false }
def BatchSharesSaid : Prop := batchSharesRow.holds Try.pinned (OpenSpec.ofChange batchSharesSpec)

/-- ITS FALSE NEIGHBOUR: 'it returns false'. Refute it at one input. -/
def batchSharesWrong : ChangeSpec := { name := "batchShares", fn := fun _ => fun
  | [d1, d2, d3] => { results := [.lit (.bool false)], args := [d1, d2, d3] }
  | _ => none }
def BatchSharesWrongFalsely : Prop := batchSharesRow.holds Try.pinned (OpenSpec.ofChange batchSharesWrong)

/-- 'vagabondlaw08.PoolTurns': WHATEVER THE INPUT: true; the input reads as it did. -/
def poolTurnsSpec : ChangeSpec := { name := "poolTurns", fn := fun _ => fun
  | [d1, d2] => { results := [.lit (.bool true)], args := [d1, d2] }
  | _ => none }
def poolTurnsRow : OpenClaim := { program := "ytkfgbaieghlhkaa", sum := "c4a3668eb3c00b3622894ef7c5af165f05795a3435f41e770c636e6e32a12cd4", func := "vagabond/vagabondlaw08.PoolTurns", spec := "poolTurns", inPlace := ["internal/abi.NoEscape", "internal/bytealg.MakeNoZero"], unfollowed := true, recurses := true, apart := false }
def PoolTurnsSaid : Prop := poolTurnsRow.holds Try.pinned (OpenSpec.ofChange poolTurnsSpec)

/-- ITS FALSE NEIGHBOUR: 'it returns false'. Refute it at one input. -/
def poolTurnsWrong : ChangeSpec := { name := "poolTurns", fn := fun _ => fun
  | [d1, d2] => { results := [.lit (.bool false)], args := [d1, d2] }
  | _ => none }
def PoolTurnsWrongFalsely : Prop := poolTurnsRow.holds Try.pinned (OpenSpec.ofChange poolTurnsWrong)

/-- 'vagabondlaw08.PoolOwners': WHATEVER THE INPUT: true; the input reads as it did. -/
def poolOwnersSpec : ChangeSpec := { name := "poolOwners", fn := fun _ => fun
  | [d1, d2] => { results := [.lit (.bool true)], args := [d1, d2] }
  | _ => none }
def poolOwnersRow : OpenClaim := { program := "ytkfgbaieghlhkaa", sum := "c4a3668eb3c00b3622894ef7c5af165f05795a3435f41e770c636e6e32a12cd4", func := "vagabond/vagabondlaw08.PoolOwners", spec := "poolOwners", inPlace := ["internal/abi.NoEscape", "internal/bytealg.MakeNoZero"], unfollowed := true, recurses := true, apart := false }
def PoolOwnersSaid : Prop := poolOwnersRow.holds Try.pinned (OpenSpec.ofChange poolOwnersSpec)

/-- ITS FALSE NEIGHBOUR: 'it returns false'. Refute it at one input. -/
def poolOwnersWrong : ChangeSpec := { name := "poolOwners", fn := fun _ => fun
  | [d1, d2] => { results := [.lit (.bool false)], args := [d1, d2] }
  | _ => none }
def PoolOwnersWrongFalsely : Prop := poolOwnersRow.holds Try.pinned (OpenSpec.ofChange poolOwnersWrong)

/-- 'vagabondlaw22.BatchTurns': WHATEVER THE INPUT: true; the input reads as it did. -/
def batchTurnsSpec : ChangeSpec := { name := "batchTurns", fn := fun _ => fun
  | [d1, d2, d3] => { results := [.lit (.bool true)], args := [d1, d2, d3] }
  | _ => none }
def batchTurnsRow : OpenClaim := { program := "ytkfgbaieghlhkaa", sum := "c4a3668eb3c00b3622894ef7c5af165f05795a3435f41e770c636e6e32a12cd4", func := "vagabond/vagabondlaw22.BatchTurns", spec := "batchTurns", inPlace := ["internal/abi.NoEscape", "internal/bytealg.MakeNoZero"], unfollowed := true, recurses := true, apart := false }
def BatchTurnsSaid : Prop := batchTurnsRow.holds Try.pinned (OpenSpec.ofChange batchTurnsSpec)

/-- ITS FALSE NEIGHBOUR: 'it returns false'. Refute it at one input. -/
def batchTurnsWrong : ChangeSpec := { name := "batchTurns", fn := fun _ => fun
  | [d1, d2, d3] => { results := [.lit (.bool false)], args := [d1, d2, d3] }
  | _ => none }
def BatchTurnsWrongFalsely : Prop := batchTurnsRow.holds Try.pinned (OpenSpec.ofChange batchTurnsWrong)

/- THE SECOND FORM. 'bulk': how many values and letters a reading holds, each counted each time it is reached (what is shared counts as often as it is met; a slice's spare places count too). A statement '..UptoSaid' is the law's where the arguments, and the package variables that the reading takes, are together of bulk at most 1048576: NARROWER than '..Said'. Prove '..Said' where nothing that the law and all that it calls make is longer than what came in: it says more and counts as full. Else prove '..UptoSaid'. A law counts once. -/
mutual
def uptoBulk {H : Type} : DataW H → Nat
  | .lit (.string bytes) => bytes.length + 1
  | .lit _ => 1
  | .nil => 1
  | .ptr d => uptoBulk d + 1
  | .slice elems spare => uptoBulkAll elems + uptoBulkAll spare + 1
  | .agg parts => uptoBulkAll parts + 1
  | .iface _ d => uptoBulk d + 1
  | .map entries => uptoBulkEntries entries + 1
  | .held _ => 1
def uptoBulkAll {H : Type} : List (DataW H) → Nat
  | [] => 0
  | d :: r => uptoBulk d + uptoBulkAll r
def uptoBulkEntries {H : Type} : List (Lit × DataW H) → Nat
  | [] => 0
  | x :: r => uptoBulkEntry x + uptoBulkEntries r
def uptoBulkEntry {H : Type} : Lit × DataW H → Nat
  | (.string bytes, d) => bytes.length + uptoBulk d + 1
  | (_, d) => uptoBulk d + 1
 end
def uptoSmall : (H : Type) → List (DataW H) → Bool := fun _ ds => decide (uptoBulkAll ds ≤ 1048576)
def OpenSpec.upto (s : _root_.Go.ChangeSpec) : _root_.Go.OpenSpec := { _root_.Go.OpenSpec.ofChange s with cond := some uptoSmall }

/-- 'vagabondlaw08.PoolFills', WHERE WHAT IT READS IS OF BULK AT MOST 1048576: true; the input reads as it did. -/
def poolFillsUptoRow : OpenClaim := { program := "ytkfgbaieghlhkaa", sum := "c4a3668eb3c00b3622894ef7c5af165f05795a3435f41e770c636e6e32a12cd4", func := "vagabond/vagabondlaw08.PoolFills", spec := "poolFills", unfollowed := true, recurses := true, apart := false, narrowed := true }
def PoolFillsUptoSaid : Prop := poolFillsUptoRow.holds Try.pinned (OpenSpec.upto poolFillsSpec)

/-- 'vagabondlaw08.PoolNil', WHERE WHAT IT READS IS OF BULK AT MOST 1048576: true; the input reads as it did. -/
def poolNilUptoRow : OpenClaim := { program := "ytkfgbaieghlhkaa", sum := "c4a3668eb3c00b3622894ef7c5af165f05795a3435f41e770c636e6e32a12cd4", func := "vagabond/vagabondlaw08.PoolNil", spec := "poolNil", unfollowed := true, recurses := true, apart := false, narrowed := true }
def PoolNilUptoSaid : Prop := poolNilUptoRow.holds Try.pinned (OpenSpec.upto poolNilSpec)

/-- 'vagabondlaw22.BatchNil', WHERE WHAT IT READS IS OF BULK AT MOST 1048576: true; the input reads as it did. -/
def batchNilUptoRow : OpenClaim := { program := "ytkfgbaieghlhkaa", sum := "c4a3668eb3c00b3622894ef7c5af165f05795a3435f41e770c636e6e32a12cd4", func := "vagabond/vagabondlaw22.BatchNil", spec := "batchNil", unfollowed := true, recurses := true, apart := false, narrowed := true }
def BatchNilUptoSaid : Prop := batchNilUptoRow.holds Try.pinned (OpenSpec.upto batchNilSpec)

/-- 'vagabondlaw22.BatchShares', WHERE WHAT IT READS IS OF BULK AT MOST 1048576: true; the input reads as it did. -/
def batchSharesUptoRow : OpenClaim := { program := "ytkfgbaieghlhkaa", sum := "c4a3668eb3c00b3622894ef7c5af165f05795a3435f41e770c636e6e32a12cd4", func := "vagabond/vagabondlaw22.BatchShares", spec := "batchShares", unfollowed := true, recurses := true, apart := false, narrowed := true }
def BatchSharesUptoSaid : Prop := batchSharesUptoRow.holds Try.pinned (OpenSpec.upto batchSharesSpec)

/-- 'vagabondlaw08.PoolTurns', WHERE WHAT IT READS IS OF BULK AT MOST 1048576: true; the input reads as it did. -/
def poolTurnsUptoRow : OpenClaim := { program := "ytkfgbaieghlhkaa", sum := "c4a3668eb3c00b3622894ef7c5af165f05795a3435f41e770c636e6e32a12cd4", func := "vagabond/vagabondlaw08.PoolTurns", spec := "poolTurns", inPlace := ["internal/abi.NoEscape", "internal/bytealg.MakeNoZero"], unfollowed := true, recurses := true, apart := false, narrowed := true }
def PoolTurnsUptoSaid : Prop := poolTurnsUptoRow.holds Try.pinned (OpenSpec.upto poolTurnsSpec)

/-- 'vagabondlaw08.PoolOwners', WHERE WHAT IT READS IS OF BULK AT MOST 1048576: true; the input reads as it did. -/
def poolOwnersUptoRow : OpenClaim := { program := "ytkfgbaieghlhkaa", sum := "c4a3668eb3c00b3622894ef7c5af165f05795a3435f41e770c636e6e32a12cd4", func := "vagabond/vagabondlaw08.PoolOwners", spec := "poolOwners", inPlace := ["internal/abi.NoEscape", "internal/bytealg.MakeNoZero"], unfollowed := true, recurses := true, apart := false, narrowed := true }
def PoolOwnersUptoSaid : Prop := poolOwnersUptoRow.holds Try.pinned (OpenSpec.upto poolOwnersSpec)

/-- 'vagabondlaw22.BatchTurns', WHERE WHAT IT READS IS OF BULK AT MOST 1048576: true; the input reads as it did. -/
def batchTurnsUptoRow : OpenClaim := { program := "ytkfgbaieghlhkaa", sum := "c4a3668eb3c00b3622894ef7c5af165f05795a3435f41e770c636e6e32a12cd4", func := "vagabond/vagabondlaw22.BatchTurns", spec := "batchTurns", inPlace := ["internal/abi.NoEscape", "internal/bytealg.MakeNoZero"], unfollowed := true, recurses := true, apart := false, narrowed := true }
def BatchTurnsUptoSaid : Prop := batchTurnsUptoRow.holds Try.pinned (OpenSpec.upto batchTurnsSpec)

end Rows
end Go.Proofs.Ytkfgbaieghlhkaa
