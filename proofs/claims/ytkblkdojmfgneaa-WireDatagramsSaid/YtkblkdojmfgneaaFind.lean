/- A function's block, its region, by number. -/
import Derived.Test.YtkblkdojmfgneaaBase
namespace Go.Proofs.Ytkblkdojmfgneaa
def findBlock (n : Nat) : Code → Option Code
  | .block m c => if m = n then some (.block m c) else findBlock n c
  | .seq a b => match findBlock n a with
    | some c => some c
    | none => findBlock n b
  | .loop c => findBlock n c
  | .scope c => findBlock n c
  | .cond _ a b => match findBlock n a with
    | some c => some c
    | none => findBlock n b
  | _ => none
def findRegion (n : Nat) : Code → Option Code
  | .region m ops d => if m = n then some (.region m ops d) else none
  | .block _ c => findRegion n c
  | .seq a b => match findRegion n a with
    | some c => some c
    | none => findRegion n b
  | .loop c => findRegion n c
  | .scope c => findRegion n c
  | .cond _ a b => match findRegion n a with
    | some c => some c
    | none => findRegion n b
  | _ => none
def headIs (n : Nat) : Code → Bool
  | .region m _ _ => m == n
  | .seq a _ => headIs n a
  | _ => false
/-- The sequence that begins with region n, to its end. -/
def findFrom (n : Nat) : Code → Option Code
  | .block _ c => findFrom n c
  | .seq a b => if headIs n a then some (.seq a b) else match findFrom n a with
    | some c => some c
    | none => findFrom n b
  | .loop c => findFrom n c
  | .scope c => findFrom n c
  | .cond _ a b => match findFrom n a with
    | some c => some c
    | none => findFrom n b
  | _ => none
end Go.Proofs.Ytkblkdojmfgneaa
