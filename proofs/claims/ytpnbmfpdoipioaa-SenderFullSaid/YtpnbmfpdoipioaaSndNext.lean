/- Next, whether one is due or not. -/
import Derived.Test.YtpnbmfpdoipioaaSndStore
import Derived.Test.YtpnbmfpdoipioaaSndEndsL
namespace Go.Proofs.Ytpnbmfpdoipioaa
open Go.RowKit

/-- What is behind Next: another list and time, or the same. -/
inductive Went (l : List SSt) (now : ByteArray) (last tm ack : Nat) : List SSt → Nat → Value → Bool → Prop
  | no : Went l now last tm ack l last (IV 0 0 0 0 ⟨#[]⟩) false
  | yes : Went l now last tm ack (nextL l now tm) tm (IV ((nextL l now tm).getD 0 default).num (topS (nextL l now tm)).num ack ((nextL l now tm).getD 0 default).num (((nextL l now tm).getD 0 default).val ++ ⟨#[62]⟩ ++ (topS (nextL l now tm)).val)) true
def SNextPost (l : List SSt) (now : ByteArray) (last tm ack : Nat) (w : World) (e : Ending) (w' : World) : Prop :=
  ∃ (a : Option Addr) (m c : Nat) (l' : List SSt) (last' : Nat) (i : Value) (ok : Bool), e = .returned (.tuple #[SV (.slice a m c) now last', i, .bool ok]) ∧ SenderAt w' (SV (.slice a m c) now last') l' now last' ∧ Went l now last tm ack l' last' i ok ∧ Below w.heap.size w w'
theorem snext_any (v : Value) (l : List SSt) (now : ByteArray) (last tm wait beat ack : Nat) (w : World) (S : SenderAt w v l now last) (hw : wait ≤ 18446744073709551615) (hb : beat ≤ 18446744073709551615) (htm : tm ≤ 18446744073709551615) (hnum : (topS l).num < 1000000) :
    Calls Try.prog 12 #[v, .int .u64 tm, .int .u64 wait, .int .u64 beat, .int .u64 ack] w fun e w' => SNextPost l now last tm ack w e w' := by
  by_cases hd : tm < dueU l now last wait beat
  · refine (next_not v l now last tm wait beat ack w S hw hb hd).mono ?_
    rintro e w' ⟨rfl, hb⟩
    obtain ⟨a, m, c, rfl⟩ := S.form
    exact ⟨a, m, c, l, last, _, false, rfl, S.below hb, .no, hb⟩
  · refine (next_ok v l now last tm wait beat ack w S hw hb htm hnum hd).mono ?_
    rintro e w' ⟨v', rfl, S', hb⟩
    obtain ⟨a, m, c, rfl⟩ := S'.form
    exact ⟨a, m, c, _, tm, _, true, rfl, S', .yes, hb⟩
theorem Went.rise {l l' : List SSt} {now : ByteArray} {last tm ack k last' : Nat} {i : Value} {ok : Bool} (h : Went l now last tm ack l' last' i ok) (R : Rise l last tm k) : Rise l' last' tm (k + 1) := by
  cases h with
  | no => exact R.mono (Nat.le_refl _) (by omega)
  | yes => exact R.next now tm
end Go.Proofs.Ytpnbmfpdoipioaa
