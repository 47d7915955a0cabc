/- What any text is: the screen of it, if it is one. -/
import Derived.Test.YtgdmeaoghhkknaaRTxt1
namespace Go.Proofs.Ytgdmeaoghhkknaa
open Go.RowKit

def bt (t : ByteArray) (i : Nat) : Nat := (t.data.toList.getD i 0).toNat
def Plain (l : List UInt8) : Prop := ∀ i, i < l.length → 32 ≤ (l.getD i 0).toNat ∧ (l.getD i 0).toNat ≤ 126
instance (l : List UInt8) : Decidable (Plain l) := inferInstanceAs (Decidable (∀ i, i < l.length → _))
def ParseOk (t : ByteArray) : Prop :=
  4 ≤ t.size ∧ (1 ≤ bt t 0 ∧ bt t 0 ≤ 80 ∧ 1 ≤ bt t 1 ∧ bt t 1 ≤ 24) ∧ t.size = 4 + bt t 0 * bt t 1 ∧ bt t 2 < bt t 0 ∧ bt t 3 < bt t 1 ∧ Plain (t.data.toList.drop 4)
instance (t : ByteArray) : Decidable (ParseOk t) := inferInstanceAs (Decidable (_ ∧ _))
def parseS (t : ByteArray) : Option Scr := if ParseOk t then some ⟨bt t 0, bt t 1, bt t 2, bt t 3, t.data.toList.drop 4⟩ else none
def pv : Option Scr → Value
  | some s => .tuple #[VV s.w s.h s.x s.y (txt s.b), .int .i64 0]
  | none => .tuple #[VV 0 0 0 0 ⟨#[]⟩, .int .i64 4]
theorem bt_get (t : ByteArray) (i : Nat) (h : i < t.size) (c : UInt8) (hc : t[i] = c) : bt t i = c.toNat := by
  have h' : i < t.data.toList.length := h
  unfold bt
  rw [List.getD_eq_getElem?_getD, List.getElem?_eq_getElem h', ← hc]
  rfl
theorem parse_none (t : ByteArray) (h : ¬ ParseOk t) : parseS t = none := if_neg h
theorem parse_some (t : ByteArray) (h : ParseOk t) : parseS t = some ⟨bt t 0, bt t 1, bt t 2, bt t 3, t.data.toList.drop 4⟩ := if_pos h
theorem parse_okS (t : ByteArray) (s : Scr) (h : parseS t = some s) : s.Ok := by
  unfold parseS at h
  split at h
  · rename_i hp
    obtain ⟨h0, ⟨h1, h2, h3, h4⟩, h5, h6, h7, _⟩ := hp
    simp only [Option.some.injEq] at h
    subst h
    refine ⟨h1, h2, h3, h4, h6, h7, ?_⟩
    rw [List.length_drop]
    show t.size - 4 = bt t 0 * bt t 1
    omega
  · cases h
theorem parse_back (t : ByteArray) (s : Scr) (h : parseS t = some s) : txtS s = t := by
  unfold parseS at h
  split at h
  · rename_i hp
    simp only [Option.some.injEq] at h
    subst h
    apply ba_ext
    have h4 : 4 ≤ t.data.toList.length := hp.1
    unfold txtS head4
    rw [ba_app]
    generalize hl : t.data.toList = l at *
    have hb : ∀ i, UInt8.ofNat (bt t i) = l.getD i 0 := fun i => by unfold bt; rw [hl]; simp
    match l, h4 with
    | a :: b :: c :: d :: r, _ => simp [hb, txt]
  · cases h
theorem parse_text (s : Scr) (hs : s.Ok) (hp : Plain s.b) : parseS (txtS s) = some s := by
  have hx := hs.x; have hy := hs.y; have h0 := hs.w2; have h1 := hs.h2; have w1 := hs.w1; have h11 := hs.h1
  have e : ∀ n : Nat, n ≤ 255 → (UInt8.ofNat n).toNat = n := fun n hn => by rw [UInt8.toNat_ofNat']; omega
  have hl : (txtS s).data.toList = UInt8.ofNat s.w :: UInt8.ofNat s.h :: UInt8.ofNat s.x :: UInt8.ofNat s.y :: s.b := by
    unfold txtS head4
    rw [ba_app]; rfl
  have b0 : bt (txtS s) 0 = s.w := by unfold bt; rw [hl]; exact e _ (by omega)
  have b1 : bt (txtS s) 1 = s.h := by unfold bt; rw [hl]; exact e _ (by omega)
  have b2 : bt (txtS s) 2 = s.x := by unfold bt; rw [hl]; exact e _ (by omega)
  have b3 : bt (txtS s) 3 = s.y := by unfold bt; rw [hl]; exact e _ (by omega)
  have hd : (txtS s).data.toList.drop 4 = s.b := by rw [hl]; rfl
  have hsz : (txtS s).size = 4 + s.w * s.h := by
    show (txtS s).data.toList.length = _
    rw [hl, ← hs.len]; simp; omega
  rw [parse_some _ ⟨by omega, by rw [b0, b1]; exact ⟨w1, h0, h11, h1⟩, by rw [b0, b1]; exact hsz, by rw [b0, b2]; exact hx, by rw [b1, b3]; exact hy, by rw [hd]; exact hp⟩]
  rw [b0, b1, b2, b3, hd]
/-! What is put is plain -/
theorem plain_all {l : List UInt8} : Plain l ↔ ∀ c ∈ l, 32 ≤ c.toNat ∧ c.toNat ≤ 126 := by
  constructor
  · intro h c hc
    obtain ⟨i, hi, rfl⟩ := List.getElem_of_mem hc
    have := h i hi
    rwa [List.getD_eq_getElem?_getD, List.getElem?_eq_getElem hi] at this
  · intro h i hi
    rw [List.getD_eq_getElem?_getD, List.getElem?_eq_getElem hi]
    exact h _ (List.getElem_mem hi)
theorem plain_rep (n : Nat) : Plain (List.replicate n 32) := plain_all.2 fun c hc => by rw [(List.mem_replicate.1 hc).2]; decide
theorem plain_nl {s : Scr} (h : Plain s.b) : Plain (nl s).b := by
  unfold nl
  split
  · exact h
  · refine plain_all.2 fun c hc => ?_
    rcases List.mem_append.1 hc with h5 | h5
    · exact plain_all.1 h c (List.mem_of_mem_drop h5)
    · exact plain_all.1 (plain_rep s.w) c h5
theorem plain_set {l : List UInt8} (h : Plain l) (i : Nat) (c : UInt8) (hc : 32 ≤ c.toNat ∧ c.toNat ≤ 126) : Plain (l.set i c) :=
  plain_all.2 fun x hx => by
    rcases List.mem_or_eq_of_mem_set hx with h5 | h5
    · exact plain_all.1 h x h5
    · rw [h5]; exact hc
theorem plain_put1 {s : Scr} (h : Plain s.b) (c : UInt8) : Plain (put1 s c).b := by
  unfold put1
  split
  · rename_i hc
    unfold putC
    split
    · exact plain_set h _ _ hc
    · exact plain_nl (plain_set h _ _ hc)
  split
  · exact h
  split
  · exact h
  split
  · exact plain_rep _
  split
  · exact plain_nl h
  · exact h
theorem plain_putL {s : Scr} (h : Plain s.b) (out : List UInt8) : Plain (putL s out).b := by
  induction out generalizing s with
  | nil => exact h
  | cons c out ih => exact ih (plain_put1 h c)
end Go.Proofs.Ytgdmeaoghhkknaa
