/- Package sender: what memory holds of a sender; the small functions. -/
import Derived.Test.YtpnbmfpdoipioaaBase
import Derived.Test.YtpnbmfpdoipioaaStr
import Derived.Test.YtpnbmfpdoipioaaTail
import Derived.OwnWalk
import Derived.Maps.AppendAt
import Derived.Deep.AppendLies
import Derived.Laws.StructEq
import Derived.Laws.EntriesVeiled
namespace Go.Proofs.Ytpnbmfpdoipioaa
open Go.RowKit

/-- A state that was sent. -/
structure SSt where
  num : Nat
  sent : Nat
  val : ByteArray
  deriving Inhabited
abbrev fDiff : Value := .func (.func 29) #[] #[]
abbrev fSame : Value := .func (.func 30) #[] #[]
abbrev SV (lv : Value) (now : ByteArray) (last : Nat) : Value := .agg #[fDiff, fSame, lv, .string now, .int .u64 last]
/-- States in a row, never turned. -/
structure ListAt (w : World) (b off : Nat) (l : List SSt) : Prop where
  lt : b < w.heap.size
  c0 : ∀ j, j < l.length → w.cell? ⟨b, off + j * 3, none⟩ = some (.int .u64 (l.getD j default).num)
  c1 : ∀ j, j < l.length → w.cell? ⟨b, off + j * 3 + 1, none⟩ = some (.int .u64 (l.getD j default).sent)
  c2 : ∀ j, j < l.length → w.cell? ⟨b, off + j * 3 + 2, none⟩ = some (.string (l.getD j default).val)
  small : ∀ j, j < l.length → (l.getD j default).num ≤ 1000000 ∧ (l.getD j default).sent ≤ 18446744073709551615 ∧ (l.getD j default).val.size ≤ 1000
  pos : 0 < l.length ∧ l.length ≤ 8
theorem ListAt.below {w w' : World} {b off : Nat} {l : List SSt} (h : ListAt w b off l) (g : Below w.heap.size w w') : ListAt w' b off l :=
  ⟨Nat.lt_of_lt_of_le h.lt g.size, fun j hj => (g.cell (p := ⟨b, _, none⟩) h.lt).trans (h.c0 j hj), fun j hj => (g.cell (p := ⟨b, _, none⟩) h.lt).trans (h.c1 j hj), fun j hj => (g.cell (p := ⟨b, _, none⟩) h.lt).trans (h.c2 j hj), h.small, h.pos⟩
def topS (l : List SSt) : SSt := l.getD (l.length - 1) default

def addU (a b : Nat) : Nat := if 18446744073709551615 - a < b then 18446744073709551615 else a + b
set_option maxHeartbeats 400000 in
theorem add_any (a b : Nat) (w : World) (ha : a ≤ 18446744073709551615) (hb : b ≤ 18446744073709551615) :
    Calls Try.prog 36 #[.int .u64 a, .int .u64 b] w fun e w' => e = .returned (.int .u64 (addU a b : Nat)) ∧ Below w.heap.size w w' := by
  unfold addU
  by_cases h : 18446744073709551615 - a < b
  · have h1 : (18446744073709551615 : Int) - a < b := by omega
    rw [if_pos h]
    go_enter Try.func36, Try.ntmps36
    go_wp2
    go_ret
    exact ⟨rfl, by (repeat (first | (with_reducible assumption) | (with_reducible exact Below.refl _ _) | with_reducible apply bl_drewN | with_reducible apply Below.drew | (with_reducible apply bl_alloc; focus (first | (simp; done) | (simp; omega) | omega)) | (with_reducible apply bl_set; focus (first | (simp; done) | (simp; omega) | omega))))⟩
  · have h1 : ¬ (18446744073709551615 : Int) - a < b := by omega
    rw [if_neg h]
    go_enter Try.func36, Try.ntmps36
    go_wp2
    go_ret
    exact ⟨ret_int (by omega), by (repeat (first | (with_reducible assumption) | (with_reducible exact Below.refl _ _) | with_reducible apply bl_drewN | with_reducible apply Below.drew | (with_reducible apply bl_alloc; focus (first | (simp; done) | (simp; omega) | omega)) | (with_reducible apply bl_set; focus (first | (simp; done) | (simp; omega) | omega))))⟩
set_option maxHeartbeats 400000 in
theorem diff_any (a b : ByteArray) (w : World) (ha : a.size ≤ 100000) (hb : b.size ≤ 100000) :
    Calls Try.prog 29 #[.string a, .string b] w fun e w' => e = .returned (.string (a ++ ⟨#[62]⟩ ++ b)) ∧ Below w.heap.size w w' := by
  go_enter Try.func29, Try.ntmps29
  go_wp2
  go_ret
  exact ⟨rfl, by (repeat (first | (with_reducible assumption) | (with_reducible exact Below.refl _ _) | with_reducible apply bl_drewN | with_reducible apply Below.drew | (with_reducible apply bl_alloc; focus (first | (simp; done) | (simp; omega) | omega)) | (with_reducible apply bl_set; focus (first | (simp; done) | (simp; omega) | omega))))⟩
set_option maxHeartbeats 400000 in
theorem same_any (a b : ByteArray) (w : World) :
    Calls Try.prog 30 #[.string a, .string b] w fun e w' => e = .returned (.bool (decide (a = b))) ∧ Below w.heap.size w w' := by
  go_enter Try.func30, Try.ntmps30
  go_wp2
  go_ret
  refine ⟨?_, by (repeat (first | (with_reducible assumption) | (with_reducible exact Below.refl _ _) | with_reducible apply bl_drewN | with_reducible apply Below.drew | (with_reducible apply bl_alloc; focus (first | (simp; done) | (simp; omega) | omega)) | (with_reducible apply bl_set; focus (first | (simp; done) | (simp; omega) | omega))))⟩
  exact congrArg (fun x => Ending.returned (.bool x)) (ba_beq a b)
set_option maxHeartbeats 400000 in
theorem current_any (lv : Value) (now : ByteArray) (last : Nat) (w : World) :
    Calls Try.prog 21 #[SV lv now last] w fun e w' => e = .returned (.string now) ∧ Below w.heap.size w w' := by
  go_enter Try.func21, Try.ntmps21
  go_wp2
  go_ret
  exact ⟨rfl, by (repeat (first | (with_reducible assumption) | (with_reducible exact Below.refl _ _) | with_reducible apply bl_drewN | with_reducible apply Below.drew | (with_reducible apply bl_alloc; focus (first | (simp; done) | (simp; omega) | omega)) | (with_reducible apply bl_set; focus (first | (simp; done) | (simp; omega) | omega))))⟩
set_option maxHeartbeats 400000 in
theorem first_any (b off cap last : Nat) (l : List SSt) (now : ByteArray) (w : World) (L : ListAt w b off l) :
    Calls Try.prog 22 #[SV (.slice (some ⟨b, off, none⟩) l.length cap) now last] w fun e w' => e = .returned (.string (l.getD 0 default).val) ∧ Below w.heap.size w w' := by
  have hp := L.pos.1
  have hp1 : (0 : Int) < l.length := by omega
  have hbl := L.lt
  have h2 := L.c2 0 hp
  simp only [Nat.zero_mul, Nat.add_zero] at h2
  generalize l.getD 0 default = x at h2 ⊢
  go_enter Try.func22, Try.ntmps22
  go_wp2
  go_ret
  exact ⟨rfl, by (repeat (first | (with_reducible assumption) | (with_reducible exact Below.refl _ _) | with_reducible apply bl_drewN | with_reducible apply Below.drew | (with_reducible apply bl_alloc; focus (first | (simp; done) | (simp; omega) | omega)) | (with_reducible apply bl_set; focus (first | (simp; done) | (simp; omega) | omega))))⟩
set_option maxHeartbeats 400000 in
theorem newest_any (b off cap last : Nat) (l : List SSt) (now : ByteArray) (w : World) (L : ListAt w b off l) :
    Calls Try.prog 33 #[SV (.slice (some ⟨b, off, none⟩) l.length cap) now last] w fun e w' => e = .returned (.agg #[.int .u64 (topS l).num, .int .u64 (topS l).sent, .string (topS l).val]) ∧ Below w.heap.size w w' := by
  have hp := L.pos
  obtain ⟨k, hk⟩ : ∃ k, k = l.length - 1 := ⟨_, rfl⟩
  have hk2 : (l.length : Int) - 1 = (k : Int) := by omega
  have hkl : (k : Int) < l.length := by omega
  have hbl := L.lt
  have h0 := L.c0 k (by omega)
  have h1 := L.c1 k (by omega)
  have h2 := L.c2 k (by omega)
  have hts : topS l = l.getD k default := by rw [hk]; rfl
  rw [hts]
  clear hk hts
  go_enter Try.func33, Try.ntmps33
  go_wp2
  refine bodyPost_ret (v := .agg #[.int .u64 (l.getD k default).num, .int .u64 (l.getD k default).sent, .string (l.getD k default).val]) ?_ rfl ⟨rfl, ?_⟩
  · simp [results, Try.results33, go_sem]
  · repeat (first | (with_reducible assumption) | (with_reducible exact Below.refl _ _) | with_reducible apply bl_drewN | with_reducible apply Below.drew | (with_reducible apply bl_alloc; focus (first | (simp; done) | (simp; omega) | omega)) | (with_reducible apply bl_set; focus (first | (simp; done) | (simp; omega) | omega)))
theorem run_fld0 (a b : Int) (s : ByteArray) (w : World) : (Instr.field 70 (.agg #[.int .u64 a, .int .u64 b, .string s]) 0).run Try.prog w = .ok (.int .u64 a) w := by kernel_rfl
theorem run_fld1 (a b : Int) (s : ByteArray) (w : World) : (Instr.field 70 (.agg #[.int .u64 a, .int .u64 b, .string s]) 1).run Try.prog w = .ok (.int .u64 b) w := by kernel_rfl
theorem run_fld2 (a b : Int) (s : ByteArray) (w : World) : (Instr.field 70 (.agg #[.int .u64 a, .int .u64 b, .string s]) 2).run Try.prog w = .ok (.string s) w := by kernel_rfl
def freshB (l : List SSt) (now : ByteArray) : Bool := !decide (now = (topS l).val) && decide (l.length < 8)
set_option maxHeartbeats 1000000 in
set_option maxRecDepth 20000 in
theorem fresh_any (b off cap last : Nat) (l : List SSt) (now : ByteArray) (w : World) (L : ListAt w b off l) :
    Calls Try.prog 31 #[SV (.slice (some ⟨b, off, none⟩) l.length cap) now last] w fun e w' => e = .returned (.bool (freshB l now)) ∧ Below w.heap.size w w' := by
  unfold freshB
  have hp := L.pos
  obtain ⟨d, hd⟩ : ∃ d, decide (now = (topS l).val) = d := ⟨_, rfl⟩
  rw [hd]
  have HD := Lib.hid hd
  clear hd
  go_enter Try.func31, Try.ntmps31
  go_wp2_with fail
  refine wp_abs1 (w.heap.size) 31 (n := w.heap.size) (w := w) (by (repeat (first | (with_reducible assumption) | (with_reducible exact Below.refl _ _) | with_reducible apply bl_drewN | with_reducible apply Below.drew | (with_reducible apply bl_alloc; focus (first | (simp; done) | (simp; omega) | omega)) | (with_reducible apply bl_set; focus (first | (simp; done) | (simp; omega) | omega))))) (by (repeat (first | (with_reducible assumption) | (with_reducible apply Blk.new'; (first | (with_reducible rfl) | (simp; done))) | with_reducible apply Blk.alloc | with_reducible apply Blk.set | ((with_reducible apply Blk.set_ne); focus (first | (simp; done) | (simp; omega))) | with_reducible apply Blk.drewN | with_reducible apply Blk.drew))) (fun W0 HB B0 => ?_)
  have HBs := HB.size
  have B0c := B0.cell; have B0f := B0.frozen; have B0l := B0.lt
  refine wp_region_gr_tail 8 (by kernel_rfl) (by kernel_rfl) ?_
  simp only [List.take_succ_cons, List.take_zero, List.drop_succ_cons, List.drop_zero]
  repeat (first
    | go_big_quiet_skip
    | ((refine BigFrame.wpQuiet_want rfl (fun K hK => quiet_mk ?_)); apply Exists.intro; refine ⟨fun wq hq => ?_, hK _ ?_⟩
       · have f0 := hq.blk B0; go_simp; (try simp only [↓IntWalk.iteOmega]); (try go_bits)
         first | done | rfl | exact ⟨rfl, rfl⟩ | (go_at_call 33; refine (newest_any b off cap last l now _ (L.below (Below.thn HB hq.out HBs))).mono ?_; rintro e wr ⟨rfl, hbr⟩; exact ⟨rfl, hq.next hbr⟩)
       clear hK K; (try simp only [Act.put, List.setIfInBounds_toArray, List.set_cons_zero, List.set_cons_succ])))
  refine wpQuiet_nil ?_
  intro w1 hw1
  have HB : Below w.heap.size w w1 := Below.thn HB hw1.out HB.size
  have HBs := HB.size
  have B0 := B0.gr hw1; clear B0c B0f B0l; have B0c := B0.cell; have B0f := B0.frozen; have B0l := B0.lt
  clear hw1
  simp only [List.getElem_toArray, List.getElem_cons_zero, List.getElem_cons_succ]
  go_wp2_with fail
  refine (same_any _ _ _).mono ?_
  rintro e w2 ⟨rfl, hb⟩
  rw [HD.out]
  have B2 := B0.below hb
  clear B0c B0f
  have B0c := B2.cell; have B0f := B2.frozen
  have HB2 := Below.thn HB hb HBs
  cases d with
  | true =>
    go_wp2
    go_ret
    exact ⟨rfl, HB2⟩
  | false =>
    by_cases h8 : l.length < 8
    · have h8' : (l.length : Int) < 8 := by omega
      go_wp2
      go_ret
      exact ⟨by simp [h8], HB2⟩
    · have h8' : ¬ (l.length : Int) < 8 := by omega
      go_wp2
      go_ret
      exact ⟨by simp; omega, HB2⟩
end Go.Proofs.Ytpnbmfpdoipioaa
