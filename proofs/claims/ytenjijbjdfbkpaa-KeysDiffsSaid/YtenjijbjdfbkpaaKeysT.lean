/- Scripts among the arguments; the answers on scripts that are too long; Since at any number. -/
import Derived.Test.YtenjijbjdfbkpaaKeysL3
import Derived.Test.YtenjijbjdfbkpaaLawKit
import Derived.Deep.Strs
namespace Go.Proofs.Ytenjijbjdfbkpaa
open Go.ChangeShapes Go.WideShapes Go.ChangeAt Go.RowKit Go.Deep

theorem cells58 : Try.prog.cellsOf 58 = 3 := by kernel_rfl
theorem bytes58 : Try.prog.bytesOf 58 = 32 := by kernel_rfl
theorem cells_5 : Try.prog.cellsOf 5 = 1 := by kernel_rfl
theorem cells_25 : Try.prog.cellsOf 25 = 1 := by kernel_rfl
theorem cells_9 : Try.prog.cellsOf 9 = 1 := by kernel_rfl

theorem open_acts {H : Type} {enc : TypeId × Value → H} {w : World} {a0 : Option Addr} {len cap : Nat} {d : DataW H} {ps : List MemPlace}
    (h : DataW.Trod enc Try.prog w 0 (fun _ => true) true 39 (.slice a0 len cap) d ps) (hlt : ∀ x ∈ ps, x.block < w.heap.size) (hw : (d.weights Try.prog 39).all (· ≤ reachBytes) = true) :
    len ≤ 140737488355328 ∧ ∃ b off l, (0 < len → a0 = some ⟨b, off, none⟩) ∧ ActsAt w b off len l := by
  obtain ⟨hb, b, off, h0, hel⟩ := open_elems Try.underlying39 (by rw [cells58]; omega) h hlt hw
  rw [bytes58] at hb
  simp only [reachBytes] at hb
  have hex : ∀ i, i < len → ∃ x : KAct, w.cell? ⟨b, off + i * 3, none⟩ = some (.int .u8 x.d) ∧ w.cell? ⟨b, off + i * 3 + 1, none⟩ = some (.int .u64 x.n) ∧ w.cell? ⟨b, off + i * 3 + 2, none⟩ = some (.string x.t) ∧ x.d ≤ 255 ∧ x.t.size ≤ 140737488355328 := by
    intro i hi
    obtain ⟨cs, x, n, hcl, hcell, hy, hwt⟩ := hel i hi
    rw [cells58] at hcl hcell
    match cs, hcl with
    | [c0, c1, c2], _ =>
      obtain ⟨y0, y1, y2, m, rfl, _, e0, e1, e2⟩ := trod_struct3 Try.underlying58 hy
      simp only [cells_5, cells_25, cells_9, List.drop_zero, List.drop_succ_cons, List.take_succ_cons, List.take_zero] at e0 e1 e2
      obtain ⟨n0, f0, rfl, w0⟩ := DataW.trod_int Try.underlying5 e0
      obtain ⟨n1, f1, rfl, w1⟩ := DataW.trod_int Try.underlying25 e1
      obtain ⟨s, f2, rfl, _⟩ := DataW.trod_string Try.underlying9 e2
      simp only [List.cons.injEq, and_true] at f0 f1 f2
      subst f0 f1 f2
      have g0 : 0 ≤ n0 ∧ n0 ≤ 255 := by
        simp only [Lit.wf, Bool.and_eq_true, decide_eq_true_eq] at w0; exact ⟨w0.1, w0.2⟩
      have g1 : 0 ≤ n1 := by
        simp only [Lit.wf, Bool.and_eq_true, decide_eq_true_eq] at w1; exact w1.1
      refine ⟨⟨n0.toNat, n1.toNat, s⟩, ?_, ?_, ?_, by show n0.toNat ≤ 255; omega, ?_⟩
      · have := hcell 0 (by omega)
        rw [Nat.add_zero] at this
        rw [this]
        show some (Value.int .u8 n0) = some (.int .u8 (n0.toNat : Int))
        rw [Int.toNat_of_nonneg g0.1]
      · have := hcell 1 (by omega)
        rw [this]
        show some (Value.int .u64 n1) = some (.int .u64 (n1.toNat : Int))
        rw [Int.toNat_of_nonneg g1]
      · exact hcell 2 (by omega)
      · have := List.all_eq_true.1 hwt s.size (by simp [DataW.weights, Try.underlying58, DataW.weightsEach])
        have h2 : s.size ≤ 140737488351232 := of_decide_eq_true this
        show s.size ≤ _
        omega
  obtain ⟨l, hl, hq⟩ := exists_list (fun i (x : KAct) => w.cell? ⟨b, off + i * 3, none⟩ = some (.int .u8 x.d) ∧ w.cell? ⟨b, off + i * 3 + 1, none⟩ = some (.int .u64 x.n) ∧ w.cell? ⟨b, off + i * 3 + 2, none⟩ = some (.string x.t) ∧ x.d ≤ 255 ∧ x.t.size ≤ 140737488355328) len hex
  exact ⟨by omega, b, off, l, fun h => (h0 h).1, ⟨fun h => (h0 h).2, hl, fun j hj => (hq j hj).1, fun j hj => (hq j hj).2.1, fun j hj => (hq j hj).2.2.1, fun j hj => (hq j hj).2.2.2.1, fun j hj => (hq j hj).2.2.2.2⟩⟩

/-- Are turns gone through? -/
def Light (len : Nat) (l : List KAct) : Prop := ∀ j, j < len → len ≤ 40 ∧ (l.getD j default).t.size ≤ 600
theorem Light.len {len : Nat} {l : List KAct} (h : Light len l) : len ≤ 40 := by
  by_cases h0 : len = 0
  · omega
  · exact (h 0 (by omega)).1
theorem not_light {len : Nat} {l : List KAct} (h : ¬ Light len l) : ∃ i, i < len ∧ (40 < len ∨ 600 < (l.getD i default).t.size) := by
  unfold Light at h
  simp only [Classical.not_forall] at h
  obtain ⟨i, hi, hx⟩ := h
  exact ⟨i, hi, by omega⟩

set_option maxHeartbeats 400000 in
set_option maxRecDepth 100000 in
theorem light_empty (ao : Option Addr) (cap : Nat) (w : World) :
    Calls Try.prog 14 #[.slice ao 0 cap] w fun e w' => e = .returned (.bool true) ∧ Below w.heap.size w w' := by
  go_enter Try.func14, Try.ntmps14
  go_wp2_with fail
  go_loopg [7] 0 (fun g t7 wr => t7 = .int .i64 0 ∧ Below w.heap.size w wr)
  case atStart => exact ⟨rfl, Below.refl _ _⟩
  case round =>
    obtain ⟨rfl, HB⟩ := hrel
    go_wp2
    go_ret
    exact ⟨rfl, HB⟩
theorem light_true (ao : Option Addr) (b off len cap : Nat) (l : List KAct) (w : World) (hao : 0 < len → ao = some ⟨b, off, none⟩) (h : ActsAt w b off len l) (hL : Light len l) :
    Calls Try.prog 14 #[.slice ao len cap] w fun e w' => e = .returned (.bool true) ∧ Below w.heap.size w w' := by
  by_cases h0 : len = 0
  · subst h0
    exact light_empty ao cap w
  · obtain rfl := hao (by omega)
    exact light_yes b off len cap l w h hL.len (fun j hj => (hL j hj).2)
theorem light_false (ao : Option Addr) (b off len cap : Nat) (l : List KAct) (w : World) (hao : 0 < len → ao = some ⟨b, off, none⟩) (hm : len ≤ 140737488355328) (h : ActsAt w b off len l) (hL : ¬ Light len l) :
    Calls Try.prog 14 #[.slice ao len cap] w fun e w' => e = .returned (.bool false) ∧ Below w.heap.size w w' := by
  obtain ⟨i, hi, hx⟩ := not_light hL
  obtain rfl := hao (by omega)
  exact light_no b off len cap i l w h hm hi hx
theorem of_light (ao : Option Addr) (b off len cap : Nat) (l : List KAct) (w : World) (hao : 0 < len → ao = some ⟨b, off, none⟩) (h : ActsAt w b off len l) (hL : Light len l) :
    Calls Try.prog 15 #[.slice ao len cap] w fun e w' => OfPost w e w' :=
  of_any ao b off len cap l w hao h hL.len (fun j hj => (hL j hj).2)

/-- The keys from a number on; the error. -/
def sinceT (a n : Nat) (s : ByteArray) : ByteArray := if a ≤ n ∧ n ≤ a + s.size then s.extract (n - a) s.size else ⟨#[]⟩
def sinceE (a n : Nat) (s : ByteArray) : Int := if a ≤ n ∧ n ≤ a + s.size then 0 else 7
theorem since_any (a n : Nat) (s : ByteArray) (w : World) (ha : a ≤ 1000000) (hs : s.size ≤ 1000) :
    Calls Try.prog 16 #[KV a s, .int .u64 n] w fun e w' => e = .returned (.tuple #[.string (sinceT a n s), .int .i64 (sinceE a n s)]) ∧ Below w.heap.size w w' := by
  unfold sinceT sinceE
  by_cases h : a ≤ n ∧ n ≤ a + s.size
  · rw [if_pos h, if_pos h]; exact since_in a n s w ha hs h.1 h.2
  · rw [if_neg h, if_neg h]; exact since_out a n s w ha hs (by omega)
theorem rsince_any (a n : Nat) (s : ByteArray) (w : World) (ha : a ≤ 1000000) (hs : s.size ≤ 1000) :
    Calls Try.prog 17 #[KV a s, .int .u64 n] w fun e w' => e = .returned (.tuple #[.string (sinceT a n s), .int .i64 (sinceE a n s)]) ∧ Below w.heap.size w w' := by
  unfold sinceT sinceE
  by_cases h : a ≤ n ∧ n ≤ a + s.size
  · rw [if_pos h, if_pos h]; exact rsince_in a n s w ha hs h.1 h.2
  · rw [if_neg h, if_neg h]; exact rsince_out a n s w ha hs (by omega)
end Go.Proofs.Ytenjijbjdfbkpaa
