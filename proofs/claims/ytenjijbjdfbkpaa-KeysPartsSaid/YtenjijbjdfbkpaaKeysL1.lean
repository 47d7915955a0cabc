/- The script of layer 13's statements; light, Is. -/
import Derived.Test.YtenjijbjdfbkpaaKeysR2
import Derived.Test.YtenjijbjdfbkpaaKeysR3
import Derived.Test.YtenjijbjdfbkpaaKeys4
namespace Go.Proofs.Ytenjijbjdfbkpaa
open Go.RowKit

structure KAct where
  d : Nat
  n : Nat
  t : ByteArray
instance : Inhabited KAct := ⟨⟨0, 0, ByteArray.empty⟩⟩
/-- The acts lie there. -/
structure ActsAt (w : World) (b off len : Nat) (l : List KAct) : Prop where
  blt : 0 < len → b < w.heap.size
  hlen : l.length = len
  d : ∀ j, j < len → w.cell? ⟨b, off + j * 3, none⟩ = some (.int .u8 (l.getD j default).d)
  n : ∀ j, j < len → w.cell? ⟨b, off + j * 3 + 1, none⟩ = some (.int .u64 (l.getD j default).n)
  t : ∀ j, j < len → w.cell? ⟨b, off + j * 3 + 2, none⟩ = some (.string (l.getD j default).t)
  hd : ∀ j, j < len → (l.getD j default).d ≤ 255
  ht : ∀ j, j < len → (l.getD j default).t.size ≤ 140737488355328
theorem ActsAt.below {w w1 : World} {b off len : Nat} {l : List KAct} (h : ActsAt w b off len l) (g : Below w.heap.size w w1) : ActsAt w1 b off len l :=
  ⟨fun hl => Nat.lt_of_lt_of_le (h.blt hl) g.size, h.hlen, fun j hj => (g.cell (p := ⟨_, _, none⟩) (h.blt (by omega))).trans (h.d j hj), fun j hj => (g.cell (p := ⟨_, _, none⟩) (h.blt (by omega))).trans (h.n j hj),
   fun j hj => (g.cell (p := ⟨_, _, none⟩) (h.blt (by omega))).trans (h.t j hj), h.hd, h.ht⟩

def lightB (l : List KAct) : Bool := l.isEmpty || (decide (l.length ≤ 40) && l.all fun a => decide (a.t.size ≤ 600))

set_option maxHeartbeats 400000 in
set_option maxRecDepth 100000 in
theorem light_yes (b off len cap : Nat) (l : List KAct) (w : World) (h : ActsAt w b off len l) (hl : len ≤ 40) (ht : ∀ j, j < len → (l.getD j default).t.size ≤ 600) :
    Calls Try.prog 14 #[.slice (some ⟨b, off, none⟩) len cap] w fun e w' => e = .returned (.bool true) ∧ Below w.heap.size w w' := by
  go_enter Try.func14, Try.ntmps14
  go_wp2_with fail
  go_loopg [7] len (fun g t7 wr => ∃ k : Nat, t7 = .int .i64 k ∧ k + g = len ∧ Below w.heap.size w wr)
  case atStart => exact ⟨0, rfl, by omega, Below.refl _ _⟩
  case round =>
    obtain ⟨k, rfl, hk, HB⟩ := hrel
    have HBs := HB.size
    have HK := Lib.hid hk
    have HA := Lib.hid (h.below HB)
    cases gk with
    | zero =>
      have hk' : ¬ (k : Int) < len := by omega
      clear hk
      go_wp2
      go_ret
      exact ⟨rfl, HB⟩
    | succ g =>
      have hk' : (k : Int) < len := by omega
      have hk2 : k < len := by omega
      have c0 := HA.out.d k hk2
      have c1 := HA.out.n k hk2
      have c2 := HA.out.t k hk2
      have t6 := ht k hk2
      have l4 : ¬ (40 : Int) < len := by omega
      have t6' : ¬ (600 : Int) < (l.getD k default).t.size := by omega
      clear hk
      generalize l.getD k default = x at *
      go_wp2
      go_roundg g
      case rel =>
        refine ⟨k + 1, by go_num, by have := HK.out; omega, ?_⟩
        repeat (first | (with_reducible assumption) | (with_reducible exact Below.refl _ _) | with_reducible apply bl_drewN | with_reducible apply Below.drew | (with_reducible apply bl_alloc; focus (first | (simp; done) | (simp; omega) | omega)) | (with_reducible apply bl_set; focus (first | (simp; done) | (simp; omega) | omega)))
      case measure => omega

end Go.Proofs.Ytenjijbjdfbkpaa
