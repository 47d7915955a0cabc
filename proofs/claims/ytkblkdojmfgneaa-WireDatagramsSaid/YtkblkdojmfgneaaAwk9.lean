/- The law of Wire: awake. -/
import Derived.Test.YtkblkdojmfgneaaWire4
import Derived.Test.YtkblkdojmfgneaaSealB
import Derived.Laws.StructEq
namespace Go.Proofs.Ytkblkdojmfgneaa
open Go.RowKit
def z14 : ByteArray := ⟨#[0, 0, 0, 0, 0, 0, 0, 0, 0, 0, 0, 0, 0, 0]⟩
theorem rd_z14 : rErr z14 = 0 ∧ rSt z14 = 0 ∧ rRp z14 = 0 ∧ rNb z14 = 0 ∧ rIx z14 = 0 ∧ rLa z14 = false ∧ rTx z14 = ⟨#[]⟩ := ⟨by kernel_rfl, by kernel_rfl, by kernel_rfl, by kernel_rfl, by kernel_rfl, by kernel_rfl, by kernel_rfl⟩
set_option maxHeartbeats 8000000 in
set_option maxRecDepth 20000 in
theorem awake09_any (w : World) : Calls Try.prog 36 #[] w fun e w' => e = .returned (.bool true) ∧ Below w.heap.size w w' := by
  have rp := fun W => Try.strings_Repeat ⟨#[0]⟩ 14 W (by decide) (by decide)
  rw [show (⟨(Lib.repeatL (⟨#[0]⟩ : ByteArray).data.toList 14).toArray⟩ : ByteArray) = z14 from rfl] at rp
  have rd := fun W => read_any z14 (by decide) (by decide) W
  obtain ⟨h0, h1, h2, h3, h4, h5, h6⟩ := rd_z14
  unfold rdV at rd
  rw [h0, h1, h2, h3, h4, h5, h6, if_pos rfl, show ((0 : Nat) : Int) = 0 from rfl] at rd
  rw [show ((14 : Nat) : Int) = 14 from rfl] at rp
  have RP := Lib.hid rp; have RD := Lib.hid rd
  clear rp rd h0 h1 h2 h3 h4 h5 h6
  go_enter Try.func36, Try.ntmps36
  go_wp2_with fail
  refine (RP.out _).mono ?_
  rintro e W1 ⟨rfl, hb⟩
  have HB1 := Below.thn (Below.refl w.heap.size w) hb (Nat.le_refl _)
  clear hb
  go_wp2_with fail
  refine (RD.out _).mono ?_
  rintro e W2 ⟨rfl, hb⟩
  have HB2 := Below.thn HB1 hb HB1.size
  have HB2s := HB2.size
  clear hb HB1
  go_wp2_with fail
  refine (awake01x_any _).mono ?_
  rintro e W3 ⟨rfl, hb⟩
  have HB3 : Below w.heap.size w W3 := Below.thn (by (repeat (first | (with_reducible assumption) | (with_reducible exact Below.refl _ _) | with_reducible apply bl_drewN | with_reducible apply Below.drew | (with_reducible apply bl_alloc; focus (first | (simp; done) | (simp; omega) | omega)) | (with_reducible apply bl_set; focus (first | (simp; done) | (simp; omega) | omega))))) hb
  have B3 : Blk W3 W2.heap.size (PC 0 0 0 0 false ⟨#[]⟩) 70 := Blk.below ((Blk.new _ _ _).conv rfl) hb
  clear hb HB2 HB2s
  go_wp2_with fail
  refine (awake07x_any _).mono ?_
  rintro e W4 ⟨rfl, hb⟩
  have HB4 := Below.thn HB3 hb HB3.size
  have B4 := B3.below hb
  have B4c := B4.cell
  clear hb HB3 B3
  go_wp2_with fail
  refine (room_any _).mono ?_
  rintro e W5 ⟨rfl, hw5⟩
  subst hw5
  go_wp2_with fail
  go_ret
  exact ⟨rfl, HB4⟩
end Go.Proofs.Ytkblkdojmfgneaa
