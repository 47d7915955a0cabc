/- PoolOwners: the row. -/
import Derived.Test.YtkfgbaieghlhkaaPoolOwnersW
import Derived.Test.YtkfgbaieghlhkaaLawKit
namespace Go.Proofs.Ytkfgbaieghlhkaa
open Go.ChangeShapes Go.WideShapes Go.ChangeAt Go.RowKit

theorem cells_9 : Try.prog.cellsOf 9 = 1 := by kernel_rfl
theorem bytes_9 : Try.prog.bytesOf 9 = 16 := by kernel_rfl

theorem open_strs {H : Type} {enc : TypeId × Value → H} {w : World} {a0 : Option Addr} {len cap : Nat} {d : DataW H} {ps : List MemPlace}
    (h : DataW.Trod enc Try.prog w 0 (fun _ => true) true 52 (.slice a0 len cap) d ps) (hlt : ∀ x ∈ ps, x.block < w.heap.size) (hw : (d.weights Try.prog 52).all (· ≤ reachBytes) = true) :
    len ≤ 140737488355328 ∧ ∃ b off bs, (0 < len → a0 = some ⟨b, off, none⟩) ∧ StrsAt w b off len bs := by
  obtain ⟨hb, b, off, h0, hel⟩ := open_elems Try.underlying52 (by rw [cells_9]; omega) h hlt hw
  rw [bytes_9] at hb
  simp only [reachBytes] at hb
  have hex : ∀ i, i < len → ∃ x : ByteArray, w.cell? ⟨b, off + i, none⟩ = some (.string x) ∧ x.size ≤ 140737488355328 := by
    intro i hi
    obtain ⟨cs, x, n, hcl, hcell, hy, hwt⟩ := hel i hi
    rw [cells_9] at hcl hcell
    match cs, hcl with
    | [c0], _ =>
      obtain ⟨s, f0, rfl, _⟩ := DataW.trod_string Try.underlying9 hy
      simp only [List.cons.injEq, and_true] at f0
      subst f0
      refine ⟨s, ?_, str_reach hwt⟩
      have := hcell 0 (by omega)
      rw [Nat.add_zero, Nat.mul_one] at this
      exact this
  have : Inhabited ByteArray := ⟨⟨#[]⟩⟩
  obtain ⟨l, hl, hq⟩ := exists_list (α := ByteArray) (fun i (x : ByteArray) => w.cell? ⟨b, off + i, none⟩ = some (.string x) ∧ x.size ≤ 140737488355328) len hex
  have hd : ∀ j, j < len → l.getD j ⟨#[]⟩ = l.getD j default := fun j hj => by
    rw [List.getD, List.getD, List.getElem?_eq_getElem (by omega)]; rfl
  exact ⟨by omega, b, off, l, fun h => (h0 h).1, ⟨fun h => (h0 h).2, fun j hj => by rw [hd j hj]; exact (hq j hj).1, fun j hj => by rw [hd j hj]; exact (hq j hj).2⟩⟩

set_option maxRecDepth 20000 in
theorem owners_long (x : Nat) (ao : Option Addr) (len cap : Nat) (w : World) (hx : x ≤ 255) (h : 20 < len) :
    Calls Try.prog 8 #[.int .u8 x, .slice ao len cap] w fun e w' => e = .returned (.bool true) ∧ Below w.heap.size w w' := by
  have g3 : (20 : Int) < len := by omega
  obtain ⟨r, hr⟩ : ∃ r, r = x % 4 := ⟨_, rfl⟩
  have hr1 : (x : Int) % 4 = (r : Int) := by omega
  have hr2 : (x : Int).tmod 4 = (r : Int) := by rw [hr]; rfl
  have hr4 : r < 4 := by omega
  obtain ⟨m, hm⟩ : ∃ m, m = 1 + r := ⟨_, rfl⟩
  have hm2 : (1 : Int) + r = (m : Int) := by omega
  have hm3 : 1 ≤ m ∧ m ≤ 4 := by omega
  clear hr hm
  go_enter Try.func8, Try.ntmps8
  go_wp2_with fail
  refine (awake08 _).mono ?_
  rintro e w1 ⟨rfl, HB⟩
  have HBs := HB.size
  go_wp2_with fail
  refine (new_any m _ (by omega) (by omega)).mono ?_
  rintro e w2 ⟨pb, B, rfl, P, hpb, hB, hb⟩
  have HB2 := Below.thn HB hb HBs
  go_wp2
  go_ret
  exact ⟨rfl, HB2⟩

set_option maxRecDepth 100000 in
theorem poolOwners_lifted (os : Os) (started : os.Started) (H : Type) (enc : TypeId × Value → H) :
    ReturnsInHanded {} Try.checked os 8 .any (Rows.poolOwnersSpec.pre6 enc Try.prog Try.f8 [] false) (Rows.poolOwnersSpec.post enc Try.prog Try.f8 false true false false) := by
  refine law_lift 8 Try.f8 Rows.poolOwnersSpec [5, 52] os started H enc Try.func8 rfl rfl Try.underlying4 (by kernel_rfl) rfl
    (ChangeSpec.witness6 (enc := enc) (C := Try.checked) false ⟨#[], #[.int .u8 0, .slice none 0 0], []⟩ 8 (by kernel_rfl) (by kernel_rfl) (by kernel_rfl) (by kernel_rfl))
    (fun ds hds => by match ds, hds with | [d0, d1], _ => exact ⟨rfl, rfl, rfl⟩)
    (fun t ht => by
      simp only [List.mem_cons, List.mem_nil_iff, or_false] at ht
      rcases ht with rfl | rfl <;> exact ⟨by kernel_rfl, of_decide_eq_true (by kernel_rfl)⟩) ?_
  intro W base args ds p hval hA hlt hsz
  obtain ⟨v0, vs0, d0, ds0, p0, q0, e0, rfl, rfl, h0, r0⟩ := trodAll_cons hA
  obtain ⟨v1, vs1, d1, ds1, p1, q1, e1, rfl, rfl, h1, r1⟩ := trodAll_cons r0
  obtain ⟨rfl, rfl, rfl⟩ := trodAll_nil r1
  subst e1
  obtain rfl : args = #[v0, v1] := Array.ext' e0
  have hszj : ∀ (j : Nat) (t : TypeId) (d : DataW H), [5, 52][j]? = some t → [d0, d1][j]? = some d → (d.weights Try.prog t).all (· ≤ reachBytes) = true := fun j t d ht hd => by
    rw [List.all_eq_true] at hsz ⊢
    exact fun y hy => hsz y (DataW.weights_mem_each ht hd y hy)
  obtain ⟨n, rfl, rfl, rfl, wf⟩ := open_int Try.underlying5 (hval 0 5 v0 rfl rfl) h0
  obtain ⟨a0, len, cap, rfl⟩ := okWide_slice Try.underlying52 (hval 1 52 v1 rfl rfl)
  obtain ⟨hm, b, off, ss, hao, hss⟩ := open_strs h1 (fun x hx => hlt x (by simp [hx])) (hszj 1 52 _ rfl rfl)
  have g0 : 0 ≤ n ∧ n ≤ 255 := by
    simp only [Lit.wf, Bool.and_eq_true, decide_eq_true_eq] at wf; exact ⟨wf.1, wf.2⟩
  obtain ⟨k, rfl⟩ : ∃ k : Nat, n = k := ⟨n.toNat, by omega⟩
  by_cases hc : 20 < len
  · exact owners_long k a0 len cap W (by omega) hc
  · exact owners_walk k b off len cap a0 ss W (by omega) (by omega) hao hss
theorem poolOwners_holds : Rows.PoolOwnersSaid :=
  OpenClaim.holds_of_wide 8 Try.f8 rfl rfl rfl rfl rfl rfl rfl ⟨rfl, rfl, rfl, rfl, rfl⟩ rfl rfl rfl rfl rfl (by kernel_rfl) Try.func8 (by kernel_rfl)
    (of_decide_eq_true (by kernel_rfl)) (by unfold Func.isWrapper; first | (rw [if_pos (by decide +kernel)]; kernel_rfl) | (rw [if_neg (by decide +kernel)]; exact ⟨rfl, rfl⟩))
    (fun os started H enc _ => poolOwners_lifted os started H enc)
#print axioms poolOwners_holds
end Go.Proofs.Ytkfgbaieghlhkaa
