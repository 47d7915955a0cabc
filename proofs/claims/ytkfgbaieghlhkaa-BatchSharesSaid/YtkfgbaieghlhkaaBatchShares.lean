/- For every input: 'BatchShares' of package vagabondlaw22 is true, and it neither panics nor changes an argument. Conditions: none. -/
import Derived.Test.YtkfgbaieghlhkaaBatchSharesW
import Derived.Test.YtkfgbaieghlhkaaLawKit
namespace Go.Proofs.Ytkfgbaieghlhkaa
open Go.ChangeShapes Go.WideShapes Go.ChangeAt Go.RowKit

theorem sh_cells_9 : Try.prog.cellsOf 9 = 1 := by kernel_rfl
theorem sh_bytes_9 : Try.prog.bytesOf 9 = 16 := by kernel_rfl
theorem sh_open_strs {H : Type} {enc : TypeId × Value → H} {w : World} {a0 : Option Addr} {len cap : Nat} {d : DataW H} {ps : List MemPlace}
    (h : DataW.Trod enc Try.prog w 0 (fun _ => true) true 52 (.slice a0 len cap) d ps) (hlt : ∀ x ∈ ps, x.block < w.heap.size) (hw : (d.weights Try.prog 52).all (· ≤ reachBytes) = true) :
    len ≤ 140737488355328 ∧ ∃ b off bs, (0 < len → a0 = some ⟨b, off, none⟩) ∧ StrsAt w b off len bs := by
  obtain ⟨hb, b, off, h0, hel⟩ := open_elems Try.underlying52 (by rw [sh_cells_9]; omega) h hlt hw
  rw [sh_bytes_9] at hb
  simp only [reachBytes] at hb
  have hex : ∀ i, i < len → ∃ x : ByteArray, w.cell? ⟨b, off + i, none⟩ = some (.string x) ∧ x.size ≤ 140737488355328 := by
    intro i hi
    obtain ⟨cs, x, n, hcl, hcell, hy, hwt⟩ := hel i hi
    rw [sh_cells_9] at hcl hcell
    match cs, hcl with
    | [c0], _ =>
      obtain ⟨s, f0, rfl, _⟩ := DataW.trod_string Try.underlying9 hy
      simp only [List.cons.injEq, and_true] at f0
      subst f0
      refine ⟨s, ?_, str_reach hwt⟩
      have := hcell 0 (by omega)
      rw [Nat.add_zero, Nat.mul_one] at this
      exact this
  have : Inhabited ByteArray := ⟨⟨#[]⟩⟩
  obtain ⟨l, hl, hq⟩ := exists_list (α := ByteArray) (fun i (x : ByteArray) => w.cell? ⟨b, off + i, none⟩ = some (.string x) ∧ x.size ≤ 140737488355328) len hex
  have hd : ∀ j, j < len → l.getD j ⟨#[]⟩ = l.getD j default := fun j hj => by
    rw [List.getD, List.getD, List.getElem?_eq_getElem (by omega)]; rfl
  exact ⟨by omega, b, off, l, fun h => (h0 h).1, ⟨fun h => (h0 h).2, fun j hj => by rw [hd j hj]; exact (hq j hj).1, fun j hj => by rw [hd j hj]; exact (hq j hj).2⟩⟩

set_option maxHeartbeats 1000000 in
theorem shares_long (x : Nat) (y : Int) (ao : Option Addr) (len cap : Nat) (w : World) (hl : len ≤ 140737488355328) (h : 40 < len) :
    Calls Try.prog 6 #[.int .u8 x, .slice ao len cap, .int .u64 y] w fun e w' => e = .returned (.bool true) ∧ Below w.heap.size w w' := by
  have g3 : (40 : Int) < len := by omega
  go_enter Try.func6, Try.ntmps6
  go_wp2_with fail
  refine (awake22 _).mono ?_
  rintro e w1 ⟨rfl, HB⟩
  go_wp2
  go_ret
  exact ⟨rfl, HB⟩

set_option maxRecDepth 100000 in
theorem batchShares_lifted (os : Os) (started : os.Started) (H : Type) (enc : TypeId × Value → H) :
    ReturnsInHanded {} Try.checked os 6 .any (Rows.batchSharesSpec.pre6 enc Try.prog Try.f6 [] false) (Rows.batchSharesSpec.post enc Try.prog Try.f6 false true false false) := by
  refine law_lift 6 Try.f6 Rows.batchSharesSpec [5, 52, 40] os started H enc Try.func6 rfl rfl Try.underlying4 (by kernel_rfl) rfl
    (ChangeSpec.witness6 (enc := enc) (C := Try.checked) false ⟨#[], #[.int .u8 0, .slice none 0 0, .int .u64 0], []⟩ 8 (by kernel_rfl) (by kernel_rfl) (by kernel_rfl) (by kernel_rfl))
    (fun ds hds => by match ds, hds with | [d0, d1, d2], _ => exact ⟨rfl, rfl, rfl⟩)
    (fun t ht => by
      simp only [List.mem_cons, List.mem_nil_iff, or_false] at ht
      rcases ht with rfl | rfl | rfl <;> exact ⟨by kernel_rfl, of_decide_eq_true (by kernel_rfl)⟩) ?_
  intro W base args ds p hval hA hlt hsz
  obtain ⟨v0, vs0, d0, ds0, p0, q0, e0, rfl, rfl, h0, r0⟩ := trodAll_cons hA
  obtain ⟨v1, vs1, d1, ds1, p1, q1, e1, rfl, rfl, h1, r1⟩ := trodAll_cons r0
  obtain ⟨v2, vs2, d2, ds2, p2, q2, e2, rfl, rfl, h2, r2⟩ := trodAll_cons r1
  obtain ⟨rfl, rfl, rfl⟩ := trodAll_nil r2
  subst e2
  subst e1
  obtain rfl : args = #[v0, v1, v2] := Array.ext' e0
  have hszj : ∀ (j : Nat) (t : TypeId) (d : DataW H), [5, 52, 40][j]? = some t → [d0, d1, d2][j]? = some d → (d.weights Try.prog t).all (· ≤ reachBytes) = true := fun j t d ht hd => by
    rw [List.all_eq_true] at hsz ⊢
    exact fun y hy => hsz y (DataW.weights_mem_each ht hd y hy)
  obtain ⟨n, rfl, rfl, rfl, wf⟩ := open_int Try.underlying5 (hval 0 5 v0 rfl rfl) h0
  obtain ⟨a0, len, cap, rfl⟩ := okWide_slice Try.underlying52 (hval 1 52 v1 rfl rfl)
  obtain ⟨y, rfl, rfl, rfl, wf2⟩ := open_int Try.underlying40 (hval 2 40 v2 rfl rfl) h2
  obtain ⟨hm, b, off, ss, hao, hss⟩ := sh_open_strs h1 (fun x hx => hlt x (by simp [hx])) (hszj 1 52 _ rfl rfl)
  have g0 : 0 ≤ n ∧ n ≤ 255 := by
    simp only [Lit.wf, Bool.and_eq_true, decide_eq_true_eq] at wf; exact ⟨wf.1, wf.2⟩
  have g1 : 0 ≤ y ∧ y ≤ 18446744073709551615 := by
    simp only [Lit.wf, Bool.and_eq_true, decide_eq_true_eq] at wf2; exact ⟨wf2.1, wf2.2⟩
  obtain ⟨k, rfl⟩ : ∃ k : Nat, n = k := ⟨n.toNat, by omega⟩
  by_cases hc : 40 < len
  · exact shares_long k y a0 len cap W hm hc
  · exact shares_walk k b off len cap y a0 ss W (by omega) g1.1 (by omega) (by omega) hao hss
theorem batchShares_holds : Rows.BatchSharesSaid :=
  OpenClaim.holds_of_wide 6 Try.f6 rfl rfl rfl rfl rfl rfl rfl ⟨rfl, rfl, rfl, rfl, rfl⟩ rfl rfl rfl rfl rfl (by kernel_rfl) Try.func6 (by kernel_rfl)
    (of_decide_eq_true (by kernel_rfl)) (by unfold Func.isWrapper; first | (rw [if_pos (by decide +kernel)]; kernel_rfl) | (rw [if_neg (by decide +kernel)]; exact ⟨rfl, rfl⟩))
    (fun os started H enc _ => batchShares_lifted os started H enc)
#print axioms batchShares_holds
end Go.Proofs.Ytkfgbaieghlhkaa
