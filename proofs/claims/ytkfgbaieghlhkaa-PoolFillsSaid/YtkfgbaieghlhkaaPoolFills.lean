/- PoolFills: the row. -/
import Derived.Test.YtkfgbaieghlhkaaPoolFillsW
import Derived.Test.YtkfgbaieghlhkaaLawKit
namespace Go.Proofs.Ytkfgbaieghlhkaa
open Go.ChangeShapes Go.WideShapes Go.ChangeAt Go.RowKit

theorem cells_5 : Try.prog.cellsOf 5 = 1 := by kernel_rfl
theorem bytes_5 : Try.prog.bytesOf 5 = 1 := by kernel_rfl

theorem open_bytes {H : Type} {enc : TypeId × Value → H} {w : World} {a0 : Option Addr} {len cap : Nat} {d : DataW H} {ps : List MemPlace}
    (h : DataW.Trod enc Try.prog w 0 (fun _ => true) true 22 (.slice a0 len cap) d ps) (hlt : ∀ x ∈ ps, x.block < w.heap.size) (hw : (d.weights Try.prog 22).all (· ≤ reachBytes) = true) :
    len ≤ 140737488355328 ∧ ∃ b off bs, (0 < len → a0 = some ⟨b, off, none⟩) ∧ BytesAt w b off len bs := by
  obtain ⟨hb, b, off, h0, hel⟩ := open_elems Try.underlying22 (by rw [cells_5]; omega) h hlt hw
  rw [bytes_5] at hb
  simp only [reachBytes] at hb
  have hex : ∀ i, i < len → ∃ x : Nat, w.cell? ⟨b, off + i, none⟩ = some (.int .u8 x) ∧ x ≤ 255 := by
    intro i hi
    obtain ⟨cs, x, n, hcl, hcell, hy, hwt⟩ := hel i hi
    rw [cells_5] at hcl hcell
    match cs, hcl with
    | [c0], _ =>
      obtain ⟨n0, f0, rfl, w0⟩ := DataW.trod_int Try.underlying5 hy
      simp only [List.cons.injEq, and_true] at f0
      subst f0
      have g0 : 0 ≤ n0 ∧ n0 ≤ 255 := by
        simp only [Lit.wf, Bool.and_eq_true, decide_eq_true_eq] at w0; exact ⟨w0.1, w0.2⟩
      refine ⟨n0.toNat, ?_, by omega⟩
      have := hcell 0 (by omega)
      rw [Nat.add_zero, Nat.mul_one] at this
      rw [this]
      show some (Value.int .u8 n0) = some (.int .u8 (n0.toNat : Int))
      rw [Int.toNat_of_nonneg g0.1]
  obtain ⟨l, hl, hq⟩ := exists_list (fun i (x : Nat) => w.cell? ⟨b, off + i, none⟩ = some (.int .u8 x) ∧ x ≤ 255) len hex
  exact ⟨by omega, b, off, l, fun h => (h0 h).1, ⟨fun h => (h0 h).2, fun j hj => (hq j hj).1, fun j hj => (hq j hj).2⟩⟩

theorem fills_out (n : Int) (ao : Option Addr) (len cap : Nat) (w : World) (h : n < 1 ∨ 256 < n ∨ 40 < len) :
    Calls Try.prog 3 #[.int .i64 n, .slice ao len cap] w fun e w' => e = .returned (.bool true) ∧ Below w.heap.size w w' := by
  by_cases h1 : n < 1
  · go_enter Try.func3, Try.ntmps3
    go_wp2_with fail
    refine (awake08 _).mono ?_
    rintro e w1 ⟨rfl, HB⟩
    go_wp2
    go_ret
    exact ⟨rfl, HB⟩
  by_cases h2 : 256 < n
  · go_enter Try.func3, Try.ntmps3
    go_wp2_with fail
    refine (awake08 _).mono ?_
    rintro e w1 ⟨rfl, HB⟩
    go_wp2
    go_ret
    exact ⟨rfl, HB⟩
  have h3 : (40 : Int) < len := by omega
  go_enter Try.func3, Try.ntmps3
  go_wp2_with fail
  refine (awake08 _).mono ?_
  rintro e w1 ⟨rfl, HB⟩
  go_wp2
  go_ret
  exact ⟨rfl, HB⟩

set_option maxRecDepth 100000 in
theorem poolFills_lifted (os : Os) (started : os.Started) (H : Type) (enc : TypeId × Value → H) :
    ReturnsInHanded {} Try.checked os 3 .any (Rows.poolFillsSpec.pre6 enc Try.prog Try.f3 [] false) (Rows.poolFillsSpec.post enc Try.prog Try.f3 false true false false) := by
  refine law_lift 3 Try.f3 Rows.poolFillsSpec [3, 22] os started H enc Try.func3 rfl rfl Try.underlying4 (by kernel_rfl) rfl
    (ChangeSpec.witness6 (enc := enc) (C := Try.checked) false ⟨#[], #[.int .i64 0, .slice none 0 0], []⟩ 8 (by kernel_rfl) (by kernel_rfl) (by kernel_rfl) (by kernel_rfl))
    (fun ds hds => by match ds, hds with | [d0, d1], _ => exact ⟨rfl, rfl, rfl⟩)
    (fun t ht => by
      simp only [List.mem_cons, List.mem_nil_iff, or_false] at ht
      rcases ht with rfl | rfl <;> exact ⟨by kernel_rfl, of_decide_eq_true (by kernel_rfl)⟩) ?_
  intro W base args ds p hval hA hlt hsz
  obtain ⟨v0, vs0, d0, ds0, p0, q0, e0, rfl, rfl, h0, r0⟩ := trodAll_cons hA
  obtain ⟨v1, vs1, d1, ds1, p1, q1, e1, rfl, rfl, h1, r1⟩ := trodAll_cons r0
  obtain ⟨rfl, rfl, rfl⟩ := trodAll_nil r1
  subst e1
  obtain rfl : args = #[v0, v1] := Array.ext' e0
  have hszj : ∀ (j : Nat) (t : TypeId) (d : DataW H), [3, 22][j]? = some t → [d0, d1][j]? = some d → (d.weights Try.prog t).all (· ≤ reachBytes) = true := fun j t d ht hd => by
    rw [List.all_eq_true] at hsz ⊢
    exact fun y hy => hsz y (DataW.weights_mem_each ht hd y hy)
  obtain ⟨n, rfl, rfl, rfl, _⟩ := open_int Try.underlying3 (hval 0 3 v0 rfl rfl) h0
  obtain ⟨a0, len, cap, rfl⟩ := okWide_slice Try.underlying22 (hval 1 22 v1 rfl rfl)
  obtain ⟨hm, b, off, bs, hao, hbs⟩ := open_bytes h1 (fun x hx => hlt x (by simp [hx])) (hszj 1 22 _ rfl rfl)
  by_cases hc : n < 1 ∨ 256 < n ∨ 40 < len
  · exact fills_out n a0 len cap W hc
  · obtain ⟨k, rfl⟩ : ∃ k : Nat, n = k := ⟨n.toNat, by omega⟩
    exact fills_walk k b off len cap a0 bs W (by omega) (by omega) (by omega) hao hbs
theorem poolFills_holds : Rows.PoolFillsSaid :=
  OpenClaim.holds_of_wide 3 Try.f3 rfl rfl rfl rfl rfl rfl rfl ⟨rfl, rfl, rfl, rfl, rfl⟩ rfl rfl rfl rfl rfl (by kernel_rfl) Try.func3 (by kernel_rfl)
    (of_decide_eq_true (by kernel_rfl)) (by unfold Func.isWrapper; first | (rw [if_pos (by decide +kernel)]; kernel_rfl) | (rw [if_neg (by decide +kernel)]; exact ⟨rfl, rfl⟩))
    (fun os started H enc _ => poolFills_lifted os started H enc)
#print axioms poolFills_holds
end Go.Proofs.Ytkfgbaieghlhkaa
