/- PoolTurns: the row. -/
import Derived.Test.YtkfgbaieghlhkaaPoolTurnsW
import Derived.Test.YtkfgbaieghlhkaaLawKit
import Derived.Deep.Strs
namespace Go.Proofs.Ytkfgbaieghlhkaa
open Go.ChangeShapes Go.WideShapes Go.ChangeAt Go.RowKit Go.Deep

theorem cells60 : Try.prog.cellsOf 60 = 3 := by kernel_rfl
theorem bytes60 : Try.prog.bytesOf 60 = 32 := by kernel_rfl
theorem cells__5 : Try.prog.cellsOf 5 = 1 := by kernel_rfl
theorem cells__3 : Try.prog.cellsOf 3 = 1 := by kernel_rfl
theorem cells__9 : Try.prog.cellsOf 9 = 1 := by kernel_rfl

theorem open_pacts {H : Type} {enc : TypeId × Value → H} {w : World} {a0 : Option Addr} {len cap : Nat} {d : DataW H} {ps : List MemPlace}
    (h : DataW.Trod enc Try.prog w 0 (fun _ => true) true 57 (.slice a0 len cap) d ps) (hlt : ∀ x ∈ ps, x.block < w.heap.size) (hw : (d.weights Try.prog 57).all (· ≤ reachBytes) = true) :
    len ≤ 140737488355328 ∧ ∃ b off l, (0 < len → a0 = some ⟨b, off, none⟩) ∧ PActsAt w b off len l := by
  obtain ⟨hb, b, off, h0, hel⟩ := open_elems Try.underlying57 (by rw [cells60]; omega) h hlt hw
  rw [bytes60] at hb
  simp only [reachBytes] at hb
  have hex : ∀ i, i < len → ∃ x : PAct, w.cell? ⟨b, off + i * 3, none⟩ = some (.int .u8 x.d) ∧ w.cell? ⟨b, off + i * 3 + 1, none⟩ = some (.int .i64 x.i) ∧ w.cell? ⟨b, off + i * 3 + 2, none⟩ = some (.string x.t) ∧ x.d ≤ 255 := by
    intro i hi
    obtain ⟨cs, x, n, hcl, hcell, hy, hwt⟩ := hel i hi
    rw [cells60] at hcl hcell
    match cs, hcl with
    | [c0, c1, c2], _ =>
      obtain ⟨y0, y1, y2, m, rfl, _, e0, e1, e2⟩ := trod_struct3 Try.underlying60 hy
      simp only [cells__5, cells__3, cells__9, List.drop_zero, List.drop_succ_cons, List.take_succ_cons, List.take_zero] at e0 e1 e2
      obtain ⟨n0, f0, rfl, w0⟩ := DataW.trod_int Try.underlying5 e0
      obtain ⟨n1, f1, rfl, w1⟩ := DataW.trod_int Try.underlying3 e1
      obtain ⟨s, f2, rfl, _⟩ := DataW.trod_string Try.underlying9 e2
      simp only [List.cons.injEq, and_true] at f0 f1 f2
      subst f0 f1 f2
      have g0 : 0 ≤ n0 ∧ n0 ≤ 255 := by
        simp only [Lit.wf, Bool.and_eq_true, decide_eq_true_eq] at w0; exact ⟨w0.1, w0.2⟩
      refine ⟨⟨n0.toNat, n1, s⟩, ?_, ?_, ?_, by show n0.toNat ≤ 255; omega⟩
      · have := hcell 0 (by omega)
        rw [Nat.add_zero] at this
        rw [this]
        show some (Value.int .u8 n0) = some (.int .u8 (n0.toNat : Int))
        rw [Int.toNat_of_nonneg g0.1]
      · exact hcell 1 (by omega)
      · exact hcell 2 (by omega)
  obtain ⟨l, hl, hq⟩ := exists_list (fun i (x : PAct) => w.cell? ⟨b, off + i * 3, none⟩ = some (.int .u8 x.d) ∧ w.cell? ⟨b, off + i * 3 + 1, none⟩ = some (.int .i64 x.i) ∧ w.cell? ⟨b, off + i * 3 + 2, none⟩ = some (.string x.t) ∧ x.d ≤ 255) len hex
  exact ⟨by omega, b, off, l, fun h => (h0 h).1, ⟨fun h => (h0 h).2, fun j hj => (hq j hj).1, fun j hj => (hq j hj).2.1, fun j hj => (hq j hj).2.2.1, fun j hj => (hq j hj).2.2.2⟩⟩

set_option maxRecDepth 20000 in
theorem turns_range (n : Int) (ao : Option Addr) (len cap : Nat) (w : World) (h : n < 1 ∨ 256 < n) :
    Calls Try.prog 7 #[.int .i64 n, .slice ao len cap] w fun e w' => e = .returned (.bool true) ∧ Below w.heap.size w w' := by
  by_cases h1 : n < 1
  · go_enter Try.func7, Try.ntmps7
    go_wp2_with fail
    refine (awake08 _).mono ?_
    rintro e w1 ⟨rfl, HB⟩
    go_wp2_with fail
    refine (new_bad n _ h).mono ?_
    rintro e w2 ⟨rfl, hb⟩
    go_wp2
    go_ret
    exact ⟨rfl, Below.thn HB hb HB.size⟩
  have h2 : 256 < n := by omega
  go_enter Try.func7, Try.ntmps7
  go_wp2_with fail
  refine (awake08 _).mono ?_
  rintro e w1 ⟨rfl, HB⟩
  go_wp2_with fail
  refine (new_bad n _ h).mono ?_
  rintro e w2 ⟨rfl, hb⟩
  go_wp2
  go_ret
  exact ⟨rfl, Below.thn HB hb HB.size⟩
set_option maxRecDepth 20000 in
theorem turns_long (n : Nat) (ao : Option Addr) (len cap : Nat) (w : World) (h1 : 1 ≤ n) (h2 : n ≤ 256) (h : 80 < len) :
    Calls Try.prog 7 #[.int .i64 n, .slice ao len cap] w fun e w' => e = .returned (.bool true) ∧ Below w.heap.size w w' := by
  have g1 : ¬ (n : Int) < 1 := by omega
  have g2 : ¬ (256 : Int) < n := by omega
  have g3 : (80 : Int) < len := by omega
  go_enter Try.func7, Try.ntmps7
  go_wp2_with fail
  refine (awake08 _).mono ?_
  rintro e w1 ⟨rfl, HB⟩
  go_wp2_with fail
  refine (new_any n _ (by omega) (by omega)).mono ?_
  rintro e w2 ⟨pb, B, rfl, P, hpb, hB, hb⟩
  go_wp2
  go_ret
  exact ⟨rfl, Below.thn HB hb HB.size⟩

set_option maxRecDepth 100000 in
theorem poolTurns_lifted (os : Os) (started : os.Started) (H : Type) (enc : TypeId × Value → H) :
    ReturnsInHanded {} Try.checked os 7 .any (Rows.poolTurnsSpec.pre6 enc Try.prog Try.f7 [] false) (Rows.poolTurnsSpec.post enc Try.prog Try.f7 false true false false) := by
  refine law_lift 7 Try.f7 Rows.poolTurnsSpec [3, 57] os started H enc Try.func7 rfl rfl Try.underlying4 (by kernel_rfl) rfl
    (ChangeSpec.witness6 (enc := enc) (C := Try.checked) false ⟨#[], #[.int .i64 0, .slice none 0 0], []⟩ 8 (by kernel_rfl) (by kernel_rfl) (by kernel_rfl) (by kernel_rfl))
    (fun ds hds => by match ds, hds with | [d0, d1], _ => exact ⟨rfl, rfl, rfl⟩)
    (fun t ht => by
      simp only [List.mem_cons, List.mem_nil_iff, or_false] at ht
      rcases ht with rfl | rfl <;> exact ⟨by kernel_rfl, of_decide_eq_true (by kernel_rfl)⟩) ?_
  intro W base args ds p hval hA hlt hsz
  obtain ⟨v0, vs0, d0, ds0, p0, q0, e0, rfl, rfl, h0, r0⟩ := trodAll_cons hA
  obtain ⟨v1, vs1, d1, ds1, p1, q1, e1, rfl, rfl, h1, r1⟩ := trodAll_cons r0
  obtain ⟨rfl, rfl, rfl⟩ := trodAll_nil r1
  subst e1
  obtain rfl : args = #[v0, v1] := Array.ext' e0
  have hszj : ∀ (j : Nat) (t : TypeId) (d : DataW H), [3, 57][j]? = some t → [d0, d1][j]? = some d → (d.weights Try.prog t).all (· ≤ reachBytes) = true := fun j t d ht hd => by
    rw [List.all_eq_true] at hsz ⊢
    exact fun y hy => hsz y (DataW.weights_mem_each ht hd y hy)
  obtain ⟨n, rfl, rfl, rfl, _⟩ := open_int Try.underlying3 (hval 0 3 v0 rfl rfl) h0
  obtain ⟨a0, len, cap, rfl⟩ := okWide_slice Try.underlying57 (hval 1 57 v1 rfl rfl)
  obtain ⟨hm, b, off, l, hao, hacts⟩ := open_pacts h1 (fun x hx => hlt x (by simp [hx])) (hszj 1 57 _ rfl rfl)
  by_cases hc : n < 1 ∨ 256 < n
  · exact turns_range n a0 len cap W hc
  · obtain ⟨k, rfl⟩ : ∃ k : Nat, n = k := ⟨n.toNat, by omega⟩
    by_cases hl : 80 < len
    · exact turns_long k a0 len cap W (by omega) (by omega) hl
    · exact turns_walk k b off len cap a0 l W (by omega) (by omega) (by omega) hao hacts
theorem poolTurns_holds : Rows.PoolTurnsSaid :=
  OpenClaim.holds_of_wide 7 Try.f7 rfl rfl rfl rfl rfl rfl rfl ⟨rfl, rfl, rfl, rfl, rfl⟩ rfl rfl rfl rfl rfl (by kernel_rfl) Try.func7 (by kernel_rfl)
    (of_decide_eq_true (by kernel_rfl)) (by unfold Func.isWrapper; first | (rw [if_pos (by decide +kernel)]; kernel_rfl) | (rw [if_neg (by decide +kernel)]; exact ⟨rfl, rfl⟩))
    (fun os started H enc _ => poolTurns_lifted os started H enc)
#print axioms poolTurns_holds
end Go.Proofs.Ytkfgbaieghlhkaa
