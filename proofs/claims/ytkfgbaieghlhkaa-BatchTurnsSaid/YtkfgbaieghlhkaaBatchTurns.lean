/- For every input: 'BatchTurns' of package vagabondlaw22 is true, and it neither panics nor changes an argument. Conditions: none. -/
import Derived.Test.YtkfgbaieghlhkaaBatchTurnsW
import Derived.Test.YtkfgbaieghlhkaaLawKit
import Derived.Lib.SmallJoins
namespace Go.Proofs.Ytkfgbaieghlhkaa
open Go.ChangeShapes Go.WideShapes Go.ChangeAt Go.RowKit Go.Deep

theorem bt_cells72 : Try.prog.cellsOf 72 = 5 := by kernel_rfl
theorem bt_bytes72 : Try.prog.bytesOf 72 = 40 := by kernel_rfl
theorem bt_cells5 : Try.prog.cellsOf 5 = 1 := by kernel_rfl
theorem bt_cells4 : Try.prog.cellsOf 4 = 1 := by kernel_rfl
theorem bt_cells9 : Try.prog.cellsOf 9 = 1 := by kernel_rfl
theorem bt_cells49 : Try.prog.cellsOf 49 = 2 := by kernel_rfl
theorem bt_cells47 : Try.prog.cellsOf 47 = 1 := by kernel_rfl
theorem bt_cells46 : Try.prog.cellsOf 46 = 1 := by kernel_rfl

set_option maxRecDepth 20000 in
theorem open_bacts {H : Type} {enc : TypeId × Value → H} {w : World} {a0 : Option Addr} {len cap : Nat} {d : DataW H} {ps : List MemPlace}
    (h : DataW.Trod enc Try.prog w 0 (fun _ => true) true 70 (.slice a0 len cap) d ps) (hlt : ∀ x ∈ ps, x.block < w.heap.size) (hw : (d.weights Try.prog 70).all (· ≤ reachBytes) = true) :
    len ≤ 140737488355328 ∧ ∃ b off l, (0 < len → a0 = some ⟨b, off, none⟩) ∧ BActsAt w b off len l := by
  obtain ⟨hb, b, off, h0, hel⟩ := open_elems Try.underlying70 (by rw [bt_cells72]; omega) h hlt hw
  rw [bt_bytes72] at hb
  simp only [reachBytes] at hb
  have hex : ∀ i, i < len → ∃ x : BAct, w.cell? ⟨b, off + i * 5, none⟩ = some (.bool x.f) ∧ w.cell? ⟨b, off + i * 5 + 1, none⟩ = some (.int .u32 x.h) ∧ w.cell? ⟨b, off + i * 5 + 2, none⟩ = some (.int .u16 x.p) ∧ w.cell? ⟨b, off + i * 5 + 3, none⟩ = some (.string x.t) ∧
      w.cell? ⟨b, off + i * 5 + 4, none⟩ = some (.int .u8 x.o) ∧ x.o ≤ 255 := by
    intro i hi
    obtain ⟨cs, x, n, hcl, hcell, hy, hwt⟩ := hel i hi
    rw [bt_cells72] at hcl hcell
    match cs, hcl with
    | [c0, c1, c2, c3, c4], _ =>
      obtain ⟨y0, y1, y2, y3, m, rfl, _, e0, e1, e2, e3⟩ := Go.Joins.trod_struct4 Try.underlying72 hy
      simp only [bt_cells5, bt_cells4, bt_cells9, bt_cells49, List.drop_zero, List.drop_succ_cons, List.take_succ_cons, List.take_zero] at e0 e1 e2 e3
      obtain ⟨z0, z1, m2, rfl, _, u0, u1⟩ := trod_struct2 Try.underlying49 e1
      simp only [bt_cells46, bt_cells47, List.drop_zero, List.drop_succ_cons, List.take_succ_cons, List.take_zero] at u0 u1
      obtain ⟨bf, f0, rfl⟩ := DataW.trod_bool Try.underlying4 e0
      obtain ⟨n1, f1, rfl, w1⟩ := DataW.trod_int Try.underlying46 u0
      obtain ⟨n2, f2, rfl, w2⟩ := DataW.trod_int Try.underlying47 u1
      obtain ⟨s, f3, rfl, _⟩ := DataW.trod_string Try.underlying9 e2
      obtain ⟨n4, f4, rfl, w4⟩ := DataW.trod_int Try.underlying5 e3
      simp only [List.cons.injEq, and_true] at f0 f1 f2 f3 f4
      subst f0 f1 f2 f3 f4
      have g0 : 0 ≤ n4 ∧ n4 ≤ 255 := by
        simp only [Lit.wf, Bool.and_eq_true, decide_eq_true_eq] at w4; exact ⟨w4.1, w4.2⟩
      refine ⟨⟨bf, n1, n2, s, n4.toNat⟩, ?_, ?_, ?_, ?_, ?_, by show n4.toNat ≤ 255; omega⟩
      · exact hcell 0 (by omega)
      · exact hcell 1 (by omega)
      · exact hcell 2 (by omega)
      · exact hcell 3 (by omega)
      · have := hcell 4 (by omega)
        rw [this]
        show some (Value.int .u8 n4) = some (.int .u8 (n4.toNat : Int))
        rw [Int.toNat_of_nonneg g0.1]
  obtain ⟨l, hl, hq⟩ := exists_list (fun i (x : BAct) => w.cell? ⟨b, off + i * 5, none⟩ = some (.bool x.f) ∧ w.cell? ⟨b, off + i * 5 + 1, none⟩ = some (.int .u32 x.h) ∧ w.cell? ⟨b, off + i * 5 + 2, none⟩ = some (.int .u16 x.p) ∧ w.cell? ⟨b, off + i * 5 + 3, none⟩ = some (.string x.t) ∧
      w.cell? ⟨b, off + i * 5 + 4, none⟩ = some (.int .u8 x.o) ∧ x.o ≤ 255) len hex
  exact ⟨by omega, b, off, l, fun h => (h0 h).1, ⟨fun h => (h0 h).2, fun j hj => (hq j hj).1, fun j hj => (hq j hj).2.1, fun j hj => (hq j hj).2.2.1, fun j hj => (hq j hj).2.2.2.1, fun j hj => (hq j hj).2.2.2.2.1, fun j hj => (hq j hj).2.2.2.2.2⟩⟩

set_option maxRecDepth 20000 in
theorem bturns_range (x : Nat) (n : Int) (ao : Option Addr) (len cap : Nat) (w : World) (hx : x ≤ 255) (h : n < 1 ∨ 64 < n) :
    Calls Try.prog 9 #[.int .u8 x, .int .i64 n, .slice ao len cap] w fun e w' => e = .returned (.bool true) ∧ Below w.heap.size w w' := by
  obtain ⟨m, hm⟩ : ∃ m, m = 1 + x := ⟨_, rfl⟩
  have hm2 : (1 : Int) + x = (m : Int) := by omega
  have hm3 : 1 ≤ m ∧ m ≤ 256 := by omega
  clear hm
  by_cases h1 : n < 1
  · go_enter Try.func9, Try.ntmps9
    go_wp2_with fail
    refine (awake22 _).mono ?_
    rintro e w1 ⟨rfl, HB⟩
    have HBs := HB.size
    go_wp2_with fail
    refine (new_any m _ (by omega) (by omega)).mono ?_
    rintro e w2 ⟨pb, B, rfl, P, hpb, hB, hb⟩
    have HB2 := Below.thn HB hb HBs
    have HBs2 := HB2.size
    clear hb
    go_wp2_with fail
    refine (bnew_bad pb n _ h).mono ?_
    rintro e w3 ⟨rfl, hb⟩
    go_wp2
    go_ret
    exact ⟨rfl, Below.thn HB2 hb HBs2⟩
  have h2 : 64 < n := by omega
  go_enter Try.func9, Try.ntmps9
  go_wp2_with fail
  refine (awake22 _).mono ?_
  rintro e w1 ⟨rfl, HB⟩
  have HBs := HB.size
  go_wp2_with fail
  refine (new_any m _ (by omega) (by omega)).mono ?_
  rintro e w2 ⟨pb, B, rfl, P, hpb, hB, hb⟩
  have HB2 := Below.thn HB hb HBs
  have HBs2 := HB2.size
  clear hb
  go_wp2_with fail
  refine (bnew_bad pb n _ h).mono ?_
  rintro e w3 ⟨rfl, hb⟩
  go_wp2
  go_ret
  exact ⟨rfl, Below.thn HB2 hb HBs2⟩
set_option maxRecDepth 20000 in
theorem bturns_long (x most : Nat) (ao : Option Addr) (len cap : Nat) (w : World) (hx : x ≤ 255) (hm1 : 1 ≤ most) (hm2 : most ≤ 64) (hl : len ≤ 140737488355328) (h : 60 < len) :
    Calls Try.prog 9 #[.int .u8 x, .int .i64 most, .slice ao len cap] w fun e w' => e = .returned (.bool true) ∧ Below w.heap.size w w' := by
  have g1 : ¬ (most : Int) < 1 := by omega
  have g2 : ¬ (64 : Int) < most := by omega
  have g3 : (60 : Int) < len := by omega
  obtain ⟨m, hm⟩ : ∃ m, m = 1 + x := ⟨_, rfl⟩
  have hq2 : (1 : Int) + x = (m : Int) := by omega
  have hq3 : 1 ≤ m ∧ m ≤ 256 := by omega
  clear hm
  go_enter Try.func9, Try.ntmps9
  go_wp2_with fail
  refine (awake22 _).mono ?_
  rintro e w1 ⟨rfl, HB⟩
  have HBs := HB.size
  go_wp2_with fail
  refine (new_any m _ (by omega) (by omega)).mono ?_
  rintro e w2 ⟨pb, B, rfl, P, hpb, hB, hb⟩
  have HB2 := Below.thn HB hb HBs
  have HBs2 := HB2.size
  clear hb
  go_wp2_with fail
  refine (bnew_any pb most _ hm1 hm2).mono ?_
  rintro e w3 ⟨bb, rfl, _, _, hb⟩
  go_wp2
  go_ret
  exact ⟨rfl, Below.thn HB2 hb HBs2⟩

set_option maxRecDepth 100000 in
theorem batchTurns_lifted (os : Os) (started : os.Started) (H : Type) (enc : TypeId × Value → H) :
    ReturnsInHanded {} Try.checked os 9 .any (Rows.batchTurnsSpec.pre6 enc Try.prog Try.f9 [] false) (Rows.batchTurnsSpec.post enc Try.prog Try.f9 false true false false) := by
  refine law_lift 9 Try.f9 Rows.batchTurnsSpec [5, 3, 70] os started H enc Try.func9 rfl rfl Try.underlying4 (by kernel_rfl) rfl
    (ChangeSpec.witness6 (enc := enc) (C := Try.checked) false ⟨#[], #[.int .u8 0, .int .i64 0, .slice none 0 0], []⟩ 8 (by kernel_rfl) (by kernel_rfl) (by kernel_rfl) (by kernel_rfl))
    (fun ds hds => by match ds, hds with | [d0, d1, d2], _ => exact ⟨rfl, rfl, rfl⟩)
    (fun t ht => by
      simp only [List.mem_cons, List.mem_nil_iff, or_false] at ht
      rcases ht with rfl | rfl | rfl <;> exact ⟨by kernel_rfl, of_decide_eq_true (by kernel_rfl)⟩) ?_
  intro W base args ds p hval hA hlt hsz
  obtain ⟨v0, vs0, d0, ds0, p0, q0, e0, rfl, rfl, h0, r0⟩ := trodAll_cons hA
  obtain ⟨v1, vs1, d1, ds1, p1, q1, e1, rfl, rfl, h1, r1⟩ := trodAll_cons r0
  obtain ⟨v2, vs2, d2, ds2, p2, q2, e2, rfl, rfl, h2, r2⟩ := trodAll_cons r1
  obtain ⟨rfl, rfl, rfl⟩ := trodAll_nil r2
  subst e2
  subst e1
  obtain rfl : args = #[v0, v1, v2] := Array.ext' e0
  have hszj : ∀ (j : Nat) (t : TypeId) (d : DataW H), [5, 3, 70][j]? = some t → [d0, d1, d2][j]? = some d → (d.weights Try.prog t).all (· ≤ reachBytes) = true := fun j t d ht hd => by
    rw [List.all_eq_true] at hsz ⊢
    exact fun y hy => hsz y (DataW.weights_mem_each ht hd y hy)
  obtain ⟨x, rfl, rfl, rfl, wf⟩ := open_int Try.underlying5 (hval 0 5 v0 rfl rfl) h0
  obtain ⟨n, rfl, rfl, rfl, _⟩ := open_int Try.underlying3 (hval 1 3 v1 rfl rfl) h1
  obtain ⟨a0, len, cap, rfl⟩ := okWide_slice Try.underlying70 (hval 2 70 v2 rfl rfl)
  obtain ⟨hm, b, off, l, hao, hacts⟩ := open_bacts h2 (fun x hx => hlt x (by simp [hx])) (hszj 2 70 _ rfl rfl)
  have g0 : 0 ≤ x ∧ x ≤ 255 := by
    simp only [Lit.wf, Bool.and_eq_true, decide_eq_true_eq] at wf; exact ⟨wf.1, wf.2⟩
  obtain ⟨x, rfl⟩ : ∃ k : Nat, x = k := ⟨x.toNat, by omega⟩
  by_cases hc : n < 1 ∨ 64 < n
  · exact bturns_range x n a0 len cap W (by omega) hc
  · obtain ⟨k, rfl⟩ : ∃ k : Nat, n = k := ⟨n.toNat, by omega⟩
    by_cases hl : 60 < len
    · exact bturns_long x k a0 len cap W (by omega) (by omega) (by omega) hm hl
    · exact bturns_walk x k b off len cap a0 l W (by omega) (by omega) (by omega) (by omega) hao hacts
theorem batchTurns_holds : Rows.BatchTurnsSaid :=
  OpenClaim.holds_of_wide 9 Try.f9 rfl rfl rfl rfl rfl rfl rfl ⟨rfl, rfl, rfl, rfl, rfl⟩ rfl rfl rfl rfl rfl (by kernel_rfl) Try.func9 (by kernel_rfl)
    (of_decide_eq_true (by kernel_rfl)) (by unfold Func.isWrapper; first | (rw [if_pos (by decide +kernel)]; kernel_rfl) | (rw [if_neg (by decide +kernel)]; exact ⟨rfl, rfl⟩))
    (fun os started H enc _ => batchTurns_lifted os started H enc)
#print axioms batchTurns_holds
end Go.Proofs.Ytkfgbaieghlhkaa
