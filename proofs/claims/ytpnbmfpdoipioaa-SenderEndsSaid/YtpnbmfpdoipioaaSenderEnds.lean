/- For every input: 'SenderEnds' of package vagabondlaw15 is true, and it neither panics nor changes an argument. Conditions: none. -/
import Derived.Test.YtpnbmfpdoipioaaSenderEndsW
import Derived.Test.YtpnbmfpdoipioaaLawKit
import Derived.Deep.Strs
namespace Go.Proofs.Ytpnbmfpdoipioaa
open Go.ChangeShapes Go.WideShapes Go.ChangeAt Go.RowKit Go.Deep
open Go.ChangeMaps (open_string)

section
variable {P : Program} {w : World} {H : Type} {enc : TypeId × Value → H} {base : Nat} {spare : Nat → Bool} {held : Bool}
theorem trod_struct6 {t : TypeId} {f0 f1 f2 f3 f4 f5 : Field} {fuel : Nat} {cs : List Value} {x : DataW H × List MemPlace} (ht : P.underlying t = some (.struct #[f0, f1, f2, f3, f4, f5])) (h : DataW.trod enc P w base spare held fuel t cs = some x) :
    ∃ y0 y1 y2 y3 y4 y5 n, x = (.agg [y0.1, y1.1, y2.1, y3.1, y4.1, y5.1], y0.2 ++ (y1.2 ++ (y2.2 ++ (y3.2 ++ (y4.2 ++ y5.2))))) ∧ cs.length = P.cellsOf t ∧ DataW.trod enc P w base spare held n f0.type ((cs.drop f0.offset).take (P.cellsOf f0.type)) = some y0 ∧
      DataW.trod enc P w base spare held n f1.type ((cs.drop f1.offset).take (P.cellsOf f1.type)) = some y1 ∧ DataW.trod enc P w base spare held n f2.type ((cs.drop f2.offset).take (P.cellsOf f2.type)) = some y2 ∧
      DataW.trod enc P w base spare held n f3.type ((cs.drop f3.offset).take (P.cellsOf f3.type)) = some y3 ∧ DataW.trod enc P w base spare held n f4.type ((cs.drop f4.offset).take (P.cellsOf f4.type)) = some y4 ∧
      DataW.trod enc P w base spare held n f5.type ((cs.drop f5.offset).take (P.cellsOf f5.type)) = some y5 := by
  obtain ⟨xs, n, _, rfl, hl, hlen, hf⟩ := DataW.trod_struct ht h
  match xs, hlen with
  | [y0, y1, y2, y3, y4, y5], _ => exact ⟨y0, y1, y2, y3, y4, y5, n, by simp, hl, by simpa using hf 0 f0 rfl, by simpa using hf 1 f1 rfl, by simpa using hf 2 f2 rfl, by simpa using hf 3 f3 rfl, by simpa using hf 4 f4 rfl, by simpa using hf 5 f5 rfl⟩
end

theorem se_cells35 : Try.prog.cellsOf 35 = 6 := by kernel_rfl
theorem se_bytes35 : Try.prog.bytesOf 35 = 56 := by kernel_rfl
theorem se_cells5 : Try.prog.cellsOf 5 = 1 := by kernel_rfl
theorem se_cells9 : Try.prog.cellsOf 9 = 1 := by kernel_rfl
theorem se_cells29 : Try.prog.cellsOf 29 = 1 := by kernel_rfl

set_option maxRecDepth 20000 in
theorem open_sacts {H : Type} {enc : TypeId × Value → H} {w : World} {a0 : Option Addr} {len cap : Nat} {d : DataW H} {ps : List MemPlace}
    (h : DataW.Trod enc Try.prog w 0 (fun _ => true) true 22 (.slice a0 len cap) d ps) (hlt : ∀ x ∈ ps, x.block < w.heap.size) (hw : (d.weights Try.prog 22).all (· ≤ reachBytes) = true) :
    len ≤ 140737488355328 ∧ ∃ b off l, (0 < len → a0 = some ⟨b, off, none⟩) ∧ SActsAt w b off len l := by
  obtain ⟨hb, b, off, h0, hel⟩ := open_elems Try.underlying22 (by rw [se_cells35]; omega) h hlt hw
  rw [se_bytes35] at hb
  simp only [reachBytes] at hb
  have hex : ∀ i, i < len → ∃ x : SAct, w.cell? ⟨b, off + i * 6, none⟩ = some (.int .u8 x.d) ∧ w.cell? ⟨b, off + i * 6 + 1, none⟩ = some (.string x.t) ∧ w.cell? ⟨b, off + i * 6 + 2, none⟩ = some (.int .u64 x.n) ∧ w.cell? ⟨b, off + i * 6 + 3, none⟩ = some (.int .u64 x.la) ∧
      w.cell? ⟨b, off + i * 6 + 4, none⟩ = some (.int .u64 x.wt) ∧ w.cell? ⟨b, off + i * 6 + 5, none⟩ = some (.int .u64 x.bt) ∧ (x.d ≤ 255 ∧ x.n ≤ 18446744073709551615 ∧ x.la ≤ 18446744073709551615 ∧ x.wt ≤ 18446744073709551615 ∧ x.bt ≤ 18446744073709551615) := by
    intro i hi
    obtain ⟨cs, x, n, hcl, hcell, hy, hwt⟩ := hel i hi
    rw [se_cells35] at hcl hcell
    match cs, hcl with
    | [c0, c1, c2, c3, c4, c5], _ =>
      obtain ⟨y0, y1, y2, y3, y4, y5, m, rfl, _, e0, e1, e2, e3, e4, e5⟩ := trod_struct6 Try.underlying35 hy
      simp only [se_cells5, se_cells9, se_cells29, List.drop_zero, List.drop_succ_cons, List.take_succ_cons, List.take_zero] at e0 e1 e2 e3 e4 e5
      obtain ⟨n0, f0, rfl, w0⟩ := DataW.trod_int Try.underlying5 e0
      obtain ⟨s, f1, rfl, _⟩ := DataW.trod_string Try.underlying9 e1
      obtain ⟨n2, f2, rfl, w2⟩ := DataW.trod_int Try.underlying29 e2
      obtain ⟨n3, f3, rfl, w3⟩ := DataW.trod_int Try.underlying29 e3
      obtain ⟨n4, f4, rfl, w4⟩ := DataW.trod_int Try.underlying29 e4
      obtain ⟨n5, f5, rfl, w5⟩ := DataW.trod_int Try.underlying29 e5
      simp only [List.cons.injEq, and_true] at f0 f1 f2 f3 f4 f5
      subst f0 f1 f2 f3 f4 f5
      have g0 : 0 ≤ n0 ∧ n0 ≤ 255 := by simp only [Lit.wf, Bool.and_eq_true, decide_eq_true_eq] at w0; exact ⟨w0.1, w0.2⟩
      have g2 : 0 ≤ n2 ∧ n2 ≤ 18446744073709551615 := by simp only [Lit.wf, Bool.and_eq_true, decide_eq_true_eq] at w2; exact ⟨w2.1, w2.2⟩
      have g3 : 0 ≤ n3 ∧ n3 ≤ 18446744073709551615 := by simp only [Lit.wf, Bool.and_eq_true, decide_eq_true_eq] at w3; exact ⟨w3.1, w3.2⟩
      have g4 : 0 ≤ n4 ∧ n4 ≤ 18446744073709551615 := by simp only [Lit.wf, Bool.and_eq_true, decide_eq_true_eq] at w4; exact ⟨w4.1, w4.2⟩
      have g5 : 0 ≤ n5 ∧ n5 ≤ 18446744073709551615 := by simp only [Lit.wf, Bool.and_eq_true, decide_eq_true_eq] at w5; exact ⟨w5.1, w5.2⟩
      have cst : ∀ (k : IntKind) (z : Int), 0 ≤ z → some (Value.int k z) = some (.int k (z.toNat : Int)) := fun k z hz => by rw [Int.toNat_of_nonneg hz]
      refine ⟨⟨n0.toNat, s, n2.toNat, n3.toNat, n4.toNat, n5.toNat⟩, ?_, ?_, ?_, ?_, ?_, ?_, ?_⟩
      · have := hcell 0 (by omega)
        rw [Nat.add_zero] at this
        exact this.trans (cst _ _ g0.1)
      · exact hcell 1 (by omega)
      · exact (hcell 2 (by omega)).trans (cst _ _ g2.1)
      · exact (hcell 3 (by omega)).trans (cst _ _ g3.1)
      · exact (hcell 4 (by omega)).trans (cst _ _ g4.1)
      · exact (hcell 5 (by omega)).trans (cst _ _ g5.1)
      · refine ⟨?_, ?_, ?_, ?_, ?_⟩
        · show n0.toNat ≤ 255; omega
        · show n2.toNat ≤ _; omega
        · show n3.toNat ≤ _; omega
        · show n4.toNat ≤ _; omega
        · show n5.toNat ≤ _; omega
  obtain ⟨l, hl, hq⟩ := exists_list (fun i (x : SAct) => w.cell? ⟨b, off + i * 6, none⟩ = some (.int .u8 x.d) ∧ w.cell? ⟨b, off + i * 6 + 1, none⟩ = some (.string x.t) ∧ w.cell? ⟨b, off + i * 6 + 2, none⟩ = some (.int .u64 x.n) ∧ w.cell? ⟨b, off + i * 6 + 3, none⟩ = some (.int .u64 x.la) ∧
      w.cell? ⟨b, off + i * 6 + 4, none⟩ = some (.int .u64 x.wt) ∧ w.cell? ⟨b, off + i * 6 + 5, none⟩ = some (.int .u64 x.bt) ∧ (x.d ≤ 255 ∧ x.n ≤ 18446744073709551615 ∧ x.la ≤ 18446744073709551615 ∧ x.wt ≤ 18446744073709551615 ∧ x.bt ≤ 18446744073709551615)) len hex
  exact ⟨by omega, b, off, l, fun h => (h0 h).1, ⟨fun h => (h0 h).2, fun j hj => (hq j hj).1, fun j hj => (hq j hj).2.1, fun j hj => (hq j hj).2.2.1, fun j hj => (hq j hj).2.2.2.1, fun j hj => (hq j hj).2.2.2.2.1, fun j hj => (hq j hj).2.2.2.2.2.1, fun j hj => (hq j hj).2.2.2.2.2.2⟩⟩

set_option maxHeartbeats 1000000 in
theorem ends_long (first : ByteArray) (ao : Option Addr) (len cap : Nat) (w : World) (hl : len ≤ 140737488355328) (hs : first.size ≤ 140737488355328) (h : 30 < len ∨ 100 < first.size) :
    Calls Try.prog 3 #[.string first, .slice ao len cap] w fun e w' => e = .returned (.bool true) ∧ Below w.heap.size w w' := by
  by_cases h1 : 30 < len
  · have g1 : (30 : Int) < len := by omega
    go_enter Try.func3, Try.ntmps3
    go_wp2_with fail
    refine (awake15 _).mono ?_
    rintro e w0 ⟨rfl, HB0⟩
    go_wp2
    go_ret
    exact ⟨rfl, HB0⟩
  · have g1 : ¬ (30 : Int) < len := by omega
    have g2 : (100 : Int) < first.size := by omega
    go_enter Try.func3, Try.ntmps3
    go_wp2_with fail
    refine (awake15 _).mono ?_
    rintro e w0 ⟨rfl, HB0⟩
    go_wp2
    go_ret
    exact ⟨rfl, HB0⟩

set_option maxRecDepth 100000 in
theorem senderEnds_lifted (os : Os) (started : os.Started) (H : Type) (enc : TypeId × Value → H) :
    ReturnsInHanded {} Try.checked os 3 .any (Rows.senderEndsSpec.pre6 enc Try.prog Try.f3 [] false) (Rows.senderEndsSpec.post enc Try.prog Try.f3 false true false false) := by
  refine law_lift 3 Try.f3 Rows.senderEndsSpec [9, 22] os started H enc Try.func3 rfl rfl Try.underlying4 (by kernel_rfl) rfl
    (ChangeSpec.witness6 (enc := enc) (C := Try.checked) false ⟨#[], #[.string ⟨#[]⟩, .slice none 0 0], []⟩ 8 (by kernel_rfl) (by kernel_rfl) (by kernel_rfl) (by kernel_rfl))
    (fun ds hds => by match ds, hds with | [d0, d1], _ => exact ⟨rfl, rfl, rfl⟩)
    (fun t ht => by
      simp only [List.mem_cons, List.mem_nil_iff, or_false] at ht
      rcases ht with rfl | rfl <;> exact ⟨by kernel_rfl, of_decide_eq_true (by kernel_rfl)⟩) ?_
  intro W base args ds p hval hA hlt hsz
  obtain ⟨v0, vs0, d0, ds0, p0, q0, e0, rfl, rfl, h0, r0⟩ := trodAll_cons hA
  obtain ⟨v1, vs1, d1, ds1, p1, q1, e1, rfl, rfl, h1, r1⟩ := trodAll_cons r0
  obtain ⟨rfl, rfl, rfl⟩ := trodAll_nil r1
  subst e1
  obtain rfl : args = #[v0, v1] := Array.ext' e0
  have hszj : ∀ (j : Nat) (t : TypeId) (d : DataW H), [9, 22][j]? = some t → [d0, d1][j]? = some d → (d.weights Try.prog t).all (· ≤ reachBytes) = true := fun j t d ht hd => by
    rw [List.all_eq_true] at hsz ⊢
    exact fun y hy => hsz y (DataW.weights_mem_each ht hd y hy)
  obtain ⟨s, rfl, rfl, rfl, _⟩ := open_string Try.underlying9 (hval 0 9 v0 rfl rfl) h0
  obtain ⟨a0, len, cap, rfl⟩ := okWide_slice Try.underlying22 (hval 1 22 v1 rfl rfl)
  obtain ⟨hm, b, off, l, hao, hacts⟩ := open_sacts h1 (fun x hx => hlt x (by simp [hx])) (hszj 1 22 _ rfl rfl)
  have hs := str_reach (hszj 0 9 _ rfl rfl)
  by_cases hc : 30 < len ∨ 100 < s.size
  · exact ends_long s a0 len cap W hm hs hc
  · exact ends_walk s b off len cap a0 l W (by omega) (by omega) hao hacts
theorem senderEnds_holds : Rows.SenderEndsSaid :=
  OpenClaim.holds_of_wide 3 Try.f3 rfl rfl rfl rfl rfl rfl rfl ⟨rfl, rfl, rfl, rfl, rfl⟩ rfl rfl rfl rfl rfl (by kernel_rfl) Try.func3 (by kernel_rfl)
    (of_decide_eq_true (by kernel_rfl)) (by unfold Func.isWrapper; first | (rw [if_pos (by decide +kernel)]; kernel_rfl) | (rw [if_neg (by decide +kernel)]; exact ⟨rfl, rfl⟩))
    (fun os started H enc _ => senderEnds_lifted os started H enc)
#print axioms senderEnds_holds
end Go.Proofs.Ytpnbmfpdoipioaa
