/- For every input: 'SenderBeats' of package vagabondlaw15 is true, and it neither panics nor changes an argument. Conditions: none. -/
import Derived.Test.YtpnbmfpdoipioaaSndStore
import Derived.Test.YtpnbmfpdoipioaaLawKit
namespace Go.Proofs.Ytpnbmfpdoipioaa
open Go.ChangeShapes Go.WideShapes Go.ChangeAt Go.RowKit

def tA : ByteArray := ⟨#[97]⟩
theorem b_fresh (x : Nat) : freshB [⟨0, x, tA⟩] tA = false := by simp [freshB, topS]
theorem b_due (x lst wait beat : Nat) (h : lst + beat ≤ 100000) : dueU [⟨0, x, tA⟩] tA lst wait beat = lst + beat := by
  unfold dueU
  rw [if_neg (by rw [b_fresh]; simp), if_neg (by simp)]
  unfold addU
  rw [if_neg (by omega)]
theorem b_next (x k : Nat) : nextL [⟨0, x, tA⟩] tA k = [⟨0, k, tA⟩] := by
  unfold nextL
  rw [b_fresh]
  rfl
theorem b_quiet (x : Nat) : quietB [⟨0, x, tA⟩] tA = true := by simp [quietB]

set_option maxHeartbeats 4000000 in
set_option maxRecDepth 20000 in
theorem beats_walk (beat n : Nat) (w : World) (h1 : 1 ≤ beat) (h2 : beat ≤ 1000) (hn : n ≤ 255) :
    Calls Try.prog 4 #[.int .u16 beat, .int .u8 n] w fun e w' => e = .returned (.bool true) ∧ Below w.heap.size w w' := by
  have g1 : ¬ (beat : Int) < 1 := by omega
  have g2 : ¬ (1000 : Int) < beat := by omega
  have e7 : (tA ++ ⟨#[62]⟩ ++ tA).toList = (⟨#[97, 62, 97]⟩ : ByteArray).toList := by rfl
  have E7 := Lib.hid e7
  clear e7
  go_enter Try.func4, Try.ntmps4
  go_wp2_with fail
  refine (awake15 _).mono ?_
  rintro e w0 ⟨rfl, HB0⟩
  have HBs0 := HB0.size
  go_wp2_with fail
  refine (rule_any _).mono ?_
  rintro e w1 ⟨rfl, hb⟩
  have HB1 := Below.thn HB0 hb HBs0
  have HBs1 := HB1.size
  go_wp2_with fail
  refine (new_any tA _ (by decide)).mono ?_
  rintro e w2 ⟨v, rfl, S2, hb⟩
  have HB2 := Below.thn HB1 hb HBs1
  have HBs2 := HB2.size
  obtain ⟨sa, sn, sc, hsl⟩ := S2.form
  subst hsl
  clear HB1 HB0 hb
  go_wp2_with fail
  have B3 := Blk.new w2 #[fDiff, fSame, .slice sa sn sc, .string tA, .int .u64 0] 31
  have S3 := S2.below (w' := w2.alloc (.cells #[fDiff, fSame, .slice sa sn sc, .string tA, .int .u64 0] 31)) ((Below.refl _ _).alloc (Nat.le_refl _) _)
  have HB3 := HB2.alloc HBs2 (.cells #[fDiff, fSame, .slice sa sn sc, .string tA, .int .u64 0] 31)
  obtain ⟨b5, hb5⟩ : ∃ b5, w2.heap.size = b5 := ⟨_, rfl⟩
  rw [hb5] at B3
  have hb5w : w.heap.size ≤ b5 := by omega
  generalize w2.alloc (.cells #[fDiff, fSame, .slice sa sn sc, .string tA, .int .u64 0] 31) = W3 at *
  rw [hb5]
  clear hb5 S2 HB2 hb HBs2
  go_loopg [6, 23] n (fun g t6 t23 wr => ∃ (k lst x : Nat) (a : Option Addr) (m c : Nat), t6 = .int .u64 lst ∧ t23 = .int .u64 k ∧ k + g = n ∧ lst ≤ k ∧ SenderAt wr (SV (.slice a m c) tA lst) [⟨0, x, tA⟩] tA lst ∧ Blk wr b5 #[fDiff, fSame, .slice a m c, .string tA, .int .u64 lst] 31 ∧ Below w.heap.size w wr)
  case atStart => exact ⟨0, 0, 0, sa, sn, sc, rfl, rfl, by omega, by omega, S3, B3, HB3⟩
  case round =>
    clear S3 B3 HB3
    obtain ⟨k, lst, x, a, m, c, rfl, rfl, hk, hlk, S, B, HB⟩ := hrel
    have HBs := HB.size
    have HK := Lib.hid hk
    have hd := b_due x lst 5 beat (by omega)
    have Bc := B.cell; have Bf := B.frozen; have Bl := B.lt
    cases gk with
    | zero =>
      have hk' : ¬ (k : Int) < n := by omega
      have hkn : lst ≤ 255 := by omega
      clear hk
      have HD := Lib.hid hd
      clear hd
      go_wp2_with fail
      refine (sdue_any _ _ 5 beat _ _ _ S (by omega) (by omega)).mono ?_
      rintro e w5 ⟨rfl, hb⟩
      rw [HD.out]
      go_wp2
      go_ret
      exact ⟨rfl, Below.thn HB hb HBs⟩
    | succ g =>
      have hk' : (k : Int) < n := by omega
      have hkn : k ≤ 255 := by omega
      clear hk
      by_cases hdue : k < lst + beat
      · have hdi : ¬ (lst : Int) + beat ≤ k := by omega
        have hdu : k < dueU [⟨0, x, tA⟩] tA lst 5 beat := by rw [hd]; exact hdue
        clear hd
        go_wp2_with fail
        refine (next_not _ _ _ lst k 5 beat 0 _ S (by omega) (by omega) hdu).mono ?_
        rintro e w5 ⟨rfl, hb⟩
        have B5 := B.below hb
        have S5 := S.below hb
        have HB5 := Below.thn HB hb HBs
        have HBs5 := HB5.size
        clear B Bc Bf Bl S HB hb hdu
        have Bc := B5.cell; have Bf := B5.frozen; have Bl := B5.lt
        go_wp2_with fail
        refine (sq_any _ _ _ _ _ (S5.below (by (repeat (first | (with_reducible assumption) | (with_reducible exact Below.refl _ _) | with_reducible apply bl_drewN | with_reducible apply Below.drew | (with_reducible apply bl_alloc; focus (first | (simp; done) | (simp; omega) | omega)) | (with_reducible apply bl_set; focus (first | (simp; done) | (simp; omega) | omega))))))).mono ?_
        rintro e w6 ⟨rfl, hb⟩
        rw [b_quiet]
        have hb' : Below w5.heap.size w5 w6 := Below.thn (by (repeat (first | (with_reducible assumption) | (with_reducible exact Below.refl _ _) | with_reducible apply bl_drewN | with_reducible apply Below.drew | (with_reducible apply bl_alloc; focus (first | (simp; done) | (simp; omega) | omega)) | (with_reducible apply bl_set; focus (first | (simp; done) | (simp; omega) | omega))))) hb
        have B6 := B5.below hb'
        have B6a := Blk.below (b := w5.heap.size) (t := 31) (by (repeat (first | (with_reducible assumption) | (with_reducible apply Blk.new'; (first | (with_reducible rfl) | (simp; done))) | with_reducible apply Blk.alloc | with_reducible apply Blk.set | ((with_reducible apply Blk.set_ne); focus (first | (simp; done) | (simp; omega))) | with_reducible apply Blk.drewN | with_reducible apply Blk.drew))) hb
        have S6 := S5.below hb'
        have HB6 := Below.thn HB5 hb' HBs5
        have HBs6 := HB6.size
        clear B5 Bc Bf Bl S5 HB5 hb hb'
        have Bc := B6.cell; have Bf := B6.frozen; have Bl := B6.lt
        have Bac := B6a.cell; have Bal := B6a.lt
        go_wp2_with fail
        obtain ⟨R1, R2, R3⟩ := snd_store B6 S6
        have R3 := R3 _ _ HB6 hb5w
        clear B6 Bc Bf Bl B6a Bac Bal S6 HB6
        go_roundg g
        case rel => exact ⟨k + 1, lst, x, a, m, c, rfl, by simp, by have := HK.out; omega, by omega, R2, R1, R3⟩
        case measure => omega
      · have hdi : (lst : Int) + beat ≤ k := by omega
        have hdu : ¬ k < dueU [⟨0, x, tA⟩] tA lst 5 beat := by rw [hd]; exact hdue
        clear hd
        go_wp2_with fail
        refine (next_ok _ _ _ lst k 5 beat 0 _ S (by omega) (by omega) (by omega) (by show 0 < 1000000; omega) hdu).mono ?_
        rintro e w5 ⟨v5, rfl, S5, hb⟩
        rw [b_next] at S5
        rw [b_next]
        have e9 : ([⟨0, k, tA⟩] : List SSt).getD 0 default = ⟨0, k, tA⟩ := rfl
        have e8 : topS [⟨0, k, tA⟩] = ⟨0, k, tA⟩ := rfl
        rw [e9, e8]
        dsimp only
        clear e8 e9
        obtain ⟨a5, m5, c5, h5⟩ := S5.form
        subst h5
        have B5 := B.below hb
        have HB5 := Below.thn HB hb HBs
        have HBs5 := HB5.size
        have hE7 := E7.out
        generalize tA ++ ⟨#[62]⟩ ++ tA = dd at hE7 ⊢
        clear B Bc Bf Bl S HB hb hdu
        have Bc := B5.cell; have Bf := B5.frozen; have Bl := B5.lt
        go_wp2_with fail
        refine (sq_any _ _ _ _ _ (S5.below (by (repeat (first | (with_reducible assumption) | (with_reducible exact Below.refl _ _) | with_reducible apply bl_drewN | with_reducible apply Below.drew | (with_reducible apply bl_alloc; focus (first | (simp; done) | (simp; omega) | omega)) | (with_reducible apply bl_set; focus (first | (simp; done) | (simp; omega) | omega))))))).mono ?_
        rintro e w6 ⟨rfl, hb⟩
        rw [b_quiet]
        have hb' : Below w5.heap.size w5 w6 := Below.thn (by (repeat (first | (with_reducible assumption) | (with_reducible exact Below.refl _ _) | with_reducible apply bl_drewN | with_reducible apply Below.drew | (with_reducible apply bl_alloc; focus (first | (simp; done) | (simp; omega) | omega)) | (with_reducible apply bl_set; focus (first | (simp; done) | (simp; omega) | omega))))) hb
        have B6 := B5.below hb'
        have B6a := Blk.below (b := w5.heap.size) (t := 31) (by (repeat (first | (with_reducible assumption) | (with_reducible apply Blk.new'; (first | (with_reducible rfl) | (simp; done))) | with_reducible apply Blk.alloc | with_reducible apply Blk.set | ((with_reducible apply Blk.set_ne); focus (first | (simp; done) | (simp; omega))) | with_reducible apply Blk.drewN | with_reducible apply Blk.drew))) hb
        have S6 := S5.below hb'
        have HB6 := Below.thn HB5 hb' HBs5
        have HBs6 := HB6.size
        clear B5 Bc Bf Bl S5 HB5 hb hb'
        have Bc := B6.cell; have Bf := B6.frozen; have Bl := B6.lt
        have Bac := B6a.cell; have Bal := B6a.lt
        go_wp2_with fail
        obtain ⟨R1, R2, R3⟩ := snd_store B6 S6
        have R3 := R3 _ _ HB6 hb5w
        clear B6 Bc Bf Bl B6a Bac Bal S6 HB6
        go_roundg g
        case rel => exact ⟨k + 1, k, k, a5, m5, c5, rfl, by simp, by have := HK.out; omega, by omega, R2, R1, R3⟩
        case measure => omega

set_option maxHeartbeats 1000000 in
theorem beats_range (beat : Int) (n : Value) (w : World) (h : beat < 1 ∨ 1000 < beat) :
    Calls Try.prog 4 #[.int .u16 beat, n] w fun e w' => e = .returned (.bool true) ∧ Below w.heap.size w w' := by
  by_cases h1 : beat < 1
  · go_enter Try.func4, Try.ntmps4
    go_wp2_with fail
    refine (awake15 _).mono ?_
    rintro e w0 ⟨rfl, HB0⟩
    go_wp2
    go_ret
    exact ⟨rfl, HB0⟩
  · have h2 : 1000 < beat := by omega
    go_enter Try.func4, Try.ntmps4
    go_wp2_with fail
    refine (awake15 _).mono ?_
    rintro e w0 ⟨rfl, HB0⟩
    go_wp2
    go_ret
    exact ⟨rfl, HB0⟩

set_option maxRecDepth 100000 in
theorem senderBeats_lifted (os : Os) (started : os.Started) (H : Type) (enc : TypeId × Value → H) :
    ReturnsInHanded {} Try.checked os 4 .any (Rows.senderBeatsSpec.pre6 enc Try.prog Try.f4 [] false) (Rows.senderBeatsSpec.post enc Try.prog Try.f4 false true false false) := by
  refine law_lift 4 Try.f4 Rows.senderBeatsSpec [45, 5] os started H enc Try.func4 rfl rfl Try.underlying4 (by kernel_rfl) rfl
    (ChangeSpec.witness6 (enc := enc) (C := Try.checked) false ⟨#[], #[.int .u16 0, .int .u8 0], []⟩ 8 (by kernel_rfl) (by kernel_rfl) (by kernel_rfl) (by kernel_rfl))
    (fun ds hds => by match ds, hds with | [d0, d1], _ => exact ⟨rfl, rfl, rfl⟩)
    (fun t ht => by
      simp only [List.mem_cons, List.mem_nil_iff, or_false] at ht
      rcases ht with rfl | rfl <;> exact ⟨by kernel_rfl, of_decide_eq_true (by kernel_rfl)⟩) ?_
  intro W base args ds p hval hA hlt hsz
  obtain ⟨v0, vs0, d0, ds0, p0, q0, e0, rfl, rfl, h0, r0⟩ := trodAll_cons hA
  obtain ⟨v1, vs1, d1, ds1, p1, q1, e1, rfl, rfl, h1, r1⟩ := trodAll_cons r0
  obtain ⟨rfl, rfl, rfl⟩ := trodAll_nil r1
  subst e1
  obtain rfl : args = #[v0, v1] := Array.ext' e0
  have hszj : ∀ (j : Nat) (t : TypeId) (d : DataW H), [45, 5][j]? = some t → [d0, d1][j]? = some d → (d.weights Try.prog t).all (· ≤ reachBytes) = true := fun j t d ht hd => by
    rw [List.all_eq_true] at hsz ⊢
    exact fun y hy => hsz y (DataW.weights_mem_each ht hd y hy)
  obtain ⟨y, rfl, rfl, rfl, wf⟩ := open_int Try.underlying45 (hval 0 45 v0 rfl rfl) h0
  obtain ⟨n, rfl, rfl, rfl, wf2⟩ := open_int Try.underlying5 (hval 1 5 v1 rfl rfl) h1
  have g0 : 0 ≤ n ∧ n ≤ 255 := by
    simp only [Lit.wf, Bool.and_eq_true, decide_eq_true_eq] at wf2; exact ⟨wf2.1, wf2.2⟩
  by_cases hc : y < 1 ∨ 1000 < y
  · exact beats_range y _ W hc
  · obtain ⟨beat, rfl⟩ : ∃ k : Nat, y = k := ⟨y.toNat, by omega⟩
    obtain ⟨k, rfl⟩ : ∃ k : Nat, n = k := ⟨n.toNat, by omega⟩
    exact beats_walk beat k W (by omega) (by omega) (by omega)
theorem senderBeats_holds : Rows.SenderBeatsSaid :=
  OpenClaim.holds_of_wide 4 Try.f4 rfl rfl rfl rfl rfl rfl rfl ⟨rfl, rfl, rfl, rfl, rfl⟩ rfl rfl rfl rfl rfl (by kernel_rfl) Try.func4 (by kernel_rfl)
    (of_decide_eq_true (by kernel_rfl)) (by unfold Func.isWrapper; first | (rw [if_pos (by decide +kernel)]; kernel_rfl) | (rw [if_neg (by decide +kernel)]; exact ⟨rfl, rfl⟩))
    (fun os started H enc _ => senderBeats_lifted os started H enc)
#print axioms senderBeats_holds
end Go.Proofs.Ytpnbmfpdoipioaa
