/- For every input: 'SenderPlays' of package vagabondlaw15 is true, and it neither panics nor changes an argument. Conditions: none. -/
import Derived.Test.YtpnbmfpdoipioaaSenderPlaysW
import Derived.Test.YtpnbmfpdoipioaaSActsOpen
import Derived.Test.YtpnbmfpdoipioaaLawKit
namespace Go.Proofs.Ytpnbmfpdoipioaa
open Go.ChangeShapes Go.WideShapes Go.ChangeAt Go.RowKit Go.Deep
open Go.ChangeMaps (open_string)

set_option maxHeartbeats 1000000 in
set_option maxRecDepth 20000 in
theorem plays_long (first : ByteArray) (ao : Option Addr) (len cap : Nat) (w : World) (hl : len ≤ 140737488355328) (hs : first.size ≤ 140737488355328) (h : 60 < len ∨ 100 < first.size) :
    Calls Try.prog 5 #[.string first, .slice ao len cap] w fun e w' => e = .returned (.bool true) ∧ Below w.heap.size w w' := by
  by_cases h1 : 60 < len
  · have g1 : (60 : Int) < len := by omega
    go_enter Try.func5, Try.ntmps5
    go_wp2_with fail
    refine (awake15 _).mono ?_
    rintro e w0 ⟨rfl, HB0⟩
    go_wp2
    go_ret
    exact ⟨rfl, HB0⟩
  · have g1 : ¬ (60 : Int) < len := by omega
    have g2 : (100 : Int) < first.size := by omega
    go_enter Try.func5, Try.ntmps5
    go_wp2_with fail
    refine (awake15 _).mono ?_
    rintro e w0 ⟨rfl, HB0⟩
    go_wp2
    go_ret
    exact ⟨rfl, HB0⟩

set_option maxRecDepth 100000 in
theorem senderPlays_lifted (os : Os) (started : os.Started) (H : Type) (enc : TypeId × Value → H) :
    ReturnsInHanded {} Try.checked os 5 .any (Rows.senderPlaysSpec.pre6 enc Try.prog Try.f5 [] false) (Rows.senderPlaysSpec.post enc Try.prog Try.f5 false true false false) := by
  refine law_lift 5 Try.f5 Rows.senderPlaysSpec [9, 22] os started H enc Try.func5 rfl rfl Try.underlying4 (by kernel_rfl) rfl
    (ChangeSpec.witness6 (enc := enc) (C := Try.checked) false ⟨#[], #[.string ⟨#[]⟩, .slice none 0 0], []⟩ 8 (by kernel_rfl) (by kernel_rfl) (by kernel_rfl) (by kernel_rfl))
    (fun ds hds => by match ds, hds with | [d0, d1], _ => exact ⟨rfl, rfl, rfl⟩)
    (fun t ht => by
      simp only [List.mem_cons, List.mem_nil_iff, or_false] at ht
      rcases ht with rfl | rfl <;> exact ⟨by kernel_rfl, of_decide_eq_true (by kernel_rfl)⟩) ?_
  intro W base args ds p hval hA hlt hsz
  obtain ⟨v0, vs0, d0, ds0, p0, q0, e0, rfl, rfl, h0, r0⟩ := trodAll_cons hA
  obtain ⟨v1, vs1, d1, ds1, p1, q1, e1, rfl, rfl, h1, r1⟩ := trodAll_cons r0
  obtain ⟨rfl, rfl, rfl⟩ := trodAll_nil r1
  subst e1
  obtain rfl : args = #[v0, v1] := Array.ext' e0
  have hszj : ∀ (j : Nat) (t : TypeId) (d : DataW H), [9, 22][j]? = some t → [d0, d1][j]? = some d → (d.weights Try.prog t).all (· ≤ reachBytes) = true := fun j t d ht hd => by
    rw [List.all_eq_true] at hsz ⊢
    exact fun y hy => hsz y (DataW.weights_mem_each ht hd y hy)
  obtain ⟨s, rfl, rfl, rfl, _⟩ := open_string Try.underlying9 (hval 0 9 v0 rfl rfl) h0
  obtain ⟨a0, len, cap, rfl⟩ := okWide_slice Try.underlying22 (hval 1 22 v1 rfl rfl)
  obtain ⟨hm, b, off, l, hao, hacts⟩ := open_sacts h1 (fun x hx => hlt x (by simp [hx])) (hszj 1 22 _ rfl rfl)
  have hs := str_reach (hszj 0 9 _ rfl rfl)
  by_cases hc : 60 < len ∨ 100 < s.size
  · exact plays_long s a0 len cap W hm hs hc
  · exact plays_walk s b off len cap a0 l W (by omega) (by omega) hao hacts
theorem senderPlays_holds : Rows.SenderPlaysSaid :=
  OpenClaim.holds_of_wide 5 Try.f5 rfl rfl rfl rfl rfl rfl rfl ⟨rfl, rfl, rfl, rfl, rfl⟩ rfl rfl rfl rfl rfl (by kernel_rfl) Try.func5 (by kernel_rfl)
    (of_decide_eq_true (by kernel_rfl)) (by unfold Func.isWrapper; first | (rw [if_pos (by decide +kernel)]; kernel_rfl) | (rw [if_neg (by decide +kernel)]; exact ⟨rfl, rfl⟩))
    (fun os started H enc _ => senderPlays_lifted os started H enc)
#print axioms senderPlays_holds
end Go.Proofs.Ytpnbmfpdoipioaa
