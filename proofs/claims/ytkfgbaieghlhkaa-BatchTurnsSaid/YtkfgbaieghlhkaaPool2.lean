/- slices.IndexFunc over a pool's buffers. -/
import Derived.Test.YtkfgbaieghlhkaaPool1
namespace Go.Proofs.Ytkfgbaieghlhkaa
open Go.RowKit


set_option maxHeartbeats 400000 in
set_option maxRecDepth 100000 in
theorem find_any (pb B n ever i : Nat) (l : List Buf) (w : World) (h : PoolAt w pb B n l ever) (hi : i ≤ n) (hall : ∀ j, j < i → (l.getD j default).held = true) (hat : i < n → (l.getD i default).held = false) :
    Calls Try.prog 32 #[.slice (some ⟨B, 0, none⟩) n n, .func (.func 33) #[] #[]] w fun e w' => e = .returned (.int .i64 (if i < n then (i : Int) else -1)) ∧ Below w.heap.size w w' := by
  have hn := h.most
  go_enter Try.func32, Try.ntmps32
  go_wp2_with fail
  go_loopg [8] n (fun g t8 wr => ∃ k : Nat, t8 = .int .i64 k ∧ k + g = n ∧ k ≤ i ∧ Below w.heap.size w wr)
  case atStart => exact ⟨0, rfl, by omega, by omega, Below.refl _ _⟩
  case round =>
    obtain ⟨k, rfl, hk, hki, HB⟩ := hrel
    have HBs := HB.size
    have P := h.below HB
    have HK := Lib.hid hk
    cases gk with
    | zero =>
      have hk' : ¬ (k : Int) < n := by omega
      have hin : ¬ i < n := by omega
      clear hk
      go_wp2
      go_ret
      exact ⟨rfl, HB⟩
    | succ g =>
      have hk' : (k : Int) < n := by omega
      have hkn : k < n := by omega
      clear hk
      have hrow := Lib.hid (P.cells k hkn)
      have Pl := P.lt
      go_wp2_with fail
      refine wp_load_mid _ _ rfl B (k * 514) rfl _ _ hrow.out Try.underlying81 rfl (by rw [bufRow_length]; kernel_rfl) ?_
      have hh : ((List.range 514).map (cellOf (l.getD k default))).toArray[513]? = some (.bool (l.getD k default).held) := bufRow_held _
      generalize ((List.range 514).map (cellOf (l.getD k default))).toArray = cs at hh ⊢
      by_cases hki2 : k < i
      · rw [hall k hki2] at hh
        go_wp2_with fail
        refine (free_any cs _ _ (by assumption)).mono ?_
        rintro e w2 ⟨rfl, hb⟩
        have HB2 : Below w.heap.size w w2 := Below.thn HB hb
        clear hb
        go_wp2_with fail
        go_roundg g
        case rel => exact ⟨k + 1, by simp, by have := HK.out; omega, by omega, HB2⟩
        case measure => omega
      · have hik : k = i := by omega
        rw [hik, hat (by omega)] at hh
        have hin : i < n := by omega
        go_wp2_with fail
        refine (free_any cs _ _ (by assumption)).mono ?_
        rintro e w2 ⟨rfl, hb⟩
        have HB2 : Below w.heap.size w w2 := Below.thn HB hb
        clear hb
        go_wp2
        go_ret
        simp only [hik]
        exact ⟨rfl, HB2⟩
end Go.Proofs.Ytkfgbaieghlhkaa
