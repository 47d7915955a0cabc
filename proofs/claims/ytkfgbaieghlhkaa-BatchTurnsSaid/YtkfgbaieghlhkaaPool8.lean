/- Held, Free. -/
import Derived.Test.YtkfgbaieghlhkaaPool7
import Derived.OwnWalk
import Derived.Deep.RegionHeld3
namespace Go.Proofs.Ytkfgbaieghlhkaa
open Go.RowKit

/-- Those that are held, of the first k. -/
def heldL (l : List Buf) (k : Nat) : List Nat := (List.range k).filter fun i => (l.getD i default).held
theorem heldL_le (l : List Buf) (k : Nat) : (heldL l k).length ≤ k := by
  have := List.length_filter_le (fun i => (l.getD i default).held) (List.range k)
  simpa [heldL] using this
theorem heldL_hit (l : List Buf) (k : Nat) (h : (l.getD k default).held = true) : heldL l (k + 1) = heldL l k ++ [k] := by
  unfold heldL
  rw [List.range_succ, List.filter_append]
  congr 1
  simp only [List.filter_cons, List.filter_nil, h, if_true]
theorem heldL_miss (l : List Buf) (k : Nat) (h : (l.getD k default).held = false) : heldL l (k + 1) = heldL l k := by
  unfold heldL
  rw [List.range_succ, List.filter_append]
  simp only [List.filter_cons, List.filter_nil, h, Bool.false_eq_true, if_false, List.append_nil]
def nums (l : List Nat) : List Value := l.map fun i : Nat => Value.int .i64 (i : Int)
theorem nums_snoc (l : List Nat) (k : Nat) : nums (l ++ [k]) = nums l ++ [Value.int .i64 (k : Int)] := by simp [nums]

theorem info3 : (Try.prog.info? 3).map (fun i => (i.zero, i.size, i.bytes)) = some (some (.int .i64 0), 1, 8) := by kernel_rfl

def HeldPost (l : List Nat) (w : World) (e : Ending) (w' : World) : Prop := ∃ v, e = .returned v ∧ w'.ownsRow w.heap.size 3 1 v l.length (nums l) ∧ Below w.heap.size w w'

set_option maxHeartbeats 1000000 in
set_option maxRecDepth 20000 in
theorem held_any (pb B n ever : Nat) (l : List Buf) (w : World) (h : PoolAt w pb B n l ever) :
    Calls Try.prog 17 #[.pointer (some ⟨pb, 0, none⟩)] w fun e w' => HeldPost (heldL l n) w e w' := by
  have hn := h.most
  obtain ⟨i0, hi, hz0, hz1, hz2⟩ := info_parts info3
  have hd := h.hd
  have hbc := hd.cell; have hbf := hd.frozen
  have hdl := Lib.hid hd.lt
  go_enter Try.func17, Try.ntmps17
  go_wp2_with fail
  clear hd hbc hbf
  go_loopg [3, 12] n (fun g t3 t12 wr => ∃ k : Nat, t12 = .int .i64 k ∧ k + g = n ∧ Below w.heap.size w wr ∧ wr.ownsRow w.heap.size 3 1 t3 (heldL l k).length (nums (heldL l k)))
  case atStart => exact ⟨0, rfl, by omega, Below.refl _ _, World.ownsRow_nil w w.heap.size 3 1⟩
  case round =>
    obtain ⟨k, rfl, hk, HB, hown⟩ := hrel
    have HBs := HB.size
    have P := h.below HB
    have hd := P.hd
    have hbc := hd.cell; have hbf := hd.frozen
    clear hd
    have HK := Lib.hid hk
    have hle := heldL_le l k
    cases gk with
    | zero =>
      have hk' : ¬ (k : Int) < n := by omega
      have hkn : k = n := by omega
      clear hk
      go_wp2
      go_ret
      refine ⟨_, rfl, ?_, HB⟩
      rw [← hkn]; exact hown
    | succ g =>
      have hk' : (k : Int) < n := by omega
      have hkn : k < n := by omega
      clear hk
      have hc := P.held k hkn
      cases hh : (l.getD k default).held with
      | false =>
        rw [hh] at hc
        have H2 := Lib.hid (heldL_miss l k hh)
        clear hh
        go_wp2_with fail
        go_roundg g
        case rel => exact ⟨k + 1, by simp, by have := HK.out; omega, HB, by rw [H2.out]; exact hown⟩
        case measure => omega
      | true =>
        rw [hh] at hc
        have H2 := Lib.hid (heldL_hit l k hh)
        clear hh
        have hO := Lib.hid hown
        clear hown
        go_wp2_with (at_builtin; refine wpList_append_own _ rfl _ _ 37 rfl w.heap.size 3 i0 (.int .i64 0) 1 8 Try.underlying37 hi hz0 hz1 hz2 rfl (by decide) _ _ _ rfl (hO.out.alloc _) ⟨wr.heap.size, 0, none⟩ 1 1 [.int .i64 k] rfl rfl ?c1 ?c2 ?c3 ?c4 ?c5 ?_)
        case c1 =>
          intro j u hj
          match j, hj with
          | 0, hj => simp at hj; subst hj; simp [Addr.add]
        case c2 => intro u hu; simp at hu; subst hu; rfl
        case c3 => unfold maxLen; omega
        case c4 => omega
        case c5 => simp; omega
        intro v' w2 hown' hgrow hnil
        have HB2 : Below w.heap.size w w2 := (HB.alloc HBs _).grown hgrow (by simp; omega) (fun k hk => (hO.out.lt k hk).1)
        have hO2 : w2.ownsRow w.heap.size 3 1 v' (heldL l (k + 1)).length (nums (heldL l (k + 1))) := by
          rw [H2.out, nums_snoc, List.length_append]; exact hown'
        clear hgrow hnil hown' hO
        go_wp2_with fail
        go_roundg g
        case rel => exact ⟨k + 1, by simp, by have := HK.out; omega, HB2, hO2⟩
        case measure => omega

/-- How many are free. -/
def freeN (l : List Buf) (n : Nat) : Nat := n - (heldL l n).length
theorem freeN_eq (l : List Buf) (n : Nat) : (n : Int) - (heldL l n).length = (freeN l n : Int) := by
  have := heldL_le l n
  unfold freeN; omega
theorem own_slice {w : World} {base : Nat} {e : TypeId} {size : Nat} {v : Value} {m : Nat} {xs : List Value} (h : w.ownsRow base e size v m xs) : ∃ a c, v = .slice a m c := by
  rcases h.2 with ⟨rfl, rfl⟩ | ⟨g, c, _, rfl, _⟩
  · exact ⟨_, _, rfl⟩
  · exact ⟨_, _, rfl⟩

theorem PoolAt.drew {w : World} {pb B n ever : Nat} {l : List Buf} (h : PoolAt w pb B n l ever) : PoolAt w.drew pb B n l ever := h.below (Below.refl _ _).drew
theorem keep1 {w W : World} {pb B n ever : Nat} {l : List Buf} (h : PoolAt W pb B n l ever) (hb : Below w.heap.size w W) :
    W.cell? ⟨pb, 0, none⟩ = some (.slice (some ⟨B, 0, none⟩) n n) ∧ PoolAt W pb B n l ever ∧ Below w.heap.size w W := ⟨(h.hd.cell 0).trans rfl, h, hb⟩
theorem keep2 {w W W2 : World} {pb B n ever : Nat} {l : List Buf} (h : PoolAt W pb B n l ever) (hb : Below w.heap.size w W) (hb2 : Below W.heap.size W W2) :
    W2.cell? ⟨pb, 0, none⟩ = some (.slice (some ⟨B, 0, none⟩) n n) ∧ PoolAt W2 pb B n l ever ∧ Below w.heap.size w W2 := keep1 (h.below hb2) (Below.thn hb hb2 hb.size)

set_option maxHeartbeats 1000000 in
set_option maxRecDepth 20000 in
theorem freeN_any (pb B n ever : Nat) (l : List Buf) (w : World) (h : PoolAt w pb B n l ever) :
    Calls Try.prog 13 #[.pointer (some ⟨pb, 0, none⟩)] w fun e w' => e = .returned (.int .i64 (freeN l n)) ∧ Below w.heap.size w w' := by
  have hn := h.most
  have hle := heldL_le l n
  have hfe := freeN_eq l n
  go_enter Try.func13, Try.ntmps13
  go_wp2_with fail
  go_region_held3 (fun W => W.cell? ⟨pb, 0, none⟩ = some (.slice (some ⟨B, 0, none⟩) n n) ∧ PoolAt W pb B n l ever ∧ Below w.heap.size w W) (first | exact keep1 h.drew (Below.refl _ _).drew | exact keep2 h.drew (Below.refl _ _).drew hb) (first | (go_at_call 17; refine (held_any pb B n ever l _ h.drew).mono ?_; rintro e w2 ⟨v, rfl, ho, hb⟩; obtain ⟨a, c, rfl⟩ := own_slice ho))
  have hw : IntKind.i64.wrap (freeN l n : Int) = (freeN l n : Int) := by
    have : freeN l n ≤ n := by unfold freeN; omega
    simp [IntKind.wrap, IntKind.bits, IntKind.signed]
    omega
  rw [hw]
  go_wp2
  go_ret
  exact ⟨rfl, (Below.refl _ _).drew.trans (hb.mono (by simp))⟩
end Go.Proofs.Ytkfgbaieghlhkaa
