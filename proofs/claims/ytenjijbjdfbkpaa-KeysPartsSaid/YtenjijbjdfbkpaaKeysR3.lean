/- The contract of the document's Same for layer 13. -/
import Derived.Test.YtenjijbjdfbkpaaKeysR1
import Derived.Test.YtenjijbjdfbkpaaKeys3
namespace Go.Proofs.Ytenjijbjdfbkpaa
open Go.RowKit

def SameP (s t : ByteArray) (n : Nat) : Prop := ∀ i, 1 ≤ i → i ≤ n → s.data.toList[s.size - i]? = t.data.toList[t.size - i]?

theorem ends_eq (n : Nat) : ∀ (l r : List UInt8), n ≤ l.length → n ≤ r.length → (∀ i, 1 ≤ i → i ≤ n → l[l.length - i]? = r[r.length - i]?) → l.drop (l.length - n) = r.drop (r.length - n) := by
  intro l r hl hr h
  apply List.ext_getElem?
  intro j
  rw [List.getElem?_drop, List.getElem?_drop]
  by_cases hj : j < n
  · have := h (n - j) (by omega) (by omega)
    rw [show l.length - n + j = l.length - (n - j) from by omega, show r.length - n + j = r.length - (n - j) from by omega]
    exact this
  · rw [List.getElem?_eq_none (by omega), List.getElem?_eq_none (by omega)]
theorem sameP_iff (s t : ByteArray) : sameB s t = true ↔ SameP s t (min s.size t.size) := by
  have e1 : s.data.toList.length = s.size := rfl
  have e2 : t.data.toList.length = t.size := rfl
  unfold sameB SameP
  split
  · rw [ba_beq, decide_eq_true_eq, ba_ext_iff, ba_extract, List.take_of_length_le (by simp)]
    constructor
    · intro h i h1 h2
      have hsz : s.data.toList.length = (t.data.toList.drop (t.size - s.size)).length := by rw [← h]
      rw [h, List.getElem?_drop]
      congr 1
      omega
    · intro h
      have := ends_eq s.size s.data.toList t.data.toList (by omega) (by omega) (fun i h1 h2 => by rw [e1, e2]; exact h i h1 (by omega))
      rw [e1, e2, Nat.sub_self, List.drop_zero] at this
      exact this
  · rw [ba_beq, decide_eq_true_eq, ba_ext_iff, ba_extract, List.take_of_length_le (by simp)]
    constructor
    · intro h i h1 h2
      rw [← h, List.getElem?_drop]
      congr 1
      omega
    · intro h
      have := ends_eq t.size s.data.toList t.data.toList (by omega) (by omega) (fun i h1 h2 => by rw [e1, e2]; exact h i h1 (by omega))
      rw [e1, e2, Nat.sub_self, List.drop_zero] at this
      exact this

theorem at_eq (s t : ByteArray) (i : Nat) (h1 : s.size - i < s.size) (h2 : t.size - i < t.size) :
    s.data.toList[s.size - i]? = t.data.toList[t.size - i]? ↔ ((s[s.size - i].toNat : Nat) : Int) = ((t[t.size - i].toNat : Nat) : Int) := by
  have e1 : s.data.toList[s.size - i]? = some s[s.size - i] := by rw [List.getElem?_eq_getElem (by exact h1)]; rfl
  have e2 : t.data.toList[t.size - i]? = some t[t.size - i] := by rw [List.getElem?_eq_getElem (by exact h2)]; rfl
  rw [e1, e2, Option.some.injEq, ← UInt8.toNat_inj]
  omega

set_option maxHeartbeats 800000 in
set_option maxRecDepth 100000 in
theorem rsame_any (a b : Nat) (s t : ByteArray) (w : World) (ha : a ≤ 1000000) (hs : s.size ≤ 1000) (hb : b ≤ 1000000) (ht : t.size ≤ 1000) :
    Calls Try.prog 19 #[KV a s, KV b t] w fun e w' => e = .returned (.bool (decide (a + s.size = b + t.size) && sameB s t)) ∧ Below w.heap.size w w' := by
  by_cases he : a + s.size = b + t.size
  · have HE2 : Hid (a + s.size = b + t.size) := he
    have he2 : (((a + s.size : Nat) : Int) == ((b + t.size : Nat) : Int)) = true := by simp; omega
    have he3 : (((a + s.size : Nat) : Int) != ((b + t.size : Nat) : Int)) = false := by simp; omega
    have he4 : ((a : Int) + s.size == b + t.size) = true := by simp; omega
    have he5 : ((a : Int) + s.size != b + t.size) = false := by simp; omega
    have hm := Lib.hid (sameP_iff s t)
    have hm1 : min s.size t.size ≤ s.size := Nat.min_le_left _ _
    have hm2 : min s.size t.size ≤ t.size := Nat.min_le_right _ _
    have hm3 : min s.size t.size = s.size ∨ min s.size t.size = t.size := by omega
    generalize min s.size t.size = M at hm hm1 hm2 hm3
    clear he
    go_enter Try.func19, Try.ntmps19
    go_wp2_with fail
    refine wp_abs2 (w.heap.size) 42 (w.heap.size+1) 42 (n := w.heap.size) (w := w) (by (repeat (first | (with_reducible assumption) | (with_reducible exact Below.refl _ _) | with_reducible apply bl_drewN | with_reducible apply Below.drew | (with_reducible apply bl_alloc; focus (first | (simp; done) | (simp; omega) | omega)) | (with_reducible apply bl_set; focus (first | (simp; done) | (simp; omega) | omega))))) (by (repeat (first | (with_reducible assumption) | (with_reducible apply Blk.new'; (first | (with_reducible rfl) | (simp; done))) | with_reducible apply Blk.alloc | with_reducible apply Blk.set | ((with_reducible apply Blk.set_ne); focus (first | (simp; done) | (simp; omega))) | with_reducible apply Blk.drewN | with_reducible apply Blk.drew))) (by (repeat (first | (with_reducible assumption) | (with_reducible apply Blk.new'; (first | (with_reducible rfl) | (simp; done))) | with_reducible apply Blk.alloc | with_reducible apply Blk.set | ((with_reducible apply Blk.set_ne); focus (first | (simp; done) | (simp; omega))) | with_reducible apply Blk.drewN | with_reducible apply Blk.drew))) (fun W0 HB B0 B1 => ?_)
    have HBs := HB.size
    have B0c := B0.cell; have B0f := B0.frozen; have B0l := B0.lt
    have B1c := B1.cell; have B1f := B1.frozen; have B1l := B1.lt
    refine wp_region_gr (by kernel_rfl) (by kernel_rfl) ?_
    repeat (first
      | go_big_quiet_skip
      | ((refine BigFrame.wpQuiet_want rfl (fun K hK => quiet_mk ?_)); apply Exists.intro; refine ⟨fun wq hq => ?_, hK _ ?_⟩
         · have f0 := hq.blk B0; have f1 := hq.blk B1; go_simp; (try simp only [↓IntWalk.iteOmega]); (try go_bits)
           first | done | rfl | exact ⟨rfl, rfl⟩ | (go_at_call 18; refine (rend_any _ _ _ (by assumption) (by assumption)).mono ?_; rintro e wr ⟨rfl, hbr⟩; exact ⟨rfl, hq.next hbr⟩)
         clear hK K; (try simp only [Act.put, List.setIfInBounds_toArray, List.set_cons_zero, List.set_cons_succ])))
    refine wpQuiet_nil ?_
    intro w1 hw1
    have HB : Below w.heap.size w w1 := Below.thn HB hw1.out HB.size
    have HBs := HB.size
    have B0 := B0.gr hw1; clear B0c B0f B0l; have B0c := B0.cell; have B0f := B0.frozen; have B0l := B0.lt
    have B1 := B1.gr hw1; clear B1c B1f B1l; have B1c := B1.cell; have B1f := B1.frozen; have B1l := B1.lt
    clear hw1
    go_wp2_with fail
    clear he2 he3 he4 he5
    go_loopg [5] M (fun g t5 wr => ∃ i : Nat, t5 = .int .i64 i ∧ i + g = M + 1 ∧ 1 ≤ i ∧ SameP s t (i - 1) ∧ Below w.heap.size w wr ∧ Blk wr w.heap.size #[.int .u64 a, .string s] 42 ∧ Blk wr (w.heap.size + 1) #[.int .u64 b, .string t] 42)
    case atStart => exact ⟨1, rfl, by omega, by omega, (fun i h1 h2 => absurd h2 (by omega)), HB, B0, B1⟩
    case round =>
      clear B0 B0c B0f B0l B1 B1c B1f B1l HBs HB
      obtain ⟨i, rfl, hj, hi1, hP, HB, B0, B1⟩ := hrel
      have HBs := HB.size
      have B0c := B0.cell; have B0f := B0.frozen; have B0l := B0.lt; have B1c := B1.cell; have B1f := B1.frozen; have B1l := B1.lt
      have HJ := Lib.hid hj
      have HP := Lib.hid hP
      clear hP
      cases gk with
      | zero =>
        have hi2 : M < i := by omega
        have HM3 := Lib.hid hm3
        clear hj hm3
        have hpost : (decide (a + s.size = b + t.size) && sameB s t) = true := by
          simp only [Bool.and_eq_true, decide_eq_true_eq]
          refine ⟨HE2.out, hm.out.2 ?_⟩
          have := HJ.out
          have h := HP.out
          rwa [show i - 1 = M from by omega] at h
        by_cases hx : s.size < i
        · have hx' : ¬ (i : Int) ≤ s.size := by omega
          go_wp2
          go_ret
          exact ⟨rfl, HB⟩
        · have hx' : (i : Int) ≤ s.size := by omega
          have hx'' : ¬ (i : Int) ≤ t.size := by have := HM3.out; omega
          go_wp2
          go_ret
          exact ⟨rfl, HB⟩
      | succ g =>
        have hx' : (i : Int) ≤ s.size := by omega
        have hx'' : (i : Int) ≤ t.size := by omega
        have hy1 : (0 : Int) ≤ s.size - i := by omega
        have hy2 : (s.size : Int) - i < s.size := by omega
        have hy3 : (0 : Int) ≤ t.size - i := by omega
        have hy4 : (t.size : Int) - i < t.size := by omega
        clear hj
        go_wp2_with fail
        go_quiet (fail)
        have hat := Lib.hid (at_eq s t i (by omega) (by omega))
        go_wp2
        · go_ret
          have hf : sameB s t = false := by
            rw [Bool.eq_false_iff]
            intro h
            have h2 := hat.out.1 ((hm.out.1 h) i hi1 (by have := HJ.out; omega))
            simp_all
          refine ⟨by rw [hf]; simp, ?_⟩
          repeat (first | (with_reducible assumption) | (with_reducible exact Below.refl _ _) | with_reducible apply bl_drewN | with_reducible apply Below.drew | (with_reducible apply bl_alloc; focus (first | (simp; done) | (simp; omega) | omega)) | (with_reducible apply bl_set; focus (first | (simp; done) | (simp; omega) | omega)))
        · go_roundg g
          case rel =>
            refine ⟨i + 1, by go_num, by have := HJ.out; omega, by omega, ?_, ?_, ?_, ?_⟩
            · intro k h1 h2
              by_cases hk : k = i
              · subst hk
                refine hat.out.2 ?_
                simp_all
              · exact HP.out k h1 (by omega)
            · repeat (first | (with_reducible assumption) | (with_reducible exact Below.refl _ _) | with_reducible apply bl_drewN | with_reducible apply Below.drew | (with_reducible apply bl_alloc; focus (first | (simp; done) | (simp; omega) | omega)) | (with_reducible apply bl_set; focus (first | (simp; done) | (simp; omega) | omega)))
            · (apply Blk.conv; focus (repeat (first | (with_reducible assumption) | (with_reducible apply Blk.new'; (first | (with_reducible rfl) | (simp; done))) | with_reducible apply Blk.alloc | with_reducible apply Blk.set | ((with_reducible apply Blk.set_ne); focus (first | (simp; done) | (simp; omega))) | with_reducible apply Blk.drewN | with_reducible apply Blk.drew)))
              (first | rfl | (simp; done) | (simp; omega))
            · (apply Blk.conv; focus (repeat (first | (with_reducible assumption) | (with_reducible apply Blk.new'; (first | (with_reducible rfl) | (simp; done))) | with_reducible apply Blk.alloc | with_reducible apply Blk.set | ((with_reducible apply Blk.set_ne); focus (first | (simp; done) | (simp; omega))) | with_reducible apply Blk.drewN | with_reducible apply Blk.drew)))
              (first | rfl | (simp; done) | (simp; omega))
          case measure => omega
  · have he2 : (((a + s.size : Nat) : Int) == ((b + t.size : Nat) : Int)) = false := by simp; omega
    have he3 : (((a + s.size : Nat) : Int) != ((b + t.size : Nat) : Int)) = true := by simp; omega
    have he4 : ((a : Int) + s.size == b + t.size) = false := by simp; omega
    have he5 : ((a : Int) + s.size != b + t.size) = true := by simp; omega
    go_enter Try.func19, Try.ntmps19
    go_wp2_with fail
    refine wp_abs2 (w.heap.size) 42 (w.heap.size+1) 42 (n := w.heap.size) (w := w) (by (repeat (first | (with_reducible assumption) | (with_reducible exact Below.refl _ _) | with_reducible apply bl_drewN | with_reducible apply Below.drew | (with_reducible apply bl_alloc; focus (first | (simp; done) | (simp; omega) | omega)) | (with_reducible apply bl_set; focus (first | (simp; done) | (simp; omega) | omega))))) (by (repeat (first | (with_reducible assumption) | (with_reducible apply Blk.new'; (first | (with_reducible rfl) | (simp; done))) | with_reducible apply Blk.alloc | with_reducible apply Blk.set | ((with_reducible apply Blk.set_ne); focus (first | (simp; done) | (simp; omega))) | with_reducible apply Blk.drewN | with_reducible apply Blk.drew))) (by (repeat (first | (with_reducible assumption) | (with_reducible apply Blk.new'; (first | (with_reducible rfl) | (simp; done))) | with_reducible apply Blk.alloc | with_reducible apply Blk.set | ((with_reducible apply Blk.set_ne); focus (first | (simp; done) | (simp; omega))) | with_reducible apply Blk.drewN | with_reducible apply Blk.drew))) (fun W0 HB B0 B1 => ?_)
    have HBs := HB.size
    have B0c := B0.cell; have B0f := B0.frozen; have B0l := B0.lt
    have B1c := B1.cell; have B1f := B1.frozen; have B1l := B1.lt
    refine wp_region_gr (by kernel_rfl) (by kernel_rfl) ?_
    repeat (first
      | go_big_quiet_skip
      | ((refine BigFrame.wpQuiet_want rfl (fun K hK => quiet_mk ?_)); apply Exists.intro; refine ⟨fun wq hq => ?_, hK _ ?_⟩
         · have f0 := hq.blk B0; have f1 := hq.blk B1; go_simp; (try simp only [↓IntWalk.iteOmega]); (try go_bits)
           first | done | rfl | exact ⟨rfl, rfl⟩ | (go_at_call 18; refine (rend_any _ _ _ (by assumption) (by assumption)).mono ?_; rintro e wr ⟨rfl, hbr⟩; exact ⟨rfl, hq.next hbr⟩)
         clear hK K; (try simp only [Act.put, List.setIfInBounds_toArray, List.set_cons_zero, List.set_cons_succ])))
    refine wpQuiet_nil ?_
    intro w1 hw1
    have HB : Below w.heap.size w w1 := Below.thn HB hw1.out HB.size
    have HBs := HB.size
    have B0 := B0.gr hw1; clear B0c B0f B0l; have B0c := B0.cell; have B0f := B0.frozen; have B0l := B0.lt
    have B1 := B1.gr hw1; clear B1c B1f B1l; have B1c := B1.cell; have B1f := B1.frozen; have B1l := B1.lt
    clear hw1
    go_wp2
    go_ret
    exact ⟨by simp [he], HB⟩
end Go.Proofs.Ytenjijbjdfbkpaa
