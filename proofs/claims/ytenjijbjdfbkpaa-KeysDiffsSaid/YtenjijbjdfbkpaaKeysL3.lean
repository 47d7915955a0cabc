/- Of: keys behind turns, and those of the document, are the same. -/
import Derived.Test.YtenjijbjdfbkpaaKeysL2
import Derived.Test.YtenjijbjdfbkpaaKeys2
namespace Go.Proofs.Ytenjijbjdfbkpaa
open Go.RowKit

def doA (a : Nat) (s d : ByteArray) : Nat := a + rest (s.size + d.size)
def doS (s d : ByteArray) : ByteArray := (s ++ d).extract (rest (s.size + d.size)) (s.size + d.size)
theorem doS_size (s d : ByteArray) : (doS s d).size ≤ 256 := by
  unfold doS rest
  rw [sz_ext, sz_app]; omega
theorem doA_le (a : Nat) (s d : ByteArray) (hs : s.size ≤ 256) : a ≤ doA a s d ∧ doA a s d ≤ a + d.size := by unfold doA rest; omega
theorem do_both (a : Nat) (s d : ByteArray) (w : World) (ha : a ≤ 900000) (hs : s.size ≤ 1000) (hd : d.size ≤ 1000) :
    Calls Try.prog 10 #[KV a s, .string d] w fun e w' => e = .returned (.tuple #[KV (doA a s d) (doS s d), .int .i64 0]) ∧ Below w.heap.size w w' := by
  by_cases hx : s.size + d.size ≤ 256
  · have h0 : rest (s.size + d.size) = 0 := by unfold rest; omega
    have h := do_fits a s d w ha hs hx
    have e1 : doA a s d = a := by unfold doA; rw [h0, Nat.add_zero]
    have e2 : doS s d = s ++ d := by unfold doS; rw [h0]; exact ext_all s d _ rfl
    rwa [e1, e2]
  · obtain ⟨c, hc⟩ : ∃ c, s.size + d.size = 256 + c := ⟨s.size + d.size - 256, by omega⟩
    have h := do_cut a c s d w ha hs hd hc (by omega)
    have h0 : rest (s.size + d.size) = c := by unfold rest; omega
    have e1 : doA a s d = a + c := by unfold doA; rw [h0]
    have e2 : doS s d = (s ++ d).extract c (s.size + d.size) := by unfold doS; rw [h0]
    rw [e1, e2]
    exact h
theorem rdo_both (a : Nat) (s d : ByteArray) (w : World) (ha : a ≤ 900000) (hs : s.size ≤ 1000) (hd : d.size ≤ 1000) :
    Calls Try.prog 20 #[KV a s, .string d] w fun e w' => e = .returned (.tuple #[KV (doA a s d) (doS s d), .int .i64 0]) ∧ Below w.heap.size w w' := rdo_any a s d w ha hs hd

def kText (n : Nat) : ByteArray := ⟨(Lib.repeatL [107] n).toArray⟩
theorem kText_size (n : Nat) : (kText n).size = n := by
  show (Lib.repeatL [107] n).toArray.size = n
  rw [List.size_toArray, Lib.repeatL_length]; simp
theorem repeat_k (n : Nat) (w : World) (hn : n ≤ 1000) :
    Calls Try.prog 25 #[.string ⟨#[107]⟩, .int .i64 n] w fun e w' => e = .returned (.string (kText n)) ∧ Below w.heap.size w w' :=
  Try.strings_Repeat ⟨#[107]⟩ n w (by omega) (by rw [show (⟨#[107]⟩ : ByteArray).size = 1 from rfl]; omega)

theorem forget_at (a n A : Nat) (s S : ByteArray) (w : World) (ha : a ≤ 1000000) (hs : s.size ≤ 1000) (h : fgFrom a n s = A ∧ s.extract (A - a) s.size = S) :
    Calls Try.prog 13 #[KV a s, .int .u64 n] w fun e w' => e = .returned (KV A S) ∧ Below w.heap.size w w' := by
  have := forget_any a n s w ha hs
  rwa [h.1, h.2] at this
theorem rforget_at (a n A : Nat) (s S : ByteArray) (w : World) (ha : a ≤ 1000000) (hs : s.size ≤ 1000) (h : fgFrom a n s = A ∧ s.extract (A - a) s.size = S) :
    Calls Try.prog 24 #[KV a s, .int .u64 n] w fun e w' => e = .returned (KV A S) ∧ Below w.heap.size w w' := by
  have := rforget_any a n s w ha hs
  rwa [h.1, h.2] at this

def OfPost (w : World) (e : Ending) (w' : World) : Prop := ∃ a s, e = .returned (.tuple #[KV a s, KV a s, .bool true]) ∧ a ≤ 24000 ∧ s.size ≤ 256 ∧ Below w.heap.size w w'

set_option maxHeartbeats 2000000 in
set_option maxRecDepth 100000 in
theorem of_any (ao : Option Addr) (b off len cap : Nat) (l : List KAct) (w : World) (hao : 0 < len → ao = some ⟨b, off, none⟩) (h : ActsAt w b off len l) (hl : len ≤ 40) (ht : ∀ j, j < len → (l.getD j default).t.size ≤ 600) :
    Calls Try.prog 15 #[.slice ao len cap] w fun e w' => OfPost w e w' := by
  go_enter Try.func15, Try.ntmps15
  go_wp2_with fail
  refine wp_abs4 (w.heap.size) 27 (w.heap.size+1) 42 (w.heap.size+2) 27 (w.heap.size+3) 42 (n := w.heap.size) (w := w) (by (repeat (first | (with_reducible assumption) | (with_reducible exact Below.refl _ _) | with_reducible apply bl_drewN | with_reducible apply Below.drew | (with_reducible apply bl_alloc; focus (first | (simp; done) | (simp; omega) | omega)) | (with_reducible apply bl_set; focus (first | (simp; done) | (simp; omega) | omega))))) (by (repeat (first | (with_reducible assumption) | (with_reducible apply Blk.new'; (first | (with_reducible rfl) | (simp; done))) | with_reducible apply Blk.alloc | with_reducible apply Blk.set | ((with_reducible apply Blk.set_ne); focus (first | (simp; done) | (simp; omega))) | with_reducible apply Blk.drewN | with_reducible apply Blk.drew))) (by (repeat (first | (with_reducible assumption) | (with_reducible apply Blk.new'; (first | (with_reducible rfl) | (simp; done))) | with_reducible apply Blk.alloc | with_reducible apply Blk.set | ((with_reducible apply Blk.set_ne); focus (first | (simp; done) | (simp; omega))) | with_reducible apply Blk.drewN | with_reducible apply Blk.drew))) (by (repeat (first | (with_reducible assumption) | (with_reducible apply Blk.new'; (first | (with_reducible rfl) | (simp; done))) | with_reducible apply Blk.alloc | with_reducible apply Blk.set | ((with_reducible apply Blk.set_ne); focus (first | (simp; done) | (simp; omega))) | with_reducible apply Blk.drewN | with_reducible apply Blk.drew))) (by (repeat (first | (with_reducible assumption) | (with_reducible apply Blk.new'; (first | (with_reducible rfl) | (simp; done))) | with_reducible apply Blk.alloc | with_reducible apply Blk.set | ((with_reducible apply Blk.set_ne); focus (first | (simp; done) | (simp; omega))) | with_reducible apply Blk.drewN | with_reducible apply Blk.drew))) (fun W1 HB B2 B3 B5 B6 => ?_)
  have HBs := HB.size
  have B2c := B2.cell; have B2f := B2.frozen; have B2l := B2.lt
  have B3c := B3.cell; have B3f := B3.frozen; have B3l := B3.lt
  have B5c := B5.cell; have B5f := B5.frozen; have B5l := B5.lt
  have B6c := B6.cell; have B6f := B6.frozen; have B6l := B6.lt
  go_loopg [14] len (fun g t14 wr => ∃ (k a : Nat) (s : ByteArray), t14 = .int .i64 k ∧ k + g = len ∧ a ≤ 600 * k ∧ s.size ≤ 256 ∧ Below w.heap.size w wr ∧ Blk wr w.heap.size #[.int .u64 0, .string ⟨#[]⟩] 27 ∧ Blk wr (w.heap.size + 1) #[.int .u64 0, .string ⟨#[]⟩] 42 ∧
      Blk wr (w.heap.size + 2) #[.int .u64 a, .string s] 27 ∧ Blk wr (w.heap.size + 3) #[.int .u64 a, .string s] 42)
  case atStart => exact ⟨0, 0, ⟨#[]⟩, rfl, by omega, by omega, by decide, HB, B2, B3, B5, B6⟩
  case round =>
    clear B2 B2c B2f B2l B3 B3c B3f B3l B5 B5c B5f B5l B6 B6c B6f B6l HBs HB
    obtain ⟨k, a, s, rfl, hk, hka, hs, HB, B2, B3, B5, B6⟩ := hrel
    have HBs := HB.size
    have B2c := B2.cell; have B2f := B2.frozen; have B2l := B2.lt
    have B3c := B3.cell; have B3f := B3.frozen; have B3l := B3.lt
    have B5c := B5.cell; have B5f := B5.frozen; have B5l := B5.lt
    have B6c := B6.cell; have B6f := B6.frozen; have B6l := B6.lt
    have HK := Lib.hid hk
    have HA := Lib.hid (h.below HB)
    have hk40 : k ≤ 40 := by omega
    have ha : a ≤ 900000 := by omega
    have ha1 : a ≤ 1000000 := by omega
    have hs1 : s.size ≤ 1000 := by omega
    cases gk with
    | zero =>
      have hk' : ¬ (k : Int) < len := by omega
      clear hk
      go_wp2_with fail
      go_region
      go_wp2
      refine bodyPost_ret (v := .tuple #[KV a s, KV a s, .bool true]) ?_ rfl ⟨a, s, rfl, by have := HK.out; omega, hs, ?_⟩
      · simp [results, Try.results15, go_sem, B2c, B3c, B5c, B6c, B2l, B3l, B5l, B6l]
      · repeat (first | (with_reducible assumption) | (with_reducible exact Below.refl _ _) | with_reducible apply bl_drewN | with_reducible apply Below.drew | (with_reducible apply bl_alloc; focus (first | (simp; done) | (simp; omega) | omega)) | (with_reducible apply bl_set; focus (first | (simp; done) | (simp; omega) | omega)))
    | succ g =>
      have hk' : (k : Int) < len := by omega
      have hk2 : k < len := by omega
      obtain rfl := hao (by omega)
      have c0 := HA.out.d k hk2
      have c1 := HA.out.n k hk2
      have c2 := HA.out.t k hk2
      have t6 := ht k hk2
      clear hk
      generalize l.getD k default = x at *
      have hx4 : x.d % 4 = 0 ∨ x.d % 4 = 1 ∨ x.d % 4 = 2 ∨ x.d % 4 = 3 := by omega
      rcases hx4 with hx | hx | hx | hx
      · have hm : (x.d : Int) % 4 = 0 := by omega
        clear hx
        by_cases hfit : s.size + x.t.size ≤ 256
        · go_wp2_with fail
          refine (type_ok _ _ _ _ ha1 hs1 hfit).mono ?_
          rintro e w2 ⟨rfl, hb⟩
          have HB : Below w.heap.size w w2 := Below.thn (by (repeat (first | (with_reducible assumption) | (with_reducible exact Below.refl _ _) | with_reducible apply bl_drewN | with_reducible apply Below.drew | (with_reducible apply bl_alloc; focus (first | (simp; done) | (simp; omega) | omega)) | (with_reducible apply bl_set; focus (first | (simp; done) | (simp; omega) | omega))))) hb
          have HBs := HB.size
          have B2 := Blk.below (b := w.heap.size) (t := 27) (by (repeat (first | (with_reducible assumption) | (with_reducible apply Blk.new'; (first | (with_reducible rfl) | (simp; done))) | with_reducible apply Blk.alloc | with_reducible apply Blk.set | ((with_reducible apply Blk.set_ne); focus (first | (simp; done) | (simp; omega))) | with_reducible apply Blk.drewN | with_reducible apply Blk.drew))) hb
          have B2c := B2.cell; have B2f := B2.frozen; have B2l := B2.lt
          have B3 := Blk.below (b := w.heap.size+1) (t := 42) (by (repeat (first | (with_reducible assumption) | (with_reducible apply Blk.new'; (first | (with_reducible rfl) | (simp; done))) | with_reducible apply Blk.alloc | with_reducible apply Blk.set | ((with_reducible apply Blk.set_ne); focus (first | (simp; done) | (simp; omega))) | with_reducible apply Blk.drewN | with_reducible apply Blk.drew))) hb
          have B3c := B3.cell; have B3f := B3.frozen; have B3l := B3.lt
          have B5 := Blk.below (b := w.heap.size+2) (t := 27) (by (repeat (first | (with_reducible assumption) | (with_reducible apply Blk.new'; (first | (with_reducible rfl) | (simp; done))) | with_reducible apply Blk.alloc | with_reducible apply Blk.set | ((with_reducible apply Blk.set_ne); focus (first | (simp; done) | (simp; omega))) | with_reducible apply Blk.drewN | with_reducible apply Blk.drew))) hb
          have B5c := B5.cell; have B5f := B5.frozen; have B5l := B5.lt
          have B6 := Blk.below (b := w.heap.size+3) (t := 42) (by (repeat (first | (with_reducible assumption) | (with_reducible apply Blk.new'; (first | (with_reducible rfl) | (simp; done))) | with_reducible apply Blk.alloc | with_reducible apply Blk.set | ((with_reducible apply Blk.set_ne); focus (first | (simp; done) | (simp; omega))) | with_reducible apply Blk.drewN | with_reducible apply Blk.drew))) hb
          have B6c := B6.cell; have B6f := B6.frozen; have B6l := B6.lt
          have B8 := Blk.below (b := wr.heap.size) (t := 58) (by (repeat (first | (with_reducible assumption) | (with_reducible apply Blk.new'; (first | (with_reducible rfl) | (simp; done))) | with_reducible apply Blk.alloc | with_reducible apply Blk.set | ((with_reducible apply Blk.set_ne); focus (first | (simp; done) | (simp; omega))) | with_reducible apply Blk.drewN | with_reducible apply Blk.drew))) hb
          have B8c := B8.cell; have B8f := B8.frozen; have B8l := B8.lt
          clear hb
          go_wp2_with fail
          refine (rtype_ok _ _ _ _ ha1 hs1 hfit).mono ?_
          rintro e w3 ⟨rfl, hb⟩
          have HB : Below w.heap.size w w3 := Below.thn (by (repeat (first | (with_reducible assumption) | (with_reducible exact Below.refl _ _) | with_reducible apply bl_drewN | with_reducible apply Below.drew | (with_reducible apply bl_alloc; focus (first | (simp; done) | (simp; omega) | omega)) | (with_reducible apply bl_set; focus (first | (simp; done) | (simp; omega) | omega))))) hb
          have HBs := HB.size
          have B2 := Blk.below (b := w.heap.size) (t := 27) (by (repeat (first | (with_reducible assumption) | (with_reducible apply Blk.new'; (first | (with_reducible rfl) | (simp; done))) | with_reducible apply Blk.alloc | with_reducible apply Blk.set | ((with_reducible apply Blk.set_ne); focus (first | (simp; done) | (simp; omega))) | with_reducible apply Blk.drewN | with_reducible apply Blk.drew))) hb
          have B2c := B2.cell; have B2f := B2.frozen; have B2l := B2.lt
          have B3 := Blk.below (b := w.heap.size+1) (t := 42) (by (repeat (first | (with_reducible assumption) | (with_reducible apply Blk.new'; (first | (with_reducible rfl) | (simp; done))) | with_reducible apply Blk.alloc | with_reducible apply Blk.set | ((with_reducible apply Blk.set_ne); focus (first | (simp; done) | (simp; omega))) | with_reducible apply Blk.drewN | with_reducible apply Blk.drew))) hb
          have B3c := B3.cell; have B3f := B3.frozen; have B3l := B3.lt
          have B5 := Blk.below (b := w.heap.size+2) (t := 27) (by (repeat (first | (with_reducible assumption) | (with_reducible apply Blk.new'; (first | (with_reducible rfl) | (simp; done))) | with_reducible apply Blk.alloc | with_reducible apply Blk.set | ((with_reducible apply Blk.set_ne); focus (first | (simp; done) | (simp; omega))) | with_reducible apply Blk.drewN | with_reducible apply Blk.drew))) hb
          have B5c := B5.cell; have B5f := B5.frozen; have B5l := B5.lt
          have B6 := Blk.below (b := w.heap.size+3) (t := 42) (by (repeat (first | (with_reducible assumption) | (with_reducible apply Blk.new'; (first | (with_reducible rfl) | (simp; done))) | with_reducible apply Blk.alloc | with_reducible apply Blk.set | ((with_reducible apply Blk.set_ne); focus (first | (simp; done) | (simp; omega))) | with_reducible apply Blk.drewN | with_reducible apply Blk.drew))) hb
          have B6c := B6.cell; have B6f := B6.frozen; have B6l := B6.lt
          clear hb
          go_wp2_with fail
          refine (is_yes _ _ _ ha1 (by rw [sz_app]; omega)).mono ?_
          rintro e w4 ⟨rfl, hb⟩
          have HB : Below w.heap.size w w4 := Below.thn (by (repeat (first | (with_reducible assumption) | (with_reducible exact Below.refl _ _) | with_reducible apply bl_drewN | with_reducible apply Below.drew | (with_reducible apply bl_alloc; focus (first | (simp; done) | (simp; omega) | omega)) | (with_reducible apply bl_set; focus (first | (simp; done) | (simp; omega) | omega))))) hb
          have HBs := HB.size
          have B2 := Blk.below (b := w.heap.size) (t := 27) (by (repeat (first | (with_reducible assumption) | (with_reducible apply Blk.new'; (first | (with_reducible rfl) | (simp; done))) | with_reducible apply Blk.alloc | with_reducible apply Blk.set | ((with_reducible apply Blk.set_ne); focus (first | (simp; done) | (simp; omega))) | with_reducible apply Blk.drewN | with_reducible apply Blk.drew))) hb
          have B2c := B2.cell; have B2f := B2.frozen; have B2l := B2.lt
          have B3 := Blk.below (b := w.heap.size+1) (t := 42) (by (repeat (first | (with_reducible assumption) | (with_reducible apply Blk.new'; (first | (with_reducible rfl) | (simp; done))) | with_reducible apply Blk.alloc | with_reducible apply Blk.set | ((with_reducible apply Blk.set_ne); focus (first | (simp; done) | (simp; omega))) | with_reducible apply Blk.drewN | with_reducible apply Blk.drew))) hb
          have B3c := B3.cell; have B3f := B3.frozen; have B3l := B3.lt
          have B5 := Blk.below (b := w.heap.size+2) (t := 27) (by (repeat (first | (with_reducible assumption) | (with_reducible apply Blk.new'; (first | (with_reducible rfl) | (simp; done))) | with_reducible apply Blk.alloc | with_reducible apply Blk.set | ((with_reducible apply Blk.set_ne); focus (first | (simp; done) | (simp; omega))) | with_reducible apply Blk.drewN | with_reducible apply Blk.drew))) hb
          have B5c := B5.cell; have B5f := B5.frozen; have B5l := B5.lt
          have B6 := Blk.below (b := w.heap.size+3) (t := 42) (by (repeat (first | (with_reducible assumption) | (with_reducible apply Blk.new'; (first | (with_reducible rfl) | (simp; done))) | with_reducible apply Blk.alloc | with_reducible apply Blk.set | ((with_reducible apply Blk.set_ne); focus (first | (simp; done) | (simp; omega))) | with_reducible apply Blk.drewN | with_reducible apply Blk.drew))) hb
          have B6c := B6.cell; have B6f := B6.frozen; have B6l := B6.lt
          clear hb
          go_wp2
          go_roundg g
          case rel =>
            refine ⟨k + 1, a, s ++ x.t, by go_num, by have := HK.out; omega, by omega, by rw [sz_app]; omega, HB, B2, B3, ?_, ?_⟩
            · (apply Blk.conv; focus (repeat (first | (with_reducible assumption) | (with_reducible apply Blk.new'; (first | (with_reducible rfl) | (simp; done))) | with_reducible apply Blk.alloc | with_reducible apply Blk.set | ((with_reducible apply Blk.set_ne); focus (first | (simp; done) | (simp; omega))) | with_reducible apply Blk.drewN | with_reducible apply Blk.drew)))
              (first | rfl | (simp; done) | (simp; omega))
            · (apply Blk.conv; focus (repeat (first | (with_reducible assumption) | (with_reducible apply Blk.new'; (first | (with_reducible rfl) | (simp; done))) | with_reducible apply Blk.alloc | with_reducible apply Blk.set | ((with_reducible apply Blk.set_ne); focus (first | (simp; done) | (simp; omega))) | with_reducible apply Blk.drewN | with_reducible apply Blk.drew)))
              (first | rfl | (simp; done) | (simp; omega))
          case measure => omega
        · go_wp2_with fail
          refine (type_full _ _ _ _ ha1 hs1 (by omega) (by omega)).mono ?_
          rintro e w2 ⟨rfl, hb⟩
          have HB : Below w.heap.size w w2 := Below.thn (by (repeat (first | (with_reducible assumption) | (with_reducible exact Below.refl _ _) | with_reducible apply bl_drewN | with_reducible apply Below.drew | (with_reducible apply bl_alloc; focus (first | (simp; done) | (simp; omega) | omega)) | (with_reducible apply bl_set; focus (first | (simp; done) | (simp; omega) | omega))))) hb
          have HBs := HB.size
          have B2 := Blk.below (b := w.heap.size) (t := 27) (by (repeat (first | (with_reducible assumption) | (with_reducible apply Blk.new'; (first | (with_reducible rfl) | (simp; done))) | with_reducible apply Blk.alloc | with_reducible apply Blk.set | ((with_reducible apply Blk.set_ne); focus (first | (simp; done) | (simp; omega))) | with_reducible apply Blk.drewN | with_reducible apply Blk.drew))) hb
          have B2c := B2.cell; have B2f := B2.frozen; have B2l := B2.lt
          have B3 := Blk.below (b := w.heap.size+1) (t := 42) (by (repeat (first | (with_reducible assumption) | (with_reducible apply Blk.new'; (first | (with_reducible rfl) | (simp; done))) | with_reducible apply Blk.alloc | with_reducible apply Blk.set | ((with_reducible apply Blk.set_ne); focus (first | (simp; done) | (simp; omega))) | with_reducible apply Blk.drewN | with_reducible apply Blk.drew))) hb
          have B3c := B3.cell; have B3f := B3.frozen; have B3l := B3.lt
          have B5 := Blk.below (b := w.heap.size+2) (t := 27) (by (repeat (first | (with_reducible assumption) | (with_reducible apply Blk.new'; (first | (with_reducible rfl) | (simp; done))) | with_reducible apply Blk.alloc | with_reducible apply Blk.set | ((with_reducible apply Blk.set_ne); focus (first | (simp; done) | (simp; omega))) | with_reducible apply Blk.drewN | with_reducible apply Blk.drew))) hb
          have B5c := B5.cell; have B5f := B5.frozen; have B5l := B5.lt
          have B6 := Blk.below (b := w.heap.size+3) (t := 42) (by (repeat (first | (with_reducible assumption) | (with_reducible apply Blk.new'; (first | (with_reducible rfl) | (simp; done))) | with_reducible apply Blk.alloc | with_reducible apply Blk.set | ((with_reducible apply Blk.set_ne); focus (first | (simp; done) | (simp; omega))) | with_reducible apply Blk.drewN | with_reducible apply Blk.drew))) hb
          have B6c := B6.cell; have B6f := B6.frozen; have B6l := B6.lt
          have B8 := Blk.below (b := wr.heap.size) (t := 58) (by (repeat (first | (with_reducible assumption) | (with_reducible apply Blk.new'; (first | (with_reducible rfl) | (simp; done))) | with_reducible apply Blk.alloc | with_reducible apply Blk.set | ((with_reducible apply Blk.set_ne); focus (first | (simp; done) | (simp; omega))) | with_reducible apply Blk.drewN | with_reducible apply Blk.drew))) hb
          have B8c := B8.cell; have B8f := B8.frozen; have B8l := B8.lt
          clear hb
          go_wp2_with fail
          refine (rtype_full _ _ _ _ ha1 hs1 (by omega) (by omega)).mono ?_
          rintro e w3 ⟨rfl, hb⟩
          have HB : Below w.heap.size w w3 := Below.thn (by (repeat (first | (with_reducible assumption) | (with_reducible exact Below.refl _ _) | with_reducible apply bl_drewN | with_reducible apply Below.drew | (with_reducible apply bl_alloc; focus (first | (simp; done) | (simp; omega) | omega)) | (with_reducible apply bl_set; focus (first | (simp; done) | (simp; omega) | omega))))) hb
          have HBs := HB.size
          have B2 := Blk.below (b := w.heap.size) (t := 27) (by (repeat (first | (with_reducible assumption) | (with_reducible apply Blk.new'; (first | (with_reducible rfl) | (simp; done))) | with_reducible apply Blk.alloc | with_reducible apply Blk.set | ((with_reducible apply Blk.set_ne); focus (first | (simp; done) | (simp; omega))) | with_reducible apply Blk.drewN | with_reducible apply Blk.drew))) hb
          have B2c := B2.cell; have B2f := B2.frozen; have B2l := B2.lt
          have B3 := Blk.below (b := w.heap.size+1) (t := 42) (by (repeat (first | (with_reducible assumption) | (with_reducible apply Blk.new'; (first | (with_reducible rfl) | (simp; done))) | with_reducible apply Blk.alloc | with_reducible apply Blk.set | ((with_reducible apply Blk.set_ne); focus (first | (simp; done) | (simp; omega))) | with_reducible apply Blk.drewN | with_reducible apply Blk.drew))) hb
          have B3c := B3.cell; have B3f := B3.frozen; have B3l := B3.lt
          have B5 := Blk.below (b := w.heap.size+2) (t := 27) (by (repeat (first | (with_reducible assumption) | (with_reducible apply Blk.new'; (first | (with_reducible rfl) | (simp; done))) | with_reducible apply Blk.alloc | with_reducible apply Blk.set | ((with_reducible apply Blk.set_ne); focus (first | (simp; done) | (simp; omega))) | with_reducible apply Blk.drewN | with_reducible apply Blk.drew))) hb
          have B5c := B5.cell; have B5f := B5.frozen; have B5l := B5.lt
          have B6 := Blk.below (b := w.heap.size+3) (t := 42) (by (repeat (first | (with_reducible assumption) | (with_reducible apply Blk.new'; (first | (with_reducible rfl) | (simp; done))) | with_reducible apply Blk.alloc | with_reducible apply Blk.set | ((with_reducible apply Blk.set_ne); focus (first | (simp; done) | (simp; omega))) | with_reducible apply Blk.drewN | with_reducible apply Blk.drew))) hb
          have B6c := B6.cell; have B6f := B6.frozen; have B6l := B6.lt
          clear hb
          go_wp2_with fail
          refine (is_yes _ _ _ ha1 hs1).mono ?_
          rintro e w4 ⟨rfl, hb⟩
          have HB : Below w.heap.size w w4 := Below.thn (by (repeat (first | (with_reducible assumption) | (with_reducible exact Below.refl _ _) | with_reducible apply bl_drewN | with_reducible apply Below.drew | (with_reducible apply bl_alloc; focus (first | (simp; done) | (simp; omega) | omega)) | (with_reducible apply bl_set; focus (first | (simp; done) | (simp; omega) | omega))))) hb
          have HBs := HB.size
          have B2 := Blk.below (b := w.heap.size) (t := 27) (by (repeat (first | (with_reducible assumption) | (with_reducible apply Blk.new'; (first | (with_reducible rfl) | (simp; done))) | with_reducible apply Blk.alloc | with_reducible apply Blk.set | ((with_reducible apply Blk.set_ne); focus (first | (simp; done) | (simp; omega))) | with_reducible apply Blk.drewN | with_reducible apply Blk.drew))) hb
          have B2c := B2.cell; have B2f := B2.frozen; have B2l := B2.lt
          have B3 := Blk.below (b := w.heap.size+1) (t := 42) (by (repeat (first | (with_reducible assumption) | (with_reducible apply Blk.new'; (first | (with_reducible rfl) | (simp; done))) | with_reducible apply Blk.alloc | with_reducible apply Blk.set | ((with_reducible apply Blk.set_ne); focus (first | (simp; done) | (simp; omega))) | with_reducible apply Blk.drewN | with_reducible apply Blk.drew))) hb
          have B3c := B3.cell; have B3f := B3.frozen; have B3l := B3.lt
          have B5 := Blk.below (b := w.heap.size+2) (t := 27) (by (repeat (first | (with_reducible assumption) | (with_reducible apply Blk.new'; (first | (with_reducible rfl) | (simp; done))) | with_reducible apply Blk.alloc | with_reducible apply Blk.set | ((with_reducible apply Blk.set_ne); focus (first | (simp; done) | (simp; omega))) | with_reducible apply Blk.drewN | with_reducible apply Blk.drew))) hb
          have B5c := B5.cell; have B5f := B5.frozen; have B5l := B5.lt
          have B6 := Blk.below (b := w.heap.size+3) (t := 42) (by (repeat (first | (with_reducible assumption) | (with_reducible apply Blk.new'; (first | (with_reducible rfl) | (simp; done))) | with_reducible apply Blk.alloc | with_reducible apply Blk.set | ((with_reducible apply Blk.set_ne); focus (first | (simp; done) | (simp; omega))) | with_reducible apply Blk.drewN | with_reducible apply Blk.drew))) hb
          have B6c := B6.cell; have B6f := B6.frozen; have B6l := B6.lt
          clear hb
          go_wp2
          go_roundg g
          case rel =>
            refine ⟨k + 1, a, s, by go_num, by have := HK.out; omega, by omega, by omega, HB, B2, B3, ?_, ?_⟩
            · (apply Blk.conv; focus (repeat (first | (with_reducible assumption) | (with_reducible apply Blk.new'; (first | (with_reducible rfl) | (simp; done))) | with_reducible apply Blk.alloc | with_reducible apply Blk.set | ((with_reducible apply Blk.set_ne); focus (first | (simp; done) | (simp; omega))) | with_reducible apply Blk.drewN | with_reducible apply Blk.drew)))
              (first | rfl | (simp; done) | (simp; omega))
            · (apply Blk.conv; focus (repeat (first | (with_reducible assumption) | (with_reducible apply Blk.new'; (first | (with_reducible rfl) | (simp; done))) | with_reducible apply Blk.alloc | with_reducible apply Blk.set | ((with_reducible apply Blk.set_ne); focus (first | (simp; done) | (simp; omega))) | with_reducible apply Blk.drewN | with_reducible apply Blk.drew)))
              (first | rfl | (simp; done) | (simp; omega))
          case measure => omega
      · have hm : (x.d : Int) % 4 = 1 := by omega
        clear hx
        have hf1 : fgFrom a x.n s ≤ a + 600 := by unfold fgFrom; omega
        have hf2 : (s.extract (fgFrom a x.n s - a) s.size).size ≤ 256 := by rw [sz_ext]; omega
        generalize hF : fgFrom a x.n s = A at *
        generalize hG : s.extract (A - a) s.size = S at *
        have hFG := Lib.hid (And.intro hF hG)
        clear hF hG
        go_wp2_with fail
        refine wp_abs5 (w.heap.size) 27 (w.heap.size+1) 42 (w.heap.size+2) 27 (w.heap.size+3) 42 (wr.heap.size) 58 (n := w.heap.size) (w := w) (by (repeat (first | (with_reducible assumption) | (with_reducible exact Below.refl _ _) | with_reducible apply bl_drewN | with_reducible apply Below.drew | (with_reducible apply bl_alloc; focus (first | (simp; done) | (simp; omega) | omega)) | (with_reducible apply bl_set; focus (first | (simp; done) | (simp; omega) | omega))))) (by (repeat (first | (with_reducible assumption) | (with_reducible apply Blk.new'; (first | (with_reducible rfl) | (simp; done))) | with_reducible apply Blk.alloc | with_reducible apply Blk.set | ((with_reducible apply Blk.set_ne); focus (first | (simp; done) | (simp; omega))) | with_reducible apply Blk.drewN | with_reducible apply Blk.drew))) (by (repeat (first | (with_reducible assumption) | (with_reducible apply Blk.new'; (first | (with_reducible rfl) | (simp; done))) | with_reducible apply Blk.alloc | with_reducible apply Blk.set | ((with_reducible apply Blk.set_ne); focus (first | (simp; done) | (simp; omega))) | with_reducible apply Blk.drewN | with_reducible apply Blk.drew))) (by (repeat (first | (with_reducible assumption) | (with_reducible apply Blk.new'; (first | (with_reducible rfl) | (simp; done))) | with_reducible apply Blk.alloc | with_reducible apply Blk.set | ((with_reducible apply Blk.set_ne); focus (first | (simp; done) | (simp; omega))) | with_reducible apply Blk.drewN | with_reducible apply Blk.drew))) (by (repeat (first | (with_reducible assumption) | (with_reducible apply Blk.new'; (first | (with_reducible rfl) | (simp; done))) | with_reducible apply Blk.alloc | with_reducible apply Blk.set | ((with_reducible apply Blk.set_ne); focus (first | (simp; done) | (simp; omega))) | with_reducible apply Blk.drewN | with_reducible apply Blk.drew))) (by (repeat (first | (with_reducible assumption) | (with_reducible apply Blk.new'; (first | (with_reducible rfl) | (simp; done))) | with_reducible apply Blk.alloc | with_reducible apply Blk.set | ((with_reducible apply Blk.set_ne); focus (first | (simp; done) | (simp; omega))) | with_reducible apply Blk.drewN | with_reducible apply Blk.drew))) (fun W0 HB B2 B3 B5 B6 B8 => ?_)
        have HBs := HB.size
        have B2c := B2.cell; have B2f := B2.frozen; have B2l := B2.lt
        have B3c := B3.cell; have B3f := B3.frozen; have B3l := B3.lt
        have B5c := B5.cell; have B5f := B5.frozen; have B5l := B5.lt
        have B6c := B6.cell; have B6f := B6.frozen; have B6l := B6.lt
        have B8c := B8.cell; have B8f := B8.frozen; have B8l := B8.lt
        refine wp_region_gr_tail 8 (by kernel_rfl) (by kernel_rfl) ?_
        simp only [List.take_succ_cons, List.take_zero, List.drop_succ_cons, List.drop_zero]
        repeat (first
          | go_big_quiet_skip
          | ((refine BigFrame.wpQuiet_want rfl (fun K hK => quiet_mk ?_)); apply Exists.intro; refine ⟨fun wq hq => ?_, hK _ ?_⟩
             · have f0 := hq.blk B2; have f1 := hq.blk B3; have f2 := hq.blk B5; have f3 := hq.blk B6; have f4 := hq.blk B8; go_simp; (try simp only [↓IntWalk.iteOmega]); (try go_bits)
               first | done | rfl | exact ⟨rfl, rfl⟩ | (go_at_call 13; refine ((forget_at _ _ _ _ _ _ ha1 hs1 hFG.out)).mono ?_; rintro e wr ⟨rfl, hbr⟩; exact ⟨rfl, hq.next hbr⟩) | (go_at_call 24; refine ((rforget_at _ _ _ _ _ _ ha1 hs1 hFG.out)).mono ?_; rintro e wr ⟨rfl, hbr⟩; exact ⟨rfl, hq.next hbr⟩)
             clear hK K; (try simp only [Act.put, List.setIfInBounds_toArray, List.set_cons_zero, List.set_cons_succ])))
        refine wpQuiet_nil ?_
        intro w2 hw1
        have HB : Below w.heap.size w w2 := Below.thn HB hw1.out HB.size
        have HBs := HB.size
        have B2 := B2.gr hw1; clear B2c B2f B2l; have B2c := B2.cell; have B2f := B2.frozen; have B2l := B2.lt
        have B3 := B3.gr hw1; clear B3c B3f B3l; have B3c := B3.cell; have B3f := B3.frozen; have B3l := B3.lt
        have B5 := B5.gr hw1; clear B5c B5f B5l; have B5c := B5.cell; have B5f := B5.frozen; have B5l := B5.lt
        have B6 := B6.gr hw1; clear B6c B6f B6l; have B6c := B6.cell; have B6f := B6.frozen; have B6l := B6.lt
        have B8 := B8.gr hw1; clear B8c B8f B8l; have B8c := B8.cell; have B8f := B8.frozen; have B8l := B8.lt
        clear hw1
        go_wp2_with fail
        refine (is_yes _ _ _ (by omega) (by omega)).mono ?_
        rintro e w4 ⟨rfl, hb⟩
        have HB : Below w.heap.size w w4 := Below.thn (by (repeat (first | (with_reducible assumption) | (with_reducible exact Below.refl _ _) | with_reducible apply bl_drewN | with_reducible apply Below.drew | (with_reducible apply bl_alloc; focus (first | (simp; done) | (simp; omega) | omega)) | (with_reducible apply bl_set; focus (first | (simp; done) | (simp; omega) | omega))))) hb
        have HBs := HB.size
        have B2 := Blk.below (b := w.heap.size) (t := 27) (by (repeat (first | (with_reducible assumption) | (with_reducible apply Blk.new'; (first | (with_reducible rfl) | (simp; done))) | with_reducible apply Blk.alloc | with_reducible apply Blk.set | ((with_reducible apply Blk.set_ne); focus (first | (simp; done) | (simp; omega))) | with_reducible apply Blk.drewN | with_reducible apply Blk.drew))) hb
        have B2c := B2.cell; have B2f := B2.frozen; have B2l := B2.lt
        have B3 := Blk.below (b := w.heap.size+1) (t := 42) (by (repeat (first | (with_reducible assumption) | (with_reducible apply Blk.new'; (first | (with_reducible rfl) | (simp; done))) | with_reducible apply Blk.alloc | with_reducible apply Blk.set | ((with_reducible apply Blk.set_ne); focus (first | (simp; done) | (simp; omega))) | with_reducible apply Blk.drewN | with_reducible apply Blk.drew))) hb
        have B3c := B3.cell; have B3f := B3.frozen; have B3l := B3.lt
        have B5 := Blk.below (b := w.heap.size+2) (t := 27) (by (repeat (first | (with_reducible assumption) | (with_reducible apply Blk.new'; (first | (with_reducible rfl) | (simp; done))) | with_reducible apply Blk.alloc | with_reducible apply Blk.set | ((with_reducible apply Blk.set_ne); focus (first | (simp; done) | (simp; omega))) | with_reducible apply Blk.drewN | with_reducible apply Blk.drew))) hb
        have B5c := B5.cell; have B5f := B5.frozen; have B5l := B5.lt
        have B6 := Blk.below (b := w.heap.size+3) (t := 42) (by (repeat (first | (with_reducible assumption) | (with_reducible apply Blk.new'; (first | (with_reducible rfl) | (simp; done))) | with_reducible apply Blk.alloc | with_reducible apply Blk.set | ((with_reducible apply Blk.set_ne); focus (first | (simp; done) | (simp; omega))) | with_reducible apply Blk.drewN | with_reducible apply Blk.drew))) hb
        have B6c := B6.cell; have B6f := B6.frozen; have B6l := B6.lt
        clear hb
        go_wp2
        go_roundg g
        case rel =>
          refine ⟨k + 1, A, S, by go_num, by have := HK.out; omega, by omega, by omega, HB, B2, B3, ?_, ?_⟩
          · (apply Blk.conv; focus (repeat (first | (with_reducible assumption) | (with_reducible apply Blk.new'; (first | (with_reducible rfl) | (simp; done))) | with_reducible apply Blk.alloc | with_reducible apply Blk.set | ((with_reducible apply Blk.set_ne); focus (first | (simp; done) | (simp; omega))) | with_reducible apply Blk.drewN | with_reducible apply Blk.drew)))
            (first | rfl | (simp; done) | (simp; omega))
          · (apply Blk.conv; focus (repeat (first | (with_reducible assumption) | (with_reducible apply Blk.new'; (first | (with_reducible rfl) | (simp; done))) | with_reducible apply Blk.alloc | with_reducible apply Blk.set | ((with_reducible apply Blk.set_ne); focus (first | (simp; done) | (simp; omega))) | with_reducible apply Blk.drewN | with_reducible apply Blk.drew)))
            (first | rfl | (simp; done) | (simp; omega))
        case measure => omega
      · have hm : (x.d : Int) % 4 = 2 := by omega
        clear hx
        have hA := doA_le a s x.t hs
        have hS := doS_size s x.t
        go_wp2_with fail
        refine (do_both _ _ _ _ ha hs1 (by omega)).mono ?_
        rintro e w2 ⟨rfl, hb⟩
        have HB : Below w.heap.size w w2 := Below.thn (by (repeat (first | (with_reducible assumption) | (with_reducible exact Below.refl _ _) | with_reducible apply bl_drewN | with_reducible apply Below.drew | (with_reducible apply bl_alloc; focus (first | (simp; done) | (simp; omega) | omega)) | (with_reducible apply bl_set; focus (first | (simp; done) | (simp; omega) | omega))))) hb
        have HBs := HB.size
        have B2 := Blk.below (b := w.heap.size) (t := 27) (by (repeat (first | (with_reducible assumption) | (with_reducible apply Blk.new'; (first | (with_reducible rfl) | (simp; done))) | with_reducible apply Blk.alloc | with_reducible apply Blk.set | ((with_reducible apply Blk.set_ne); focus (first | (simp; done) | (simp; omega))) | with_reducible apply Blk.drewN | with_reducible apply Blk.drew))) hb
        have B2c := B2.cell; have B2f := B2.frozen; have B2l := B2.lt
        have B3 := Blk.below (b := w.heap.size+1) (t := 42) (by (repeat (first | (with_reducible assumption) | (with_reducible apply Blk.new'; (first | (with_reducible rfl) | (simp; done))) | with_reducible apply Blk.alloc | with_reducible apply Blk.set | ((with_reducible apply Blk.set_ne); focus (first | (simp; done) | (simp; omega))) | with_reducible apply Blk.drewN | with_reducible apply Blk.drew))) hb
        have B3c := B3.cell; have B3f := B3.frozen; have B3l := B3.lt
        have B5 := Blk.below (b := w.heap.size+2) (t := 27) (by (repeat (first | (with_reducible assumption) | (with_reducible apply Blk.new'; (first | (with_reducible rfl) | (simp; done))) | with_reducible apply Blk.alloc | with_reducible apply Blk.set | ((with_reducible apply Blk.set_ne); focus (first | (simp; done) | (simp; omega))) | with_reducible apply Blk.drewN | with_reducible apply Blk.drew))) hb
        have B5c := B5.cell; have B5f := B5.frozen; have B5l := B5.lt
        have B6 := Blk.below (b := w.heap.size+3) (t := 42) (by (repeat (first | (with_reducible assumption) | (with_reducible apply Blk.new'; (first | (with_reducible rfl) | (simp; done))) | with_reducible apply Blk.alloc | with_reducible apply Blk.set | ((with_reducible apply Blk.set_ne); focus (first | (simp; done) | (simp; omega))) | with_reducible apply Blk.drewN | with_reducible apply Blk.drew))) hb
        have B6c := B6.cell; have B6f := B6.frozen; have B6l := B6.lt
        have B8 := Blk.below (b := wr.heap.size) (t := 58) (by (repeat (first | (with_reducible assumption) | (with_reducible apply Blk.new'; (first | (with_reducible rfl) | (simp; done))) | with_reducible apply Blk.alloc | with_reducible apply Blk.set | ((with_reducible apply Blk.set_ne); focus (first | (simp; done) | (simp; omega))) | with_reducible apply Blk.drewN | with_reducible apply Blk.drew))) hb
        have B8c := B8.cell; have B8f := B8.frozen; have B8l := B8.lt
        clear hb
        go_wp2_with fail
        refine (rdo_both _ _ _ _ ha hs1 (by omega)).mono ?_
        rintro e w3 ⟨rfl, hb⟩
        have HB : Below w.heap.size w w3 := Below.thn (by (repeat (first | (with_reducible assumption) | (with_reducible exact Below.refl _ _) | with_reducible apply bl_drewN | with_reducible apply Below.drew | (with_reducible apply bl_alloc; focus (first | (simp; done) | (simp; omega) | omega)) | (with_reducible apply bl_set; focus (first | (simp; done) | (simp; omega) | omega))))) hb
        have HBs := HB.size
        have B2 := Blk.below (b := w.heap.size) (t := 27) (by (repeat (first | (with_reducible assumption) | (with_reducible apply Blk.new'; (first | (with_reducible rfl) | (simp; done))) | with_reducible apply Blk.alloc | with_reducible apply Blk.set | ((with_reducible apply Blk.set_ne); focus (first | (simp; done) | (simp; omega))) | with_reducible apply Blk.drewN | with_reducible apply Blk.drew))) hb
        have B2c := B2.cell; have B2f := B2.frozen; have B2l := B2.lt
        have B3 := Blk.below (b := w.heap.size+1) (t := 42) (by (repeat (first | (with_reducible assumption) | (with_reducible apply Blk.new'; (first | (with_reducible rfl) | (simp; done))) | with_reducible apply Blk.alloc | with_reducible apply Blk.set | ((with_reducible apply Blk.set_ne); focus (first | (simp; done) | (simp; omega))) | with_reducible apply Blk.drewN | with_reducible apply Blk.drew))) hb
        have B3c := B3.cell; have B3f := B3.frozen; have B3l := B3.lt
        have B5 := Blk.below (b := w.heap.size+2) (t := 27) (by (repeat (first | (with_reducible assumption) | (with_reducible apply Blk.new'; (first | (with_reducible rfl) | (simp; done))) | with_reducible apply Blk.alloc | with_reducible apply Blk.set | ((with_reducible apply Blk.set_ne); focus (first | (simp; done) | (simp; omega))) | with_reducible apply Blk.drewN | with_reducible apply Blk.drew))) hb
        have B5c := B5.cell; have B5f := B5.frozen; have B5l := B5.lt
        have B6 := Blk.below (b := w.heap.size+3) (t := 42) (by (repeat (first | (with_reducible assumption) | (with_reducible apply Blk.new'; (first | (with_reducible rfl) | (simp; done))) | with_reducible apply Blk.alloc | with_reducible apply Blk.set | ((with_reducible apply Blk.set_ne); focus (first | (simp; done) | (simp; omega))) | with_reducible apply Blk.drewN | with_reducible apply Blk.drew))) hb
        have B6c := B6.cell; have B6f := B6.frozen; have B6l := B6.lt
        clear hb
        go_wp2_with fail
        refine (is_yes _ _ _ (by omega) (by omega)).mono ?_
        rintro e w4 ⟨rfl, hb⟩
        have HB : Below w.heap.size w w4 := Below.thn (by (repeat (first | (with_reducible assumption) | (with_reducible exact Below.refl _ _) | with_reducible apply bl_drewN | with_reducible apply Below.drew | (with_reducible apply bl_alloc; focus (first | (simp; done) | (simp; omega) | omega)) | (with_reducible apply bl_set; focus (first | (simp; done) | (simp; omega) | omega))))) hb
        have HBs := HB.size
        have B2 := Blk.below (b := w.heap.size) (t := 27) (by (repeat (first | (with_reducible assumption) | (with_reducible apply Blk.new'; (first | (with_reducible rfl) | (simp; done))) | with_reducible apply Blk.alloc | with_reducible apply Blk.set | ((with_reducible apply Blk.set_ne); focus (first | (simp; done) | (simp; omega))) | with_reducible apply Blk.drewN | with_reducible apply Blk.drew))) hb
        have B2c := B2.cell; have B2f := B2.frozen; have B2l := B2.lt
        have B3 := Blk.below (b := w.heap.size+1) (t := 42) (by (repeat (first | (with_reducible assumption) | (with_reducible apply Blk.new'; (first | (with_reducible rfl) | (simp; done))) | with_reducible apply Blk.alloc | with_reducible apply Blk.set | ((with_reducible apply Blk.set_ne); focus (first | (simp; done) | (simp; omega))) | with_reducible apply Blk.drewN | with_reducible apply Blk.drew))) hb
        have B3c := B3.cell; have B3f := B3.frozen; have B3l := B3.lt
        have B5 := Blk.below (b := w.heap.size+2) (t := 27) (by (repeat (first | (with_reducible assumption) | (with_reducible apply Blk.new'; (first | (with_reducible rfl) | (simp; done))) | with_reducible apply Blk.alloc | with_reducible apply Blk.set | ((with_reducible apply Blk.set_ne); focus (first | (simp; done) | (simp; omega))) | with_reducible apply Blk.drewN | with_reducible apply Blk.drew))) hb
        have B5c := B5.cell; have B5f := B5.frozen; have B5l := B5.lt
        have B6 := Blk.below (b := w.heap.size+3) (t := 42) (by (repeat (first | (with_reducible assumption) | (with_reducible apply Blk.new'; (first | (with_reducible rfl) | (simp; done))) | with_reducible apply Blk.alloc | with_reducible apply Blk.set | ((with_reducible apply Blk.set_ne); focus (first | (simp; done) | (simp; omega))) | with_reducible apply Blk.drewN | with_reducible apply Blk.drew))) hb
        have B6c := B6.cell; have B6f := B6.frozen; have B6l := B6.lt
        clear hb
        go_wp2
        go_roundg g
        case rel =>
          refine ⟨k + 1, doA a s x.t, doS s x.t, by go_num, by have := HK.out; omega, by omega, by omega, HB, B2, B3, ?_, ?_⟩
          · (apply Blk.conv; focus (repeat (first | (with_reducible assumption) | (with_reducible apply Blk.new'; (first | (with_reducible rfl) | (simp; done))) | with_reducible apply Blk.alloc | with_reducible apply Blk.set | ((with_reducible apply Blk.set_ne); focus (first | (simp; done) | (simp; omega))) | with_reducible apply Blk.drewN | with_reducible apply Blk.drew)))
            (first | rfl | (simp; done) | (simp; omega))
          · (apply Blk.conv; focus (repeat (first | (with_reducible assumption) | (with_reducible apply Blk.new'; (first | (with_reducible rfl) | (simp; done))) | with_reducible apply Blk.alloc | with_reducible apply Blk.set | ((with_reducible apply Blk.set_ne); focus (first | (simp; done) | (simp; omega))) | with_reducible apply Blk.drewN | with_reducible apply Blk.drew)))
            (first | rfl | (simp; done) | (simp; omega))
        case measure => omega
      · have hm : (x.d : Int) % 4 = 3 := by omega
        clear hx
        have hn : (x.n : Int) % 600 = ((x.n % 600 : Nat) : Int) := by omega
        have hn2 : x.n % 600 ≤ 600 := by omega
        generalize x.n % 600 = m at *
        have hA := doA_le a s (kText m) hs
        have hS := doS_size s (kText m)
        have hK := kText_size m
        have hK2 : (kText m).size ≤ 600 := by omega
        rw [hK] at hA
        clear hK
        go_wp2_with fail
        refine (repeat_k _ _ (by omega)).mono ?_
        rintro e w5 ⟨rfl, hb⟩
        have HB : Below w.heap.size w w5 := Below.thn (by (repeat (first | (with_reducible assumption) | (with_reducible exact Below.refl _ _) | with_reducible apply bl_drewN | with_reducible apply Below.drew | (with_reducible apply bl_alloc; focus (first | (simp; done) | (simp; omega) | omega)) | (with_reducible apply bl_set; focus (first | (simp; done) | (simp; omega) | omega))))) hb
        have HBs := HB.size
        have B2 := Blk.below (b := w.heap.size) (t := 27) (by (repeat (first | (with_reducible assumption) | (with_reducible apply Blk.new'; (first | (with_reducible rfl) | (simp; done))) | with_reducible apply Blk.alloc | with_reducible apply Blk.set | ((with_reducible apply Blk.set_ne); focus (first | (simp; done) | (simp; omega))) | with_reducible apply Blk.drewN | with_reducible apply Blk.drew))) hb
        have B2c := B2.cell; have B2f := B2.frozen; have B2l := B2.lt
        have B3 := Blk.below (b := w.heap.size+1) (t := 42) (by (repeat (first | (with_reducible assumption) | (with_reducible apply Blk.new'; (first | (with_reducible rfl) | (simp; done))) | with_reducible apply Blk.alloc | with_reducible apply Blk.set | ((with_reducible apply Blk.set_ne); focus (first | (simp; done) | (simp; omega))) | with_reducible apply Blk.drewN | with_reducible apply Blk.drew))) hb
        have B3c := B3.cell; have B3f := B3.frozen; have B3l := B3.lt
        have B5 := Blk.below (b := w.heap.size+2) (t := 27) (by (repeat (first | (with_reducible assumption) | (with_reducible apply Blk.new'; (first | (with_reducible rfl) | (simp; done))) | with_reducible apply Blk.alloc | with_reducible apply Blk.set | ((with_reducible apply Blk.set_ne); focus (first | (simp; done) | (simp; omega))) | with_reducible apply Blk.drewN | with_reducible apply Blk.drew))) hb
        have B5c := B5.cell; have B5f := B5.frozen; have B5l := B5.lt
        have B6 := Blk.below (b := w.heap.size+3) (t := 42) (by (repeat (first | (with_reducible assumption) | (with_reducible apply Blk.new'; (first | (with_reducible rfl) | (simp; done))) | with_reducible apply Blk.alloc | with_reducible apply Blk.set | ((with_reducible apply Blk.set_ne); focus (first | (simp; done) | (simp; omega))) | with_reducible apply Blk.drewN | with_reducible apply Blk.drew))) hb
        have B6c := B6.cell; have B6f := B6.frozen; have B6l := B6.lt
        have B8 := Blk.below (b := wr.heap.size) (t := 58) (by (repeat (first | (with_reducible assumption) | (with_reducible apply Blk.new'; (first | (with_reducible rfl) | (simp; done))) | with_reducible apply Blk.alloc | with_reducible apply Blk.set | ((with_reducible apply Blk.set_ne); focus (first | (simp; done) | (simp; omega))) | with_reducible apply Blk.drewN | with_reducible apply Blk.drew))) hb
        have B8c := B8.cell; have B8f := B8.frozen; have B8l := B8.lt
        clear hb
        go_wp2_with fail
        refine (do_both _ _ _ _ ha hs1 (by omega)).mono ?_
        rintro e w2 ⟨rfl, hb⟩
        have HB : Below w.heap.size w w2 := Below.thn (by (repeat (first | (with_reducible assumption) | (with_reducible exact Below.refl _ _) | with_reducible apply bl_drewN | with_reducible apply Below.drew | (with_reducible apply bl_alloc; focus (first | (simp; done) | (simp; omega) | omega)) | (with_reducible apply bl_set; focus (first | (simp; done) | (simp; omega) | omega))))) hb
        have HBs := HB.size
        have B2 := Blk.below (b := w.heap.size) (t := 27) (by (repeat (first | (with_reducible assumption) | (with_reducible apply Blk.new'; (first | (with_reducible rfl) | (simp; done))) | with_reducible apply Blk.alloc | with_reducible apply Blk.set | ((with_reducible apply Blk.set_ne); focus (first | (simp; done) | (simp; omega))) | with_reducible apply Blk.drewN | with_reducible apply Blk.drew))) hb
        have B2c := B2.cell; have B2f := B2.frozen; have B2l := B2.lt
        have B3 := Blk.below (b := w.heap.size+1) (t := 42) (by (repeat (first | (with_reducible assumption) | (with_reducible apply Blk.new'; (first | (with_reducible rfl) | (simp; done))) | with_reducible apply Blk.alloc | with_reducible apply Blk.set | ((with_reducible apply Blk.set_ne); focus (first | (simp; done) | (simp; omega))) | with_reducible apply Blk.drewN | with_reducible apply Blk.drew))) hb
        have B3c := B3.cell; have B3f := B3.frozen; have B3l := B3.lt
        have B5 := Blk.below (b := w.heap.size+2) (t := 27) (by (repeat (first | (with_reducible assumption) | (with_reducible apply Blk.new'; (first | (with_reducible rfl) | (simp; done))) | with_reducible apply Blk.alloc | with_reducible apply Blk.set | ((with_reducible apply Blk.set_ne); focus (first | (simp; done) | (simp; omega))) | with_reducible apply Blk.drewN | with_reducible apply Blk.drew))) hb
        have B5c := B5.cell; have B5f := B5.frozen; have B5l := B5.lt
        have B6 := Blk.below (b := w.heap.size+3) (t := 42) (by (repeat (first | (with_reducible assumption) | (with_reducible apply Blk.new'; (first | (with_reducible rfl) | (simp; done))) | with_reducible apply Blk.alloc | with_reducible apply Blk.set | ((with_reducible apply Blk.set_ne); focus (first | (simp; done) | (simp; omega))) | with_reducible apply Blk.drewN | with_reducible apply Blk.drew))) hb
        have B6c := B6.cell; have B6f := B6.frozen; have B6l := B6.lt
        clear hb
        go_wp2_with fail
        refine (rdo_both _ _ _ _ ha hs1 (by omega)).mono ?_
        rintro e w3 ⟨rfl, hb⟩
        have HB : Below w.heap.size w w3 := Below.thn (by (repeat (first | (with_reducible assumption) | (with_reducible exact Below.refl _ _) | with_reducible apply bl_drewN | with_reducible apply Below.drew | (with_reducible apply bl_alloc; focus (first | (simp; done) | (simp; omega) | omega)) | (with_reducible apply bl_set; focus (first | (simp; done) | (simp; omega) | omega))))) hb
        have HBs := HB.size
        have B2 := Blk.below (b := w.heap.size) (t := 27) (by (repeat (first | (with_reducible assumption) | (with_reducible apply Blk.new'; (first | (with_reducible rfl) | (simp; done))) | with_reducible apply Blk.alloc | with_reducible apply Blk.set | ((with_reducible apply Blk.set_ne); focus (first | (simp; done) | (simp; omega))) | with_reducible apply Blk.drewN | with_reducible apply Blk.drew))) hb
        have B2c := B2.cell; have B2f := B2.frozen; have B2l := B2.lt
        have B3 := Blk.below (b := w.heap.size+1) (t := 42) (by (repeat (first | (with_reducible assumption) | (with_reducible apply Blk.new'; (first | (with_reducible rfl) | (simp; done))) | with_reducible apply Blk.alloc | with_reducible apply Blk.set | ((with_reducible apply Blk.set_ne); focus (first | (simp; done) | (simp; omega))) | with_reducible apply Blk.drewN | with_reducible apply Blk.drew))) hb
        have B3c := B3.cell; have B3f := B3.frozen; have B3l := B3.lt
        have B5 := Blk.below (b := w.heap.size+2) (t := 27) (by (repeat (first | (with_reducible assumption) | (with_reducible apply Blk.new'; (first | (with_reducible rfl) | (simp; done))) | with_reducible apply Blk.alloc | with_reducible apply Blk.set | ((with_reducible apply Blk.set_ne); focus (first | (simp; done) | (simp; omega))) | with_reducible apply Blk.drewN | with_reducible apply Blk.drew))) hb
        have B5c := B5.cell; have B5f := B5.frozen; have B5l := B5.lt
        have B6 := Blk.below (b := w.heap.size+3) (t := 42) (by (repeat (first | (with_reducible assumption) | (with_reducible apply Blk.new'; (first | (with_reducible rfl) | (simp; done))) | with_reducible apply Blk.alloc | with_reducible apply Blk.set | ((with_reducible apply Blk.set_ne); focus (first | (simp; done) | (simp; omega))) | with_reducible apply Blk.drewN | with_reducible apply Blk.drew))) hb
        have B6c := B6.cell; have B6f := B6.frozen; have B6l := B6.lt
        clear hb
        go_wp2_with fail
        refine (is_yes _ _ _ (by omega) (by omega)).mono ?_
        rintro e w4 ⟨rfl, hb⟩
        have HB : Below w.heap.size w w4 := Below.thn (by (repeat (first | (with_reducible assumption) | (with_reducible exact Below.refl _ _) | with_reducible apply bl_drewN | with_reducible apply Below.drew | (with_reducible apply bl_alloc; focus (first | (simp; done) | (simp; omega) | omega)) | (with_reducible apply bl_set; focus (first | (simp; done) | (simp; omega) | omega))))) hb
        have HBs := HB.size
        have B2 := Blk.below (b := w.heap.size) (t := 27) (by (repeat (first | (with_reducible assumption) | (with_reducible apply Blk.new'; (first | (with_reducible rfl) | (simp; done))) | with_reducible apply Blk.alloc | with_reducible apply Blk.set | ((with_reducible apply Blk.set_ne); focus (first | (simp; done) | (simp; omega))) | with_reducible apply Blk.drewN | with_reducible apply Blk.drew))) hb
        have B2c := B2.cell; have B2f := B2.frozen; have B2l := B2.lt
        have B3 := Blk.below (b := w.heap.size+1) (t := 42) (by (repeat (first | (with_reducible assumption) | (with_reducible apply Blk.new'; (first | (with_reducible rfl) | (simp; done))) | with_reducible apply Blk.alloc | with_reducible apply Blk.set | ((with_reducible apply Blk.set_ne); focus (first | (simp; done) | (simp; omega))) | with_reducible apply Blk.drewN | with_reducible apply Blk.drew))) hb
        have B3c := B3.cell; have B3f := B3.frozen; have B3l := B3.lt
        have B5 := Blk.below (b := w.heap.size+2) (t := 27) (by (repeat (first | (with_reducible assumption) | (with_reducible apply Blk.new'; (first | (with_reducible rfl) | (simp; done))) | with_reducible apply Blk.alloc | with_reducible apply Blk.set | ((with_reducible apply Blk.set_ne); focus (first | (simp; done) | (simp; omega))) | with_reducible apply Blk.drewN | with_reducible apply Blk.drew))) hb
        have B5c := B5.cell; have B5f := B5.frozen; have B5l := B5.lt
        have B6 := Blk.below (b := w.heap.size+3) (t := 42) (by (repeat (first | (with_reducible assumption) | (with_reducible apply Blk.new'; (first | (with_reducible rfl) | (simp; done))) | with_reducible apply Blk.alloc | with_reducible apply Blk.set | ((with_reducible apply Blk.set_ne); focus (first | (simp; done) | (simp; omega))) | with_reducible apply Blk.drewN | with_reducible apply Blk.drew))) hb
        have B6c := B6.cell; have B6f := B6.frozen; have B6l := B6.lt
        clear hb
        go_wp2
        go_roundg g
        case rel =>
          refine ⟨k + 1, doA a s (kText m), doS s (kText m), by go_num, by have := HK.out; omega, by omega, by omega, HB, B2, B3, ?_, ?_⟩
          · (apply Blk.conv; focus (repeat (first | (with_reducible assumption) | (with_reducible apply Blk.new'; (first | (with_reducible rfl) | (simp; done))) | with_reducible apply Blk.alloc | with_reducible apply Blk.set | ((with_reducible apply Blk.set_ne); focus (first | (simp; done) | (simp; omega))) | with_reducible apply Blk.drewN | with_reducible apply Blk.drew)))
            (first | rfl | (simp; done) | (simp; omega))
          · (apply Blk.conv; focus (repeat (first | (with_reducible assumption) | (with_reducible apply Blk.new'; (first | (with_reducible rfl) | (simp; done))) | with_reducible apply Blk.alloc | with_reducible apply Blk.set | ((with_reducible apply Blk.set_ne); focus (first | (simp; done) | (simp; omega))) | with_reducible apply Blk.drewN | with_reducible apply Blk.drew)))
            (first | rfl | (simp; done) | (simp; omega))
        case measure => omega
end Go.Proofs.Ytenjijbjdfbkpaa
