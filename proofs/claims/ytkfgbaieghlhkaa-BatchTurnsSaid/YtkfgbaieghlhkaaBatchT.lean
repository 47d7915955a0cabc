/- One batch, beside others that take buffers: memory, and what each does. -/
import Derived.Test.YtkfgbaieghlhkaaBatchMem
namespace Go.Proofs.Ytkfgbaieghlhkaa
open Go.RowKit

def other : ByteArray := ⟨#[111, 116, 104, 101, 114]⟩
def asEnt (i : Nat) : Ent := ⟨0, 0, i⟩

structure Mem3 (w : World) (pb B n ever bb base most : Nat) (L : List Buf) (lv vx : Value) (es : List Ent) (xs : List OutE) : Prop where
  P : PoolAt w pb B n L ever
  A : BatchAt w bb pb most base lv es
  X : w.ownsRow base 54 3 vx xs.length (outRow xs)
  a1 : Apart lv vx
  o1 : pb < base
  o2 : B < base
  o3 : bb < base
  o5 : base ≤ w.heap.size
  n1 : bb ≠ pb
  n2 : bb ≠ B
/-- With the turn's own block, and the list of who else took one. -/
structure MemA (w : World) (pb B n ever bb base most A0 : Nat) (cs : Array Value) (L : List Buf) (lv vx vo : Value) (es : List Ent) (xs : List OutE) (os : List Nat) : Prop where
  M : Mem3 w pb B n ever bb base most L lv vx es xs
  BA : Blk w A0 cs 72
  Z : w.ownsRow base 3 1 vo os.length (nums os)
  a2 : Apart lv vo
  a3 : Apart vx vo
  q0 : base ≤ A0
  q1 : lv.ownBlock ≠ some A0
  q2 : vx.ownBlock ≠ some A0
  q3 : vo.ownBlock ≠ some A0
structure Lg (L : List Buf) (n : Nat) (es : List Ent) (xs px : List OutE) (hs : List Nat) : Prop where
  G : Good L n (es ++ hs.map asEnt)
  E : xs ++ px = outsOf L es
  T : ∀ i ∈ hs, (L.getD i default).text = other
section
variable {w w' : World} {pb B n ever ever' bb base most A0 : Nat} {cs : Array Value} {L L' : List Buf} {lv vx vo lv' vx' vo' : Value} {es es' : List Ent} {xs xs' px : List OutE} {os os' hs : List Nat}
theorem Mem3.below (M : Mem3 w pb B n ever bb base most L lv vx es xs) (g : Below w.heap.size w w') : Mem3 w' pb B n ever bb base most L lv vx es xs :=
  ⟨M.P.below g, M.A.below g, own_below2 M.X g, M.a1, M.o1, M.o2, M.o3, Nat.le_trans M.o5 g.size, M.n1, M.n2⟩
theorem MemA.below (M : MemA w pb B n ever bb base most A0 cs L lv vx vo es xs os) (g : Below w.heap.size w w') : MemA w' pb B n ever bb base most A0 cs L lv vx vo es xs os :=
  ⟨M.M.below g, M.BA.below g, own_below2 M.Z g, M.a2, M.a3, M.q0, M.q1, M.q2, M.q3⟩
theorem Mem3.start (M : Mem3 w pb B n ever bb base most L lv vx es xs) (g : Below w.heap.size w w') (BA : Blk w' w.heap.size cs 72) : MemA w' pb B n ever bb base most w.heap.size cs L lv vx (.slice none 0 0) es xs [] :=
  ⟨M.below g, BA, World.ownsRow_nil _ _ _ _, Apart.nil' _, Apart.nil' _, M.o5, (fun e => by have := own_lt M.A.own _ e; omega), (fun e => by have := own_lt M.X _ e; omega), (fun e => by cases e)⟩
/-- The pool alone turns. -/
theorem MemA.pool (M : MemA w pb B n ever bb base most A0 cs L lv vx vo es xs os) (T : Turn pb B w w') (P : PoolAt w' pb B n L' ever') : MemA w' pb B n ever' bb base most A0 cs L' lv vx vo es xs os := by
  have o1 := M.M.o1; have o2 := M.M.o2; have o3 := M.M.o3; have q0 := M.q0
  have kp : ∀ {v : Value} {m : Nat} {e : TypeId} {size : Nat} {cs : List Value}, w.ownsRow base e size v m cs → ∀ q, q < w.heap.size → v.ownBlock = some q → w'.heap[q]? = w.heap[q]? := by
    intro v m e size cs ho q hq hv
    have := own_ge ho q hv
    exact T.block q hq (by omega) (by omega)
  exact ⟨⟨P, M.M.A.keep (T.block _ M.M.A.hd.lt M.M.n1 M.M.n2) (kp M.M.A.own), own_keep M.M.X (kp M.M.X), M.M.a1, o1, o2, o3, Nat.le_trans M.M.o5 T.out.size, M.M.n1, M.M.n2⟩, T.blk M.BA (by omega) (by omega),
    own_keep M.Z (kp M.Z), M.a2, M.a3, M.q0, M.q1, M.q2, M.q3⟩
theorem MemA.thnT {N : Nat} {w0 : World} (M : MemA w pb B n ever bb base most A0 cs L lv vx vo es xs os) (T : Turn pb B w w') (HB : Below N w0 w) (hN : N ≤ w0.heap.size) (h1 : N ≤ pb) (h2 : N ≤ B) : Below N w0 w' := by
  have hs := HB.size
  exact HB.trans (T.below (by omega) h1 h2)
theorem MemA.thnB {N : Nat} {w0 : World} {lb : Option Nat} (M : MemA w pb B n ever bb base most A0 cs L lv vx vo es xs os) (T : TurnB pb B bb lb w w') (hlb : lb = lv.ownBlock ∨ lb = none) (HB : Below N w0 w) (hN : N ≤ w0.heap.size) (h1 : N ≤ pb) (h2 : N ≤ B) (h3 : N ≤ bb) : Below N w0 w' :=
  T.thn HB hN h1 h2 h3 (fun q e => by
    rcases hlb with h | h
    · have := own_ge M.M.A.own q (h ▸ e); have := M.M.o1; omega
    · rw [h] at e; cases e)
/-- The batch turns, by Add or Flush. -/
theorem MemA.turn {lb : Option Nat} (M : MemA w pb B n ever bb base most A0 cs L lv vx vo es xs os) (T : TurnB pb B bb lb w w') (hlb : lb = lv.ownBlock ∨ lb = none) (P : PoolAt w' pb B n L' ever') (A : BatchAt w' bb pb most base lv' es')
    (hl : lv'.ownBlock = none ∨ lv'.ownBlock = lv.ownBlock ∨ ∃ g, lv'.ownBlock = some g ∧ w.heap.size ≤ g) : MemA w' pb B n ever' bb base most A0 cs L' lv' vx vo es' xs os := by
  have o1 := M.M.o1; have o2 := M.M.o2; have o3 := M.M.o3; have q0 := M.q0
  have hlq : ∀ q, lb = some q → lv.ownBlock = some q := fun q e => by
    rcases hlb with h | h
    · rw [← h]; exact e
    · rw [h] at e; cases e
  have kp : ∀ {v : Value} {m : Nat} {e : TypeId} {size : Nat} {cs : List Value}, w.ownsRow base e size v m cs → Apart lv v → ∀ q, q < w.heap.size → v.ownBlock = some q → w'.heap[q]? = w.heap[q]? := by
    intro v m e size cs ho ha q hq hv
    have := own_ge ho q hv
    exact T.block q hq (by omega) (by omega) (by omega) (fun e => ha q (hlq q e.symm) hv)
  have ap : ∀ {v : Value}, Apart lv v → (∀ q, v.ownBlock = some q → q < w.heap.size) → Apart lv' v := by
    intro v ha hv
    rcases hl with h | h
    · intro q e; rw [h] at e; cases e
    · exact apart_of ha hv h
  refine ⟨⟨P, A, own_keep M.M.X (kp M.M.X M.M.a1), ap M.M.a1 (own_lt M.M.X), o1, o2, o3, Nat.le_trans M.M.o5 T.out.size, M.M.n1, M.M.n2⟩, ?_, own_keep M.Z (kp M.Z M.a2), ap M.a2 (own_lt M.Z), M.a3, M.q0, ?_, M.q2, M.q3⟩
  · exact ⟨(T.block A0 M.BA.lt (by omega) (by omega) (by omega) (fun e => M.q1 (hlq _ e.symm))).trans M.BA.out⟩
  · intro e
    rcases hl with h | h | ⟨g, h, hg⟩
    · rw [h] at e; cases e
    · exact M.q1 (h ▸ e)
    · rw [h] at e; cases e; have := M.BA.lt; omega
theorem MemA.growX (M : MemA w pb B n ever bb base most A0 cs L lv vx vo es xs os) (hs : w.heap.size ≤ w'.heap.size) (hg : ∀ k, k < w.heap.size → some k ≠ vx.ownBlock → w'.heap[k]? = w.heap[k]?) (X : w'.ownsRow base 54 3 vx' xs'.length (outRow xs'))
    (hl : vx'.ownBlock = vx.ownBlock ∨ ∃ g, vx'.ownBlock = some g ∧ w.heap.size ≤ g) : MemA w' pb B n ever bb base most A0 cs L lv vx' vo es xs' os := by
  have o1 := M.M.o1; have o2 := M.M.o2; have o3 := M.M.o3; have q0 := M.q0
  have lo : ∀ q, q < base → w'.heap[q]? = w.heap[q]? := fun q hq => hg q (by have := M.M.o5; omega) (fun e => by have := own_ge M.M.X q e.symm; omega)
  have kp : ∀ {v : Value} {m : Nat} {e : TypeId} {size : Nat} {cs : List Value}, w.ownsRow base e size v m cs → Apart vx v → ∀ q, q < w.heap.size → v.ownBlock = some q → w'.heap[q]? = w.heap[q]? := by
    intro v m e size cs ho ha q hq hv
    exact hg q hq (fun e => ha q e.symm hv)
  refine ⟨⟨M.M.P.keep (lo _ o1) (lo _ o2), M.M.A.keep (lo _ o3) (kp M.M.A.own M.M.a1.symm), X, (apart_of M.M.a1.symm (own_lt M.M.A.own) hl).symm, o1, o2, o3, Nat.le_trans M.M.o5 hs, M.M.n1, M.M.n2⟩, ?_, own_keep M.Z (kp M.Z M.a3), M.a2, apart_of M.a3 (own_lt M.Z) hl, M.q0, M.q1, ?_, M.q3⟩
  · exact ⟨(hg A0 M.BA.lt (fun e => M.q2 e.symm)).trans M.BA.out⟩
  · intro e
    rcases hl with h | ⟨g, h, hg⟩
    · exact M.q2 (h ▸ e)
    · rw [h] at e; cases e; have := M.BA.lt; omega
theorem MemA.growZ (M : MemA w pb B n ever bb base most A0 cs L lv vx vo es xs os) (hs : w.heap.size ≤ w'.heap.size) (hg : ∀ k, k < w.heap.size → some k ≠ vo.ownBlock → w'.heap[k]? = w.heap[k]?) (Z : w'.ownsRow base 3 1 vo' os'.length (nums os'))
    (hl : vo'.ownBlock = vo.ownBlock ∨ ∃ g, vo'.ownBlock = some g ∧ w.heap.size ≤ g) : MemA w' pb B n ever bb base most A0 cs L lv vx vo' es xs os' := by
  have o1 := M.M.o1; have o2 := M.M.o2; have o3 := M.M.o3; have q0 := M.q0
  have lo : ∀ q, q < base → w'.heap[q]? = w.heap[q]? := fun q hq => hg q (by have := M.M.o5; omega) (fun e => by have := own_ge M.Z q e.symm; omega)
  have kp : ∀ {v : Value} {m : Nat} {e : TypeId} {size : Nat} {cs : List Value}, w.ownsRow base e size v m cs → Apart vo v → ∀ q, q < w.heap.size → v.ownBlock = some q → w'.heap[q]? = w.heap[q]? := by
    intro v m e size cs ho ha q hq hv
    exact hg q hq (fun e => ha q e.symm hv)
  refine ⟨⟨M.M.P.keep (lo _ o1) (lo _ o2), M.M.A.keep (lo _ o3) (kp M.M.A.own M.a2.symm), own_keep M.M.X (kp M.M.X M.a3.symm), M.M.a1, o1, o2, o3, Nat.le_trans M.M.o5 hs, M.M.n1, M.M.n2⟩, ?_, Z, (apart_of M.a2.symm (own_lt M.M.A.own) hl).symm, (apart_of M.a3.symm (own_lt M.M.X) hl).symm, M.q0, M.q1, M.q2, ?_⟩
  · exact ⟨(hg A0 M.BA.lt (fun e => M.q3 e.symm)).trans M.BA.out⟩
  · intro e
    rcases hl with h | ⟨g, h, hg⟩
    · exact M.q3 (h ▸ e)
    · rw [h] at e; cases e; have := M.BA.lt; omega
theorem MemA.nilX (M : MemA w pb B n ever bb base most A0 cs L lv vx vo es xs os) : MemA w pb B n ever bb base most A0 cs L lv (.slice none 0 0) vo es [] os :=
  ⟨⟨M.M.P, M.M.A, World.ownsRow_nil _ _ _ _, Apart.nil' _, M.M.o1, M.M.o2, M.M.o3, M.M.o5, M.M.n1, M.M.n2⟩, M.BA, M.Z, M.a2, Apart.nil _, M.q0, M.q1, (fun e => by cases e), M.q3⟩

theorem Lg.nx (l : Lg L n es xs px hs) : xs.length + px.length = es.length := by
  have := congrArg List.length l.E
  rwa [outsOf_length, List.length_append] at this
theorem Lg.cnt (l : Lg L n es xs px hs) : es.length + hs.length ≤ n ∧ freeN L n = n - (es.length + hs.length) := by
  have h1 := l.G.le
  have h2 := l.G.freeN
  rw [List.length_append, List.length_map] at h1 h2
  exact ⟨h1, h2⟩
/-- Somebody else takes one. -/
theorem Lg.take (l : Lg L n es xs px hs) (hL : L.length = n) (q : Nat) (hq : q < n) (hf : (L.getD q default).held = false) : Lg (L.set q ⟨true, other⟩) n es xs px (hs ++ [q]) := by
  have hm := l.G.miss q hf
  refine ⟨?_, ?_, fun i hi => ?_⟩
  · refine (l.G.get hL q hq hf (asEnt q) rfl other).perm ?_
    rw [List.map_append, ← List.append_assoc]
    exact (List.perm_append_singleton (asEnt q) (es ++ hs.map asEnt)).symm
  · rw [outsOf_set _ _ _ _ (fun e he => hm e (List.mem_append_left _ he))]; exact l.E
  · rcases List.mem_append.1 hi with h | h
    · rw [getD_set_other _ _ _ _ (show q ≠ i from Ne.symm (hm (asEnt i) (List.mem_append_right _ (List.mem_map_of_mem h))))]; exact l.T i h
    · obtain rfl : i = q := by simpa using h
      rw [getD_set_self _ _ _ (by omega)]
/-- .. and gives it back. -/
theorem Lg.give {q : Nat} (l : Lg L n es xs px (q :: hs)) (hL : L.length = n) : Lg (L.set q ⟨false, ⟨#[]⟩⟩) n es xs px hs := by
  have hp : Good L n (asEnt q :: (es ++ hs.map asEnt)) := l.G.perm (by rw [List.map_cons]; exact List.perm_middle)
  have hd := hp.dis
  rw [List.map_cons, List.nodup_cons] at hd
  have hn : ∀ e ∈ es ++ hs.map asEnt, e.i ≠ q := fun e he hh => hd.1 (by rw [show (asEnt q).i = e.i from hh.symm]; exact List.mem_map_of_mem he)
  refine ⟨hp.put hL _, ?_, fun i hi => ?_⟩
  · rw [outsOf_set _ _ _ _ (fun e he => hn e (List.mem_append_left _ he))]; exact l.E
  · rw [getD_set_other _ _ _ _ (show q ≠ i from Ne.symm (hn (asEnt i) (List.mem_append_right _ (List.mem_map_of_mem hi))))]; exact l.T i (List.mem_cons_of_mem _ hi)
theorem Lg.held {q : Nat} (l : Lg L n es xs px (q :: hs)) : q < n ∧ (L.getD q default).held = true ∧ (L.getD q default).text = other := by
  have := l.G.ok (asEnt q) (List.mem_append_right _ (List.mem_map_of_mem (List.mem_cons_self ..)))
  exact ⟨this.1, this.2, l.T q (List.mem_cons_self ..)⟩
theorem Lg.add (l : Lg L n es xs [] hs) (hL : L.length = n) (q : Nat) (hq : q < n) (hf : (L.getD q default).held = false) (h p : Int) (s : ByteArray) : Lg (L.set q ⟨true, s⟩) n (es ++ [⟨h, p, q⟩]) xs [⟨h, p, s⟩] hs := by
  have hm := l.G.miss q hf
  refine ⟨?_, ?_, fun i hi => ?_⟩
  · refine (l.G.get hL q hq hf ⟨h, p, q⟩ rfl s).perm ?_
    rw [List.append_assoc]
    exact (List.perm_middle (l₁ := es) (a := ⟨h, p, q⟩)).symm
  · rw [outsOf_snoc, outsOf_set _ _ _ _ (fun e he => hm e (List.mem_append_left _ he)), ← l.E, List.append_nil, getD_set_self _ _ _ (by omega)]
  · rw [getD_set_other _ _ _ _ (show q ≠ i from Ne.symm (hm (asEnt i) (List.mem_append_right _ (List.mem_map_of_mem hi))))]; exact l.T i hi
theorem Lg.flush (l : Lg L n es xs px hs) (hL : L.length = n) : Lg (freeAll L es) n [] [] [] hs :=
  ⟨l.G.flush hL, rfl, fun i hi => by
    rw [freeAll_other L es i (fun e he => l.G.sep e he (asEnt i) (List.mem_map_of_mem hi))]; exact l.T i hi⟩
end
theorem Good.allFree {L : List Buf} {n : Nat} (h : Good L n []) (i : Nat) (hi : i < n) : (L.getD i default).held = false := by
  have h1 := h.free
  have h2 : heldL L n = [] := List.length_eq_zero_iff.1 h1
  cases hh : (L.getD i default).held with
  | false => rfl
  | true =>
    have : i ∈ heldL L n := by unfold heldL; rw [List.mem_filter]; exact ⟨List.mem_range.2 hi, hh⟩
    rw [h2] at this; simp at this
def addR (n most free size : Nat) : Int := if most ≤ n then 12 else if 512 < size then 5 else if free = 0 then 13 else 0
set_option maxHeartbeats 1000000 in
theorem refadd_any (n most free size : Nat) (w : World) (h1 : n ≤ 1000) (h2 : most ≤ 1000) (h3 : free ≤ 1000) (h4 : size ≤ 1000) :
    Calls Try.prog 31 #[.int .i64 n, .int .i64 most, .int .i64 free, .int .i64 size] w fun e w' => e = .returned (.int .i64 (addR n most free size)) ∧ Below w.heap.size w w' := by
  unfold addR
  by_cases c1 : most ≤ n
  · have d1 : (most : Int) ≤ n := by omega
    rw [if_pos c1]
    go_enter Try.func31, Try.ntmps31
    go_wp2
    go_ret
    exact ⟨rfl, by (repeat (first | (with_reducible assumption) | (with_reducible exact Below.refl _ _) | with_reducible apply bl_drewN | with_reducible apply Below.drew | (with_reducible apply bl_alloc; focus (first | (simp; done) | (simp; omega) | omega)) | (with_reducible apply bl_set; focus (first | (simp; done) | (simp; omega) | omega))))⟩
  have d1 : ¬ (most : Int) ≤ n := by omega
  rw [if_neg c1]
  by_cases c2 : 512 < size
  · have d2 : (512 : Int) < size := by omega
    rw [if_pos c2]
    go_enter Try.func31, Try.ntmps31
    go_wp2
    go_ret
    exact ⟨rfl, by (repeat (first | (with_reducible assumption) | (with_reducible exact Below.refl _ _) | with_reducible apply bl_drewN | with_reducible apply Below.drew | (with_reducible apply bl_alloc; focus (first | (simp; done) | (simp; omega) | omega)) | (with_reducible apply bl_set; focus (first | (simp; done) | (simp; omega) | omega))))⟩
  have d2 : ¬ (512 : Int) < size := by omega
  rw [if_neg c2]
  by_cases c3 : free = 0
  · rw [if_pos c3]
    subst c3
    go_enter Try.func31, Try.ntmps31
    go_wp2
    go_ret
    exact ⟨rfl, by (repeat (first | (with_reducible assumption) | (with_reducible exact Below.refl _ _) | with_reducible apply bl_drewN | with_reducible apply Below.drew | (with_reducible apply bl_alloc; focus (first | (simp; done) | (simp; omega) | omega)) | (with_reducible apply bl_set; focus (first | (simp; done) | (simp; omega) | omega))))⟩
  · have d3 : ¬ (free : Int) = 0 := by omega
    rw [if_neg c3]
    go_enter Try.func31, Try.ntmps31
    go_wp2
    go_ret
    exact ⟨rfl, by (repeat (first | (with_reducible assumption) | (with_reducible exact Below.refl _ _) | with_reducible apply bl_drewN | with_reducible apply Below.drew | (with_reducible apply bl_alloc; focus (first | (simp; done) | (simp; omega) | omega)) | (with_reducible apply bl_set; focus (first | (simp; done) | (simp; omega) | omega))))⟩
end Go.Proofs.Ytkfgbaieghlhkaa
