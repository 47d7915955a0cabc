/- Two batches of one pool, and two lists of what they hold: what memory holds, and which buffers are whose. -/
import Derived.Test.YtkfgbaieghlhkaaBatchEq
import Derived.Test.YtkfgbaieghlhkaaBatchAwake
namespace Go.Proofs.Ytkfgbaieghlhkaa
open Go.RowKit

/-! Which buffers are whose. -/
theorem heldL_set (L : List Buf) (n i : Nat) (b : Buf) (hL : L.length = n) (hi : i < n) : ∀ k, k ≤ n →
    (heldL (L.set i b) k).length + (if i < k ∧ (L.getD i default).held = true then 1 else 0) = (heldL L k).length + (if i < k ∧ b.held = true then 1 else 0)
  | 0, _ => by simp [heldL]
  | k + 1, hk => by
    have ih := heldL_set L n i b hL hi k (by omega)
    by_cases e : i = k
    · subst e
      have e1 : (L.set i b).getD i default = b := getD_set_self _ _ _ (by omega)
      rw [if_neg (by omega), if_neg (by omega)] at ih
      cases h1 : (L.getD i default).held <;> cases h2 : b.held
      · rw [heldL_miss L i h1, heldL_miss (L.set i b) i (by rw [e1]; exact h2)]; simp; omega
      · rw [heldL_miss L i h1, heldL_hit (L.set i b) i (by rw [e1]; exact h2)]; simp; omega
      · rw [heldL_hit L i h1, heldL_miss (L.set i b) i (by rw [e1]; exact h2)]; simp; omega
      · rw [heldL_hit L i h1, heldL_hit (L.set i b) i (by rw [e1]; exact h2)]; simp; omega
    · have e1 : (L.set i b).getD k default = L.getD k default := getD_set_other _ _ _ _ e
      have e2 : (i < k + 1) = (i < k) := by apply propext; omega
      simp only [e2]
      cases h1 : (L.getD k default).held
      · rw [heldL_miss L k h1, heldL_miss (L.set i b) k (by rw [e1]; exact h1)]; exact ih
      · rw [heldL_hit L k h1, heldL_hit (L.set i b) k (by rw [e1]; exact h1)]
        simp only [List.length_append, List.length_cons, List.length_nil]
        omega

structure Good (L : List Buf) (n : Nat) (es : List Ent) : Prop where
  ok : ∀ e ∈ es, e.i < n ∧ (L.getD e.i default).held = true
  dis : (es.map Ent.i).Nodup
  free : (heldL L n).length = es.length
theorem Good.perm {L : List Buf} {n : Nat} {es es' : List Ent} (h : Good L n es) (p : es.Perm es') : Good L n es' :=
  ⟨fun e he => h.ok e (p.mem_iff.2 he), (p.map Ent.i).nodup_iff.1 h.dis, h.free.trans p.length_eq⟩
theorem Good.le {L : List Buf} {n : Nat} {es : List Ent} (h : Good L n es) : es.length ≤ n := h.free ▸ heldL_le L n
theorem Good.freeN {L : List Buf} {n : Nat} {es : List Ent} (h : Good L n es) : freeN L n = n - es.length := by unfold Proofs.Ytkfgbaieghlhkaa.freeN; rw [h.free]
theorem Good.get {L : List Buf} {n : Nat} {es : List Ent} (h : Good L n es) (hL : L.length = n) (i : Nat) (hi : i < n) (hf : (L.getD i default).held = false) (e : Ent) (he : e.i = i) (s : ByteArray) : Good (L.set i ⟨true, s⟩) n (e :: es) := by
  have hn : ∀ x ∈ es, i ≠ x.i := fun x hx hh => by have := (h.ok x hx).2; rw [← hh, hf] at this; cases this
  refine ⟨fun x hx => ?_, ?_, ?_⟩
  · rcases List.mem_cons.1 hx with rfl | hx
    · rw [he, getD_set_self _ _ _ (by omega)]; exact ⟨hi, rfl⟩
    · rw [getD_set_other _ _ _ _ (hn x hx)]; exact h.ok x hx
  · rw [List.map_cons, List.nodup_cons]
    refine ⟨fun hm => ?_, h.dis⟩
    obtain ⟨x, hx, hxe⟩ := List.mem_map.1 hm
    exact hn x hx (by rw [hxe, he])
  · have := heldL_set L n i ⟨true, s⟩ hL hi n (Nat.le_refl _)
    rw [if_neg (by rw [hf]; simp), if_pos ⟨hi, rfl⟩] at this
    rw [List.length_cons, ← h.free]; exact this
theorem Good.put {L : List Buf} {n : Nat} {es : List Ent} {e : Ent} (h : Good L n (e :: es)) (hL : L.length = n) (t : ByteArray) : Good (L.set e.i ⟨false, t⟩) n es := by
  have h0 := h.ok e (List.mem_cons_self ..)
  have hd := h.dis
  rw [List.map_cons, List.nodup_cons] at hd
  refine ⟨fun x hx => ?_, hd.2, ?_⟩
  · rw [getD_set_other _ _ _ _ (fun hh => hd.1 (by rw [hh]; exact List.mem_map_of_mem hx))]
    exact h.ok x (List.mem_cons_of_mem _ hx)
  · have := heldL_set L n e.i ⟨false, t⟩ hL h0.1 n (Nat.le_refl _)
    rw [if_pos ⟨h0.1, h0.2⟩, if_neg (by simp), h.free, List.length_cons] at this
    omega
theorem Good.flush {L : List Buf} {n : Nat} {es rest : List Ent} (h : Good L n (es ++ rest)) (hL : L.length = n) : Good (freeAll L es) n rest := by
  induction es generalizing L with
  | nil => exact h
  | cons e es ih => exact ih (L := L.set e.i ⟨false, ⟨#[]⟩⟩) (Good.put h hL _) (by rw [List.length_set]; exact hL)
theorem Good.sep {L : List Buf} {n : Nat} {es rest : List Ent} (h : Good L n (es ++ rest)) : ∀ x ∈ es, ∀ y ∈ rest, x.i ≠ y.i := by
  have := h.dis
  rw [List.map_append, List.nodup_append] at this
  exact fun x hx y hy => this.2.2 _ (List.mem_map_of_mem hx) _ (List.mem_map_of_mem hy)
theorem Good.at {L : List Buf} {n : Nat} {es : List Ent} (h : Good L n es) (k : Nat) (hk : k < es.length) : (es.getD k default).i < n ∧ (L.getD (es.getD k default).i default).held = true := by
  rw [show es.getD k default = es[k] by rw [List.getD, List.getElem?_eq_getElem hk]; rfl]
  exact h.ok _ (List.getElem_mem hk)
theorem Good.ne {L : List Buf} {n : Nat} {es : List Ent} (h : Good L n es) (k j : Nat) (hkj : k < j) (hj : j < es.length) : (es.getD k default).i ≠ (es.getD j default).i := by
  have hd := h.dis
  rw [show es.getD k default = es[k] by rw [List.getD, List.getElem?_eq_getElem (by omega)]; rfl, show es.getD j default = es[j] by rw [List.getD, List.getElem?_eq_getElem hj]; rfl]
  have := List.pairwise_iff_getElem.1 hd k j (by simp; omega) (by simp; omega) hkj
  simpa using this
theorem Good.left {L : List Buf} {n : Nat} {es rest : List Ent} (h : Good L n (es ++ rest)) : (∀ k, k < es.length → (es.getD k default).i < n ∧ (L.getD (es.getD k default).i default).held = true) ∧ (∀ k j, k < j → j < es.length → (es.getD k default).i ≠ (es.getD j default).i) := by
  have hg : ∀ k, k < es.length → (es ++ rest).getD k default = es.getD k default := fun k hk => by simp [List.getD, List.getElem?_append_left hk]
  refine ⟨fun k hk => ?_, fun k j hkj hj => ?_⟩
  · have := h.at k (by simp; omega)
    rwa [hg k hk] at this
  · have := h.ne k j hkj (by simp; omega)
    rwa [hg k (by omega), hg j hj] at this
theorem Good.miss {L : List Buf} {n : Nat} {es : List Ent} (h : Good L n es) (i : Nat) (hf : (L.getD i default).held = false) : ∀ e ∈ es, e.i ≠ i := fun x hx hh => by
  have := (h.ok x hx).2; rw [hh, hf] at this; cases this
theorem outsOf_set (L : List Buf) (es : List Ent) (i : Nat) (b : Buf) (h : ∀ e ∈ es, e.i ≠ i) : outsOf (L.set i b) es = outsOf L es := by
  apply List.map_congr_left
  intro e he
  rw [getD_set_other _ _ _ _ (Ne.symm (h e he))]
theorem outsOf_snoc (L : List Buf) (es : List Ent) (e : Ent) : outsOf L (es ++ [e]) = outsOf L es ++ [⟨e.h, e.p, (L.getD e.i default).text⟩] := by simp [outsOf]
theorem outsOf_freeAll (L : List Buf) (es rest : List Ent) (h : ∀ x ∈ es, ∀ y ∈ rest, x.i ≠ y.i) : outsOf (freeAll L es) rest = outsOf L rest := by
  apply List.map_congr_left
  intro e he
  rw [freeAll_other L es e.i (fun x hx => h x hx e he)]
theorem outsOf_length (L : List Buf) (es : List Ent) : (outsOf L es).length = es.length := by simp [outsOf]
theorem firstFree (l : List Buf) : ∀ n, ∃ q, q ≤ n ∧ (∀ j, j < q → (l.getD j default).held = true) ∧ (q < n → (l.getD q default).held = false)
  | 0 => ⟨0, Nat.le_refl _, fun j hj => by omega, fun h => by omega⟩
  | n + 1 => by
    obtain ⟨q, hq, hall, hat⟩ := firstFree l n
    by_cases h : q < n
    · exact ⟨q, by omega, hall, fun _ => hat h⟩
    · have : q = n := by omega
      subst this
      cases hh : (l.getD q default).held with
      | false => exact ⟨q, by omega, hall, fun _ => hh⟩
      | true => exact ⟨q + 1, Nat.le_refl _, fun j hj => by
          by_cases e : j = q
          · subst e; exact hh
          · exact hall j (by omega), fun h => by omega⟩
theorem Good.first {L : List Buf} {n : Nat} {es : List Ent} (h : Good L n es) (hL : L.length = n) : (es.length = n ∧ ∀ j, j < n → (L.getD j default).held = true) ∨ (es.length < n ∧ ∃ q, q < n ∧ (∀ j, j < q → (L.getD j default).held = true) ∧ (L.getD q default).held = false) := by
  obtain ⟨q, hq, hall, hat⟩ := firstFree L n
  by_cases hqn : q < n
  · have h1 := h.get hL q hqn (hat hqn) ⟨0, 0, q⟩ rfl ⟨#[]⟩
    have := h1.le
    exact Or.inr ⟨by have h2 : es.length + 1 ≤ n := by simpa using this
                     omega, q, hqn, hall, hat hqn⟩
  · obtain rfl : q = n := by omega
    have h1 := heldL_first L q q (fun i hi => by rw [hall i hi]; simp [hi])
    exact Or.inl ⟨by rw [← h.free, h1]; omega, hall⟩

/-! What memory holds. -/
theorem own_keep {w w' : World} {base m : Nat} {e : TypeId} {size : Nat} {v : Value} {xs : List Value} (h : w.ownsRow base e size v m xs) (k : ∀ q, q < w.heap.size → v.ownBlock = some q → w'.heap[q]? = w.heap[q]?) : w'.ownsRow base e size v m xs :=
  ⟨h.1, by
    rcases h.2 with h5 | ⟨b, c, cur, h5, h6, h7, h8⟩
    · exact Or.inl h5
    · exact Or.inr ⟨b, c, cur, h5, h6, (k b (Array.getElem?_eq_some_iff.1 h7).1 (by rw [h5]; rfl)).trans h7, h8⟩⟩
theorem PoolAt.keep {w w' : World} {pb B n ever : Nat} {l : List Buf} (h : PoolAt w pb B n l ever) (h1 : w'.heap[pb]? = w.heap[pb]?) (h2 : w'.heap[B]? = w.heap[B]?) : PoolAt w' pb B n l ever :=
  ⟨⟨h1.trans h.hd.out⟩, h.row.of_block h2, h.len, h.fit, h.ne, h.most⟩
theorem BatchAt.keep {w w' : World} {bb pb most base : Nat} {lv : Value} {l : List Ent} (h : BatchAt w bb pb most base lv l) (h1 : w'.heap[bb]? = w.heap[bb]?) (k : ∀ q, q < w.heap.size → lv.ownBlock = some q → w'.heap[q]? = w.heap[q]?) : BatchAt w' bb pb most base lv l :=
  ⟨⟨h1.trans h.hd.out⟩, own_keep h.own k⟩
/-- Two lists don't lie in one block. -/
def Apart (u v : Value) : Prop := ∀ q, u.ownBlock = some q → v.ownBlock ≠ some q
theorem Apart.symm {u v : Value} (h : Apart u v) : Apart v u := fun q h1 h2 => h q h2 h1
theorem Apart.nil (v : Value) : Apart (.slice none 0 0) v := fun q h => by cases h
theorem Apart.nil' (v : Value) : Apart v (.slice none 0 0) := (Apart.nil v).symm

structure Mem4 (w : World) (pb B n ever ba bb base : Nat) (L : List Buf) (lva lvb vx vy : Value) (ea eb : List Ent) (xs ys : List OutE) : Prop where
  P : PoolAt w pb B n L ever
  A : BatchAt w ba pb 64 base lva ea
  C : BatchAt w bb pb 64 base lvb eb
  X : w.ownsRow base 54 3 vx xs.length (outRow xs)
  Y : w.ownsRow base 54 3 vy ys.length (outRow ys)
  a1 : Apart lva lvb
  a2 : Apart lva vx
  a3 : Apart lva vy
  a4 : Apart lvb vx
  a5 : Apart lvb vy
  a6 : Apart vx vy
  o1 : pb < base
  o2 : B < base
  o3 : ba < base
  o4 : bb < base
  o5 : base ≤ w.heap.size
  n1 : ba ≠ pb
  n2 : ba ≠ B
  n3 : bb ≠ pb
  n4 : bb ≠ B
  n5 : ba ≠ bb
section
variable {w w' : World} {pb B n ever ever' ba bb base : Nat} {L L' : List Buf} {lva lvb vx vy lva' vx' : Value} {ea eb ea' : List Ent} {xs ys xs' : List OutE}
theorem Mem4.swap (M : Mem4 w pb B n ever ba bb base L lva lvb vx vy ea eb xs ys) : Mem4 w pb B n ever bb ba base L lvb lva vy vx eb ea ys xs :=
  ⟨M.P, M.C, M.A, M.Y, M.X, M.a1.symm, M.a5, M.a4, M.a3, M.a2, M.a6.symm, M.o1, M.o2, M.o4, M.o3, M.o5, M.n3, M.n4, M.n1, M.n2, M.n5.symm⟩
theorem Mem4.below (M : Mem4 w pb B n ever ba bb base L lva lvb vx vy ea eb xs ys) (g : Below w.heap.size w w') : Mem4 w' pb B n ever ba bb base L lva lvb vx vy ea eb xs ys :=
  ⟨M.P.below g, M.A.below g, M.C.below g, own_below2 M.X g, own_below2 M.Y g, M.a1, M.a2, M.a3, M.a4, M.a5, M.a6, M.o1, M.o2, M.o3, M.o4, Nat.le_trans M.o5 g.size, M.n1, M.n2, M.n3, M.n4, M.n5⟩
theorem apart_of {u u' v : Value} {N : Nat} (h : Apart u v) (hv : ∀ q, v.ownBlock = some q → q < N) (hu : u'.ownBlock = u.ownBlock ∨ ∃ g, u'.ownBlock = some g ∧ N ≤ g) : Apart u' v := by
  intro q h1 h2
  rcases hu with e | ⟨g, e, hg⟩
  · exact h q (by rw [← e]; exact h1) h2
  · rw [e] at h1; cases h1; have := hv _ h2; omega
theorem own_lt {base m : Nat} {e : TypeId} {size : Nat} {v : Value} {xs : List Value} (h : w.ownsRow base e size v m xs) : ∀ q, v.ownBlock = some q → q < w.heap.size := fun q hq => (h.lt q hq).2
theorem own_ge {base m : Nat} {e : TypeId} {size : Nat} {v : Value} {xs : List Value} (h : w.ownsRow base e size v m xs) : ∀ q, v.ownBlock = some q → base ≤ q := fun q hq => (h.lt q hq).1
/-- Add, or Flush, of the first batch. -/
theorem Mem4.turn (M : Mem4 w pb B n ever ba bb base L lva lvb vx vy ea eb xs ys) (T : TurnB pb B ba lva.ownBlock w w') (P : PoolAt w' pb B n L' ever') (A : BatchAt w' ba pb 64 base lva' ea')
    (hl : lva'.ownBlock = lva.ownBlock ∨ ∃ g, lva'.ownBlock = some g ∧ w.heap.size ≤ g) : Mem4 w' pb B n ever' ba bb base L' lva' lvb vx vy ea' eb xs ys := by
  have o1 := M.o1; have o2 := M.o2; have o3 := M.o3; have o4 := M.o4
  have kp : ∀ {v : Value} {m : Nat} {e : TypeId} {size : Nat} {cs : List Value}, w.ownsRow base e size v m cs → Apart lva v → ∀ q, q < w.heap.size → v.ownBlock = some q → w'.heap[q]? = w.heap[q]? := by
    intro v m e size cs ho ha q hq hv
    have := own_ge ho q hv
    exact T.block q hq (by omega) (by omega) (by omega) (fun e => ha q e.symm hv)
  have cb : w'.heap[bb]? = w.heap[bb]? := T.block bb M.C.hd.lt M.n3 M.n4 M.n5.symm (fun e => by have := own_ge M.A.own bb e.symm; omega)
  exact ⟨P, A, M.C.keep cb (kp M.C.own M.a1), own_keep M.X (kp M.X M.a2), own_keep M.Y (kp M.Y M.a3),
    apart_of M.a1 (own_lt M.C.own) hl, apart_of M.a2 (own_lt M.X) hl, apart_of M.a3 (own_lt M.Y) hl, M.a4, M.a5, M.a6, o1, o2, o3, o4, Nat.le_trans M.o5 T.out.size, M.n1, M.n2, M.n3, M.n4, M.n5⟩
/-- The first list grows. -/
theorem Mem4.grow (M : Mem4 w pb B n ever ba bb base L lva lvb vx vy ea eb xs ys) (hs : w.heap.size ≤ w'.heap.size) (hg : ∀ k, k < w.heap.size → some k ≠ vx.ownBlock → w'.heap[k]? = w.heap[k]?) (X : w'.ownsRow base 54 3 vx' xs'.length (outRow xs'))
    (hl : vx'.ownBlock = vx.ownBlock ∨ ∃ g, vx'.ownBlock = some g ∧ w.heap.size ≤ g) : Mem4 w' pb B n ever ba bb base L lva lvb vx' vy ea eb xs' ys := by
  have o1 := M.o1; have o2 := M.o2; have o3 := M.o3; have o4 := M.o4
  have lo : ∀ q, q < base → w'.heap[q]? = w.heap[q]? := fun q hq => hg q (by have := M.o5; omega) (fun e => by have := own_ge M.X q e.symm; omega)
  have kp : ∀ {v : Value} {m : Nat} {e : TypeId} {size : Nat} {cs : List Value}, w.ownsRow base e size v m cs → Apart vx v → ∀ q, q < w.heap.size → v.ownBlock = some q → w'.heap[q]? = w.heap[q]? := by
    intro v m e size cs ho ha q hq hv
    exact hg q hq (fun e => ha q e.symm hv)
  exact ⟨M.P.keep (lo _ o1) (lo _ o2), M.A.keep (lo _ o3) (kp M.A.own M.a2.symm), M.C.keep (lo _ o4) (kp M.C.own M.a4.symm), X, own_keep M.Y (kp M.Y M.a6),
    M.a1, (apart_of M.a2.symm (own_lt M.A.own) hl).symm, M.a3, (apart_of M.a4.symm (own_lt M.C.own) hl).symm, M.a5, apart_of M.a6 (own_lt M.Y) hl, o1, o2, o3, o4, Nat.le_trans M.o5 hs, M.n1, M.n2, M.n3, M.n4, M.n5⟩
/-- The first list is empty again. -/
theorem Mem4.nil (M : Mem4 w pb B n ever ba bb base L lva lvb vx vy ea eb xs ys) : Mem4 w pb B n ever ba bb base L lva lvb (.slice none 0 0) vy ea eb [] ys :=
  ⟨M.P, M.A, M.C, World.ownsRow_nil _ _ _ _, M.Y, M.a1, Apart.nil' _, M.a3, Apart.nil' _, M.a5, Apart.nil _, M.o1, M.o2, M.o3, M.o4, M.o5, M.n1, M.n2, M.n3, M.n4, M.n5⟩
/-- What hasn't turned, by Add or Flush. -/
theorem Mem4.thn {N : Nat} {w0 : World} (M : Mem4 w pb B n ever ba bb base L lva lvb vx vy ea eb xs ys) (T : TurnB pb B ba lva.ownBlock w w') (HB : Below N w0 w) (hN : N ≤ w0.heap.size) (h1 : N ≤ pb) (h2 : N ≤ B) (h3 : N ≤ ba) : Below N w0 w' :=
  T.thn HB hN h1 h2 h3 (fun q e => by have := own_ge M.A.own q e; have := M.o1; omega)
end
end Go.Proofs.Ytkfgbaieghlhkaa
