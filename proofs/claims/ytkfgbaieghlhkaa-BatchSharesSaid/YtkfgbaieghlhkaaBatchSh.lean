/- Two batches of one pool: what Add and Flush do, said of both at once. -/
import Derived.Test.YtkfgbaieghlhkaaBatchMem
namespace Go.Proofs.Ytkfgbaieghlhkaa
open Go.RowKit

structure Sh (w0 w : World) (pb B n ever ba bb base : Nat) (L : List Buf) (lva lvb vx vy : Value) (ea eb : List Ent) (xs ys px py : List OutE) : Prop where
  M : Mem4 w pb B n ever ba bb base L lva lvb vx vy ea eb xs ys
  G : Good L n (ea ++ eb)
  E1 : xs ++ px = outsOf L ea
  E2 : ys ++ py = outsOf L eb
  HB : Below w0.heap.size w0 w
  b1 : w0.heap.size ≤ pb
  b2 : w0.heap.size ≤ B
  b3 : w0.heap.size ≤ ba
  b4 : w0.heap.size ≤ bb
section
variable {w0 w w' : World} {pb B n ever ba bb base : Nat} {L : List Buf} {lva lvb vx vy vx' : Value} {ea eb : List Ent} {xs ys px py xs' px' : List OutE}
theorem Sh.swap (S : Sh w0 w pb B n ever ba bb base L lva lvb vx vy ea eb xs ys px py) : Sh w0 w pb B n ever bb ba base L lvb lva vy vx eb ea ys xs py px :=
  ⟨S.M.swap, S.G.perm List.perm_append_comm, S.E2, S.E1, S.HB, S.b1, S.b2, S.b4, S.b3⟩
theorem Sh.below (S : Sh w0 w pb B n ever ba bb base L lva lvb vx vy ea eb xs ys px py) (g : Below w.heap.size w w') : Sh w0 w' pb B n ever ba bb base L lva lvb vx vy ea eb xs ys px py :=
  ⟨S.M.below g, S.G, S.E1, S.E2, Below.thn S.HB g S.HB.size, S.b1, S.b2, S.b3, S.b4⟩
theorem Sh.nx (S : Sh w0 w pb B n ever ba bb base L lva lvb vx vy ea eb xs ys px py) : xs.length + px.length = ea.length := by
  have := congrArg List.length S.E1
  rwa [outsOf_length, List.length_append] at this
theorem Sh.cnt (S : Sh w0 w pb B n ever ba bb base L lva lvb vx vy ea eb xs ys px py) : ea.length + eb.length ≤ n ∧ freeN L n = n - (ea.length + eb.length) := by
  have h1 := S.G.le
  have h2 := S.G.freeN
  rw [List.length_append] at h1 h2
  exact ⟨h1, h2⟩
theorem Sh.grow (S : Sh w0 w pb B n ever ba bb base L lva lvb vx vy ea eb xs ys px py) (hg : (Below w0.heap.size w w')) (hh : ∀ k, k < w.heap.size → some k ≠ vx.ownBlock → w'.heap[k]? = w.heap[k]?) (X : w'.ownsRow base 54 3 vx' xs'.length (outRow xs'))
    (hl : vx'.ownBlock = vx.ownBlock ∨ ∃ g, vx'.ownBlock = some g ∧ w.heap.size ≤ g) (hx : xs' ++ px' = xs ++ px) : Sh w0 w' pb B n ever ba bb base L lva lvb vx' vy ea eb xs' ys px' py :=
  ⟨S.M.grow hg.size hh X hl, S.G, hx.trans S.E1, S.E2, S.HB.trans hg, S.b1, S.b2, S.b3, S.b4⟩
end

set_option maxHeartbeats 1000000 in
theorem sh_add_none (w0 w : World) (pb B n ever ba bb base : Nat) (L : List Buf) (lva lvb vx vy : Value) (ea eb : List Ent) (xs ys px py : List OutE) (h p : Int) (s : ByteArray) (S : Sh w0 w pb B n ever ba bb base L lva lvb vx vy ea eb xs ys px py)
    (hn : n ≤ 63) (hf : ea.length + eb.length = n) (hs : s.size ≤ 512) :
    Calls Try.prog 22 #[.pointer (some ⟨ba, 0, none⟩), .agg #[.int .u32 h, .int .u16 p], .string s] w fun e w' => e = .returned (.int .i64 13) ∧ Below w.heap.size w w' := by
  rcases S.G.first S.M.P.len with ⟨h1, h2⟩ | ⟨h1, _⟩
  · exact add_none pb B ba 64 base n ever lva ea L h p s w S.M.P S.M.A (by omega) hs h2
  · rw [List.length_append] at h1; omega
set_option maxHeartbeats 1000000 in
theorem sh_add_ok (w0 w : World) (pb B n ever ba bb base : Nat) (L : List Buf) (lva lvb vx vy : Value) (ea eb : List Ent) (xs ys py : List OutE) (h p : Int) (s : ByteArray) (S : Sh w0 w pb B n ever ba bb base L lva lvb vx vy ea eb xs ys [] py)
    (hn : n ≤ 63) (hf : ea.length + eb.length < n) (hs : s.size ≤ 512) (he : ever ≤ 1000000) :
    Calls Try.prog 22 #[.pointer (some ⟨ba, 0, none⟩), .agg #[.int .u32 h, .int .u16 p], .string s] w fun e w' => e = .returned (.int .i64 0) ∧
      ∃ L' lva' x, Sh w0 w' pb B n (ever + 1) ba bb base L' lva' lvb vx vy (ea ++ [x]) eb xs ys [⟨h, p, s⟩] py ∧ TurnB pb B ba lva.ownBlock w w' := by
  rcases S.G.first S.M.P.len with ⟨h1, h2⟩ | ⟨_, q, hq, hall, hat⟩
  · rw [List.length_append] at h1; omega
  have M := S.M
  refine (add_ok pb B ba 64 base n ever q lva ea L h p s w M.P M.A M.o1 M.o2 M.o3 M.o5 M.n1 M.n2 (by omega) (by omega) hs hq hall hat he).mono ?_
  rintro e w' ⟨rfl, lva', P, A, T, hl⟩
  have hmiss := S.G.miss q hat
  refine ⟨rfl, L.set q ⟨true, s⟩, lva', ⟨h, p, q⟩, ⟨M.turn T P A hl, ?_, ?_, ?_, M.thn T S.HB (Nat.le_refl _) S.b1 S.b2 S.b3, S.b1, S.b2, S.b3, S.b4⟩, T⟩
  · refine (S.G.get M.P.len q hq hat ⟨h, p, q⟩ rfl s).perm ?_
    rw [List.append_assoc]
    exact (List.perm_middle (l₁ := ea) (l₂ := eb) (a := ⟨h, p, q⟩)).symm
  · rw [outsOf_snoc, outsOf_set _ _ _ _ (fun e he => hmiss e (List.mem_append_left _ he)), ← S.E1, List.append_nil]
    rw [getD_set_self _ _ _ (by rw [M.P.len]; exact hq)]
  · rw [outsOf_set _ _ _ _ (fun e he => hmiss e (List.mem_append_right _ he)), ← S.E2]
set_option maxHeartbeats 1000000 in
theorem sh_flush (w0 w : World) (pb B n ever ba bb base : Nat) (L : List Buf) (lva lvb vx vy : Value) (ea eb : List Ent) (xs ys py : List OutE) (S : Sh w0 w pb B n ever ba bb base L lva lvb vx vy ea eb xs ys [] py) (hn : n ≤ 63) :
    Calls Try.prog 23 #[.pointer (some ⟨ba, 0, none⟩)] w fun e w' => ∃ v, e = .returned v ∧ w'.ownsRow w.heap.size 54 3 v xs.length (outRow xs) ∧ w'.ownsRow base 54 3 vx xs.length (outRow xs) ∧
      ∃ L', Sh w0 w' pb B n ever ba bb base L' (.slice none 0 0) lvb (.slice none 0 0) vy [] eb [] ys [] py ∧ TurnB pb B ba none w w' := by
  have M := S.M
  have hc := S.cnt.1
  have E1 : xs = outsOf L ea := (List.append_nil xs) ▸ S.E1
  have hlen : xs.length = ea.length := by rw [E1, outsOf_length]
  refine (flush_any pb B ba 64 base n ever lva ea L w M.P M.A M.o1 M.o2 M.o3 M.n1 M.n2 (by omega) S.G.left.1 S.G.left.2).mono ?_
  rintro e w' ⟨v, rfl, ho, P, A, T⟩
  rw [outCells_eq, ← E1, ← hlen] at ho
  have T' : TurnB pb B ba lva.ownBlock w w' := ⟨T.out, fun k hk e1 e2 e3 _ => T.block k hk e1 e2 e3 (fun e => by cases e)⟩
  have M2 : Mem4 w' pb B n ever ba bb base (freeAll L ea) (.slice none 0 0) lvb vx vy [] eb xs ys := by
    have o1 := M.o1; have o2 := M.o2; have o3 := M.o3
    have kp : ∀ {v : Value} {m : Nat} {e : TypeId} {size : Nat} {cs : List Value}, w.ownsRow base e size v m cs → ∀ q, q < w.heap.size → v.ownBlock = some q → w'.heap[q]? = w.heap[q]? := by
      intro v m e size cs ho q hq hv
      have := own_ge ho q hv
      exact T.block q hq (by omega) (by omega) (by omega) (fun e => by cases e)
    have cb : w'.heap[bb]? = w.heap[bb]? := T.block bb M.C.hd.lt M.n3 M.n4 M.n5.symm (fun e => by cases e)
    exact ⟨P, A, M.C.keep cb (kp M.C.own), own_keep M.X (kp M.X), own_keep M.Y (kp M.Y), Apart.nil _, Apart.nil _, Apart.nil _, M.a4, M.a5, M.a6, o1, o2, o3, M.o4, Nat.le_trans M.o5 T.out.size, M.n1, M.n2, M.n3, M.n4, M.n5⟩
  refine ⟨v, rfl, ho, M2.X, freeAll L ea, ⟨M2.nil, S.G.flush M.P.len, rfl, ?_, M.thn T' S.HB (Nat.le_refl _) S.b1 S.b2 S.b3, S.b1, S.b2, S.b3, S.b4⟩, T⟩
  rw [outsOf_freeAll _ _ _ S.G.sep]; exact S.E2
theorem sh_free (w0 w : World) (pb B n ever ba bb base : Nat) (L : List Buf) (lva lvb vx vy : Value) (ea eb : List Ent) (xs ys px py : List OutE) (S : Sh w0 w pb B n ever ba bb base L lva lvb vx vy ea eb xs ys px py) :
    Calls Try.prog 13 #[.pointer (some ⟨pb, 0, none⟩)] w fun e w' => e = .returned (.int .i64 ((n : Int) - ((ea.length + eb.length : Nat) : Int))) ∧ Below w.heap.size w w' := by
  refine (freeN_any pb B n ever L w S.M.P).mono ?_
  rintro e w' ⟨rfl, hb⟩
  have := S.cnt
  refine ⟨?_, hb⟩
  rw [this.2]
  exact ret_int (by omega)
theorem TurnB.blk {pb B bb b : Nat} {lb : Option Nat} {w w' : World} {cs : Array Value} {t : TypeId} (T : TurnB pb B bb lb w w') (h : Blk w b cs t) (e1 : b ≠ pb) (e2 : b ≠ B) (e3 : b ≠ bb) (e4 : some b ≠ lb) : Blk w' b cs t :=
  ⟨(T.block b h.lt e1 e2 e3 e4).trans h.out⟩
end Go.Proofs.Ytkfgbaieghlhkaa
