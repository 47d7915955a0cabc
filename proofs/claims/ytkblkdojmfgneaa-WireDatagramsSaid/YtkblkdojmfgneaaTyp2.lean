/- A region that draws its order and makes new memory on its way (calls whose results lie in new memory, allocations): ONE walk in the order of the text. Of each such operation a kind of result is told ahead (RelSpec), with a fact that holds on as memory grows; all else reads. A tail of forced order follows. -/
import Derived.Test.YtkblkdojmfgneaaTail
namespace Go.Proofs.Ytkblkdojmfgneaa
open Go.RowKit

/-- What an operation yields: of each x of α the value, and what then holds of memory; it holds on as memory grows. -/
structure RelSpec where
  α : Type
  x0 : α
  val : α → Value
  fact : α → World → Prop
  stable : ∀ x w w', fact x w → Below w.heap.size w w' → fact x w'

def relUpon (P : Program) (post : Value → World → Prop) : Result Next → Prop
  | .ok (.value u) w' => post u w'
  | .ok (.enter f args) w' => Calls P f args w' (fun e w'' => ∃ v, e = .returned v ∧ post v w'')
  | _ => False
def relAt (P : Program) (o : Oper) (a : Act) (w : World) (post : Value → World → Prop) : Prop := relUpon P post ((execOp a.eval o).run P w)
def pureUpon (w : World) (v : Value) : Result Next → Prop
  | .ok (.value u) w' => w' = w ∧ u = v
  | _ => False
def pureAt (P : Program) (o : Oper) (a : Act) (w : World) (v : Value) : Prop := pureUpon w v ((execOp a.eval o).run P w)
abbrev Facts := List (Nat × (World → Prop))
/-- What such an operation leaves: memory has grown, and the value is of the kind told. -/
def RelPost (s : RelSpec) (w : World) (v : Value) (w' : World) : Prop := Below w.heap.size w w' ∧ ∃ x, v = s.val x ∧ s.fact x w'
theorem RelPost.mk {s : RelSpec} {w w' : World} {v : Value} (hb : Below w.heap.size w w') (x : s.α) (hv : v = s.val x) (hf : s.fact x w') : RelPost s w v w' := ⟨hb, x, hv, hf⟩
/-- Of what is known, what k's ancestors have left. -/
def Knows (deps : Nat → List Nat) (Γ : Facts) (k : Nat) (w : World) : Prop := ∀ g ∈ Γ, (deps k).contains g.1 = true → g.2 w

section
variable (P : Program) (ops : Array Oper) (W : World) (deps : Nat → List Nat) (late : Nat → Bool) (specs : Nat → Option RelSpec) (L : Facts → Act → Prop)
def RelC (Γ : Facts) (k : Nat) (o : Oper) (a : Act) (s : RelSpec) : Prop :=
  ∀ w, Gr W w → Knows deps Γ k w → relAt P o a w (RelPost s w)
/-- A late one may come up behind stores of the tail: it yields in whatever world. -/
def PureC (Γ : Facts) (k : Nat) (o : Oper) (a : Act) (v : Value) : Prop := ∀ w, (late k = false → Gr W w ∧ Knows deps Γ k w) → pureAt P o a w v
/-- The walk over the operations of the numbers js. -/
def wpTy : List Nat → Facts → Act → Prop
  | [], Γ, a => L Γ a
  | k :: js, Γ, a => ∃ o, ops[k]? = some o ∧
      ((Region.wanted o (yielded ops a.tmps) = true ∧ ∃ s, specs k = some s ∧ late k = false ∧ RelC P W deps Γ k o a s ∧ ∀ x, wpTy js ((k, s.fact x) :: Γ) (a.put o.dst (s.val x))) ∨
       (Region.wanted o (yielded ops a.tmps) = true ∧ specs k = none ∧ ∃ v, PureC P W deps late Γ k o a v ∧ wpTy js Γ (a.put o.dst v)) ∨
       (Region.wanted o (yielded ops a.tmps) = false ∧ wpTy js Γ (a.put o.dst undef)))
end

section
variable {P : Program} {ops : Array Oper} {W : World} {deps : Nat → List Nat} {late : Nat → Bool} {specs : Nat → Option RelSpec} {L : Facts → Act → Prop}

theorem Knows.sub {Γ Γ' : Facts} {k : Nat} {w : World} (h : Knows deps Γ' k w) (hs : ∀ g ∈ Γ, g ∈ Γ') : Knows deps Γ k w := fun g hg hd => h g (hs g hg) hd
theorem wpTy_sub (hL : ∀ Γ Γ' a, (∀ g ∈ Γ, g ∈ Γ') → L Γ a → L Γ' a) : ∀ (js : List Nat) (Γ Γ' : Facts) (a : Act), (∀ g ∈ Γ, g ∈ Γ') → wpTy P ops W deps late specs L js Γ a → wpTy P ops W deps late specs L js Γ' a
  | [], Γ, Γ', a, hs, h => hL Γ Γ' a hs h
  | k :: js, Γ, Γ', a, hs, h => by
    obtain ⟨o, ho, h⟩ := h
    refine ⟨o, ho, ?_⟩
    rcases h with ⟨hw, s, e, el, hc, hx⟩ | ⟨hw, e, v, hc, hx⟩ | ⟨hw, hx⟩
    · refine .inl ⟨hw, s, e, el, fun w hg hk => hc w hg (hk.sub hs), fun x => wpTy_sub hL js _ _ _ (fun g hg => ?_) (hx x)⟩
      rcases List.mem_cons.1 hg with rfl | hg
      · exact List.mem_cons_self
      · exact List.mem_cons_of_mem _ (hs g hg)
    · exact .inr (.inl ⟨hw, e, v, fun w hk => hc w (fun hl => ⟨(hk hl).1, (hk hl).2.sub hs⟩), wpTy_sub hL js _ _ _ hs hx⟩)
    · exact .inr (.inr ⟨hw, wpTy_sub hL js _ _ _ hs hx⟩)

theorem relAt_put {oj oi : Oper} {a : Act} {w : World} {u : Value} {post : Value → World → Prop} (hsj : ∀ cs b, oj.op ≠ .select cs b) (h1 : ∀ d, oi.dst = some d → d ∉ oj.looksAt ops) :
    relAt P oj (a.put oi.dst u) w post ↔ relAt P oj a w post := by unfold relAt; rw [execOp_put oj hsj a oi.dst u h1]
theorem pureAt_put {oj oi : Oper} {a : Act} {w : World} {u v : Value} (hsj : ∀ cs b, oj.op ≠ .select cs b) (h1 : ∀ d, oi.dst = some d → d ∉ oj.looksAt ops) :
    pureAt P oj (a.put oi.dst u) w v ↔ pureAt P oj a w v := by unfold pureAt; rw [execOp_put oj hsj a oi.dst u h1]
theorem pureAt_one {o : Oper} {a : Act} {w : World} {u v : Value} (h : pureAt P o a w u) (h' : pureAt P o a w v) : u = v := by
  unfold pureAt at h h'
  generalize (execOp a.eval o).run P w = r at h h'
  cases r with
  | ok n w' =>
    cases n <;> simp only [pureUpon] at h h'
    exact h.2.symm.trans h'.2
  | halt x w' => simp only [pureUpon] at h

/-- One step: operation j, with what follows behind K. -/
def StepOK (P : Program) (ops : Array Oper) (specs : Nat → Option RelSpec) (j : Nat) (o : Oper) (Γ : Facts) (a : Act) (w : World) (K : Facts → Act → Prop) : Prop :=
  (Region.wanted o (yielded ops a.tmps) = true ∧ ∃ s, specs j = some s ∧ relAt P o a w (RelPost s w) ∧ ∀ x, K ((j, s.fact x) :: Γ) (a.put o.dst (s.val x))) ∨
  (Region.wanted o (yielded ops a.tmps) = true ∧ specs j = none ∧ ∃ v, pureAt P o a w v ∧ K Γ (a.put o.dst v)) ∨
  (Region.wanted o (yielded ops a.tmps) = false ∧ K Γ (a.put o.dst undef))

theorem wpTy_pull (hL : ∀ Γ Γ' a, (∀ g ∈ Γ, g ∈ Γ') → L Γ a → L Γ' a) (hsel : ∀ (j : Nat) (o : Oper) cs b, ops[j]? = some o → o.op ≠ .select cs b) {j : Nat} {oj : Oper} (hj : ops[j]? = some oj) {w : World} (hgr : Gr W w) :
    ∀ (pre post : List Nat) (Γ : Facts) (a : Act), (∀ i ∈ pre, ∀ oi, ops[i]? = some oi → oi.apart ops oj = true) → (∀ i ∈ pre, (deps j).contains i = false) → Knows deps Γ j w →
      wpTy P ops W deps late specs L (pre ++ j :: post) Γ a → StepOK P ops specs j oj Γ a w (fun Γ' a' => wpTy P ops W deps late specs L (pre ++ post) Γ' a')
  | [], post, Γ, a, _, _, hk, h => by
    obtain ⟨o, ho, h⟩ := h
    obtain rfl : o = oj := Option.some.inj (ho.symm.trans hj)
    rcases h with ⟨hw, s, e, _, hc, hx⟩ | ⟨hw, e, v, hc, hx⟩ | ⟨hw, hx⟩
    · exact .inl ⟨hw, s, e, hc w hgr hk, hx⟩
    · exact .inr (.inl ⟨hw, e, v, hc w (fun _ => ⟨hgr, hk⟩), hx⟩)
    · exact .inr (.inr ⟨hw, hx⟩)
  | i :: pre, post, Γ, a, hap, hnd, hk, h => by
    obtain ⟨oi, hi, h⟩ := h
    obtain ⟨h1, h2, h3⟩ := Oper.apart_spec (hap i (by simp) oi hi)
    have hsj := fun cs b => hsel j oj cs b hj
    have hsi := fun cs b => hsel i oi cs b hi
    have wj : ∀ u, Region.wanted oj (yielded ops (a.put oi.dst u).tmps) = Region.wanted oj (yielded ops a.tmps) := fun u => wanted_put oj a oi.dst u h1
    have wi : ∀ u, Region.wanted oi (yielded ops (a.put oj.dst u).tmps) = Region.wanted oi (yielded ops a.tmps) := fun u => wanted_put oi a oj.dst u h3
    have comm : ∀ u v, (a.put oi.dst u).put oj.dst v = (a.put oj.dst v).put oi.dst u := fun u v => Act.put_comm a u v h2
    have IH := fun (Γ' : Facts) (a' : Act) (hk' : Knows deps Γ' j w) => wpTy_pull hL hsel hj hgr pre post Γ' a' (fun i' hi' => hap i' (by simp [hi'])) (fun i' hi' => hnd i' (by simp [hi'])) hk'
    have sub1 : ∀ (g0 g1 : Nat × (World → Prop)), ∀ g ∈ g0 :: g1 :: Γ, g ∈ g1 :: g0 :: Γ := fun g0 g1 g hg => by
      simp only [List.mem_cons] at hg ⊢
      rcases hg with h | h | h
      · exact .inr (.inl h)
      · exact .inl h
      · exact .inr (.inr h)
    have subc : ∀ (g0 : Nat × (World → Prop)), ∀ g ∈ Γ, g ∈ g0 :: Γ := fun g0 g hg => List.mem_cons_of_mem _ hg
    rcases h with ⟨hw, s, e, el, hc, hx⟩ | ⟨hw, e, v, hc, hx⟩ | ⟨hw, hx⟩
    · have kk : ∀ x, Knows deps ((i, s.fact x) :: Γ) j w := fun x g hg hd => by
        rcases List.mem_cons.1 hg with rfl | hg
        · rw [hnd i (by simp)] at hd; cases hd
        · exact hk g hg hd
      have Hx := fun x => IH _ _ (kk x) (hx x)
      have H0 := Hx s.x0
      -- the step of i, in a frame in which j has been done
      have back : ∀ (Γ' : Facts) (u : Value), (∀ g ∈ Γ, g ∈ Γ') → (∀ x, wpTy P ops W deps late specs L (pre ++ post) ((i, s.fact x) :: Γ') ((a.put oj.dst u).put oi.dst (s.val x))) →
          wpTy P ops W deps late specs L (i :: (pre ++ post)) Γ' (a.put oj.dst u) := fun Γ' u hs hh =>
        ⟨oi, hi, .inl ⟨by rw [wi]; exact hw, s, e, el, fun w' hg' hk' => (relAt_put hsi h3).2 (hc w' hg' (hk'.sub hs)), hh⟩⟩
      rcases H0 with ⟨hwj, t, et, hct, _⟩ | ⟨hwj, et, v0, hc0, _⟩ | ⟨hwj, _⟩
      · refine .inl ⟨by rw [← wj]; exact hwj, t, et, (relAt_put hsj h1).1 hct, fun y => back _ _ (subc _) fun x => ?_⟩
        rcases Hx x with ⟨_, t', et', _, hy⟩ | ⟨_, et', _⟩ | ⟨hwj', _⟩
        · obtain rfl : t' = t := Option.some.inj (et'.symm.trans et)
          have := hy y
          rw [comm] at this
          exact wpTy_sub hL _ _ _ _ (sub1 _ _) this
        · rw [et] at et'; cases et'
        · rw [wj] at hwj hwj'; rw [hwj] at hwj'; cases hwj'
      · refine .inr (.inl ⟨by rw [← wj]; exact hwj, et, v0, (pureAt_put hsj h1).1 hc0, back _ _ (fun _ h => h) fun x => ?_⟩)
        rcases Hx x with ⟨_, t', et', _, hy⟩ | ⟨_, _, v', hc', hy⟩ | ⟨hwj', _⟩
        · rw [et] at et'; cases et'
        · obtain rfl : v' = v0 := pureAt_one ((pureAt_put hsj h1).1 hc') ((pureAt_put hsj h1).1 hc0)
          rw [comm] at hy
          exact hy
        · rw [wj] at hwj hwj'; rw [hwj] at hwj'; cases hwj'
      · refine .inr (.inr ⟨by rw [← wj]; exact hwj, back _ _ (fun _ h => h) fun x => ?_⟩)
        rcases Hx x with ⟨hwj', _⟩ | ⟨hwj', _⟩ | ⟨_, hy⟩
        · rw [wj] at hwj hwj'; rw [hwj] at hwj'; cases hwj'
        · rw [wj] at hwj hwj'; rw [hwj] at hwj'; cases hwj'
        · rw [comm] at hy; exact hy
    · have back : ∀ (Γ' : Facts) (u : Value), (∀ g ∈ Γ, g ∈ Γ') → wpTy P ops W deps late specs L (pre ++ post) Γ' ((a.put oj.dst u).put oi.dst v) →
          wpTy P ops W deps late specs L (i :: (pre ++ post)) Γ' (a.put oj.dst u) := fun Γ' u hs hh =>
        ⟨oi, hi, .inr (.inl ⟨by rw [wi]; exact hw, e, v, fun w' hk' => (pureAt_put hsi h3).2 (hc w' (fun hl => ⟨(hk' hl).1, (hk' hl).2.sub hs⟩)), hh⟩)⟩
      rcases IH _ _ hk hx with ⟨hwj, t, et, hct, hy⟩ | ⟨hwj, et, v0, hc0, hy⟩ | ⟨hwj, hy⟩
      · exact .inl ⟨by rw [← wj]; exact hwj, t, et, (relAt_put hsj h1).1 hct, fun y => back _ _ (subc _) (by have := hy y; rw [comm] at this; exact this)⟩
      · exact .inr (.inl ⟨by rw [← wj]; exact hwj, et, v0, (pureAt_put hsj h1).1 hc0, back _ _ (fun _ h => h) (by rw [comm] at hy; exact hy)⟩)
      · exact .inr (.inr ⟨by rw [← wj]; exact hwj, back _ _ (fun _ h => h) (by rw [comm] at hy; exact hy)⟩)
    · have back : ∀ (Γ' : Facts) (u : Value), wpTy P ops W deps late specs L (pre ++ post) Γ' ((a.put oj.dst u).put oi.dst undef) →
          wpTy P ops W deps late specs L (i :: (pre ++ post)) Γ' (a.put oj.dst u) := fun Γ' u hh => ⟨oi, hi, .inr (.inr ⟨by rw [wi]; exact hw, hh⟩)⟩
      rcases IH _ _ hk hx with ⟨hwj, t, et, hct, hy⟩ | ⟨hwj, et, v0, hc0, hy⟩ | ⟨hwj, hy⟩
      · exact .inl ⟨by rw [← wj]; exact hwj, t, et, (relAt_put hsj h1).1 hct, fun y => back _ _ (by have := hy y; rw [comm] at this; exact this)⟩
      · exact .inr (.inl ⟨by rw [← wj]; exact hwj, et, v0, (pureAt_put hsj h1).1 hc0, back _ _ (by rw [comm] at hy; exact hy)⟩)
      · exact .inr (.inr ⟨by rw [← wj]; exact hwj, back _ _ (by rw [comm] at hy; exact hy)⟩)

/-- The step, carried out. -/
theorem StepOK.wpOp {Q' : Exit → Act → World → Prop} {j : Nat} {o : Oper} {Γ : Facts} {a : Act} {w : World} {K : Facts → Act → Prop} (hj : ops[j]? = some o) (hg : Gr W w) (hΓ : ∀ g ∈ Γ, g.2 w) (hst : ∀ g ∈ Γ, ∀ w w', g.2 w → Below w.heap.size w w' → g.2 w')
    (h : StepOK P ops specs j o Γ a w K) {R : Act → World → Prop}
    (hR : ∀ Γ' a' w', Gr W w' → (∀ g ∈ Γ', g.2 w') → (∀ g ∈ Γ', ∀ w w', g.2 w → Below w.heap.size w w' → g.2 w') → K Γ' a' → R a' w') : Go.wpOp P ops Q' j R a w := by
  unfold Go.wpOp
  simp only [hj]
  rcases h with ⟨hw, s, _, hc, hx⟩ | ⟨hw, _, v, hc, hx⟩ | ⟨hw, hx⟩
  · rw [if_pos hw]
    refine .inl ?_
    have fin : ∀ v w', (Below w.heap.size w w' ∧ ∃ x, v = s.val x ∧ s.fact x w') → R (a.put o.dst v) w' := by
      rintro v w' ⟨hb, x, rfl, hf⟩
      refine hR _ _ _ (hg.next hb) (fun g hgm => ?_) (fun g hgm => ?_) (hx x)
      · rcases List.mem_cons.1 hgm with rfl | hgm
        · exact hf
        · exact hst g hgm w w' (hΓ g hgm) hb
      · rcases List.mem_cons.1 hgm with rfl | hgm
        · exact s.stable x
        · exact hst g hgm
    unfold relAt at hc
    unfold Oper.wp
    generalize (execOp a.eval o).run P w = r at *
    cases r with
    | ok n w' =>
      cases n <;> simp only [relUpon] at hc <;> simp only [Oper.upon]
      case value u => exact fin _ _ hc
      case enter f args =>
        refine hc.mono fun e w'' he => ?_
        obtain ⟨v, rfl, hp⟩ := he
        exact fin _ _ hp
    | halt x w' => simp only [relUpon] at hc
  · rw [if_pos hw]
    refine .inl ?_
    unfold pureAt at hc
    unfold Oper.wp
    generalize (execOp a.eval o).run P w = r at *
    cases r with
    | ok n w' =>
      cases n <;> simp only [pureUpon] at hc <;> simp only [Oper.upon]
      case value u =>
        obtain ⟨rfl, rfl⟩ := hc
        exact hR _ _ _ hg hΓ hst hx
    | halt x w' => simp only [pureUpon] at hc
  · rw [if_neg (by rw [hw]; decide)]
    exact hR _ _ _ hg hΓ hst hx

/-- The Bools over the region. -/
def tyApartB (ops : Array Oper) (n : Nat) : Bool :=
  (List.range n).all fun i => (List.range n).all fun j => decide (j ≤ i) || Region.waitsFor .any ops j i || (match ops[i]?, ops[j]? with | some oi, some oj => oi.apart ops oj | _, _ => true)
def tyDepsB (ops : Array Oper) (deps : Nat → List Nat) (n : Nat) : Bool :=
  (List.range n).all fun k => (deps k).all fun i => decide (i < n) && (Region.waitsFor .any ops k i || (List.range k).any fun d => Region.waitsFor .any ops k d && (deps d).contains i)
def tySinkB (late : Nat → Bool) (ops : Array Oper) (n : Nat) : Bool :=
  (List.range n).all fun i => late i || (List.range (n + 1)).any fun j => decide (i < j) && (!late j || decide (j = n)) && Region.waitsFor .any ops j i
def tyLateB (late : Nat → Bool) (ops : Array Oper) (n : Nat) : Bool :=
  (List.range n).all fun i => !late i || (List.range ops.size).all fun j => decide (j = i) || Region.waitsFor .any ops j i || Region.waitsFor .any ops i j || (match ops[i]?, ops[j]? with | some oi, some oj => oi.apart ops oj | _, _ => true)
def tyForeB (ops : Array Oper) (n : Nat) : Bool := (List.range n).all fun k => match ops[k]? with | some o => o.after.all fun e => !Region.binds .any e || decide (e.on < k) | none => false
def tyB (ops : Array Oper) (deps : Nat → List Nat) (late : Nat → Bool) (n : Nat) : Bool :=
  Region.noSelect ops && decide (n < ops.size) && tySinkB late ops n && tyLateB late ops n && Region.chainB .any ops n && tyApartB ops n && tyDepsB ops deps n && tyForeB ops n &&
    Region.seqB .any ops (ops.size - n) n (Array.replicate n true ++ Array.replicate (ops.size - n) false)

theorem tail_waits2 {n : Nat} {listed : Array Bool} (hs : tySinkB late ops n = true) (hc : Region.chainB .any ops n = true) (hn : n < ops.size) (inv : HeadInv .any ops n listed) :
    ∀ (d i : Nat), n - i = d → i < n → late i = false → listed.getD i true = false → ∀ t, n ≤ t → t ∉ Region.ready .any ops listed := by
  intro d
  induction d using Nat.strongRecOn with
  | _ d ih =>
    intro i hd hi hlate hun t ht hr
    obtain ⟨_, ot, hot, hall⟩ := mem_ready.1 hr
    have htlt : t < ops.size := (Array.getElem?_eq_some_iff.1 hot).1
    by_cases htn : t = n
    · subst htn
      have h1 := List.all_eq_true.1 hs i (List.mem_range.2 hi)
      rw [hlate, Bool.false_or] at h1
      obtain ⟨j, hj, hj2⟩ := List.any_eq_true.1 h1
      simp only [Bool.and_eq_true, Bool.or_eq_true, decide_eq_true_eq, Bool.not_eq_true'] at hj2
      obtain ⟨oj, hoj, e, he, hb, hon⟩ := Region.waitsFor_spec hj2.2
      have hjle : j ≤ t := by have := List.mem_range.1 hj; omega
      by_cases hjt : j = t
      · subst hjt
        have : oj = ot := Option.some.inj (hoj.symm.trans hot)
        subst this
        have h2 := hall e he hb
        rw [hon, getD_both hun] at h2
        cases h2
      · cases hl : listed.getD j false with
        | true =>
          have h2 := inv.closed j oj hoj hl e he hb
          rw [hon, getD_both hun] at h2
          cases h2
        | false =>
          have hjs : j < listed.size := by rw [inv.size]; omega
          exact ih (t - j) (by omega) j rfl (by omega) (by rcases hj2.1.2 with h | h; exact h; exact absurd h hjt) (getD_in hjs hl) t (Nat.le_refl _) hr
    · have h1 := List.all_eq_true.1 hc t (List.mem_range.2 htlt)
      simp only [Bool.or_eq_true, decide_eq_true_eq] at h1
      rcases h1 with h1 | h1
      · omega
      · obtain ⟨o', ho', e, he, hb, hon⟩ := Region.waitsFor_spec h1
        have : o' = ot := Option.some.inj (ho'.symm.trans hot)
        subst this
        have h2 := hall e he hb
        rw [hon, getD_both (inv.tail (t - 1) (by omega) (by omega))] at h2
        cases h2

theorem waits_listed {n : Nat} {listed : Array Bool} (inv : HeadInv .any ops n listed) {k d : Nat} (h : Region.waitsFor .any ops k d = true) (hk : listed.getD k false = true) : listed.getD d false = true := by
  obtain ⟨ok, hok, e, he, hb, rfl⟩ := Region.waitsFor_spec h
  exact inv.closed k ok hok hk e he hb
theorem deps_listed {n : Nat} {listed : Array Bool} (inv : HeadInv .any ops n listed) (hd : tyDepsB ops deps n = true) : ∀ k, k < n → listed.getD k false = true → ∀ i, (deps k).contains i = true → listed.getD i false = true := by
  intro k
  induction k using Nat.strongRecOn with
  | _ k ih =>
    intro hk hl i hi
    have h1 := List.all_eq_true.1 hd k (List.mem_range.2 hk)
    have h2 := List.all_eq_true.1 h1 i (by simpa using hi)
    simp only [Bool.and_eq_true, Bool.or_eq_true, decide_eq_true_eq] at h2
    rcases h2.2 with h | h
    · exact waits_listed inv h hl
    · obtain ⟨d, hdm, hd2⟩ := List.any_eq_true.1 h
      simp only [Bool.and_eq_true] at hd2
      have hdk := List.mem_range.1 hdm
      exact ih d hdk (by omega) (waits_listed inv hd2.1 hl) i hd2.2
theorem deps_ready {n : Nat} {listed : Array Bool} (inv : HeadInv .any ops n listed) (hd : tyDepsB ops deps n = true) {k : Nat} (hk : k < n) (hr : k ∈ Region.ready .any ops listed) (i : Nat) (hi : (deps k).contains i = true) : listed.getD i false = true := by
  obtain ⟨_, ok, hok, hall⟩ := mem_ready.1 hr
  have dir : ∀ d, Region.waitsFor .any ops k d = true → listed.getD d false = true := fun d h => by
    obtain ⟨o', ho', e, he, hb, rfl⟩ := Region.waitsFor_spec h
    obtain rfl : o' = ok := Option.some.inj (ho'.symm.trans hok)
    exact hall e he hb
  have h1 := List.all_eq_true.1 hd k (List.mem_range.2 hk)
  have h2 := List.all_eq_true.1 h1 i (by simpa using hi)
  simp only [Bool.and_eq_true, Bool.or_eq_true, decide_eq_true_eq] at h2
  rcases h2.2 with h | h
  · exact dir i h
  · obtain ⟨d, hdm, hd2⟩ := List.any_eq_true.1 h
    simp only [Bool.and_eq_true] at hd2
    have hdk := List.mem_range.1 hdm
    exact deps_listed inv hd d (by omega) (dir d hd2.1) i hd2.2

theorem ty_sound {Q' : Exit → Act → World → Prop} {n g : Nat} (hL : ∀ Γ Γ' a, (∀ g ∈ Γ, g ∈ Γ') → L Γ a → L Γ' a) (hsel : ∀ (j : Nat) (o : Oper) cs b, ops[j]? = some o → o.op ≠ .select cs b)
    (hs : tySinkB late ops n = true) (hlt : tyLateB late ops n = true) (hQ : ∀ d v c a w, Q' (.panic c) (a.put d v) w → Q' (.panic c) a w) (hc : Region.chainB .any ops n = true) (hn : n < ops.size) (hap : tyApartB ops n = true) (hd : tyDepsB ops deps n = true) (hfo : tyForeB ops n = true)
    (hend : ∀ listed Γ a w, HeadInv .any ops n listed → (∀ i, i < n → listed.getD i true = true) → Gr W w → (∀ g ∈ Γ, g.2 w) → L Γ a → wpAny P .any ops Q' g listed a w) :
    ∀ (m : Nat) (js : List Nat) (listed : Array Bool) (Γ : Facts) (a : Act) (w : World), js.length = m → js.Pairwise (· < ·) → (∀ i, i ∈ js ↔ i < n ∧ listed.getD i true = false) → HeadInv .any ops n listed → Gr W w → (∀ g ∈ Γ, g.2 w) →
      (∀ g ∈ Γ, ∀ w w', g.2 w → Below w.heap.size w w' → g.2 w') → wpTy P ops W deps late specs L js Γ a → wpAny P .any ops Q' (m + g) listed a w
  | 0, js, listed, Γ, a, w, hlen, _, hjs, inv, hg, hΓ, _, h => by
    have : js = [] := List.eq_nil_of_length_eq_zero hlen
    subst this
    rw [Nat.zero_add]
    refine hend listed Γ a w inv (fun i hi => ?_) hg hΓ h
    have := hjs i
    cases hl : listed.getD i true with
    | true => rfl
    | false => exact absurd (this.2 ⟨hi, hl⟩) (by simp)
  | m + 1, js, listed, Γ, a, w, hlen, hpw, hjs, inv, hg, hΓ, hst, h => by
    rw [show m + 1 + g = (m + g) + 1 by omega]
    -- the first of the list is ready
    have first : ∀ k js', js = k :: js' → k ∈ Region.ready .any ops listed := fun k js' e => by
      subst e
      have hk := (hjs k).1 (by simp)
      have hks : k < ops.size := by omega
      have h1 := List.all_eq_true.1 hfo k (List.mem_range.2 hk.1)
      rw [Array.getElem?_eq_getElem hks] at h1
      simp only [Array.all_eq_true_iff_forall_mem, Bool.or_eq_true, Bool.not_eq_true', decide_eq_true_eq] at h1
      exact mem_ready.2 ⟨hk.2, ops[k], Array.getElem?_eq_getElem hks, fun e he hb => by
          rcases h1 e he with h2 | h2
          · rw [hb] at h2; cases h2
          · cases hl : listed.getD e.on false with
            | true => rfl
            | false =>
              have hun : listed.getD e.on true = false := getD_in (by rw [inv.size]; omega) hl
              have hm := (hjs e.on).2 ⟨by omega, hun⟩
              rcases List.mem_cons.1 hm with h3 | h3
              · omega
              · have := (List.pairwise_cons.1 hpw).1 _ h3; omega⟩
    by_cases hall : ∀ i ∈ js, late i = true
    · -- late ones alone are left: the first is taken
      match js, hlen, hpw, hjs, h, first, hall with
      | k :: js', hlen, hpw, hjs, h, first, hall =>
        have hk := (hjs k).1 (by simp)
        have hr := first k js' rfl
        have hlk := hall k (by simp)
        obtain ⟨ok, hok, h⟩ := h
        have hfree : ∀ j oj, ops[j]? = some oj → j ≠ k → listed.getD j true = false → (∀ e ∈ oj.after, Region.binds .any e = true → e.on ≠ k) → ok.apart ops oj = true := fun j oj hoj hne hun hno => by
          have h1 := List.all_eq_true.1 hlt k (List.mem_range.2 hk.1)
          rw [hlk] at h1
          simp only [Bool.not_true, Bool.false_or] at h1
          have h2 := List.all_eq_true.1 h1 j (List.mem_range.2 (Array.getElem?_eq_some_iff.1 hoj).1)
          simp only [hok, hoj, Bool.or_eq_true, decide_eq_true_eq] at h2
          rcases h2 with ((h2 | h2) | h2) | h2
          · exact absurd h2 hne
          · obtain ⟨o', ho', e, he, hb, hon⟩ := Region.waitsFor_spec h2
            obtain rfl : o' = oj := Option.some.inj (ho'.symm.trans hoj)
            exact absurd hon (hno e he hb)
          · obtain ⟨o', ho', e, he, hb, hon⟩ := Region.waitsFor_spec h2
            obtain ⟨_, o2, ho2, hall2⟩ := mem_ready.1 hr
            obtain rfl : o' = o2 := Option.some.inj (ho'.symm.trans ho2)
            have := hall2 e he hb
            rw [hon, getD_both hun] at this
            cases this
          · exact h2
        have next : ∀ v, wpTy P ops W deps late specs L js' Γ (a.put ok.dst v) → wpAny P .any ops Q' (m + g) (listed.setIfInBounds k true) (a.put ok.dst v) w := fun v hv => by
          refine ty_sound hL hsel hs hlt hQ hc hn hap hd hfo hend m js' _ Γ _ w (by simpa using hlen) (List.pairwise_cons.1 hpw).2 (fun i => ?_) (inv.set hr hk.1) hg hΓ hst hv
          have hnd : k ∉ js' := fun hm => absurd ((List.pairwise_cons.1 hpw).1 k hm) (Nat.lt_irrefl _)
          by_cases hij : k = i
          · subst hij
            refine ⟨fun hm => absurd hm hnd, fun hm => ?_⟩
            have hsz : k < listed.size := by rw [inv.size]; omega
            simp [hsz] at hm
          · rw [getD_set_ne true hij, ← hjs i, List.mem_cons]
            exact ⟨fun hm => .inr hm, fun hm => hm.resolve_left (fun e => hij e.symm)⟩
        rcases h with ⟨_, s, _, el, _⟩ | ⟨hw, _, v, hc', hx⟩ | ⟨hw, hx⟩
        · rw [el] at hlk; cases hlk
        · refine wpAny_first hok hsel (fun c a w h => hQ _ _ c a w h) _ _ _ _ hfree hr (.inl ⟨hw, fun w' => ?_⟩) (next v hx)
          have := hc' w' (fun h => by rw [hlk] at h; cases h)
          unfold pureAt at this
          generalize (execOp a.eval ok).run P w' = r at this
          cases r with
          | ok n w'' =>
            cases n <;> simp only [pureUpon] at this
            obtain ⟨rfl, rfl⟩ := this
            rfl
          | halt x w'' => simp only [pureUpon] at this
        · exact wpAny_first hok hsel (fun c a w h => hQ _ _ c a w h) _ _ _ _ hfree hr (.inr ⟨hw, rfl⟩) (next undef hx)
    have hne : ∃ i, i ∈ js ∧ late i = false := by
      refine Classical.byContradiction fun hno => hall fun i hi => ?_
      cases hl : late i with
      | true => rfl
      | false => exact absurd ⟨i, hi, hl⟩ hno
    obtain ⟨i0, hi0, hl0⟩ := hne
    have hi0' := (hjs i0).1 hi0
    refine ⟨fun h0 => ?_, fun j hj => ?_⟩
    · exfalso
      match js, hlen, first with
      | k :: js', _, first =>
        have hr := first k js' rfl
        rw [h0] at hr
        cases hr
    · have hjn : j < n := by
        rcases Nat.lt_or_ge j n with h' | h'
        · exact h'
        · exact absurd hj (tail_waits2 hs hc hn inv _ i0 rfl hi0'.1 hl0 hi0'.2 j h')
      obtain ⟨hjun, oj, hoj, hall⟩ := mem_ready.1 hj
      have hmem : j ∈ js := (hjs j).2 ⟨hjn, hjun⟩
      obtain ⟨pre, post, rfl⟩ := List.append_of_mem hmem
      have hltj : ∀ i ∈ pre, i < j := fun i hi => (List.pairwise_append.1 hpw).2.2 i hi j (by simp)
      have hpre : ∀ i ∈ pre, i < n ∧ listed.getD i true = false := fun i hi => (hjs i).1 (by simp [hi])
      have hstep := wpTy_pull hL hsel hoj hg pre post Γ a (fun i hi oi hoi => ?_) (fun i hi => ?_) (fun g hgm _ => hΓ g hgm) h
      · refine hstep.wpOp hoj hg hΓ hst fun Γ' a' w' hg' hΓ' hst' hK => ?_
        refine ty_sound hL hsel hs hlt hQ hc hn hap hd hfo hend m (pre ++ post) _ Γ' a' w' (by simp at hlen ⊢; omega) ?_ (fun i => ?_) (inv.set hj hjn) hg' hΓ' hst' hK
        · have := List.pairwise_append.1 hpw
          exact List.pairwise_append.2 ⟨this.1, (List.pairwise_cons.1 this.2.1).2, fun x hx y hy => this.2.2 x hx y (by simp [hy])⟩
        · have hnd : j ∉ pre ++ post := by
            have hp := List.pairwise_append.1 hpw
            intro hm
            rcases List.mem_append.1 hm with hm | hm
            · exact absurd (hltj j hm) (Nat.lt_irrefl _)
            · exact absurd ((List.pairwise_cons.1 hp.2.1).1 j hm) (Nat.lt_irrefl _)
          by_cases hij : j = i
          · subst hij
            refine ⟨fun hm => absurd hm hnd, fun hm => ?_⟩
            have hsz : j < listed.size := by rw [inv.size]; omega
            simp [hsz] at hm
          · rw [getD_set_ne true hij, ← hjs i]
            simp only [List.mem_append, List.mem_cons]
            constructor
            · rintro (hm | hm)
              · exact .inl hm
              · exact .inr (.inr hm)
            · rintro (hm | hm | hm)
              · exact .inl hm
              · exact absurd hm.symm hij
              · exact .inr hm
      · have h1 := List.all_eq_true.1 hap i (List.mem_range.2 (hpre i hi).1)
        have h2 := List.all_eq_true.1 h1 j (List.mem_range.2 hjn)
        simp only [hoi, hoj, Bool.or_eq_true, decide_eq_true_eq] at h2
        rcases h2 with (h2 | h2) | h2
        · have := hltj i hi; omega
        · obtain ⟨o', ho', e, he, hb, rfl⟩ := Region.waitsFor_spec h2
          obtain rfl : o' = oj := Option.some.inj (ho'.symm.trans hoj)
          have := hall e he hb
          rw [getD_both (hpre _ hi).2] at this
          cases this
        · exact h2
      · cases hcn : (deps j).contains i with
        | false => rfl
        | true =>
          have := deps_ready inv hd hjn hj i hcn
          rw [getD_both (hpre i hi).2] at this
          cases this

theorem canon_listed {n : Nat} {listed : Array Bool} (inv : HeadInv .any ops n listed) (hn : n < ops.size) (h : ∀ i, i < n → listed.getD i true = true) : listed = Array.replicate n true ++ Array.replicate (ops.size - n) false := by
  apply Array.ext
  · simp [inv.size]; omega
  · intro i h1 h2
    rw [Array.getElem_append]
    split
    · rename_i hi
      have hi' : i < n := by simpa using hi
      have := h i hi'
      simp [h1] at this
      simp [this]
    · rename_i hi
      have hi' : n ≤ i := by simpa using hi
      have := inv.tail i hi' (by rw [← inv.size]; exact h1)
      simp [h1] at this
      simp [this]

/-- One walk of a region that draws. -/
theorem wp_region_typed {id : Nat} {Q : Exit → Act → World → Prop} {a : Act} {l : List Oper} (n : Nat) (deps : Nat → List Nat) (late : Nat → Bool) (specs : Nat → Option RelSpec) (hm : P.follows .mixedOrders = true) (hB : tyB l.toArray deps late n = true) (hQ : ∀ d v c a w, Q (.panic c) (a.put d v) w → Q (.panic c) a w)
    (h : wpTy P l.toArray W deps late specs (fun Γ a' => ∀ w', Gr W w' → (∀ g ∈ Γ, g.2 w') → wpList P l.toArray Q (l.drop n) a' w') (List.range n) [] a) : (Code.region id l.toArray true).wp P Q a W := by
  simp only [tyB, Bool.and_eq_true, decide_eq_true_eq] at hB
  obtain ⟨⟨⟨⟨⟨⟨⟨⟨hsel, hn⟩, hs⟩, hlt⟩, hc⟩, hap⟩, hd⟩, hfo⟩, hseq⟩ := hB
  have hdl : (l.drop n).length = l.toArray.size - n := by simp
  have inv0 : HeadInv .any l.toArray n (Array.replicate l.toArray.size false) :=
    ⟨by simp, fun j oj _ hl => (by rw [getD_replicate_false] at hl; cases hl), fun t _ ht => getD_in (by simpa using ht) (getD_replicate_false _ _)⟩
  refine wp_region_any hm ?_
  have := ty_sound (P := P) (W := W) (deps := deps) (late := late) (specs := specs) (Q' := Q) (g := l.toArray.size - n) (L := fun Γ a' => ∀ w', Gr W w' → (∀ g ∈ Γ, g.2 w') → wpList P l.toArray Q (l.drop n) a' w')
    (fun Γ Γ' a' hs' hh w' hg hΓ => hh w' hg (fun g hgm => hΓ g (hs' g hgm))) (Region.noSelect_spec hsel) hs hlt hQ hc hn hap hd hfo
    (fun listed Γ a' w' inv hall hg hΓ hh => by
      have e := canon_listed inv hn hall
      have := wpAny_of_seq (md := .any) (Q' := Q) (l.drop n) n listed a' w' (fun j => by simp [List.getElem?_drop]) (by rw [hdl, e]; exact hseq) (hh w' hg hΓ)
      rwa [hdl] at this)
    n (List.range n) (Array.replicate l.toArray.size false) [] a { W with drawn := W.drawn + 1 } (by simp) List.pairwise_lt_range (fun i => by
      rw [List.mem_range]
      constructor
      · intro hi; exact ⟨hi, getD_in (by simp at hn ⊢; omega) (getD_replicate_false _ _)⟩
      · exact fun hh => hh.1) inv0 (Gr.start W) (fun g hgm => by cases hgm) (fun g hgm => by cases hgm) h
  rwa [show n + (l.toArray.size - n) = l.toArray.size by omega] at this
end

section
variable {P : Program} {W : World} {deps : Nat → List Nat} {late : Nat → Bool} {specs : Nat → Option RelSpec} {L : Facts → Act → Prop}
theorem ty_nil {ops : Array Oper} {Γ : Facts} {a : Act} (h : L Γ a) : wpTy P ops W deps late specs L [] Γ a := h
theorem ty_rel {l : List Oper} {k : Nat} {js : List Nat} {Γ : Facts} {a : Act} {o : Oper} (ho : l[k]? = some o) (hw : Region.wanted o (yielded l.toArray a.tmps) = true) (s : RelSpec) (hs : specs k = some s) (hl : late k = false)
    (hc : ∀ w, Gr W w → Knows deps Γ k w → relAt P o a w (RelPost s w)) (h : ∀ x, wpTy P l.toArray W deps late specs L js ((k, s.fact x) :: Γ) (a.put o.dst (s.val x))) :
    wpTy P l.toArray W deps late specs L (k :: js) Γ a := ⟨o, by simpa using ho, .inl ⟨hw, s, hs, hl, hc, h⟩⟩
theorem ty_pure {l : List Oper} {k : Nat} {js : List Nat} {Γ : Facts} {a : Act} {o : Oper} (ho : l[k]? = some o) (hw : Region.wanted o (yielded l.toArray a.tmps) = true) (hs : specs k = none) (hl : late k = false)
    (h : ∃ v, (∀ w, Gr W w → Knows deps Γ k w → pureAt P o a w v) ∧ wpTy P l.toArray W deps late specs L js Γ (a.put o.dst v)) : wpTy P l.toArray W deps late specs L (k :: js) Γ a := by
  obtain ⟨v, h1, h2⟩ := h
  exact ⟨o, by simpa using ho, .inr (.inl ⟨hw, hs, v, fun w hh => h1 w (hh hl).1 (hh hl).2, h2⟩)⟩
theorem ty_late {l : List Oper} {k : Nat} {js : List Nat} {Γ : Facts} {a : Act} {o : Oper} (ho : l[k]? = some o) (hw : Region.wanted o (yielded l.toArray a.tmps) = true) (hs : specs k = none)
    (h : ∃ v, (∀ w, pureAt P o a w v) ∧ wpTy P l.toArray W deps late specs L js Γ (a.put o.dst v)) : wpTy P l.toArray W deps late specs L (k :: js) Γ a := by
  obtain ⟨v, h1, h2⟩ := h
  exact ⟨o, by simpa using ho, .inr (.inl ⟨hw, hs, v, fun w _ => h1 w, h2⟩)⟩
theorem ty_skip {l : List Oper} {k : Nat} {js : List Nat} {Γ : Facts} {a : Act} {o : Oper} (ho : l[k]? = some o) (hw : Region.wanted o (yielded l.toArray a.tmps) = false) (h : wpTy P l.toArray W deps late specs L js Γ (a.put o.dst undef)) :
    wpTy P l.toArray W deps late specs L (k :: js) Γ a := ⟨o, by simpa using ho, .inr (.inr ⟨hw, h⟩)⟩
end
end Go.Proofs.Ytkblkdojmfgneaa
