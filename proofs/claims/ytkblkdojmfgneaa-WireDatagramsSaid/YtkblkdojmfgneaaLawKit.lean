/- From a walk that returns true and turns nothing that was there to the given statement: the part that is alike for all laws. -/
import Derived.Test.YtkblkdojmfgneaaBase
import Derived.ProofKit
import Derived.SizedLaws
import Derived.OpenShut
import Derived.SliceStrings
namespace Go.Proofs.Ytkblkdojmfgneaa
open Go.ChangeShapes Go.WideShapes Go.ChangeAt Go.RowKit

theorem own : ownKnob Try.prog.godebug = none := by kernel_rfl
theorem laidOut : laidOutB Try.prog = true := by kernel_rfl

theorem below_trodAll {H : Type} {enc : TypeId × Value → H} {W W' : World} (hb : Below W.heap.size W W') : ∀ {ts : List TypeId} {vs : List Value} {ds : List (DataW H)} {ps : List MemPlace},
    (∀ t ∈ ts, Try.prog.readableRec t = true ∧ t < Try.prog.types.size) → DataW.TrodAll enc Try.prog W 0 (fun _ => true) true ts vs ds ps → (∀ x ∈ ps, x.block < W.heap.size) →
    DataW.TrodAll enc Try.prog W' 0 (fun b => decide (b < W.heap.size)) true ts vs ds ps
  | [], vs, ds, ps, _, h, _ => by
    obtain ⟨rfl, rfl, rfl⟩ := trodAll_nil h
    exact trodAll_mk0
  | t :: ts, vs, ds, ps, hr, h, hlt => by
    obtain ⟨v, vs', d, ds', p, p', rfl, rfl, rfl, h0, h1⟩ := trodAll_cons h
    exact trodAll_cons_mk (Below.trod laidOut (hr t (by simp)).1 (hr t (by simp)).2 h0 hb (fun x hx => hlt x (by simp [hx])))
      (below_trodAll hb (fun t' ht' => hr t' (by simp [ht'])) h1 (fun x hx => hlt x (by simp [hx])))

theorem trodAll_length {H : Type} {enc : TypeId × Value → H} {P : Program} {W : World} {base : Nat} {sp : Nat → Bool} {held : Bool} : ∀ {ts : List TypeId} {vs : List Value} {ds : List (DataW H)} {ps : List MemPlace},
    DataW.TrodAll enc P W base sp held ts vs ds ps → ds.length = ts.length
  | [], vs, ds, ps, h => by obtain ⟨rfl, rfl, rfl⟩ := trodAll_nil h; rfl
  | t :: ts, vs, ds, ps, h => by
    obtain ⟨v, vs', d, ds', p, p', rfl, rfl, rfl, h0, h1⟩ := trodAll_cons h
    simp [trodAll_length h1]

set_option maxRecDepth 100000 in
/-- The row's step for a law. -/
theorem law_lift (F : FuncId) (fn : Func) (s : ChangeSpec) (Ts : List TypeId) (os : Os) (started : os.Started) (H : Type) (enc : TypeId × Value → H)
    (hfn : Try.prog.funcs[F]? = some fn) (hTs : fn.params.toList = Ts) (hres : fn.resultTypes = #[4]) (hu4 : Try.prog.underlying 4 = some .bool)
    (noInit : Try.prog.inits.idxOf? F = none) (hvars : s.vars = [])
    (wit : ∃ (w : World) (tape : Tape) (i : Input), w.os = os ∧ (w.forCall tape i).Shaped Try.checked.prog ∧ i.vars = [] ∧ Input.okWide Try.checked.prog (w.forCall tape i) .any w.heap.size F i ∧
      s.pre6 enc Try.checked.prog fn [] false (w.forCall tape i).memory i.args ∧ Assume.holds {} Try.checked.prog (lone (Frame.enter Try.checked.prog F i.args .normal) [] (w.forCall tape i)))
    (hspec : ∀ ds : List (DataW H), ds.length = Ts.length → (s.fn H ds).results = [.lit (.bool true)] ∧ (s.fn H ds).args = ds ∧ (s.fn H ds).vars = [])
    (hread : ∀ t ∈ Ts, Try.prog.readableRec t = true ∧ t < Try.prog.types.size)
    (walk : ∀ (W : World) (base : Nat) (args : Array Value) (ds : List (DataW H)) (p : List MemPlace), (∀ (j : Nat) t v, Ts[j]? = some t → args[j]? = some v → Value.okWide Try.prog W .any base t v) →
      DataW.TrodAll enc Try.prog W 0 (fun _ => true) true Ts args.toList ds p → (∀ x ∈ p, x.block < W.heap.size) → (DataW.weightsEach Try.prog Ts ds).all (· ≤ reachBytes) = true →
      Calls Try.prog F args W fun e W' => e = .returned (.bool true) ∧ Below W.heap.size W W') :
    ReturnsInHanded {} Try.checked os F .any (s.pre6 enc Try.prog fn [] false) (s.post enc Try.prog fn false true false false) := by
  refine returnsInHanded_of_change_sized (C := Try.checked) own started noInit hfn wit ?_
  intro W base args ds gs before hval0 hW _ hsz0 _
  have hval : ∀ (j : Nat) t v, Ts[j]? = some t → args[j]? = some v → Value.okWide Try.prog W .any base t v := fun j t v h1 h2 => hval0 j t v (by rw [← hTs, Array.getElem?_toList] at h1; exact h1) h2
  have hW' := hW
  obtain ⟨p, q, hA0, hV, rfl, _, _⟩ := hW
  have hA : DataW.TrodAll enc Try.prog W 0 (fun _ => true) true fn.params.toList args.toList ds p := hA0
  rw [hTs] at hA
  rw [hvars] at hV
  obtain ⟨rfl, rfl⟩ := trodVars_none hV
  have hlt : ∀ x ∈ p, x.block < W.heap.size := fun x hx => (by simpa using hW'.lt x (by simp [hx]))
  have hsz : (DataW.weightsEach Try.prog Ts ds).all (· ≤ reachBytes) = true := by
    have h := hsz0
    have hvt : s.plain.varTypes Try.checked.prog = [] := by simp [DataSpec.varTypes, ChangeSpec.plain, hvars]
    rw [hvt, List.append_nil, List.append_nil, hTs] at h
    exact h
  refine (walk W base args ds p hval hA hlt hsz).mono fun e W' ⟨he, hb⟩ => ?_
  obtain ⟨e1, e2, e3⟩ := hspec ds (trodAll_length hA)
  refine ⟨_, he, ds, [], p ++ [], [], p, [], hW', ?_, ?_, ?_, hb.frame _, fun h => by cases h⟩
  · rw [List.append_nil, e1, hres]
    exact trodAll_cons_mk (shut_bool hu4 _) trodAll_mk0
  · rw [List.append_nil, e2]
    have := below_trodAll hb hread hA hlt
    rw [← hTs] at this
    exact this
  · rw [List.append_nil, e3, hvars]; rfl

theorem exists_list {α : Type} [Inhabited α] (Q : Nat → α → Prop) : ∀ n, (∀ i, i < n → ∃ x, Q i x) → ∃ l : List α, l.length = n ∧ ∀ i, i < n → Q i (l.getD i default)
  | 0, _ => ⟨[], rfl, fun i hi => by omega⟩
  | n + 1, h => by
    obtain ⟨l, hl, hq⟩ := exists_list Q n (fun i hi => h i (by omega))
    obtain ⟨x, hx⟩ := h n (by omega)
    refine ⟨l ++ [x], by simp [hl], fun i hi => ?_⟩
    by_cases hin : i < n
    · have e : (l ++ [x]).getD i default = l.getD i default := by simp [List.getD, List.getElem?_append_left (by omega : i < l.length)]
      rw [e]; exact hq i hin
    · have : i = n := by omega
      subst this
      have e : (l ++ [x]).getD i default = x := by simp [List.getD, hl]
      rw [e]; exact hx

theorem addr_plain (b off k : Nat) : (⟨b, off, none⟩ : Addr).add k = ⟨b, off + k, none⟩ := by unfold Addr.add; split <;> simp_all

theorem weights_all_mem {H : Type} {P : Program} {e : TypeId} : ∀ {ds : List (DataW H)} {d : DataW H}, d ∈ ds → ∀ n ∈ d.weights P e, n ∈ DataW.weightsAll P e ds
  | a :: ds, d, hd, n, hn => by
    simp only [DataW.weightsAll, List.mem_append]
    rcases List.mem_cons.1 hd with rfl | hd
    · exact Or.inl hn
    · exact Or.inr (weights_all_mem hd n hn)
  | [], d, hd, _, _ => by cases hd

theorem str_reach {H : Type} {P : Program} {t : TypeId} {s : ByteArray} (h : ((DataW.lit (.string s.data.toList) : DataW H).weights P t).all (· ≤ reachBytes) = true) : s.size ≤ 140737488355328 := by
  have h2 : s.size ≤ reachBytes := of_decide_eq_true (List.all_eq_true.1 h s.size (by simp [DataW.weights]))
  simp only [reachBytes] at h2
  omega

/-- A slice that came in, element by element. -/
theorem open_elems {H : Type} {enc : TypeId × Value → H} {P : Program} {w : World} {t e : TypeId} {a0 : Option Addr} {len cap : Nat} {d : DataW H} {ps : List MemPlace} (ht : P.underlying t = some (.slice e)) (hsz : 0 < P.cellsOf e)
    (h : DataW.Trod enc P w 0 (fun _ => true) true t (.slice a0 len cap) d ps) (hlt : ∀ x ∈ ps, x.block < w.heap.size) (hw : (d.weights P t).all (· ≤ reachBytes) = true) :
    len * P.bytesOf e ≤ reachBytes ∧ ∃ b off, (0 < len → a0 = some ⟨b, off, none⟩ ∧ b < w.heap.size) ∧ ∀ i, i < len → ∃ (cs : List Value) (x : DataW H × List MemPlace) (n : Nat), cs.length = P.cellsOf e ∧
      (∀ j, j < P.cellsOf e → w.cell? ⟨b, off + i * P.cellsOf e + j, none⟩ = cs[j]?) ∧ DataW.trod enc P w 0 (fun _ => true) true n e cs = some x ∧ (x.1.weights P e).all (· ≤ reachBytes) = true := by
  obtain ⟨fuel, hf⟩ := h
  rcases DataW.trod_slice ht hf with ⟨hcs, hx⟩ | ⟨a, len', cap', elems, rest, n, _, hcs, hx, _, hl, hm, hlen, hel, hsp, _⟩
  · simp [Value.cells] at hcs
    obtain ⟨rfl, rfl, rfl⟩ := hcs
    exact ⟨by simp, 0, 0, fun h => absurd h (by omega), fun i hi => absurd hi (by omega)⟩
  · simp [Value.cells] at hcs
    obtain ⟨rfl, rfl, rfl⟩ := hcs
    simp only [Prod.mk.injEq] at hx
    obtain ⟨rfl, rfl⟩ := hx
    have hwm : ∀ m ∈ (DataW.slice (elems.map (·.1)) (rest.map (·.1))).weights P t, m ≤ reachBytes := fun m hm => by simpa using List.all_eq_true.1 hw m hm
    simp only [DataW.weights, ht, List.mem_cons, List.mem_append] at hwm
    have hb := hwm _ (Or.inl rfl)
    refine ⟨Nat.le_trans (Nat.mul_le_mul_right _ (by simp; omega)) hb, ?_⟩
    by_cases h0 : len = 0
    · exact ⟨0, 0, fun h => absurd h (by omega), fun i hi => absurd hi (by omega)⟩
    obtain ⟨b, off, spot⟩ := a
    have g0 := hel 0 (by omega)
    rw [List.getElem?_eq_getElem (by omega), Option.bind_eq_some_iff] at g0
    obtain ⟨cs0, hc0, _⟩ := g0
    obtain ⟨_, hl0, hcell0⟩ := World.cells?_some hc0
    have hc00 := hcell0 0 hsz
    have hspot : spot = none := by
      rw [List.getElem?_eq_getElem (by omega)] at hc00
      simpa [Addr.add] using World.cell?_spot hc00
    subst hspot
    have hbw : b < w.heap.size := by
      rw [List.getElem?_eq_getElem (by omega)] at hc00
      have := World.block_lt_of_cell? w _ hc00
      simpa [addr_plain] using this
    refine ⟨b, off, fun _ => ⟨rfl, hbw⟩, fun i hi => ?_⟩
    have g := hel i hi
    rw [List.getElem?_eq_getElem (by omega), Option.bind_eq_some_iff] at g
    obtain ⟨cs, hc, hy⟩ := g
    obtain ⟨_, hcl, hcell⟩ := World.cells?_some hc
    refine ⟨cs, _, n, hcl, fun j hj => ?_, hy, ?_⟩
    · have := hcell j hj
      rwa [addr_plain, addr_plain] at this
    · rw [List.all_eq_true]
      intro m hm
      have := hwm m (Or.inr (Or.inl (weights_all_mem (List.mem_map_of_mem (f := (·.1)) (List.getElem_mem (by omega : i < elems.length))) m hm)))
      simpa using this

end Go.Proofs.Ytkblkdojmfgneaa
