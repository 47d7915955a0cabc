/- Package sha: primes. -/
import Derived.Test.YtgceepjfnncilaaOwn
import Derived.Test.YtgceepjfnncilaaShaL
namespace Go.Proofs.Ytgceepjfnncilaa
open Go.RowKit

def nums (k : IntKind) (l : List Nat) : List Value := l.map fun (n : Nat) => Value.int k n
theorem nums_snoc (k : IntKind) (l : List Nat) (n : Nat) : nums k l ++ [.int k n] = nums k (l ++ [n]) := by simp [nums]
theorem nums_length (k : IntKind) (l : List Nat) : (nums k l).length = l.length := by simp [nums]
theorem nums_get (k : IntKind) (l : List Nat) (j : Nat) (h : j < l.length) : (nums k l)[j]? = some (.int k (l.getD j 0 : Nat)) := by
  simp [nums, List.getD, h]
theorem info72 : (Try.prog.info? 72).map (fun i => (i.zero, i.size, i.bytes)) = some (some (.int .u64 0), 1, 8) := by kernel_rfl
theorem primeOk_cons (p : Nat) (r : List Nat) (c : Nat) : primeOk (p :: r) c = if c < p * p then true else if c % p = 0 then false else primeOk r c := rfl
theorem primesGo_succ (n g : Nat) (out : List Nat) (c : Nat) : primesGo n (g + 1) out c = if out.length < n then primesGo n g (if primeOk out c then out ++ [c] else out) (c + 1) else some out := rfl

set_option maxHeartbeats 8000000 in
set_option maxRecDepth 20000 in
theorem primes_any (n : Nat) (res : List Nat) (w : World) (hn : n ≤ 64) (h : primesGo n 400 [] 2 = some res) :
    Calls Try.prog 42 #[.int .i64 n] w fun e w' => ∃ v, e = .returned v ∧ w'.ownsRow w.heap.size 72 1 v res.length (nums .u64 res) ∧ Below w.heap.size w w' := by
  obtain ⟨i0, hi0, hz0, hz1, hz2⟩ := info_parts info72
  have H := Lib.hid h
  clear h
  go_enter Try.func42, Try.ntmps42
  go_wp2_with fail
  go_step3
  go_wp2_with fail
  go_step3
  go_wp2_with fail
  go_loopg [3, 4] 400 (fun g t3 t4 wr => ∃ (out : List Nat) (c : Nat), t4 = .int .u64 c ∧ c + g = 402 ∧ 2 ≤ c ∧ (∀ x ∈ out, 2 ≤ x ∧ x ≤ 402) ∧ primesGo n g out c = some res ∧ wr.ownsRow w.heap.size 72 1 t3 out.length (nums .u64 out) ∧ Below w.heap.size w wr)
  case atStart => exact ⟨[], 2, rfl, rfl, by omega, (fun x hx => by cases hx), H.out, World.ownsRow_nil _ _ _ _, by (repeat (first | (with_reducible assumption) | (with_reducible exact Below.refl _ _) | with_reducible apply bl_drewN | with_reducible apply Below.drew | (with_reducible apply bl_alloc; focus (first | (simp; done) | (simp; omega) | omega)) | (with_reducible apply bl_set; focus (first | (simp; done) | (simp; omega) | omega))))⟩
  case round =>
    obtain ⟨out, c, rfl, hc, hcc2, hel, hgo, ho, HB⟩ := hrel
    have HBs := HB.size
    have HEL := Lib.hid hel
    have HC := Lib.hid hc
    obtain ⟨a3, c3, h3⟩ := own_slice ho
    subst h3
    cases gk with
    | zero => cases hgo
    | succ g =>
      rw [primesGo_succ] at hgo
      obtain ⟨m, hm⟩ : ∃ m, out.length = m := ⟨_, rfl⟩
      rw [hm] at ho hgo ⊢
      have HM := Lib.hid hm
      clear hel hm
      by_cases hl : m < n
      · rw [if_pos hl] at hgo
        have HGO := Lib.hid hgo
        have hli : (m : Int) < n := by omega
        clear hgo hl
        have hc402 : c ≤ 402 := by omega
        have HC2 := Lib.hid hcc2
        go_wp2_with fail
        obtain ⟨WO, hWO⟩ : ∃ W2, W2 = wr := ⟨_, rfl⟩
        go_loopg [15] m (fun g2 t15 wx => ∃ j : Nat, t15 = .int .i64 j ∧ j + g2 = m ∧ primeOk out c = primeOk (out.drop j) c ∧ wx = WO)
        case atStart => exact ⟨0, rfl, by omega, by rw [List.drop_zero], hWO.symm⟩
        case round =>
          subst hWO
          obtain ⟨j, rfl, hj, hpk, hwx⟩ := hrel
          subst hwx
          have HPK := Lib.hid hpk
          have HJ := Lib.hid hj
          by_cases hjm : (j : Int) < m
          · have hjl : j < m := by omega
            obtain ⟨g2', rfl⟩ : ∃ k, gk = k + 1 := ⟨gk - 1, by omega⟩
            obtain ⟨gq, c4, hv, hg0, hgl, hgc⟩ := own_reads ho (by omega)
            simp only [Value.slice.injEq, true_and] at hv
            obtain ⟨rfl, rfl⟩ := hv
            have hjo : j < out.length := by rw [HM.out]; exact hjl
            obtain ⟨p, hp⟩ : ∃ p, out.getD j 0 = p := ⟨_, rfl⟩
            have hcell : wr.cell? ⟨gq, j, none⟩ = some (.int .u64 p) := by rw [hgc j (by omega), nums_get _ _ _ hjo, hp]
            have hpel : 2 ≤ p ∧ p ≤ 402 := HEL.out p (by rw [← hp, List.getD_eq_getElem?_getD, List.getElem?_eq_getElem hjo]; exact List.getElem_mem hjo)
            have hdr : out.drop j = p :: out.drop (j + 1) := by
              rw [List.drop_eq_getElem_cons hjo, ← hp, List.getD_eq_getElem?_getD, List.getElem?_eq_getElem hjo]; rfl
            rw [hdr, primeOk_cons] at hpk
            obtain ⟨pp, hpp⟩ : ∃ k, p * p = k := ⟨_, rfl⟩
            have hmul : (p : Int) * (p : Int) = (pp : Int) := by rw [← hpp]; simp
            have hpp2 : pp ≤ 161604 := by rw [← hpp]; exact Nat.mul_le_mul hpel.2 hpel.2
            rw [hpp] at hpk
            have hp0 : (p : Int) ≠ 0 := by omega
            have r1 : (c : Int).tmod (p : Int) = ((c % p : Nat) : Int) := (Int.ofNat_tmod c p).symm
            obtain ⟨q, hq⟩ : ∃ k, c % p = k := ⟨_, rfl⟩
            rw [hq] at hpk r1
            by_cases hcp : c < pp
            · rw [if_pos hcp] at hpk
              have hci : (c : Int) < pp := by omega
              clear hj hdr hpp hq hp hgc
              have hgo := HGO.out
              rw [hpk, if_pos rfl] at hgo
              have HGO2 := Lib.hid hgo
              have o2 := ho.alloc (.cells #[.int .u64 c] 72)
              clear hgo
              go_wp2_with (at_builtin; refine wpList_append_lies _ rfl _ _ 73 rfl w.heap.size 72 i0 _ 1 8 Try.underlying73 hi0 hz0 hz1 hz2 rfl (by decide) _ m (nums .u64 out) rfl o2 ⟨wr.heap.size, 0, none⟩ 1 1 [.int .u64 c] rfl rfl (World.news_of_block (heap_alloc_new wr _)) (by simp [Value.oneCell']) (by decide) ?c3 ?c4 ?c5 (wr.heap.size + 1) (by simp) ?_)
              case c3 => unfold maxLen; omega
              case c4 => omega
              case c5 => first | omega | (simp; omega)
              intro gg cc w' ho' hg hl hlt
              have hb : Below w.heap.size w w' := (HB.alloc HBs _).grown hg (by simp; omega) (fun q hq => (ho.lt q hq).1)
              clear o2 hg hl hlt
              rw [nums_snoc] at ho'
              go_wp2_with fail
              go_roundg g
              case rel => exact ⟨out ++ [c], c + 1, by simp, by have := HC.out; omega, by have := HC2.out; omega, fun x hx => (List.mem_append.1 hx).elim (HEL.out x) (fun h5 => by rw [List.mem_singleton.1 h5]; have := HC.out; exact ⟨HC2.out, hc402⟩), HGO2.out, by rw [List.length_append, HM.out]; exact ho', hb⟩
              case measure => omega
            · rw [if_neg hcp] at hpk
              have hci : ¬ (c : Int) < pp := by omega
              by_cases hq0 : q = 0
              · rw [if_pos hq0] at hpk
                have hq0i : (q : Int) = 0 := by omega
                have hgo := HGO.out
                rw [hpk, if_neg (by decide)] at hgo
                have HGO2 := Lib.hid hgo
                clear hj hdr hpp hq hp hgc hpk hgo
                go_wp2_with fail
                go_roundg g
                case rel => exact ⟨out, c + 1, by simp, by have := HC.out; omega, by have := HC2.out; omega, HEL.out, HGO2.out, by rw [HM.out]; exact ho, HB⟩
                case measure => omega
              · rw [if_neg hq0] at hpk
                have hq0i : ¬ (q : Int) = 0 := by omega
                have HPK2 := Lib.hid hpk
                clear hj hdr hpp hq hp hgc hpk
                go_wp2_with fail
                go_roundg g2'
                case rel => exact ⟨j + 1, by simp, by have := HJ.out; omega, HPK2.out, rfl⟩
                case measure => omega
          · have hje : j = m := by omega
            have hok : primeOk out c = true := by rw [hpk, hje, ← HM.out, List.drop_length]; rfl
            clear hj hpk hje
            have hgo := HGO.out
            rw [hok, if_pos rfl] at hgo
            have HGO2 := Lib.hid hgo
            have o2 := ho.alloc (.cells #[.int .u64 c] 72)
            clear hgo
            go_wp2_with (at_builtin; refine wpList_append_lies _ rfl _ _ 73 rfl w.heap.size 72 i0 _ 1 8 Try.underlying73 hi0 hz0 hz1 hz2 rfl (by decide) _ m (nums .u64 out) rfl o2 ⟨wr.heap.size, 0, none⟩ 1 1 [.int .u64 c] rfl rfl (World.news_of_block (heap_alloc_new wr _)) (by simp [Value.oneCell']) (by decide) ?c3 ?c4 ?c5 (wr.heap.size + 1) (by simp) ?_)
            case c3 => unfold maxLen; omega
            case c4 => omega
            case c5 => first | omega | (simp; omega)
            intro gg cc w' ho' hg hl hlt
            have hb : Below w.heap.size w w' := (HB.alloc HBs _).grown hg (by simp; omega) (fun q hq => (ho.lt q hq).1)
            clear o2 hg hl hlt
            rw [nums_snoc] at ho'
            go_wp2_with fail
            go_roundg g
            case rel => exact ⟨out ++ [c], c + 1, by simp, by have := HC.out; omega, by have := HC2.out; omega, fun x hx => (List.mem_append.1 hx).elim (HEL.out x) (fun h5 => by rw [List.mem_singleton.1 h5]; have := HC.out; exact ⟨HC2.out, hc402⟩), HGO2.out, by rw [List.length_append, HM.out]; exact ho', hb⟩
            case measure => omega
      · rw [if_neg hl] at hgo
        have hres : out = res := Option.some.inj hgo
        have hli : ¬ (m : Int) < n := by omega
        have ho2 : wr.ownsRow w.heap.size 72 1 (.slice a3 m c3) res.length (nums .u64 res) := by rw [← hres, HM.out]; exact ho
        clear hgo hl hc hres ho
        go_wp2_with fail
        go_ret
        exact ⟨_, rfl, ho2, HB⟩
end Go.Proofs.Ytgceepjfnncilaa
