/- Package sha: primes. Package sha: behind, Keys, Start. A store of a whole struct into a variable that is a block of its own: the world behind it is of no form, but told. Package sha: Keys, Start. Package sha: right. Package word: Get. -/
import Derived.Test.YtkblkdojmfgneaaOwn
import Derived.Test.YtkblkdojmfgneaaShaL
import Derived.Test.YtkblkdojmfgneaaShelf
import Derived.Laws.BitsAllLaws
import Derived.Test.YtkblkdojmfgneaaBase
import Derived.Deep.MidRow
import Derived.Deep.RegionHeld3
import Derived.Laws.Rows
namespace Go.Proofs.Ytkblkdojmfgneaa
open Go.RowKit

def nums (k : IntKind) (l : List Nat) : List Value := l.map fun (n : Nat) => Value.int k n
theorem nums_snoc (k : IntKind) (l : List Nat) (n : Nat) : nums k l ++ [.int k n] = nums k (l ++ [n]) := by simp [nums]
theorem nums_length (k : IntKind) (l : List Nat) : (nums k l).length = l.length := by simp [nums]
theorem nums_get (k : IntKind) (l : List Nat) (j : Nat) (h : j < l.length) : (nums k l)[j]? = some (.int k (l.getD j 0 : Nat)) := by
  simp [nums, List.getD, h]
theorem info72 : (Try.prog.info? 22).map (fun i => (i.zero, i.size, i.bytes)) = some (some (.int .u64 0), 1, 8) := by kernel_rfl
theorem primeOk_cons (p : Nat) (r : List Nat) (c : Nat) : primeOk (p :: r) c = if c < p * p then true else if c % p = 0 then false else primeOk r c := rfl
theorem primesGo_succ (n g : Nat) (out : List Nat) (c : Nat) : primesGo n (g + 1) out c = if out.length < n then primesGo n g (if primeOk out c then out ++ [c] else out) (c + 1) else some out := rfl

set_option maxHeartbeats 8000000 in
set_option maxRecDepth 20000 in
theorem primes_any (n : Nat) (res : List Nat) (w : World) (hn : n ≤ 64) (h : primesGo n 400 [] 2 = some res) :
    Calls Try.prog 110 #[.int .i64 n] w fun e w' => ∃ v, e = .returned v ∧ w'.ownsRow w.heap.size 22 1 v res.length (nums .u64 res) ∧ Below w.heap.size w w' := by
  obtain ⟨i0, hi0, hz0, hz1, hz2⟩ := info_parts info72
  have H := Lib.hid h
  clear h
  go_enter Try.func110, Try.ntmps110
  go_wp2_with fail
  go_step3
  go_wp2_with fail
  go_step3
  go_wp2_with fail
  go_loopg [3, 4] 400 (fun g t3 t4 wr => ∃ (out : List Nat) (c : Nat), t4 = .int .u64 c ∧ c + g = 402 ∧ 2 ≤ c ∧ (∀ x ∈ out, 2 ≤ x ∧ x ≤ 402) ∧ primesGo n g out c = some res ∧ wr.ownsRow w.heap.size 22 1 t3 out.length (nums .u64 out) ∧ Below w.heap.size w wr)
  case atStart => exact ⟨[], 2, rfl, rfl, by omega, (fun x hx => by cases hx), H.out, World.ownsRow_nil _ _ _ _, by (repeat (first | (with_reducible assumption) | (with_reducible exact Below.refl _ _) | with_reducible apply bl_drewN | with_reducible apply Below.drew | (with_reducible apply bl_alloc; focus (first | (simp; done) | (simp; omega) | omega)) | (with_reducible apply bl_set; focus (first | (simp; done) | (simp; omega) | omega))))⟩
  case round =>
    obtain ⟨out, c, rfl, hc, hcc2, hel, hgo, ho, HB⟩ := hrel
    have HBs := HB.size
    have HEL := Lib.hid hel
    have HC := Lib.hid hc
    obtain ⟨a3, c3, h3⟩ := own_slice ho
    subst h3
    cases gk with
    | zero => cases hgo
    | succ g =>
      rw [primesGo_succ] at hgo
      obtain ⟨m, hm⟩ : ∃ m, out.length = m := ⟨_, rfl⟩
      rw [hm] at ho hgo ⊢
      have HM := Lib.hid hm
      clear hel hm
      by_cases hl : m < n
      · rw [if_pos hl] at hgo
        have HGO := Lib.hid hgo
        have hli : (m : Int) < n := by omega
        clear hgo hl
        have hc402 : c ≤ 402 := by omega
        have HC2 := Lib.hid hcc2
        go_wp2_with fail
        obtain ⟨WO, hWO⟩ : ∃ W2, W2 = wr := ⟨_, rfl⟩
        go_loopg [15] m (fun g2 t15 wx => ∃ j : Nat, t15 = .int .i64 j ∧ j + g2 = m ∧ primeOk out c = primeOk (out.drop j) c ∧ wx = WO)
        case atStart => exact ⟨0, rfl, by omega, by rw [List.drop_zero], hWO.symm⟩
        case round =>
          subst hWO
          obtain ⟨j, rfl, hj, hpk, hwx⟩ := hrel
          subst hwx
          have HPK := Lib.hid hpk
          have HJ := Lib.hid hj
          by_cases hjm : (j : Int) < m
          · have hjl : j < m := by omega
            obtain ⟨g2', rfl⟩ : ∃ k, gk = k + 1 := ⟨gk - 1, by omega⟩
            obtain ⟨gq, c4, hv, hg0, hgl, hgc⟩ := own_reads ho (by omega)
            simp only [Value.slice.injEq, true_and] at hv
            obtain ⟨rfl, rfl⟩ := hv
            have hjo : j < out.length := by rw [HM.out]; exact hjl
            obtain ⟨p, hp⟩ : ∃ p, out.getD j 0 = p := ⟨_, rfl⟩
            have hcell : wr.cell? ⟨gq, j, none⟩ = some (.int .u64 p) := by rw [hgc j (by omega), nums_get _ _ _ hjo, hp]
            have hpel : 2 ≤ p ∧ p ≤ 402 := HEL.out p (by rw [← hp, List.getD_eq_getElem?_getD, List.getElem?_eq_getElem hjo]; exact List.getElem_mem hjo)
            have hdr : out.drop j = p :: out.drop (j + 1) := by
              rw [List.drop_eq_getElem_cons hjo, ← hp, List.getD_eq_getElem?_getD, List.getElem?_eq_getElem hjo]; rfl
            rw [hdr, primeOk_cons] at hpk
            obtain ⟨pp, hpp⟩ : ∃ k, p * p = k := ⟨_, rfl⟩
            have hmul : (p : Int) * (p : Int) = (pp : Int) := by rw [← hpp]; simp
            have hpp2 : pp ≤ 161604 := by rw [← hpp]; exact Nat.mul_le_mul hpel.2 hpel.2
            rw [hpp] at hpk
            have hp0 : (p : Int) ≠ 0 := by omega
            have r1 : (c : Int).tmod (p : Int) = ((c % p : Nat) : Int) := (Int.ofNat_tmod c p).symm
            obtain ⟨q, hq⟩ : ∃ k, c % p = k := ⟨_, rfl⟩
            rw [hq] at hpk r1
            by_cases hcp : c < pp
            · rw [if_pos hcp] at hpk
              have hci : (c : Int) < pp := by omega
              clear hj hdr hpp hq hp hgc
              have hgo := HGO.out
              rw [hpk, if_pos rfl] at hgo
              have HGO2 := Lib.hid hgo
              have o2 := ho.alloc (.cells #[.int .u64 c] 22)
              clear hgo
              go_wp2_with (at_builtin; refine wpList_append_lies _ rfl _ _ 158 rfl w.heap.size 22 i0 _ 1 8 Try.underlying158 hi0 hz0 hz1 hz2 rfl (by decide) _ m (nums .u64 out) rfl o2 ⟨wr.heap.size, 0, none⟩ 1 1 [.int .u64 c] rfl rfl (World.news_of_block (heap_alloc_new wr _)) (by simp [Value.oneCell']) (by decide) ?c3 ?c4 ?c5 (wr.heap.size + 1) (by simp) ?_)
              case c3 => unfold maxLen; omega
              case c4 => omega
              case c5 => first | omega | (simp; omega)
              intro gg cc w' ho' hg hl hlt
              have hb : Below w.heap.size w w' := (HB.alloc HBs _).grown hg (by simp; omega) (fun q hq => (ho.lt q hq).1)
              clear o2 hg hl hlt
              rw [nums_snoc] at ho'
              go_wp2_with fail
              go_roundg g
              case rel => exact ⟨out ++ [c], c + 1, by simp, by have := HC.out; omega, by have := HC2.out; omega, fun x hx => (List.mem_append.1 hx).elim (HEL.out x) (fun h5 => by rw [List.mem_singleton.1 h5]; have := HC.out; exact ⟨HC2.out, hc402⟩), HGO2.out, by rw [List.length_append, HM.out]; exact ho', hb⟩
              case measure => omega
            · rw [if_neg hcp] at hpk
              have hci : ¬ (c : Int) < pp := by omega
              by_cases hq0 : q = 0
              · rw [if_pos hq0] at hpk
                have hq0i : (q : Int) = 0 := by omega
                have hgo := HGO.out
                rw [hpk, if_neg (by decide)] at hgo
                have HGO2 := Lib.hid hgo
                clear hj hdr hpp hq hp hgc hpk hgo
                go_wp2_with fail
                go_roundg g
                case rel => exact ⟨out, c + 1, by simp, by have := HC.out; omega, by have := HC2.out; omega, HEL.out, HGO2.out, by rw [HM.out]; exact ho, HB⟩
                case measure => omega
              · rw [if_neg hq0] at hpk
                have hq0i : ¬ (q : Int) = 0 := by omega
                have HPK2 := Lib.hid hpk
                clear hj hdr hpp hq hp hgc hpk
                go_wp2_with fail
                go_roundg g2'
                case rel => exact ⟨j + 1, by simp, by have := HJ.out; omega, HPK2.out, rfl⟩
                case measure => omega
          · have hje : j = m := by omega
            have hok : primeOk out c = true := by rw [hpk, hje, ← HM.out, List.drop_length]; rfl
            clear hj hpk hje
            have hgo := HGO.out
            rw [hok, if_pos rfl] at hgo
            have HGO2 := Lib.hid hgo
            have o2 := ho.alloc (.cells #[.int .u64 c] 22)
            clear hgo
            go_wp2_with (at_builtin; refine wpList_append_lies _ rfl _ _ 158 rfl w.heap.size 22 i0 _ 1 8 Try.underlying158 hi0 hz0 hz1 hz2 rfl (by decide) _ m (nums .u64 out) rfl o2 ⟨wr.heap.size, 0, none⟩ 1 1 [.int .u64 c] rfl rfl (World.news_of_block (heap_alloc_new wr _)) (by simp [Value.oneCell']) (by decide) ?c3 ?c4 ?c5 (wr.heap.size + 1) (by simp) ?_)
            case c3 => unfold maxLen; omega
            case c4 => omega
            case c5 => first | omega | (simp; omega)
            intro gg cc w' ho' hg hl hlt
            have hb : Below w.heap.size w w' := (HB.alloc HBs _).grown hg (by simp; omega) (fun q hq => (ho.lt q hq).1)
            clear o2 hg hl hlt
            rw [nums_snoc] at ho'
            go_wp2_with fail
            go_roundg g
            case rel => exact ⟨out ++ [c], c + 1, by simp, by have := HC.out; omega, by have := HC2.out; omega, fun x hx => (List.mem_append.1 hx).elim (HEL.out x) (fun h5 => by rw [List.mem_singleton.1 h5]; have := HC.out; exact ⟨HC2.out, hc402⟩), HGO2.out, by rw [List.length_append, HM.out]; exact ho', hb⟩
            case measure => omega
      · rw [if_neg hl] at hgo
        have hres : out = res := Option.some.inj hgo
        have hli : ¬ (m : Int) < n := by omega
        have ho2 : wr.ownsRow w.heap.size 22 1 (.slice a3 m c3) res.length (nums .u64 res) := by rw [← hres, HM.out]; exact ho
        clear hgo hl hc hres ho
        go_wp2_with fail
        go_ret
        exact ⟨_, rfl, ho2, HB⟩
end Go.Proofs.Ytkblkdojmfgneaa

namespace Go.Proofs.Ytkblkdojmfgneaa
open Go.RowKit

theorem mul64_any (x y h l : Nat) (hx : x < 18446744073709551616) (hy : y < 18446744073709551616) (hh : x * y / 18446744073709551616 = h) (hl : x * y % 18446744073709551616 = l) (w : World) :
    Calls Try.prog 87 #[.int .u64 x, .int .u64 y] w fun e w' => e = .returned (.tuple #[.int .u64 h, .int .u64 l]) ∧ w' = w := by
  have := Try.bits_Mul64 x y hx hy w
  rw [hh, hl] at this
  exact this
theorem beh_two (y h l p : Nat) (hh : y * y / 18446744073709551616 = h) (hl : y * y % 18446744073709551616 = l) : (y * y ≤ p * 2 ^ 64) ↔ (h < p ∨ (h = p ∧ l = 0)) := by
  have h5 := Nat.div_add_mod (y * y) 18446744073709551616
  rw [hh, hl] at h5
  have h6 : l < 18446744073709551616 := by rw [← hl]; exact Nat.mod_lt _ (by decide)
  omega
theorem beh_three (y h l c m p : Nat) (hh : y * y / 18446744073709551616 = h) (hl : y * y % 18446744073709551616 = l) (hc : l * y / 18446744073709551616 = c) (hm : l * y % 18446744073709551616 = m) :
    (y * y * y ≤ p * 2 ^ 96) ↔ (h * y + c < p * 4294967296 ∨ (h * y + c = p * 4294967296 ∧ m = 0)) := by
  have h5 := Nat.div_add_mod (y * y) 18446744073709551616
  rw [hh, hl] at h5
  have h7 := Nat.div_add_mod (l * y) 18446744073709551616
  rw [hc, hm] at h7
  have h8 : m < 18446744073709551616 := by rw [← hm]; exact Nat.mod_lt _ (by decide)
  have h9 : y * y * y = 18446744073709551616 * (h * y + c) + m := by
    rw [← h5, Nat.add_mul, ← h7, Nat.mul_add, Nat.mul_assoc]; omega
  rw [h9]
  generalize h * y + c = H
  omega

set_option maxHeartbeats 8000000 in
set_option maxRecDepth 20000 in
theorem behind_any (p : Nat) (three : Bool) (w : World) (hp : p ≤ 400) :
    Calls Try.prog 111 #[.int .u64 p, .bool three] w fun e w' => e = .returned (.int .u32 (behL p three : Nat)) ∧ Below w.heap.size w w' := by
  obtain ⟨R, hR⟩ : ∃ R, behGo p three 37 0 = R := ⟨_, rfl⟩
  have hBL : behL p three = R % 2 ^ 32 := by unfold behL; rw [hR]
  rw [hBL]
  clear hBL
  go_enter Try.func111, Try.ntmps111
  go_wp2_with fail
  go_loopg [5, 6] 37 (fun g t5 t6 wr => ∃ x : Nat, t5 = .int .u64 x ∧ t6 = .int .u64 ((2 ^ g / 2 : Nat) : Int) ∧ g ≤ 37 ∧ x < 2 ^ 37 ∧ behGo p three g x = R ∧ wr = w)
  case atStart => exact ⟨0, rfl, rfl, by omega, by decide, hR, rfl⟩
  case round =>
    obtain ⟨x, rfl, rfl, hg, hx, hgo, rfl⟩ := hrel
    cases gk with
    | zero =>
      have hxR : x = R := hgo
      subst hxR
      clear hgo hR
      go_wp2_with fail
      go_ret
      exact ⟨rfl, Below.refl _ _⟩
    | succ g =>
      rw [behGo, reck_eq] at hgo
      obtain ⟨B, hB⟩ : ∃ B, 2 ^ g = B := ⟨_, rfl⟩
      have hB1 : 2 ^ (g + 1) / 2 = B := by rw [Nat.pow_succ, Nat.mul_div_cancel _ (by decide)]; exact hB
      have hB36 : B < 2 ^ 37 := by rw [← hB]; exact Nat.pow_lt_pow_right (by decide) (by omega)
      have hBp : 0 < B := by rw [← hB]; exact Nat.two_pow_pos g
      rw [hB1]
      obtain ⟨B2, hB2⟩ : ∃ k, 2 ^ g / 2 = k := ⟨_, rfl⟩
      have hB2' : B / 2 = B2 := by rw [← hB]; exact hB2
      obtain ⟨y, hy⟩ : ∃ y, x ||| B = y := ⟨_, rfl⟩
      have hy37 : y < 2 ^ 37 := by rw [← hy]; exact Nat.or_lt_two_pow hx hB36
      have hor : bits .or .u64 (x : Int) (B : Int) = (y : Int) := by rw [u64_or_nat _ _ (by omega) (by omega), hy]
      obtain ⟨h, hh⟩ : ∃ k, y * y / 18446744073709551616 = k := ⟨_, rfl⟩
      obtain ⟨l, hl⟩ : ∃ k, y * y % 18446744073709551616 = k := ⟨_, rfl⟩
      have M1 := Lib.hid (fun W => mul64_any y y h l (by omega) (by omega) hh hl W)
      have hBi : (0 : Int) < B := by omega
      have hB2i : (B : Int) / 2 = (B2 : Int) := by omega
      have hstep : behStep p three x B = if (if three then y * y * y else y * y) ≤ (if three then p * 2 ^ 96 else p * 2 ^ 64) then y else x := by unfold behStep; rw [hy]
      rw [hB, hstep] at hgo
      have HGO := Lib.hid hgo
      have HY := Lib.hid (And.intro hh hl)
      have HB2 := Lib.hid hB2
      clear hgo hstep hh hl hB hB1 hB2 hB2' hy
      have h10 : h ≤ 1023 := by
        rw [← HY.out.1]
        have : y * y ≤ (2 ^ 37 - 1) * (2 ^ 37 - 1) := Nat.mul_le_mul (by omega) (by omega)
        omega
      have hl64 : l < 18446744073709551616 := by rw [← HY.out.2]; exact Nat.mod_lt _ (by decide)
      cases three with
      | false =>
        have HT := Lib.hid (beh_two y h l p HY.out.1 HY.out.2)
        go_wp2_with fail
        refine (M1.out _).mono ?_
        rintro e W' ⟨rfl, rfl⟩
        by_cases c1 : h < p
        · have c1i : (h : Int) < p := by omega
          have hgo := HGO.out
          simp only [Bool.false_eq_true, if_false] at hgo
          rw [if_pos (HT.out.2 (.inl c1))] at hgo
          have HG2 := Lib.hid hgo
          clear c1 hgo
          go_wp2_with fail
          go_roundg g
          case rel => exact ⟨y, rfl, by rw [HB2.out], by omega, hy37, HG2.out, rfl⟩
          case measure => omega
        have c1i : ¬ (h : Int) < p := by omega
        by_cases c2 : h = p
        · have c2i : (h : Int) = p := by omega
          by_cases c3 : l = 0
          · have c3i : (l : Int) = 0 := by omega
            have hgo := HGO.out
            simp only [Bool.false_eq_true, if_false] at hgo
            rw [if_pos (HT.out.2 (.inr ⟨c2, c3⟩))] at hgo
            have HG2 := Lib.hid hgo
            clear c1 c2 c3 hgo
            go_wp2_with fail
            go_roundg g
            case rel => exact ⟨y, rfl, by rw [HB2.out], by omega, hy37, HG2.out, rfl⟩
            case measure => omega
          · have c3i : ¬ (l : Int) = 0 := by omega
            have hgo := HGO.out
            simp only [Bool.false_eq_true, if_false] at hgo
            rw [if_neg (fun h => ((HT.out.1 h).elim c1 (fun h6 => c3 h6.2)))] at hgo
            have HG2 := Lib.hid hgo
            clear c1 c2 c3 hgo
            go_wp2_with fail
            go_roundg g
            case rel => exact ⟨x, rfl, by rw [HB2.out], by omega, hx, HG2.out, rfl⟩
            case measure => omega
        · have c2i : ¬ (h : Int) = p := by omega
          have hgo := HGO.out
          simp only [Bool.false_eq_true, if_false] at hgo
          rw [if_neg (fun h => ((HT.out.1 h).elim c1 (fun h6 => c2 h6.1)))] at hgo
          have HG2 := Lib.hid hgo
          clear c1 c2 hgo
          go_wp2_with fail
          go_roundg g
          case rel => exact ⟨x, rfl, by rw [HB2.out], by omega, hx, HG2.out, rfl⟩
          case measure => omega
      | true =>
        obtain ⟨c, hc⟩ : ∃ k, l * y / 18446744073709551616 = k := ⟨_, rfl⟩
        obtain ⟨m, hm⟩ : ∃ k, l * y % 18446744073709551616 = k := ⟨_, rfl⟩
        have M2 := Lib.hid (fun W => mul64_any l y c m hl64 (by omega) hc hm W)
        have hT := beh_three y h l c m p HY.out.1 HY.out.2 hc hm
        obtain ⟨q, hq⟩ : ∃ k, h * y = k := ⟨_, rfl⟩
        have hqi : (h : Int) * (y : Int) = (q : Int) := by rw [← hq]; simp
        have hq2 : q ≤ 1023 * 2 ^ 37 := by rw [← hq]; exact Nat.mul_le_mul h10 (by omega)
        have hc2 : c ≤ 2 ^ 37 := by
          rw [← hc]
          have h5 : l * y ≤ 18446744073709551616 * y := Nat.mul_le_mul_right _ (by omega)
          have h6 : l * y / 18446744073709551616 ≤ y := Nat.div_le_of_le_mul h5
          omega
        rw [hq] at hT
        obtain ⟨H, hH⟩ : ∃ k, q + c = k := ⟨_, rfl⟩
        have hHi : (q : Int) + (c : Int) = (H : Int) := by omega
        rw [hH] at hT
        obtain ⟨D, hD⟩ : ∃ k, p * 4294967296 = k := ⟨_, rfl⟩
        have hDi : (p : Int) * 4294967296 = (D : Int) := by omega
        rw [hD] at hT
        have HT := Lib.hid hT
        clear hc hm hq hT hH hD
        go_wp2_with fail
        refine (M1.out _).mono ?_
        rintro e W' ⟨rfl, rfl⟩
        go_wp2_with fail
        refine (M2.out _).mono ?_
        rintro e W' ⟨rfl, rfl⟩
        by_cases c1 : H < D
        · have c1i : (H : Int) < D := by omega
          have hgo := HGO.out
          simp only [if_true] at hgo
          rw [if_pos (HT.out.2 (.inl c1))] at hgo
          have HG2 := Lib.hid hgo
          clear c1 hgo
          go_wp2_with fail
          go_roundg g
          case rel => exact ⟨y, rfl, by rw [HB2.out], by omega, hy37, HG2.out, rfl⟩
          case measure => omega
        have c1i : ¬ (H : Int) < D := by omega
        by_cases c2 : H = D
        · have c2i : (H : Int) = D := by omega
          by_cases c3 : m = 0
          · have c3i : (m : Int) = 0 := by omega
            have hgo := HGO.out
            simp only [if_true] at hgo
            rw [if_pos (HT.out.2 (.inr ⟨c2, c3⟩))] at hgo
            have HG2 := Lib.hid hgo
            clear c1 c2 c3 hgo
            go_wp2_with fail
            go_roundg g
            case rel => exact ⟨y, rfl, by rw [HB2.out], by omega, hy37, HG2.out, rfl⟩
            case measure => omega
          · have c3i : ¬ (m : Int) = 0 := by omega
            have hgo := HGO.out
            simp only [if_true] at hgo
            rw [if_neg (fun h => ((HT.out.1 h).elim c1 (fun h6 => c3 h6.2)))] at hgo
            have HG2 := Lib.hid hgo
            clear c1 c2 c3 hgo
            go_wp2_with fail
            go_roundg g
            case rel => exact ⟨x, rfl, by rw [HB2.out], by omega, hx, HG2.out, rfl⟩
            case measure => omega
        · have c2i : ¬ (H : Int) = D := by omega
          have hgo := HGO.out
          simp only [if_true] at hgo
          rw [if_neg (fun h => ((HT.out.1 h).elim c1 (fun h6 => c2 h6.1)))] at hgo
          have HG2 := Lib.hid hgo
          clear c1 c2 hgo
          go_wp2_with fail
          go_roundg g
          case rel => exact ⟨x, rfl, by rw [HB2.out], by omega, hx, HG2.out, rfl⟩
          case measure => omega
end Go.Proofs.Ytkblkdojmfgneaa

namespace Go.Proofs.Ytkblkdojmfgneaa
open Go.RowKit

/-- No block but b has turned. -/
structure Put (b : Nat) (w w' : World) : Prop where
  os : w'.os = w.os
  tape : w'.tape = w.tape
  output : w'.output = w.output
  size : w'.heap.size = w.heap.size
  keep : ∀ q, q ≠ b → w'.heap[q]? = w.heap[q]?
theorem Put.blk {b q : Nat} {w w' : World} {cs : Array Value} {t : TypeId} (h : Put b w w') (hq : q ≠ b) (B : Blk w q cs t) : Blk w' q cs t := ⟨(h.keep q hq).trans B.out⟩
theorem Put.below {b n : Nat} {w0 w w' : World} (h : Put b w w') (hb : n ≤ b) (H : Below n w0 w) : Below n w0 w' :=
  ⟨h.os.trans H.os, h.tape.trans H.tape, h.output.trans H.output, by rw [h.size]; exact H.size, fun q hq => (h.keep q (by omega)).trans (H.block q hq)⟩
theorem Put.cell {b : Nat} {w w' : World} (h : Put b w w') {p : Addr} (hp : p.block ≠ b) : w'.cell? p = w.cell? p := World.cell?_of_block (h.keep p.block hp)

theorem blk_there {w : World} {b : Nat} {cs : Array Value} {t : TypeId} (B : Blk w b cs t) : w.there b 0 cs.size := fun j hj => by
  rw [Nat.zero_add]
  exact ⟨by rw [B.cell]; simp [hj], B.frozen j⟩
theorem setCells_os (b : Nat) : ∀ (vs : List Value) (o : Nat) (w : World), (w.setCells b o vs).os = w.os ∧ (w.setCells b o vs).tape = w.tape ∧ (w.setCells b o vs).output = w.output ∧ (w.setCells b o vs).heap.size = w.heap.size ∧ ∀ q, q ≠ b → (w.setCells b o vs).heap[q]? = w.heap[q]?
  | [], _, _ => ⟨rfl, rfl, rfl, rfl, fun _ _ => rfl⟩
  | v :: r, o, w => by
    obtain ⟨h1, h2, h3, h4, h5⟩ := setCells_os b r (o + 1) (w.setCell ⟨b, o, none⟩ v)
    exact ⟨h1, h2, h3, h4.trans (by simp [World.setCell]), fun q hq => (h5 q hq).trans (Below.heap_setCell _ _ _ _ hq)⟩
theorem setCells_blk : ∀ (vs : List Value) (o : Nat) (w : World) (b : Nat) (cs : Array Value) (t : TypeId), Blk w b cs t → o + vs.length = cs.size → Blk (w.setCells b o vs) b ((cs.toList.take o ++ vs).toArray) t
  | [], o, w, b, cs, t, B, hs => by
    refine ⟨?_⟩
    have : (cs.toList.take o ++ []).toArray = cs := by
      rw [List.append_nil, List.take_of_length_le (by simp at hs; simp; omega)]
    rw [this]; exact B.out
  | v :: r, o, w, b, cs, t, B, hs => by
    have B1 := B.set (o := o) (v := v)
    have hs' : o + 1 + r.length = (cs.setIfInBounds o v).size := by simp at hs ⊢; omega
    have := setCells_blk r (o + 1) _ b _ t B1 hs'
    refine this.conv ?_
    congr 1
    have ho : o < cs.toList.length := by simp at hs ⊢; omega
    rw [Array.toList_setIfInBounds, List.take_add_one, List.take_set_of_le (Nat.le_refl o), List.getElem?_set_self ho]
    simp
/-- The store. -/
theorem wpList_put {P : Program} {ops : Array Oper} {rest : List Oper} {op : Oper} {a : Act} {w : World} {Q : Exit → Act → World → Prop} (hgd : op.guard = none) (ty : TypeId) (x y : Operand) (ho : op.op = .store ty x y)
    (b : Nat) (cs cells : Array Value) (t : TypeId) (hx : a.eval x = .pointer (some ⟨b, 0, none⟩)) (hy : a.eval y = .agg cells) (B : Blk w b cs t)
    (hi : (P.info? ty).map (·.size) = some cells.size) (hsz : cells.size = cs.size) (h1 : cells.all (·.oneCell') = true)
    (h : ∀ w', Put b w w' → Blk w' b cells t → wpList P ops Q rest (a.put op.dst undef) w') : wpList P ops Q (op :: rest) a w := by
  refine wpList_store_mid hgd ty x y ho b 0 cells hx hy (by rw [hsz]; exact blk_there B) hi h1 (h _ ?_ ?_)
  · obtain ⟨h1, h2, h3, h4, h5⟩ := setCells_os b cells.toList 0 w
    exact ⟨h1, h2, h3, h4, h5⟩
  · have := setCells_blk cells.toList 0 w b cs t B (by simp; omega)
    exact this.conv (by simp)
theorem wp_put {P : Program} {op : Oper} {a : Act} {w : World} {K : Act → World → Prop} {Q : Exit → Act → World → Prop} (ty : TypeId) (x y : Operand) (ho : op.op = .store ty x y)
    (b : Nat) (cs cells : Array Value) (t : TypeId) (hx : a.eval x = .pointer (some ⟨b, 0, none⟩)) (hy : a.eval y = .agg cells) (B : Blk w b cs t)
    (hi : (P.info? ty).map (·.size) = some cells.size) (hsz : cells.size = cs.size) (h1 : cells.all (·.oneCell') = true)
    (h : ∀ w', Put b w w' → Blk w' b cells t → K (a.put op.dst undef) w') : op.wp P a w K Q := by
  refine wp_store_mid ty x y ho b 0 cells hx hy (by rw [hsz]; exact blk_there B) hi h1 (h _ ?_ ?_)
  · obtain ⟨h1, h2, h3, h4, h5⟩ := setCells_os b cells.toList 0 w
    exact ⟨h1, h2, h3, h4, h5⟩
  · have := setCells_blk cells.toList 0 w b cs t B (by simp; omega)
    exact this.conv (by simp)

/-! Two variables set at once from two others: 's, q = x, y' -/
def pairB (ops : Array Oper) : Bool :=
  Region.noSelect ops && (ops.size == 4) && Region.free .any ops #[false, false, false, false] 0 && (Region.ready .any ops #[false, false, false, false]).contains 0 &&
  Region.free .any ops #[true, false, false, false] 1 && (Region.ready .any ops #[true, false, false, false]).contains 1 &&
  (Region.ready .any ops #[true, true, false, false] == [2]) && (Region.ready .any ops #[true, true, true, false] == [3]) && (Region.ready .any ops #[true, true, true, true] == [])
theorem wp_pair {P : Program} {id : Nat} {Q : Exit → Act → World → Prop} {a : Act} {W : World} {o0 o1 o2 o3 : Oper} (S : World → Prop) (v0 v1 : Value) (hm : P.follows .mixedOrders = true) (hB : pairB [o0, o1, o2, o3].toArray = true)
    (hS : S W.drew) (g0 : o0.guard = none) (g1 : o1.guard = none) (g2 : o2.guard = none) (g3 : o3.guard = none)
    (h0 : ∀ w, S w → (execOp a.eval o0).run P w = .ok (.value v0) w) (h1 : ∀ w, S w → (execOp (a.put o0.dst v0).eval o1).run P w = .ok (.value v1) w)
    (p0 : ∀ c a w, Q (.panic c) (a.put o0.dst v0) w → Q (.panic c) a w) (p1 : ∀ c a w, Q (.panic c) (a.put o1.dst v1) w → Q (.panic c) a w)
    (h2 : o2.wp P ((a.put o0.dst v0).put o1.dst v1) W.drew (fun a' w' => S w' ∧ o3.wp P a' w' (fun a'' w'' => S w'' ∧ Q .normal a'' w'') Q) Q) :
    (Code.region id [o0, o1, o2, o3].toArray true).wp P Q a W := by
  simp only [pairB, Bool.and_eq_true, beq_iff_eq] at hB
  obtain ⟨⟨⟨⟨⟨⟨⟨⟨hsel, _⟩, f0⟩, r0⟩, f1⟩, r1⟩, r2⟩, r3⟩, r4⟩ := hB
  refine wp_region_held (S := S) hm ?_
  refine wpAnyH_take (i := 0) (v := v0) rfl hsel f0 r0 p0 (Or.inl ⟨by simp [Region.wanted, g0], h0⟩) hS ?_
  refine wpAnyH_take (i := 1) (v := v1) rfl hsel f1 r1 p1 (Or.inl ⟨by simp [Region.wanted, g1], h1⟩) hS ?_
  refine wpAnyH_all r2 (by simp) fun i hi => ?_
  obtain rfl : i = 2 := by simpa using hi
  unfold wpOp
  show if Region.wanted o2 _ = true then _ else _
  rw [if_pos (by simp [Region.wanted, g2])]
  refine .inl (Oper.wp_mono (fun a' w' h => ⟨h.1, ?_⟩) h2)
  refine wpAnyH_all r3 (by simp) fun i hi => ?_
  obtain rfl : i = 3 := by simpa using hi
  unfold wpOp
  show if Region.wanted o3 _ = true then _ else _
  rw [if_pos (by simp [Region.wanted, g3])]
  refine .inl (Oper.wp_mono (fun a'' w'' h => ⟨h.1, ?_⟩) h.2)
  exact wpAnyH_done r4 h.2 _
end Go.Proofs.Ytkblkdojmfgneaa

namespace Go.Proofs.Ytkblkdojmfgneaa
open Go.RowKit

/-- A row of so many numbers, the first j of K's, noughts behind. -/
def cellsAt (K : List Nat) (n j : Nat) : Array Value := (nums .u32 (K.take j) ++ List.replicate (n - j) (Value.int .u32 0)).toArray
theorem cellsAt_size (K : List Nat) (n j : Nat) (h : K.length = n) (hj : j ≤ n) : (cellsAt K n j).size = n := by
  simp [cellsAt, nums, h]; omega
theorem cellsAt_zero (K : List Nat) (n j : Nat) (h : K.length = n) (hj : j < n) : (cellsAt K n j)[j]? = some (.int .u32 0) := by
  unfold cellsAt
  rw [List.getElem?_toArray, List.getElem?_append_right (by rw [nums_length, List.length_take]; omega), nums_length, List.length_take, Nat.min_eq_left (by omega), Nat.sub_self]
  rw [List.getElem?_replicate, if_pos (by omega)]
theorem cellsAt_set (K : List Nat) (n j : Nat) (h : K.length = n) (hj : j < n) : (cellsAt K n j).setIfInBounds j (.int .u32 (K.getD j 0 : Nat)) = cellsAt K n (j + 1) := by
  unfold cellsAt
  rw [List.setIfInBounds_toArray]
  congr 1
  have hl : (nums .u32 (K.take j)).length = j := by rw [nums_length, List.length_take]; omega
  rw [List.set_append_right _ _ (by omega), hl, Nat.sub_self]
  obtain ⟨m, hm⟩ : ∃ m, n - j = m + 1 := ⟨n - j - 1, by omega⟩
  rw [hm, List.replicate_succ, List.set_cons_zero, show n - (j + 1) = m by omega]
  have e : K.take (j + 1) = K.take j ++ [K.getD j 0] := by
    rw [List.take_add_one, List.getElem?_eq_getElem (by omega), List.getD_eq_getElem?_getD, List.getElem?_eq_getElem (by omega)]; rfl
  rw [e, ← nums_snoc, List.append_assoc]; rfl
theorem cellsAt_all (K : List Nat) (n : Nat) (h : K.length = n) : cellsAt K n n = (nums .u32 K).toArray := by
  unfold cellsAt
  rw [Nat.sub_self, List.replicate_zero, List.append_nil, List.take_of_length_le (by omega)]
theorem map_get (l K : List Nat) (f : Nat → Nat) (h : l.map f = K) (j : Nat) (hj : j < l.length) : f (l.getD j 0) = K.getD j 0 := by
  subst h
  rw [List.getD_eq_getElem?_getD, List.getD_eq_getElem?_getD, List.getElem?_map, List.getElem?_eq_getElem hj]; rfl
theorem primes_row (n : Nat) (res : List Nat) (hn : n ≤ 64) (h : primesGo n 400 [] 2 = some res) (hl : res.length = n) (h0 : 0 < n) (W : World) :
    Calls Try.prog 110 #[.int .i64 n] W fun e w' => ∃ g c, e = .returned (.slice (some ⟨g, 0, none⟩) n c) ∧ W.heap.size ≤ g ∧ g < w'.heap.size ∧ (∀ j, j < n → w'.cell? ⟨g, j, none⟩ = some (.int .u64 (res.getD j 0 : Nat))) ∧ Below W.heap.size W w' := by
  refine (primes_any n res W hn h).mono ?_
  rintro e w' ⟨v, rfl, ho, hb⟩
  rw [hl] at ho
  obtain ⟨g, c, rfl, h1, h2, h3⟩ := own_reads ho h0
  refine ⟨g, c, rfl, h1, h2, fun j hj => ?_, hb⟩
  rw [h3 j (by omega), nums_get _ _ _ (by omega)]

set_option maxHeartbeats 8000000 in
set_option maxRecDepth 20000 in
theorem keys_any (w : World) : Calls Try.prog 107 #[] w fun e w' => e = .returned (.agg (nums .u32 constK).toArray) ∧ Below w.heap.size w w' := by
  have hKl : constK.length = 64 := by kernel_rfl
  have hPr := primes_row 64 primes64 (by decide) primes_64 (by kernel_rfl) (by decide)
  have hMap := fun j (hj : j < 64) => map_get primes64 constK (behL · true) keys_const j (by rw [show primes64.length = 64 by kernel_rfl]; exact hj)
  have hel : ∀ j, j < 64 → primes64.getD j 0 ≤ 400 := by
    have h5 : primes64.all (· ≤ 400) = true := by kernel_rfl
    intro j hj
    have h6 : j < primes64.length := by rw [show primes64.length = 64 by kernel_rfl]; exact hj
    rw [List.getD_eq_getElem?_getD, List.getElem?_eq_getElem h6]
    exact of_decide_eq_true (List.all_eq_true.1 h5 _ (List.getElem_mem h6))
  obtain ⟨K, hK⟩ : ∃ K, constK = K := ⟨_, rfl⟩
  obtain ⟨PS, hPS⟩ : ∃ K, primes64 = K := ⟨_, rfl⟩
  rw [hK] at hKl hMap ⊢
  rw [hPS] at hPr hMap hel
  have HPR := Lib.hid hPr; have HMAP := Lib.hid hMap; have HEL := Lib.hid hel
  clear hK hPS hPr hMap hel
  go_enter Try.func107, Try.ntmps107
  go_wp2_with fail
  refine (HPR.out _).mono ?_
  rintro e W1 ⟨g, c, rfl, hg0, hgl, hgc, hb⟩
  have HB1 : Below w.heap.size w W1 := Below.thn (by (repeat (first | (with_reducible assumption) | (with_reducible exact Below.refl _ _) | with_reducible apply bl_drewN | with_reducible apply Below.drew | (with_reducible apply bl_alloc; focus (first | (simp; done) | (simp; omega) | omega)) | (with_reducible apply bl_set; focus (first | (simp; done) | (simp; omega) | omega))))) hb
  have Z0 := Blk.below (b := w.heap.size) (t := 154) (by (repeat (first | (with_reducible assumption) | (with_reducible apply Blk.new'; (first | (with_reducible rfl) | (simp; done))) | with_reducible apply Blk.alloc | with_reducible apply Blk.set | ((with_reducible apply Blk.set_ne); focus (first | (simp; done) | (simp; omega))) | with_reducible apply Blk.drewN | with_reducible apply Blk.drew))) hb
  have B0 := Blk.below (b := w.heap.size + 1) (t := 154) (by (repeat (first | (with_reducible assumption) | (with_reducible apply Blk.new'; (first | (with_reducible rfl) | (simp; done))) | with_reducible apply Blk.alloc | with_reducible apply Blk.set | ((with_reducible apply Blk.set_ne); focus (first | (simp; done) | (simp; omega))) | with_reducible apply Blk.drewN | with_reducible apply Blk.drew))) hb
  have Z1 : Blk W1 w.heap.size (cellsAt K 64 0) 154 := Z0.conv rfl
  have B1 : Blk W1 (w.heap.size + 1) (cellsAt K 64 0) 154 := B0.conv rfl
  clear Z0 B0
  have hgn : w.heap.size + 1 < g := by simp at hg0; omega
  have HG := Lib.hid hgc
  clear hb hgc hg0
  go_wp2_with fail
  go_loopg [6] 64 (fun gk t6 wr => ∃ j : Nat, t6 = .int .i64 j ∧ j + gk = 64 ∧ Below w.heap.size w wr ∧ Blk wr w.heap.size (cellsAt K 64 0) 154 ∧ Blk wr (w.heap.size + 1) (cellsAt K 64 j) 154 ∧ g < wr.heap.size ∧ (∀ j, j < 64 → wr.cell? ⟨g, j, none⟩ = some (.int .u64 (PS.getD j 0 : Nat))))
  case atStart => exact ⟨0, rfl, by omega, HB1, Z1, B1, hgl, HG.out⟩
  case round =>
    clear HB1 Z1 B1 hgl HG
    obtain ⟨j, rfl, hj, HB, Z, B, hgl, hgc⟩ := hrel
    have HBs := HB.size
    cases gk with
    | zero =>
      obtain rfl : j = 64 := by omega
      rw [cellsAt_all K _ hKl] at B
      have hks : (nums .u32 K).toArray.size = 64 := by simp [nums, hKl]
      have hzs : (cellsAt K 64 0).size = 64 := cellsAt_size K 64 0 hKl (by omega)
      have hone : (nums .u32 K).toArray.all (·.oneCell') = true := all_oneCell_toArray (fun v hv => by
        obtain ⟨n, _, rfl⟩ := List.mem_map.1 hv; rfl)
      clear hj hgc
      go_wp2_with (first | (refine wpList_load_row rfl 154 _ rfl (w.heap.size + 1) rfl 154 _ (0, 0) _ B.out Try.underlying154 rfl (by rw [hks]; kernel_rfl) ?_) | (refine wpList_put rfl 154 _ _ rfl w.heap.size _ _ 154 rfl rfl Z (by rw [hks]; kernel_rfl) (hks.trans hzs.symm) hone (fun W9 hp9 B9 => ?_)))
      refine bodyPost_ret (v := .agg (nums .u32 K).toArray) ?_ rfl ⟨rfl, hp9.below (Nat.le_refl _) HB⟩
      exact results_cell_row (Try.results107) _ _ w.heap.size 154 _ (0, 0) _ rfl B9.out Try.underlying154 rfl (by rw [hks]; kernel_rfl)
    | succ gk =>
      have hjl : j < 64 := by omega
      have hji : (j : Int) < 64 := by omega
      obtain ⟨p, hp⟩ : ∃ p, PS.getD j 0 = p := ⟨_, rfl⟩
      have hp400 : p ≤ 400 := by rw [← hp]; exact HEL.out j hjl
      have hcell := hgc j hjl
      rw [hp] at hcell
      obtain ⟨kv, hkv⟩ : ∃ k, K.getD j 0 = k := ⟨_, rfl⟩
      have hval : behL p true = kv := by rw [← hp, ← hkv]; exact HMAP.out j hjl
      have hcs := cellsAt_set K 64 j hKl hjl
      rw [hkv] at hcs
      have HCS := Lib.hid hcs
      have HJ := Lib.hid hj
      have HP := Lib.hid hp
      have HGC := Lib.hid hgc
      clear hj hp hgc hcs hkv
      go_wp2_with fail
      refine (behind_any p true _ hp400).mono ?_
      rintro e W2 ⟨rfl, hb⟩
      have HB2 := Below.thn HB hb HBs
      have Z2 := Z.below hb
      have B2 := B.below hb
      have hgl2 : g < W2.heap.size := Nat.lt_of_lt_of_le hgl hb.size
      have HGC2 : ∀ j, j < 64 → W2.cell? ⟨g, j, none⟩ = some (.int .u64 (PS.getD j 0 : Nat)) := fun j hj => (hb.cell (p := ⟨g, j, none⟩) hgl).trans (HGC.out j hj)
      have HB2s := HB2.size
      have hc0 : W2.cell? ⟨w.heap.size + 1, j, none⟩ = some (.int .u32 0) := (B2.cell j).trans (cellsAt_zero K 64 j hKl hjl)
      have hf0 := B2.frozen j
      have hbl := B2.lt
      clear hb HB Z B HBs hcell hgl HGC
      rw [hval]
      have HGC3 := Lib.hid HGC2
      clear HGC2
      go_wp2_with fail
      go_roundg gk
      case rel => exact ⟨j + 1, by simp, by have := HJ.out; omega, HB2.setCell (p := ⟨w.heap.size + 1, j, none⟩) (by show w.heap.size ≤ w.heap.size + 1; omega) _, Z2.set_ne (by simp), (B2.set).conv HCS.out, by simpa [World.setCell] using hgl2, fun i hi => by rw [World.cell?_of_block (Below.heap_setCell _ _ _ _ (by show g ≠ w.heap.size + 1; omega))]; exact HGC3.out i hi⟩
      case measure => omega
set_option maxHeartbeats 8000000 in
set_option maxRecDepth 20000 in
theorem start_any (w : World) : Calls Try.prog 106 #[] w fun e w' => e = .returned (.agg (nums .u32 constH).toArray) ∧ Below w.heap.size w w' := by
  have hKl : constH.length = 8 := by kernel_rfl
  have hPr := primes_row 8 [2, 3, 5, 7, 11, 13, 17, 19] (by decide) primes_8 (by kernel_rfl) (by decide)
  have hMap := fun j (hj : j < 8) => map_get [2, 3, 5, 7, 11, 13, 17, 19] constH (behL · false) start_const j (by rw [show [2, 3, 5, 7, 11, 13, 17, 19].length = 8 by kernel_rfl]; exact hj)
  have hel : ∀ j, j < 8 → [2, 3, 5, 7, 11, 13, 17, 19].getD j 0 ≤ 400 := by
    have h5 : [2, 3, 5, 7, 11, 13, 17, 19].all (· ≤ 400) = true := by kernel_rfl
    intro j hj
    have h6 : j < [2, 3, 5, 7, 11, 13, 17, 19].length := by rw [show [2, 3, 5, 7, 11, 13, 17, 19].length = 8 by kernel_rfl]; exact hj
    rw [List.getD_eq_getElem?_getD, List.getElem?_eq_getElem h6]
    exact of_decide_eq_true (List.all_eq_true.1 h5 _ (List.getElem_mem h6))
  obtain ⟨K, hK⟩ : ∃ K, constH = K := ⟨_, rfl⟩
  obtain ⟨PS, hPS⟩ : ∃ K, [2, 3, 5, 7, 11, 13, 17, 19] = K := ⟨_, rfl⟩
  rw [hK] at hKl hMap ⊢
  rw [hPS] at hPr hMap hel
  have HPR := Lib.hid hPr; have HMAP := Lib.hid hMap; have HEL := Lib.hid hel
  clear hK hPS hPr hMap hel
  go_enter Try.func106, Try.ntmps106
  go_wp2_with fail
  refine (HPR.out _).mono ?_
  rintro e W1 ⟨g, c, rfl, hg0, hgl, hgc, hb⟩
  have HB1 : Below w.heap.size w W1 := Below.thn (by (repeat (first | (with_reducible assumption) | (with_reducible exact Below.refl _ _) | with_reducible apply bl_drewN | with_reducible apply Below.drew | (with_reducible apply bl_alloc; focus (first | (simp; done) | (simp; omega) | omega)) | (with_reducible apply bl_set; focus (first | (simp; done) | (simp; omega) | omega))))) hb
  have Z0 := Blk.below (b := w.heap.size) (t := 152) (by (repeat (first | (with_reducible assumption) | (with_reducible apply Blk.new'; (first | (with_reducible rfl) | (simp; done))) | with_reducible apply Blk.alloc | with_reducible apply Blk.set | ((with_reducible apply Blk.set_ne); focus (first | (simp; done) | (simp; omega))) | with_reducible apply Blk.drewN | with_reducible apply Blk.drew))) hb
  have B0 := Blk.below (b := w.heap.size + 1) (t := 152) (by (repeat (first | (with_reducible assumption) | (with_reducible apply Blk.new'; (first | (with_reducible rfl) | (simp; done))) | with_reducible apply Blk.alloc | with_reducible apply Blk.set | ((with_reducible apply Blk.set_ne); focus (first | (simp; done) | (simp; omega))) | with_reducible apply Blk.drewN | with_reducible apply Blk.drew))) hb
  have Z1 : Blk W1 w.heap.size (cellsAt K 8 0) 152 := Z0.conv rfl
  have B1 : Blk W1 (w.heap.size + 1) (cellsAt K 8 0) 152 := B0.conv rfl
  clear Z0 B0
  have hgn : w.heap.size + 1 < g := by simp at hg0; omega
  have HG := Lib.hid hgc
  clear hb hgc hg0
  go_wp2_with fail
  go_loopg [6] 8 (fun gk t6 wr => ∃ j : Nat, t6 = .int .i64 j ∧ j + gk = 8 ∧ Below w.heap.size w wr ∧ Blk wr w.heap.size (cellsAt K 8 0) 152 ∧ Blk wr (w.heap.size + 1) (cellsAt K 8 j) 152 ∧ g < wr.heap.size ∧ (∀ j, j < 8 → wr.cell? ⟨g, j, none⟩ = some (.int .u64 (PS.getD j 0 : Nat))))
  case atStart => exact ⟨0, rfl, by omega, HB1, Z1, B1, hgl, HG.out⟩
  case round =>
    clear HB1 Z1 B1 hgl HG
    obtain ⟨j, rfl, hj, HB, Z, B, hgl, hgc⟩ := hrel
    have HBs := HB.size
    cases gk with
    | zero =>
      obtain rfl : j = 8 := by omega
      rw [cellsAt_all K _ hKl] at B
      have hks : (nums .u32 K).toArray.size = 8 := by simp [nums, hKl]
      have hzs : (cellsAt K 8 0).size = 8 := cellsAt_size K 8 0 hKl (by omega)
      have hone : (nums .u32 K).toArray.all (·.oneCell') = true := all_oneCell_toArray (fun v hv => by
        obtain ⟨n, _, rfl⟩ := List.mem_map.1 hv; rfl)
      clear hj hgc
      go_wp2_with (first | (refine wpList_load_row rfl 152 _ rfl (w.heap.size + 1) rfl 152 _ (0, 0) _ B.out Try.underlying152 rfl (by rw [hks]; kernel_rfl) ?_) | (refine wpList_put rfl 152 _ _ rfl w.heap.size _ _ 152 rfl rfl Z (by rw [hks]; kernel_rfl) (hks.trans hzs.symm) hone (fun W9 hp9 B9 => ?_)))
      refine bodyPost_ret (v := .agg (nums .u32 K).toArray) ?_ rfl ⟨rfl, hp9.below (Nat.le_refl _) HB⟩
      exact results_cell_row (Try.results106) _ _ w.heap.size 152 _ (0, 0) _ rfl B9.out Try.underlying152 rfl (by rw [hks]; kernel_rfl)
    | succ gk =>
      have hjl : j < 8 := by omega
      have hji : (j : Int) < 8 := by omega
      obtain ⟨p, hp⟩ : ∃ p, PS.getD j 0 = p := ⟨_, rfl⟩
      have hp400 : p ≤ 400 := by rw [← hp]; exact HEL.out j hjl
      have hcell := hgc j hjl
      rw [hp] at hcell
      obtain ⟨kv, hkv⟩ : ∃ k, K.getD j 0 = k := ⟨_, rfl⟩
      have hval : behL p false = kv := by rw [← hp, ← hkv]; exact HMAP.out j hjl
      have hcs := cellsAt_set K 8 j hKl hjl
      rw [hkv] at hcs
      have HCS := Lib.hid hcs
      have HJ := Lib.hid hj
      have HP := Lib.hid hp
      have HGC := Lib.hid hgc
      clear hj hp hgc hcs hkv
      go_wp2_with fail
      refine (behind_any p false _ hp400).mono ?_
      rintro e W2 ⟨rfl, hb⟩
      have HB2 := Below.thn HB hb HBs
      have Z2 := Z.below hb
      have B2 := B.below hb
      have hgl2 : g < W2.heap.size := Nat.lt_of_lt_of_le hgl hb.size
      have HGC2 : ∀ j, j < 8 → W2.cell? ⟨g, j, none⟩ = some (.int .u64 (PS.getD j 0 : Nat)) := fun j hj => (hb.cell (p := ⟨g, j, none⟩) hgl).trans (HGC.out j hj)
      have HB2s := HB2.size
      have hc0 : W2.cell? ⟨w.heap.size + 1, j, none⟩ = some (.int .u32 0) := (B2.cell j).trans (cellsAt_zero K 8 j hKl hjl)
      have hf0 := B2.frozen j
      have hbl := B2.lt
      clear hb HB Z B HBs hcell hgl HGC
      rw [hval]
      have HGC3 := Lib.hid HGC2
      clear HGC2
      go_wp2_with fail
      go_roundg gk
      case rel => exact ⟨j + 1, by simp, by have := HJ.out; omega, HB2.setCell (p := ⟨w.heap.size + 1, j, none⟩) (by show w.heap.size ≤ w.heap.size + 1; omega) _, Z2.set_ne (by simp), (B2.set).conv HCS.out, by simpa [World.setCell] using hgl2, fun i hi => by rw [World.cell?_of_block (Below.heap_setCell _ _ _ _ (by show g ≠ w.heap.size + 1; omega))]; exact HGC3.out i hi⟩
      case measure => omega
end Go.Proofs.Ytkblkdojmfgneaa

namespace Go.Proofs.Ytkblkdojmfgneaa
open Go.RowKit

set_option maxHeartbeats 4000000 in
set_option maxRecDepth 20000 in
theorem rot_any (x n s : Nat) (w : World) (hx : x < 4294967296) (h1 : 1 ≤ n) (h2 : n ≤ 31) (hs : s + n = 32) :
    Calls Try.prog 113 #[.int .u32 x, .int .i64 (-(n : Int))] w fun e w' => e = .returned (.int .u32 (rotr x n : Nat)) ∧ w' = w := by
  have hw : IntKind.u64.wrap (-(n : Int)) = ((18446744073709551616 - n : Nat) : Int) := by
    simp [IntKind.wrap, IntKind.bits, IntKind.signed]; omega
  have hand : bits .and .u64 (IntKind.u64.wrap (-(n : Int))) 31 = (s : Int) := by
    have h5 := u64_and_nat (18446744073709551616 - n) 31 (by omega) (by decide)
    rw [nat_mask5] at h5
    rw [hw]
    refine h5.trans ?_
    congr 1
    omega
  have hsi : (s : Int) < 32 := by omega
  have hs0 : (0 : Int) ≤ s := by omega
  have hsn : (32 : Int) - s = n := by omega
  have hval : bits .or .u32 ((x : Int) * 2 ^ s % 4294967296) ((x : Int) / 2 ^ n) = ((rotr x n : Nat) : Int) := by
    have h5 := u32_or_nat (x * 2 ^ s % 4294967296) (x / 2 ^ n) (Nat.mod_lt _ (by decide)) (Nat.lt_of_le_of_lt (Nat.div_le_self _ _) hx)
    have e1 : ((x : Int) * 2 ^ s % 4294967296) = ((x * 2 ^ s % 4294967296 : Nat) : Int) := by simp
    have e2 : ((x : Int) / 2 ^ n) = ((x / 2 ^ n : Nat) : Int) := by simp
    rw [e1, e2, h5]
    unfold rotr
    rw [Nat.shiftRight_eq_div_pow, Nat.shiftLeft_eq, show 32 - n = s by omega, Nat.or_comm]
  have HV := Lib.hid hval
  clear hw hval
  go_enter Try.func113, Try.ntmps113
  go_wp2_with fail
  go_ret
  exact ⟨by rw [← HV.out]; rfl, rfl⟩
theorem rotr_lt (x n : Nat) (hx : x < 4294967296) : rotr x n < 4294967296 := by
  unfold rotr
  refine Nat.or_lt_two_pow (n := 32) ?_ (Nat.mod_lt _ (by decide))
  rw [Nat.shiftRight_eq_div_pow]
  exact Nat.lt_of_le_of_lt (Nat.div_le_self _ _) hx
set_option maxHeartbeats 4000000 in
set_option maxRecDepth 20000 in
theorem right_any (x n : Nat) (w : World) (hx : x < 4294967296) (h1 : 1 ≤ n) (h2 : n ≤ 31) :
    Calls Try.prog 112 #[.int .u32 x, .int .i64 n] w fun e w' => e = .returned (.int .u32 (rotr x n : Nat)) ∧ Below w.heap.size w w' := by
  go_enter Try.func112, Try.ntmps112
  go_wp2_with fail
  refine (rot_any x n (32 - n) _ hx h1 h2 (by omega)).mono ?_
  rintro e w' ⟨rfl, rfl⟩
  go_wp2_with fail
  go_ret
  exact ⟨rfl, Below.refl _ _⟩
end Go.Proofs.Ytkblkdojmfgneaa

namespace Go.Proofs.Ytkblkdojmfgneaa
open Go.RowKit

def getJ (s : ByteArray) (j : Nat) : Nat := (s.data.toList.take j).foldl (fun n b => n * 256 + b.toNat) 0
theorem getJ_succ (s : ByteArray) (j : Nat) (hj : j < s.size) : getJ s (j + 1) = getJ s j * 256 + (s.data.toList[j]'(by exact hj)).toNat := by
  unfold getJ
  rw [List.take_add_one, List.getElem?_eq_getElem (by exact hj), List.foldl_append]
  rfl
theorem getJ_lt (s : ByteArray) (j : Nat) (hj : j ≤ s.size) : getJ s j < 256 ^ j := by
  induction j with
  | zero => simp [getJ]
  | succ j ih =>
    rw [getJ_succ s j (by omega), Nat.pow_succ]
    have := ih (by omega)
    have := (s.data.toList[j]'(by show j < s.size; omega)).toNat_lt
    omega
set_option maxHeartbeats 2000000 in
set_option maxRecDepth 20000 in
theorem get_any (s : ByteArray) (w : World) (hs0 : 0 < s.size) (hs : s.size ≤ 8) :
    Calls Try.prog 77 #[.string s] w fun e w' => e = .returned (.tuple #[.int .u64 (getJ s s.size : Nat), .int .i64 0]) ∧ Below w.heap.size w w' := by
  have hne : s.toList.isEmpty = false := by
    rw [ba_toList, List.isEmpty_eq_false_iff]
    intro h
    have : s.data.size = 0 := by rw [← Array.length_toList, h]; rfl
    exact absurd this (by show s.size ≠ 0; omega)
  have h8 : ¬ (8 : Int) < s.size := by omega
  go_enter Try.func77, Try.ntmps77
  go_wp2_with fail
  go_loopg [4, 15] s.size (fun g t4 t15 wr => ∃ j : Nat, j + g = s.size ∧ t4 = .int .u64 (getJ s j : Nat) ∧ t15 = .int .i64 j ∧ Below w.heap.size w wr)
  case atStart => exact ⟨0, by omega, rfl, rfl, by (repeat (first | (with_reducible assumption) | (with_reducible exact Below.refl _ _) | with_reducible apply bl_drewN | with_reducible apply Below.drew | (with_reducible apply bl_alloc; focus (first | (simp; done) | (simp; omega) | omega)) | (with_reducible apply bl_set; focus (first | (simp; done) | (simp; omega) | omega))))⟩
  case round =>
    obtain ⟨j, hj, rfl, rfl, HB⟩ := hrel
    have HBs := HB.size
    have HJ := Lib.hid hj
    cases gk with
    | zero =>
      have hj' : ¬ (j : Int) < s.size := by omega
      have hjs : j = s.size := by omega
      clear hj
      have HJS := Lib.hid hjs
      clear hjs
      go_wp2
      refine bodyPost_ret (v := .tuple #[.int .u64 (getJ s s.size : Nat), .int .i64 0]) ?_ rfl ⟨rfl, HB⟩
      simp [results, Try.results77, go_sem, HJS.out]
    | succ g =>
      have hj' : (j : Int) < s.size := by omega
      have hjl : j < s.size := by omega
      have hn := getJ_succ s j hjl
      have hlt := getJ_lt s j (by omega)
      clear hj
      have hlt2 := getJ_lt s (j + 1) (by omega)
      have hpw : 256 ^ (j + 1) ≤ 256 ^ 8 := Nat.pow_le_pow_right (by decide) (by omega)
      have hbt : s.data.toList[j].toNat < 256 := UInt8.toNat_lt _
      have hx : s[j].toNat = s.data.toList[j].toNat := rfl
      obtain ⟨x, hxx⟩ : ∃ x, s.data.toList[j].toNat = x := ⟨_, rfl⟩
      rw [hxx] at hn hbt hx
      obtain ⟨G, hG⟩ : ∃ G, getJ s j = G := ⟨_, rfl⟩
      rw [hG] at hn ⊢
      have hval : bits .or .u64 ((G : Int) * 256) (x : Int) = ((getJ s (j + 1) : Nat) : Int) := by
        rw [show ((G : Int) * 256) = ((G * 256 : Nat) : Int) by omega, u64_or_nat _ _ (by omega) (by omega), hn]
        have := Nat.two_pow_add_eq_or_of_lt (i := 8) (b := x) hbt G
        rw [show 2 ^ 8 * G = G * 256 by omega] at this
        rw [← this]
      have HV := Lib.hid hval
      have hGb : G < 72057594037927936 := by omega
      clear hn hval hlt hlt2 hpw hG hxx
      go_wp2_with fail
      go_roundg g
      case rel => exact ⟨j + 1, by have := HJ.out; omega, by rw [HV.out], by simp, HB⟩
      case measure => omega
end Go.Proofs.Ytkblkdojmfgneaa
