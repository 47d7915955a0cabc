/- The document's Seal. The law of Seal: awake. -/
import Derived.Test.YtkblkdojmfgneaaSealA
namespace Go.Proofs.Ytkblkdojmfgneaa
open Go.RowKit

set_option maxHeartbeats 4000000 in
theorem rhead_any (id nonce : Nat) (hi : id ≤ 18446744073709551615) (hn : nonce ≤ 18446744073709551615) (w : World) : Calls Try.prog 35 #[.int .u64 (id : Int), .int .u64 (nonce : Int)] w fun e w' => e = .returned (.string (headB id nonce)) ∧ Below w.heap.size w w' := by
  have hba := ba_list (putB id 8) (putB nonce 8)
  rw [show (⟨(putB id 8 ++ putB nonce 8).toArray⟩ : ByteArray) = headB id nonce from rfl] at hba
  have hp1 := putB_len id 8; have hp2 := putB_len nonce 8
  obtain ⟨H, hH⟩ : ∃ h, headB id nonce = h := ⟨_, rfl⟩
  rw [hH] at hba ⊢
  clear hH
  go_enter Try.func35, Try.ntmps35
  go_wp2_with fail
  refine (rput_any id 8 hi (by decide) _).mono ?_
  rintro e W1 ⟨rfl, hb⟩
  have HB1 := Below.thn (Below.refl w.heap.size w) hb (Nat.le_refl _)
  have hs1 := HB1.size
  clear hb
  go_wp2_with fail
  refine (rput_any nonce 8 hn (by decide) _).mono ?_
  rintro e W2 ⟨rfl, hb⟩
  have HB2 := Below.thn HB1 hb hs1
  clear hb HB1
  go_wp2_with fail
  go_ret
  exact ⟨rfl, HB2⟩
set_option maxHeartbeats 8000000 in
set_option maxRecDepth 20000 in
theorem rseal_any (key body : ByteArray) (id nonce : Nat) (hk : key.size ≤ 1000) (hi : id ≤ 18446744073709551615) (hn : nonce ≤ 18446744073709551615) (hb : body.size ≤ 3000) (w : World) :
    Calls Try.prog 30 #[.string key, .int .u64 (id : Int), .int .u64 (nonce : Int), .string body] w fun e w' => e = .returned (.string (sealB key id nonce body)) ∧ Below w.heap.size w w' := by
  have hts := turnB_size key nonce body
  have hap : turnB key nonce body ++ tagB key id nonce (turnB key nonce body) = sealB key id nonce body := rfl
  have hgs := tagB_size key id nonce (turnB key nonce body)
  have d1 := fun W => rderive_any key ⟨#[101, 110, 99]⟩ 16 W (by omega) (by decide) (by decide)
  have d2 := fun W => rderive_any key ⟨#[109, 97, 99]⟩ 32 W (by omega) (by decide) (by decide)
  have tu := fun W => rturn_any (derB key ⟨#[101, 110, 99]⟩ 16) body (encK key) rfl (derB_size _ _ _) nonce hn (by omega) W
  rw [show (⟨(turnS (encK key) nonce (body).data.toList).toArray⟩ : ByteArray) = turnB key nonce body from rfl] at tu
  rw [show derB key ⟨#[109, 97, 99]⟩ 32 = macK key from rfl] at d2
  have hms : (macK key).size = 32 := derB_size _ _ _
  have hhs := headB_size id nonce
  have hh := fun W => rhead_any id nonce hi hn W
  have sm := fun W => rhsum_any (macK key) (headB id nonce ++ (turnB key nonce body)) W (by omega) (by rw [sz_app]; omega)
  have hss := hmacB_size (macK key) (headB id nonce ++ (turnB key nonce body))
  have htg : (hmacB (macK key) (headB id nonce ++ (turnB key nonce body))).extract 0 16 = tagB key id nonce (turnB key nonce body) := rfl
  obtain ⟨D, hD⟩ : ∃ d, derB key ⟨#[101, 110, 99]⟩ 16 = d := ⟨_, rfl⟩
  obtain ⟨M, hM⟩ : ∃ d, macK key = d := ⟨_, rfl⟩
  obtain ⟨H, hH⟩ : ∃ d, headB id nonce = d := ⟨_, rfl⟩
  rw [hD] at d1 tu; rw [hM] at d2 sm hss htg; rw [hH] at hh sm hss htg hhs
  obtain ⟨HT, hHT⟩ : ∃ d, H ++ (turnB key nonce body) = d := ⟨_, rfl⟩
  rw [hHT] at sm hss htg
  obtain ⟨S, hS⟩ : ∃ d, hmacB M HT = d := ⟨_, rfl⟩
  rw [hS] at sm hss htg
  have hsi : (S.size : Int) = 32 := by omega
  have D1 := Lib.hid d1; have D2 := Lib.hid d2; have TU := Lib.hid tu; have HH := Lib.hid hh; have SM := Lib.hid sm
  clear d1 d2 tu hh sm hD hM hH hS hms hss
  obtain ⟨T, hT⟩ : ∃ t, turnB key nonce body = t := ⟨_, rfl⟩
  rw [hT] at hts hap hgs htg hHT TU
  obtain ⟨G, hG⟩ : ∃ t, tagB key id nonce T = t := ⟨_, rfl⟩
  rw [hG] at hap hgs htg
  obtain ⟨R, hR⟩ : ∃ t, sealB key id nonce body = t := ⟨_, rfl⟩
  rw [hR] at hap ⊢
  clear hT hG hR
  have HBw : Below w.heap.size w w := Below.refl w.heap.size w
  go_enter Try.func30, Try.ntmps30
  go_wp2_with fail
  refine (D1.out _).mono ?_
  rintro e W1 ⟨rfl, hb⟩
  have HBW1 := Below.thn HBw hb HBw.size
  clear hb HBw
  go_wp2_with fail
  refine (TU.out _).mono ?_
  rintro e W2 ⟨rfl, hb⟩
  have HBW2 := Below.thn HBW1 hb HBW1.size
  clear hb HBW1
  go_wp2_with fail
  refine (D2.out _).mono ?_
  rintro e W3 ⟨rfl, hb⟩
  have HBW3 := Below.thn HBW2 hb HBW2.size
  clear hb HBW2
  go_wp2_with fail
  refine (HH.out _).mono ?_
  rintro e W4 ⟨rfl, hb⟩
  have HBW4 := Below.thn HBW3 hb HBW3.size
  clear hb HBW3
  go_wp2_with fail
  refine (SM.out _).mono ?_
  rintro e W5 ⟨rfl, hb⟩
  have HBW5 := Below.thn HBW4 hb HBW4.size
  clear hb HBW4
  go_wp2_with fail
  go_ret
  exact ⟨rfl, HBW5⟩
set_option maxHeartbeats 8000000 in
set_option maxRecDepth 20000 in
theorem ropen_any (key s : ByteArray) (id nonce : Nat) (hk : key.size ≤ 1000) (hi : id ≤ 18446744073709551615) (hn : nonce ≤ 18446744073709551615) (hs : s.size ≤ 3000) (w : World) :
    Calls Try.prog 28 #[.string key, .int .u64 (id : Int), .int .u64 (nonce : Int), .string s] w fun e w' => e = .returned (.tuple #[.string (openB key id nonce s).1, .int .i64 ((openB key id nonce s).2 : Nat)]) ∧ Below w.heap.size w w' := by
  by_cases h16 : s.size < 16
  · have hi16 : (s.size : Int) < 16 := by omega
    rw [ob_short key id nonce s h16]
    clear h16
    go_enter Try.func28, Try.ntmps28
    go_wp2_with fail
    go_ret2
    exact ⟨rfl, Below.refl _ _⟩
  · have hi16 : ¬ (s.size : Int) < 16 := by omega
    obtain ⟨m, hm⟩ : ∃ m, s.size - 16 = m := ⟨_, rfl⟩
    have hmi : (s.size : Int) - 16 = (m : Int) := by omega
    have hml : (m : Int) ≤ (s.size : Int) := by omega
    have hmn : m ≤ s.size := by omega
    have hok := ob_ok key id nonce m s h16 hm
    have hno := ob_no key id nonce m s h16 hm
    obtain ⟨r, hr⟩ : ∃ r, openB key id nonce s = r := ⟨_, rfl⟩
    rw [hr] at hok hno ⊢
    have hTs : (s.extract 0 m).size = m := by rw [sz_ext]; omega
    obtain ⟨T, hT⟩ : ∃ t, s.extract 0 m = t := ⟨_, rfl⟩
    obtain ⟨U, hU⟩ : ∃ t, s.extract m s.size = t := ⟨_, rfl⟩
    rw [hT] at hok hno hTs; rw [hU] at hok hno
    have hgs := tagB_size key id nonce T
    have d1 := fun W => rderive_any key ⟨#[101, 110, 99]⟩ 16 W (by omega) (by decide) (by decide)
    have d2 := fun W => rderive_any key ⟨#[109, 97, 99]⟩ 32 W (by omega) (by decide) (by decide)
    have tu := fun W => rturn_any (derB key ⟨#[101, 110, 99]⟩ 16) T (encK key) rfl (derB_size _ _ _) nonce hn (by omega) W
    rw [show (⟨(turnS (encK key) nonce (T).data.toList).toArray⟩ : ByteArray) = turnB key nonce T from rfl] at tu
    rw [show derB key ⟨#[109, 97, 99]⟩ 32 = macK key from rfl] at d2
    have hms : (macK key).size = 32 := derB_size _ _ _
    have hhs := headB_size id nonce
    have hh := fun W => rhead_any id nonce hi hn W
    have sm := fun W => rhsum_any (macK key) (headB id nonce ++ T) W (by omega) (by rw [sz_app]; omega)
    have hss := hmacB_size (macK key) (headB id nonce ++ T)
    have htg : (hmacB (macK key) (headB id nonce ++ T)).extract 0 16 = tagB key id nonce T := rfl
    obtain ⟨D, hD⟩ : ∃ d, derB key ⟨#[101, 110, 99]⟩ 16 = d := ⟨_, rfl⟩
    obtain ⟨M, hM⟩ : ∃ d, macK key = d := ⟨_, rfl⟩
    obtain ⟨H, hH⟩ : ∃ d, headB id nonce = d := ⟨_, rfl⟩
    rw [hD] at d1 tu; rw [hM] at d2 sm hss htg; rw [hH] at hh sm hss htg hhs
    obtain ⟨HT, hHT⟩ : ∃ d, H ++ T = d := ⟨_, rfl⟩
    rw [hHT] at sm hss htg
    obtain ⟨S, hS⟩ : ∃ d, hmacB M HT = d := ⟨_, rfl⟩
    rw [hS] at sm hss htg
    have hsi : (S.size : Int) = 32 := by omega
    have D1 := Lib.hid d1; have D2 := Lib.hid d2; have TU := Lib.hid tu; have HH := Lib.hid hh; have SM := Lib.hid sm
    clear d1 d2 tu hh sm hD hM hH hS hms hss
    obtain ⟨G, hG⟩ : ∃ k, tagB key id nonce T = k := ⟨_, rfl⟩
    rw [hG] at htg hgs hok hno
    obtain ⟨V, hV⟩ : ∃ k, turnB key nonce T = k := ⟨_, rfl⟩
    rw [hV] at hok TU
    have OK := Lib.hid hok; have NO := Lib.hid hno
    have hT6 : T.size ≤ 3000 := by omega
    have HB0 := Below.refl w.heap.size w
    clear hok hno hG hV hm h16 hr
    by_cases he : G = U
    · have hr := Lib.hid (OK.out he)
      subst he
      go_enter Try.func28, Try.ntmps28
      go_wp2_with fail
      refine wp_region_typed 14 (fun k => match k with  | _ => []) (fun k => match k with  | _ => false) (fun k => match k with | 1 => some ⟨(Unit), (()), (fun _ => .string M), (fun _ _ => True), (fun _ _ _ h _ => h)⟩ | 4 => some ⟨(Unit), (()), (fun _ => .string H), (fun _ _ => True), (fun _ _ _ h _ => h)⟩ | 7 => some ⟨(Unit), (()), (fun _ => .string S), (fun _ _ => True), (fun _ _ _ h _ => h)⟩ | _ => none) (by kernel_rfl) (by kernel_rfl) (by intro d0 v0 c0 a0 w0 h0; first | (cases d0 <;> exact h0) | exact hP _ _ _ _ _ h0) ?_
      rw [show List.range 14 = [0, 1, 2, 3, 4, 5, 6, 7, 8, 9, 10, 11, 12, 13] from rfl]
      first
        | (refine ty_skip rfl rfl ?_; (try simp only [Act.put, List.setIfInBounds_toArray, List.set_cons_zero, List.set_cons_succ]))
        | (refine ty_pure rfl rfl rfl rfl ?_; apply Exists.intro; refine ⟨fun wq hq hk => ?_, ?_⟩
           · simp only [pureAt]; go_simp; (try simp only [↓IntWalk.iteOmega]); (try go_bits); (try simp only [pureUpon]); (first | done | exact ⟨rfl, rfl⟩ | exact ⟨trivial, rfl⟩ | rfl)
           (try simp only [Act.put, List.setIfInBounds_toArray, List.set_cons_zero, List.set_cons_succ]))
      refine ty_rel rfl rfl _ rfl rfl (fun wq hq hk => ?_) ?_
      · simp only [relAt]; go_simp; (try simp only [relUpon]); (go_at_call 72; refine (D2.out _).mono ?_; rintro e w9 ⟨rfl, hb9⟩; exact ⟨_, rfl, .mk hb9 () rfl trivial⟩)
      rintro ⟨⟩
      (try simp only [Act.put, List.setIfInBounds_toArray, List.set_cons_zero, List.set_cons_succ])
      first
        | (refine ty_skip rfl rfl ?_; (try simp only [Act.put, List.setIfInBounds_toArray, List.set_cons_zero, List.set_cons_succ]))
        | (refine ty_pure rfl rfl rfl rfl ?_; apply Exists.intro; refine ⟨fun wq hq hk => ?_, ?_⟩
           · simp only [pureAt]; go_simp; (try simp only [↓IntWalk.iteOmega]); (try go_bits); (try simp only [pureUpon]); (first | done | exact ⟨rfl, rfl⟩ | exact ⟨trivial, rfl⟩ | rfl)
           (try simp only [Act.put, List.setIfInBounds_toArray, List.set_cons_zero, List.set_cons_succ]))
      first
        | (refine ty_skip rfl rfl ?_; (try simp only [Act.put, List.setIfInBounds_toArray, List.set_cons_zero, List.set_cons_succ]))
        | (refine ty_pure rfl rfl rfl rfl ?_; apply Exists.intro; refine ⟨fun wq hq hk => ?_, ?_⟩
           · simp only [pureAt]; go_simp; (try simp only [↓IntWalk.iteOmega]); (try go_bits); (try simp only [pureUpon]); (first | done | exact ⟨rfl, rfl⟩ | exact ⟨trivial, rfl⟩ | rfl)
           (try simp only [Act.put, List.setIfInBounds_toArray, List.set_cons_zero, List.set_cons_succ]))
      refine ty_rel rfl rfl _ rfl rfl (fun wq hq hk => ?_) ?_
      · simp only [relAt]; go_simp; (try simp only [relUpon]); (go_at_call 35; refine (HH.out _).mono ?_; rintro e w9 ⟨rfl, hb9⟩; exact ⟨_, rfl, .mk hb9 () rfl trivial⟩)
      rintro ⟨⟩
      (try simp only [Act.put, List.setIfInBounds_toArray, List.set_cons_zero, List.set_cons_succ])
      first
        | (refine ty_skip rfl rfl ?_; (try simp only [Act.put, List.setIfInBounds_toArray, List.set_cons_zero, List.set_cons_succ]))
        | (refine ty_pure rfl rfl rfl rfl ?_; apply Exists.intro; refine ⟨fun wq hq hk => ?_, ?_⟩
           · simp only [pureAt]; go_simp; (try simp only [↓IntWalk.iteOmega]); (try go_bits); (try simp only [pureUpon]); (first | done | exact ⟨rfl, rfl⟩ | exact ⟨trivial, rfl⟩ | rfl)
           (try simp only [Act.put, List.setIfInBounds_toArray, List.set_cons_zero, List.set_cons_succ]))
      first
        | (refine ty_skip rfl rfl ?_; (try simp only [Act.put, List.setIfInBounds_toArray, List.set_cons_zero, List.set_cons_succ]))
        | (refine ty_pure rfl rfl rfl rfl ?_; apply Exists.intro; refine ⟨fun wq hq hk => ?_, ?_⟩
           · simp only [pureAt]; go_simp; (try simp only [↓IntWalk.iteOmega]); (try go_bits); (try simp only [pureUpon]); (first | done | exact ⟨rfl, rfl⟩ | exact ⟨trivial, rfl⟩ | rfl)
           (try simp only [Act.put, List.setIfInBounds_toArray, List.set_cons_zero, List.set_cons_succ]))
      refine ty_rel rfl rfl _ rfl rfl (fun wq hq hk => ?_) ?_
      · simp only [relAt]; go_simp; (try simp only [relUpon]); (go_at_call 71; refine (SM.out _).mono ?_; rintro e w9 ⟨rfl, hb9⟩; exact ⟨_, rfl, .mk hb9 () rfl trivial⟩)
      rintro ⟨⟩
      (try simp only [Act.put, List.setIfInBounds_toArray, List.set_cons_zero, List.set_cons_succ])
      first
        | (refine ty_skip rfl rfl ?_; (try simp only [Act.put, List.setIfInBounds_toArray, List.set_cons_zero, List.set_cons_succ]))
        | (refine ty_pure rfl rfl rfl rfl ?_; apply Exists.intro; refine ⟨fun wq hq hk => ?_, ?_⟩
           · simp only [pureAt]; go_simp; (try simp only [↓IntWalk.iteOmega]); (try go_bits); (try simp only [pureUpon]); (first | done | exact ⟨rfl, rfl⟩ | exact ⟨trivial, rfl⟩ | rfl)
           (try simp only [Act.put, List.setIfInBounds_toArray, List.set_cons_zero, List.set_cons_succ]))
      first
        | (refine ty_skip rfl rfl ?_; (try simp only [Act.put, List.setIfInBounds_toArray, List.set_cons_zero, List.set_cons_succ]))
        | (refine ty_pure rfl rfl rfl rfl ?_; apply Exists.intro; refine ⟨fun wq hq hk => ?_, ?_⟩
           · simp only [pureAt]; go_simp; (try simp only [↓IntWalk.iteOmega]); (try go_bits); (try simp only [pureUpon]); (first | done | exact ⟨rfl, rfl⟩ | exact ⟨trivial, rfl⟩ | rfl)
           (try simp only [Act.put, List.setIfInBounds_toArray, List.set_cons_zero, List.set_cons_succ]))
      first
        | (refine ty_skip rfl rfl ?_; (try simp only [Act.put, List.setIfInBounds_toArray, List.set_cons_zero, List.set_cons_succ]))
        | (refine ty_pure rfl rfl rfl rfl ?_; apply Exists.intro; refine ⟨fun wq hq hk => ?_, ?_⟩
           · simp only [pureAt]; go_simp; (try simp only [↓IntWalk.iteOmega]); (try go_bits); (try simp only [pureUpon]); (first | done | exact ⟨rfl, rfl⟩ | exact ⟨trivial, rfl⟩ | rfl)
           (try simp only [Act.put, List.setIfInBounds_toArray, List.set_cons_zero, List.set_cons_succ]))
      first
        | (refine ty_skip rfl rfl ?_; (try simp only [Act.put, List.setIfInBounds_toArray, List.set_cons_zero, List.set_cons_succ]))
        | (refine ty_pure rfl rfl rfl rfl ?_; apply Exists.intro; refine ⟨fun wq hq hk => ?_, ?_⟩
           · simp only [pureAt]; go_simp; (try simp only [↓IntWalk.iteOmega]); (try go_bits); (try simp only [pureUpon]); (first | done | exact ⟨rfl, rfl⟩ | exact ⟨trivial, rfl⟩ | rfl)
           (try simp only [Act.put, List.setIfInBounds_toArray, List.set_cons_zero, List.set_cons_succ]))
      first
        | (refine ty_skip rfl rfl ?_; (try simp only [Act.put, List.setIfInBounds_toArray, List.set_cons_zero, List.set_cons_succ]))
        | (refine ty_pure rfl rfl rfl rfl ?_; apply Exists.intro; refine ⟨fun wq hq hk => ?_, ?_⟩
           · simp only [pureAt]; go_simp; (try simp only [↓IntWalk.iteOmega]); (try go_bits); (try simp only [pureUpon]); (first | done | exact ⟨rfl, rfl⟩ | exact ⟨trivial, rfl⟩ | rfl)
           (try simp only [Act.put, List.setIfInBounds_toArray, List.set_cons_zero, List.set_cons_succ]))
      first
        | (refine ty_skip rfl rfl ?_; (try simp only [Act.put, List.setIfInBounds_toArray, List.set_cons_zero, List.set_cons_succ]))
        | (refine ty_pure rfl rfl rfl rfl ?_; apply Exists.intro; refine ⟨fun wq hq hk => ?_, ?_⟩
           · simp only [pureAt]; go_simp; (try simp only [↓IntWalk.iteOmega]); (try go_bits); (try simp only [pureUpon]); (first | done | exact ⟨rfl, rfl⟩ | exact ⟨trivial, rfl⟩ | rfl)
           (try simp only [Act.put, List.setIfInBounds_toArray, List.set_cons_zero, List.set_cons_succ]))
      refine ty_nil ?_
      simp only [List.drop_succ_cons, List.drop_zero]
      intro W3 hw3 hΓ
      have HBW3 := Below.thn HB0 hw3.out HB0.size
      clear hΓ hw3 HB0
      go_wp2_with fail
      refine (D1.out _).mono ?_
      rintro e W4 ⟨rfl, hb⟩
      have HBW4 := Below.thn HBW3 hb HBW3.size
      clear hb HBW3
      go_wp2_with fail
      refine (TU.out _).mono ?_
      rintro e W5 ⟨rfl, hb⟩
      have HBW5 := Below.thn HBW4 hb HBW4.size
      clear hb HBW4
      go_wp2_with fail
      go_ret2
      exact ⟨by rw [hr.out]; rfl, HBW5⟩
    · have hr := Lib.hid (NO.out he)
      have hne : (G.toList == U.toList) = false := by rw [ba_beq]; simpa using he
      go_enter Try.func28, Try.ntmps28
      go_wp2_with fail
      refine wp_region_typed 14 (fun k => match k with  | _ => []) (fun k => match k with  | _ => false) (fun k => match k with | 1 => some ⟨(Unit), (()), (fun _ => .string M), (fun _ _ => True), (fun _ _ _ h _ => h)⟩ | 4 => some ⟨(Unit), (()), (fun _ => .string H), (fun _ _ => True), (fun _ _ _ h _ => h)⟩ | 7 => some ⟨(Unit), (()), (fun _ => .string S), (fun _ _ => True), (fun _ _ _ h _ => h)⟩ | _ => none) (by kernel_rfl) (by kernel_rfl) (by intro d0 v0 c0 a0 w0 h0; first | (cases d0 <;> exact h0) | exact hP _ _ _ _ _ h0) ?_
      rw [show List.range 14 = [0, 1, 2, 3, 4, 5, 6, 7, 8, 9, 10, 11, 12, 13] from rfl]
      first
        | (refine ty_skip rfl rfl ?_; (try simp only [Act.put, List.setIfInBounds_toArray, List.set_cons_zero, List.set_cons_succ]))
        | (refine ty_pure rfl rfl rfl rfl ?_; apply Exists.intro; refine ⟨fun wq hq hk => ?_, ?_⟩
           · simp only [pureAt]; go_simp; (try simp only [↓IntWalk.iteOmega]); (try go_bits); (try simp only [pureUpon]); (first | done | exact ⟨rfl, rfl⟩ | exact ⟨trivial, rfl⟩ | rfl)
           (try simp only [Act.put, List.setIfInBounds_toArray, List.set_cons_zero, List.set_cons_succ]))
      refine ty_rel rfl rfl _ rfl rfl (fun wq hq hk => ?_) ?_
      · simp only [relAt]; go_simp; (try simp only [relUpon]); (go_at_call 72; refine (D2.out _).mono ?_; rintro e w9 ⟨rfl, hb9⟩; exact ⟨_, rfl, .mk hb9 () rfl trivial⟩)
      rintro ⟨⟩
      (try simp only [Act.put, List.setIfInBounds_toArray, List.set_cons_zero, List.set_cons_succ])
      first
        | (refine ty_skip rfl rfl ?_; (try simp only [Act.put, List.setIfInBounds_toArray, List.set_cons_zero, List.set_cons_succ]))
        | (refine ty_pure rfl rfl rfl rfl ?_; apply Exists.intro; refine ⟨fun wq hq hk => ?_, ?_⟩
           · simp only [pureAt]; go_simp; (try simp only [↓IntWalk.iteOmega]); (try go_bits); (try simp only [pureUpon]); (first | done | exact ⟨rfl, rfl⟩ | exact ⟨trivial, rfl⟩ | rfl)
           (try simp only [Act.put, List.setIfInBounds_toArray, List.set_cons_zero, List.set_cons_succ]))
      first
        | (refine ty_skip rfl rfl ?_; (try simp only [Act.put, List.setIfInBounds_toArray, List.set_cons_zero, List.set_cons_succ]))
        | (refine ty_pure rfl rfl rfl rfl ?_; apply Exists.intro; refine ⟨fun wq hq hk => ?_, ?_⟩
           · simp only [pureAt]; go_simp; (try simp only [↓IntWalk.iteOmega]); (try go_bits); (try simp only [pureUpon]); (first | done | exact ⟨rfl, rfl⟩ | exact ⟨trivial, rfl⟩ | rfl)
           (try simp only [Act.put, List.setIfInBounds_toArray, List.set_cons_zero, List.set_cons_succ]))
      refine ty_rel rfl rfl _ rfl rfl (fun wq hq hk => ?_) ?_
      · simp only [relAt]; go_simp; (try simp only [relUpon]); (go_at_call 35; refine (HH.out _).mono ?_; rintro e w9 ⟨rfl, hb9⟩; exact ⟨_, rfl, .mk hb9 () rfl trivial⟩)
      rintro ⟨⟩
      (try simp only [Act.put, List.setIfInBounds_toArray, List.set_cons_zero, List.set_cons_succ])
      first
        | (refine ty_skip rfl rfl ?_; (try simp only [Act.put, List.setIfInBounds_toArray, List.set_cons_zero, List.set_cons_succ]))
        | (refine ty_pure rfl rfl rfl rfl ?_; apply Exists.intro; refine ⟨fun wq hq hk => ?_, ?_⟩
           · simp only [pureAt]; go_simp; (try simp only [↓IntWalk.iteOmega]); (try go_bits); (try simp only [pureUpon]); (first | done | exact ⟨rfl, rfl⟩ | exact ⟨trivial, rfl⟩ | rfl)
           (try simp only [Act.put, List.setIfInBounds_toArray, List.set_cons_zero, List.set_cons_succ]))
      first
        | (refine ty_skip rfl rfl ?_; (try simp only [Act.put, List.setIfInBounds_toArray, List.set_cons_zero, List.set_cons_succ]))
        | (refine ty_pure rfl rfl rfl rfl ?_; apply Exists.intro; refine ⟨fun wq hq hk => ?_, ?_⟩
           · simp only [pureAt]; go_simp; (try simp only [↓IntWalk.iteOmega]); (try go_bits); (try simp only [pureUpon]); (first | done | exact ⟨rfl, rfl⟩ | exact ⟨trivial, rfl⟩ | rfl)
           (try simp only [Act.put, List.setIfInBounds_toArray, List.set_cons_zero, List.set_cons_succ]))
      refine ty_rel rfl rfl _ rfl rfl (fun wq hq hk => ?_) ?_
      · simp only [relAt]; go_simp; (try simp only [relUpon]); (go_at_call 71; refine (SM.out _).mono ?_; rintro e w9 ⟨rfl, hb9⟩; exact ⟨_, rfl, .mk hb9 () rfl trivial⟩)
      rintro ⟨⟩
      (try simp only [Act.put, List.setIfInBounds_toArray, List.set_cons_zero, List.set_cons_succ])
      first
        | (refine ty_skip rfl rfl ?_; (try simp only [Act.put, List.setIfInBounds_toArray, List.set_cons_zero, List.set_cons_succ]))
        | (refine ty_pure rfl rfl rfl rfl ?_; apply Exists.intro; refine ⟨fun wq hq hk => ?_, ?_⟩
           · simp only [pureAt]; go_simp; (try simp only [↓IntWalk.iteOmega]); (try go_bits); (try simp only [pureUpon]); (first | done | exact ⟨rfl, rfl⟩ | exact ⟨trivial, rfl⟩ | rfl)
           (try simp only [Act.put, List.setIfInBounds_toArray, List.set_cons_zero, List.set_cons_succ]))
      first
        | (refine ty_skip rfl rfl ?_; (try simp only [Act.put, List.setIfInBounds_toArray, List.set_cons_zero, List.set_cons_succ]))
        | (refine ty_pure rfl rfl rfl rfl ?_; apply Exists.intro; refine ⟨fun wq hq hk => ?_, ?_⟩
           · simp only [pureAt]; go_simp; (try simp only [↓IntWalk.iteOmega]); (try go_bits); (try simp only [pureUpon]); (first | done | exact ⟨rfl, rfl⟩ | exact ⟨trivial, rfl⟩ | rfl)
           (try simp only [Act.put, List.setIfInBounds_toArray, List.set_cons_zero, List.set_cons_succ]))
      first
        | (refine ty_skip rfl rfl ?_; (try simp only [Act.put, List.setIfInBounds_toArray, List.set_cons_zero, List.set_cons_succ]))
        | (refine ty_pure rfl rfl rfl rfl ?_; apply Exists.intro; refine ⟨fun wq hq hk => ?_, ?_⟩
           · simp only [pureAt]; go_simp; (try simp only [↓IntWalk.iteOmega]); (try go_bits); (try simp only [pureUpon]); (first | done | exact ⟨rfl, rfl⟩ | exact ⟨trivial, rfl⟩ | rfl)
           (try simp only [Act.put, List.setIfInBounds_toArray, List.set_cons_zero, List.set_cons_succ]))
      first
        | (refine ty_skip rfl rfl ?_; (try simp only [Act.put, List.setIfInBounds_toArray, List.set_cons_zero, List.set_cons_succ]))
        | (refine ty_pure rfl rfl rfl rfl ?_; apply Exists.intro; refine ⟨fun wq hq hk => ?_, ?_⟩
           · simp only [pureAt]; go_simp; (try simp only [↓IntWalk.iteOmega]); (try go_bits); (try simp only [pureUpon]); (first | done | exact ⟨rfl, rfl⟩ | exact ⟨trivial, rfl⟩ | rfl)
           (try simp only [Act.put, List.setIfInBounds_toArray, List.set_cons_zero, List.set_cons_succ]))
      first
        | (refine ty_skip rfl rfl ?_; (try simp only [Act.put, List.setIfInBounds_toArray, List.set_cons_zero, List.set_cons_succ]))
        | (refine ty_pure rfl rfl rfl rfl ?_; apply Exists.intro; refine ⟨fun wq hq hk => ?_, ?_⟩
           · simp only [pureAt]; go_simp; (try simp only [↓IntWalk.iteOmega]); (try go_bits); (try simp only [pureUpon]); (first | done | exact ⟨rfl, rfl⟩ | exact ⟨trivial, rfl⟩ | rfl)
           (try simp only [Act.put, List.setIfInBounds_toArray, List.set_cons_zero, List.set_cons_succ]))
      first
        | (refine ty_skip rfl rfl ?_; (try simp only [Act.put, List.setIfInBounds_toArray, List.set_cons_zero, List.set_cons_succ]))
        | (refine ty_pure rfl rfl rfl rfl ?_; apply Exists.intro; refine ⟨fun wq hq hk => ?_, ?_⟩
           · simp only [pureAt]; go_simp; (try simp only [↓IntWalk.iteOmega]); (try go_bits); (try simp only [pureUpon]); (first | done | exact ⟨rfl, rfl⟩ | exact ⟨trivial, rfl⟩ | rfl)
           (try simp only [Act.put, List.setIfInBounds_toArray, List.set_cons_zero, List.set_cons_succ]))
      refine ty_nil ?_
      simp only [List.drop_succ_cons, List.drop_zero]
      intro W3 hw3 hΓ
      have HBW3 := Below.thn HB0 hw3.out HB0.size
      clear hΓ hw3 HB0
      go_wp2_with fail
      go_ret2
      exact ⟨by rw [hr.out]; rfl, HBW3⟩
end Go.Proofs.Ytkblkdojmfgneaa

namespace Go.Proofs.Ytkblkdojmfgneaa
open Go.RowKit

set_option maxHeartbeats 8000000 in
set_option maxRecDepth 20000 in
theorem awake04x_any (w : World) : Calls Try.prog 66 #[] w fun e w' => e = .returned (.bool true) ∧ Below w.heap.size w w' := by
  go_enter Try.func66, Try.ntmps66
  go_wp2_with fail
  refine (awake04_any _).mono ?_
  rintro e W1 ⟨rfl, hb⟩
  go_wp2_with fail
  go_ret
  exact ⟨rfl, hb⟩
set_option maxHeartbeats 8000000 in
set_option maxRecDepth 20000 in
theorem awake07_any (w : World) : Calls Try.prog 25 #[] w fun e w' => e = .returned (.bool true) ∧ Below w.heap.size w w' := by
  have nw := fun W => snew_any ⟨#[107, 101, 121]⟩ W (by decide) (by decide)
  have se := fun W => seal_any ⟨#[107, 101, 121]⟩ ⟨#[104, 105]⟩ 1 2 (by decide) (by decide) (by decide) W
  have hss := sealB_size ⟨#[107, 101, 121]⟩ 1 2 ⟨#[104, 105]⟩
  have op := fun W => open_any ⟨#[107, 101, 121]⟩ (sealB ⟨#[107, 101, 121]⟩ 1 2 ⟨#[104, 105]⟩) 1 2 (by decide) (by decide) (by rw [hss]; decide) W
  rw [openB_sealB] at op
  have hsz := boxK_size ⟨#[107, 101, 121]⟩
  have hone := boxK_one ⟨#[107, 101, 121]⟩
  rw [show xcells (kcells (keysN (encK ⟨#[107, 101, 121]⟩) 10)).toArray (macK ⟨#[107, 101, 121]⟩) = boxK ⟨#[107, 101, 121]⟩ from rfl] at nw
  obtain ⟨KB, hKB⟩ : ∃ k, boxK ⟨#[107, 101, 121]⟩ = k := ⟨_, rfl⟩
  obtain ⟨S, hS⟩ : ∃ k, sealB ⟨#[107, 101, 121]⟩ 1 2 ⟨#[104, 105]⟩ = k := ⟨_, rfl⟩
  rw [hKB] at nw se op hsz hone
  rw [hS] at se op hss
  have hsi : (S.size : Int) = 18 := by rw [hss]; rfl
  have NW := Lib.hid nw; have SE := Lib.hid se; have OP := Lib.hid op
  have hzs := zbox_size
  clear nw se op hKB hS hss
  go_enter Try.func25, Try.ntmps25
  go_wp2_with fail
  refine (NW.out _).mono ?_
  rintro e W1 ⟨rfl, hb⟩
  have HB1 := Below.thn (Below.refl w.heap.size w) hb (Nat.le_refl _)
  have hs1 := HB1.size
  clear hb
  go_upto_region 2 with (refine wpList_put rfl 51 _ _ rfl W1.heap.size _ _ 51 rfl rfl (Blk.new _ _ _) (by rw [hsz]; kernel_rfl) (hsz.trans hzs.symm) hone (fun W2 hp2 BW2 => ?_))
  (try simp only [Act.put])
  have HBW2 : Below w.heap.size w W2 := hp2.below hs1 (by (repeat (first | (with_reducible assumption) | (with_reducible exact Below.refl _ _) | with_reducible apply bl_drewN | with_reducible apply Below.drew | (with_reducible apply bl_alloc; focus (first | (simp; done) | (simp; omega) | omega)) | (with_reducible apply bl_set; focus (first | (simp; done) | (simp; omega) | omega)))))
  obtain ⟨bb, hbb⟩ : ∃ b, W1.heap.size = b := ⟨_, rfl⟩
  rw [hbb] at BW2 ⊢
  clear hp2 hbb HB1 hs1
  go_wp2_with (refine wpList_load_row rfl 51 _ rfl bb rfl 51 _ (0, 0) _ BW2.out Try.underlying51 rfl (by rw [hsz]; kernel_rfl) ?_)
  refine (SE.out _).mono ?_
  rintro e W3 ⟨rfl, hb⟩
  have HBW3 := Below.thn HBW2 hb HBW2.size
  have BW3 := BW2.below hb
  clear hb HBW2 BW2
  go_wp2_with (refine wpList_load_row rfl 51 _ rfl bb rfl 51 _ (0, 0) _ BW3.out Try.underlying51 rfl (by rw [hsz]; kernel_rfl) ?_)
  refine (OP.out _).mono ?_
  rintro e W4 ⟨rfl, hb⟩
  have HBW4 := Below.thn HBW3 hb HBW3.size
  have BW4 := BW3.below hb
  clear hb HBW3 BW3
  go_wp2_with fail
  refine (awake04x_any _).mono ?_
  rintro e W5 ⟨rfl, hb⟩
  have HBW5 := Below.thn HBW4 hb HBW4.size
  have BW5 := BW4.below hb
  clear hb HBW4 BW4
  go_wp2_with fail
  refine (awake06x_any _).mono ?_
  rintro e W6 ⟨rfl, hb⟩
  have HBW6 := Below.thn HBW5 hb HBW5.size
  have BW6 := BW5.below hb
  clear hb HBW5 BW5
  go_wp2_with fail
  refine (size_any 0 (by decide) _).mono ?_
  rintro e W7 ⟨rfl, hw7⟩
  subst hw7
  go_wp2_with fail
  go_ret
  exact ⟨rfl, HBW6⟩
set_option maxHeartbeats 4000000 in
theorem awake07x_any (w : World) : Calls Try.prog 74 #[] w fun e w' => e = .returned (.bool true) ∧ Below w.heap.size w w' := by
  go_enter Try.func74, Try.ntmps74
  go_wp2_with fail
  refine (awake07_any _).mono ?_
  rintro e W1 ⟨rfl, hb⟩
  go_wp2_with fail
  go_ret
  exact ⟨rfl, hb⟩
end Go.Proofs.Ytkblkdojmfgneaa
