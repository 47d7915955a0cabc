/- ShaSums: the walk. -/
import Derived.Test.YtgceepjfnncilaaRSha6
namespace Go.Proofs.Ytgceepjfnncilaa
open Go.RowKit

theorem catB_one (T : ByteArray) : catB [T] = T := by
  apply ba_ext; simp [catB]
theorem catB_cut (T : ByteArray) (k : Nat) : catB [T.extract 0 k, ⟨#[]⟩, T.extract k T.size] = T := by
  apply ba_ext
  simp only [catB, List.map_cons, List.map_nil, List.flatten_cons, List.flatten_nil, List.append_nil]
  rw [ba_extract, ba_extract]
  simp only [List.drop_zero, Nat.sub_zero]
  rw [List.take_of_length_le (l := T.data.toList.drop k) (by rw [List.length_drop]; exact Nat.le_refl _)]
  simp
theorem text_row (b : Nat) (xs : List ByteArray) (T : ByteArray) (W : World) (t : TypeId) (B : Blk W b (xs.map Value.string).toArray t) (hx : catB xs = T) (hT : T.size ≤ 10000) (hn : xs.length ≤ 1000) :
    Calls Try.prog 14 #[.slice (some ⟨b, 0, none⟩) xs.length xs.length] W fun e w' => e = .returned (.string (sumB T)) ∧ Below W.heap.size W w' :=
  text_any _ T W hT (fun W' hb => by
    have := join_row b xs W W' t B (by rw [hx]; exact hT) hn hb
    rw [hx] at this; exact this)
theorem sum_row (b : Nat) (xs : List ByteArray) (T : ByteArray) (W : World) (t : TypeId) (B : Blk W b (xs.map Value.string).toArray t) (hx : catB xs = T) (hT : T.size ≤ 10000) (hn : xs.length ≤ 1000) :
    Calls Try.prog 13 #[.slice (some ⟨b, 0, none⟩) xs.length xs.length] W fun e w' => e = .returned (.agg ((sumL T.data.toList).map bval).toArray) ∧ Below W.heap.size W w' :=
  sum_any _ T W hT (fun W' hb => by
    have := join_row b xs W W' t B (by rw [hx]; exact hT) hn hb
    rw [hx] at this; exact this)
set_option maxHeartbeats 4000000 in
set_option maxRecDepth 20000 in
theorem sums_walk (s : ByteArray) (n at' : Nat) (w : World) (hs : s.size ≤ 1000) (hn : n ≤ 255) (ha : at' ≤ 65535) :
    Calls Try.prog 3 #[.string s, .int .u8 n, .int .u16 at'] w fun e w' => e = .returned (.bool true) ∧ Below w.heap.size w w' := by
  have hs1 : ¬ (1000 : Int) < s.size := by omega
  have hrep := fun W => Try.strings_Repeat ⟨#[97]⟩ n W (by omega) (by show 1 * n ≤ _; omega)
  rw [show (⟨#[97]⟩ : ByteArray).data.toList = [97] from rfl, repL] at hrep
  obtain ⟨rp, hrp⟩ : ∃ t : ByteArray, ⟨(List.replicate n 97).toArray⟩ = t := ⟨_, rfl⟩
  have hrps : rp.size = n := by rw [← hrp]; show (List.replicate n 97).length = n; simp
  rw [hrp] at hrep
  obtain ⟨T, hT⟩ : ∃ t, s ++ rp = t := ⟨_, rfl⟩
  have hTs : T.size = s.size + n := by rw [← hT, ByteArray.size_append, hrps]
  have hadd : ∀ W, (Op.stringOp .add s rp).run Try.prog W = .ok (.string T) W := fun W => by rw [← hT]; exact run_string_add_sum W _ _ (by omega)
  obtain ⟨m, hm⟩ : ∃ m, T.size + 1 = m := ⟨_, rfl⟩
  have hmi : (T.size : Int) + 1 = (m : Int) := by omega
  have hm0 : ¬ m = 0 := by omega
  have hm1 : ¬ (m : Int) = 0 := by omega
  have r1 : (at' : Int).tmod (m : Int) = ((at' % m : Nat) : Int) := (Int.ofNat_tmod at' m).symm
  obtain ⟨k, hk⟩ : ∃ k, at' % m = k := ⟨_, rfl⟩
  have hkl : k ≤ T.size := by have := Nat.mod_lt at' (show 0 < m by omega); omega
  rw [hk] at r1
  have hki : (k : Int) ≤ T.size := by omega
  obtain ⟨A1, hA1⟩ : ∃ t, T.extract 0 k = t := ⟨_, rfl⟩
  obtain ⟨A2, hA2⟩ : ∃ t, T.extract k T.size = t := ⟨_, rfl⟩
  have hcut := catB_cut T k
  rw [hA1, hA2] at hcut
  have hTb : T.size ≤ 10000 := by omega
  have ht1 := fun b W t B => text_row b [T] T W t B (catB_one T) hTb (by simp)
  have ht3 := fun b W t B => text_row b [A1, ⟨#[]⟩, A2] T W t B hcut hTb (by simp)
  have hsum := fun b W t B => sum_row b [T] T W t B (catB_one T) hTb (by simp)
  have hrt := fun W => rtext_any T W hTb
  have hwh := fun W => whole_any T W (by omega)
  have hpd := fun W => rpad_any T W (by omega)
  have hlen := sumL_len T.data.toList
  have hXl := sumB_list T
  obtain ⟨L, hL⟩ : ∃ L, sumL T.data.toList = L := ⟨_, rfl⟩
  obtain ⟨X, hX⟩ : ∃ X, sumB T = X := ⟨_, rfl⟩
  obtain ⟨Y, hY⟩ : ∃ S : ByteArray, (⟨(wholeL T.data.toList).toArray⟩ : ByteArray) = S := ⟨_, rfl⟩
  have hXa : X = ⟨L.toArray⟩ := by
    apply ba_ext; rw [← hX, hXl, hL]
  rw [hX] at ht1 ht3 hrt
  rw [hY] at hwh hpd
  rw [hL] at hsum hlen
  obtain ⟨C, hC⟩ : ∃ C, (L.map bval).toArray = C := ⟨_, rfl⟩
  rw [hC] at hsum
  have hCs : C.size = 32 := by rw [← hC]; simp [hlen]
  have hall : C.all (·.oneCell') = true := by
    rw [← hC]
    exact all_oneCell_toArray (fun v hv => by obtain ⟨n, _, rfl⟩ := List.mem_map.1 hv; rfl)
  have HT1 := Lib.hid ht1; have HT3 := Lib.hid ht3; have HSUM := Lib.hid hsum; have HRT := Lib.hid hrt; have HWH := Lib.hid hwh; have HPD := Lib.hid hpd; have HC := Lib.hid hC; have HREP := Lib.hid hrep; have HLEN := Lib.hid hlen; have HXA := Lib.hid hXa
  have hTn : T.size ≤ 1255 := by omega
  clear ht1 ht3 hsum hrt hwh hpd hC hrep hcut hX hY hL hXl hlen hrp hrps hT hTs hm hk hXa
  go_enter Try.func3, Try.ntmps3
  go_wp2_with fail
  refine (awake03_any w).mono ?_
  rintro e W1 ⟨rfl, hb⟩
  have hbs := hb.size
  go_wp2_with fail
  refine (HREP.out _).mono ?_
  rintro e W2 ⟨rfl, hb2⟩
  have HB2 : Below w.heap.size w W2 := Below.thn hb hb2 hbs
  have HB2s := HB2.size
  clear hb hb2 hbs HREP
  go_wp2_with fail
  refine (HSUM.out W2.heap.size _ 9 ((Blk.new' rfl).conv rfl)).mono ?_
  rintro e W3 ⟨rfl, hb3⟩
  have HB3 : Below w.heap.size w W3 := Below.thn (by (repeat (first | (with_reducible assumption) | (with_reducible exact Below.refl _ _) | with_reducible apply bl_drewN | with_reducible apply Below.drew | (with_reducible apply bl_alloc; focus (first | (simp; done) | (simp; omega) | omega)) | (with_reducible apply bl_set; focus (first | (simp; done) | (simp; omega) | omega))))) hb3
  have HB3s := HB3.size
  clear hb3 HSUM HB2 HB2s
  go_upto_region 8 with (refine wpList_put rfl 26 _ _ rfl W3.heap.size _ _ 26 rfl rfl (by (repeat (first | (with_reducible assumption) | (with_reducible apply Blk.new'; (first | (with_reducible rfl) | (simp; done))) | with_reducible apply Blk.alloc | with_reducible apply Blk.set | ((with_reducible apply Blk.set_ne); focus (first | (simp; done) | (simp; omega))) | with_reducible apply Blk.drewN | with_reducible apply Blk.drew))) (by rw [hCs]; kernel_rfl) (hCs.trans rfl) hall (fun W9 hp9 B9 => ?_))
  have HB9 : Below w.heap.size w W9 := hp9.below (by omega) (by (repeat (first | (with_reducible assumption) | (with_reducible exact Below.refl _ _) | with_reducible apply bl_drewN | with_reducible apply Below.drew | (with_reducible apply bl_alloc; focus (first | (simp; done) | (simp; omega) | omega)) | (with_reducible apply bl_set; focus (first | (simp; done) | (simp; omega) | omega)))))
  have R : BRow W9 W3.heap.size L := ⟨B9.lt, fun i hi => by
    rw [B9.cell, ← HC.out, List.getElem?_toArray, List.getElem?_map, List.getD_eq_getElem?_getD, List.getElem?_eq_getElem hi]; rfl, fun i _ => B9.frozen i⟩
  have hcv : ∀ W, BRow W W3.heap.size L → (convert 30 9 (.slice (some ⟨W3.heap.size, 0, none⟩) 32 32)).run Try.prog W = .ok (.string X) W := fun W R => by
    have h5 := Lib.run_convert_whole (P := Try.prog) W 30 5 9 Try.underlying30 Try.underlying5 Try.underlying9 W3.heap.size 0 ⟨L.toArray⟩ (row_bytes R) 32
    rw [show (⟨L.toArray⟩ : ByteArray).size = 32 from HLEN.out, ← HXA.out] at h5
    exact h5
  have HCV := Lib.hid hcv
  clear hp9 B9 HB3 hcv
  obtain ⟨b9, hb9⟩ : ∃ b, W3.heap.size = b := ⟨_, rfl⟩
  rw [hb9] at R HCV ⊢
  go_wp2_with fail
  refine wp_region_typed 33 (fun k => match k with | 2 => [1] | 14 => [13] | _ => []) (fun k => match k with  | _ => false) (fun k => match k with | 1 => some ⟨(Nat), (0), (fun b => .slice (some ⟨b, 0, none⟩) 1 1), (fun b w => Blk w b #[.string T] 9), (fun b w w' h hb => h.below hb)⟩ | 2 => some ⟨(Unit), (()), (fun _ => .string X), (fun _ _ => True), (fun _ _ _ h _ => h)⟩ | 4 => some ⟨(Unit), (()), (fun _ => .string X), (fun _ _ => True), (fun _ _ _ h _ => h)⟩ | 13 => some ⟨(Nat), (0), (fun b => .slice (some ⟨b, 0, none⟩) 3 3), (fun b w => Blk w b #[.string A1, .string ⟨#[]⟩, .string A2] 9), (fun b w w' h hb => h.below hb)⟩ | 14 => some ⟨(Unit), (()), (fun _ => .string X), (fun _ _ => True), (fun _ _ _ h _ => h)⟩ | 16 => some ⟨(Unit), (()), (fun _ => .string X), (fun _ _ => True), (fun _ _ _ h _ => h)⟩ | 21 => some ⟨(Unit), (()), (fun _ => .string X), (fun _ _ => True), (fun _ _ _ h _ => h)⟩ | 23 => some ⟨(Unit), (()), (fun _ => .string X), (fun _ _ => True), (fun _ _ _ h _ => h)⟩ | 28 => some ⟨(Unit), (()), (fun _ => .string Y), (fun _ _ => True), (fun _ _ _ h _ => h)⟩ | 30 => some ⟨(Unit), (()), (fun _ => .string Y), (fun _ _ => True), (fun _ _ _ h _ => h)⟩ | _ => none) (by kernel_rfl) (by kernel_rfl) (by intro d0 v0 c0 a0 w0 h0; first | (cases d0 <;> exact h0) | exact hP _ _ _ _ _ h0) ?_
  rw [show List.range 33 = [0, 1, 2, 3, 4, 5, 6, 7, 8, 9, 10, 11, 12, 13, 14, 15, 16, 17, 18, 19, 20, 21, 22, 23, 24, 25, 26, 27, 28, 29, 30, 31, 32] from rfl]
  first
    | (refine ty_skip rfl rfl ?_; (try simp only [Act.put, List.setIfInBounds_toArray, List.set_cons_zero, List.set_cons_succ]))
    | (refine ty_pure rfl rfl rfl rfl ?_; apply Exists.intro; refine ⟨fun wq hq hk => ?_, ?_⟩
       · simp only [pureAt]; go_simp; (try simp only [↓IntWalk.iteOmega]); (try go_bits); (try simp only [pureUpon]); (first | done | exact ⟨rfl, rfl⟩ | exact ⟨trivial, rfl⟩ | rfl)
       (try simp only [Act.put, List.setIfInBounds_toArray, List.set_cons_zero, List.set_cons_succ]))
  refine ty_rel rfl rfl _ rfl rfl (fun wq hq hk => ?_) ?_
  · simp only [relAt]; go_simp; (try simp only [relUpon]); exact .mk ((Below.refl _ _).alloc (Nat.le_refl _) _) wq.heap.size rfl (Blk.new wq _ _)
  rintro (b1 : Nat)
  (try simp only [Act.put, List.setIfInBounds_toArray, List.set_cons_zero, List.set_cons_succ])
  refine ty_rel rfl rfl _ rfl rfl (fun wq hq hk => ?_) ?_
  · have hr := hk _ (.head _) rfl; simp only [relAt]; go_simp; (try simp only [relUpon]); (go_at_call 14; refine (HT1.out _ _ 9 (hr.conv rfl)).mono ?_; rintro e w9 ⟨rfl, hb9⟩; exact ⟨_, rfl, .mk hb9 () rfl trivial⟩)
  rintro ⟨⟩
  (try simp only [Act.put, List.setIfInBounds_toArray, List.set_cons_zero, List.set_cons_succ])
  first
    | (refine ty_skip rfl rfl ?_; (try simp only [Act.put, List.setIfInBounds_toArray, List.set_cons_zero, List.set_cons_succ]))
    | (refine ty_pure rfl rfl rfl rfl ?_; apply Exists.intro; refine ⟨fun wq hq hk => ?_, ?_⟩
       · simp only [pureAt]; go_simp; (try simp only [↓IntWalk.iteOmega]); (try go_bits); (try simp only [pureUpon]); (first | done | exact ⟨rfl, rfl⟩ | exact ⟨trivial, rfl⟩ | rfl)
       (try simp only [Act.put, List.setIfInBounds_toArray, List.set_cons_zero, List.set_cons_succ]))
  refine ty_rel rfl rfl _ rfl rfl (fun wq hq hk => ?_) ?_
  · simp only [relAt]; go_simp; (try simp only [relUpon]); (go_at_call 15; refine (HRT.out _).mono ?_; rintro e w9 ⟨rfl, hb9⟩; exact ⟨_, rfl, .mk hb9 () rfl trivial⟩)
  rintro ⟨⟩
  (try simp only [Act.put, List.setIfInBounds_toArray, List.set_cons_zero, List.set_cons_succ])
  first
    | (refine ty_skip rfl rfl ?_; (try simp only [Act.put, List.setIfInBounds_toArray, List.set_cons_zero, List.set_cons_succ]))
    | (refine ty_pure rfl rfl rfl rfl ?_; apply Exists.intro; refine ⟨fun wq hq hk => ?_, ?_⟩
       · simp only [pureAt]; go_simp; (try simp only [↓IntWalk.iteOmega]); (try go_bits); (try simp only [pureUpon]); (first | done | exact ⟨rfl, rfl⟩ | exact ⟨trivial, rfl⟩ | rfl)
       (try simp only [Act.put, List.setIfInBounds_toArray, List.set_cons_zero, List.set_cons_succ]))
  first
    | (refine ty_skip rfl rfl ?_; (try simp only [Act.put, List.setIfInBounds_toArray, List.set_cons_zero, List.set_cons_succ]))
    | (refine ty_pure rfl rfl rfl rfl ?_; apply Exists.intro; refine ⟨fun wq hq hk => ?_, ?_⟩
       · simp only [pureAt]; go_simp; (try simp only [↓IntWalk.iteOmega]); (try go_bits); (try simp only [pureUpon]); (first | done | exact ⟨rfl, rfl⟩ | exact ⟨trivial, rfl⟩ | rfl)
       (try simp only [Act.put, List.setIfInBounds_toArray, List.set_cons_zero, List.set_cons_succ]))
  first
    | (refine ty_skip rfl rfl ?_; (try simp only [Act.put, List.setIfInBounds_toArray, List.set_cons_zero, List.set_cons_succ]))
    | (refine ty_pure rfl rfl rfl rfl ?_; apply Exists.intro; refine ⟨fun wq hq hk => ?_, ?_⟩
       · simp only [pureAt]; go_simp; (try simp only [↓IntWalk.iteOmega]); (try go_bits); (try simp only [pureUpon]); (first | done | exact ⟨rfl, rfl⟩ | exact ⟨trivial, rfl⟩ | rfl)
       (try simp only [Act.put, List.setIfInBounds_toArray, List.set_cons_zero, List.set_cons_succ]))
  first
    | (refine ty_skip rfl rfl ?_; (try simp only [Act.put, List.setIfInBounds_toArray, List.set_cons_zero, List.set_cons_succ]))
    | (refine ty_pure rfl rfl rfl rfl ?_; apply Exists.intro; refine ⟨fun wq hq hk => ?_, ?_⟩
       · simp only [pureAt]; go_simp; (try simp only [↓IntWalk.iteOmega]); (try go_bits); (try simp only [pureUpon]); (first | done | exact ⟨rfl, rfl⟩ | exact ⟨trivial, rfl⟩ | rfl)
       (try simp only [Act.put, List.setIfInBounds_toArray, List.set_cons_zero, List.set_cons_succ]))
  first
    | (refine ty_skip rfl rfl ?_; (try simp only [Act.put, List.setIfInBounds_toArray, List.set_cons_zero, List.set_cons_succ]))
    | (refine ty_pure rfl rfl rfl rfl ?_; apply Exists.intro; refine ⟨fun wq hq hk => ?_, ?_⟩
       · simp only [pureAt]; go_simp; (try simp only [↓IntWalk.iteOmega]); (try go_bits); (try simp only [pureUpon]); (first | done | exact ⟨rfl, rfl⟩ | exact ⟨trivial, rfl⟩ | rfl)
       (try simp only [Act.put, List.setIfInBounds_toArray, List.set_cons_zero, List.set_cons_succ]))
  first
    | (refine ty_skip rfl rfl ?_; (try simp only [Act.put, List.setIfInBounds_toArray, List.set_cons_zero, List.set_cons_succ]))
    | (refine ty_pure rfl rfl rfl rfl ?_; apply Exists.intro; refine ⟨fun wq hq hk => ?_, ?_⟩
       · simp only [pureAt]; go_simp; (try simp only [↓IntWalk.iteOmega]); (try go_bits); (try simp only [pureUpon]); (first | done | exact ⟨rfl, rfl⟩ | exact ⟨trivial, rfl⟩ | rfl)
       (try simp only [Act.put, List.setIfInBounds_toArray, List.set_cons_zero, List.set_cons_succ]))
  first
    | (refine ty_skip rfl rfl ?_; (try simp only [Act.put, List.setIfInBounds_toArray, List.set_cons_zero, List.set_cons_succ]))
    | (refine ty_pure rfl rfl rfl rfl ?_; apply Exists.intro; refine ⟨fun wq hq hk => ?_, ?_⟩
       · simp only [pureAt]; go_simp; (try simp only [↓IntWalk.iteOmega]); (try go_bits); (try simp only [pureUpon]); (first | done | exact ⟨rfl, rfl⟩ | exact ⟨trivial, rfl⟩ | rfl)
       (try simp only [Act.put, List.setIfInBounds_toArray, List.set_cons_zero, List.set_cons_succ]))
  first
    | (refine ty_skip rfl rfl ?_; (try simp only [Act.put, List.setIfInBounds_toArray, List.set_cons_zero, List.set_cons_succ]))
    | (refine ty_pure rfl rfl rfl rfl ?_; apply Exists.intro; refine ⟨fun wq hq hk => ?_, ?_⟩
       · simp only [pureAt]; go_simp; (try simp only [↓IntWalk.iteOmega]); (try go_bits); (try simp only [pureUpon]); (first | done | exact ⟨rfl, rfl⟩ | exact ⟨trivial, rfl⟩ | rfl)
       (try simp only [Act.put, List.setIfInBounds_toArray, List.set_cons_zero, List.set_cons_succ]))
  refine ty_rel rfl rfl _ rfl rfl (fun wq hq hk => ?_) ?_
  · simp only [relAt]; go_simp; (try simp only [relUpon]); exact .mk ((Below.refl _ _).alloc (Nat.le_refl _) _) wq.heap.size rfl (Blk.new wq _ _)
  rintro (b13 : Nat)
  (try simp only [Act.put, List.setIfInBounds_toArray, List.set_cons_zero, List.set_cons_succ])
  refine ty_rel rfl rfl _ rfl rfl (fun wq hq hk => ?_) ?_
  · have hr := hk _ (.head _) rfl; simp only [relAt]; go_simp; (try simp only [relUpon]); (go_at_call 14; refine (HT3.out _ _ 9 (hr.conv rfl)).mono ?_; rintro e w9 ⟨rfl, hb9⟩; exact ⟨_, rfl, .mk hb9 () rfl trivial⟩)
  rintro ⟨⟩
  (try simp only [Act.put, List.setIfInBounds_toArray, List.set_cons_zero, List.set_cons_succ])
  first
    | (refine ty_skip rfl rfl ?_; (try simp only [Act.put, List.setIfInBounds_toArray, List.set_cons_zero, List.set_cons_succ]))
    | (refine ty_pure rfl rfl rfl rfl ?_; apply Exists.intro; refine ⟨fun wq hq hk => ?_, ?_⟩
       · simp only [pureAt]; go_simp; (try simp only [↓IntWalk.iteOmega]); (try go_bits); (try simp only [pureUpon]); (first | done | exact ⟨rfl, rfl⟩ | exact ⟨trivial, rfl⟩ | rfl)
       (try simp only [Act.put, List.setIfInBounds_toArray, List.set_cons_zero, List.set_cons_succ]))
  refine ty_rel rfl rfl _ rfl rfl (fun wq hq hk => ?_) ?_
  · simp only [relAt]; go_simp; (try simp only [relUpon]); (go_at_call 15; refine (HRT.out _).mono ?_; rintro e w9 ⟨rfl, hb9⟩; exact ⟨_, rfl, .mk hb9 () rfl trivial⟩)
  rintro ⟨⟩
  (try simp only [Act.put, List.setIfInBounds_toArray, List.set_cons_zero, List.set_cons_succ])
  first
    | (refine ty_skip rfl rfl ?_; (try simp only [Act.put, List.setIfInBounds_toArray, List.set_cons_zero, List.set_cons_succ]))
    | (refine ty_pure rfl rfl rfl rfl ?_; apply Exists.intro; refine ⟨fun wq hq hk => ?_, ?_⟩
       · simp only [pureAt]; go_simp; (try simp only [↓IntWalk.iteOmega]); (try go_bits); (try simp only [pureUpon]); (first | done | exact ⟨rfl, rfl⟩ | exact ⟨trivial, rfl⟩ | rfl)
       (try simp only [Act.put, List.setIfInBounds_toArray, List.set_cons_zero, List.set_cons_succ]))
  first
    | (refine ty_skip rfl rfl ?_; (try simp only [Act.put, List.setIfInBounds_toArray, List.set_cons_zero, List.set_cons_succ]))
    | (refine ty_pure rfl rfl rfl rfl ?_; apply Exists.intro; refine ⟨fun wq hq hk => ?_, ?_⟩
       · simp only [pureAt]; go_simp; (try simp only [↓IntWalk.iteOmega]); (try go_bits); (try simp only [pureUpon]); (first | done | exact ⟨rfl, rfl⟩ | exact ⟨trivial, rfl⟩ | rfl)
       (try simp only [Act.put, List.setIfInBounds_toArray, List.set_cons_zero, List.set_cons_succ]))
  first
    | (refine ty_skip rfl rfl ?_; (try simp only [Act.put, List.setIfInBounds_toArray, List.set_cons_zero, List.set_cons_succ]))
    | (refine ty_pure rfl rfl rfl rfl ?_; apply Exists.intro; refine ⟨fun wq hq hk => ?_, ?_⟩
       · simp only [pureAt]; go_simp; (try simp only [↓IntWalk.iteOmega]); (try go_bits); (try simp only [pureUpon]); (first | done | exact ⟨rfl, rfl⟩ | exact ⟨trivial, rfl⟩ | rfl)
       (try simp only [Act.put, List.setIfInBounds_toArray, List.set_cons_zero, List.set_cons_succ]))
  first
    | (refine ty_skip rfl rfl ?_; (try simp only [Act.put, List.setIfInBounds_toArray, List.set_cons_zero, List.set_cons_succ]))
    | (refine ty_pure rfl rfl rfl rfl ?_; apply Exists.intro; refine ⟨fun wq hq hk => ?_, ?_⟩
       · simp only [pureAt]; go_simp; (try simp only [↓IntWalk.iteOmega]); (try go_bits); (try simp only [pureUpon]); (first | done | exact ⟨rfl, rfl⟩ | exact ⟨trivial, rfl⟩ | rfl)
       (try simp only [Act.put, List.setIfInBounds_toArray, List.set_cons_zero, List.set_cons_succ]))
  refine ty_rel rfl rfl _ rfl rfl (fun wq hq hk => ?_) ?_
  · have hc5 := HCV.out wq (R.below hq.out); simp only [relAt]; go_simp; (try simp only [relUpon]); exact .mk (Below.refl _ _) () rfl trivial
  rintro ⟨⟩
  (try simp only [Act.put, List.setIfInBounds_toArray, List.set_cons_zero, List.set_cons_succ])
  first
    | (refine ty_skip rfl rfl ?_; (try simp only [Act.put, List.setIfInBounds_toArray, List.set_cons_zero, List.set_cons_succ]))
    | (refine ty_pure rfl rfl rfl rfl ?_; apply Exists.intro; refine ⟨fun wq hq hk => ?_, ?_⟩
       · simp only [pureAt]; go_simp; (try simp only [↓IntWalk.iteOmega]); (try go_bits); (try simp only [pureUpon]); (first | done | exact ⟨rfl, rfl⟩ | exact ⟨trivial, rfl⟩ | rfl)
       (try simp only [Act.put, List.setIfInBounds_toArray, List.set_cons_zero, List.set_cons_succ]))
  refine ty_rel rfl rfl _ rfl rfl (fun wq hq hk => ?_) ?_
  · simp only [relAt]; go_simp; (try simp only [relUpon]); (go_at_call 15; refine (HRT.out _).mono ?_; rintro e w9 ⟨rfl, hb9⟩; exact ⟨_, rfl, .mk hb9 () rfl trivial⟩)
  rintro ⟨⟩
  (try simp only [Act.put, List.setIfInBounds_toArray, List.set_cons_zero, List.set_cons_succ])
  first
    | (refine ty_skip rfl rfl ?_; (try simp only [Act.put, List.setIfInBounds_toArray, List.set_cons_zero, List.set_cons_succ]))
    | (refine ty_pure rfl rfl rfl rfl ?_; apply Exists.intro; refine ⟨fun wq hq hk => ?_, ?_⟩
       · simp only [pureAt]; go_simp; (try simp only [↓IntWalk.iteOmega]); (try go_bits); (try simp only [pureUpon]); (first | done | exact ⟨rfl, rfl⟩ | exact ⟨trivial, rfl⟩ | rfl)
       (try simp only [Act.put, List.setIfInBounds_toArray, List.set_cons_zero, List.set_cons_succ]))
  first
    | (refine ty_skip rfl rfl ?_; (try simp only [Act.put, List.setIfInBounds_toArray, List.set_cons_zero, List.set_cons_succ]))
    | (refine ty_pure rfl rfl rfl rfl ?_; apply Exists.intro; refine ⟨fun wq hq hk => ?_, ?_⟩
       · simp only [pureAt]; go_simp; (try simp only [↓IntWalk.iteOmega]); (try go_bits); (try simp only [pureUpon]); (first | done | exact ⟨rfl, rfl⟩ | exact ⟨trivial, rfl⟩ | rfl)
       (try simp only [Act.put, List.setIfInBounds_toArray, List.set_cons_zero, List.set_cons_succ]))
  first
    | (refine ty_skip rfl rfl ?_; (try simp only [Act.put, List.setIfInBounds_toArray, List.set_cons_zero, List.set_cons_succ]))
    | (refine ty_pure rfl rfl rfl rfl ?_; apply Exists.intro; refine ⟨fun wq hq hk => ?_, ?_⟩
       · simp only [pureAt]; go_simp; (try simp only [↓IntWalk.iteOmega]); (try go_bits); (try simp only [pureUpon]); (first | done | exact ⟨rfl, rfl⟩ | exact ⟨trivial, rfl⟩ | rfl)
       (try simp only [Act.put, List.setIfInBounds_toArray, List.set_cons_zero, List.set_cons_succ]))
  first
    | (refine ty_skip rfl rfl ?_; (try simp only [Act.put, List.setIfInBounds_toArray, List.set_cons_zero, List.set_cons_succ]))
    | (refine ty_pure rfl rfl rfl rfl ?_; apply Exists.intro; refine ⟨fun wq hq hk => ?_, ?_⟩
       · simp only [pureAt]; go_simp; (try simp only [↓IntWalk.iteOmega]); (try go_bits); (try simp only [pureUpon]); (first | done | exact ⟨rfl, rfl⟩ | exact ⟨trivial, rfl⟩ | rfl)
       (try simp only [Act.put, List.setIfInBounds_toArray, List.set_cons_zero, List.set_cons_succ]))
  refine ty_rel rfl rfl _ rfl rfl (fun wq hq hk => ?_) ?_
  · simp only [relAt]; go_simp; (try simp only [relUpon]); (go_at_call 16; refine (HWH.out _).mono ?_; rintro e w9 ⟨rfl, hb9⟩; exact ⟨_, rfl, .mk hb9 () rfl trivial⟩)
  rintro ⟨⟩
  (try simp only [Act.put, List.setIfInBounds_toArray, List.set_cons_zero, List.set_cons_succ])
  first
    | (refine ty_skip rfl rfl ?_; (try simp only [Act.put, List.setIfInBounds_toArray, List.set_cons_zero, List.set_cons_succ]))
    | (refine ty_pure rfl rfl rfl rfl ?_; apply Exists.intro; refine ⟨fun wq hq hk => ?_, ?_⟩
       · simp only [pureAt]; go_simp; (try simp only [↓IntWalk.iteOmega]); (try go_bits); (try simp only [pureUpon]); (first | done | exact ⟨rfl, rfl⟩ | exact ⟨trivial, rfl⟩ | rfl)
       (try simp only [Act.put, List.setIfInBounds_toArray, List.set_cons_zero, List.set_cons_succ]))
  refine ty_rel rfl rfl _ rfl rfl (fun wq hq hk => ?_) ?_
  · simp only [relAt]; go_simp; (try simp only [relUpon]); (go_at_call 17; refine (HPD.out _).mono ?_; rintro e w9 ⟨rfl, hb9⟩; exact ⟨_, rfl, .mk hb9 () rfl trivial⟩)
  rintro ⟨⟩
  (try simp only [Act.put, List.setIfInBounds_toArray, List.set_cons_zero, List.set_cons_succ])
  first
    | (refine ty_skip rfl rfl ?_; (try simp only [Act.put, List.setIfInBounds_toArray, List.set_cons_zero, List.set_cons_succ]))
    | (refine ty_pure rfl rfl rfl rfl ?_; apply Exists.intro; refine ⟨fun wq hq hk => ?_, ?_⟩
       · simp only [pureAt]; go_simp; (try simp only [↓IntWalk.iteOmega]); (try go_bits); (try simp only [pureUpon]); (first | done | exact ⟨rfl, rfl⟩ | exact ⟨trivial, rfl⟩ | rfl)
       (try simp only [Act.put, List.setIfInBounds_toArray, List.set_cons_zero, List.set_cons_succ]))
  first
    | (refine ty_skip rfl rfl ?_; (try simp only [Act.put, List.setIfInBounds_toArray, List.set_cons_zero, List.set_cons_succ]))
    | (refine ty_pure rfl rfl rfl rfl ?_; apply Exists.intro; refine ⟨fun wq hq hk => ?_, ?_⟩
       · simp only [pureAt]; go_simp; (try simp only [↓IntWalk.iteOmega]); (try go_bits); (try simp only [pureUpon]); (first | done | exact ⟨rfl, rfl⟩ | exact ⟨trivial, rfl⟩ | rfl)
       (try simp only [Act.put, List.setIfInBounds_toArray, List.set_cons_zero, List.set_cons_succ]))
  refine ty_nil ?_
  simp only [List.drop_succ_cons, List.drop_zero]
  intro W8 hw8 hΓ
  have HB8 := Below.thn HB9 hw8.out HB9.size
  clear hΓ hw8
  go_wp2_with fail
  go_ret
  exact ⟨by simp, HB8⟩
set_option maxHeartbeats 4000000 in
set_option maxRecDepth 20000 in
theorem sums_long (s : ByteArray) (n at' : Nat) (w : World) (h : 1000 < s.size) (h1 : s.size < 2 ^ 62) : Calls Try.prog 3 #[.string s, .int .u8 n, .int .u16 at'] w fun e w' => e = .returned (.bool true) ∧ Below w.heap.size w w' := by
  have hmx : (1000 : Int) < s.size := by omega
  clear h h1
  go_enter Try.func3, Try.ntmps3
  go_wp2_with fail
  refine (awake03_any w).mono ?_
  rintro e W1 ⟨rfl, hb⟩
  go_wp2_with fail
  go_ret
  exact ⟨rfl, hb⟩
end Go.Proofs.Ytgceepjfnncilaa
