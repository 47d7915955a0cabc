/- The plain law of deltas. -/
import Derived.Test.YtgdmeaoghhkknaaRTxt2
namespace Go.Proofs.Ytgdmeaoghhkknaa

/-- How many places differ, one behind the other. -/
def runL : List UInt8 → List UInt8 → Nat
  | x :: a, y :: b => if x = y then 0 else runL a b + 1
  | _, _ => 0
theorem runL_le : ∀ (a b : List UInt8), runL a b ≤ a.length ∧ runL a b ≤ b.length
  | x :: a, y :: b => by
    unfold runL
    have := runL_le a b
    split <;> simp <;> omega
  | [], _ => by simp [runL]
  | _ :: _, [] => by simp [runL]
theorem runL_eq : ∀ (a b : List UInt8) (n : Nat), a.length = b.length → n ≤ a.length → (∀ i, i < n → a.getD i 0 ≠ b.getD i 0) → (n = a.length ∨ a.getD n 0 = b.getD n 0) → runL a b = n
  | x :: a, y :: b, n, hl, hn, hd, he => by
    unfold runL
    cases n with
    | zero =>
      rcases he with h | h
      · simp at h
      · simp at h; rw [if_pos h]
    | succ n =>
      rw [if_neg (by have := hd 0 (by omega); simpa using this)]
      rw [runL_eq a b n (by simpa using hl) (by simpa using hn) (fun i hi => by have := hd (i + 1) (by omega); simpa using this) (he.imp (by simp) (by simp))]
  | [], [], n, _, hn, _, _ => by simp at hn; subst hn; rfl
  | [], _ :: _, _, hl, _, _, _ => by simp at hl
  | _ :: _, [], _, hl, _, _, _ => by simp at hl
theorem runL_diff : ∀ (a b : List UInt8) (i : Nat), i < runL a b → a.getD i 0 ≠ b.getD i 0
  | x :: a, y :: b, i, h => by
    unfold runL at h
    split at h
    · omega
    · rename_i hxy
      cases i with
      | zero => simpa using hxy
      | succ i => have := runL_diff a b i (by omega); simpa using this
  | [], _, i, h => by simp [runL] at h
  | _ :: _, [], i, h => by simp [runL] at h
theorem runL_stop : ∀ (a b : List UInt8), a.length = b.length → runL a b < a.length → a.getD (runL a b) 0 = b.getD (runL a b) 0
  | x :: a, y :: b, hl, h => by
    by_cases hxy : x = y
    · have : runL (x :: a) (y :: b) = 0 := by simp [runL, hxy]
      rw [this]; simpa using hxy
    · have e : runL (x :: a) (y :: b) = runL a b + 1 := by simp [runL, hxy]
      rw [e] at h ⊢
      have := runL_stop a b (by simpa using hl) (by simpa using h)
      simpa using this
  | [], _, _, h => by simp at h
  | _ :: _, [], hl, _ => by simp at hl

/-- A row's part of a delta, from column x on, k columns being left. -/
def encR (y x : Nat) (a b : List UInt8) (k : Nat) : List UInt8 :=
  match k with
  | 0 => []
  | k + 1 =>
    if runL (a.drop x) (b.drop x) = 0 then encR y (x + 1) a b k
    else [UInt8.ofNat y, UInt8.ofNat x, UInt8.ofNat (runL (a.drop x) (b.drop x))] ++ (b.drop x).take (runL (a.drop x) (b.drop x)) ++ encR y (x + runL (a.drop x) (b.drop x) + 1) a b (k - runL (a.drop x) (b.drop x))
termination_by k
theorem encR_zero (y x : Nat) (a b : List UInt8) : encR y x a b 0 = [] := by rw [encR]
theorem encR_same (y x : Nat) (a b : List UInt8) (k : Nat) (h : runL (a.drop x) (b.drop x) = 0) : encR y x a b (k + 1) = encR y (x + 1) a b k := by
  rw [encR, if_pos h]
theorem encR_run (y x : Nat) (a b : List UInt8) (k n : Nat) (h : runL (a.drop x) (b.drop x) = n) (hn : n ≠ 0) :
    encR y x a b (k + 1) = [UInt8.ofNat y, UInt8.ofNat x, UInt8.ofNat n] ++ (b.drop x).take n ++ encR y (x + n + 1) a b (k - n) := by
  rw [encR, if_neg (by rw [h]; exact hn), h]
def rowOf (l : List UInt8) (w y : Nat) : List UInt8 := (l.drop (y * w)).take w
/-- All rows' parts, from row y on, k rows being left. -/
def encF (w : Nat) (a b : List UInt8) : Nat → Nat → List UInt8
  | _, 0 => []
  | y, k + 1 => encR y 0 (rowOf a w y) (rowOf b w y) w ++ encF w a b (y + 1) k
def ofL (s t : Scr) : List UInt8 :=
  if t.w ≠ s.w ∨ t.h ≠ s.h then 102 :: (txtS t).data.toList
  else [100, UInt8.ofNat t.x, UInt8.ofNat t.y] ++ encF s.w s.b t.b 0 s.h
/-- What a delta's parts make of a screen's bytes. -/
def appD (w h : Nat) (cells : List UInt8) (s : List UInt8) : Option (List UInt8) :=
  match s with
  | [] => some cells
  | y :: x :: n :: r =>
    if y.toNat < h ∧ x.toNat + n.toNat ≤ w ∧ n.toNat ≤ r.length then
      appD w h (cells.take (y.toNat * w + x.toNat) ++ r.take n.toNat ++ cells.drop (y.toNat * w + x.toNat + n.toNat)) (r.drop n.toNat)
    else none
  | _ => none
termination_by s.length
decreasing_by simp; omega
def chkL (s : Scr) (d t : List UInt8) : Option Scr :=
  match parseS ⟨t.toArray⟩ with
  | none => none
  | some b => if ofL s b = d then some b else none
def doL (s : Scr) (d : List UInt8) : Option Scr :=
  match d with
  | c :: r =>
    if c = 102 then chkL s d r
    else match c, r with
      | 100, x :: y :: r => match appD s.w s.h s.b r with
        | none => none
        | some cells => chkL s d ([UInt8.ofNat s.w, UInt8.ofNat s.h, x, y] ++ cells)
      | _, _ => none
  | [] => none

/-! What a delta makes. -/
theorem appD_nil (w h : Nat) (cells : List UInt8) : appD w h cells [] = some cells := by rw [appD]
theorem appD_rec (w h : Nat) (cells bs rest : List UInt8) (y x n : Nat) (hy : y < h) (hx : x + n ≤ w) (hn : bs.length = n) (h8 : h ≤ 255) (w8 : w ≤ 255) :
    appD w h cells ([UInt8.ofNat y, UInt8.ofNat x, UInt8.ofNat n] ++ bs ++ rest) = appD w h (cells.take (y * w + x) ++ bs ++ cells.drop (y * w + x + n)) rest := by
  have e : ∀ n : Nat, n ≤ 255 → (UInt8.ofNat n).toNat = n := fun n hn => by rw [UInt8.toNat_ofNat']; omega
  have e1 := e y (by omega); have e2 := e x (by omega); have e3 := e n (by omega)
  show appD w h cells (UInt8.ofNat y :: UInt8.ofNat x :: UInt8.ofNat n :: (bs ++ rest)) = _
  rw [appD, e1, e2, e3, if_pos ⟨hy, hx, by simp; omega⟩]
  have h1 : (bs ++ rest).take n = bs := by rw [List.take_append_of_le_length (by omega), List.take_of_length_le (by omega)]
  have h2 : (bs ++ rest).drop n = rest := by rw [List.drop_append_of_le_length (by omega), List.drop_of_length_le (by omega), List.nil_append]
  rw [h1, h2]
/-- The one's bytes to p, the other's behind. -/
def mixL (s t : List UInt8) (p : Nat) : List UInt8 := t.take p ++ s.drop p
theorem mix_next (s t : List UInt8) (p : Nat) (hs : p < s.length) (ht : s.length = t.length) (h : s.getD p 0 = t.getD p 0) : mixL s t p = mixL s t (p + 1) := by
  unfold mixL
  rw [List.take_add_one, List.getElem?_eq_getElem (by omega), List.append_assoc]
  congr 1
  rw [List.drop_eq_getElem_cons hs]
  rw [List.getD_eq_getElem?_getD, List.getD_eq_getElem?_getD, List.getElem?_eq_getElem hs, List.getElem?_eq_getElem (by omega)] at h
  simp at h
  simp [h]
theorem mix_patch (s t : List UInt8) (p n : Nat) (hp : p + n ≤ s.length) (ht : s.length = t.length) : (mixL s t p).take p ++ (t.drop p).take n ++ (mixL s t p).drop (p + n) = mixL s t (p + n) := by
  unfold mixL
  have h1 : (t.take p).length = p := by rw [List.length_take]; omega
  have hA : (t.take p ++ s.drop p).take p = t.take p := by rw [List.take_append_of_le_length (by omega), List.take_of_length_le (by omega)]
  have hB : (t.take p ++ s.drop p).drop (p + n) = s.drop (p + n) := by
    rw [List.drop_append, List.drop_of_length_le (by omega), List.nil_append, h1, List.drop_drop]
    congr 1; omega
  rw [hA, hB, List.take_add]
theorem rowOf_drop (l : List UInt8) (w y x : Nat) : (rowOf l w y).drop x = (l.drop (y * w + x)).take (w - x) := by
  unfold rowOf
  rw [List.drop_take, List.drop_drop]
theorem row_end {w h y : Nat} (hy : y < h) : y * w + w ≤ w * h := by
  have h5 : (y + 1) * w ≤ w * h := by rw [Nat.mul_comm w]; exact Nat.mul_le_mul_right _ hy
  rw [Nat.succ_mul] at h5; exact h5
theorem encR_app (w h : Nat) (s t rest : List UInt8) (y : Nat) (hs : s.length = w * h) (ht : t.length = w * h) (hy : y < h) (h8 : h ≤ 255) (w8 : w ≤ 255) :
    ∀ (k x : Nat), x + k = w → appD w h (mixL s t (y * w + x)) (encR y x (rowOf s w y) (rowOf t w y) k ++ rest) = appD w h (mixL s t (y * w + w)) rest := by
  intro k
  induction k using Nat.strongRecOn with
  | ind k ih =>
    intro x hx
    have hwe := row_end (w := w) hy
    cases k with
    | zero => rw [encR_zero, List.nil_append, show x = w by omega]
    | succ k =>
      have la : ((rowOf s w y).drop x).length = k + 1 := by rw [rowOf_drop, List.length_take, List.length_drop]; omega
      have lb : ((rowOf t w y).drop x).length = k + 1 := by rw [rowOf_drop, List.length_take, List.length_drop]; omega
      have ga : ∀ i, i < k + 1 → ((rowOf s w y).drop x).getD i 0 = s.getD (y * w + x + i) 0 := fun i hi => by
        rw [rowOf_drop, List.getD_eq_getElem?_getD, List.getElem?_take_of_lt (by omega), List.getElem?_drop, ← List.getD_eq_getElem?_getD]
      have gb : ∀ i, i < k + 1 → ((rowOf t w y).drop x).getD i 0 = t.getD (y * w + x + i) 0 := fun i hi => by
        rw [rowOf_drop, List.getD_eq_getElem?_getD, List.getElem?_take_of_lt (by omega), List.getElem?_drop, ← List.getD_eq_getElem?_getD]
      obtain ⟨n, hn⟩ : ∃ n, runL ((rowOf s w y).drop x) ((rowOf t w y).drop x) = n := ⟨_, rfl⟩
      have hle := (runL_le ((rowOf s w y).drop x) ((rowOf t w y).drop x)).1
      have hst := runL_stop ((rowOf s w y).drop x) ((rowOf t w y).drop x) (by omega)
      rw [hn, la] at hle hst
      have hst2 : n < k + 1 → s.getD (y * w + x + n) 0 = t.getD (y * w + x + n) 0 := fun h5 => by rw [← ga n h5, ← gb n h5]; exact hst h5
      by_cases h0 : n = 0
      · subst h0
        rw [encR_same _ _ _ _ _ hn, mix_next s t (y * w + x) (by omega) (by omega) (hst2 (by omega))]
        exact ih k (by omega) (x + 1) (by omega)
      · rw [encR_run _ _ _ _ _ _ hn h0, List.append_assoc, appD_rec w h _ _ _ y x n hy (by omega) (by rw [List.length_take, lb]; omega) h8 w8]
        have hb : ((rowOf t w y).drop x).take n = (t.drop (y * w + x)).take n := by rw [rowOf_drop, List.take_take, Nat.min_eq_left (by omega)]
        rw [hb, mix_patch s t (y * w + x) n (by omega) (by omega)]
        by_cases he : n = k + 1
        · rw [show k - n = 0 by omega, encR_zero, List.nil_append, show y * w + x + n = y * w + w by omega]
        · rw [mix_next s t (y * w + x + n) (by omega) (by omega) (hst2 (by omega))]
          have h9 := ih (k - n) (by omega) (x + n + 1) (by omega)
          rw [show y * w + (x + n + 1) = y * w + x + n + 1 by omega] at h9
          exact h9
theorem encF_app (w h : Nat) (s t : List UInt8) (hs : s.length = w * h) (ht : t.length = w * h) (h8 : h ≤ 255) (w8 : w ≤ 255) :
    ∀ (k y : Nat), y + k = h → appD w h (mixL s t (y * w)) (encF w s t y k) = some t
  | 0, y, hy => by
    rw [encF, appD_nil]
    have : y * w = t.length := by rw [ht, Nat.mul_comm w]; congr 1
    rw [this]
    unfold mixL
    rw [List.take_of_length_le (Nat.le_refl _), List.drop_of_length_le (by omega), List.append_nil]
  | k + 1, y, hy => by
    rw [encF]
    have h5 := encR_app w h s t (encF w s t (y + 1) k) y hs ht (by omega) h8 w8 w 0 (by omega)
    rw [Nat.add_zero] at h5
    rw [h5]
    have h6 := encF_app w h s t hs ht h8 w8 k (y + 1) (by omega)
    rw [Nat.succ_mul] at h6
    exact h6
theorem txt_list (t : ByteArray) : (⟨t.data.toList.toArray⟩ : ByteArray) = t := by apply ba_ext; simp
theorem doL_f (s : Scr) (r : List UInt8) : doL s (102 :: r) = chkL s (102 :: r) r := by simp [doL]
theorem doL_d (s : Scr) (x y : UInt8) (r : List UInt8) : doL s (100 :: x :: y :: r) = match appD s.w s.h s.b r with
    | none => none
    | some cells => chkL s (100 :: x :: y :: r) ([UInt8.ofNat s.w, UInt8.ofNat s.h, x, y] ++ cells) := by simp [doL]
theorem do_of (s t : Scr) (hs : s.Ok) (ht : t.Ok) (hp : Plain t.b) : doL s (ofL s t) = some t := by
  have hpt := parse_text t ht hp
  by_cases hd : t.w ≠ s.w ∨ t.h ≠ s.h
  · have e : ofL s t = 102 :: (txtS t).data.toList := by unfold ofL; rw [if_pos hd]
    rw [e, doL_f]
    unfold chkL
    rw [txt_list, hpt]
    show (if ofL s t = _ then _ else _) = _
    rw [e, if_pos rfl]
  · have e : ofL s t = [100, UInt8.ofNat t.x, UInt8.ofNat t.y] ++ encF s.w s.b t.b 0 s.h := by unfold ofL; rw [if_neg hd]
    have hw : t.w = s.w := by omega
    have hh : t.h = s.h := by omega
    have w2 := hs.w2; have h2 := hs.h2
    have happ := encF_app s.w s.h s.b t.b hs.len (by rw [ht.len, hw, hh]) (by omega) (by omega) s.h 0 (by omega)
    have h0 : mixL s.b t.b (0 * s.w) = s.b := by unfold mixL; simp
    rw [h0] at happ
    have htx : (⟨([UInt8.ofNat s.w, UInt8.ofNat s.h, UInt8.ofNat t.x, UInt8.ofNat t.y] ++ t.b).toArray⟩ : ByteArray) = txtS t := by
      apply ba_ext
      unfold txtS head4
      rw [ba_app, hw, hh]
      simp [txt]
    rw [e]
    show doL s (100 :: UInt8.ofNat t.x :: UInt8.ofNat t.y :: encF s.w s.b t.b 0 s.h) = _
    rw [doL_d, happ]
    simp only []
    unfold chkL
    rw [htx, hpt]
    show (if ofL s t = _ then _ else _) = _
    rw [e]
    exact if_pos rfl

/-! How long a delta is. -/
def cnt : List UInt8 → List UInt8 → Nat
  | x :: a, y :: b => (if x = y then 0 else 1) + cnt a b
  | _, _ => 0
theorem cnt_run : ∀ (a b : List UInt8), cnt a b = runL a b + cnt (a.drop (runL a b)) (b.drop (runL a b))
  | x :: a, y :: b => by
    by_cases hxy : x = y
    · have : runL (x :: a) (y :: b) = 0 := by simp [runL, hxy]
      rw [this]; simp
    · have e : runL (x :: a) (y :: b) = runL a b + 1 := by simp [runL, hxy]
      rw [e, List.drop_succ_cons, List.drop_succ_cons]
      have := cnt_run a b
      rw [cnt, if_neg hxy]; omega
  | [], _ => by simp [runL, cnt]
  | _ :: _, [] => by simp [runL, cnt]
theorem cnt_next (a b : List UInt8) (x : Nat) (ha : x < a.length) (hb : x < b.length) : cnt (a.drop x) (b.drop x) = (if a.getD x 0 = b.getD x 0 then 0 else 1) + cnt (a.drop (x + 1)) (b.drop (x + 1)) := by
  rw [List.drop_eq_getElem_cons ha, List.drop_eq_getElem_cons hb, cnt]
  rw [List.getD_eq_getElem?_getD, List.getD_eq_getElem?_getD, List.getElem?_eq_getElem ha, List.getElem?_eq_getElem hb]
  rfl
theorem cnt_nil (a b : List UInt8) (x : Nat) (ha : a.length ≤ x) : cnt (a.drop x) (b.drop x) = 0 := by
  rw [List.drop_of_length_le ha]; simp [cnt]
theorem encR_len (y : Nat) (a b : List UInt8) (hl : a.length = b.length) :
    ∀ (k x : Nat), x + k = a.length → cnt (a.drop x) (b.drop x) ≤ (encR y x a b k).length ∧ (encR y x a b k).length ≤ 4 * cnt (a.drop x) (b.drop x) := by
  intro k
  induction k using Nat.strongRecOn with
  | ind k ih =>
    intro x hx
    cases k with
    | zero => rw [encR_zero, cnt_nil a b x (by omega)]; simp
    | succ k =>
      obtain ⟨n, hn⟩ : ∃ n, runL (a.drop x) (b.drop x) = n := ⟨_, rfl⟩
      have hle := (runL_le (a.drop x) (b.drop x)).1
      have hst := runL_stop (a.drop x) (b.drop x) (by simp; omega)
      have hc := cnt_run (a.drop x) (b.drop x)
      rw [hn] at hle hst hc
      rw [List.length_drop] at hle hst
      rw [List.drop_drop, List.drop_drop] at hc
      have hst2 : x + n < a.length → cnt (a.drop (x + n)) (b.drop (x + n)) = cnt (a.drop (x + n + 1)) (b.drop (x + n + 1)) := fun h5 => by
        rw [cnt_next a b (x + n) h5 (by omega), if_pos, Nat.zero_add]
        have := hst (by omega)
        rwa [List.getD_eq_getElem?_getD, List.getD_eq_getElem?_getD, List.getElem?_drop, List.getElem?_drop, ← List.getD_eq_getElem?_getD, ← List.getD_eq_getElem?_getD] at this
      by_cases h0 : n = 0
      · subst h0
        rw [encR_same _ _ _ _ _ hn]
        have h6 := hst2 (by omega)
        have h7 := ih k (by omega) (x + 1) (by omega)
        rw [Nat.add_zero] at h6
        rw [h6]; exact h7
      · rw [encR_run _ _ _ _ _ _ hn h0]
        have h8 : ((b.drop x).take n).length = n := by rw [List.length_take, List.length_drop]; omega
        simp only [List.length_append, List.length_cons, List.length_nil, h8]
        by_cases he : n = k + 1
        · rw [show k - n = 0 by omega, encR_zero]
          rw [cnt_nil a b (x + n) (by omega)] at hc
          simp; omega
        · have h6 := hst2 (by omega)
          have h7 := ih (k - n) (by omega) (x + n + 1) (by omega)
          omega
theorem cnt_app : ∀ (a b c d : List UInt8), a.length = b.length → cnt (a ++ c) (b ++ d) = cnt a b + cnt c d
  | [], [], c, d, _ => by simp [cnt]
  | x :: a, y :: b, c, d, h => by
    have := cnt_app a b c d (by simpa using h)
    simp only [List.cons_append, cnt, this]; omega
  | [], _ :: _, _, _, h => by simp at h
  | _ :: _, [], _, _, h => by simp at h
theorem encF_len (w h : Nat) (s t : List UInt8) (hs : s.length = w * h) (ht : t.length = w * h) :
    ∀ (k y : Nat), y + k = h → cnt (s.drop (y * w)) (t.drop (y * w)) ≤ (encF w s t y k).length ∧ (encF w s t y k).length ≤ 4 * cnt (s.drop (y * w)) (t.drop (y * w))
  | 0, y, hy => by
    have : s.length ≤ y * w := by rw [hs, Nat.mul_comm w, show y = h by omega]; exact Nat.le_refl _
    rw [cnt_nil s t (y * w) this, encF]; simp
  | k + 1, y, hy => by
    have hwe := row_end (w := w) (show y < h by omega)
    have ih := encF_len w h s t hs ht k (y + 1) (by omega)
    have ra : (rowOf s w y).length = w := by unfold rowOf; rw [List.length_take, List.length_drop]; omega
    have rb : (rowOf t w y).length = w := by unfold rowOf; rw [List.length_take, List.length_drop]; omega
    have h5 := encR_len y (rowOf s w y) (rowOf t w y) (by omega) w 0 (by omega)
    have hc : cnt (s.drop (y * w)) (t.drop (y * w)) = cnt (rowOf s w y) (rowOf t w y) + cnt (s.drop ((y + 1) * w)) (t.drop ((y + 1) * w)) := by
      rw [← cnt_app _ _ _ _ (by omega)]
      congr 1 <;> (unfold rowOf; rw [Nat.succ_mul, ← List.drop_drop, List.take_append_drop])
    rw [List.drop_zero, List.drop_zero] at h5
    rw [encF, List.length_append]
    omega
theorem ofL_len (s t : Scr) (hs : s.Ok) (ht : t.Ok) (hw : t.w = s.w) (hh : t.h = s.h) : 3 + cnt s.b t.b ≤ (ofL s t).length ∧ (ofL s t).length ≤ 3 + 4 * cnt s.b t.b := by
  have h5 := encF_len s.w s.h s.b t.b hs.len (by rw [ht.len, hw, hh]) s.h 0 (by omega)
  unfold ofL
  rw [if_neg (by omega)]
  simp at h5 ⊢
  omega
theorem cnt_le : ∀ (a b : List UInt8), cnt a b ≤ a.length
  | x :: a, y :: b => by have := cnt_le a b; rw [cnt]; simp; split <;> omega
  | [], _ => by simp [cnt]
  | _ :: _, [] => by simp [cnt]
end Go.Proofs.Ytgdmeaoghhkknaa
