/- Package word: Cut. -/
import Derived.Test.YtpnbmfpdoipioaaWord1
namespace Go.Proofs.Ytpnbmfpdoipioaa
open Go.RowKit

def cutR (s : ByteArray) : List Nat → Option (List ByteArray)
  | [] => some [s]
  | n :: ns => if s.size < n then none else (cutR (s.extract n s.size) ns).map (s.extract 0 n :: ·)
def strs (l : List ByteArray) : List Value := l.map Value.string
theorem strs_snoc (l : List ByteArray) (s : ByteArray) : strs (l ++ [s]) = strs l ++ [.string s] := by simp [strs]
theorem info9 : (Try.prog.info? 9).map (fun i => (i.zero, i.size, i.bytes)) = some (some (.string ⟨#[]⟩), 1, 16) := by kernel_rfl
def CutPost (s : ByteArray) (ns : List Nat) (w : World) (e : Ending) (w' : World) : Prop :=
  (∃ l v, cutR s ns = some l ∧ e = .returned (.tuple #[v, .int .i64 0]) ∧ w'.ownsRow w.heap.size 9 1 v l.length (strs l) ∧ Below w.heap.size w w') ∨
  (cutR s ns = none ∧ e = .returned (.tuple #[.slice none 0 0, .int .i64 3]) ∧ Below w.heap.size w w')
set_option maxHeartbeats 1000000 in
set_option maxRecDepth 20000 in
theorem cut_any (s : ByteArray) (b cap : Nat) (ns : List Nat) (w : World) (hc : ∀ j, j < ns.length → w.cell? ⟨b, j, none⟩ = some (.int .i64 (ns.getD j 0 : Nat))) (hb : b < w.heap.size) (hn : ns.length ≤ 100) (hs : s.size ≤ 140737488355328) :
    Calls Try.prog 38 #[.string s, .slice (some ⟨b, 0, none⟩) ns.length cap] w fun e w' => CutPost s ns w e w' := by
  obtain ⟨i0, hi0, hz0, hz1, hz2⟩ := info_parts info9
  go_enter Try.func38, Try.ntmps38
  go_wp2_with fail
  go_loopg [0, 6, 11] ns.length (fun g t0 t6 t11 wr => ∃ (j : Nat) (r : ByteArray) (ps : List ByteArray), j + g = ns.length ∧ t0 = .string r ∧ t11 = .int .i64 j ∧ ps.length = j ∧ wr.ownsRow w.heap.size 9 1 t6 j (strs ps) ∧ cutR s ns = (cutR r (ns.drop j)).map (ps ++ ·) ∧ r.size ≤ s.size ∧ Below w.heap.size w wr)
  case atStart => exact ⟨0, s, [], by omega, rfl, rfl, rfl, World.ownsRow_nil _ _ _ _, by simp, Nat.le_refl _, by (repeat (first | (with_reducible assumption) | (with_reducible exact Below.refl _ _) | with_reducible apply bl_drewN | with_reducible apply Below.drew | (with_reducible apply bl_alloc; focus (first | (simp; done) | (simp; omega) | omega)) | (with_reducible apply bl_set; focus (first | (simp; done) | (simp; omega) | omega))))⟩
  case round =>
    obtain ⟨j, r, ps, hj, rfl, rfl, hpl, ho, hcut, hrs, HB⟩ := hrel
    have HBs := HB.size
    have HJ := Lib.hid hj
    obtain ⟨a6, cc6, h6⟩ := own_slice ho
    subst h6
    have HCUT := Lib.hid hcut
    have HPL := Lib.hid hpl
    clear hcut hpl
    cases gk with
    | zero =>
      have hk' : ¬ (j : Int) < ns.length := by omega
      have hje : j = ns.length := by omega
      have hlast : cutR s ns = some (ps ++ [r]) := by rw [HCUT.out, hje, List.drop_length]; rfl
      have hj100 : j ≤ 100 := by omega
      have HL := Lib.hid hlast
      clear hj hje hlast
      have o2 := ho.alloc (.cells #[.string r] 9)
      go_wp2_with (at_builtin; refine wpList_append_lies _ rfl _ _ 75 rfl w.heap.size 9 i0 _ 1 16 Try.underlying75 hi0 hz0 hz1 hz2 rfl (by decide) _ j (strs ps) rfl o2 ⟨wr.heap.size, 0, none⟩ 1 1 [.string r] rfl rfl (World.news_of_block (heap_alloc_new wr _)) (by simp [Value.oneCell']) (by decide) ?c3 ?c4 ?c5 (wr.heap.size + 1) (by simp) ?_)
      case c3 => unfold maxLen; omega
      case c4 => omega
      case c5 => first | omega | (simp; omega)
      intro gg cc w' ho' hg hl hlt
      have hb' : Below w.heap.size w w' := (HB.alloc HBs _).grown hg (by simp; omega) (fun q hq => (ho.lt q hq).1)
      clear o2 hg hl hlt
      go_wp2
      refine bodyPost_ret (v := .tuple #[.slice (some ⟨gg, 0, none⟩) (j + 1) cc, .int .i64 0]) ?_ rfl (Or.inl ⟨ps ++ [r], _, HL.out, rfl, ?_, hb'⟩)
      · simp [results, Try.results38, go_sem]
      · rw [strs_snoc, List.length_append, HPL.out]; exact ho'
    | succ g =>
      have hk' : (j : Int) < ns.length := by omega
      have hkl : j < ns.length := by omega
      clear hj
      have hx := (HB.cell (p := ⟨b, j, none⟩) hb).trans (hc j hkl)
      have hdr : ns.drop j = ns.getD j 0 :: ns.drop (j + 1) := by
        rw [List.drop_eq_getElem_cons hkl]
        congr 1
        rw [List.getD, List.getElem?_eq_getElem hkl]; rfl
      generalize ns.getD j 0 = q at hx hdr
      have HDR := Lib.hid hdr
      clear hdr
      have hbl := Nat.lt_of_lt_of_le hb HBs
      have hq0 : ¬ (q : Int) < 0 := by omega
      by_cases hqs : r.size < q
      · have hq1 : (r.size : Int) < q := by omega
        have hnone : cutR s ns = none := by
          rw [HCUT.out, HDR.out]
          show ((if r.size < q then none else _ : Option (List ByteArray)).map _) = none
          rw [if_pos hqs]; rfl
        have HL := Lib.hid hnone
        clear hnone hqs
        go_wp2
        refine bodyPost_ret (v := .tuple #[.slice none 0 0, .int .i64 3]) ?_ rfl (Or.inr ⟨HL.out, rfl, HB⟩)
        simp [results, Try.results38, go_sem]
      · have hq1 : ¬ (r.size : Int) < q := by omega
        have hq2 : (q : Int) ≤ r.size := by omega
        have hsome : cutR s ns = (cutR (r.extract q r.size) (ns.drop (j + 1))).map (ps ++ [r.extract 0 q] ++ ·) := by
          rw [HCUT.out, HDR.out]
          show ((if r.size < q then none else _ : Option (List ByteArray)).map _) = _
          rw [if_neg hqs, Option.map_map]
          congr 1
          funext x
          simp
        have hsz : (r.extract q r.size).size ≤ s.size := by rw [ByteArray.size_extract]; omega
        have HL := Lib.hid hsome
        have o2 := ho.alloc (.cells #[.string (r.extract 0 q)] 9)
        clear hsome hqs
        go_wp2_with (at_builtin; refine wpList_append_lies _ rfl _ _ 75 rfl w.heap.size 9 i0 _ 1 16 Try.underlying75 hi0 hz0 hz1 hz2 rfl (by decide) _ j (strs ps) rfl o2 ⟨wr.heap.size, 0, none⟩ 1 1 [.string (r.extract 0 q)] rfl rfl (World.news_of_block (heap_alloc_new wr _)) (by simp [Value.oneCell']) (by decide) ?c3 ?c4 ?c5 (wr.heap.size + 1) (by simp) ?_)
        case c3 => unfold maxLen; omega
        case c4 => omega
        case c5 => first | omega | (simp; omega)
        intro gg cc w' ho' hg hl hlt
        have hb' : Below w.heap.size w w' := (HB.alloc HBs _).grown hg (by simp; omega) (fun q hq => (ho.lt q hq).1)
        clear o2 hg hl hlt ho
        rw [← strs_snoc] at ho'
        go_wp2_with fail
        go_roundg g
        case rel => exact ⟨j + 1, _, ps ++ [r.extract 0 q], by have := HJ.out; omega, rfl, by simp, by simp [HPL.out], ho', HL.out, hsz, hb'⟩
        case measure => omega
end Go.Proofs.Ytpnbmfpdoipioaa
