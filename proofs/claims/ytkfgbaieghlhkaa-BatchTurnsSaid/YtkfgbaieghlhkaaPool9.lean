/- New. -/
import Derived.Test.YtkfgbaieghlhkaaPool8
import Derived.Laws.MakeOwn
namespace Go.Proofs.Ytkfgbaieghlhkaa
open Go.RowKit

def fresh (n : Nat) : List Buf := List.replicate n ⟨false, ⟨#[]⟩⟩
theorem fresh_length (n : Nat) : (fresh n).length = n := List.length_replicate
theorem fresh_get (n i : Nat) (h : i < n) : (fresh n).getD i default = ⟨false, ⟨#[]⟩⟩ := by simp [fresh, List.getD, h]
theorem made_get (z : Array Value) (n m o : Nat) (hz : z.size = m) (h : o < n * m) : (madeCells z (n * m))[o]? = some (z.toList[o % m]?.getD default) := by
  have hm : 0 < m := by
    rcases Nat.eq_zero_or_pos m with rfl | h0
    · simp at h
    · exact h0
  have hlt : o % z.size < z.size := Nat.mod_lt _ (by omega)
  subst hz
  simp only [madeCells, Array.getElem?_map, Array.getElem?_range, h, if_true, Option.map_some]
  rw [getElem!_pos z _ hlt, Array.getElem?_toList, Array.getElem?_eq_getElem hlt]; rfl
theorem made_row (n o : Nat) (h : o < n * 514) : (madeCells zbuf (n * 514))[o]? = some (poolF (fresh n) o) := by
  have hd : o / 514 < n := by omega
  have hm : o % 514 < 514 := Nat.mod_lt _ (by omega)
  rw [made_get zbuf n 514 o zbuf_size h, zbuf_get _ hm]
  unfold poolF
  rw [fresh_get n _ hd]

theorem infoB : (Try.prog.info? 81).map (fun i => (i.zero, i.size, i.bytes)) = some (some (.agg zbuf), 514, 528) := by kernel_rfl

theorem make_pool (n : Nat) (w : World) (hn : n ≤ 256) :
    ∃ C, C.size = n * 514 ∧ (∀ o, o < n * 514 → C[o]? = some (poolF (fresh n) o)) ∧ (Instr.makeSlice 75 (.int .i64 (n : Int)) (.int .i64 (n : Int))).run Try.prog w = .ok (.slice (some ⟨w.heap.size, 0, none⟩) n n) (w.alloc (.cells C 81)) := by
  obtain ⟨i, hi, h0, h1, h2⟩ := info_parts infoB
  have := run_make (P := Try.prog) w 75 81 i (.agg zbuf) Try.underlying75 hi h0 .i64 .i64 n n (by omega) (Int.le_refl _) (by rw [h2]; clear h0 h1; omega) (by omega)
  rw [Int.toNat_natCast, h1] at this
  exact ⟨_, size_madeCells _ _, fun o ho => made_row n o ho, this⟩

def NewPost (n : Nat) (w : World) (e : Ending) (w' : World) : Prop :=
  ∃ pb B, e = .returned (.tuple #[.pointer (some ⟨pb, 0, none⟩), .int .i64 0]) ∧ PoolAt w' pb B n (fresh n) 0 ∧ w.heap.size ≤ pb ∧ w.heap.size ≤ B ∧ Below w.heap.size w w'

set_option maxHeartbeats 1000000 in
set_option maxRecDepth 20000 in
theorem new_any (n : Nat) (w : World) (h1 : 1 ≤ n) (h2 : n ≤ 256) :
    Calls Try.prog 11 #[.int .i64 n] w fun e w' => NewPost n w e w' := by
  obtain ⟨C, hs, hC, hmk⟩ := make_pool n w h2
  have g1 : ¬ (n : Int) < 1 := by omega
  have g2 : ¬ (256 : Int) < n := by omega
  have R : (w.alloc (.cells C 81)).rowIs w.heap.size 81 (n * 514) (poolF (fresh n)) := by
    have := World.rowIs_alloc w C 81 (poolF (fresh n)) (fun i hi => hC i (by omega))
    rwa [hs] at this
  clear hC hs
  go_enter Try.func11, Try.ntmps11
  go_wp2
  refine bodyPost_ret (v := .tuple #[.pointer (some ⟨w.heap.size + 1, 0, none⟩), .int .i64 0]) ?_ rfl ⟨w.heap.size + 1, w.heap.size, rfl, ⟨?_, R.alloc _, fresh_length n, fun i hi => ?_, by omega, h1, h2⟩, by omega, Nat.le_refl _, ?_⟩
  · simp [results, Try.results11, go_sem]
  · (apply Blk.conv; focus (repeat (first | (with_reducible assumption) | (with_reducible apply Blk.new'; (first | (with_reducible rfl) | (simp; done))) | with_reducible apply Blk.alloc | with_reducible apply Blk.set | ((with_reducible apply Blk.set_ne); focus (first | (simp; done) | (simp; omega))) | with_reducible apply Blk.drewN | with_reducible apply Blk.drew)))
    (first | rfl | (simp; done) | (simp; omega))
  · rw [fresh_get n i hi]; exact ⟨by decide, fun _ => rfl⟩
  · repeat (first | (with_reducible assumption) | (with_reducible exact Below.refl _ _) | with_reducible apply bl_drewN | with_reducible apply Below.drew | (with_reducible apply bl_alloc; focus (first | (simp; done) | (simp; omega) | omega)) | (with_reducible apply bl_set; focus (first | (simp; done) | (simp; omega) | omega)))
theorem new_bad (i : Int) (w : World) (h : i < 1 ∨ 256 < i) :
    Calls Try.prog 11 #[.int .i64 i] w fun e w' => e = .returned (.tuple #[.pointer none, .int .i64 7]) ∧ Below w.heap.size w w' := by
  rcases h with h | h
  · go_enter Try.func11, Try.ntmps11
    go_wp2
    refine bodyPost_ret (v := .tuple #[.pointer none, .int .i64 7]) ?_ rfl ⟨rfl, ?_⟩
    · simp [results, Try.results11, go_sem]
    · repeat (first | (with_reducible assumption) | (with_reducible exact Below.refl _ _) | with_reducible apply bl_drewN | with_reducible apply Below.drew | (with_reducible apply bl_alloc; focus (first | (simp; done) | (simp; omega) | omega)) | (with_reducible apply bl_set; focus (first | (simp; done) | (simp; omega) | omega)))
  · have g1 : ¬ i < 1 := by omega
    go_enter Try.func11, Try.ntmps11
    go_wp2
    refine bodyPost_ret (v := .tuple #[.pointer none, .int .i64 7]) ?_ rfl ⟨rfl, ?_⟩
    · simp [results, Try.results11, go_sem]
    · repeat (first | (with_reducible assumption) | (with_reducible exact Below.refl _ _) | with_reducible apply bl_drewN | with_reducible apply Below.drew | (with_reducible apply bl_alloc; focus (first | (simp; done) | (simp; omega) | omega)) | (with_reducible apply bl_set; focus (first | (simp; done) | (simp; omega) | omega)))
end Go.Proofs.Ytkfgbaieghlhkaa
