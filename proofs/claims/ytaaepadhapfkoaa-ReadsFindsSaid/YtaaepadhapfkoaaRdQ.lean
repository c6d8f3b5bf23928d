/-
  Reads: the chapter's id, reads and notes.
-/
import Derived.Test.YtaaepadhapfkoaaRdP
namespace Go.Proofs.Ytaaepadhapfkoaa
set_option linter.unusedSimpArgs false
set_option linter.unusedVariables false
open Go.RowKit

theorem cell_new {w : World} {o : Array Value} {t : TypeId} {j : Nat} {v : Value} (h : o[j]? = some v) : (w.alloc (.cells o t)).cell? ⟨w.heap.size, j, none⟩ = some v := by
  rw [Go.Joins.cell_of_block (heap_alloc_new _ _)]; exact h
theorem given_new (w : World) (l : List Nat) (hb : ∀ x ∈ l, x < 256) (hl : l.length ≤ 1000) : Given (w.alloc (.cells (cellsOf l).toArray 5)) (some ⟨w.heap.size, 0, none⟩) l.length l := by
  refine ⟨⟨hb, fun i hi => ⟨w.heap.size, 0, rfl, by simp, ?_⟩⟩, Nat.le_refl _, by omega, fun e => by cases e⟩
  rw [Go.Joins.cell_of_block (heap_alloc_new _ _), Nat.zero_add]
  simp [cellsOf, List.getD, hi]
/-- two bytes laid anew -/
def tw (a b : Int) : Obj := .cells #[.int .u8 a, .int .u8 b] 5
theorem given12 (W : World) : Given (W.alloc (.cells #[.int .u8 1, .int .u8 2] 5)) (some ⟨W.heap.size, 0, none⟩) 2 [1, 2] := given_new W [1, 2] (by decide) (by decide)
theorem given13 (W : World) : Given (W.alloc (.cells #[.int .u8 1, .int .u8 3] 5)) (some ⟨W.heap.size, 0, none⟩) 2 [1, 3] := given_new W [1, 3] (by decide) (by decide)
theorem sum12 (W : World) : Calls Try.prog 38 #[.slice (some ⟨W.heap.size, 0, none⟩) 2 2] (W.alloc (.cells #[.int .u8 1, .int .u8 2] 5)) fun e w' => e = .returned (.agg (cellsOf (Sha.sum [1, 2])).toArray) ∧ Below W.heap.size W w' :=
  (sum_any (some ⟨W.heap.size, 0, none⟩) 2 [1, 2] _ (given12 W) (by decide)).mono fun e w' h => ⟨h.1, below_step ((Below.refl _ _).alloc (Nat.le_refl _) _) h.2⟩
set_option maxRecDepth 100000 in
theorem id_any (w : World) : Calls Try.prog 89 #[] w fun e w' => e = .returned (.agg (cellsOf (Sha.sum [1, 2])).toArray) ∧ Below w.heap.size w w' := by
  obtain ⟨z32, hz32⟩ : ∃ z, (cellsOf (List.replicate 32 0)).toArray = z := ⟨_, rfl⟩
  have hz := zero23'
  rw [hz32] at hz
  have HI : Hf ((w.alloc (.cells z32 23)).heap[w.heap.size]? = some (.cells z32 23 (0, 0))) := ⟨heap_alloc_new _ _⟩
  have HB : Hf (Below w.heap.size w (w.alloc (.cells z32 23))) := ⟨(Below.refl _ _).alloc (Nat.le_refl _) _⟩
  have HZ : Hf (z32.size = 32) := ⟨by rw [← hz32, List.size_toArray, cellsOf_length, List.length_replicate]⟩
  clear hz32
  have HL : Hf ((cellsOf (Sha.sum [1, 2])).length = 32) := ⟨by rw [cellsOf_length]; exact Sha.sum_len _⟩
  have HO := Hf.mk (cellsOf_one (Sha.sum [1, 2]))
  have HSU := Hf.mk (fun u => sum12 u)
  generalize cellsOf (Sha.sum [1, 2]) = zs at *
  go_enter Try.func89, Try.ntmps89
  go_upto_region 1 with fail
  generalize w.alloc (.cells z32 23) = W at *
  have HS := Hf.mk (HSU.out W)
  go_wp2_with (first
    | (go_at_call 38; (with_reducible refine HS.out.mono ?_); rintro e w1 ⟨rfl, hb1⟩; have HB1 := Hf.mk (below_step HB.out hb1); have HI1 := Hf.mk ((hb1.block _ (Array.getElem?_eq_some_iff.1 HI.out).1).trans HI.out); clear hb1)
    | (refine wpList_store_row rfl 23 _ _ rfl w.heap.size zs.toArray rfl rfl 23 z32 HI1.out (size23.trans (by rw [List.size_toArray, HL.out])) (by rw [HZ.out, List.size_toArray, HL.out]) (all_oneCell_toArray HO.out) ?_))
  (try simp only [Exit.inBlock, Exit.then])
  refine bodyPost_ret (results_cell_row rfl _ _ w.heap.size 23 zs.toArray (0, 0) _ rfl (setRow_heap _ _ z32 zs.toArray 23 (0, 0) HI1.out) Try.underlying23 rfl (size23.trans (by rw [List.size_toArray, HL.out]))) rfl ?_
  exact ⟨rfl, HB1.out.trans ⟨rfl, rfl, rfl, by simp, fun i hi => setRow_other _ _ i _ (by omega)⟩⟩
/-- the chapter's read -/
def rdC (n : Int) : Rdr := madeR 4 (Sha.sum [1, 2]) 1 n 1 1 1 1 2 5
set_option maxRecDepth 100000 in
set_option maxHeartbeats 1600000 in
theorem of_any (n : Int) (w : World) (hn : 1 ≤ n) (hn2 : n ≤ 64) : Calls Try.prog 44 #[.int .i64 n] w fun e w' => ∃ p a1 c1 a2 c2, e = .returned (.pointer (some ⟨p, 0, none⟩)) ∧ w.heap.size ≤ p ∧ RAt w' p (rdC n) a1 c1 a2 c2 none 0 ∧ Below w.heap.size w w' := by
  have HI := Hf.mk (id_any w)
  have HN := Hf.mk (fun u => new_any 4 (Sha.sum [1, 2]) 1 n 1 1 1 1 2 5 u (Sha.sum_len _) (Sha.sum_lt _) ⟨⟨⟨by decide, by decide⟩, ⟨by decide, by decide⟩, ⟨by decide, by decide⟩, ⟨by decide, by decide⟩, ⟨by decide, by decide⟩⟩, ⟨hn, hn2⟩, by omega, by omega, by omega, by omega, rfl⟩)
  have HRD : Hf (madeR 4 (Sha.sum [1, 2]) 1 n 1 1 1 1 2 5 = rdC n) := ⟨rfl⟩
  rw [HRD.out] at HN
  clear HRD
  generalize (cellsOf (Sha.sum [1, 2])).toArray = zs at *
  go_enter Try.func44, Try.ntmps44
  go_wp2_with (first
    | (go_at_call 89; (with_reducible refine HI.out.mono ?_); rintro e w1 ⟨rfl, hb1⟩; have HB1 := Hf.mk hb1; clear hb1)
    | (go_at_call 37; (with_reducible refine (HN.out _).mono ?_); rintro e w2 ⟨p, a1, c1, a2, c2, rfl, hp, hr, hb2⟩; have HP := Hf.mk hp; have HR := Hf.mk hr; have HB2 := Hf.mk hb2; clear hp hr hb2))
  go_ret
  exact ⟨p, a1, c1, a2, c2, rfl, Nat.le_trans HB1.out.size HP.out, HR.out, HB1.out.trans (HB2.out.mono HB1.out.size)⟩
end Go.Proofs.Ytaaepadhapfkoaa
