/-
  Reads: the chapter's Get, its answer, and what is had.
-/
import Derived.Test.YtaaepadhapfkoaaRdS
namespace Go.Proofs.Ytaaepadhapfkoaa
set_option linter.unusedSimpArgs false
set_option linter.unusedVariables false
open Go.RowKit

theorem notes_one {w : World} {base : Nat} {v : Value} {R : Rdr} {who : Int} (h : NotesAt w base v R [(false, who)]) : ∃ g c, v = .slice (some ⟨g, 0, none⟩) 1 c ∧ g < w.heap.size ∧ w.rangeAt g 0 (nt 7 R.me who R.cn R.cb R.cc 0 false R.id (.slice none 0 0)) := by
  obtain ⟨l, h1, h2, h3⟩ := h
  obtain ⟨y, rfl⟩ : ∃ y, l = [y] := by
    match l, h1 with
    | [y], _ => exact ⟨y, rfl⟩
    | [], h => simp at h
    | _ :: _ :: _, h => simp at h
  obtain ⟨x, dv⟩ := y
  have hx : x = (false, who) := by simpa using h1
  subst hx
  have hd := h3 ((false, who), dv) (by simp)
  unfold DatAt at hd
  rw [if_neg (by simp)] at hd
  have hd : dv = .slice none 0 0 := hd
  subst hd
  have hc : cellsN R [((false, who), Value.slice none 0 0)] = nt 7 R.me who R.cn R.cb R.cc 0 false R.id (.slice none 0 0) := by
    unfold cellsN
    simp [ntR]
  rw [hc] at h2
  rcases h2.2 with ⟨_, h0⟩ | ⟨g, cap, cur, rfl, hg, hh, _⟩
  · simp at h0
  · exact ⟨g, cap, rfl, (Array.getElem?_eq_some_iff.1 hh).1, fun j u hu => by have := h2.cells (g := g) rfl j u hu; rwa [Addr.add_lit] at this⟩
set_option maxHeartbeats 4000000 in
set_option maxRecDepth 100000 in
theorem getC_any {w : World} {base : Nat} {v : Value} {R : Rdr} (h : NotesAt w base v R [(false, 2)]) (hm : R.me = 1) (h1 : R.cn = 1) (h2 : R.cb = 1) (h3 : R.cc = 1) (hi : R.id = Sha.sum [1, 2]) :
    Calls Try.prog 45 #[v] w fun e w' => e = .returned (.bool true) ∧ Below w.heap.size w w' := by
  obtain ⟨g, c, rfl, hg, hr⟩ := notes_one h
  rw [hm, h1, h2, h3, hi] at hr
  have HI := Hf.mk (id_any w)
  have HSN := Hf.mk (fun (u : World) (g2 c2 : Nat) (hb : Below w.heap.size w u) (hg2 : g2 < u.heap.size) (hr2 : u.rangeAt g2 0 (nt 7 1 2 1 1 1 0 false (Sha.sum [1, 2]) (.slice none 0 0))) => sameNotes_one 7 1 2 1 1 1 (Sha.sum [1, 2]) g c g2 c2 u (Sha.sum_len _) (Sha.sum_lt _) (Nat.lt_of_lt_of_le hg hb.size) hg2 (range_below hr hb hg) hr2)
  have HBT := Hf.mk (built_get 7 1 2 1 1 1 (Sha.sum [1, 2]) (Sha.sum_len _))
  have HNL := Hf.mk (nt_len 7 1 2 1 1 1 0 false (Sha.sum_len [1, 2]) (.slice none 0 0))
  clear h hr hm h1 h2 h3 hi
  generalize nt 7 1 2 1 1 1 0 false (Sha.sum [1, 2]) (.slice none 0 0) = ns at *
  generalize (cellsOf (Sha.sum [1, 2])).toArray = zs at *
  go_enter Try.func45, Try.ntmps45
  go_wp2_with (first
    | (go_at_call 89; (with_reducible refine HI.out.mono ?_); rintro e w1 ⟨rfl, hb1⟩; have HB1 := Hf.mk hb1; clear hb1)
    | (refine wpList_builtE rfl 69 _ rfl _ (by simp [Act.eval, Act.put]) _ HBT.out ?_)
    | (refine wpList_box rfl (.tmp 6) rfl ns rfl HNL.out ?_)
    | (go_at_call 90; (with_reducible refine (HSN.out _ _ _ (HB1.out.alloc HB1.out.size _) (by simp) (range_blk (heap_alloc_new w1 (.cells ns.toArray 69)))).mono ?_); rintro e w2 ⟨rfl, hb2⟩; have HB2 := Hf.mk (below_step (HB1.out.alloc HB1.out.size _) hb2); clear hb2))
  go_ret
  exact ⟨rfl, HB2.out⟩
set_option maxHeartbeats 4000000 in
set_option maxRecDepth 100000 in
theorem gotC_any (w : World) (A : Option Addr) (n c : Nat) :
    Calls Try.prog 47 #[.slice A n c] w fun e w' => e = .returned (.agg (nt 8 2 1 1 1 1 0 true (Sha.sum [1, 2]) (.slice A n c)).toArray) ∧ Below w.heap.size w w' := by
  have HI := Hf.mk (fun u => id_any u)
  have HBT := Hf.mk (built_gotd 8 2 1 1 1 1 true (Sha.sum [1, 2]) (Sha.sum_len _) A n c)
  have HNL := Hf.mk (nt_len 8 2 1 1 1 1 0 true (Sha.sum_len [1, 2]) (.slice A n c))
  have HN1 := Hf.mk (nt_one 8 2 1 1 1 1 0 true (Sha.sum [1, 2]) A n c)
  generalize nt 8 2 1 1 1 1 0 true (Sha.sum [1, 2]) (.slice A n c) = ns at *
  generalize (cellsOf (Sha.sum [1, 2])).toArray = zs at *
  have hz := zeroV69
  have HZL := Hf.mk (nt_len 0 0 0 0 0 0 0 false (List.length_replicate (n := 32) (a := 0)) (.slice none 0 0))
  generalize nt 0 0 0 0 0 0 0 false (List.replicate 32 0) (.slice none 0 0) = z at hz HZL
  have HX : Hf ((w.alloc (.cells z.toArray 69)).heap[w.heap.size]? = some (.cells z.toArray 69 (0, 0))) := ⟨heap_alloc_new _ _⟩
  have HB : Hf (Below w.heap.size w (w.alloc (.cells z.toArray 69))) := ⟨(Below.refl _ _).alloc (Nat.le_refl _) _⟩
  go_enter Try.func47, Try.ntmps47
  go_upto_region 1 with fail
  generalize w.alloc (.cells z.toArray 69) = W at *
  go_wp2_with (first
    | (go_at_call 89; (with_reducible refine (HI.out _).mono ?_); rintro e w1 ⟨rfl, hb1⟩; have HB1 := Hf.mk (below_step HB.out hb1); have HX1 := Hf.mk ((hb1.block _ (Array.getElem?_eq_some_iff.1 HX.out).1).trans HX.out); clear hb1)
    | (refine wpList_builtE rfl 69 _ rfl _ (by simp [Act.eval, Act.put]) _ HBT.out ?_)
    | (refine wpList_store_row rfl 69 _ _ rfl w.heap.size ns.toArray rfl rfl 69 z.toArray HX1.out (size69.trans (by rw [List.size_toArray, HNL.out])) (by rw [List.size_toArray, List.size_toArray, HZL.out, HNL.out]) (all_oneCell_toArray HN1.out) ?_))
  (try simp only [Exit.inBlock, Exit.then])
  refine bodyPost_ret (results_cell_row rfl _ _ w.heap.size 69 ns.toArray (0, 0) _ rfl (setRow_heap _ _ z.toArray ns.toArray 69 (0, 0) HX1.out) Try.underlying69 rfl (size69.trans (by rw [List.size_toArray, HNL.out]))) rfl ?_
  exact ⟨rfl, HB1.out.trans ⟨rfl, rfl, rfl, by simp, fun i hi => setRow_other _ _ i _ (by omega)⟩⟩
set_option maxHeartbeats 4000000 in
set_option maxRecDepth 100000 in
theorem hasC_any {w : World} {p : Nat} {R : Rdr} {a1 a2 a3 : Option Addr} {c1 c2 c3 : Nat} (h : RAt w p R a1 c1 a2 c2 a3 c3) (hm : 1 ≤ R.me) (hs : R.st = 2) (hd : R.data = [1, 2]) (he : R.err = 0) :
    Calls Try.prog 69 #[.pointer (some ⟨p, 0, none⟩)] w fun e w' => e = .returned (.bool true) ∧ Below w.heap.size w w' := by
  have hdb : R.doneB = [1, 2] := by unfold Rdr.doneB; rw [if_pos hs, hd]
  have hrd := rdone_any h hm (by rw [hd]; decide) (by omega)
  rw [hdb, hs] at hrd
  have HD : Hf (Calls Try.prog 42 #[.pointer (some ⟨p, 0, none⟩)] w fun e w' => ∃ A c, e = .returned (.tuple #[.slice A 2 c, .bool true]) ∧ Given w' A c [1, 2] ∧ Below w.heap.size w w') := ⟨hrd⟩
  clear hrd
  have HF := Hf.mk (fun (u : World) (hu : Below w.heap.size w u) => rfailed_any (h.below hu) hm)
  rw [he] at HF
  have HSB : Hf (∀ (u : World) (A : Option Addr) (c : Nat), Given u A c [1, 2] → Calls Try.prog 40 #[.slice A 2 c, .slice (some ⟨u.heap.size, 0, none⟩) 2 2] (u.alloc (.cells #[.int .u8 1, .int .u8 2] 5)) fun e w' => e = .returned (.bool true) ∧ w' = u.alloc (.cells #[.int .u8 1, .int .u8 2] 5)) := ⟨fun u A c hg => sameBytes_any A (some ⟨u.heap.size, 0, none⟩) c 2 [1, 2] [1, 2] (u.alloc (.cells #[.int .u8 1, .int .u8 2] 5)) (hg.below ((Below.refl _ _).alloc (Nat.le_refl _) _)) (given12 u)⟩
  clear h
  go_enter Try.func69, Try.ntmps69
  go_wp2_with (first
    | (go_at_call 42; (with_reducible refine HD.out.mono ?_); rintro e w1 ⟨A, c, rfl, hg1, hb1⟩; have HG1 := Hf.mk hg1; have HB1 := Hf.mk hb1; clear hg1 hb1)
    | (go_at_call 40; (with_reducible refine (HSB.out _ _ _ HG1.out).mono ?_); rintro e w2 ⟨rfl, rfl⟩)
    | (go_at_call 43; (with_reducible refine (HF.out _ (HB1.out.alloc HB1.out.size _)).mono ?_); rintro e w2 ⟨rfl, rfl⟩))
  go_ret
  exact ⟨rfl, HB1.out.alloc HB1.out.size _⟩
end Go.Proofs.Ytaaepadhapfkoaa
