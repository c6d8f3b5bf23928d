/-
  OverInts: what is told is written over, its block alone.
-/
import Derived.Test.YtheafmjdncmpoaaQuoO2
namespace Go.Proofs.Ytheafmjdncmpoaa
set_option linter.unusedSimpArgs false
set_option linter.unusedVariables false
open Go.RowKit Go.Proofs.YtheafmjdncmpoaaW.PrintWords Go.Proofs.YtheafmjdncmpoaaW.PrintMore

theorem Row3.form {w : World} {base : Nat} {v : Value} {xs : List Int} (h : Row3 w base v xs) :
    (v = .slice none 0 0 ∧ xs = []) ∨ ∃ g cap cur, v = .slice (some ⟨g, 0, none⟩) xs.length cap ∧ base ≤ g ∧ w.heap[g]? = some (.cells cur 3 (0, 0)) ∧ cur.size = cap ∧ cap ≤ maxLen ∧ xs.length ≤ cap ∧ ∀ u ∈ cur.toList, isI .i64 u := by
  obtain ⟨⟨h0, inner, ho, hr⟩, hf⟩ := h
  rcases ho.2 with ⟨rfl, hz⟩ | ⟨g, cap, cur, rfl, hg, hgg, hnc, hm, hcs, _⟩
  · exact .inl ⟨rfl, List.length_eq_zero_iff.1 hz⟩
  · obtain ⟨cur', h1, h2⟩ := hf g (by simp [Value.ownBlock])
    rw [hgg] at h1
    injection h1 with h1
    injection h1 with h1 _ _
    subst h1
    exact .inr ⟨g, cap, cur, rfl, hg, hgg, by rw [hcs]; show cap * 1 = cap; omega, hm, hnc, h2⟩
theorem isI_get {cur : Array Value} {i : Nat} (h : ∀ u ∈ cur.toList, isI .i64 u) (hi : i < cur.size) : ∃ x, cur[i]? = some (.int .i64 x) := by
  obtain ⟨x, hx⟩ := h cur[i] (by simp)
  exact ⟨x, by rw [Array.getElem?_eq_getElem hi, hx]⟩
theorem isI_set {cur : Array Value} {i : Nat} {y : Int} (h : ∀ u ∈ cur.toList, isI .i64 u) : ∀ u ∈ (cur.setIfInBounds i (.int .i64 y)).toList, isI .i64 u := by
  intro u hu
  rw [Array.toList_setIfInBounds] at hu
  rcases List.mem_or_eq_of_mem_set hu with hu | hu
  · exact h u hu
  · exact ⟨y, hu⟩
set_option maxHeartbeats 1600000 in
set_option maxRecDepth 100000 in
theorem over_any (g n cap : Nat) (cur : Array Value) (w : World) (hg : w.heap[g]? = some (.cells cur 3 (0, 0))) (hc : cur.size = cap) (hm : cap ≤ maxLen) (hn : n ≤ cap) (hI : ∀ u ∈ cur.toList, isI .i64 u) :
    Calls Try.prog 37 #[.slice (some ⟨g, 0, none⟩) n cap] w fun e w' => e = .returned (.tuple #[]) ∧ Moved (fun k => k = g) w w' := by
  unfold maxLen at hm
  have HG := Aside0.mk hg
  have HI := Aside0.mk hI
  have HC := Aside0.mk hc
  clear hg hI hc
  go_enter Try.func37, Try.ntmps37
  go_wp2
  go_loopw [2] (fun i wr => ∃ (k : Nat) (cs : Array Value), k ≤ cap ∧ i = .int .i64 k ∧ Aside0 (wr.heap[g]? = some (.cells cs 3 (0, 0))) ∧ Aside0 (cs.size = cap) ∧ Aside0 (∀ u ∈ cs.toList, isI .i64 u) ∧ Aside0 (Moved (fun k => k = g) w wr)) (fun i _ => cap - (intOf i).toNat)
  case atStart => exact ⟨0, cur, by omega, rfl, HG, HC, HI, ⟨Moved.of_below (Below.refl _ _)⟩⟩
  case round =>
    clear HG HI HC
    obtain ⟨k, cs, hk, rfl, HG, HC, HI, HM⟩ := hrel
    by_cases hgo : k < cap
    · obtain ⟨x, hx⟩ := isI_get HI.out (i := k) (by rw [HC.out]; exact hgo)
      have q0 := cell_of_row _ g k _ _ _ HG.out
      rw [hx] at q0
      clear hx
      have q1 := frozen_of_row _ g k _ _ HG.out
      go_wp2
      go_roundw
      case rel => exact ⟨k + 1, _, by omega, by go_num, ⟨heap_setCell_same _ _ _ _ _ _ HG.out⟩, ⟨by rw [Array.size_setIfInBounds]; exact HC.out⟩, ⟨isI_set HI.out⟩, ⟨HM.out.set _ rfl _⟩⟩
      case measure => simp [intOf]; omega
    · obtain rfl : k = cap := by omega
      go_wp2
      go_end0
      exact ⟨rfl, HM.out⟩
theorem over_nil (w : World) : Calls Try.prog 37 #[.slice none 0 0] w fun e w' => e = .returned (.tuple #[]) ∧ Below w.heap.size w w' := by
  go_enter Try.func37, Try.ntmps37
  go_wp2
  go_loopw [2] (fun i wr => i = .int .i64 0 ∧ Aside0 (Below w.heap.size w wr)) (fun i _ => 0 - (intOf i).toNat)
  case atStart => exact ⟨rfl, ⟨Below.refl _ _⟩⟩
  case round =>
    obtain ⟨rfl, HB⟩ := hrel
    go_wp2
    go_end0
    exact ⟨rfl, HB.out⟩
theorem Over_any {w : World} {base : Nat} {v : Value} {xs : List Int} (h : Row3 w base v xs) : Calls Try.prog 37 #[v] w fun e w' => e = .returned (.tuple #[]) ∧ Moved (fun k => some k = v.ownBlock) w w' := by
  rcases h.form with ⟨rfl, _⟩ | ⟨g, cap, cur, rfl, _, h1, h2, h3, h4, h5⟩
  · exact (over_nil w).mono fun e u ⟨e1, e2⟩ => ⟨e1, Moved.of_below e2⟩
  · refine (over_any g xs.length cap cur w h1 h2 h3 h4 h5).mono fun e u ⟨e1, e2⟩ => ⟨e1, e2.os, e2.tape, e2.output, e2.size, fun k hk hne => e2.block k hk (fun e => hne ?_)⟩
    show some k = some g
    rw [e]
theorem C_news {w : World} {ad : Addr} {l : List Int} (h : Kd.C kI w (some ad) l.length l) : ∀ j u, (l.map fun x => Value.int .i64 x)[j]? = some u → w.cell? (ad.add j) = some u := by
  intro j u hu
  rw [List.getElem?_map] at hu
  obtain ⟨x, hx, rfl⟩ := Option.map_eq_some_iff.1 hu
  have hj := (List.getElem?_eq_some_iff.1 hx).1
  obtain ⟨ad', e, hc⟩ := cell_get h j hj
  obtain rfl := Option.some.inj e
  rw [hc, List.getD_eq_getElem?_getD, hx]
  rfl
theorem R_of_owns {w : World} {base : Nat} {v : Value} {l : List Int} (h : w.ownsRow base 3 1 v l.length (l.map fun x => Value.int .i64 x)) : kI.R 3 w base (fun _ => True) v l :=
  Kd.R_of_own (enc := Value.int .i64) (h1 := fun _ => rfl) (by simpa [encs] using h) (fun _ _ => trivial)
set_option maxHeartbeats 1600000 in
theorem copy_some (ad : Addr) (c : Nat) (l : List Int) (w : World) (h : Kd.C kI w (some ad) l.length l) (hl : l.length ≤ 1000) :
    Calls Try.prog 31 #[.slice (some ad) l.length c] w fun e w' => ∃ v, e = .returned v ∧ Below w.heap.size w w' ∧ Row3 w' w.heap.size v l := by
  obtain ⟨i0, hi, hz0, hz1, hz2⟩ := info_parts info3
  have HC := Aside0.mk (C_news (Kd.C_below h ((Below.refl w.heap.size w).alloc (o := .cells #[] 3) (Nat.le_refl _))))
  clear h
  have HO : Aside0 ((w.alloc (.cells #[] 3)).ownsRow w.heap.size 3 1 (.slice (some ⟨w.heap.size, 0, none⟩) 0 0) 0 []) := ⟨World.ownsRow_lit w #[] 0 (Nat.le_refl _) (by decide) rfl⟩
  have HF : Aside0 (Full (isI .i64) 3 (w.alloc (.cells #[] 3)) (.slice (some ⟨w.heap.size, 0, none⟩) 0 0)) := ⟨fun k hk => by
    obtain rfl : w.heap.size = k := by simpa [Value.ownBlock] using hk
    exact ⟨#[], heap_alloc_new _ _, by simp⟩⟩
  have HB : Aside0 (Below w.heap.size w (w.alloc (.cells #[] 3))) := ⟨(Below.refl _ _).alloc (Nat.le_refl _) _⟩
  go_enter Try.func31, Try.ntmps31
  go_wp2_with ((with_reducible refine gate_builtin (b := .append) (xs := #[.tmp 3, .tmp 4]) rfl ?_); at_builtin; refine wpList_append_full (w.alloc (.cells #[] 3)) (isI .i64) rfl (.tmp 3) (.tmp 4) 39 rfl w.heap.size 3 i0 (.int .i64 0) 1 8 Try.underlying39 hi hz0 hz1 hz2 rfl (by decide) (.slice (some ⟨w.heap.size, 0, none⟩) 0 0) 0 [] rfl HO.out HF.out zero_isI ad l.length c (l.map fun x => Value.int .i64 x) rfl ?c1 HC.out ?c2 ?c3 ?c4 ?c5 ?c6 ?_; (case c1 => simp); (case c2 => intro u hu; obtain ⟨x, _, rfl⟩ := List.mem_map.1 hu; rfl); (case c3 => intro u hu; obtain ⟨x, _, rfl⟩ := List.mem_map.1 hu; exact ⟨x, rfl⟩); (case c4 => simp only [maxLen]; omega); (case c5 => omega); (case c6 => simp); intro v1 w1 ho hg hat hf; have HO1 := Aside0.mk ho; have HG1 := Aside0.mk hg; have HF1 := Aside0.mk hf; clear ho hg hat hf)
  go_ret
  refine ⟨v1, rfl, HB.out.grown HG1.out (by simp) (fun k hk => ?_), ?_, HF1.out⟩
  · obtain rfl : w.heap.size = k := by simpa [Value.ownBlock] using hk
    exact Nat.le_refl _
  · refine R_of_owns ?_
    simpa using HO1.out
set_option maxHeartbeats 1600000 in
set_option maxRecDepth 100000 in
theorem copy_none (w : World) : Calls Try.prog 31 #[.slice none 0 0] w fun e w' => ∃ v, e = .returned v ∧ Below w.heap.size w w' ∧ Row3 w' w.heap.size v [] := by
  obtain ⟨i0, hi, hz0, hz1, hz2⟩ := info_parts info3
  have HO : Aside0 ((w.alloc (.cells #[] 3)).ownsRow w.heap.size 3 1 (.slice (some ⟨w.heap.size, 0, none⟩) 0 0) 0 []) := ⟨World.ownsRow_lit w #[] 0 (Nat.le_refl _) (by decide) rfl⟩
  have HF : Aside0 (Full (isI .i64) 3 (w.alloc (.cells #[] 3)) (.slice (some ⟨w.heap.size, 0, none⟩) 0 0)) := ⟨fun k hk => by
    obtain rfl : w.heap.size = k := by simpa [Value.ownBlock] using hk
    exact ⟨#[], heap_alloc_new _ _, by simp⟩⟩
  go_enter Try.func31, Try.ntmps31
  go_wp2_with ((with_reducible refine gate_builtin (b := .append) (xs := #[.tmp 3, .tmp 4]) rfl ?_); at_builtin; refine Kd.event_run (v := .slice (some ⟨w.heap.size, 0, none⟩) 0 0) (w1 := w.alloc (.cells #[] 3)) rfl ?c1 ?_; (case c1 => (unfold execOp; simp only [resolve, invoke, builtin, Sem.run_bind, Sem.run_pure, Result.andThen_ok, List.map_toArray, List.map_cons, List.map_nil]; rw [show (Builtin.append_ #[39, 39] 39 #[.slice (some ⟨w.heap.size, 0, none⟩) 0 0, .slice none 0 0]).run Try.prog (w.alloc (.cells #[] 3)) = _ from run_append_owned_none (P := Try.prog) (w.alloc (.cells #[] 3)) w.heap.size 39 39 3 i0 1 Try.underlying39 hi _ _ _ HO.out]; rfl)))
  go_ret
  refine ⟨_, rfl, (Below.refl _ _).alloc (Nat.le_refl _) _, ?_, HF.out⟩
  exact R_of_owns (l := []) HO.out
theorem CopyInts_any (A : Option Addr) (c : Nat) (l : List Int) (w : World) (h : Kd.C kI w A l.length l) (hl : l.length ≤ 1000) (hc : A = none → c = 0) :
    Calls Try.prog 31 #[.slice A l.length c] w fun e w' => ∃ v, e = .returned v ∧ Below w.heap.size w w' ∧ Row3 w' w.heap.size v l := by
  cases A with
  | some ad => exact copy_some ad c l w h hl
  | none =>
    obtain rfl : l = [] := by
      rcases Nat.eq_zero_or_pos l.length with e | e
      · exact List.length_eq_zero_iff.1 e
      · obtain ⟨ad, e2, _⟩ := h.2.2 e
        cases e2
    rw [hc rfl]
    exact copy_none w
end Go.Proofs.Ytheafmjdncmpoaa
