/-
  Digest: slices.Chunk, and its closure.
-/
import Derived.Test.YtaaepadhapfkoaaDgD
import Derived.RangeFuncFrom
import Derived.RangeFuncBound
import Derived.RangeFuncCalls
import Derived.RangeFuncLeaves
import Derived.Shelf.Abstract
import Derived.OwnWalkIn
import Derived.TacticsInMore
import Derived.LoopNIn
import Derived.LoopIn
namespace Go.Proofs.Ytaaepadhapfkoaa
set_option linter.unusedSimpArgs false
set_option linter.unusedVariables false
open Go.RowKit
attribute [local go_sem] Oper.semAt_some

set_option maxHeartbeats 800000 in
theorem chunk_any (A : Option Addr) (n c : Nat) (w : World) : Calls Try.prog 79 #[.slice A n c, .int .i64 64] w fun e w' => e = .returned (.func (.func 103) #[] #[.pointer (some ⟨w.heap.size, 0, none⟩), .pointer (some ⟨w.heap.size + 1, 0, none⟩)]) ∧ w' = (w.alloc (.cells #[.slice A n c] 54)).alloc (.cells #[.int .i64 64] 3) := by
  go_enter Try.func79, Try.ntmps79
  go_wp2
  go_ret
  exact ⟨rfl, rfl⟩
/-- what a round keeps: all blocks below B but one -/
def KG (B gs : Nat) (W W' : World) : Prop := ∀ k, k < B → k ≠ gs → W'.heap[k]? = W.heap[k]?
theorem KG.refl (B gs : Nat) (W : World) : KG B gs W W := fun _ _ _ => rfl
theorem KG.trans {B gs : Nat} {A C D : World} (h : KG B gs A C) (k : KG B gs C D) : KG B gs A D := fun i h1 h2 => (k i h1 h2).trans (h i h1 h2)
theorem KG.cell {B gs : Nat} {A C : World} (h : KG B gs A C) {g j : Nat} (hg : g < B) (hne : g ≠ gs) {v : Value} (hc : A.cell? ⟨g, j, none⟩ = some v) : C.cell? ⟨g, j, none⟩ = some v :=
  (World.cell?_of_block (h g hg hne)).trans hc
/-- a part of a slice -/
def chunkV (b off : Nat) (i : Nat) : Value := .slice (some ⟨b, off + 64 * i, none⟩) 64 64
set_option maxRecDepth 100000 in
set_option maxHeartbeats 2000000 in
theorem chunk1_in (n : Nat) (hn : 1 ≤ n) (l gs g1 g2 B b off N c : Nat) (hN : N ≤ 144115188075855871) (hc : 64 * N ≤ c) (h1 : g1 < B ∧ g1 ≠ gs) (h2 : g2 < B ∧ g2 ≠ gs) (J Jx : List (Fin N) → World → Prop) (hJ : ∀ pre A q, J pre A → J pre (World.drewN A q))
    (hY : ∀ pre x W, J pre W → pre.length < N → YieldAt Fence.wide (n - 1) Try.prog l #[chunkV b off x.val] W fun e W' =>
      (e = .returned (.bool true) ∧ J (pre ++ [x]) W' ∧ KG B gs W W') ∨ (e = .returned (.bool false) ∧ Jx (pre ++ [x]) W'))
    (W : World) (hc1 : W.cell? ⟨g1, 0, none⟩ = some (.slice (some ⟨b, off, none⟩) (64 * N) c)) (hc2 : W.cell? ⟨g2, 0, none⟩ = some (.int .i64 64)) (h0 : J [] W) :
    CallsIn Fence.wide n Try.prog 103 #[.func (.yield l) #[] #[], .pointer (some ⟨g1, 0, none⟩), .pointer (some ⟨g2, 0, none⟩)] W fun e W' => (∃ v, e = .returned v) ∧
      ((∃ ys : List (Fin N), ys.map (·.val) = List.range N ∧ J ys W') ∨ (∃ pre, True ∧ Jx pre W')) := by
  refine callsIn_of_wp Try.func103 rfl trivial ?_ rfl
  simp only [Try.ntmps103, List.size_toArray, List.length_cons, List.length_nil, Nat.reduceAdd, Nat.reduceSub, Array.replicate_succ, Array.replicate_zero, List.push_toArray, List.append_toArray, List.nil_append, List.cons_append]
  gi_wp2
  gi_loopw [4] (fun i wr => ∃ (k : Nat) (pre : List (Fin N)), k ≤ N ∧ i = .int .i64 ((64 * k : Nat) : Int) ∧ Hf (pre.map (·.val) = List.range k) ∧ Hf (J pre wr) ∧ Hf (KG B gs W wr))
    (fun i _ => 64 * N - (intOf i).toNat)
  case atStart => exact ⟨0, [], Nat.zero_le _, rfl, ⟨rfl⟩, ⟨h0⟩, ⟨KG.refl _ _ _⟩⟩
  case round =>
    obtain ⟨k, pre, hk, rfl, HP, HJ, HK⟩ := hrel
    have q1 := HK.out.cell h1.1 h1.2 hc1
    have q2 := HK.out.cell h2.1 h2.2 hc2
    have hlen : pre.length = k := by have := congrArg List.length HP.out; simpa using this
    by_cases hlt : k < N
    · obtain ⟨T, hT⟩ : ∃ T, 64 * N = T := ⟨_, rfl⟩
      obtain ⟨m, hm⟩ : ∃ m, 64 * k = m := ⟨_, rfl⟩
      have e0 : m + 64 ≤ T := by omega
      have e1 : (m : Int) < (T : Int) := by omega
      have e2 : (m : Int) + 64 ≤ (T : Int) := by omega
      have e3 : T ≤ c := by omega
      have e4 : T ≤ 9223372036854775744 := by omega
      have e5 : m < c := by omega
      have e6 : ¬ (c = m) := by omega
      rw [hT] at q1 ⊢
      rw [hm]
      have HM := Hf.mk hm
      have HT := Hf.mk hT
      clear hm hT
      gi_wp2
      refine wpIn_wide.2 ?_
      go_quiet (fail)
      rename_i nq
      obtain ⟨fn, tmps, assign, body, hy, hR⟩ := hY pre ⟨k, hlt⟩ (wr.drewN nq) (hJ _ _ _ HJ.out) (by omega)
      have hHL : chunkV b off k = .slice (some ⟨b, off + m, none⟩) 64 64 := by unfold chunkV; rw [HM.out]
      dsimp only at hy
      rw [hHL] at hy
      have q1' : (wr.drewN nq).cell? ⟨g1, 0, none⟩ = some (.slice (some ⟨b, off, none⟩) T c) := q1
      have q2' : (wr.drewN nq).cell? ⟨g2, 0, none⟩ = some (.int .i64 64) := q2
      have HKd : Hf (KG B gs W (wr.drewN nq)) := ⟨HK.out⟩
      generalize wr.drewN nq = wd at hy hR q1' q2' HKd ⊢
      have HR := Hf.mk hR
      clear hR q1 q2 HJ HK hHL
      gi_wp2
      refine HR.out.mono ?_
      rintro e W3 (⟨rfl, hJ3, hk3⟩ | ⟨rfl, hJx3⟩)
      · have q2'' := hk3.cell h2.1 h2.2 q2'
        have HJ3 := Hf.mk hJ3
        have HK3 := Hf.mk (HKd.out.trans hk3)
        clear hJ3 hk3 HR hy
        gi_wp2
        go_roundw
        case rel =>
          refine ⟨k + 1, pre ++ [⟨k, hlt⟩], by omega, by rw [← HM.out]; go_num, ⟨?_⟩, HJ3, HK3⟩
          rw [List.map_append, HP.out, List.range_succ]
          rfl
        case measure => simp [intOf]; omega
      · gi_wp2
        refine bodyPost_ret (results_none rfl _ _ _) rfl ?_
        exact ⟨⟨_, rfl⟩, .inr ⟨_, trivial, hJx3⟩⟩
    · obtain rfl : k = N := by omega
      gi_wp2
      go_end0
      exact ⟨⟨_, rfl⟩, .inl ⟨pre, HP.out, HJ.out⟩⟩
theorem drewN_grown (A : World) (q : Nat) (row : Option Nat) : A.grownBy (A.drewN q) row := ⟨rfl, rfl, rfl, Nat.le_refl _, fun _ _ _ => rfl⟩
/-- a slice without elements -/
theorem chunk0_in (n : Nat) (l g1 g2 B gs : Nat) (A : Option Addr) (c : Nat) (J : List (Fin 0) → World → Prop) (W : World) (hc1 : W.cell? ⟨g1, 0, none⟩ = some (.slice A 0 c)) (h0 : J [] W) :
    CallsIn Fence.wide n Try.prog 103 #[.func (.yield l) #[] #[], .pointer (some ⟨g1, 0, none⟩), .pointer (some ⟨g2, 0, none⟩)] W fun e W' => (∃ v, e = .returned v) ∧ (∃ ys : List (Fin 0), ys = [] ∧ J ys W') := by
  have H0 := Hf.mk h0
  clear h0
  refine callsIn_of_wp Try.func103 rfl trivial ?_ rfl
  simp only [Try.ntmps103, List.size_toArray, List.length_cons, List.length_nil, Nat.reduceAdd, Nat.reduceSub, Array.replicate_succ, Array.replicate_zero, List.push_toArray, List.append_toArray, List.nil_append, List.cons_append]
  gi_wp2
  gi_loopw [4] (fun i wr => i = .int .i64 0 ∧ wr = W) (fun i _ => 0 - (intOf i).toNat)
  case atStart => exact ⟨rfl, rfl⟩
  case round =>
    obtain ⟨rfl, rfl⟩ := hrel
    gi_wp2
    go_end0
    exact ⟨⟨_, rfl⟩, [], rfl, H0.out⟩
/-- slices.Chunk's closure at a part of whole blocks -/
theorem chunk_stops (n : Nat) (hn : 1 ≤ n) (gs g1 g2 B N c : Nat) (A : Option Addr) (b off : Nat) (hA : 0 < N → A = some ⟨b, off, none⟩) (hN : N ≤ 144115188075855871) (hc : 64 * N ≤ c) (w : World) (h1 : g1 < B ∧ g1 ≠ gs) (h2 : g2 < B ∧ g2 ≠ gs)
    (hc1 : w.cell? ⟨g1, 0, none⟩ = some (.slice A (64 * N) c)) (hc2 : w.cell? ⟨g2, 0, none⟩ = some (.int .i64 64)) :
    SeqStopsK Fence.wide n Try.prog 103 #[.pointer (some ⟨g1, 0, none⟩), .pointer (some ⟨g2, 0, none⟩)] (fun i : Fin N => #[chunkV b off i.val]) (KG B gs) (fun ys => ys.map (·.val) = List.range N) (fun _ => True) N w := fun l J Jx W hW hJ hJx hY h0 => by
  have q1 := cell_below hW hc1
  have q2 := cell_below hW hc2
  rcases Nat.eq_zero_or_pos N with rfl | hpos
  · refine (chunk0_in n l g1 g2 B gs A c J W q1 h0).mono ?_
    rintro e W' ⟨h, ys, rfl, hj⟩
    exact ⟨h, .inl ⟨[], rfl, hj⟩⟩
  · obtain rfl := hA hpos
    exact chunk1_in n hn l gs g1 g2 B b off N c hN hc h1 h2 J Jx (fun pre A q hj => hJ pre A _ none hj (drewN_grown A q none) (fun r e => by cases e)) hY W q1 q2 h0
end Go.Proofs.Ytaaepadhapfkoaa
