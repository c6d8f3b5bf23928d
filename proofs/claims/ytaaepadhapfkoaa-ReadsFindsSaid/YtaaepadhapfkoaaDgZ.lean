/-
  Digest: append of so many zeros; slices.Clone of bytes; a row of bytes of one's own.
-/
import Derived.Test.YtaaepadhapfkoaaDgI
import Derived.Lib.AppendZeros
import Derived.Maps.AppendAt
namespace Go.Proofs.Ytaaepadhapfkoaa
set_option linter.unusedSimpArgs false
set_option linter.unusedVariables false
open Go.RowKit

theorem zeros_list (m : Nat) : Builtin.zeroCells (Value.int .u8 0).cells m = (List.replicate m (Value.int .u8 0)).toArray := by
  apply Array.ext'
  apply List.ext_getElem
  · simp [Builtin.zeroCells, Value.cells]
  · intro i h1 h2
    have h0 : i % 1 = 0 := Nat.mod_one i
    simp [Builtin.zeroCells, Value.cells, h0]
theorem rep_len (m : Nat) : (List.replicate m (Value.int .u8 0)).length = m := List.length_replicate
theorem rep_one (m : Nat) : ∀ u ∈ List.replicate m (Value.int .u8 0), u.oneCell' = true := by
  intro u hu
  rw [(List.mem_replicate.1 hu).2]
  rfl
theorem run_zeros {w : World} (base : Nat) (ty : TypeId) {v : Value} {n : Nat} {xs : List Value} (hown : w.ownsRow base 5 1 v n xs) (hn : 0 < n) (m : Nat) (hm : m ≤ 1000) (hnn : n ≤ 1000000) (hbase : base ≤ w.heap.size) :
    ∃ v' w', (Builtin.append_ #[54, 3] ty #[v, .int .i64 (m : Int)]).run Try.prog w = .ok v' w' ∧ w'.ownsRow base 5 1 v' (n + m) (xs ++ List.replicate m (.int .u8 0)) ∧ w.grownBy w' v.ownBlock := by
  obtain ⟨i, hi, hz0, hz1, hz2⟩ := info_parts info5
  have hw : IntKind.i64.wrap (m : Int) = m := by rw [IntKind.wrap_i64]; omega
  have hneg : ¬ ((m : Int) < 0) := by omega
  have h48i : ¬ (281474976710656 < (m : Int) * (i.bytes : Int)) := by rw [hz2]; omega
  have hzc := zeros_list m
  obtain ⟨zs, hzs⟩ : ∃ zs, List.replicate m (Value.int .u8 0) = zs := ⟨_, rfl⟩
  have hzl : zs.length = m := by rw [← hzs]; exact rep_len m
  have hz1' : ∀ u ∈ zs, u.oneCell' = true := by rw [← hzs]; exact rep_one m
  rw [hzs] at hzc ⊢
  have hlen : (xs ++ zs).length = n + m := by rw [List.length_append, hown.1, hzl]; omega
  rcases hown.2 with ⟨rfl, h0⟩ | ⟨g, cap, cur, rfl, hbg, hg, hnc, hcm, hcs, htake⟩
  · omega
  · by_cases hroom : n + m ≤ cap
    · have hst := run_storeCells_at Try.prog g n 5 zs 0 cur w hg (by rw [hzl, hcs]; omega) hz1'
      simp only [Nat.add_zero] at hst
      have hr : (Builtin.append_ #[54, 3] ty #[.slice (some ⟨g, 0, none⟩) n cap, .int .i64 (m : Int)]).run Try.prog w = .ok (.slice (some ⟨g, 0, none⟩) (n + m) cap) (w.setRow g (cur.toList.take n ++ zs ++ cur.toList.drop (n + zs.length)).toArray) := by
        by_cases h0 : m = 0
        · have hz : zs = [] := List.eq_nil_of_length_eq_zero (by omega)
          subst h0
          rw [hz] at hst ⊢
          have hw0 : IntKind.i64.wrap 0 = 0 := by rw [IntKind.wrap_i64]; omega
          simp [Builtin.append_, run_underlying Try.underlying54, run_underlying Try.underlying3, sizeOf, typeInfo, zeroValue, hi, hz0, hz1, asInt, asIntOf, hw0, hnc, Addr.add_lit, storeCells]
          exact (setRow_self w g cur 5 (0, 0) hg).symm
        · simp [Builtin.append_, run_underlying Try.underlying54, run_underlying Try.underlying3, sizeOf, typeInfo, zeroValue, hi, hz0, hz1, asInt, asIntOf, hw, hneg, h48i, h0, hroom, Addr.add_lit, hzc, hst]
      refine ⟨_, _, hr, ⟨by rw [hlen]; omega, .inr ⟨g, cap, _, rfl, hbg, setRow_heap w g cur _ 5 _ hg, hroom, hcm, ?_, ?_⟩⟩, ⟨rfl, rfl, rfl, by simp, fun k _ hk => setRow_other w g k _ (fun e => hk (by simp [Value.ownBlock, e]))⟩⟩
      · simp only [List.size_toArray, List.length_append, List.length_take, List.length_drop, Array.length_toList, hzl, hcs]
        omega
      · rw [Nat.mul_one] at htake
        rw [Nat.mul_one, htake, ← hlen]
        exact List.take_left
    · have h0 : ¬ (m = 0) := by omega
      have holds : ∀ j u, xs[j]? = some u → w.cell? ((⟨g, 0, none⟩ : Addr).add j) = some u := hown.cells (g := g) rfl
      have hfo := run_firstCells_some (P := Try.prog) w.drew 1 n ⟨g, 0, none⟩ n cap xs (by rw [hown.1]) (by simpa using holds)
      have h63' : ¬ (9223372036854775807 < ((n : Int) + (m : Int))) := by omega
      have h48' : ¬ (281474976710656 < Builtin.nextslicecap (n + m) cap * i.bytes) := by
        have := growslice_fits (need := n + m) (bytes := i.bytes) (show cap < n + m by omega) (by rw [hz2]; omega)
        omega
      have hr : (Builtin.append_ #[54, 3] ty #[.slice (some ⟨g, 0, none⟩) n cap, .int .i64 (m : Int)]).run Try.prog w = .ok (.slice (some ⟨w.heap.size, 0, none⟩) (n + m) (grownCap w (n + m) cap 5)) (w.drew.alloc (.cells (xs.toArray ++ zs.toArray ++ Builtin.zeroCells (Value.int .u8 0).cells (grownCap w (n + m) cap 5 - (n + m))) 5)) := by
        simp [Builtin.append_, run_underlying Try.underlying54, run_underlying Try.underlying3, sizeOf, typeInfo, zeroValue, hi, hz0, hz1, asInt, asIntOf, hw, hneg, h48i, h0, hroom, hzc, Question.forced, hfo, h63', h48', newRow, grownCap]
        simp only [← List.append_toArray, Array.append_assoc]
      have hge := grownCap_ge w (n + m) cap 5
      have hcm2 : grownCap w (n + m) cap 5 ≤ maxLen := grownCap_le_maxLen w (n + m) cap 5 (by unfold maxLen; omega)
      refine ⟨_, _, hr, ⟨by rw [hlen]; omega, .inr ⟨w.heap.size, _, _, rfl, hbase, heap_alloc_new w.drew _, hge, hcm2, ?_, ?_⟩⟩, ⟨rfl, rfl, rfl, by simp, fun k hk _ => heap_alloc_old w.drew _ hk⟩⟩
      · simp only [Array.size_append, List.size_toArray, size_zeroCells, hown.1, hzl, Value.cells]
        simp
        omega
      · simp only [Array.toList_append, List.append_assoc]
        rw [Nat.mul_one, ← List.append_assoc, ← hlen]
        exact List.take_left
/-- bytes that a call is given -/
def Given (w : World) (A : Option Addr) (c : Nat) (l : List Nat) : Prop := Reads w A l ∧ l.length ≤ c ∧ c ≤ 9223372036854775807 ∧ (A = none → c = 0)
theorem Given.below {w w1 : World} {A : Option Addr} {c : Nat} {l : List Nat} (h : Given w A c l) (hb : Below w.heap.size w w1) : Given w1 A c l := ⟨h.1.below hb, h.2⟩
theorem Given.empty {w : World} {c : Nat} {l : List Nat} (h : Given w none c l) : l = [] ∧ c = 0 := by
  have hc := h.2.2.2 rfl
  exact ⟨List.eq_nil_of_length_eq_zero (by have := h.2.1; omega), hc⟩
theorem owns_empty (w : World) : (w.alloc (.cells #[] 5)).ownsRow w.heap.size 5 1 (.slice (some ⟨w.heap.size, 0, none⟩) 0 0) 0 [] :=
  ⟨rfl, .inr ⟨w.heap.size, 0, #[], rfl, Nat.le_refl _, heap_alloc_new _ _, Nat.le_refl _, Nat.zero_le _, rfl, rfl⟩⟩
set_option maxHeartbeats 1600000 in
set_option maxRecDepth 100000 in
theorem cloneB_any (A : Option Addr) (c : Nat) (l : List Nat) (w : World) (h : Given w A c l) (hl : l.length ≤ 1000000) :
    Calls Try.prog 75 #[.slice A l.length c] w fun e w' => ∃ v, e = .returned v ∧ w'.ownsRow w.heap.size 5 1 v l.length (cellsOf l) ∧ Below w.heap.size w w' := by
  obtain ⟨i0, hi, hz0, hz1, hz2⟩ := info_parts info5
  have Hown := Hf.mk (owns_empty w)
  have HB : Hf (Below w.heap.size w (w.alloc (.cells #[] 5))) := ⟨(Below.refl _ _).alloc (Nat.le_refl _) _⟩
  cases A with
  | none =>
    obtain ⟨rfl, rfl⟩ := h.empty
    have hnil := Lib.run_eql_slice_nil (P := Try.prog) w 54 5 none 0 0 0 0 Try.underlying54
    clear h
    go_enter Try.func75, Try.ntmps75
    go_wp2
    go_ret
    exact ⟨_, rfl, World.ownsRow_nil w w.heap.size 5 1, Below.refl _ _⟩
  | some ad =>
    have hnil := Lib.run_eql_slice_nil (P := Try.prog) w 54 5 (some ad) l.length c 0 0 Try.underlying54
    have HC := Hf.mk ((h.below HB.out).1.news)
    clear h
    go_enter Try.func75, Try.ntmps75
    go_wp2_with (at_builtin; (refine wpList_append_own _ rfl (.tmp 5) (.tmp 6) 54 rfl w.heap.size 5 i0 (.int .u8 0) 1 1 Try.underlying54 hi hz0 hz1 hz2 rfl (by decide) (.slice (some ⟨w.heap.size, 0, none⟩) 0 0) 0 [] rfl Hown.out ad l.length c (cellsOf l) rfl (by rw [cellsOf_length]; omega) HC.out (cellsOf_one l) (by unfold maxLen; omega) (by omega) (by simp) ?_; intro v1 w1 ho hg _; have HO1 := Hf.mk ho; have HB1 : Hf (Below w.heap.size w w1) := ⟨HB.out.grown hg (by simp) (fun k hk => by obtain rfl : w.heap.size = k := (by simpa [Value.ownBlock] using hk); exact Nat.le_refl _)⟩; clear ho hg))
    go_ret
    exact ⟨_, rfl, by simpa using HO1.out, HB1.out⟩
end Go.Proofs.Ytaaepadhapfkoaa
