/-
  Rank: how two weighed nodes are compared.
-/
import Derived.Test.YtaaepadhapfkoaaDgO
import Derived.StillTailTactics
import Derived.Sort.Grow
import Derived.Deep.DeepCutAuto
import Derived.BigQuiet
import Derived.Lib.SmallJoins
namespace Go.Proofs.Ytaaepadhapfkoaa
set_option linter.unusedSimpArgs false
set_option linter.unusedVariables false
open Go.RowKit Go.Lib Go.Sort

theorem nan64_any (a : Int) (w : World) : Calls Try.prog 97 #[.int .u64 a] w fun e w' => e = .returned (.bool false) ∧ w = w' := by
  go_enter Try.func97, Try.ntmps97
  go_wp2
  go_ret
  exact ⟨rfl, rfl⟩
theorem nanI_any (a : Int) (w : World) : Calls Try.prog 98 #[.int .i64 a] w fun e w' => e = .returned (.bool false) ∧ w = w' := by
  go_enter Try.func98, Try.ntmps98
  go_wp2
  go_ret
  exact ⟨rfl, rfl⟩
theorem cmp64_any (a b : Nat) (w : World) : Calls Try.prog 60 #[.int .u64 a, .int .u64 b] w fun e w' => e = .returned (.int .i64 (cmpN a b)) ∧ w' = w := by
  go_enter Try.func60, Try.ntmps60
  unfold cmpN
  by_cases h1 : a < b
  · have h1' : (a : Int) < (b : Int) := by omega
    rw [if_pos h1]
    go_wp2_with (go_at_call 97; refine (nan64_any _ _).mono ?_; rintro e w' ⟨rfl, rfl⟩)
    go_ret
    exact ⟨rfl, rfl⟩
  · rw [if_neg h1]
    have h1' : ¬ (a : Int) < (b : Int) := by omega
    by_cases h2 : b < a
    · have h2' : (b : Int) < (a : Int) := by omega
      rw [if_pos h2]
      go_wp2_with (go_at_call 97; refine (nan64_any _ _).mono ?_; rintro e w' ⟨rfl, rfl⟩)
      go_ret
      exact ⟨rfl, rfl⟩
    · have h2' : ¬ (b : Int) < (a : Int) := by omega
      rw [if_neg h2]
      go_wp2_with (go_at_call 97; refine (nan64_any _ _).mono ?_; rintro e w' ⟨rfl, rfl⟩)
      go_ret
      exact ⟨rfl, rfl⟩
theorem cmpI_any (a b : Nat) (w : World) : Calls Try.prog 61 #[.int .i64 a, .int .i64 b] w fun e w' => e = .returned (.int .i64 (cmpN a b)) ∧ w' = w := by
  go_enter Try.func61, Try.ntmps61
  unfold cmpN
  by_cases h1 : a < b
  · have h1' : (a : Int) < (b : Int) := by omega
    rw [if_pos h1]
    go_wp2_with (go_at_call 98; refine (nanI_any _ _).mono ?_; rintro e w' ⟨rfl, rfl⟩)
    go_ret
    exact ⟨rfl, rfl⟩
  · rw [if_neg h1]
    have h1' : ¬ (a : Int) < (b : Int) := by omega
    by_cases h2 : b < a
    · have h2' : (b : Int) < (a : Int) := by omega
      rw [if_pos h2]
      go_wp2_with (go_at_call 98; refine (nanI_any _ _).mono ?_; rintro e w' ⟨rfl, rfl⟩)
      go_ret
      exact ⟨rfl, rfl⟩
    · have h2' : ¬ (b : Int) < (a : Int) := by omega
      rw [if_neg h2]
      go_wp2_with (go_at_call 98; refine (nanI_any _ _).mono ?_; rintro e w' ⟨rfl, rfl⟩)
      go_ret
      exact ⟨rfl, rfl⟩
theorem or_any (g : Nat) (x y r : Int) (w : World) (hr : (if x = 0 then y else x) = r) (h0 : w.cell? ⟨g, 0, none⟩ = some (.int .i64 x)) (h1 : w.cell? ⟨g, 1, none⟩ = some (.int .i64 y)) :
    Calls Try.prog 59 #[.slice (some ⟨g, 0, none⟩) 2 2] w fun e w' => e = .returned (.int .i64 r) ∧ w' = w := by
  have HR := Hf.mk hr
  clear hr
  go_enter Try.func59, Try.ntmps59
  go_wp2
  go_loop [8] (fun i => (i = .int .i64 0) ∨ (i = .int .i64 1 ∧ x = 0) ∨ (i = .int .i64 2 ∧ x = 0 ∧ y = 0)) (fun i => 2 - (intOf i).toNat)
  case atStart => exact .inl rfl
  case round =>
    rcases hrel with rfl | ⟨rfl, hx⟩ | ⟨rfl, hx, hy⟩
    · by_cases hx : x = 0
      · go_wp2
        go_round
        case rel => exact .inr (.inl ⟨by go_num, hx⟩)
        case measure => simp [intOf]
      · have HR2 : Hf (r = x) := ⟨by rw [← HR.out, if_neg hx]⟩
        go_wp2
        go_ret
        exact ⟨by rw [HR2.out]; rfl, rfl⟩
    · by_cases hy : y = 0
      · go_wp2
        go_round
        case rel => exact .inr (.inr ⟨by go_num, hx, hy⟩)
        case measure => simp [intOf]
      · have HR2 : Hf (r = y) := ⟨by rw [← HR.out, if_pos hx]⟩
        go_wp2
        go_ret
        exact ⟨by rw [HR2.out]; rfl, rfl⟩
    · have HR2 : Hf (r = 0) := ⟨by rw [← HR.out, if_pos hx]; exact hy⟩
      go_wp2
      go_ret
      exact ⟨by rw [HR2.out]; rfl, rfl⟩
/-- a weighed node's cells, and how two lie -/
def encW (x : Nat × Nat) : List Value := [.int .i64 x.1, .int .u64 x.2]
def cfW (x y : Nat × Nat) : Int := if cmpN y.2 x.2 = 0 then cmpN x.1 y.1 else cmpN y.2 x.2
set_option maxHeartbeats 1000000 in
set_option maxRecDepth 100000 in
theorem weighed_any (x y : Nat × Nat) (W : World) : Calls Try.prog 58 #[.agg #[.int .i64 x.1, .int .u64 x.2], .agg #[.int .i64 y.1, .int .u64 y.2]] W fun e w' => e = .returned (.int .i64 (cfW x y)) ∧ ∃ q os', w' = grow (W.drewN q) os' := by
  have HC1 := Hf.mk (fun w => cmp64_any y.2 x.2 w)
  have HC2 := Hf.mk (fun w => cmpI_any x.1 y.1 w)
  obtain ⟨r, hr⟩ : ∃ r, cfW x y = r := ⟨_, rfl⟩
  rw [hr]
  unfold cfW at hr
  generalize cmpN y.2 x.2 = c1 at *
  generalize cmpN x.1 y.1 = c2 at *
  have HRR := Hf.mk hr
  clear hr
  go_enter Try.func58, Try.ntmps58
  go_upto_region 1 with fail
  have h1 : ((W.alloc (.cells #[.int .i64 x.1, .int .u64 x.2] 105)).alloc (.cells #[.int .i64 y.1, .int .u64 y.2] 105)).heap[W.heap.size]? = some (.cells #[.int .i64 x.1, .int .u64 x.2] 105) := (Below.heap_alloc _ _ _ (by simp)).trans (heap_alloc_new _ _)
  have h2 := heap_alloc_new (W.alloc (.cells #[.int .i64 x.1, .int .u64 x.2] 105)) (.cells #[.int .i64 y.1, .int .u64 y.2] 105)
  rw [World.size_alloc] at h2
  have HG : Hf (((W.alloc (.cells #[.int .i64 x.1, .int .u64 x.2] 105)).alloc (.cells #[.int .i64 y.1, .int .u64 y.2] 105)) = grow W (#[.cells #[.int .i64 x.1, .int .u64 x.2] 105] ++ #[.cells #[.int .i64 y.1, .int .u64 y.2] 105])) := ⟨by rw [alloc_eq_grow, alloc_eq_grow, grow_grow]⟩
  have hsz : ((W.alloc (.cells #[.int .i64 x.1, .int .u64 x.2] 105)).alloc (.cells #[.int .i64 y.1, .int .u64 y.2] 105)).heap.size = W.heap.size + 2 := by simp
  generalize (W.alloc (.cells #[.int .i64 x.1, .int .u64 x.2] 105)).alloc (.cells #[.int .i64 y.1, .int .u64 y.2] 105) = V at *
  have c10 := Go.Joins.cell_of_block h1 0
  have c11 := Go.Joins.cell_of_block h1 1
  have c20 := Go.Joins.cell_of_block h2 0
  have c21 := Go.Joins.cell_of_block h2 1
  simp only [List.getElem?_toArray, List.getElem?_cons_zero, List.getElem?_cons_succ] at c10 c11 c20 c21
  clear h1 h2
  refine wp_region_still_tail 10 (by kernel_rfl) (by kernel_rfl) ?_
  simp only [List.take_succ_cons, List.take_zero, List.drop_succ_cons, List.drop_zero]
  still_step
  still_step
  still_step
  still_step
  still_call (HC1.out _)
  still_step
  still_step
  still_step
  still_step
  still_call (HC2.out _)
  refine wpStill_nil ?_
  change wpList _ _ _ _ _ V.drew
  have HO := Hf.mk (fun w h0 h1 => or_any (W.heap.size + 2) c1 c2 r w HRR.out h0 h1)
  have hsz2 : V.drew.heap.size = W.heap.size + 2 := hsz
  have n0 : (V.drew.alloc (.cells #[.int .i64 c1, .int .i64 c2] 3)).cell? ⟨W.heap.size + 2, 0, none⟩ = some (.int .i64 c1) := by
    have := Go.Joins.cell_alloc_mark_at V.drew #[.int .i64 c1, .int .i64 c2] 3 (0, 0) (W.heap.size + 2) 0 hsz2.symm
    exact this
  have n1 : (V.drew.alloc (.cells #[.int .i64 c1, .int .i64 c2] 3)).cell? ⟨W.heap.size + 2, 1, none⟩ = some (.int .i64 c2) := by
    have := Go.Joins.cell_alloc_mark_at V.drew #[.int .i64 c1, .int .i64 c2] 3 (0, 0) (W.heap.size + 2) 1 hsz2.symm
    exact this
  have HN0 := Hf.mk n0
  have HN1 := Hf.mk n1
  clear n0 n1 c10 c11 c20 c21
  go_wp2_with (go_at_call 59; refine (HO.out _ HN0.out HN1.out).mono ?_; rintro e w' ⟨rfl, rfl⟩)
  go_ret
  refine ⟨rfl, 1, (#[.cells #[.int .i64 x.1, .int .u64 x.2] 105] ++ #[.cells #[.int .i64 y.1, .int .u64 y.2] 105]) ++ #[.cells #[.int .i64 c1, .int .i64 c2] 3], ?_⟩
  rw [alloc_eq_grow, HG.out, ← grow_grow]
  rfl
end Go.Proofs.Ytaaepadhapfkoaa
