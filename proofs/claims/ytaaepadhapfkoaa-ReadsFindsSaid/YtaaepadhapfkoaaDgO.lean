/-
  Digest: what an id weighs; which of two is less.
-/
import Derived.Test.YtaaepadhapfkoaaDgB
import Derived.Test.YtaaepadhapfkoaaDgN
namespace Go.Proofs.Ytaaepadhapfkoaa
set_option linter.unusedSimpArgs false
set_option linter.unusedVariables false
open Go.RowKit

set_option maxHeartbeats 800000 in
theorem weigh_any (l : List Nat) (w : World) (hl : l.length = 32) (hb : ∀ c ∈ l, c < 256) :
    Calls Try.prog 15 #[.agg (cellsOf l).toArray] w fun e w' => e = .returned (.int .u64 (num (l.take 8))) ∧ Below w.heap.size w w' := by
  have hn : ∀ W : World, Below w.heap.size (w.alloc (.cells (cellsOf l).toArray 23)) W → W = w.alloc (.cells (cellsOf l).toArray 23) → Calls Try.prog 52 #[.slice (some ⟨w.heap.size, 0, none⟩) 8 32] W fun e w' => e = .returned (.int .u64 (num (l.take 8))) ∧ W = w' := by
    rintro W _ rfl
    have h8 : (l.take 8).length = 8 := by rw [List.length_take]; omega
    have hr := (reads_heap hb (heap_alloc_new w (.cells (cellsOf l).toArray 23))).part 0 8 (by omega)
    rw [List.drop_zero, Nat.add_zero] at hr
    have := number_any (some ⟨w.heap.size, 0, none⟩) (l.take 8) 32 _ hr (by omega)
    rw [h8] at this
    exact this
  have HN := Lib.hid (hn _ (Below.refl _ _) rfl)
  have hz : (cellsOf l).toArray.size = 32 := by rw [List.size_toArray, cellsOf_length, hl]
  generalize (cellsOf l).toArray = zs at HN hz ⊢
  clear hn
  go_enter Try.func15, Try.ntmps15
  go_wp2_with (go_at_call 52; refine HN.out.mono ?_; rintro e w' ⟨rfl, rfl⟩)
  go_ret
  exact ⟨rfl, (Below.refl _ _).alloc (Nat.le_refl _) _⟩
/-- how two bytes lie -/
def cmpN (a b : Nat) : Int := if a < b then -1 else if b < a then 1 else 0
theorem nan_any (a : Nat) (w : World) : Calls Try.prog 108 #[.int .u8 a] w fun e w' => e = .returned (.bool false) ∧ w = w' := by
  go_enter Try.func108, Try.ntmps108
  go_wp2
  go_ret
  exact ⟨rfl, rfl⟩
theorem cmp_any (a b : Nat) (w : World) : Calls Try.prog 93 #[.int .u8 a, .int .u8 b] w fun e w' => e = .returned (.int .i64 (cmpN a b)) ∧ w = w' := by
  go_enter Try.func93, Try.ntmps93
  unfold cmpN
  by_cases h1 : a < b
  · have h1' : (a : Int) < (b : Int) := by omega
    rw [if_pos h1]
    go_wp2_with (go_at_call 108; refine (nan_any _ _).mono ?_; rintro e w' ⟨rfl, rfl⟩)
    go_ret
    exact ⟨rfl, rfl⟩
  · rw [if_neg h1]
    have h1' : ¬ (a : Int) < (b : Int) := by omega
    by_cases h2 : b < a
    · have h2' : (b : Int) < (a : Int) := by omega
      rw [if_pos h2]
      go_wp2_with (go_at_call 108; refine (nan_any _ _).mono ?_; rintro e w' ⟨rfl, rfl⟩)
      go_ret
      exact ⟨rfl, rfl⟩
    · have h2' : ¬ (b : Int) < (a : Int) := by omega
      rw [if_neg h2]
      go_wp2_with (go_at_call 108; refine (nan_any _ _).mono ?_; rintro e w' ⟨rfl, rfl⟩)
      go_ret
      exact ⟨rfl, rfl⟩
/-- how two rows of bytes lie -/
def cmpL : List Nat → List Nat → Int
  | [], [] => 0
  | [], _ :: _ => -1
  | _ :: _, [] => 1
  | x :: a, y :: b => if x < y then -1 else if y < x then 1 else cmpL a b
theorem drop_get {l : List Nat} {k : Nat} (h : k < l.length) : l.drop k = l.getD k 0 :: l.drop (k + 1) := by
  rw [List.drop_eq_getElem_cons h, getD_get h]
set_option maxHeartbeats 800000 in
theorem compare_any (ga gb : Nat) (a b : List Nat) (w : World) (hra : Reads w (some ⟨ga, 0, none⟩) a) (hrb : Reads w (some ⟨gb, 0, none⟩) b) (ha : a.length = 32) (hb : b.length = 32) :
    Calls Try.prog 51 #[.slice (some ⟨ga, 0, none⟩) 32 32, .slice (some ⟨gb, 0, none⟩) 32 32] w fun e w' => e = .returned (.int .i64 (cmpL a b)) ∧ w = w' := by
  have HA := Hf.mk hra
  have HB := Hf.mk hrb
  have HLA := Hf.mk ha
  have HLB := Hf.mk hb
  clear hra hrb ha hb
  go_enter Try.func51, Try.ntmps51
  go_wp2
  go_loop [11] (fun i => ∃ k : Nat, k ≤ 32 ∧ i = .int .i64 k ∧ Hf (cmpL a b = cmpL (a.drop k) (b.drop k))) (fun i => 32 - (intOf i).toNat)
  case atStart => exact ⟨0, by omega, rfl, ⟨rfl⟩⟩
  case round =>
    obtain ⟨k, hk, rfl, HC⟩ := hrel
    by_cases hgo : k < 32
    · have hgo2 : (k : Int) < 32 := by omega
      have e1 := drop_get (l := a) (k := k) (by rw [HLA.out]; exact hgo)
      have e2 := drop_get (l := b) (k := k) (by rw [HLB.out]; exact hgo)
      obtain ⟨_, _, q, _, ca⟩ := HA.out.form (by rw [HLA.out]; omega)
      cases q
      obtain ⟨_, _, q, _, cb⟩ := HB.out.form (by rw [HLB.out]; omega)
      cases q
      have c0 := ca k (by rw [HLA.out]; exact hgo)
      have c1 := cb k (by rw [HLB.out]; exact hgo)
      rw [Nat.zero_add] at c0 c1
      clear ca cb
      obtain ⟨x, hx⟩ : ∃ x, a.getD k 0 = x := ⟨_, rfl⟩
      obtain ⟨y, hy⟩ : ∃ y, b.getD k 0 = y := ⟨_, rfl⟩
      rw [hx] at c0 e1
      rw [hy] at c1 e2
      have hc := HC.out
      rw [e1, e2] at hc
      clear hx hy e1 e2 HC
      by_cases h1 : x < y
      · have HC : Hf (cmpN x y = -1) := ⟨by unfold cmpN; rw [if_pos h1]⟩
        have hc' : cmpL a b = -1 := by rw [hc]; show (if x < y then (-1 : Int) else _) = _; rw [if_pos h1]
        have HR := Hf.mk hc'
        clear hc hc'
        go_wp2_with (go_at_call 93; refine (cmp_any x y _).mono ?_; rw [HC.out]; rintro e w' ⟨rfl, rfl⟩)
        go_ret
        exact ⟨by rw [HR.out]; rfl, rfl⟩
      · by_cases h2 : y < x
        · have HC : Hf (cmpN x y = 1) := ⟨by unfold cmpN; rw [if_neg h1, if_pos h2]⟩
          have hc' : cmpL a b = 1 := by rw [hc]; show (if x < y then (-1 : Int) else if y < x then 1 else _) = _; rw [if_neg h1, if_pos h2]
          have HR := Hf.mk hc'
          clear hc hc'
          go_wp2_with (go_at_call 93; refine (cmp_any x y _).mono ?_; rw [HC.out]; rintro e w' ⟨rfl, rfl⟩)
          go_ret
          exact ⟨by rw [HR.out]; rfl, rfl⟩
        · have HC : Hf (cmpN x y = 0) := ⟨by unfold cmpN; rw [if_neg h1, if_neg h2]⟩
          have hc' : cmpL a b = cmpL (a.drop (k + 1)) (b.drop (k + 1)) := by rw [hc]; show (if x < y then (-1 : Int) else if y < x then 1 else _) = _; rw [if_neg h1, if_neg h2]
          have HR := Hf.mk hc'
          clear hc hc'
          go_wp2_with (go_at_call 93; refine (cmp_any x y _).mono ?_; rw [HC.out]; rintro e w' ⟨rfl, rfl⟩)
          go_round
          case rel => exact ⟨k + 1, by omega, by go_num, HR⟩
          case measure => simp [intOf]; omega
    · obtain rfl : k = 32 := by omega
      have hc := HC.out
      rw [List.drop_eq_nil_of_le (by rw [HLA.out]; omega), List.drop_eq_nil_of_le (by rw [HLB.out]; omega)] at hc
      have HR := Hf.mk hc
      clear hc HC
      go_wp2
      go_ret
      exact ⟨by rw [HR.out]; rfl, rfl⟩
set_option maxHeartbeats 800000 in
theorem less_any (a b : List Nat) (w : World) (ha : a.length = 32) (hb : b.length = 32) (ha1 : ∀ c ∈ a, c < 256) (hb1 : ∀ c ∈ b, c < 256) :
    Calls Try.prog 14 #[.agg (cellsOf a).toArray, .agg (cellsOf b).toArray] w fun e w' => e = .returned (.bool (decide (cmpL a b < 0))) ∧ Below w.heap.size w w' := by
  have HN : Hf (∀ W : World, Below w.heap.size ((w.alloc (.cells (cellsOf a).toArray 23)).alloc (.cells (cellsOf b).toArray 23)) W → W.heap[w.heap.size]? = some (.cells (cellsOf a).toArray 23) → W.heap[w.heap.size + 1]? = some (.cells (cellsOf b).toArray 23) → Calls Try.prog 51 #[.slice (some ⟨w.heap.size, 0, none⟩) 32 32, .slice (some ⟨w.heap.size + 1, 0, none⟩) 32 32] W fun e w' => e = .returned (.int .i64 (cmpL a b)) ∧ w' = W) :=
    ⟨fun W _ h1 h2 => (compare_any _ _ a b W (reads_heap ha1 h1) (reads_heap hb1 h2) ha hb).mono fun e w' h => ⟨h.1, h.2.symm⟩⟩
  have h1 : ((w.alloc (.cells (cellsOf a).toArray 23)).alloc (.cells (cellsOf b).toArray 23)).heap[w.heap.size]? = some (.cells (cellsOf a).toArray 23) := (Below.heap_alloc _ _ _ (by simp)).trans (heap_alloc_new _ _)
  have h2 := heap_alloc_new (w.alloc (.cells (cellsOf a).toArray 23)) (.cells (cellsOf b).toArray 23)
  rw [World.size_alloc] at h2
  have hz1 : (cellsOf a).toArray.size = 32 := by rw [List.size_toArray, cellsOf_length, ha]
  have hz2 : (cellsOf b).toArray.size = 32 := by rw [List.size_toArray, cellsOf_length, hb]
  obtain ⟨c, hc⟩ : ∃ c, cmpL a b = c := ⟨_, rfl⟩
  rw [hc] at HN ⊢
  generalize (cellsOf a).toArray = za at HN hz1 h1 h2 ⊢
  generalize (cellsOf b).toArray = zb at HN hz2 h1 h2 ⊢
  have HB : Hf (Below w.heap.size w ((w.alloc (.cells za 23)).alloc (.cells zb 23))) := ⟨((Below.refl _ _).alloc (Nat.le_refl _) _).alloc (by simp) _⟩
  go_enter Try.func14, Try.ntmps14
  go_wp2
  generalize (w.alloc (.cells za 23)).alloc (.cells zb 23) = W at HN h1 h2 HB ⊢
  have H1 := Hf.mk h1
  have H2 := Hf.mk h2
  clear h1 h2
  go_quiet ((first | (go_at_call 51; exact Calls.quiet_of_same (HN.out _ (below_drewN (Below.refl _ _) _) H1.out H2.out))))
  rename_i nq
  go_wp2
  go_ret
  exact ⟨by simp, below_drewN HB.out _⟩
end Go.Proofs.Ytaaepadhapfkoaa
