/-
  The table of the program.
-/
import Derived.Test.YtofdbghklpeamaaOn
namespace Go.Proofs.Ytofdbghklpeamaa
open Go.RowKit

/-- a store of a whole row into a block from B on -/
theorem Below.setRow' {B : Nat} {a w : World} (h : Below B a w) {g : Nat} (hg : B ≤ g) (cs : Array Value) : Below B a (w.setRow g cs) :=
  h.trans ⟨rfl, rfl, rfl, by simp, fun k hk => setRow_other w g k cs (by omega)⟩
/-- a row of n cells, the first k of them written -/
def rowTo (n : Nat) (f : Nat → Nat) (k : Nat) : Array Value := Array.ofFn (n := n) fun i => if i.val < k then .int .u32 (f i.val) else .int .u32 0
theorem rowTo_size (n : Nat) (f : Nat → Nat) (k : Nat) : (rowTo n f k).size = n := by simp [rowTo]
theorem rowTo_at (n : Nat) (f : Nat → Nat) (k i : Nat) : (rowTo n f k)[i]? = if i < n then some (if i < k then .int .u32 (f i) else .int .u32 0) else none := by
  unfold rowTo
  rw [Array.getElem?_ofFn]
  by_cases h : i < n <;> simp [h]
theorem rowTo_set (n : Nat) (f : Nat → Nat) (k : Nat) (h : k < n) : (rowTo n f k).setIfInBounds k (.int .u32 (f k)) = rowTo n f (k + 1) := by
  apply Array.ext_getElem?
  intro i
  rw [Array.getElem?_setIfInBounds, rowTo_at, rowTo_at, rowTo_size]
  by_cases e : k = i
  · subst e; simp [h]
  · rw [if_neg e]
    by_cases h1 : i < k
    · have : i < k + 1 := by omega
      simp [h1, this]
    · have : ¬ i < k + 1 := by omega
      simp [h1, this]
theorem rowTo_get (n : Nat) (f : Nat → Nat) (k i : Nat) (hi : i < n) (hk : i < k) : (rowTo n f k)[i]? = some (.int .u32 (f i)) := by
  simp [rowTo, hi, hk]
theorem rowTo_one (n : Nat) (f : Nat → Nat) (k : Nat) : (rowTo n f k).all (·.oneCell') = true := by
  rw [Array.all_eq_true]
  intro i hi
  simp only [rowTo, Array.getElem_ofFn]
  split <;> rfl
def zeros256 : Array Value := Array.replicate 256 (.int .u32 0)
theorem zeros_row (f : Nat → Nat) : zeros256 = rowTo 256 f 0 := by
  apply Array.ext_getElem?
  intro i
  rw [zeros256, Array.getElem?_replicate, rowTo_at]
  simp only [Nat.not_lt_zero, if_false]
theorem size41 : (Try.prog.info? 41).map (·.size) = some 256 := by kernel_rfl
theorem zero41 (w : World) : (zeroValue 41).run Try.prog w = .ok (.agg zeros256) w := by kernel_rfl
/-- the table's entries -/
def tab (i : Nat) : Nat := Crc.on i 8
set_option maxHeartbeats 400000 in
set_option maxRecDepth 100000 in
theorem table_any (w : World) :
    Calls Try.prog 23 #[] w fun e w' => e = .returned (.agg (rowTo 256 tab 256)) ∧ Below w.heap.size w w' := by
  have hz := zero41
  go_enter Try.func23, Try.ntmps23
  go_wp2
  go_loopw [2, 3] (fun _ i wr => ∃ k : Nat, k ≤ 256 ∧ i = .int .i64 k ∧ wr = (w.alloc (.cells zeros256 41)).alloc (.cells (rowTo 256 tab k) 41)) (fun _ i _ => 256 - (intOf i).toNat)
  case atStart => exact ⟨0, by omega, rfl, by rw [← zeros_row tab]⟩
  case round =>
    obtain ⟨k, hk, rfl, rfl⟩ := hrel
    by_cases hlt : k < 256
    · obtain ⟨cs, hcs⟩ : ∃ cs, cs = rowTo 256 tab k := ⟨_, rfl⟩
      have hget : cs[k]? = some (.int .u32 0) := by rw [hcs, rowTo_at, if_pos hlt, if_neg (by omega)]
      rw [← hcs]
      have Hcs := Lib.hid hcs
      clear hcs
      obtain ⟨zs, hzs⟩ : ∃ zs, zs = zeros256 := ⟨_, rfl⟩
      rw [← hzs]
      have Hzs := Lib.hid hzs
      clear hzs hz
      go_wp2_with (go_at_call 25; (with_reducible refine (on_any k (by omega) 8 (by omega) (by omega) _).mono ?_); rintro e w' ⟨rfl, rfl⟩)
      go_roundw
      case rel => exact ⟨k + 1, by omega, by go_num, by rw [Hzs.out, Hcs.out, ← rowTo_set 256 tab k hlt]; rfl⟩
      case measure => simp [intOf]; omega
    · have hk' : k = 256 := by omega
      obtain ⟨cs, hcs⟩ : ∃ cs, cs = rowTo 256 tab k := ⟨_, rfl⟩
      have hsz : cs.size = 256 := by rw [hcs]; exact rowTo_size _ _ _
      have hone : cs.all (·.oneCell') = true := by rw [hcs]; exact rowTo_one _ _ _
      rw [← hcs]
      obtain ⟨zs, hzs⟩ : ∃ zs, zs = zeros256 := ⟨_, rfl⟩
      have hzz : zs.size = 256 := by rw [hzs]; exact Array.size_replicate
      rw [← hzs]
      rw [hk'] at hcs
      have Hzz := Lib.hid hzz
      have Hsz := Lib.hid hsz
      have Hone := Lib.hid hone
      have Hcs := Lib.hid hcs
      clear hzs hz hcs hzz hsz hone hk'
      go_wp2_with (first
        | (with_reducible refine wpList_load_row rfl 41 _ rfl (w.heap.size + 1) rfl 41 cs (0, 0) _ (heap_alloc2_new _ _ _) Try.underlying41 rfl (size41.trans (by rw [Hsz.out])) ?_)
        | (with_reducible refine wpList_store_row rfl 41 _ _ rfl w.heap.size cs rfl rfl 41 zs (heap_alloc2_old _ _ _) (size41.trans (by rw [Hsz.out])) (Hzz.out.trans Hsz.out.symm) Hone.out ?_))
      refine bodyPost_ret (results_cell_row rfl _ _ w.heap.size 41 cs (0, 0) _ rfl (setRow_heap _ _ zs cs 41 (0, 0) (heap_alloc2_old _ _ _)) Try.underlying41 rfl (size41.trans (by rw [Hsz.out]))) rfl ⟨by rw [Hcs.out], ?_⟩
      exact Below.setRow' (((Below.refl _ _).alloc (Nat.le_refl _) _).alloc (by simp) _) (Nat.le_refl _) _
end Go.Proofs.Ytofdbghklpeamaa
