/-
  Rank: weighed nodes are sorted.
-/
import Derived.Test.YtaaepadhapfkoaaRkO
import Derived.Test.YtaaepadhapfkoaaRkL
import Derived.Shelf.SlSortCmp.NoneTotal
namespace Go.Proofs.Ytaaepadhapfkoaa
set_option linter.unusedSimpArgs false
set_option linter.unusedVariables false
open Go.RowKit Go.Shelf

theorem cmpLaysW (blk off size : Nat) (w : World) : CmpLays Try.prog 58 #[] encW 2 cfW blk off size w :=
  fun _ _ _ _ x y => weighed_any x y _
theorem ltOf_iff (x y : Nat × Nat) : ltOf cfW x y = true ↔ (y.2 < x.2 ∨ (x.2 = y.2 ∧ x.1 < y.1)) := by
  unfold ltOf
  rw [decide_eq_true_eq, cfW_lt]
theorem ltOf_iff' (x y : Nat × Nat) : ltOf cfW x y = false ↔ ¬ (y.2 < x.2 ∨ (x.2 = y.2 ∧ x.1 < y.1)) := by
  unfold ltOf
  rw [decide_eq_false_iff_not, cfW_lt]
theorem swoW : Sort.SWO (ltOf cfW) where
  irrefl x := by rw [ltOf_iff']; omega
  trans x y z h1 h2 := by rw [ltOf_iff] at *; omega
  ntrans x y z h1 h2 := by rw [ltOf_iff'] at *; omega
theorem totalW (x y : Nat × Nat) (h1 : ltOf cfW x y = false) (h2 : ltOf cfW y x = false) : x = y := by
  rw [ltOf_iff'] at h1 h2
  exact Prod.ext (by omega) (by omega)
theorem encW_one (x : Nat × Nat) : ∀ v ∈ encW x, v.oneCell' = true := by
  intro v hv
  simp only [encW, List.mem_cons, List.not_mem_nil, or_false] at hv
  rcases hv with rfl | rfl <;> rfl
theorem sort_world (w : World) (g n : Nat) (d : Array (Nat × Nat)) (os : Array Obj) (hg : g < w.heap.size) : Below g w (sortWorldK encW 2 w g 0 n d os) := by
  refine ⟨rfl, rfl, rfl, size_sortWorldK_c encW 2 w g 0 n d os, fun i hi => ?_⟩
  unfold sortWorldK
  rw [Sort.heap_grow_old _ _ (by show i < (Sort.putRow id (Sort.ahead w n) g 0 (Sort.flatK encW 2 d)).heap.size; rw [Sort.size_putRow]; show i < w.heap.size; omega)]
  show (w.heap.modify g (Sort.onCells (Sort.putCells id 0 (Sort.flatK encW 2 d))))[i]? = w.heap[i]?
  rw [Array.getElem?_modify, if_neg (by omega)]
theorem sorts : Sorts Try.prog := by
  intro g cap l w hH hg hl
  have eg : ∀ args w, (callFunc 58 args).run Try.prog w = .ok (.enter 58 args) w := enters_of Try.func58 (by kernel_rfl) rfl
  have hcon := AnyQ.slices_SortFunc_total Try.sortW 2 Try.isAgg105 Try.sizeOf105 encW (fun _ => rfl) encW_one cfW swoW 58 #[] g 0 cap l.toArray w eg (cmpLaysW g 0 _ w) hH hg (by rw [List.size_toArray]; omega) totalW
  change Calls Try.prog 57 _ _ _ at hcon
  have e1 : (fun x y : Nat × Nat => !(ltOf cfW) y x) = leW := by
    funext x y
    exact leW_not x y
  rw [e1] at hcon
  refine hcon.mono fun e w' ⟨he, n, os, hw⟩ => ?_
  subst hw
  refine ⟨he, holdsK_sortWorldK_c encW 2 w g 0 l.toArray _ n os hH hg (by simp [List.length_mergeSort]), sort_world w g n _ os hg, Nat.lt_of_lt_of_le hg (size_sortWorldK_c encW 2 w g 0 n _ os)⟩
theorem ordered_any (id : List Nat) (n : Nat) (w : World) (hl : id.length = 32) (hb : ∀ c ∈ id, c < 256) (hn : 1 ≤ n) (hn2 : n ≤ 64) :
    Calls Try.prog 24 #[.agg (cellsOf id).toArray, .int .i64 n] w fun e w' => ∃ g cap, e = .returned (.tuple #[.slice (some ⟨g, 0, none⟩) n cap, .int .i64 0]) ∧ w'.ownsRow w.heap.size 3 1 (.slice (some ⟨g, 0, none⟩) n cap) n (intsN (ordL id n)) ∧ Below w.heap.size w w' := order_of sorts id n w hl hb hn hn2
end Go.Proofs.Ytaaepadhapfkoaa
