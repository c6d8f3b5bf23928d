/-
  Digest: bytes and words in memory.
-/
import Derived.Test.YtaaepadhapfkoaaDgU
import Derived.Laws.BytesArg
import Derived.WalkSpells
import Derived.Deep.AppendLies
import Derived.WalkLawsBesides
import Derived.Deep.QuietTactic
import Derived.BigQuiet
namespace Go.Proofs.Ytaaepadhapfkoaa
set_option linter.unusedSimpArgs false
set_option linter.unusedVariables false
open Go.RowKit

/-- a hidden fact -/
structure Hf (p : Prop) : Prop where
  out : p
theorem below_step {w W w2 : World} (h : Below w.heap.size w W) (k : Below W.heap.size W w2) : Below w.heap.size w w2 := h.trans (k.mono h.size)
theorem cell_below {w w' : World} (hb : Below w.heap.size w w') {p : Addr} {v : Value} (h : w.cell? p = some v) : w'.cell? p = some v :=
  (hb.cell (p := p) (World.block_lt_of_cell? w _ h)).trans h
theorem below_drewN {B : Nat} {a w : World} (h : Below B a w) (n : Nat) : Below B a (w.drewN n) := h.trans ⟨rfl, rfl, rfl, Nat.le_refl _, fun _ _ => rfl⟩
/-- a slice's address leads to bytes -/
def Reads (w : World) (a : Option Addr) (l : List Nat) : Prop :=
  (∀ c ∈ l, c < 256) ∧ ∀ i, i < l.length → ∃ b off, a = some ⟨b, off, none⟩ ∧ b < w.heap.size ∧ w.cell? ⟨b, off + i, none⟩ = some (.int .u8 (l.getD i 0 : Nat))
theorem Reads.bytes {w : World} {a : Option Addr} {l : List Nat} (h : Reads w a l) : ∀ c ∈ l, c < 256 := h.1
theorem Reads.form {w : World} {a : Option Addr} {l : List Nat} (h : Reads w a l) (hl : 0 < l.length) :
    ∃ b off, a = some ⟨b, off, none⟩ ∧ b < w.heap.size ∧ ∀ i, i < l.length → w.cell? ⟨b, off + i, none⟩ = some (.int .u8 (l.getD i 0 : Nat)) := by
  obtain ⟨b, off, rfl, hb, _⟩ := h.2 0 hl
  refine ⟨b, off, rfl, hb, fun i hi => ?_⟩
  obtain ⟨b', off', e, _, hc⟩ := h.2 i hi
  simp only [Option.some.injEq, Addr.mk.injEq] at e
  obtain ⟨rfl, rfl, _⟩ := e
  exact hc
theorem Reads.below {w w' : World} {a : Option Addr} {l : List Nat} (h : Reads w a l) (hb : Below w.heap.size w w') : Reads w' a l := by
  refine ⟨h.1, fun i hi => ?_⟩
  obtain ⟨b, off, e, hlt, hc⟩ := h.2 i hi
  exact ⟨b, off, e, Nat.lt_of_lt_of_le hlt hb.size, (hb.cell (p := ⟨b, off + i, none⟩) hlt).trans hc⟩
theorem Reads.nil (w : World) (a : Option Addr) : Reads w a [] := ⟨by simp, by simp⟩
theorem getD_get {l : List Nat} {i : Nat} (hi : i < l.length) : l.getD i 0 = l[i] := by simp [List.getD, hi]
theorem take_snoc {l : List Nat} {k : Nat} (hk : k < l.length) : l.take (k + 1) = l.take k ++ [l.getD k 0] := by
  rw [List.take_succ_eq_append_getElem hk, getD_get hk]
theorem getD_drop (l : List Nat) (n i : Nat) : (l.drop n).getD i 0 = l.getD (n + i) 0 := by
  rw [List.getD_eq_getElem?_getD, List.getD_eq_getElem?_getD, List.getElem?_drop]
theorem getD_take {l : List Nat} {n i : Nat} (h : i < n) : (l.take n).getD i 0 = l.getD i 0 := by
  rw [List.getD_eq_getElem?_getD, List.getD_eq_getElem?_getD, List.getElem?_take, if_pos h]
/-- a part of bytes -/
theorem Reads.part {w : World} {b off : Nat} {l : List Nat} (h : Reads w (some ⟨b, off, none⟩) l) (n m : Nat) (hm : n + m ≤ l.length) : Reads w (some ⟨b, off + n, none⟩) ((l.drop n).take m) := by
  refine ⟨fun c hc => h.1 c (List.mem_of_mem_drop (List.mem_of_mem_take hc)), fun i hi => ?_⟩
  have hi2 : i < m := by rw [List.length_take] at hi; omega
  obtain ⟨b', off', e, hlt, hc⟩ := h.2 (n + i) (by omega)
  simp only [Option.some.injEq, Addr.mk.injEq] at e
  obtain ⟨rfl, rfl, _⟩ := e
  exact ⟨_, _, rfl, hlt, by rw [getD_take hi2, getD_drop, Nat.add_assoc]; exact hc⟩
theorem setRow_alloc (w : World) (a c : Array Value) (t : TypeId) : (w.alloc (.cells a t)).setRow w.heap.size c = w.alloc (.cells c t) := by
  unfold World.setRow World.alloc
  congr 1
  apply Array.ext_getElem?
  intro k
  rw [Array.getElem?_modify]
  by_cases hk : w.heap.size = k
  · subst hk; simp
  · simp only [hk, if_false]
    rw [Array.getElem?_push, Array.getElem?_push, if_neg (fun e => hk e.symm), if_neg (fun e => hk e.symm)]
theorem info5 : (Try.prog.info? 5).map (fun i => (i.zero, i.size, i.bytes)) = some (some (.int .u8 0), 1, 1) := by kernel_rfl
/-- numbers as cells -/
def cellsOf (l : List Nat) : List Value := l.map fun c : Nat => .int .u8 c
theorem cellsOf_length (l : List Nat) : (cellsOf l).length = l.length := by simp [cellsOf]
theorem cellsOf_one (l : List Nat) : ∀ u ∈ cellsOf l, u.oneCell' = true := by
  intro u hu
  obtain ⟨c, _, rfl⟩ := List.mem_map.1 hu
  rfl
theorem cellsOf_get {l : List Nat} {j : Nat} {u : Value} (h : (cellsOf l)[j]? = some u) : j < l.length ∧ u = .int .u8 (l.getD j 0 : Nat) := by
  simp only [cellsOf, List.getElem?_map, Option.map_eq_some_iff] at h
  obtain ⟨c, hc, rfl⟩ := h
  obtain ⟨hj, hc'⟩ := List.getElem?_eq_some_iff.1 hc
  exact ⟨hj, by simp [List.getD, hc]⟩
theorem cellsOf_at {l : List Nat} {j : Nat} (h : j < l.length) : (cellsOf l)[j]? = some (.int .u8 (l.getD j 0 : Nat)) := by
  simp [cellsOf, List.getD, h]
theorem Reads.news {w : World} {ad : Addr} {l : List Nat} (h : Reads w (some ad) l) : ∀ j u, (cellsOf l)[j]? = some u → w.cell? (ad.add j) = some u := by
  intro j u hu
  obtain ⟨hj, rfl⟩ := cellsOf_get hu
  obtain ⟨b, off, e, hb, hc⟩ := h.2 j hj
  simp only [Option.some.injEq] at e
  subst e
  have hadd : (⟨b, off, none⟩ : Addr).add j = ⟨b, off + j, none⟩ := by unfold Addr.add; split <;> simp_all
  rw [hadd]
  exact hc
/-- a block's row reads as its numbers -/
theorem reads_heap {w : World} {g : Nat} {t : TypeId} {l : List Nat} {fr : Nat × Nat} (hl : ∀ c ∈ l, c < 256) (h : w.heap[g]? = some (.cells (cellsOf l).toArray t fr)) : Reads w (some ⟨g, 0, none⟩) l := by
  refine ⟨hl, fun i hi => ⟨g, 0, rfl, (Array.getElem?_eq_some_iff.1 h).1, ?_⟩⟩
  rw [cell_of_row _ g (0 + i) _ t fr h, Nat.zero_add]
  simpa using cellsOf_at hi
/-- words in a row -/
def arrU (n : Nat) (f : Nat → Nat) : Array Value := Array.ofFn (n := n) fun i => .int .u32 (f i.val)
theorem arrU_size (n : Nat) (f : Nat → Nat) : (arrU n f).size = n := by simp [arrU]
theorem arrU_at (n : Nat) (f : Nat → Nat) (i : Nat) (h : i < n) : (arrU n f)[i]? = some (.int .u32 (f i)) := by
  unfold arrU
  rw [Array.getElem?_ofFn]
  simp [h]
theorem arrU_set (n : Nat) (f : Nat → Nat) (k v : Nat) (h : k < n) : (arrU n f).setIfInBounds k (.int .u32 v) = arrU n (fun i => if i = k then v else f i) := by
  apply Array.ext_getElem?
  intro i
  rw [Array.getElem?_setIfInBounds]
  by_cases hi : i < n
  · rw [arrU_at n _ i hi, arrU_at n _ i hi, arrU_size]
    by_cases e : k = i
    · subst e; simp [h]
    · rw [if_neg e, if_neg (fun h => e h.symm)]
  · have h1 : ∀ g, (arrU n g)[i]? = none := fun g => by rw [Array.getElem?_eq_none]; rw [arrU_size]; omega
    rw [h1, h1, if_neg (by omega)]
theorem arrU_congr {n : Nat} {f g : Nat → Nat} (h : ∀ i, i < n → f i = g i) : arrU n f = arrU n g := by
  apply Array.ext_getElem?
  intro i
  by_cases hi : i < n
  · rw [arrU_at n _ i hi, arrU_at n _ i hi, h i hi]
  · have h1 : ∀ g, (arrU n g)[i]? = none := fun g => by rw [Array.getElem?_eq_none]; rw [arrU_size]; omega
    rw [h1, h1]
theorem arrU_one (n : Nat) (f : Nat → Nat) : (arrU n f).all (·.oneCell') = true := by
  rw [Array.all_eq_true]
  intro i hi
  simp only [arrU, Array.getElem_ofFn]
  rfl
/-- a variable of words -/
def RowU (w : World) (g : Nat) (t : TypeId) (n : Nat) (f : Nat → Nat) : Prop := w.heap[g]? = some (.cells (arrU n f) t (0, 0))
section
variable {w w' : World} {g n : Nat} {t : TypeId} {f f' : Nat → Nat}
theorem RowU.cell (h : RowU w g t n f) {i : Nat} (hi : i < n) : w.cell? ⟨g, i, none⟩ = some (.int .u32 (f i)) := (cell_of_row _ g i _ _ _ h).trans (arrU_at n f i hi)
theorem RowU.frozen (h : RowU w g t n f) (i : Nat) : w.frozen? ⟨g, i, none⟩ = false := frozen_of_row _ g i _ _ h
theorem RowU.below (h : RowU w g t n f) (hb : Below w.heap.size w w') : RowU w' g t n f := (hb.block _ (Array.getElem?_eq_some_iff.1 h).1).trans h
theorem RowU.lt (h : RowU w g t n f) : g < w.heap.size := (Array.getElem?_eq_some_iff.1 h).1
theorem RowU.congr (h : RowU w g t n f) (hf : ∀ i, i < n → f i = f' i) : RowU w g t n f' := by unfold RowU at *; rw [← arrU_congr hf]; exact h
theorem RowU.set (h : RowU w g t n f) {k : Nat} (hk : k < n) (v : Nat) (hf : ∀ i, i < n → f' i = if i = k then v else f i) : RowU (w.setCell ⟨g, k, none⟩ (.int .u32 v)) g t n f' := by
  unfold RowU
  rw [heap_setCell_same _ g k _ _ (.int .u32 v) h, arrU_set n f k v hk, arrU_congr hf]
theorem RowU.other (h : RowU w g t n f) (p : Addr) (hp : p.block ≠ g) (v : Value) : RowU (w.setCell p v) g t n f := (Below.heap_setCell _ p v g (fun e => hp e.symm)).trans h
theorem RowU.new (w : World) (t : TypeId) (n : Nat) (f : Nat → Nat) : RowU (w.alloc (.cells (arrU n f) t)) w.heap.size t n f := heap_alloc_new _ _
end
end Go.Proofs.Ytaaepadhapfkoaa
