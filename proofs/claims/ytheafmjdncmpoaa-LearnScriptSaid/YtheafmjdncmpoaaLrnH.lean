/-
  Learn: Hear.
-/
import Derived.Test.YtheafmjdncmpoaaLrnT
import Derived.Deep.Slices
import Derived.StillTailTactics
namespace Go.Proofs.Ytheafmjdncmpoaa
set_option linter.unusedSimpArgs false
set_option linter.unusedVariables false
open Go.RowKit Go.Proofs.YtheafmjdncmpoaaW.PrintWords Go.Proofs.YtheafmjdncmpoaaW.PrintMore

def eqH (h : Hd) (n d : Int) : Bool := h.n == n && h.d == d
/-- of the node behind so many: was it heard by this ballot, with other data? -/
def badI (L : Lr) (n d : Int) (x : List Int) (i : Nat) : Bool := eqH (L.of (i + 1)) n d && !sameB (L.of (i + 1)).x x
def goodI (L : Lr) (n d : Int) (i : Nat) : Bool := eqH (L.of (i + 1)) n d
/-- what Hear answers, and the learner behind it -/
def hearI (L : Lr) (k n d : Int) (x : List Int) : (Bool × Int) × Lr :=
  if k < 1 ∨ (L.nodes : Int) < k ∨ checkB n d = false ∨ 4000 < x.length then ((false, 2), L)
  else if 0 < countN (badI L n d x) L.nodes then ((false, 12), L)
  else if lessB (L.of k.toNat).n (L.of k.toNat).d n d = false then ((false, 0), L)
  else if countN (goodI (L.set k.toNat ⟨n, d, x⟩) n d) L.nodes < L.nodes / 2 + 1 then ((false, 0), L.set k.toNat ⟨n, d, x⟩)
  else (((decideI (L.set k.toNat ⟨n, d, x⟩) x).1, 0), (decideI (L.set k.toNat ⟨n, d, x⟩) x).2)
instance : Inhabited Hc := ⟨⟨0, 0, none, 0, 0⟩⟩
section
variable {w : World} {base : Nat} {F : Nat → Prop} {b : Nat} {L : Lr}
theorem LAt.rows (h : LAt w base F b L) (hn : L.nodes ≤ 64) : ∃ E : Nat → Hc, ∀ i, i < L.nodes → HcAt w b (3 + i * 3) (E i) ∧ (E i).n = (L.of (i + 1)).n ∧ (E i).d = (L.of (i + 1)).d ∧ (E i).l = (L.of (i + 1)).x.length ∧ BytesAt w (E i).A (E i).c (L.of (i + 1)).x := by
  exact Go.Deep.choose_lt (α := Hc) (n := L.nodes) (p := fun i e => HcAt w b (3 + i * 3) e ∧ e.n = (L.of (i + 1)).n ∧ e.d = (L.of (i + 1)).d ∧ e.l = (L.of (i + 1)).x.length ∧ BytesAt w e.A e.c (L.of (i + 1)).x) fun i hi => by
    obtain ⟨A, c, h1, h2⟩ := h.heard (i := i + 1) (by omega)
    exact ⟨_, by rw [show 3 + i * 3 = (i + 1) * 3 by omega]; exact h1, rfl, rfl, rfl, h2.1⟩
/-- the count of those that heard otherwise -/
theorem bad_count (h : LAt w base F b L) (hn : L.nodes ≤ 64) (gb gd : Nat) (n d : Int) (A : Option Addr) (c : Nat) (x : List Int) (hx : BytesAt w A c x)
    (q0 : w.cell? ⟨gb, 0, none⟩ = some (.int .i64 n)) (q1 : w.cell? ⟨gb, 1, none⟩ = some (.int .i64 d)) (q2 : w.cell? ⟨gd, 0, none⟩ = some (.slice A x.length c)) :
    Calls Try.prog 81 #[.slice (some ⟨b, 3, none⟩) L.nodes 64, .func (.func 83) #[] #[.pointer (some ⟨gb, 0, none⟩), .pointer (some ⟨gd, 0, none⟩)]] w fun e w' => e = .returned (.int .i64 (countN (badI L n d x) L.nodes)) ∧ Below w.heap.size w w' := by
  obtain ⟨E, hE⟩ := h.rows hn
  refine count81 83 Try.f83 _ b L.nodes 64 (badI L n d x) E w (by omega) Try.func83 (by kernel_rfl) rfl (fun i hi => (hE i hi).1) fun u hb i hi => ?_
  obtain ⟨_, e1, e2, e3, e4⟩ := hE i hi
  have := hear1_any (E i).n (E i).d (E i).A (E i).c (L.of (i + 1)).x gb gd n d A c x u (e4.below hb) (hx.below hb) (pw_cell_below hb q0) (pw_cell_below hb q1) (pw_cell_below hb q2)
  rw [show (E i).val = .agg #[.int .i64 (E i).n, .int .i64 (E i).d, .slice (E i).A (L.of (i + 1)).x.length (E i).c] by unfold Hc.val; rw [e3]]
  rw [show badI L n d x i = (((E i).n == n && (E i).d == d) && !sameB (L.of (i + 1)).x x) by unfold badI eqH; rw [e1, e2]]
  exact this
theorem good_count (h : LAt w base F b L) (hn : L.nodes ≤ 64) (gb : Nat) (n d : Int)
    (q0 : w.cell? ⟨gb, 0, none⟩ = some (.int .i64 n)) (q1 : w.cell? ⟨gb, 1, none⟩ = some (.int .i64 d)) :
    Calls Try.prog 81 #[.slice (some ⟨b, 3, none⟩) L.nodes 64, .func (.func 87) #[] #[.pointer (some ⟨gb, 0, none⟩)]] w fun e w' => e = .returned (.int .i64 (countN (goodI L n d) L.nodes)) ∧ Below w.heap.size w w' := by
  obtain ⟨E, hE⟩ := h.rows hn
  refine count81 87 Try.f87 _ b L.nodes 64 (goodI L n d) E w (by omega) Try.func87 (by kernel_rfl) rfl (fun i hi => (hE i hi).1) fun u hb i hi => ?_
  obtain ⟨_, e1, e2, e3, e4⟩ := hE i hi
  have := hear2_any (E i).n (E i).d (E i).A (E i).c (E i).l gb n d u (pw_cell_below hb q0) (pw_cell_below hb q1)
  rw [show goodI L n d i = ((E i).n == n && (E i).d == d) by unfold goodI eqH; rw [e1, e2]]
  exact this
end
/-- the boxes of Hear's parameters -/
def hbox (w : World) (n d : Int) (A : Option Addr) (l c : Nat) : World := (w.alloc (.cells #[.int .i64 n, .int .i64 d] 23)).alloc (.cells #[.slice A l c] 69)
theorem hbox_below (w : World) (n d : Int) (A : Option Addr) (l c : Nat) : Below w.heap.size w (hbox w n d A l c) := ((Below.refl _ _).alloc (Nat.le_refl _) _).alloc (by simp) _
theorem hbox_cells (w : World) (n d : Int) (A : Option Addr) (l c : Nat) :
    (hbox w n d A l c).cell? ⟨w.heap.size, 0, none⟩ = some (.int .i64 n) ∧ (hbox w n d A l c).cell? ⟨w.heap.size, 1, none⟩ = some (.int .i64 d) ∧ (hbox w n d A l c).cell? ⟨w.heap.size + 1, 0, none⟩ = some (.slice A l c) := by
  have h1 : (hbox w n d A l c).heap[w.heap.size]? = some (.cells #[.int .i64 n, .int .i64 d] 23 (0, 0)) := by
    unfold hbox
    rw [Below.heap_alloc _ _ _ (by simp)]; exact heap_alloc_new _ _
  have h2 : (hbox w n d A l c).heap[w.heap.size + 1]? = some (.cells #[.slice A l c] 69 (0, 0)) := by
    have := heap_alloc_new (w.alloc (.cells #[.int .i64 n, .int .i64 d] 23)) (.cells #[.slice A l c] 69)
    simpa [hbox] using this
  exact ⟨by rw [cell_of_row _ _ _ _ _ _ h1]; rfl, by rw [cell_of_row _ _ _ _ _ _ h1]; rfl, by rw [cell_of_row _ _ _ _ _ _ h2]; rfl⟩
end Go.Proofs.Ytheafmjdncmpoaa
