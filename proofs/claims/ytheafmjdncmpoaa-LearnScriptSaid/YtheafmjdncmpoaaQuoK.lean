/-
  Quorum: what a slot is in memory; the small functions that look at one.
-/
import Derived.Test.YtheafmjdncmpoaaProg
import Derived.Test.YtheafmjdncmpoaaWMore
import Derived.WalkKit
import Derived.Lib.Hide
import Derived.Deep.RegionHeld3
import Derived.WalkLawsBesides
import Derived.WalkSpells
namespace Go.Proofs.Ytheafmjdncmpoaa
set_option linter.unusedSimpArgs false
set_option linter.unusedVariables false
open Go.RowKit Go.Proofs.YtheafmjdncmpoaaW.PrintWords

/-- a pointer to a box of an int, or nil -/
def kBox : Kd (Option Int) where
  sz := 1
  E := [3]
  K := fun w y cs => (y = none ∧ cs = [.pointer none]) ∨ ∃ g x, y = some x ∧ cs = [.pointer (some ⟨g, 0, none⟩)] ∧ w.cell? ⟨g, 0, none⟩ = some (.int .i64 x)
  M := fun w base ok y cs => (y = none ∧ cs = [.pointer none]) ∨ ∃ g x, y = some x ∧ cs = [.pointer (some ⟨g, 0, none⟩)] ∧ ok g ∧ base ≤ g ∧ w.heap[g]? = some (.cells #[.int .i64 x] 3 (0, 0))
  K_len := by rintro w x cs (⟨_, rfl⟩ | ⟨g, x, _, rfl, _⟩) <;> rfl
  K_one := by
    rintro w x cs (⟨_, rfl⟩ | ⟨g, x, _, rfl, _⟩) u hu <;> rw [List.mem_singleton.1 hu] <;> rfl
  K_below := by
    rintro w w1 x cs hb (h | ⟨g, x, h1, h2, h3⟩)
    · exact .inl h
    · exact .inr ⟨g, x, h1, h2, pw_cell_below hb h3⟩
  K_of_M := by
    rintro w base ok x cs (h | ⟨g, x, h1, h2, _, _, h3⟩)
    · exact .inl h
    · exact .inr ⟨g, x, h1, h2, cell_of_row _ g 0 _ _ _ h3⟩
  M_mono := by
    rintro w base ok ok' x cs hok (h | ⟨g, x, h1, h2, h3, h4⟩)
    · exact .inl h
    · exact .inr ⟨g, x, h1, h2, hok _ h3, h4⟩
  M_bound := by
    rintro w base ok x cs (h | ⟨g, x, h1, h2, h3, h4, h5⟩)
    · exact .inl h
    · exact .inr ⟨g, x, h1, h2, ⟨h3, h4, (Array.getElem?_eq_some_iff.1 h5).1, 3, List.mem_singleton.2 rfl, _, h5⟩, h4, h5⟩
  M_move := by
    rintro w w1 base ok x cs hm (h | ⟨g, x, h1, h2, h3, h4, h5⟩)
    · exact .inl h
    · exact .inr ⟨g, x, h1, h2, h3, h4, (hm g h3).trans h5⟩
  M_lower := by
    rintro w base base' ok x cs hb (h | ⟨g, x, h1, h2, h3, h4, h5⟩)
    · exact .inl h
    · exact .inr ⟨g, x, h1, h2, h3, Nat.le_trans hb h4, h5⟩
/-- a slot: its node, how it is (0 open, 1 lost), who meets it -/
structure Qs where
  a : Int
  b : Int
  y : Option Int
def kQ : Kd Qs := Kd.iso (Kd.pair (Kd.pair (Kd.int .i64) (Kd.int .i64)) kBox) (fun s : Qs => ((s.a, s.b), s.y))
theorem kQ_sz : kQ.sz = 3 := rfl
/-- what lies at a slot -/
def SlotAt (w : World) (x : Addr) (s : Qs) : Prop :=
  w.cell? x = some (.int .i64 s.a) ∧ w.cell? ⟨x.block, x.off + 1, none⟩ = some (.int .i64 s.b) ∧
  ((s.y = none ∧ w.cell? ⟨x.block, x.off + 2, none⟩ = some (.pointer none)) ∨
    ∃ g v, s.y = some v ∧ w.cell? ⟨x.block, x.off + 2, none⟩ = some (.pointer (some ⟨g, 0, none⟩)) ∧ w.cell? ⟨g, 0, none⟩ = some (.int .i64 v))
theorem SlotAt.below {w w1 : World} {x : Addr} {s : Qs} (h : SlotAt w x s) (hb : Below w.heap.size w w1) : SlotAt w1 x s := by
  obtain ⟨h1, h2, h3⟩ := h
  refine ⟨pw_cell_below hb h1, pw_cell_below hb h2, ?_⟩
  rcases h3 with ⟨h3, h4⟩ | ⟨g, v, h3, h4, h5⟩
  · exact .inl ⟨h3, pw_cell_below hb h4⟩
  · exact .inr ⟨g, v, h3, pw_cell_below hb h4, pw_cell_below hb h5⟩
def zQ : Qs := ⟨0, 0, none⟩
theorem slot_at {w : World} {A : Option Addr} {n : Nat} {S : List Qs} (h : Kd.C kQ w A n S) (i : Nat) (hi : i < n) : ∃ ad, A = some ad ∧ SlotAt w (ad.add (i * 3)) (S.getD i zQ) := by
  obtain ⟨ad, c, e, _, hK, hc0⟩ := Kd.C_get h zQ (i : Int) (by omega) (by omega)
  rw [Int.toNat_natCast] at hK hc0
  have hc : ∀ j u, c[j]? = some u → w.cell? (ad.add (i * 3 + j)) = some u := hc0
  obtain ⟨c0, c1, rfl, ⟨d0, d1, rfl, h0, h1⟩, h2⟩ := hK
  obtain rfl : d0 = _ := h0
  obtain rfl : d1 = _ := h1
  refine ⟨ad, e, hc 0 _ rfl, by rw [← add_field _ _ 1 (by omega)]; exact hc 1 _ rfl, ?_⟩
  rcases h2 with ⟨h2, rfl⟩ | ⟨g, v, h2, rfl, h3⟩
  · exact .inl ⟨h2, by rw [← add_field _ _ 2 (by omega)]; exact hc 2 _ rfl⟩
  · exact .inr ⟨g, v, h2, by rw [← add_field _ _ 2 (by omega)]; exact hc 2 _ rfl, h3⟩
end Go.Proofs.Ytheafmjdncmpoaa
