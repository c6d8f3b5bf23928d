/-
  Reads: notes put behind notes.
-/
import Derived.Test.YtaaepadhapfkoaaRdG
import Derived.Laws.AppendOwnNone
import Derived.Maps.AppendAt
namespace Go.Proofs.Ytaaepadhapfkoaa
set_option linter.unusedSimpArgs false
set_option linter.unusedVariables false
open Go.RowKit

theorem NotesAt.form {w : World} {base : Nat} {R : Rdr} {v : Value} {ns : List (Bool × Int)} (h : NotesAt w base v R ns) : ∃ A c, v = .slice A ns.length c ∧ (A = none → ns = [] ∧ c = 0) ∧ ∀ ad, A = some ad → ∃ g, ad = ⟨g, 0, none⟩ ∧ base ≤ g := by
  obtain ⟨l, h1, h2, h3⟩ := h
  rcases h2.2 with ⟨rfl, h0⟩ | ⟨g, cap, cur, rfl, hg, _⟩
  · exact ⟨none, 0, by rw [h0], fun _ => ⟨List.eq_nil_of_length_eq_zero h0, rfl⟩, fun ad h => (by cases h)⟩
  · exact ⟨_, cap, rfl, fun h => (by cases h), fun ad h => (by cases h; exact ⟨g, rfl, hg⟩)⟩
theorem NotesAt.one {w : World} {base : Nat} {R : Rdr} {v : Value} {ns : List (Bool × Int)} (h : NotesAt w base v R ns) : ∃ l : List ((Bool × Int) × Value), l.map Prod.fst = ns ∧ w.ownsRow base 69 48 v ns.length (cellsN R l) ∧ (∀ y ∈ l, DatAt w base R y.1 y.2) ∧ ∀ u ∈ cellsN R l, u.oneCell' = true := by
  obtain ⟨l, h1, h2, h3⟩ := h
  refine ⟨l, h1, h2, h3, fun u hu => ?_⟩
  unfold cellsN at hu
  obtain ⟨y, hy, hu⟩ := List.mem_flatMap.1 hu
  have hd := h3 y hy
  unfold DatAt at hd
  split at hd
  · obtain ⟨A, c, e, _⟩ := hd
    rw [e] at hu
    exact ntR_one _ _ _ _ _ u hu
  · rw [hd] at hu
    exact ntR_one _ _ _ _ _ u hu
theorem grown_new {a b c : World} {r row : Option Nat} {B : Nat} (h : a.grownBy b r) (k : b.grownBy c row) (hB : a.heap.size ≤ B) (hg : ∀ g, row = some g → B ≤ g) : a.grownBy c r :=
  ⟨k.os.trans h.os, k.tape.trans h.tape, k.output.trans h.output, Nat.le_trans h.size k.size, fun i hi hne => (k.block i (Nat.lt_of_lt_of_le hi h.size) (fun e => by have := hg i e.symm; omega)).trans (h.block i hi hne)⟩
theorem grown_below {a b c : World} {r : Option Nat} (h : a.grownBy b r) (k : Below b.heap.size b c) : a.grownBy c r :=
  ⟨k.os.trans h.os, k.tape.trans h.tape, k.output.trans h.output, Nat.le_trans h.size k.size, fun i hi hne => (k.block i (Nat.lt_of_lt_of_le hi h.size)).trans (h.block i hi hne)⟩
theorem grown_of_below {a b : World} (r : Option Nat) (k : Below a.heap.size a b) : a.grownBy b r := ⟨k.os, k.tape, k.output, k.size, fun i hi _ => k.block i hi⟩
/-- a row of notes is written -/
theorem RAt.grown69 {w w' : World} {p : Nat} {R : Rdr} {a1 a2 a3 : Option Addr} {c1 c2 c3 : Nat} (h : RAt w p R a1 c1 a2 c2 a3 c3) {row : Option Nat} (hg : w.grownBy w' row) (hr : ∀ k, row = some k → ∃ cs, w.heap[k]? = some (.cells cs 69 (0, 0))) : RAt w' p R a1 c1 a2 c2 a3 c3 :=
  h.keep hg.size fun b t ds hd ht => hg.block b (Array.getElem?_eq_some_iff.1 hd).1 fun e => by
    obtain ⟨cs, hc⟩ := hr b e.symm
    obtain ⟨ds', hd', _⟩ := h.blk
    rcases ht with rfl | rfl | rfl
    · rw [hd'] at hc; injection hc with hc; injection hc with _ hc _; cases hc
    · rw [hc] at hd; injection hd with hd; injection hd with _ hd _; cases hd
    · rw [hc] at hd; injection hd with hd; injection hd with _ hd _; cases hd
theorem NotesAt.blk {w : World} {base : Nat} {R : Rdr} {v : Value} {ns : List (Bool × Int)} (h : NotesAt w base v R ns) : ∀ k, v.ownBlock = some k → base ≤ k ∧ ∃ cs, w.heap[k]? = some (.cells cs 69 (0, 0)) := by
  obtain ⟨l, _, h2, _⟩ := h
  exact own_blk h2
theorem own_app {w w' : World} {base : Nat} {R : Rdr} {v' : Value} {l m : List ((Bool × Int) × Value)} {ns ms : List (Bool × Int)} {row : Option Nat} (hl : l.map Prod.fst = ns) (hm : m.map Prod.fst = ms) (dl : ∀ y ∈ l, DatAt w base R y.1 y.2) (dm : ∀ y ∈ m, DatAt w base R y.1 y.2)
    (hg : w.grownBy w' row) (hr : ∀ k, row = some k → ∃ cs, w.heap[k]? = some (.cells cs 69 (0, 0))) (ho : w'.ownsRow base 69 48 v' (ns.length + ms.length) (cellsN R l ++ cellsN R m)) : NotesAt w' base v' R (ns ++ ms) := by
  refine ⟨l ++ m, by rw [List.map_append, hl, hm], ?_, fun y hy => ?_⟩
  · rw [List.length_append]
    have : cellsN R (l ++ m) = cellsN R l ++ cellsN R m := by unfold cellsN; rw [List.flatMap_append]
    rw [this]
    exact ho
  · have k : ∀ b cs, base ≤ b → w.heap[b]? = some (.cells cs 5 (0, 0)) → w'.heap[b]? = w.heap[b]? := fun b cs _ hc => hg.block b (Array.getElem?_eq_some_iff.1 hc).1 fun e => by
      obtain ⟨ds, hd⟩ := hr b e.symm
      rw [hc] at hd; injection hd with hd; injection hd with _ hd _; cases hd
    rcases List.mem_append.1 hy with hy | hy
    · exact (dl y hy).keep hg.size k
    · exact (dm y hy).keep hg.size k
/-- notes put behind notes -/
theorem wpList_append_notes {ops : Array Oper} {rest : List Oper} {o : Oper} {a : Act} {w : World} {Q : Exit → Act → World → Prop} (hgd : o.guard = none) (s x : Operand)
    (ho : o.op = .call { callee := .builtin .append, args := #[s, x], argTypes := #[61, 61] }) (base base2 : Nat) (v v2 : Value) (R : Rdr) (ns ms : List (Bool × Int)) (hs : a.eval s = v) (hx : a.eval x = v2)
    (hN : NotesAt w base v R ns) (hM : NotesAt w base2 v2 R ms) (hb2 : base ≤ base2) (hl : ns.length + ms.length ≤ 100000) (hbase : base ≤ w.heap.size)
    (h : ∀ v' w', NotesAt w' base v' R (ns ++ ms) → w.grownBy w' v.ownBlock → (v'.ownBlock = v.ownBlock ∨ v'.ownBlock = some w.heap.size) → wpList Try.prog ops Q rest (a.put o.dst v') w') : wpList Try.prog ops Q (o :: rest) a w := by
  obtain ⟨ie, hie, hz0, hz1, hz2⟩ := info_parts info69
  obtain ⟨A2, k2, e2, hnone, hsome⟩ := hM.form
  obtain ⟨l, h1, h2, h3, _⟩ := hN.one
  obtain ⟨m, m1, m2, m3, m4⟩ := (hM.mono hb2).one
  cases A2 with
  | none =>
    obtain ⟨rfl, rfl⟩ := hnone rfl
    refine wpList_append_own_none hgd s x 61 ho base 69 ie 48 Try.underlying61 hie v ns.length (cellsN R l) hs h2 (by rw [hx, e2]; rfl) ?_
    refine h v w ?_ (World.grownBy.refl _ _) (.inl rfl)
    rw [List.append_nil]
    exact hN
  | some ad =>
    obtain ⟨g, rfl, _⟩ := hsome ad rfl
    refine wpList_append_own_at w hgd s x 61 ho base 69 ie _ 48 208 Try.underlying61 hie hz0 hz1 hz2 (by kernel_rfl) (by decide) v ns.length (cellsN R l) hs h2 ⟨g, 0, none⟩ ms.length k2 (cellsN R m) (by rw [hx, e2]) m2.1 (m2.cells (g := g) (by rw [e2]; rfl)) m4 (by unfold maxLen; omega) (by omega) hbase ?_
    intro v' w' q1 q2 _ q4
    exact h v' w' (own_app h1 m1 h3 m3 q2 (fun k hk => (own_blk h2 k hk).2) q1) q2 q4
end Go.Proofs.Ytaaepadhapfkoaa
