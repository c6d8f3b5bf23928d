/-
  Reads: the place of a number in the order; notes put behind notes, at an operation.
-/
import Derived.Test.YtaaepadhapfkoaaRdJ
namespace Go.Proofs.Ytaaepadhapfkoaa
set_option linter.unusedSimpArgs false
set_option linter.unusedVariables false
open Go.RowKit

set_option maxHeartbeats 800000 in
theorem index2_any (a : Option Addr) (l : List Int) (c : Nat) (x : Int) (w : World) (h : RdI w a l) (hl : l.length ≤ 9223372036854775807) :
    Calls Try.prog 85 #[.slice a l.length c, .int .i64 x] w fun e w' => e = .returned (.int .i64 (placeI l x)) ∧ w' = w := by
  have Hr := Hf.mk h
  clear h
  go_enter Try.func85, Try.ntmps85
  go_wp2
  go_loop [8] (fun i => ∃ k : Nat, k ≤ l.length ∧ i = .int .i64 k ∧ Hf (∀ j, j < k → l.getD j 0 ≠ x)) (fun i => l.length - (intOf i).toNat)
  case atStart => exact ⟨0, by omega, rfl, ⟨fun j hj => absurd hj (Nat.not_lt_zero j)⟩⟩
  case round =>
    obtain ⟨k, hk, rfl, HN⟩ := hrel
    by_cases hgo : k < l.length
    · obtain ⟨b, off, rfl, hb, hc⟩ := Hr.out.form (by omega)
      have q0 := hc k hgo
      have hgo2 : (k : Int) < (l.length : Int) := by omega
      by_cases hx : l.getD k 0 = x
      · have HM := Hf.mk (placeI_at l x k hgo hx HN.out)
        rw [hx] at q0
        clear hc hx
        go_wp2
        go_ret
        exact ⟨by rw [HM.out]; rfl, rfl⟩
      · have hx' : ¬ x = l.getD k 0 := fun e => hx e.symm
        have HN2 : Hf (∀ j, j < k + 1 → l.getD j 0 ≠ x) := ⟨fun j hj => by
          by_cases e : j = k
          · subst e; exact hx
          · exact HN.out j (by omega)⟩
        obtain ⟨y, hy⟩ : ∃ y, l.getD k 0 = y := ⟨_, rfl⟩
        rw [hy] at q0 hx'
        clear hc hx hy
        go_wp2
        go_round
        case rel => exact ⟨k + 1, by omega, by go_num, HN2⟩
        case measure => simp [intOf]; omega
    · obtain rfl : k = l.length := by omega
      have HM := Hf.mk (placeI_none l x HN.out)
      go_wp2
      go_ret
      exact ⟨by rw [HM.out]; rfl, rfl⟩
theorem run_append_notes (w : World) (ty : TypeId) (base base2 : Nat) (v v2 : Value) (R : Rdr) (ns ms : List (Bool × Int))
    (hN : NotesAt w base v R ns) (hM : NotesAt w base2 v2 R ms) (hb2 : base ≤ base2) (hl : ns.length + ms.length ≤ 100000) (hbase : base ≤ w.heap.size) :
    ∃ v' w', (Builtin.append_ #[61, 61] ty #[v, v2]).run Try.prog w = .ok v' w' ∧ NotesAt w' base v' R (ns ++ ms) ∧ w.grownBy w' v.ownBlock ∧ (v'.ownBlock = v.ownBlock ∨ v'.ownBlock = some w.heap.size) := by
  obtain ⟨ie, hie, hz0, hz1, hz2⟩ := info_parts info69
  obtain ⟨A2, k2, e2, hnone, hsome⟩ := hM.form
  obtain ⟨l, h1, h2, h3, _⟩ := hN.one
  obtain ⟨m, m1, m2, m3, m4⟩ := (hM.mono hb2).one
  cases A2 with
  | none =>
    obtain ⟨rfl, rfl⟩ := hnone rfl
    refine ⟨v, w, ?_, by rw [List.append_nil]; exact hN, World.grownBy.refl _ _, .inl rfl⟩
    rw [e2]
    exact run_append_owned_none (P := Try.prog) (w := w) base 61 ty 69 ie 48 Try.underlying61 hie v ns.length (cellsN R l) h2
  | some ad =>
    obtain ⟨g, rfl, _⟩ := hsome ad rfl
    obtain ⟨v', w', q0, q1, q2, _, q4⟩ := run_append_own_at (P := Try.prog) w base 61 ty 69 ie _ 48 208 Try.underlying61 hie hz0 hz1 hz2 (by kernel_rfl) (by decide) v ns.length (cellsN R l) h2 ⟨g, 0, none⟩ ms.length k2 (cellsN R m) m2.1 (m2.cells (g := g) (by rw [e2]; rfl)) m4 (by unfold maxLen; omega) (by omega) hbase
    exact ⟨v', w', by rw [e2]; exact q0, own_app h1 m1 h3 m3 q2 (fun k hk => (own_blk h2 k hk).2) q1, q2, q4⟩
theorem wp_append_notes {o : Oper} {a : Act} {w : World} {K : Act → World → Prop} {Q : Exit → Act → World → Prop} (s x : Operand)
    (ho : o.op = .call { callee := .builtin .append, args := #[s, x], argTypes := #[61, 61] }) (base base2 : Nat) (v v2 : Value) (R : Rdr) (ns ms : List (Bool × Int)) (hs : a.eval s = v) (hx : a.eval x = v2)
    (hN : NotesAt w base v R ns) (hM : NotesAt w base2 v2 R ms) (hb2 : base ≤ base2) (hl : ns.length + ms.length ≤ 100000) (hbase : base ≤ w.heap.size)
    (h : ∀ v' w', NotesAt w' base v' R (ns ++ ms) → w.grownBy w' v.ownBlock → (v'.ownBlock = v.ownBlock ∨ v'.ownBlock = some w.heap.size) → K (a.put o.dst v') w') : o.wp Try.prog a w K Q := by
  obtain ⟨v', w', hr, q1, q2, q3⟩ := run_append_notes w o.type base base2 v v2 R ns ms hN hM hb2 hl hbase
  unfold Oper.wp
  simp [execOp, ho, resolve, invoke, builtin, hs, hx, hr, Result.andThen]
  exact h v' w' q1 q2 q3
theorem wp_box {o : Oper} {a : Act} {w : World} {K : Act → World → Prop} {Q : Exit → Act → World → Prop} (x : Operand) (ho : o.op = .buildSlice 61 1 #[(0, x)]) (zs : List Value) (hx : a.eval x = .agg zs.toArray) (hl : zs.length = 48)
    (h : K (a.put o.dst (.slice (some ⟨w.heap.size, 0, none⟩) 1 1)) (w.alloc (.cells zs.toArray 69))) : o.wp Try.prog a w K Q := by
  obtain ⟨ie, hie, hz0, hz1, _⟩ := info_parts info69
  refine wp_buildSlice 61 69 1 _ ho zs.toArray ie _ Try.underlying61 hie hz0 (by rw [hz1]; decide) (by rw [hz1]; decide) ?_ h
  rw [hz1]
  have e : (#[(0, x)].map fun (i, x) => (i, a.eval x)).toList = [(0, Value.agg zs.toArray)] := by simp [hx]
  rw [e]
  exact fill48 zs hl
theorem yieldsIf_build {P : Program} {ops : Array Oper} {S : World → Prop} {op : Oper} {a : Act} (hw : Region.wanted op (yielded ops a.tmps) = true) (t : TypeId) (parts : Array (Nat × Operand)) (ho : op.op = .build t parts) (vals : List (Nat × Value)) (hv : (parts.map fun (i, x) => (i, a.eval x)).toList = vals) (cells : Array Value)
    (hb : P.built t vals = some cells) : YieldsIf P ops S op (.agg cells) a :=
  .inl ⟨hw, fun w _ => by
    have hr := run_build (P := P) w t (parts.map fun (i, x) => (i, a.eval x)) cells (by rw [hv]; exact hb)
    unfold execOp
    simp only [ho, Sem.run_bind, hr, Result.andThen_ok, Sem.run_pure]⟩
theorem heap_set1 {w : World} {b : Nat} {v u : Value} {t : TypeId} (h : w.heap[b]? = some (.cells #[v] t (0, 0))) : (w.setCell ⟨b, 0, none⟩ u).heap[b]? = some (.cells #[u] t (0, 0)) := Go.Joins.block_setCell h u
/-- one's own variable is written -/
theorem RAt.put61 {w : World} {p b : Nat} {R : Rdr} {a1 a2 a3 : Option Addr} {c1 c2 c3 : Nat} {cs : Array Value} {t : TypeId} (h : RAt w p R a1 c1 a2 c2 a3 c3) (hb : w.heap[b]? = some (.cells cs t (0, 0))) (ht : t ≠ 125 ∧ t ≠ 3 ∧ t ≠ 5) (u : Value) : RAt (w.setCell ⟨b, 0, none⟩ u) p R a1 c1 a2 c2 a3 c3 :=
  h.keep (by simp [World.setCell]) fun k t' ds hd ht' => Below.heap_setCell w ⟨b, 0, none⟩ u k fun e => by
    subst e
    obtain ⟨ds', hd', _⟩ := h.blk
    rcases ht' with rfl | rfl | rfl
    · rw [hd'] at hb; injection hb with hb; injection hb with _ hb _; exact ht.1 hb.symm
    · rw [hb] at hd; injection hd with hd; injection hd with _ hd _; exact ht.2.1 hd
    · rw [hb] at hd; injection hd with hd; injection hd with _ hd _; exact ht.2.2 hd
theorem NotesAt.put61 {w : World} {base b : Nat} {R : Rdr} {v : Value} {ns : List (Bool × Int)} (h : NotesAt w base v R ns) (hb : b < base) (u : Value) : NotesAt (w.setCell ⟨b, 0, none⟩ u) base v R ns := h.grown (grownBy_set w b 0 u) hb
end Go.Proofs.Ytaaepadhapfkoaa
