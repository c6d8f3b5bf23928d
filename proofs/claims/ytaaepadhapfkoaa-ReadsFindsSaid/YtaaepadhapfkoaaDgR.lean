/-
  Digest: a variable's row, loaded and stored in a round; what lies in memory while the blocks are done.
-/
import Derived.Test.YtaaepadhapfkoaaDgZ
import Derived.Laws.CopyOwn
namespace Go
theorem wpListIn_load_rowD {F : Fence} {n : Nat} {P : Program} {ops : Array Oper} {rest : List Oper} {o : Oper} {a : Act} {w : World} {Q : Exit → Act → World → Prop} (hgd : o.guard = none) (ty : TypeId) (x : Operand) (ho : o.op = .load ty x)
    (g : Nat) (hx : a.eval x = .pointer (some ⟨g, 0, none⟩)) (t : TypeId) (cs : Array Value) (fr : Nat × Nat) (d : TypeDesc) (hg : w.heap[g]? = some (.cells cs t fr))
    (hu : P.underlying ty = some d) (hd : (match d with | .struct _ | .array _ _ => true | _ => false) = true) (hi : (P.info? ty).map (·.size) = some cs.size)
    (h : wpListIn F n P ops Q rest (a.put o.dst (.agg cs)) w) : wpListIn F n P ops Q (o :: rest) a w := by
  refine wpListIn_plain hgd fun K hK' => ?_
  unfold Oper.wpIn
  refine ⟨?_, ?_⟩
  · simp [Oper.about, ho]
  · rw [Oper.semAt_plain F _ _ (by rw [ho]; intro c hc'; cases hc')]
    unfold execOp
    simp only [ho, hx, Instr.loadAt, Instr.sureAddr, Sem.run_bind, Sem.run_pure, Result.andThen_ok, run_loadVar_row w g t ty cs fr d hg hu hd hi]
    exact hK' _ _ h
theorem wpListIn_store_rowD {F : Fence} {n : Nat} {P : Program} {ops : Array Oper} {rest : List Oper} {o : Oper} {a : Act} {w : World} {Q : Exit → Act → World → Prop} (hgd : o.guard = none) (ty : TypeId) (x y : Operand) (ho : o.op = .store ty x y)
    (g : Nat) (cells : Array Value) (hx : a.eval x = .pointer (some ⟨g, 0, none⟩)) (hy : a.eval y = .agg cells)
    (t : TypeId) (old : Array Value) (hg : w.heap[g]? = some (.cells old t (0, 0))) (hi : (P.info? ty).map (·.size) = some cells.size)
    (hold : old.size = cells.size) (h1 : cells.all (·.oneCell') = true)
    (h : wpListIn F n P ops Q rest (a.put o.dst undef) (w.setRow g cells)) : wpListIn F n P ops Q (o :: rest) a w := by
  refine wpListIn_plain hgd fun K hK' => ?_
  unfold Oper.wpIn
  refine ⟨?_, ?_⟩
  · simp [Oper.about, ho]
  · rw [Oper.semAt_plain F _ _ (by rw [ho]; intro c hc'; cases hc')]
    unfold execOp
    simp only [ho, hx, hy, Instr.storeAt, Instr.sureAddr, Sem.run_bind, Sem.run_pure, Result.andThen_ok, run_storeVar_row w g t ty old cells hg hi hold h1]
    exact hK' _ _ h
theorem step_copy_row {P : Program} {ops : Array Oper} {o : Oper} {a : Act} {w : World} {K : Act → World → Prop} {Q : Exit → Act → World → Prop} {E : Prop} (hgd : o.guard = none) (d s : Operand) (dT sT : TypeId)
    (ho : o.op = .call { callee := .builtin .copy, args := #[d, s], argTypes := #[dT, sT] }) (elem : TypeId) (hu : P.underlying dT = some (.slice elem)) (hsz : (P.info? elem).map (·.size) = some 1)
    (g off dLen dCap : Nat) (ad : Addr) (sLen sCap : Nat) (hd : a.eval d = .slice (some ⟨g, off, none⟩) dLen dCap) (hs : a.eval s = .slice (some ad) sLen sCap)
    (cur : Array Value) (t : TypeId) (hg : w.heap[g]? = some (.cells cur t (0, 0))) (cs : List Value) (hn : cs.length = Nat.min sLen dLen)
    (hsrc : ∀ j v, cs[j]? = some v → w.cell? (ad.add j) = some v) (hfit : off + cs.length ≤ cur.size) (h1 : ∀ v ∈ cs, v.oneCell' = true)
    (h : ∀ w', w.setRow g (cur.toList.take off ++ (cs ++ cur.toList.drop (off + cs.length))).toArray = w' → K (a.put o.dst (goInt cs.length)) w') :
    if Region.wanted o (yielded ops a.tmps) = true then Oper.wp P o a w K Q else E := by
  have hw : Region.wanted o (yielded ops a.tmps) = true := by simp [Region.wanted, hgd]
  rw [if_pos hw]
  have hrun := run_copy_row (P := P) w dT sT o.type elem g off dLen dCap ad sLen sCap cur t cs hu hsz hg hn hsrc hfit h1
  unfold Oper.wp
  simp [execOp, ho, resolve, invoke, builtin, hd, hs, hrun, Result.andThen]
  exact h _ rfl
end Go
namespace Go.Proofs.Ytaaepadhapfkoaa
set_option linter.unusedSimpArgs false
set_option linter.unusedVariables false
open Go.RowKit

/-- a postcondition that lets no panic by -/
def NP (Q : Exit → Act → World → Prop) : Exit → Act → World → Prop
  | .panic _, _, _ => False
  | .normal, a, w => Q .normal a w
  | .ret, a, w => Q .ret a w
  | .exit i, a, w => Q (.exit i) a w
  | .goto i, a, w => Q (.goto i) a w
  | .outgrown, a, w => Q .outgrown a w
theorem wp_np {P : Program} {c : Code} {Q : Exit → Act → World → Prop} {a : Act} {w : World} (h : c.wp P (NP Q) a w) : c.wp P Q a w :=
  Code.wp_mono (fun e a w q => by cases e <;> first | exact q | exact q.elim) h
/-- what lies in memory while the blocks are done -/
structure SAt (w : World) (gk gs g10 g5 : Nat) (row z32 : Array Value) (t : List Nat) (st : Sha.St) (W : World) : Prop where
  fk : RowU W gk 131 64 kF
  fs : RowU W gs 134 8 (stF st)
  hb : Below w.heap.size w W
  fr : W.heap[g10]? = some (.cells row 54 (0, 0))
  fd : W.heap[w.heap.size]? = some (.cells z32 23 (0, 0))
  rt : Reads W (some ⟨g5, 0, none⟩) t
  l1 : gk < gs
  l2 : gs < g10
  l3 : g5 < gk
  l4 : w.heap.size < gk
section
variable {w W W' W2 : World} {gk gs g10 g5 : Nat} {row z32 : Array Value} {t : List Nat} {st st' : Sha.St}
theorem lt_of_same {k : Nat} (h : W'.heap[k]? = W.heap[k]?) (hk : k < W.heap.size) : k < W'.heap.size := by
  rw [Array.getElem?_eq_getElem hk] at h
  exact (Array.getElem?_eq_some_iff.1 h).1
theorem SAt.keep (h : SAt w gk gs g10 g5 row z32 t st W) (k : KG (g10 + 1) gs W W') (hb : Below w.heap.size w W') (hf : RowU W' gs 134 8 (stF st')) : SAt w gk gs g10 g5 row z32 t st' W' := by
  have l1 := h.l1
  have l2 := h.l2
  have l3 := h.l3
  have l4 := h.l4
  refine ⟨(k gk (by omega) (by omega)).trans h.fk, hf, hb, (k g10 (by omega) (by omega)).trans h.fr, (k _ (by omega) (by omega)).trans h.fd, ⟨h.rt.1, fun i hi => ?_⟩, l1, l2, l3, l4⟩
  obtain ⟨b, off, e, hlt, hc⟩ := h.rt.2 i hi
  simp only [Option.some.injEq, Addr.mk.injEq] at e
  obtain ⟨rfl, rfl, _⟩ := e
  have hs := k g5 (by omega) (by omega)
  exact ⟨g5, 0, rfl, lt_of_same hs hlt, (World.cell?_of_block (a := ⟨g5, 0 + i, none⟩) hs).trans hc⟩
theorem SAt.grown (h : SAt w gk gs g10 g5 row z32 t st W) {r : Option Nat} (hg : W.grownBy W' r) (hr : ∀ k, r = some k → g10 < k) : SAt w gk gs g10 g5 row z32 t st W' := by
  have l1 := h.l1
  have l2 := h.l2
  have l4 := h.l4
  have lr := (Array.getElem?_eq_some_iff.1 h.fr).1
  have hk : ∀ k, k < g10 + 1 → W'.heap[k]? = W.heap[k]? := fun k hk => hg.block k (by omega) (fun e => by have := hr k e.symm; omega)
  exact h.keep (fun k hk1 _ => hk k hk1) (h.hb.grown hg (by omega) (fun k e => by have := hr k e; omega)) ((hk gs (by omega)).trans h.fs)
theorem SAt.below (h : SAt w gk gs g10 g5 row z32 t st W) (hb : Below W.heap.size W W') : SAt w gk gs g10 g5 row z32 t st W' := by
  have l1 := h.l1
  have l2 := h.l2
  have l4 := h.l4
  have lr := (Array.getElem?_eq_some_iff.1 h.fr).1
  exact h.keep (fun k hk1 _ => hb.block k (by omega)) (below_step h.hb hb) (h.fs.below hb)
theorem SAt.done (h : SAt w gk gs g10 g5 row z32 t st W) (hb : Below W.heap.size W W2) (hw : W2.setRow gs (arrU 8 (stF st')) = W') :
    SAt w gk gs g10 g5 row z32 t st' W' ∧ KeepsOthers W W' ∧ KG W.heap.size gs W W' ∧ W.heap.size ≤ W'.heap.size := by
  have l1 := h.l1
  have l2 := h.l2
  have l4 := h.l4
  have lr := (Array.getElem?_eq_some_iff.1 h.fr).1
  have hs := hb.size
  have hsz : W'.heap.size = W2.heap.size := by rw [← hw]; simp [World.setRow]
  have hk : KG W.heap.size gs W W' := fun k hk hne => by rw [← hw, setRow_other _ _ _ _ hne]; exact hb.block k hk
  have h2 := (h.fs.below hb)
  refine ⟨h.keep (fun k hk1 hne => hk k (by omega) hne) ?_ ?_, ⟨by omega, fun k o hk1 ho => ?_⟩, hk, by omega⟩
  · rw [← hw]; exact Below.setRow' (below_step h.hb hb) (by omega) _
  · rw [← hw]; exact setRow_heap _ _ _ _ 134 (0, 0) h2
  · by_cases e : k = gs
    · subst e
      have := h.fs
      unfold RowU at this
      rw [this] at hk1
      cases hk1
      cases ho
    · exact (hk k (Array.getElem?_eq_some_iff.1 hk1).1 e).trans hk1
end
theorem kg_putObj {B gs : Nat} (W : World) (l : Nat) (o o' : Obj) (hl : B ≤ l) (h : W.heap[l]? = some o) (_ : o.isCells = false) (_ : o.isWalk = false) : KG B gs W (W.putObj l o') := by
  have h1 := (Array.getElem?_eq_some_iff.1 h).1
  exact fun k hk _ => (grownBy_putObj' W l o').block k (by omega) (fun e => by cases e; omega)
theorem two_cells (W : World) (a b : Value) (t u : TypeId) : ((W.alloc (.cells #[a] t)).alloc (.cells #[b] u)).cell? ⟨W.heap.size, 0, none⟩ = some a ∧ ((W.alloc (.cells #[a] t)).alloc (.cells #[b] u)).cell? ⟨W.heap.size + 1, 0, none⟩ = some b ∧ Below W.heap.size W ((W.alloc (.cells #[a] t)).alloc (.cells #[b] u)) ∧ ((W.alloc (.cells #[a] t)).alloc (.cells #[b] u)).heap.size = W.heap.size + 2 := by
  have h1 := heap_alloc_new W (.cells #[a] t)
  have h2 := heap_alloc_new (W.alloc (.cells #[a] t)) (.cells #[b] u)
  rw [World.size_alloc] at h2
  exact ⟨(cell_of_row _ _ 0 _ _ _ ((Below.heap_alloc _ _ _ (by simp)).trans h1)).trans rfl, (cell_of_row _ _ 0 _ _ _ h2).trans rfl, ((Below.refl _ _).alloc (Nat.le_refl _) _).alloc (by simp) _, by simp⟩
theorem after_range (m : List Nat) (s0 : Sha.St) : ∀ N, (List.range N).foldl (fun s i => Sha.block s (Sha.part m i)) s0 = Sha.after m s0 N
  | 0 => rfl
  | N + 1 => by rw [List.range_succ, List.foldl_append, after_range m s0 N]; rfl
/-- the state behind some blocks -/
def foldB {N : Nat} (m : List Nat) (s0 : Sha.St) (xs : List (Fin N)) : Sha.St := xs.foldl (fun s x => Sha.block s (Sha.part m x.val)) s0
theorem foldB_all {N : Nat} (m : List Nat) (s0 : Sha.St) (xs : List (Fin N)) (h : xs.map (·.val) = List.range N) : foldB m s0 xs = Sha.after m s0 N := by
  rw [← after_range, ← h, List.foldl_map]
  rfl
theorem foldB_snoc {N : Nat} (m : List Nat) (s0 : Sha.St) (xs : List (Fin N)) (x : Fin N) : foldB m s0 (xs ++ [x]) = Sha.block (foldB m s0 xs) (Sha.part m x.val) := by simp [foldB]
theorem foldB_ok {N : Nat} (m : List Nat) {s0 : Sha.St} (h : s0.ok) (xs : List (Fin N)) : (foldB m s0 xs).ok := by
  rcases List.eq_nil_or_concat xs with rfl | ⟨ys, y, rfl⟩
  · exact h
  · rw [List.concat_eq_append, foldB_snoc]; exact Sha.block_ok _ _
/-- the loop's invariant -/
def IB {N : Nat} (w : World) (gk gs g10 g5 : Nat) (row z32 : Array Value) (t m : List Nat) (s0 : Sha.St) (B : Nat) (X : World → Prop) (pre : List (Fin N)) (W : World) : Prop :=
  SAt w gk gs g10 g5 row z32 t (foldB m s0 pre) W ∧ B ≤ W.heap.size ∧ X W
theorem IB_own {N : Nat} (w : World) (gk gs g10 g5 : Nat) (row z32 : Array Value) (t m : List Nat) (s0 : Sha.St) (B : Nat) (hB : g10 < B) (D : Option Nat) (hD : ∀ d, D = some d → d < B) :
    OwnFrom B (IB (N := N) w gk gs g10 g5 row z32 t m s0 B (fun W => ∀ d, D = some d → W.heap[d]? = some (.deferred (some [])))) := by
  rintro pre W W' row' ⟨h1, h2, h3⟩ hg hr
  refine ⟨h1.grown hg (fun k e => Nat.lt_of_lt_of_le hB (hr k e).1), Nat.le_trans h2 hg.size, fun d e => ?_⟩
  have := hD d e
  exact (hg.block d (by omega) (fun e2 => by have := (hr d e2.symm).1; omega)).trans (h3 d e)
theorem cellsOf_append (a b : List Nat) : cellsOf (a ++ b) = cellsOf a ++ cellsOf b := by simp [cellsOf]
theorem cellsOf_zeros (z : Nat) : cellsOf (List.replicate z 0) = List.replicate z (.int .u8 0) := by simp [cellsOf]
/-- the digest's bytes, so many words written -/
def dgl (st : Sha.St) (k : Nat) : List Nat := (st.l.take k).flatMap (fun x => Sha.be x 4) ++ List.replicate (32 - 4 * k) 0
theorem flat_len (L : List Nat) : (L.flatMap fun x => Sha.be x 4).length = 4 * L.length := by
  induction L with
  | nil => rfl
  | cons x L ih => rw [List.flatMap_cons, List.length_append, ih, Sha.be_len, List.length_cons]; omega
theorem dgl_step (st : Sha.St) (k : Nat) (hk : k < 8) : (cellsOf (dgl st k)).take (4 * k) ++ (cellsOf (Sha.be (stF st k) 4) ++ (cellsOf (dgl st k)).drop (4 * k + (cellsOf (Sha.be (stF st k) 4)).length)) = cellsOf (dgl st (k + 1)) := by
  have hl : st.l.length = 8 := rfl
  have h1 : ((st.l.take k).flatMap fun x => Sha.be x 4).length = 4 * k := by rw [flat_len, List.length_take]; omega
  have h2 : (cellsOf (Sha.be (stF st k) 4)).length = 4 := by rw [cellsOf_length, Sha.be_len]
  have e1 : (cellsOf (dgl st k)).take (4 * k) = cellsOf ((st.l.take k).flatMap fun x => Sha.be x 4) := by
    unfold dgl
    rw [cellsOf_append, List.take_append_of_le_length (by rw [cellsOf_length, h1]; omega), List.take_of_length_le (by rw [cellsOf_length, h1]; omega)]
  have e2 : (cellsOf (dgl st k)).drop (4 * k + 4) = cellsOf (List.replicate (32 - 4 * (k + 1)) 0) := by
    unfold dgl
    rw [cellsOf_append, List.drop_append, List.drop_eq_nil_of_le (by rw [cellsOf_length, h1]; omega), List.nil_append, cellsOf_length, h1, cellsOf_zeros, cellsOf_zeros, List.drop_replicate]
    congr 1
    omega
  rw [h2, e1, e2, ← cellsOf_append, ← cellsOf_append]
  unfold dgl
  rw [take_snoc (by omega), List.flatMap_append, List.append_assoc]
  simp [stF]
theorem dgl_zero (st : Sha.St) : dgl st 0 = List.replicate 32 0 := rfl
theorem dgl_all (l : List Nat) : dgl (Sha.fin l) 8 = Sha.sum l := by
  unfold dgl Sha.sum
  rw [List.take_of_length_le (by simp [Sha.St.l])]
  simp
theorem dgl_len (st : Sha.St) (k : Nat) (hk : k ≤ 8) : (dgl st k).length = 32 := by
  have hl : st.l.length = 8 := rfl
  unfold dgl
  rw [List.length_append, flat_len, List.length_take, List.length_replicate]
  omega
theorem dgl_world {w W wr u w' : World} {D : Nat} {st : Sha.St} {k : Nat} (hk : k < 8) (hD : D < W.heap.size) (hr : wr.heap[D]? = some (.cells (cellsOf (dgl st k)).toArray 23 (0, 0))) (hK : KG W.heap.size D W wr) (hB : Below D w wr) (hs : W.heap.size ≤ wr.heap.size) (hb : Below wr.heap.size wr u)
    (hw : u.setRow D ((cellsOf (dgl st k)).toArray.toList.take (4 * k) ++ (cellsOf (Sha.be (stF st k) 4) ++ (cellsOf (dgl st k)).toArray.toList.drop (4 * k + (cellsOf (Sha.be (stF st k) 4)).length))).toArray = w') :
    w'.heap[D]? = some (.cells (cellsOf (dgl st (k + 1))).toArray 23 (0, 0)) ∧ KG W.heap.size D W w' ∧ Below D w w' ∧ W.heap.size ≤ w'.heap.size := by
  have hu : u.heap[D]? = some (.cells (cellsOf (dgl st k)).toArray 23 (0, 0)) := (hb.block D (by omega)).trans hr
  rw [List.toList_toArray, dgl_step st k hk] at hw
  have hsz : w'.heap.size = u.heap.size := by rw [← hw]; simp [World.setRow]
  have := hb.size
  refine ⟨by rw [← hw]; exact setRow_heap _ _ _ _ 23 (0, 0) hu, fun j hj hne => ?_, ?_, by omega⟩
  · rw [← hw, setRow_other _ _ _ _ hne, hb.block j (by omega)]
    exact hK j hj hne
  · rw [← hw]; exact Below.setRow' (hB.trans (hb.mono (by omega))) (Nat.le_refl _) _
theorem info129 : (Try.prog.info? 129).map (·.size) = some 1 := by kernel_rfl
theorem run_index134 (ss : Array Value) (k xk : Nat) (hk : k < 8) (h : ss[k]? = some (.int .u32 xk)) (w : World) : (Instr.index 134 (.agg ss) (.int .i64 (k : Int))).run Try.prog w = .ok (.int .u32 xk) w := by
  obtain ⟨i, hi, hs⟩ := Option.map_eq_some_iff.1 info129
  have h1 : (0 : Int) ≤ k ∧ (k : Int) < 8 := by omega
  simp [Instr.index, asIntOf, run_underlying Try.underlying134, sizeOf, typeInfo, hi, hs, h1, Sem.run_bind]
  rw [if_pos hk]
  simp [part, isAgg, run_underlying Try.underlying129, h, Sem.run_bind]
theorem size23 : (Try.prog.info? 23).map (·.size) = some 32 := by kernel_rfl
theorem end_world {w W wr : World} {D1 D2 : Nat} {cs : Array Value} (h1 : w.heap.size < D1) (h12 : D1 < D2) (h2 : D2 < W.heap.size) (k1 : W.heap[D1]? = some (.deferred (some []))) (k2 : W.heap[D2]? = some (.deferred (some []))) (hr : wr.heap[w.heap.size]? = some (.cells cs 23 (0, 0))) (hK : KG W.heap.size w.heap.size W wr) (hB : Below w.heap.size w wr) :
    wr.heap[D2]? = some (.deferred (some [])) ∧ (wr.putObj D2 (.deferred none)).heap[D1]? = some (.deferred (some [])) ∧ ((wr.putObj D2 (.deferred none)).putObj D1 (.deferred none)).heap[w.heap.size]? = some (.cells cs 23 (0, 0)) ∧ Below w.heap.size w ((wr.putObj D2 (.deferred none)).putObj D1 (.deferred none)) := by
  have e2 := (hK D2 h2 (by omega)).trans k2
  have e1 := (hK D1 (by omega) (by omega)).trans k1
  have l2 := (Array.getElem?_eq_some_iff.1 e2).1
  have g2 := grownBy_putObj' wr D2 (.deferred none)
  have e1' := (g2.block D1 (by omega) (fun e => by cases e; omega)).trans e1
  have g1 := grownBy_putObj' (wr.putObj D2 (.deferred none)) D1 (.deferred none)
  have hs := g2.size
  refine ⟨e2, e1', ?_, ?_⟩
  · exact (g1.block _ (by omega) (fun e => by cases e; omega)).trans ((g2.block _ (by omega) (fun e => by cases e; omega)).trans hr)
  · exact (hB.grown g2 (by omega) (fun k e => by cases e; omega)).grown g1 (by omega) (fun k e => by cases e; omega)
end Go.Proofs.Ytaaepadhapfkoaa
