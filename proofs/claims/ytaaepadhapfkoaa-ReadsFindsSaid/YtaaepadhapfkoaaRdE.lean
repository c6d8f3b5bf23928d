/-
  Reads: a Get to the node of a place in the order.
-/
import Derived.Test.YtaaepadhapfkoaaRdD
import Derived.Test.YtaaepadhapfkoaaDgR
import Derived.StillTailTactics
import Derived.Deep.MidRow
namespace Go.Proofs.Ytaaepadhapfkoaa
set_option linter.unusedSimpArgs false
set_option linter.unusedVariables false
open Go.RowKit

section
variable {P : Program} {ops : Array Oper} {w : World} {Q : Act → Prop} {rest : List Oper} {o : Oper} {a : Act}
theorem still_loadm (hw : Region.wanted o (yielded ops a.tmps) = true) (ty : TypeId) (x : Operand) (ho : o.op = .load ty x) (b k : Nat) (hx : a.eval x = .pointer (some ⟨b, k, none⟩)) (cs : List Value) (d : TypeDesc) (hc : w.rangeAt b k cs)
    (hu : P.underlying ty = some d) (hd : d.isRow = true) (hi : (P.info? ty).map (·.size) = some cs.length) (h : wpStill P ops w Q rest (a.put o.dst (.agg cs.toArray))) : wpStill P ops w Q (o :: rest) a :=
  wpStill_step fun K hK => by
    rw [if_pos hw]
    unfold Oper.still execOp
    simp only [ho, hx, Instr.loadAt, Instr.sureAddr, Sem.run_bind, Sem.run_pure, Result.andThen_ok, run_loadVar_mid w b k ty cs d hc hu hd hi]
    exact ⟨rfl, hK _ h⟩
theorem still_build (hw : Region.wanted o (yielded ops a.tmps) = true) (t : TypeId) (parts : Array (Nat × Operand)) (ho : o.op = .build t parts) (vals : List (Nat × Value)) (hv : (parts.map fun (i, x) => (i, a.eval x)).toList = vals) (cells : Array Value)
    (hb : P.built t vals = some cells) (h : wpStill P ops w Q rest (a.put o.dst (.agg cells))) : wpStill P ops w Q (o :: rest) a :=
  wpStill_step fun K hK => by
    rw [if_pos hw]
    have hr := run_build (P := P) w t (parts.map fun (i, x) => (i, a.eval x)) cells (by rw [hv]; exact hb)
    unfold Oper.still execOp
    simp only [ho, Sem.run_bind, hr, Result.andThen_ok]
    exact ⟨rfl, hK _ h⟩
end
theorem zeroV69 (w : World) : (zeroValue 69).run Try.prog w = .ok (.agg (nt 0 0 0 0 0 0 0 false (List.replicate 32 0) (.slice none 0 0)).toArray) w := by kernel_rfl
/-- what a read sends -/
def ntR (R : Rdr) (x : Bool × Int) (dv : Value) : List Value := nt (if x.1 = true then 16 else 7) R.me x.2 R.cn R.cb R.cc (if x.1 = true then R.set else 0) false R.id dv
section
variable {w w' : World} {p : Nat} {R : Rdr} {a1 a2 a3 : Option Addr} {c1 c2 c3 : Nat}
set_option maxHeartbeats 4000000 in
set_option maxRecDepth 100000 in
theorem get_any (h : RAt w p R a1 c1 a2 c2 a3 c3) (hl : R.id.length = 32) (i : Nat) (hi : i < R.ord.length) :
    Calls Try.prog 91 #[.pointer (some ⟨p, 0, none⟩), .int .i64 i] w fun e w' => e = .returned (.agg (ntR R (false, R.ord.getD i 0) (.slice none 0 0)).toArray) ∧ Below w.heap.size w w' := by
  obtain ⟨to', hto⟩ : ∃ x, R.ord.getD i 0 = x := ⟨_, rfl⟩
  have hbd := Hf.mk (built_get 7 R.me to' R.cn R.cb R.cc R.id hl)
  have HN : Hf (ntR R (false, to') (.slice none 0 0) = nt 7 R.me to' R.cn R.cb R.cc 0 false R.id (.slice none 0 0)) := ⟨rfl⟩
  have hn1 := nt_one 7 R.me to' R.cn R.cb R.cc 0 false R.id none 0 0
  have hn2 := nt_len 7 R.me to' R.cn R.cb R.cc 0 false hl (.slice none 0 0)
  rw [hto]
  have HTO := Hf.mk hto
  generalize nt 7 R.me to' R.cn R.cb R.cc 0 false R.id (.slice none 0 0) = ns at *
  have hcl : (cellsOf R.id).length = 32 := by rw [cellsOf_length, hl]
  have hz := zeroV69
  have hzl := nt_len 0 0 0 0 0 0 0 false (List.length_replicate (n := 32) (a := 0)) (.slice none 0 0)
  generalize nt 0 0 0 0 0 0 0 false (List.replicate 32 0) (.slice none 0 0) = z at hz hzl
  have hi' : (i : Int) < (R.ord.length : Int) := by omega
  have hi0 : (0 : Int) ≤ (i : Int) := Int.natCast_nonneg i
  have HSZ : Hf ((Try.prog.info? 23).map (·.size) = some (cellsOf R.id).length) := ⟨by rw [hcl]; exact size23⟩
  have HX : Hf ((w.alloc (.cells z.toArray 69)).heap[w.heap.size]? = some (.cells z.toArray 69 (0, 0))) := ⟨heap_alloc_new _ _⟩
  have HB : Hf (Below w.heap.size w (w.alloc (.cells z.toArray 69))) := ⟨(Below.refl _ _).alloc (Nat.le_refl _) _⟩
  have HH := Hf.mk (h.below HB.out)
  have HZL := Hf.mk hzl
  have HN1 := Hf.mk hn1
  have HN2 := Hf.mk hn2
  clear hcl hzl hn1 hn2 h hto
  go_enter Try.func91, Try.ntmps91
  go_upto_region 1 with fail
  generalize w.alloc (.cells z.toArray 69) = W at *
  obtain ⟨b, off, rfl, hb, hc⟩ := HH.out.ord.form (by omega)
  have q0 := hc i hi
  rw [HTO.out] at q0
  have qm := HH.out.cme
  have qo := HH.out.cord
  have q35 := HH.out.ccn
  have q36 := HH.out.ccb
  have q37 := HH.out.ccc
  have HR := Hf.mk (HH.out.cid hl)
  generalize cellsOf R.id = cs at *
  clear hc
  refine wp_region_still_tail 20 (by kernel_rfl) (by kernel_rfl) ?_
  simp only [List.take_succ_cons, List.take_zero, List.drop_succ_cons, List.drop_zero]
  iterate 18 still_step
  refine still_loadm (by rfl) 23 (.tmp 22) (by rfl) p 1 (by rfl) cs _ HR.out Try.underlying23 rfl HSZ.out ?_
  refine still_build (by rfl) 69 _ (by rfl) [(0, .int .i64 7), (1, .int .i64 R.me), (2, .int .i64 to'), (3, .agg #[.int .i64 R.cn, .int .i64 R.cb, .int .i64 R.cc]), (9, .agg cs.toArray)] (by simp [Act.eval, Act.put]) _ hbd.out ?_
  refine wpStill_nil ?_
  change wpList _ _ _ _ _ W.drew
  have HX2 : Hf (W.drew.heap[w.heap.size]? = some (.cells z.toArray 69 (0, 0))) := ⟨HX.out⟩
  have HB2 : Hf (Below w.heap.size w W.drew) := ⟨HB.out.drew⟩
  generalize W.drew = W2 at *
  go_wp2_with (refine wpList_store_row rfl 69 _ _ rfl w.heap.size ns.toArray rfl rfl 69 z.toArray HX2.out (size69.trans (by rw [List.size_toArray, HN2.out])) (by rw [List.size_toArray, List.size_toArray, HZL.out, HN2.out]) (all_oneCell_toArray HN1.out) ?_)
  (try simp only [Exit.inBlock, Exit.then])
  refine bodyPost_ret (results_cell_row rfl _ _ w.heap.size 69 ns.toArray (0, 0) _ rfl (setRow_heap _ _ z.toArray ns.toArray 69 (0, 0) HX2.out) Try.underlying69 rfl (size69.trans (by rw [List.size_toArray, HN2.out]))) rfl ?_
  exact ⟨by rw [HN.out], HB2.out.trans ⟨rfl, rfl, rfl, by simp, fun i hi => setRow_other _ _ i _ (by omega)⟩⟩
end
end Go.Proofs.Ytaaepadhapfkoaa
