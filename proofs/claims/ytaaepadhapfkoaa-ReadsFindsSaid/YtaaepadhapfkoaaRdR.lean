/-
  Reads: notes alike; the chapter's notes.
-/
import Derived.Test.YtaaepadhapfkoaaRdQ
namespace Go.Proofs.Ytaaepadhapfkoaa
set_option linter.unusedSimpArgs false
set_option linter.unusedVariables false
open Go.RowKit

theorem wpList_load_midW {ops : Array Oper} {rest : List Oper} {op : Oper} {a : Act} {w : World} {Q : Exit → Act → World → Prop} (hw : Region.wanted op (yielded ops a.tmps) = true) (ty : TypeId) (x : Operand) (ho : op.op = .load ty x)
    (b o : Nat) (hx : a.eval x = .pointer (some ⟨b, o, none⟩)) (cs : List Value) (d : TypeDesc) (hc : w.rangeAt b o cs)
    (hu : Try.prog.underlying ty = some d) (hd : d.isRow = true) (hi : (Try.prog.info? ty).map (·.size) = some cs.length)
    (h : wpList Try.prog ops Q rest (a.put op.dst (.agg cs.toArray)) w) : wpList Try.prog ops Q (op :: rest) a w := by
  unfold wpList
  rw [if_pos hw]
  exact Or.inl (wp_load_mid ty x ho b o hx cs d hc hu hd hi h)
theorem eq56 (a b c : Int) (u : World) : (binOp .eql 56 (.agg #[.int .i64 a, .int .i64 b, .int .i64 c]) (.agg #[.int .i64 a, .int .i64 b, .int .i64 c])).run Try.prog u = .ok (.bool true) u := by
  have h := run_neq56 a b c a b c u
  rw [run_neq_struct] at h
  rw [run_eql_struct]
  generalize (Op.equalIn 10000 56 (.agg #[.int .i64 a, .int .i64 b, .int .i64 c]) (.agg #[.int .i64 a, .int .i64 b, .int .i64 c])).run Try.prog u = r at *
  cases r with
  | ok v w' =>
    simp only [Result.andThen_ok, Result.ok.injEq, Value.bool.injEq] at h ⊢
    obtain ⟨h1, h2⟩ := h
    refine ⟨?_, h2⟩
    simpa using h1
  | halt x w' => simp [Result.andThen] at h
theorem eq65 (u : World) : (binOp .eql 65 (.agg #[.int .i64 0, .int .i64 0]) (.agg #[.int .i64 0, .int .i64 0])).run Try.prog u = .ok (.bool true) u := by kernel_rfl
theorem nt_get {kind me who cn cb cc set : Int} {yes : Bool} {id : List Nat} {dv : Value} (h : id.length = 32) {i : Nat} : (i < 13 → (nt kind me who cn cb cc set yes id dv)[i]? = [Value.int .i64 kind, .int .i64 me, .int .i64 who, .int .i64 cn, .int .i64 cb, .int .i64 cc, .int .i64 set, .int .i64 0, .int .i64 0, .int .i64 0, .int .i64 0, .int .i64 0, .bool yes][i]?) ∧
    (i < 32 → (nt kind me who cn cb cc set yes id dv)[13 + i]? = (cellsOf id)[i]?) ∧ (i < 3 → (nt kind me who cn cb cc set yes id dv)[45 + i]? = [dv, .slice none 0 0, .slice none 0 0][i]?) := by
  have hl : (cellsOf id).length = 32 := by rw [cellsOf_length, h]
  unfold nt
  refine ⟨fun hi => ?_, fun hi => ?_, fun hi => ?_⟩
  · rw [List.append_assoc, List.getElem?_append_left (by simpa using hi)]
  · rw [List.append_assoc, List.getElem?_append_right (by simp), List.getElem?_append_left (by simpa [hl] using hi)]
    simp
  · rw [List.getElem?_append_right (by simp [hl])]
    congr 1
    simp [hl]
set_option maxHeartbeats 4000000 in
set_option maxRecDepth 100000 in
theorem sameNote_get (kind me who cn cb cc : Int) (id : List Nat) (w : World) (hl : id.length = 32) (hb : ∀ x ∈ id, x < 256) :
    Calls Try.prog 107 #[.agg (nt kind me who cn cb cc 0 false id (.slice none 0 0)).toArray, .agg (nt kind me who cn cb cc 0 false id (.slice none 0 0)).toArray] w fun e w' => e = .returned (.bool true) ∧ Below w.heap.size w w' := by
  have hg : ∀ i, _ := fun i => nt_get (kind := kind) (me := me) (who := who) (cn := cn) (cb := cb) (cc := cc) (set := 0) (yes := false) (id := id) (dv := .slice none 0 0) hl (i := i)
  have he := fun u => run_eql_ids id id u hl hl hb hb
  rw [decide_eq_true (rfl : id = id)] at he
  have h56 := eq56 cn cb cc
  have h65 := eq65
  have HX : Hf (∀ u, Calls Try.prog 40 #[.slice none 0 0, .slice none 0 0] u fun e w' => e = .returned (.bool true) ∧ w' = u) := ⟨fun u => sameBytes_any none none 0 0 [] [] u (given_nil u) (given_nil u)⟩
  have HY := Hf.mk sameIDs_nil
  have HZ := Hf.mk sameMembers_nil
  have HL : Hf ((cellsOf id).length = 32) := ⟨by rw [cellsOf_length, hl]⟩
  have HG : Hf (∀ (u : World) (b : Nat), u.heap[b]? = some (.cells (nt kind me who cn cb cc 0 false id (.slice none 0 0)).toArray 69 (0, 0)) →
      u.cell? ⟨b, 0, none⟩ = some (.int .i64 kind) ∧ u.cell? ⟨b, 1, none⟩ = some (.int .i64 me) ∧ u.cell? ⟨b, 2, none⟩ = some (.int .i64 who) ∧ u.cell? ⟨b, 3, none⟩ = some (.int .i64 cn) ∧ u.cell? ⟨b, 4, none⟩ = some (.int .i64 cb) ∧ u.cell? ⟨b, 5, none⟩ = some (.int .i64 cc) ∧ u.cell? ⟨b, 6, none⟩ = some (.int .i64 0) ∧ u.cell? ⟨b, 7, none⟩ = some (.int .i64 0) ∧ u.cell? ⟨b, 8, none⟩ = some (.int .i64 0) ∧ u.cell? ⟨b, 9, none⟩ = some (.int .i64 0) ∧ u.cell? ⟨b, 10, none⟩ = some (.int .i64 0) ∧ u.cell? ⟨b, 11, none⟩ = some (.int .i64 0) ∧ u.cell? ⟨b, 12, none⟩ = some (.bool false) ∧
      u.rangeAt b 13 (cellsOf id) ∧ u.cell? ⟨b, 45, none⟩ = some (.slice none 0 0) ∧ u.cell? ⟨b, 46, none⟩ = some (.slice none 0 0) ∧ u.cell? ⟨b, 47, none⟩ = some (.slice none 0 0)) := ⟨fun u b hh => by
    have hc : ∀ j, u.cell? ⟨b, j, none⟩ = (nt kind me who cn cb cc 0 false id (.slice none 0 0))[j]? := fun j => by rw [Go.Joins.cell_of_block hh]; simp
    refine ⟨(hc 0).trans ((hg 0).1 (by decide)), (hc 1).trans ((hg 1).1 (by decide)), (hc 2).trans ((hg 2).1 (by decide)), (hc 3).trans ((hg 3).1 (by decide)), (hc 4).trans ((hg 4).1 (by decide)), (hc 5).trans ((hg 5).1 (by decide)), (hc 6).trans ((hg 6).1 (by decide)), (hc 7).trans ((hg 7).1 (by decide)), (hc 8).trans ((hg 8).1 (by decide)), (hc 9).trans ((hg 9).1 (by decide)), (hc 10).trans ((hg 10).1 (by decide)), (hc 11).trans ((hg 11).1 (by decide)), (hc 12).trans ((hg 12).1 (by decide)), fun j v hv => ?_, (hc 45).trans ((hg 0).2.2 (by decide)), (hc 46).trans ((hg 1).2.2 (by decide)), (hc 47).trans ((hg 2).2.2 (by decide))⟩
    have hj : j < 32 := by rw [← HL.out]; exact (List.getElem?_eq_some_iff.1 hv).1
    rw [hc (13 + j), (hg j).2.1 hj]; exact hv⟩
  clear hg
  generalize nt kind me who cn cb cc 0 false id (.slice none 0 0) = ns at *
  have HB : Hf (Below w.heap.size w ((w.alloc (.cells ns.toArray 69)).alloc (.cells ns.toArray 69))) := ⟨((Below.refl _ _).alloc (Nat.le_refl _) _).alloc (by simp) _⟩
  obtain ⟨p0, p1, p2, p3, p4, p5, p6, p7, p8, p9, p10, p11, p12, HP, p45, p46, p47⟩ := HG.out ((w.alloc (.cells ns.toArray 69)).alloc (.cells ns.toArray 69)) w.heap.size ((Below.heap_alloc _ _ _ (by simp)).trans (heap_alloc_new w (.cells ns.toArray 69)))
  obtain ⟨r0, r1, r2, r3, r4, r5, r6, r7, r8, r9, r10, r11, r12, HR, r45, r46, r47⟩ := HG.out ((w.alloc (.cells ns.toArray 69)).alloc (.cells ns.toArray 69)) (w.heap.size + 1) (by have := heap_alloc_new (w.alloc (.cells ns.toArray 69)) (.cells ns.toArray 69); rwa [World.size_alloc] at this)
  have HPR := Hf.mk HP
  have HRR := Hf.mk HR
  clear HP HR HG
  generalize cellsOf id = cs at *
  go_enter Try.func107, Try.ntmps107
  generalize hW : (w.alloc (.cells ns.toArray 69)).alloc (.cells ns.toArray 69) = W at *
  go_wp2_with (first
    | (refine wpList_load_midW (by rfl) 23 (.tmp 67) (by rfl) w.heap.size 13 (by rfl) cs _ HPR.out Try.underlying23 rfl (by rw [HL.out]; exact size23) ?_)
    | (refine wpList_load_midW (by rfl) 23 (.tmp 69) (by rfl) (w.heap.size + 1) 13 (by rfl) cs _ HRR.out Try.underlying23 rfl (by rw [HL.out]; exact size23) ?_)
    | (go_at_call 40; (with_reducible refine (HX.out _).mono ?_); rintro e w1 ⟨rfl, rfl⟩)
    | (go_at_call 125; (with_reducible refine (HY.out _).mono ?_); rintro e w1 ⟨rfl, rfl⟩)
    | (go_at_call 126; (with_reducible refine (HZ.out _).mono ?_); rintro e w1 ⟨rfl, rfl⟩))
  go_ret
  exact ⟨rfl, HB.out⟩
end Go.Proofs.Ytaaepadhapfkoaa
