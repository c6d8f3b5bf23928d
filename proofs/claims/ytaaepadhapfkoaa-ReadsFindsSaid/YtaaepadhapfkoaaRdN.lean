/-
  Reads: is a note an answer that is waited for?
-/
import Derived.Test.YtaaepadhapfkoaaRdM
import Derived.Laws.StructEq
namespace Go.Proofs.Ytaaepadhapfkoaa
set_option linter.unusedSimpArgs false
set_option linter.unusedVariables false
open Go.RowKit

theorem held56 : Try.prog.stoodInHeld 56 = false := by kernel_rfl
theorem fields56 : Try.prog.underlying 56 = some (.struct (Try.prog.fieldsOf 56)) := by kernel_rfl
theorem flds56 : (Try.prog.fieldsOf 56).toList = [(Try.prog.fieldsOf 56)[0]!, (Try.prog.fieldsOf 56)[1]!, (Try.prog.fieldsOf 56)[2]!] := by kernel_rfl
theorem fld56a : ((Try.prog.fieldsOf 56)[0]!.name != "_", (Try.prog.fieldsOf 56)[0]!.type, (Try.prog.fieldsOf 56)[0]!.offset) = (true, 3, 0) := by kernel_rfl
theorem fld56b : ((Try.prog.fieldsOf 56)[1]!.name != "_", (Try.prog.fieldsOf 56)[1]!.type, (Try.prog.fieldsOf 56)[1]!.offset) = (true, 3, 1) := by kernel_rfl
theorem fld56c : ((Try.prog.fieldsOf 56)[2]!.name != "_", (Try.prog.fieldsOf 56)[2]!.type, (Try.prog.fieldsOf 56)[2]!.offset) = (true, 3, 2) := by kernel_rfl
theorem part3 (a b c : Int) (u : World) : (part 3 #[.int .i64 a, .int .i64 b, .int .i64 c] 0).run Try.prog u = .ok (.int .i64 a) u ∧ (part 3 #[.int .i64 a, .int .i64 b, .int .i64 c] 1).run Try.prog u = .ok (.int .i64 b) u ∧ (part 3 #[.int .i64 a, .int .i64 b, .int .i64 c] 2).run Try.prog u = .ok (.int .i64 c) u := ⟨by kernel_rfl, by kernel_rfl, by kernel_rfl⟩
theorem run_neq56 (a b c a' b' c' : Int) (u : World) : (binOp .neq 56 (.agg #[.int .i64 a, .int .i64 b, .int .i64 c]) (.agg #[.int .i64 a', .int .i64 b', .int .i64 c'])).run Try.prog u = .ok (.bool (!(a == a' && (b == b' && c == c')))) u := by
  have h := run_equalIn_agg (P := Try.prog) u 9999 56 #[.int .i64 a, .int .i64 b, .int .i64 c] #[.int .i64 a', .int .i64 b', .int .i64 c'] fields56 held56
  rw [run_neq_struct, h, flds56]
  have ha := fld56a
  have hb := fld56b
  have hc := fld56c
  simp only [Prod.mk.injEq] at ha hb hc
  generalize (Try.prog.fieldsOf 56)[0]! = f0 at *
  generalize (Try.prog.fieldsOf 56)[1]! = f1 at *
  generalize (Try.prog.fieldsOf 56)[2]! = f2 at *
  obtain ⟨x1, x2, x3⟩ := part3 a b c u
  obtain ⟨y1, y2, y3⟩ := part3 a' b' c' u
  have e := fun p q => run_equalIn_int (P := Try.prog) u 9998 3 .i64 .i64 p q Try.underlying3
  simp only [Op.eqFields, ha.1, ha.2.1, ha.2.2, hb.1, hb.2.1, hb.2.2, hc.1, hc.2.1, hc.2.2, Sem.run_bind, Sem.run_ite, if_true, x1, x2, x3, y1, y2, y3, Result.andThen_ok, e]
  have na : ¬ f0.name = "_" := by simpa using ha.1
  have nb : ¬ f1.name = "_" := by simpa using hb.1
  have nc : ¬ f2.name = "_" := by simpa using hc.1
  cases (a == a') <;> cases (b == b') <;> cases (c == c') <;> simp [na, nb, nc]
theorem run_neq_ids (a b : List Nat) (w : World) (ha : a.length = 32) (hb : b.length = 32) (ha1 : ∀ x ∈ a, x < 256) (hb1 : ∀ x ∈ b, x < 256) :
    (binOp .neq 23 (.agg (cellsOf a).toArray) (.agg (cellsOf b).toArray)).run Try.prog w = .ok (.bool (!decide (a = b))) w := by
  have h := run_eql_ids a b w ha hb ha1 hb1
  rw [run_eql_struct] at h
  rw [run_neq_struct]
  generalize (Op.equalIn 10000 23 (.agg (cellsOf a).toArray) (.agg (cellsOf b).toArray)).run Try.prog w = r at *
  cases r with
  | ok v w' => simp only [Result.andThen_ok, Result.ok.injEq, Value.bool.injEq] at h ⊢; exact ⟨by rw [h.1], h.2⟩
  | halt x w' => simp [Result.andThen] at h
theorem results_cell1 {fn : Func} {p : Tmp} (h : fn.results = #[.cell p 61]) (tmps : Array Value) (w : World) (g : Nat) (v : Value) (hp : tmps.getD p undef = .pointer (some ⟨g, 0, none⟩)) (hc : w.cell? ⟨g, 0, none⟩ = some v) :
    (results fn tmps).run Try.prog w = .ok v w := by
  have hp' : tmps[p]?.getD undef = .pointer (some ⟨g, 0, none⟩) := by simpa using hp
  simp [results, h, hp', asAddr, loadVar, Try.isAgg61, hc]
theorem run_load_cell (ty : TypeId) (hagg : ∀ w, (isAgg ty).run Try.prog w = .ok false w) (w : World) (b k : Nat) (v : Value) (h : w.cell? ⟨b, k, none⟩ = some v) : (Instr.loadAt ty (.pointer (some ⟨b, k, none⟩))).run Try.prog w = .ok v w := by
  simp [Instr.loadAt, Instr.sureAddr, loadVar, hagg, h]
/-- a note that is handed in -/
structure NoteV (w : World) (N : Array Value) (kind frm who cn cb cc : Int) (yes : Bool) (id : List Nat) (A : Option Addr) (d : List Nat) (c : Nat) : Prop where
  size : N.size = 48
  n0 : N[0]? = some (.int .i64 kind)
  n1 : N[1]? = some (.int .i64 frm)
  n2 : N[2]? = some (.int .i64 who)
  n3 : N[3]? = some (.int .i64 cn)
  n4 : N[4]? = some (.int .i64 cb)
  n5 : N[5]? = some (.int .i64 cc)
  n12 : N[12]? = some (.bool yes)
  idl : id.length = 32
  idb : ∀ x ∈ id, x < 256
  nid : ∀ j, j < 32 → N[13 + j]? = some (.int .u8 (id.getD j 0 : Nat))
  n45 : N[45]? = some (.slice A d.length c)
  dat : Given w A c d
theorem take_away {R : Rdr} {frm : Int} {yes : Bool} {d : List Nat} (h : placeI R.ord frm = -1) : R.takeO true frm yes d = [] ∧ R.takeR true frm yes d = R := by
  have h1 : placeI R.ord frm < 0 := by omega
  unfold Rdr.takeO Rdr.takeR
  constructor
  · rw [if_neg (by decide), if_pos h1]
  · rw [if_neg (by decide), if_pos h1]
theorem take_was {R : Rdr} {frm : Int} {yes : Bool} {d : List Nat} {j : Nat} (h : placeI R.ord frm = j) (hx : R.kn.getD j 0 ≠ 1) : R.takeO true frm yes d = [] ∧ R.takeR true frm yes d = R := by
  have h1 : ¬ placeI R.ord frm < 0 := by omega
  have h2 : R.kn.getD (placeI R.ord frm).toNat 0 ≠ 1 := by rw [h, Int.toNat_natCast]; exact hx
  unfold Rdr.takeO Rdr.takeR
  constructor
  · rw [if_neg (by decide), if_neg h1, if_pos h2]
  · rw [if_neg (by decide), if_neg h1, if_pos h2]
theorem take_gets {R : Rdr} {frm : Int} {yes : Bool} {d : List Nat} {j : Nat} (h : placeI R.ord frm = j) (hx : R.kn.getD j 0 = 1) (hy : yes = true ∧ Sha.sum d = R.id) : R.takeO true frm yes d = R.hints ∧ R.takeR true frm yes d = R.gets d := by
  have h1 : ¬ placeI R.ord frm < 0 := by omega
  have h2 : ¬ R.kn.getD (placeI R.ord frm).toNat 0 ≠ 1 := by rw [h, Int.toNat_natCast]; exact fun e => e hx
  unfold Rdr.takeO Rdr.takeR
  constructor
  · rw [if_neg (by decide), if_neg h1, if_neg h2, if_pos hy]
  · rw [if_neg (by decide), if_neg h1, if_neg h2, if_pos hy]
theorem take_lacks {R : Rdr} {frm : Int} {yes : Bool} {d : List Nat} {j : Nat} (h : placeI R.ord frm = j) (hx : R.kn.getD j 0 = 1) (hy : ¬ (yes = true ∧ Sha.sum d = R.id)) :
    R.takeO true frm yes d = (R.lackR j).onO ∧ R.takeR true frm yes d = if (R.lackR j).onR.allLack = true then (R.lackR j).onR.fails 6 else (R.lackR j).onR := by
  have h1 : ¬ placeI R.ord frm < 0 := by omega
  have h2 : ¬ R.kn.getD (placeI R.ord frm).toNat 0 ≠ 1 := by rw [h, Int.toNat_natCast]; exact fun e => e hx
  unfold Rdr.takeO Rdr.takeR
  constructor
  · rw [if_neg (by decide), if_neg h1, if_neg h2, if_neg hy, h, Int.toNat_natCast]
  · rw [if_neg (by decide), if_neg h1, if_neg h2, if_neg hy, h, Int.toNat_natCast]
/-- hints up to a home -/
def hintsK (R : Rdr) (k : Nat) : List (Bool × Int) := (R.homes.take k).flatMap (hintO R)
theorem take_snocI {l : List Int} {k : Nat} (h : k < l.length) : l.take (k + 1) = l.take k ++ [l.getD k 0] := by
  rw [List.take_succ_eq_append_getElem h, List.getD_eq_getElem?_getD, List.getElem?_eq_getElem h]; rfl
theorem hintsK_succ (R : Rdr) {k : Nat} (h : k < R.homes.length) : hintsK R (k + 1) = hintsK R k ++ hintO R (R.homes.getD k 0) := by
  unfold hintsK
  rw [take_snocI h, List.flatMap_append]
  simp
theorem hintO_len (R : Rdr) (h : Int) : (hintO R h).length ≤ 1 := by unfold hintO; split <;> simp
theorem hintsK_len (R : Rdr) : ∀ k, k ≤ R.homes.length → (hintsK R k).length ≤ k
  | 0, _ => by simp [hintsK]
  | k + 1, h => by
    rw [hintsK_succ R h, List.length_append]
    have := hintsK_len R k (by omega)
    have := hintO_len R (R.homes.getD k 0)
    omega
theorem hintsK_all (R : Rdr) : hintsK R R.homes.length = R.hints := by
  unfold hintsK Rdr.hints
  rw [List.take_length]
  generalize R.homes = l
  induction l with
  | nil => rfl
  | cons x l ih =>
    rw [List.flatMap_cons, ih, List.filterMap_cons]
    unfold hintO
    split <;> simp_all
theorem ok_gets {R : Rdr} {d : List Nat} (ok : R.Ok) (hs : R.st = 1) (hd : Sha.sum d = R.id) (hl : d.length ≤ 5000) : (R.gets d).Ok :=
  { ok with st4 := (by decide : (2 : Nat) < 4), run := fun h => (by cases h), fin := fun _ => ⟨hd, ok.fine (by omega)⟩, bad := fun h => (by cases h), fine := fun h => absurd (show (2 : Nat) < 2 from h) (by decide), dat := Nat.le_trans hl (by decide), new := fun h => (by cases h) }
theorem grown_lowB {a b c : World} {r : Option Nat} {B : Nat} (h : a.grownBy b r) (k : Below B b c) (hB : a.heap.size ≤ B) : a.grownBy c r :=
  ⟨k.os.trans h.os, k.tape.trans h.tape, k.output.trans h.output, Nat.le_trans h.size k.size, fun i hi hne => (k.block i (by omega)).trans (h.block i hi hne)⟩
/-- what lies where a note is taken -/
structure TakeW (w0 W : World) (p : Nat) (R : Rdr) (a1 : Option Addr) (c1 : Nat) (a2 : Option Addr) (c2 : Nat) (a3 : Option Addr) (c3 : Nat) (N : Array Value) : Prop where
  below : Below w0.heap.size w0 W
  size : w0.heap.size + 3 ≤ W.heap.size
  ptr : W.cell? ⟨w0.heap.size, 0, none⟩ = some (.pointer (some ⟨p, 0, none⟩))
  note : W.heap[w0.heap.size + 1]? = some (.cells N 69 (0, 0))
  out : W.heap[w0.heap.size + 1 + 1]? = some (.cells #[.slice none 0 0] 61 (0, 0))
  rat : RAt W p R a1 c1 a2 c2 a3 c3
section
variable {w0 W : World} {p : Nat} {R : Rdr} {a1 a2 a3 : Option Addr} {c1 c2 c3 : Nat}
theorem TakeW.later {N : Array Value} {W' : World} (h : TakeW w0 W p R a1 c1 a2 c2 a3 c3 N) (hb : Below W.heap.size W W') : TakeW w0 W' p R a1 c1 a2 c2 a3 c3 N := by
  have hs := h.size
  exact ⟨h.below.trans (hb.mono (by omega)), Nat.le_trans hs hb.size, (hb.cell (p := ⟨w0.heap.size, 0, none⟩) (by show w0.heap.size < _; omega)).trans h.ptr, (hb.block _ (by omega)).trans h.note, (hb.block _ (by omega)).trans h.out, h.rat.below hb⟩
theorem takeW_start (h : RAt w0 p R a1 c1 a2 c2 a3 c3) (N : Array Value) : TakeW w0 (((w0.alloc (.cells #[.pointer (some ⟨p, 0, none⟩)] 57)).alloc (.cells N 69)).alloc (.cells #[.slice none 0 0] 61)) p R a1 c1 a2 c2 a3 c3 N := by
  have e1 := heap_alloc_new w0 (.cells #[.pointer (some ⟨p, 0, none⟩)] 57)
  have e2 := heap_alloc_new (w0.alloc (.cells #[.pointer (some ⟨p, 0, none⟩)] 57)) (.cells N 69)
  have e3 := heap_alloc_new ((w0.alloc (.cells #[.pointer (some ⟨p, 0, none⟩)] 57)).alloc (.cells N 69)) (.cells #[.slice none 0 0] 61)
  rw [World.size_alloc] at e2
  rw [World.size_alloc, World.size_alloc] at e3
  have hb : Below w0.heap.size w0 (((w0.alloc (.cells #[.pointer (some ⟨p, 0, none⟩)] 57)).alloc (.cells N 69)).alloc (.cells #[.slice none 0 0] 61)) := (((Below.refl _ _).alloc (Nat.le_refl _) _).alloc (by simp) _).alloc (by simp; omega) _
  refine ⟨hb, by simp, ?_, ?_, e3, h.below hb⟩
  · rw [Go.Joins.cell_of_block ((Below.heap_alloc _ _ _ (by simp; omega)).trans ((Below.heap_alloc _ _ _ (by simp)).trans e1))]; rfl
  · exact (Below.heap_alloc _ _ _ (by simp)).trans e2
theorem note_range {w : World} {N : Array Value} {kind frm who cn cb cc : Int} {yes : Bool} {id : List Nat} {A : Option Addr} {d : List Nat} {c b : Nat} (h : NoteV w N kind frm who cn cb cc yes id A d c) {W : World} (hb : W.heap[b]? = some (.cells N 69 (0, 0))) : W.rangeAt b 13 (cellsOf id) := fun j v hv => by
  obtain ⟨x, hx, rfl⟩ : ∃ x, id[j]? = some x ∧ Value.int .u8 (x : Nat) = v := by
    unfold cellsOf at hv
    rw [List.getElem?_map] at hv
    exact Option.map_eq_some_iff.1 hv
  have hj := (List.getElem?_eq_some_iff.1 hx).1
  rw [Go.Joins.cell_of_block hb, h.nid j (by rw [← h.idl]; exact hj), List.getD_eq_getElem?_getD, hx]
  rfl
structure LackW (w0 W : World) (p : Nat) (R : Rdr) (a1 : Option Addr) (c1 : Nat) (a2 : Option Addr) (c2 : Nat) (a3 : Option Addr) (c3 : Nat) : Prop where
  grown : w0.grownBy W (some p)
  size : w0.heap.size + 3 ≤ W.heap.size
  ptr : W.cell? ⟨w0.heap.size, 0, none⟩ = some (.pointer (some ⟨p, 0, none⟩))
  out : W.heap[w0.heap.size + 1 + 1]? = some (.cells #[.slice none 0 0] 61 (0, 0))
  rat : RAt W p R a1 c1 a2 c2 a3 c3
  idl : R.id.length = 32
  knl : R.kn.length = 64
  ordl : R.ord.length ≤ 64
theorem lack_world {N : Array Value} (h : TakeW w0 W p R a1 c1 a2 c2 a3 c3 N) (ok : R.Ok) (hp : p < w0.heap.size) {j : Nat} (hj : j < 64) : LackW w0 (W.setCell ⟨p, 43 + j, none⟩ (.int .u8 2)) p (R.lackR j) a1 c1 a2 c2 a3 c3 := by
  have hg := grownBy_set W p (43 + j) (.int .u8 2)
  exact ⟨(grown_of_below _ h.below).trans hg, Nat.le_trans h.size hg.size, hg.cell h.ptr (by show some w0.heap.size ≠ some p; intro e; injection e with e; omega), (hg.block _ (by have := h.size; omega) (by intro e; injection e with e; omega)).trans h.out, h.rat.putKn hj ok.knl 2, ok.idl, by show (R.kn.set j 2).length = 64; rw [List.length_set]; exact ok.knl, ok.ordl⟩
structure OnW (w0 W : World) (p : Nat) (R S : Rdr) (bv : Option Addr) (nv : Nat) (a1 : Option Addr) (c1 : Nat) (a2 : Option Addr) (c2 : Nat) (a3 : Option Addr) (c3 : Nat) : Prop where
  grown : w0.grownBy W (some p)
  size : w0.heap.size + 3 ≤ W.heap.size
  ptr : W.cell? ⟨w0.heap.size, 0, none⟩ = some (.pointer (some ⟨p, 0, none⟩))
  out : W.heap[w0.heap.size + 1 + 1]? = some (.cells #[.slice bv R.onO.length nv] 61 (0, 0))
  rat : RAt W p S a1 c1 a2 c2 a3 c3
  notes : NotesAt W (w0.heap.size + 3) (.slice bv R.onO.length nv) S R.onO
  knl : S.kn.length = 64
  ordl : S.ord.length ≤ 64
theorem onO_flag (R : Rdr) : ∀ x ∈ R.onO, x.1 = false := fun x hx => by
  unfold Rdr.onO at hx
  split at hx
  · rw [List.mem_singleton.1 hx]
  · cases hx
theorem on_world {w3 : World} (h : LackW w0 W p R a1 c1 a2 c2 a3 c3) (hp : p < w0.heap.size) {bv : Option Addr} {nv : Nat} (ho : w3.heap[w0.heap.size + 1 + 1]? = some (.cells #[.slice none 0 0] 61 (0, 0))) (hn : NotesAt w3 W.heap.size (.slice bv R.onO.length nv) R R.onO) (hr : RAt w3 p R.onR a1 c1 a2 c2 a3 c3) (hg : W.grownBy w3 (some p)) :
    OnW w0 (w3.setCell ⟨w0.heap.size + 1 + 1, 0, none⟩ (.slice bv R.onO.length nv)) p R R.onR bv nv a1 c1 a2 c2 a3 c3 := by
  have hs := h.size
  have hz : w0.heap.size + 3 ≤ (w3.setCell ⟨w0.heap.size + 1 + 1, 0, none⟩ (.slice bv R.onO.length nv)).heap.size := Nat.le_trans hs (Nat.le_trans hg.size (grownBy_set w3 _ 0 _).size)
  have hb : Below (w0.heap.size + 1 + 1) w3 (w3.setCell ⟨w0.heap.size + 1 + 1, 0, none⟩ (.slice bv R.onO.length nv)) := (Below.refl _ _).setCell (by show w0.heap.size + 1 + 1 ≤ w0.heap.size + 1 + 1; omega) _
  refine ⟨grown_lowB (h.grown.trans hg) hb (by omega), hz, ?_, heap_set1 ho, hr.put61 ho (by decide) _, ?_, by rw [onR_kn]; exact h.knl, by rw [onR_ord]; exact h.ordl⟩
  · rw [hb.cell (p := ⟨w0.heap.size, 0, none⟩) (by show w0.heap.size < _; omega)]
    exact hg.cell h.ptr (by show some w0.heap.size ≠ some p; intro e; injection e with e; omega)
  · exact ((hn.kin (Kin.onR R) (.inr (onO_flag R))).put61 (by omega) _).mono hs
theorem OnW.later {R S : Rdr} {bv : Option Addr} {nv : Nat} {W' : World} (h : OnW w0 W p R S bv nv a1 c1 a2 c2 a3 c3) (hb : Below W.heap.size W W') : OnW w0 W' p R S bv nv a1 c1 a2 c2 a3 c3 := by
  have hs := h.size
  exact ⟨grown_below h.grown hb, Nat.le_trans hs hb.size, (hb.cell (p := ⟨w0.heap.size, 0, none⟩) (by show w0.heap.size < _; omega)).trans h.ptr, (hb.block _ (by omega)).trans h.out, h.rat.below hb, h.notes.below hb, h.knl, h.ordl⟩
theorem OnW.fails {R S : Rdr} {bv : Option Addr} {nv : Nat} {W' : World} (h : OnW w0 W p R S bv nv a1 c1 a2 c2 a3 c3) (hp : p < w0.heap.size) (hr : RAt W' p (S.fails 6) a1 c1 a2 c2 a3 c3) (hg : W.grownBy W' (some p)) : OnW w0 W' p R (S.fails 6) bv nv a1 c1 a2 c2 a3 c3 := by
  have hs := h.size
  exact ⟨h.grown.trans hg, Nat.le_trans hs hg.size, hg.cell h.ptr (by show some w0.heap.size ≠ some p; intro e; injection e with e; omega), (hg.block _ (by omega) (by intro e; injection e with e; omega)).trans h.out, hr, (h.notes.grown hg (by omega)).kin ⟨rfl, rfl, rfl, rfl, rfl, rfl⟩ (.inl rfl), h.knl, h.ordl⟩
theorem OnW.sends {R S : Rdr} {bv : Option Addr} {nv : Nat} (h : OnW w0 W p R S bv nv a1 c1 a2 c2 a3 c3) (v : Value) (hv : v = .slice bv R.onO.length nv) : SendsAt w0 p S a1 c1 a2 c2 S R.onO (.returned v) (W.setCell ⟨w0.heap.size + 1 + 1, 0, none⟩ v) := by
  subst hv
  exact ⟨_, rfl, (h.notes.put61 (by omega) _).mono (by omega), ⟨_, _, h.rat.put61 h.out (by decide) _⟩, grown_lowB h.grown ((Below.refl _ _).setCell (by show w0.heap.size ≤ w0.heap.size + 1 + 1; omega) _) (Nat.le_refl _)⟩
theorem getD_mapI (l : List Nat) (j : Nat) : ((l.getD j 0 : Nat) : Int) = (l.map (fun x : Nat => (x : Int))).getD j 0 := by
  rw [List.getD_eq_getElem?_getD, List.getD_eq_getElem?_getD, List.getElem?_map]
  cases l[j]? <;> rfl
theorem any_lackL : ∀ (l : List Nat) (n : Nat), ((l.map (fun x : Nat => (x : Int))).take n).any (fun x => x != 2) = !((l.take n).all (· == 2))
  | [], n => by simp
  | x :: l, 0 => by simp
  | x :: l, n + 1 => by
    have ih := any_lackL l n
    rw [List.map_cons, List.take_succ_cons, List.take_succ_cons, List.any_cons, List.all_cons, ih, Bool.not_and]
    congr 1
    by_cases h : x = 2
    · subst h; rfl
    · rw [beq_eq_false_iff_ne.2 h, bne, beq_eq_false_iff_ne.2 (by omega)]
theorem any_lack (S : Rdr) : ((S.kn.map (fun x : Nat => (x : Int))).take S.ord.length).any (fun x => x != 2) = !S.allLack := any_lackL _ _
set_option maxHeartbeats 4000000 in
set_option maxRecDepth 100000 in
theorem take_any (h : RAt w0 p R a1 c1 a2 c2 a3 c3) (ok : R.Ok) {N : Array Value} {kind frm who cn cb cc : Int} {yes : Bool} {id : List Nat} {A : Option Addr} {d : List Nat} {c : Nat} (hv : NoteV w0 N kind frm who cn cb cc yes id A d c) (hdl : d.length ≤ 5000) :
    Calls Try.prog 41 #[.pointer (some ⟨p, 0, none⟩), .agg N] w0 (SendsAt w0 p (R.takeR (R.mineB kind frm who cn cb cc id) frm yes d) a1 c1 a2 c2 (R.takeR (R.mineB kind frm who cn cb cc id) frm yes d) (R.takeO (R.mineB kind frm who cn cb cc id) frm yes d)) := by
  obtain ⟨m, hmm⟩ : ∃ x, R.mineB kind frm who cn cb cc id = x := ⟨_, rfl⟩
  have HM := Hf.mk hmm
  have HT := Hf.mk (takeW_start h N)
  have HV := Hf.mk hv
  have HOK := Hf.mk ok
  have HPL := Hf.mk h.lt
  clear hmm h hv ok
  go_enter Try.func41, Try.ntmps41
  go_upto_region 1 with fail
  generalize ((w0.alloc (.cells #[.pointer (some ⟨p, 0, none⟩)] 57)).alloc (.cells N 69)).alloc (.cells #[.slice none 0 0] 61) = W at *
  have qp := HT.out.ptr
  have HNN := Hf.mk (fun n => none_any p R.me (W.drewN n) ((HT.out.rat.below (below_drewN (Below.refl W.heap.size W) n)).cme) HOK.out.me1)
  go_cut [49] from 50 to 120 (fun v49 wx => v49 = .bool (!m) ∧ Hf (Below W.heap.size W wx))
  case first =>
    have qs := HT.out.rat.cst
    have qm := HT.out.rat.cme
    have n0 := (Go.Joins.cell_of_block HT.out.note 0).trans HV.out.n0
    have n2 := (Go.Joins.cell_of_block HT.out.note 2).trans HV.out.n2
    by_cases e1 : R.st = 1
    · rw [e1] at qs
      by_cases e2 : kind = 8
      · have hk : (kind == 8) = true := beq_iff_eq.2 e2
        have hk' : (kind != 8) = false := by rw [bne, hk]; rfl
        by_cases e3 : who = R.me
        · have hw : (who == R.me) = true := beq_iff_eq.2 e3
          have hw' : (who != R.me) = false := by rw [bne, hw]; rfl
          have n3 := (Go.Joins.cell_of_block HT.out.note 3).trans HV.out.n3
          have n4 := (Go.Joins.cell_of_block HT.out.note 4).trans HV.out.n4
          have n5 := (Go.Joins.cell_of_block HT.out.note 5).trans HV.out.n5
          have q3 := HT.out.rat.ccn
          have q4 := HT.out.rat.ccb
          have q5 := HT.out.rat.ccc
          by_cases e4 : (cn == R.cn && cb == R.cb && cc == R.cc) = true
          · have hc3 : (cn == R.cn && (cb == R.cb && cc == R.cc)) = true := by rw [← Bool.and_assoc]; exact e4
            have hneq := fun u => run_neq56 cn cb cc R.cn R.cb R.cc u
            rw [hc3] at hneq
            have HD : Hf (decide (id = R.id) = m) := ⟨by
              rw [← HM.out]; unfold Rdr.mineB
              rw [hk, hw, beq_iff_eq.2 e1]
              simp only [Bool.true_and]
              rw [e4, Bool.true_and]
              by_cases h : id = R.id <;> simp [h]⟩
            have hnq := fun u => run_neq_ids id R.id u HV.out.idl HOK.out.idl HV.out.idb HOK.out.idb
            rw [HD.out] at hnq
            have HC1 : Hf (∀ u, (∃ n, u = W.drewN n) → u.rangeAt (w0.heap.size + 1) 13 (cellsOf id)) := ⟨fun u hu => by
              obtain ⟨n, rfl⟩ := hu
              exact note_range HV.out (W := W.drewN n) HT.out.note⟩
            have HC2 : Hf (∀ u, (∃ n, u = W.drewN n) → u.rangeAt p 1 (cellsOf R.id)) := ⟨fun u hu => by
              obtain ⟨n, rfl⟩ := hu
              exact (HT.out.rat.below (below_drewN (Below.refl W.heap.size W) n)).cid HOK.out.idl⟩
            have HS1 : Hf ((Try.prog.info? 23).map (·.size) = some (cellsOf id).length) := ⟨by rw [cellsOf_length, HV.out.idl]; exact size23⟩
            have HS2 : Hf ((Try.prog.info? 23).map (·.size) = some (cellsOf R.id).length) := ⟨by rw [cellsOf_length, HOK.out.idl]; exact size23⟩
            generalize cellsOf id = cs at *
            generalize cellsOf R.id = ds at *
            have HE81 : Hf (∀ args u, (callFunc 81 args).run Try.prog u = .ok (.enter 81 args) u) := ⟨enters_of Try.func81 (by kernel_rfl) rfl⟩
            clear e1 e2 e3 e4 hc3
            refine wp_region_quiet (C := fun W' => ∃ n, W' = W.drewN n) (by kernel_rfl) (by kernel_rfl) ⟨1, rfl⟩ ?_
            simp only [List.toList_toArray]
            (go_big_quiet_want; go_big_quiet_op; first | go_big_quiet_on | (refine ⟨_, fun _ _ => rfl, ?_⟩; go_big_quiet_on))
            refine qstep_call (by rfl) 81 #[.tmp 9] #[57] rfl #[.pointer (some ⟨p, 0, none⟩)] (by simp [Act.eval, Act.put]) (.bool false) HE81.out (fun u hu => by obtain ⟨n, rfl⟩ := hu; exact (HNN.out n).mono fun e w'' h => ⟨h.1, n, h.2⟩) ?_
            (refine wpQuiet_step (fun K hK => ?_); go_simp; (first | refine ⟨_, fun _ _ => rfl, hK _ ?_⟩ | refine hK _ ?_); clear hK K)
            (go_big_quiet_want; go_big_quiet_op; first | go_big_quiet_on | (refine ⟨_, fun _ _ => rfl, ?_⟩; go_big_quiet_on))
            (go_big_quiet_want; go_big_quiet_op; first | go_big_quiet_on | (refine ⟨_, fun _ _ => rfl, ?_⟩; go_big_quiet_on))
            (go_big_quiet_want; go_big_quiet_op; first | go_big_quiet_on | (refine ⟨_, fun _ _ => rfl, ?_⟩; go_big_quiet_on))
            (go_big_quiet_want; go_big_quiet_op; first | go_big_quiet_on | (refine ⟨_, fun _ _ => rfl, ?_⟩; go_big_quiet_on))
            (go_big_quiet_want; go_big_quiet_op; first | go_big_quiet_on | (refine ⟨_, fun _ _ => rfl, ?_⟩; go_big_quiet_on))
            (go_big_quiet_want; go_big_quiet_op; first | go_big_quiet_on | (refine ⟨_, fun _ _ => rfl, ?_⟩; go_big_quiet_on))
            (go_big_quiet_want; go_big_quiet_op; first | go_big_quiet_on | (refine ⟨_, fun _ _ => rfl, ?_⟩; go_big_quiet_on))
            (go_big_quiet_want; go_big_quiet_op; first | go_big_quiet_on | (refine ⟨_, fun _ _ => rfl, ?_⟩; go_big_quiet_on))
            (go_big_quiet_want; go_big_quiet_op; first | go_big_quiet_on | (refine ⟨_, fun _ _ => rfl, ?_⟩; go_big_quiet_on))
            (go_big_quiet_want; go_big_quiet_op; first | go_big_quiet_on | (refine ⟨_, fun _ _ => rfl, ?_⟩; go_big_quiet_on))
            (go_big_quiet_want; go_big_quiet_op; first | go_big_quiet_on | (refine ⟨_, fun _ _ => rfl, ?_⟩; go_big_quiet_on))
            (go_big_quiet_want; go_big_quiet_op; first | go_big_quiet_on | (refine ⟨_, fun _ _ => rfl, ?_⟩; go_big_quiet_on))
            (go_big_quiet_want; go_big_quiet_op; first | go_big_quiet_on | (refine ⟨_, fun _ _ => rfl, ?_⟩; go_big_quiet_on))
            (go_big_quiet_want; go_big_quiet_op; first | go_big_quiet_on | (refine ⟨_, fun _ _ => rfl, ?_⟩; go_big_quiet_on))
            (go_big_quiet_want; go_big_quiet_op; first | go_big_quiet_on | (refine ⟨_, fun _ _ => rfl, ?_⟩; go_big_quiet_on))
            (go_big_quiet_want; go_big_quiet_op; first | go_big_quiet_on | (refine ⟨_, fun _ _ => rfl, ?_⟩; go_big_quiet_on))
            (go_big_quiet_want; go_big_quiet_op; first | go_big_quiet_on | (refine ⟨_, fun _ _ => rfl, ?_⟩; go_big_quiet_on))
            (go_big_quiet_want; go_big_quiet_op; first | go_big_quiet_on | (refine ⟨_, fun _ _ => rfl, ?_⟩; go_big_quiet_on))
            (go_big_quiet_want; go_big_quiet_op; first | go_big_quiet_on | (refine ⟨_, fun _ _ => rfl, ?_⟩; go_big_quiet_on))
            (go_big_quiet_want; go_big_quiet_op; first | go_big_quiet_on | (refine ⟨_, fun _ _ => rfl, ?_⟩; go_big_quiet_on))
            (go_big_quiet_want; go_big_quiet_op; first | go_big_quiet_on | (refine ⟨_, fun _ _ => rfl, ?_⟩; go_big_quiet_on))
            (go_big_quiet_want; go_big_quiet_op; first | go_big_quiet_on | (refine ⟨_, fun _ _ => rfl, ?_⟩; go_big_quiet_on))
            (go_big_quiet_want; go_big_quiet_op; first | go_big_quiet_on | (refine ⟨_, fun _ _ => rfl, ?_⟩; go_big_quiet_on))
            (go_big_quiet_want; go_big_quiet_op; first | go_big_quiet_on | (refine ⟨_, fun _ _ => rfl, ?_⟩; go_big_quiet_on))
            (go_big_quiet_want; go_big_quiet_op; first | go_big_quiet_on | (refine ⟨_, fun _ _ => rfl, ?_⟩; go_big_quiet_on))
            (go_big_quiet_want; go_big_quiet_op; first | go_big_quiet_on | (refine ⟨_, fun _ _ => rfl, ?_⟩; go_big_quiet_on))
            (go_big_quiet_want; go_big_quiet_op; first | go_big_quiet_on | (refine ⟨_, fun _ _ => rfl, ?_⟩; go_big_quiet_on))
            (go_big_quiet_want; go_big_quiet_op; first | go_big_quiet_on | (refine ⟨_, fun _ _ => rfl, ?_⟩; go_big_quiet_on))
            (go_big_quiet_want; go_big_quiet_op; first | go_big_quiet_on | (refine ⟨_, fun _ _ => rfl, ?_⟩; go_big_quiet_on))
            (go_big_quiet_want; go_big_quiet_op; first | go_big_quiet_on | (refine ⟨_, fun _ _ => rfl, ?_⟩; go_big_quiet_on))
            (go_big_quiet_want; go_big_quiet_op; first | go_big_quiet_on | (refine ⟨_, fun _ _ => rfl, ?_⟩; go_big_quiet_on))
            refine qstep_loadm (by rfl) 23 (.tmp 42) (by rfl) (w0.heap.size + 1) 13 (by rfl) cs _ HC1.out Try.underlying23 rfl HS1.out ?_
            (refine wpQuiet_step (fun K hK => ?_); go_simp; (first | refine ⟨_, fun _ _ => rfl, hK _ ?_⟩ | refine hK _ ?_); clear hK K)
            (go_big_quiet_want; go_big_quiet_op; first | go_big_quiet_on | (refine ⟨_, fun _ _ => rfl, ?_⟩; go_big_quiet_on))
            (go_big_quiet_want; go_big_quiet_op; first | go_big_quiet_on | (refine ⟨_, fun _ _ => rfl, ?_⟩; go_big_quiet_on))
            refine qstep_loadm (by rfl) 23 (.tmp 46) (by rfl) p 1 (by rfl) ds _ HC2.out Try.underlying23 rfl HS2.out ?_
            (refine wpQuiet_step (fun K hK => ?_); go_simp; (first | refine ⟨_, fun _ _ => rfl, hK _ ?_⟩ | refine hK _ ?_); clear hK K)
            (go_big_quiet_want; go_big_quiet_op; first | go_big_quiet_on | (refine ⟨_, fun _ _ => rfl, ?_⟩; go_big_quiet_on))
            refine wpQuiet_nil ?_
            rintro w2 ⟨n, rfl⟩
            go_wp2
            go_meet
            case rel => exact ⟨rfl, ⟨below_drewN (Below.refl _ _) _⟩⟩
          · have hc : (cn == R.cn && cb == R.cb && cc == R.cc) = false := by simpa using e4
            have HD : Hf (m = false) := ⟨by
              rw [← HM.out]; unfold Rdr.mineB
              rw [hk, hw, beq_iff_eq.2 e1]
              simp only [Bool.true_and]
              rw [hc]; rfl⟩
            obtain rfl := HD.out
            have hneq := fun u => run_neq56 cn cb cc R.cn R.cb R.cc u
            have hc3 : (cn == R.cn && (cb == R.cb && cc == R.cc)) = false := by rw [← Bool.and_assoc]; exact hc
            rw [hc3] at hneq
            clear e1 e2 e3 e4 hc hc3
            go_wp2_with go_quiet ((go_at_call 81; exact Calls.quiet_of_same (HNN.out _)))
            go_meet
            case rel => exact ⟨rfl, ⟨below_drewN (Below.refl _ _) _⟩⟩
        · have hw : (who == R.me) = false := beq_eq_false_iff_ne.2 e3
          have hw' : (who != R.me) = true := by rw [bne, hw]; rfl
          have HD : Hf (m = false) := ⟨by rw [← HM.out]; unfold Rdr.mineB; rw [hw]; simp⟩
          obtain rfl := HD.out
          clear e1 e2 e3
          go_wp2_with go_quiet ((go_at_call 81; exact Calls.quiet_of_same (HNN.out _)))
          go_meet
          case rel => exact ⟨rfl, ⟨below_drewN (Below.refl _ _) _⟩⟩
      · have hb : (kind == 8) = false := beq_eq_false_iff_ne.2 e2
        have hb' : (kind != 8) = true := by rw [bne, hb]; rfl
        have HD : Hf (m = false) := ⟨by rw [← HM.out]; unfold Rdr.mineB; rw [hb]; simp⟩
        obtain rfl := HD.out
        clear e2 e1
        go_wp2_with go_quiet ((go_at_call 81; exact Calls.quiet_of_same (HNN.out _)))
        go_meet
        case rel => exact ⟨rfl, ⟨below_drewN (Below.refl _ _) _⟩⟩
    · have hb : ((R.st : Int) == 1) = false := beq_eq_false_iff_ne.2 (by omega)
      have hb' : ((R.st : Int) != 1) = true := by rw [bne, hb]; rfl
      have HD : Hf (m = false) := ⟨by rw [← HM.out]; unfold Rdr.mineB; rw [beq_eq_false_iff_ne.2 e1]; simp⟩
      obtain rfl := HD.out
      clear e1
      go_wp2_with go_quiet ((go_at_call 81; exact Calls.quiet_of_same (HNN.out _)))
      go_meet
      case rel => exact ⟨rfl, ⟨below_drewN (Below.refl _ _) _⟩⟩
  case rest =>
    obtain ⟨rfl, HB⟩ := hcut
    have HTC := Hf.mk (HT.out.later HB.out)
    clear HB HT qp HNN
    cases m with
    | false =>
      have HE : Hf (R.takeO false frm yes d = [] ∧ R.takeR false frm yes d = R) := ⟨by unfold Rdr.takeO Rdr.takeR; rw [if_pos rfl, if_pos rfl]; exact ⟨rfl, rfl⟩⟩
      have o0 : wc.cell? ⟨w0.heap.size + 1 + 1, 0, none⟩ = some (.slice none 0 0) := by rw [Go.Joins.cell_of_block HTC.out.out]; rfl
      have of := Go.Joins.unfrozen_of_block HTC.out.out 0
      go_wp2
      refine bodyPost_ret (results_cell1 rfl _ _ (w0.heap.size + 1 + 1) (.slice none 0 0) rfl (by rw [Go.Joins.cell_of_block (heap_set1 HTC.out.out)]; rfl)) rfl ?_
      exact ⟨_, rfl, by rw [HM.out, HE.out.1]; exact NotesAt.nil _ _ _, by rw [HM.out, HE.out.2]; exact ⟨_, _, HTC.out.rat.put61 HTC.out.out (by decide) _⟩, grown_of_below _ (HTC.out.below.setCell (by show w0.heap.size ≤ w0.heap.size + 1 + 1; omega) _)⟩
    | true =>
      have HS1 : Hf (R.st = 1) := ⟨by
        have := HM.out
        unfold Rdr.mineB at this
        simp only [Bool.and_eq_true, beq_iff_eq] at this
        exact this.1.1.1.1.1.1⟩
      have HIX := Hf.mk (fun n => index2_any a1 R.ord c1 frm (wc.drewN n) (HTC.out.rat.ord.below (below_drewN (Below.refl wc.heap.size wc) n)) (by have := HOK.out.ordl; omega))
      have qo := HTC.out.rat.cord
      have n1 := (Go.Joins.cell_of_block HTC.out.note 1).trans HV.out.n1
      have q1 := HTC.out.ptr
      have HD2 := Hf.mk (fun n => HTC.out.later (below_drewN (Below.refl wc.heap.size wc) n))
      rcases placeI_cases R.ord frm with ⟨hj, _⟩ | ⟨j, hj, hjl, hjx⟩
      · have HE : Hf (R.takeO true frm yes d = [] ∧ R.takeR true frm yes d = R) := ⟨take_away hj⟩
        rw [hj] at HIX
        clear hj
        go_upto_region 4 with go_quiet ((go_at_call 85; exact Calls.quiet_of_same (HIX.out _)))
        generalize hw : wc.drewN _ = wd
        have HTD : Hf (TakeW w0 wd p R a1 c1 a2 c2 a3 c3 N) := ⟨by rw [← hw]; exact HD2.out _⟩
        clear hw HD2 HTC qo n1 q1 HIX
        have o0 : wd.cell? ⟨w0.heap.size + 1 + 1, 0, none⟩ = some (.slice none 0 0) := by rw [Go.Joins.cell_of_block HTD.out.out]; rfl
        have of := Go.Joins.unfrozen_of_block HTD.out.out 0
        go_wp2
        refine bodyPost_ret (results_cell1 rfl _ _ (w0.heap.size + 1 + 1) (.slice none 0 0) rfl (by rw [Go.Joins.cell_of_block (heap_set1 HTD.out.out)]; rfl)) rfl ?_
        exact ⟨_, rfl, by rw [HM.out, HE.out.1]; exact NotesAt.nil _ _ _, by rw [HM.out, HE.out.2]; exact ⟨_, _, HTD.out.rat.put61 HTD.out.out (by decide) _⟩, grown_of_below _ (HTD.out.below.setCell (by show w0.heap.size ≤ w0.heap.size + 1 + 1; omega) _)⟩
      · have hj64 : j < 64 := by have := HOK.out.ordl; omega
        have hj64' : (j : Int) < 64 := by omega
        have hj0 : (0 : Int) ≤ (j : Int) := Int.natCast_nonneg j
        rw [hj] at HIX
        have HJ := Hf.mk hj
        have HJL := Hf.mk hjl
        clear hj hjl hjx
        go_upto_region 4 with go_quiet ((go_at_call 85; exact Calls.quiet_of_same (HIX.out _)))
        generalize hw : wc.drewN _ = wd
        have HTD : Hf (TakeW w0 wd p R a1 c1 a2 c2 a3 c3 N) := ⟨by rw [← hw]; exact HD2.out _⟩
        clear hw HD2 HTC qo n1 q1 HIX
        have q1 := HTD.out.ptr
        have qk := HTD.out.rat.cknown hj64
        obtain ⟨x, hx⟩ : ∃ x, R.kn.getD j 0 = x := ⟨_, rfl⟩
        rw [hx] at qk
        have HX := Hf.mk hx
        clear hx
        by_cases hx1 : x = 1
        · subst hx1
          have q12 := (Go.Joins.cell_of_block HTD.out.note 12).trans HV.out.n12
          have q45 := (Go.Joins.cell_of_block HTD.out.note 45).trans HV.out.n45
          obtain ⟨eb, heb⟩ : ∃ x, (yes && decide (Sha.sum d = R.id)) = x := ⟨_, rfl⟩
          have HEB := Hf.mk heb
          clear heb
          have hxb : ((1 : Int) == 1) = true := rfl
          have hxb' : ((1 : Int) != 1) = false := rfl
          go_upto_region 7 with fail
          go_cut [80] from 81 to 120 (fun v80 wx => v80 = .bool eb ∧ Hf (TakeW w0 wx p R a1 c1 a2 c2 a3 c3 N))
          case first =>
            cases yes with
            | false =>
              have HD : Hf (eb = false) := ⟨by rw [← HEB.out]; rfl⟩
              obtain rfl := HD.out
              have HD2 := Hf.mk (fun n => HTD.out.later (below_drewN (Below.refl wd.heap.size wd) n))
              go_wp2_with go_quiet (fail)
              go_meet
              case rel => exact ⟨rfl, ⟨HD2.out _⟩⟩
            | true =>
              have HD : Hf (decide (Sha.sum d = R.id) = eb) := ⟨by rw [← HEB.out]; rfl⟩
              have heq := fun u => run_eql_ids (Sha.sum d) R.id u (Sha.sum_len _) HOK.out.idl (Sha.sum_lt _) HOK.out.idb
              rw [HD.out] at heq
              have HID : Hf (∀ u, Below wd.heap.size wd u → u.rangeAt p 1 (cellsOf R.id)) := ⟨fun u hu => (HTD.out.rat.below hu).cid HOK.out.idl⟩
              have HCS : Hf ((Try.prog.info? 23).map (·.size) = some (cellsOf R.id).length) := ⟨by rw [cellsOf_length, HOK.out.idl]; exact size23⟩
              have HSM : Hf (∀ u, Below wd.heap.size wd u → Calls Try.prog 38 #[.slice A d.length c] u fun e w' => e = .returned (.agg (cellsOf (Sha.sum d)).toArray) ∧ Below u.heap.size u w') := ⟨fun u hu => sum_any A c d u ((HV.out.dat.below HTD.out.below).below hu) (by omega)⟩
              have HL1 : Hf (∀ u, Below wd.heap.size wd u → (Instr.loadAt 4 (.pointer (some ⟨w0.heap.size + 1, 12, none⟩))).run Try.prog u = .ok (.bool true) u) := ⟨fun u hu => run_load_cell 4 Try.isAgg4 u _ _ _ ((Go.Joins.cell_of_block (HTD.out.later hu).note 12).trans HV.out.n12)⟩
              have HL2 : Hf (∀ u, Below wd.heap.size wd u → (Instr.loadAt 54 (.pointer (some ⟨w0.heap.size + 1, 45, none⟩))).run Try.prog u = .ok (.slice A d.length c) u) := ⟨fun u hu => run_load_cell 54 Try.isAgg54 u _ _ _ ((Go.Joins.cell_of_block (HTD.out.later hu).note 45).trans HV.out.n45)⟩
              have HL3 : Hf (∀ u, Below wd.heap.size wd u → (Instr.loadAt 57 (.pointer (some ⟨w0.heap.size, 0, none⟩))).run Try.prog u = .ok (.pointer (some ⟨p, 0, none⟩)) u) := ⟨fun u hu => run_load_cell 57 Try.isAgg57 u _ _ _ (HTD.out.later hu).ptr⟩
              generalize cellsOf R.id = cs at *
              generalize (cellsOf (Sha.sum d)).toArray = zd at *
              have HE38 : Hf (∀ args u, (callFunc 38 args).run Try.prog u = .ok (.enter 38 args) u) := ⟨enters_of Try.func38 (by kernel_rfl) rfl⟩
              refine wp_region_quiet (C := fun W' => Below wd.heap.size wd W') (by kernel_rfl) (by kernel_rfl) (Below.refl _ _).drew ?_
              simp only [List.toList_toArray]
              (go_big_quiet_want; go_big_quiet_op; first | go_big_quiet_on | (refine ⟨_, fun _ _ => rfl, ?_⟩; go_big_quiet_on))
              refine qstep_load1 (by rfl) 4 (.tmp 69) (by rfl) (w0.heap.size + 1) 12 (by rfl) _ HL1.out ?_
              (refine wpQuiet_step (fun K hK => ?_); go_simp; (first | refine ⟨_, fun _ _ => rfl, hK _ ?_⟩ | refine hK _ ?_); clear hK K)
              (go_big_quiet_want; go_big_quiet_op; first | go_big_quiet_on | (refine ⟨_, fun _ _ => rfl, ?_⟩; go_big_quiet_on))
              refine qstep_load1 (by rfl) 54 (.tmp 72) (by rfl) (w0.heap.size + 1) 45 (by rfl) _ HL2.out ?_
              refine qstep_call (by rfl) 38 #[.tmp 73] #[54] rfl #[.slice A d.length c] (by simp [Act.eval, Act.put]) (.agg zd) HE38.out (fun u hu => (HSM.out u hu).mono fun e w'' h => ⟨h.1, below_step hu h.2⟩) ?_
              refine qstep_load1 (by rfl) 57 (.tmp 2) (by rfl) w0.heap.size 0 (by rfl) _ HL3.out ?_
              (refine wpQuiet_step (fun K hK => ?_); go_simp; (first | refine ⟨_, fun _ _ => rfl, hK _ ?_⟩ | refine hK _ ?_); clear hK K)
              (go_big_quiet_want; go_big_quiet_op; first | go_big_quiet_on | (refine ⟨_, fun _ _ => rfl, ?_⟩; go_big_quiet_on))
              refine qstep_loadm (by rfl) 23 (.tmp 77) (by rfl) p 1 (by rfl) cs _ HID.out Try.underlying23 rfl HCS.out ?_
              (refine wpQuiet_step (fun K hK => ?_); go_simp; (first | refine ⟨_, fun _ _ => rfl, hK _ ?_⟩ | refine hK _ ?_); clear hK K)
              (go_big_quiet_want; go_big_quiet_op; first | go_big_quiet_on | (refine ⟨_, fun _ _ => rfl, ?_⟩; go_big_quiet_on))
              refine wpQuiet_nil ?_
              intro w2 hW2
              have HW2 := Hf.mk (HTD.out.later hW2)
              clear hW2
              go_wp2
              go_meet
              case rel => exact ⟨rfl, HW2⟩
          case rest =>
            obtain ⟨rfl, HTX⟩ := hcut
            clear HTD q1 qk q12 q45
            cases eb with
            | true =>
              have hE := HEB.out
              have HH : Hf (yes = true ∧ Sha.sum d = R.id) := ⟨by simpa using hE⟩
              clear hE
              have HE : Hf (R.takeO true frm yes d = R.hints ∧ R.takeR true frm yes d = R.gets d) := ⟨take_gets HJ.out HX.out HH.out⟩
              have HGT := Hf.mk (gets_any HTX.out.rat A c d (HV.out.dat.below HTX.out.below) (by omega))
              have HOG := Hf.mk (ok_gets HOK.out HS1.out HH.out.2 hdl)
              have q1 := HTX.out.ptr
              have q45 := (Go.Joins.cell_of_block HTX.out.note 45).trans HV.out.n45
              have hpl : p < w0.heap.size := HPL.out
              go_upto_region 9 with (go_at_call 82; (with_reducible refine HGT.out.mono ?_); rintro e w3 ⟨rfl, ⟨b3, d3, hr3⟩, hg3⟩; have HR3 := Hf.mk hr3; have HG3 := Hf.mk hg3; clear hr3 hg3)
              have HHI : Hf (R.hints = hintsK (R.gets d) (R.gets d).homes.length) := ⟨(hintsK_all (R.gets d)).symm⟩
              have HHL := Hf.mk (fun k (h : k < (R.gets d).homes.length) => hintsK_succ (R.gets d) h)
              have HHN := Hf.mk (hintsK_len (R.gets d))
              generalize R.gets d = T at *
              have q3 : w3.cell? ⟨w0.heap.size, 0, none⟩ = some (.pointer (some ⟨p, 0, none⟩)) := HG3.out.cell HTX.out.ptr (by show some w0.heap.size ≠ some p; intro e; injection e with e; omega)
              have HQ3 := Hf.mk q3
              have HO3 : Hf (w3.heap[w0.heap.size + 1 + 1]? = some (.cells #[.slice none 0 0] 61 (0, 0))) := ⟨(HG3.out.block _ (by have := HTX.out.size; omega) (by intro e; injection e with e; omega)).trans HTX.out.out⟩
              have HSZ3 : Hf (w0.heap.size + 3 ≤ w3.heap.size) := ⟨Nat.le_trans HTX.out.size HG3.out.size⟩
              have HG0 : Hf (w0.grownBy w3 (some p)) := ⟨(grown_of_below _ HTX.out.below).trans HG3.out⟩
              have qh := HR3.out.chom
              have hhl : T.homes.length ≤ 64 := HOG.out.homl
              clear q1 q45
              go_wp2
              go_loopw [90] (fun i wr => ∃ k v, k ≤ T.homes.length ∧ i = .int .i64 k ∧ Hf (wr.heap[w0.heap.size + 1 + 1]? = some (.cells #[v] 61 (0, 0))) ∧ Hf (NotesAt wr (w0.heap.size + 3) v T (hintsK T k)) ∧ Hf (RAt wr p T a1 c1 a2 c2 b3 d3) ∧ Hf (Below (w0.heap.size + 1 + 1) w3 wr)) (fun i _ => T.homes.length - (intOf i).toNat)
              case atStart => exact ⟨0, .slice none 0 0, by omega, rfl, HO3, ⟨NotesAt.nil _ _ _⟩, HR3, ⟨Below.refl _ _⟩⟩
              case round =>
                obtain ⟨k, v, hk, rfl, HOW, HNW, HRW, HBW⟩ := hrel
                by_cases hgo : k < T.homes.length
                · have hgo2 : (k : Int) < (T.homes.length : Int) := by omega
                  obtain ⟨b, off, rfl, hb, hc⟩ := HRW.out.hom.form (by omega)
                  have q0 := hc k hgo
                  have HSC := Hf.mk (HHL.out k hgo)
                  have HIN : Hf (T.homes.getD k 0 ∈ T.ord) := ⟨HOG.out.hom _ (by rw [List.getD_eq_getElem?_getD, List.getElem?_eq_getElem hgo]; exact List.getElem_mem hgo)⟩
                  have HNL : Hf ((hintsK T k).length ≤ 1000) := ⟨by have := HHN.out k (by omega); omega⟩
                  generalize T.homes.getD k 0 = x at *
                  have HHT := Hf.mk (hint_any HRW.out HOG.out x HIN.out w0.heap.size (w0.heap.size + 1 + 1) (w0.heap.size + 3) v (hintsK T k) ((HBW.out.cell (p := ⟨w0.heap.size, 0, none⟩) (by show w0.heap.size < _; omega)).trans HQ3.out) HOW.out (by omega) (by omega) (Nat.le_trans HSZ3.out HBW.out.size) HNW.out HNL.out (by omega))
                  clear hc hb
                  go_wp2_with (go_at_call 86; (with_reducible refine HHT.out.mono ?_); rintro e w4 ⟨rfl, v4, ho4, hn4, hr4, hb4⟩; have HO4 := Hf.mk ho4; have HN4 := Hf.mk hn4; have HR4 := Hf.mk hr4; have HB4 := Hf.mk (HBW.out.trans hb4); clear ho4 hn4 hr4 hb4)
                  go_roundw
                  case rel => exact ⟨k + 1, v4, by omega, by go_num, HO4, ⟨by rw [HSC.out]; exact HN4.out⟩, HR4, HB4⟩
                  case measure => simp [intOf]; omega
                · have hke : k = T.homes.length := by omega
                  subst hke
                  obtain ⟨bv, nv, rfl, hfv, hcv⟩ := HNW.out.form
                  clear hfv hcv q3 qh
                  have o0 : wr.cell? ⟨w0.heap.size + 1 + 1, 0, none⟩ = some (.slice bv (hintsK T T.homes.length).length nv) := by rw [Go.Joins.cell_of_block HOW.out]; rfl
                  have of := Go.Joins.unfrozen_of_block HOW.out 0
                  go_wp2
                  refine bodyPost_ret (results_cell1 rfl _ _ (w0.heap.size + 1 + 1) _ rfl (by rw [Go.Joins.cell_of_block (heap_set1 HOW.out)]; rfl)) rfl ?_
                  exact ⟨_, rfl, by rw [HM.out, HE.out.1, HE.out.2, HHI.out]; exact (HNW.out.put61 (by omega) _).mono (by omega), by rw [HM.out, HE.out.2]; exact ⟨_, _, HRW.out.put61 HOW.out (by decide) _⟩, grown_lowB HG0.out ((HBW.out.mono (by omega)).setCell (by show w0.heap.size ≤ w0.heap.size + 1 + 1; omega) _) (Nat.le_refl _)⟩
            | false =>
              have hE := HEB.out
              have HH : Hf (¬ (yes = true ∧ Sha.sum d = R.id)) := ⟨by simpa using hE⟩
              clear hE
              have HE := Hf.mk (take_lacks HJ.out HX.out HH.out)
              have HW2 := Hf.mk (lack_world HTX.out HOK.out HPL.out hj64)
              have q1 := HTX.out.ptr
              have qf := HTX.out.rat.free (43 + j)
              have qk := HTX.out.rat.cknown hj64
              go_upto_region 16 with fail
              generalize hws : wc.setCell _ _ = w2
              have HL2 : Hf (LackW w0 w2 p (R.lackR j) a1 c1 a2 c2 a3 c3) := ⟨by rw [← hws]; exact HW2.out⟩
              clear hws HW2 q1 qf qk HTX
              have q1 := HL2.out.ptr
              have HON := Hf.mk (on_any HL2.out.rat HL2.out.idl HL2.out.knl HL2.out.ordl)
              go_upto_region 17 with (go_at_call 83; (with_reducible refine HON.out.mono ?_); rintro e w3 ⟨v, rfl, _, hn3, hr3, hg3⟩; obtain ⟨bv, nv, rfl, _, _⟩ := hn3.form; have HO3 := Hf.mk ((hg3.block (w0.heap.size + 1 + 1) (by have := HL2.out.size; omega) (by intro e; injection e with e; have := HPL.out; omega)).trans HL2.out.out); have of := Go.Joins.unfrozen_of_block HO3.out 0; have o3 : w3.cell? ⟨w0.heap.size + 1 + 1, 0, none⟩ = some (.slice none 0 0) := (by rw [Go.Joins.cell_of_block HO3.out]; rfl); have HL3 := Hf.mk (on_world HL2.out HPL.out HO3.out hn3 hr3 hg3); clear hn3 hr3 hg3)
              generalize hws : w3.setCell _ _ = w4
              have HL4 : Hf (OnW w0 w4 p (R.lackR j) (R.lackR j).onR bv nv a1 c1 a2 c2 a3 c3) := ⟨by rw [← hws]; exact HL3.out⟩
              clear hws HL3 of o3 HO3 HON HL2 q1
              have HBZ := Hf.mk HL4.out.size
              generalize hOO : (R.lackR j).onO = os at *
              generalize hRR : (R.lackR j).onR = S at *
              have HOO := Hf.mk hOO
              clear hOO hRR
              have q1 := HL4.out.ptr
              have qo := HL4.out.rat.cord
              have hsl : S.ord.length ≤ 64 := HL4.out.ordl
              have hsl' : (S.ord.length : Int) ≤ 64 := by omega
              have HCK := Hf.mk (fun n => containsK_any p 43 S.ord.length 64 (S.kn.map (fun x : Nat => (x : Int))) (w4.drewN n) (by rw [List.length_map, HL4.out.knl]; exact hsl) (by omega) (fun j hj => by
                rw [List.length_map, HL4.out.knl] at hj
                rw [(HL4.out.rat.below (below_drewN (Below.refl w4.heap.size w4) n)).cknown hj, getD_mapI]))
              have HCK2 : Hf (∀ n, Calls Try.prog 87 #[.slice (some ⟨p, 43, none⟩) S.ord.length 64, .func (.func 88) #[] #[]] (w4.drewN n) fun e w' => e = .returned (.bool (!S.allLack)) ∧ ∃ q, w' = (w4.drewN n).drewN q) := ⟨fun n => by have := HCK.out n; rw [any_lack S] at this; exact this⟩
              clear HCK
              obtain ⟨al, hal⟩ : ∃ x, S.allLack = x := ⟨_, rfl⟩
              rw [hal] at HE HCK2
              clear hal
              have HD2 := Hf.mk (fun n => HL4.out.later (below_drewN (Below.refl w4.heap.size w4) n))
              cases al with
              | true =>
                have HE2 : Hf (R.takeO true frm yes d = os ∧ R.takeR true frm yes d = S.fails 6) := ⟨HE.out.1, by rw [HE.out.2, if_pos rfl]⟩
                clear HE
                go_upto_region 18 with go_quiet ((go_at_call 87; exact Calls.quiet_of (HCK2.out _)))
                generalize hws : w4.drewN _ = w5
                have HL5 : Hf (OnW w0 w5 p (R.lackR j) S bv nv a1 c1 a2 c2 a3 c3) := ⟨by rw [← hws]; exact HD2.out _⟩
                clear hws HD2 HL4 q1 qo HCK2 HBZ
                have q1 := HL5.out.ptr
                have HFL := Hf.mk (fails_any HL5.out.rat 6)
                go_upto_region 19 with (go_at_call 84; (with_reducible refine HFL.out.mono ?_); rintro e w6 ⟨rfl, hr6, hg6⟩; have HL6 := Hf.mk (HL5.out.fails HPL.out hr6 hg6); clear hr6 hg6)
                have o0 : w6.cell? ⟨w0.heap.size + 1 + 1, 0, none⟩ = some (.slice bv (R.lackR j).onO.length nv) := by rw [Go.Joins.cell_of_block HL6.out.out]; rfl
                have of := Go.Joins.unfrozen_of_block HL6.out.out 0
                rw [HOO.out] at o0
                clear q1 HFL HL5
                go_wp2
                refine bodyPost_ret (results_cell1 rfl _ _ (w0.heap.size + 1 + 1) _ rfl (by rw [Go.Joins.cell_of_block (heap_set1 HL6.out.out)]; rfl)) rfl ?_
                have := HL6.out.sends (.slice bv os.length nv) (by rw [HOO.out])
                rw [HM.out, HE2.out.1, HE2.out.2]
                rw [HOO.out] at this
                exact this
              | false =>
                have HE2 : Hf (R.takeO true frm yes d = os ∧ R.takeR true frm yes d = S) := ⟨HE.out.1, by rw [HE.out.2, if_neg (by decide)]⟩
                clear HE
                go_upto_region 19 with go_quiet ((go_at_call 87; exact Calls.quiet_of (HCK2.out _)))
                generalize hws : w4.drewN _ = w5
                have HL6 : Hf (OnW w0 w5 p (R.lackR j) S bv nv a1 c1 a2 c2 a3 c3) := ⟨by rw [← hws]; exact HD2.out _⟩
                clear hws HD2 HL4 q1 qo HCK2 HBZ
                have o0 : w5.cell? ⟨w0.heap.size + 1 + 1, 0, none⟩ = some (.slice bv (R.lackR j).onO.length nv) := by rw [Go.Joins.cell_of_block HL6.out.out]; rfl
                have of := Go.Joins.unfrozen_of_block HL6.out.out 0
                rw [HOO.out] at o0
                go_wp2
                refine bodyPost_ret (results_cell1 rfl _ _ (w0.heap.size + 1 + 1) _ rfl (by rw [Go.Joins.cell_of_block (heap_set1 HL6.out.out)]; rfl)) rfl ?_
                have := HL6.out.sends (.slice bv os.length nv) (by rw [HOO.out])
                rw [HM.out, HE2.out.1, HE2.out.2]
                rw [HOO.out] at this
                exact this
        · have HE : Hf (R.takeO true frm yes d = [] ∧ R.takeR true frm yes d = R) := ⟨take_was HJ.out (by rw [HX.out]; exact hx1)⟩
          have hxb : ((x : Int) == 1) = false := beq_eq_false_iff_ne.2 (by omega)
          have hxb' : ((x : Int) != 1) = true := by rw [bne, hxb]; rfl
          clear hx1
          have o0 : wd.cell? ⟨w0.heap.size + 1 + 1, 0, none⟩ = some (.slice none 0 0) := by rw [Go.Joins.cell_of_block HTD.out.out]; rfl
          have of := Go.Joins.unfrozen_of_block HTD.out.out 0
          go_wp2
          refine bodyPost_ret (results_cell1 rfl _ _ (w0.heap.size + 1 + 1) (.slice none 0 0) rfl (by rw [Go.Joins.cell_of_block (heap_set1 HTD.out.out)]; rfl)) rfl ?_
          exact ⟨_, rfl, by rw [HM.out, HE.out.1]; exact NotesAt.nil _ _ _, by rw [HM.out, HE.out.2]; exact ⟨_, _, HTD.out.rat.put61 HTD.out.out (by decide) _⟩, grown_of_below _ (HTD.out.below.setCell (by show w0.heap.size ≤ w0.heap.size + 1 + 1; omega) _)⟩
end
end Go.Proofs.Ytaaepadhapfkoaa
