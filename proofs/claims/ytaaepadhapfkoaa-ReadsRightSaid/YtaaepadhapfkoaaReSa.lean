/-
  Reads: what ReadsRight is handed: calls and what a read is made of, opened.
  Reads: calls that are long; a call's note.
  Reads: a call's note (note).
  Reads: what holds of a read holds behind every call: a plain law.
  Reads: the calls of a read, whatever its state; what holds of a read from call to call.
-/
import Derived.Test.YtaaepadhapfkoaaDgW
import Derived.Test.YtaaepadhapfkoaaRdN
import Derived.Deep.Slices
import Derived.ChangeSame
import Derived.ChangeSlices
import Derived.Deep.Strs
import Derived.WalkKit
import Derived.Test.YtaaepadhapfkoaaRdR
import Derived.Test.YtaaepadhapfkoaaRdL
import Derived.Test.YtaaepadhapfkoaaRdU
namespace Go.Proofs.Ytaaepadhapfkoaa
set_option linter.unusedSimpArgs false
set_option linter.unusedVariables false

section
open Go.RowKit Go.Deep Go.ChangeShapes Go.WideShapes

/-- a note's fields that are read -/
structure Nt where
  kind : Int
  frm : Int
  who : Int
  cn : Int
  cb : Int
  cc : Int
  yes : Bool
  id : List Nat
  d : List Nat
/-- a call -/
structure Ac where
  kind : Int
  b : List Nat
  has : Bool
  x : Nt
  mine : Bool
def zNt : Nt := ⟨0, 0, 0, 0, 0, 0, false, [], []⟩
def zAc : Ac := ⟨0, [], false, zNt, false⟩
/-- a note's cells -/
def NtF (w : World) (N : List Value) (q : Nt) : Prop :=
  ∃ A c iA il ic wA wl wc, NoteV w N.toArray q.kind q.frm q.who q.cn q.cb q.cc q.yes q.id A q.d c ∧ N[46]? = some (.slice iA il ic) ∧ N[47]? = some (.slice wA wl wc) ∧ ∀ v ∈ N, v.oneCell' = true
/-- a call's cells -/
def acC (q : Ac) (bA : Option Addr) (bc : Nat) (N : List Value) : List Value := .int .i64 q.kind :: .slice bA q.b.length bc :: .bool q.has :: (N ++ [.bool q.mine])
def AcF (w : World) (cs : List Value) (q : Ac) : Prop :=
  ∃ bA bc N, cs = acC q bA bc N ∧ Given w bA bc q.b ∧ NtF w N q.x
theorem NoteV.below {w w' : World} {N : Array Value} {kind frm who cn cb cc : Int} {yes : Bool} {id : List Nat} {A : Option Addr} {d : List Nat} {c : Nat} (h : NoteV w N kind frm who cn cb cc yes id A d c) (hb : Below w.heap.size w w') : NoteV w' N kind frm who cn cb cc yes id A d c :=
  ⟨h.size, h.n0, h.n1, h.n2, h.n3, h.n4, h.n5, h.n12, h.idl, h.idb, h.nid, h.n45, h.dat.below hb⟩
theorem NtF.below {w w' : World} {N : List Value} {q : Nt} (h : NtF w N q) (hb : Below w.heap.size w w') : NtF w' N q := by
  obtain ⟨A, c, iA, il, ic, wA, wl, wc, h1, h2⟩ := h
  exact ⟨A, c, iA, il, ic, wA, wl, wc, h1.below hb, h2⟩
theorem NtF.len {w : World} {N : List Value} {q : Nt} (h : NtF w N q) : N.length = 48 := by
  obtain ⟨A, c, iA, il, ic, wA, wl, wc, h1, h2⟩ := h
  simpa using h1.size
theorem AcF.below {w w' : World} {cs : List Value} {q : Ac} (h : AcF w cs q) (hb : Below w.heap.size w w') : AcF w' cs q := by
  obtain ⟨bA, bc, N, e, h1, h2⟩ := h
  exact ⟨bA, bc, N, e, h1.below hb, h2.below hb⟩
/-- a slice of calls that came in -/
def IsActs (w : World) (a : Option Addr) (len cap : Nat) (xs : List Ac) : Prop :=
  xs.length = len ∧ len ≤ 9223372036854775807 ∧ ∀ i, i < len → ∃ b off, a = some ⟨b, off, none⟩ ∧ b < w.heap.size ∧ ∃ cs, AcF w cs (xs.getD i zAc) ∧ ∀ j u, cs[j]? = some u → w.cell? ⟨b, off + i * 52 + j, none⟩ = some u
theorem IsActs.below {w w' : World} {a : Option Addr} {len cap : Nat} {xs : List Ac} (h : IsActs w a len cap xs) (hb : Below w.heap.size w w') : IsActs w' a len cap xs :=
  ⟨h.1, h.2.1, fun i hi => by
    obtain ⟨b, off, e, hlt, cs, h1, h2⟩ := h.2.2 i hi
    exact ⟨b, off, e, Nat.lt_of_lt_of_le hlt hb.size, cs, h1.below hb, fun j u hu => (hb.cell (p := ⟨b, off + i * 52 + j, none⟩) hlt).trans (h2 j u hu)⟩⟩
section
variable {H : Type} {enc : TypeId × Value → H} {w : World} {base : Nat} {spare : Nat → Bool} {held : Bool}
theorem trod_bytes54 {fuel : Nat} {cs : List Value} {x : DataW H × List MemPlace} (h : DataW.trod enc Try.prog w base spare held fuel 54 cs = some x) :
    ∃ A c l, cs = [.slice A l.length c] ∧ Given w A c l := by
  rcases open_ints Try.underlying54 Try.underlying5 (by kernel_rfl) h with ⟨rfl, _⟩ | ⟨a, len, cap, zs, rfl, _, hl, hm, hz, _, hc, hw⟩
  · exact ⟨none, 0, [], rfl, given_nil w⟩
  · unfold maxLen at hm
    have hzl : len ≤ zs.length := by rw [hz]; split <;> omega
    have hlen : ((zs.take len).map Int.toNat).length = len := by rw [List.length_map, List.length_take]; omega
    refine ⟨some a, cap, (zs.take len).map Int.toNat, by rw [hlen], ⟨⟨fun x hx => ?_, fun i hi => ?_⟩, by omega, by omega, fun e => by cases e⟩⟩
    · obtain ⟨n, hn, rfl⟩ := List.mem_map.1 hx
      have := bounds_u8 (hw n (List.mem_of_mem_take hn))
      omega
    · rw [hlen] at hi
      obtain ⟨b, off, rfl, hcell⟩ := ints_at hc (by omega)
      have h1 := hcell i (by omega)
      refine ⟨b, off, rfl, World.block_lt_of_cell? w ⟨b, off + i, none⟩ h1, ?_⟩
      rw [h1]
      have h2 := bounds_u8 (hw (zs.getD i 0) (by rw [List.getD_eq_getElem?_getD, List.getElem?_eq_getElem (show i < zs.length by omega)]; exact List.getElem_mem _))
      have e : ((zs.take len).map Int.toNat).getD i 0 = (zs.getD i 0).toNat := by
        rw [List.getD_eq_getElem?_getD, List.getElem?_map, List.getElem?_take, if_pos hi, List.getD_eq_getElem?_getD, List.getElem?_eq_getElem (show i < zs.length by omega)]; rfl
      rw [e, Int.toNat_of_nonneg h2.1]
theorem part_at {cs l : List Value} {o n : Nat} (h : (cs.drop o).take n = l) {j : Nat} (hj : j < n) : cs[o + j]? = l[j]? := by
  rw [← h, List.getElem?_take, if_pos hj, List.getElem?_drop]
theorem one_at {cs : List Value} {o : Nat} {v : Value} (h : (cs.drop o).take 1 = [v]) : cs[o]? = some v := part_at h (j := 0) (by decide)
theorem part_one {cs l : List Value} {o n : Nat} (h : (cs.drop o).take n = l) (hl : ∀ v ∈ l, v.oneCell' = true) {j : Nat} (h1 : o ≤ j) (h2 : j < o + n) {v : Value} (hv : cs[j]? = some v) : v.oneCell' = true := by
  have := part_at h (j := j - o) (by omega)
  rw [show o + (j - o) = j by omega, hv] at this
  exact hl v (List.mem_of_getElem? this.symm)
theorem trod_sliceF {t e : TypeId} {fuel : Nat} {cs : List Value} {x : DataW H × List MemPlace} (ht : Try.prog.underlying t = some (.slice e)) (h : DataW.trod enc Try.prog w base spare held fuel t cs = some x) : ∃ A l c, cs = [.slice A l c] := by
  rcases DataW.trod_slice ht h with ⟨rfl, _⟩ | ⟨a, len, cap, _, _, _, _, rfl, _⟩
  · exact ⟨_, _, _, rfl⟩
  · exact ⟨_, _, _, rfl⟩
theorem c3' : Try.prog.cellsOf 3 = 1 := by kernel_rfl
theorem c4' : Try.prog.cellsOf 4 = 1 := by kernel_rfl
theorem c23' : Try.prog.cellsOf 23 = 32 := by kernel_rfl
theorem c54' : Try.prog.cellsOf 54 = 1 := by kernel_rfl
theorem c56' : Try.prog.cellsOf 56 = 3 := by kernel_rfl
theorem c65' : Try.prog.cellsOf 65 = 2 := by kernel_rfl
theorem c66' : Try.prog.cellsOf 66 = 1 := by kernel_rfl
theorem c67' : Try.prog.cellsOf 67 = 1 := by kernel_rfl
theorem c69' : Try.prog.cellsOf 69 = 48 := by kernel_rfl
theorem c85' : Try.prog.cellsOf 85 = 52 := by kernel_rfl
theorem c81' : Try.prog.cellsOf 81 = 41 := by kernel_rfl
theorem fld {fs : Array Field} {cs : List Value} {xs : List (DataW H × List MemPlace)} {n : Nat} (hf : ∀ (i : Nat) (f : Field), fs[i]? = some f → DataW.trod enc Try.prog w base spare held n f.type ((cs.drop f.offset).take (Try.prog.cellsOf f.type)) = xs[i]?) (i : Nat) {f : Field} (h : fs[i]? = some f) {T o k : Nat} (hT : f.type = T) (ho : f.offset = o) (hk : Try.prog.cellsOf T = k) {y : DataW H × List MemPlace} (hy : xs[i]? = some y) : DataW.trod enc Try.prog w base spare held n T ((cs.drop o).take k) = some y := by
  subst hT ho hk
  rw [← hy]
  exact hf i f h
theorem trod_int3 {fuel : Nat} {cs : List Value} {x : DataW H × List MemPlace} (h : DataW.trod enc Try.prog w base spare held fuel 3 cs = some x) : ∃ n, cs = [.int .i64 n] := by
  obtain ⟨n, e, _⟩ := DataW.trod_int Try.underlying3 h
  exact ⟨n, e⟩
theorem trod_call {fuel : Nat} {cs : List Value} {x : DataW H × List MemPlace} (h : DataW.trod enc Try.prog w base spare held fuel 56 cs = some x) : ∃ a b c, cs = [.int .i64 a, .int .i64 b, .int .i64 c] := by
  obtain ⟨xs, n, _, _, hlen, hxl, hf⟩ := DataW.trod_struct Try.underlying56 h
  rw [c56'] at hlen
  have hl : xs.length = 3 := hxl
  obtain ⟨y0, e0⟩ : ∃ y, xs[0]? = some y := ⟨_, List.getElem?_eq_getElem (by omega)⟩
  obtain ⟨y1, e1⟩ : ∃ y, xs[1]? = some y := ⟨_, List.getElem?_eq_getElem (by omega)⟩
  obtain ⟨y2, e2⟩ : ∃ y, xs[2]? = some y := ⟨_, List.getElem?_eq_getElem (by omega)⟩
  obtain ⟨a, ha⟩ := trod_int3 (fld hf 0 rfl (T := 3) (o := 0) rfl rfl c3' e0)
  obtain ⟨b, hb⟩ := trod_int3 (fld hf 1 rfl (T := 3) (o := 1) rfl rfl c3' e1)
  obtain ⟨c, hc⟩ := trod_int3 (fld hf 2 rfl (T := 3) (o := 2) rfl rfl c3' e2)
  refine ⟨a, b, c, List.ext_getElem? fun j => ?_⟩
  match j with
  | 0 => exact one_at ha
  | 1 => exact one_at hb
  | 2 => exact one_at hc
  | j + 3 => rw [List.getElem?_eq_none (by omega)]; rfl
theorem trod_ballot {fuel : Nat} {cs : List Value} {x : DataW H × List MemPlace} (h : DataW.trod enc Try.prog w base spare held fuel 65 cs = some x) : ∃ a b, cs = [.int .i64 a, .int .i64 b] := by
  obtain ⟨xs, n, _, _, hlen, hxl, hf⟩ := DataW.trod_struct Try.underlying65 h
  rw [c65'] at hlen
  have hl : xs.length = 2 := hxl
  obtain ⟨y0, e0⟩ : ∃ y, xs[0]? = some y := ⟨_, List.getElem?_eq_getElem (by omega)⟩
  obtain ⟨y1, e1⟩ : ∃ y, xs[1]? = some y := ⟨_, List.getElem?_eq_getElem (by omega)⟩
  obtain ⟨a, ha⟩ := trod_int3 (fld hf 0 rfl (T := 3) (o := 0) rfl rfl c3' e0)
  obtain ⟨b, hb⟩ := trod_int3 (fld hf 1 rfl (T := 3) (o := 1) rfl rfl c3' e1)
  refine ⟨a, b, List.ext_getElem? fun j => ?_⟩
  match j with
  | 0 => exact one_at ha
  | 1 => exact one_at hb
  | j + 2 => rw [List.getElem?_eq_none (by omega)]; rfl
theorem trod_note {fuel : Nat} {cs : List Value} {x : DataW H × List MemPlace} (h : DataW.trod enc Try.prog w base spare held fuel 69 cs = some x) : ∃ q : Nt, NtF w cs q := by
  obtain ⟨xs, n, _, _, hlen, hxl, hf⟩ := DataW.trod_struct Try.underlying69 h
  rw [c69'] at hlen
  have hl : xs.length = 13 := hxl
  have he : ∀ i, i < 13 → ∃ y, xs[i]? = some y := fun i hi => ⟨_, List.getElem?_eq_getElem (by omega)⟩
  obtain ⟨y0, e0⟩ := he 0 (by decide)
  obtain ⟨y1, e1⟩ := he 1 (by decide)
  obtain ⟨y2, e2⟩ := he 2 (by decide)
  obtain ⟨y3, e3⟩ := he 3 (by decide)
  obtain ⟨y4, e4⟩ := he 4 (by decide)
  obtain ⟨y5, e5⟩ := he 5 (by decide)
  obtain ⟨y6, e6⟩ := he 6 (by decide)
  obtain ⟨y7, e7⟩ := he 7 (by decide)
  obtain ⟨y8, e8⟩ := he 8 (by decide)
  obtain ⟨y9, e9⟩ := he 9 (by decide)
  obtain ⟨y10, e10⟩ := he 10 (by decide)
  obtain ⟨y11, e11⟩ := he 11 (by decide)
  obtain ⟨y12, e12⟩ := he 12 (by decide)
  obtain ⟨kind, h0⟩ := trod_int3 (fld hf 0 rfl (T := 3) (o := 0) rfl rfl c3' e0)
  obtain ⟨frm, h1⟩ := trod_int3 (fld hf 1 rfl (T := 3) (o := 1) rfl rfl c3' e1)
  obtain ⟨who, h2⟩ := trod_int3 (fld hf 2 rfl (T := 3) (o := 2) rfl rfl c3' e2)
  obtain ⟨cn, cb, cc, h3⟩ := trod_call (fld hf 3 rfl (T := 56) (o := 3) rfl rfl c56' e3)
  obtain ⟨st, h4⟩ := trod_int3 (fld hf 4 rfl (T := 3) (o := 6) rfl rfl c3' e4)
  obtain ⟨hm, h5⟩ := trod_int3 (fld hf 5 rfl (T := 3) (o := 7) rfl rfl c3' e5)
  obtain ⟨b1, b2, h6⟩ := trod_ballot (fld hf 6 rfl (T := 65) (o := 8) rfl rfl c65' e6)
  obtain ⟨b3, b4, h7⟩ := trod_ballot (fld hf 7 rfl (T := 65) (o := 10) rfl rfl c65' e7)
  obtain ⟨yes, h8, _⟩ := DataW.trod_bool Try.underlying4 (fld hf 8 rfl (T := 4) (o := 12) rfl rfl c4' e8)
  obtain ⟨id, h9, hi1, hi2⟩ := trod_id (fld hf 9 rfl (T := 23) (o := 13) rfl rfl c23' e9)
  obtain ⟨A, c, d, h10, hg⟩ := trod_bytes54 (fld hf 10 rfl (T := 54) (o := 45) rfl rfl c54' e10)
  obtain ⟨iA, il, ic, h11⟩ := trod_sliceF Try.underlying66 (fld hf 11 rfl (T := 66) (o := 46) rfl rfl c66' e11)
  obtain ⟨wA, wl, wc, h12⟩ := trod_sliceF Try.underlying67 (fld hf 12 rfl (T := 67) (o := 47) rfl rfl c67' e12)
  have ta : ∀ j, cs.toArray[j]? = cs[j]? := fun j => List.getElem?_toArray
  refine ⟨⟨kind, frm, who, cn, cb, cc, yes, id, d⟩, A, c, iA, il, ic, wA, wl, wc, ⟨by simpa using hlen, by rw [ta]; exact one_at h0, by rw [ta]; exact one_at h1, by rw [ta]; exact one_at h2, by rw [ta]; exact part_at h3 (j := 0) (by decide), by rw [ta]; exact part_at h3 (j := 1) (by decide), by rw [ta]; exact part_at h3 (j := 2) (by decide), by rw [ta]; exact one_at h8, hi1, hi2, fun j hj => ?_, by rw [ta]; exact one_at h10, hg⟩, one_at h11, one_at h12, fun v hv => ?_⟩
  · rw [ta, part_at h9 (j := j) hj]
    unfold cellsOf
    rw [List.getElem?_map, List.getD_eq_getElem?_getD, List.getElem?_eq_getElem (by omega)]
    rfl
  · obtain ⟨j, hj, rfl⟩ := List.mem_iff_getElem.1 hv
    have hj2 : cs[j]? = some cs[j] := List.getElem?_eq_getElem hj
    rw [hlen] at hj
    have hc : j < 1 ∨ (1 ≤ j ∧ j < 2) ∨ (2 ≤ j ∧ j < 3) ∨ (3 ≤ j ∧ j < 6) ∨ (6 ≤ j ∧ j < 7) ∨ (7 ≤ j ∧ j < 8) ∨ (8 ≤ j ∧ j < 10) ∨ (10 ≤ j ∧ j < 12) ∨ (12 ≤ j ∧ j < 13) ∨ (13 ≤ j ∧ j < 45) ∨ (45 ≤ j ∧ j < 46) ∨ (46 ≤ j ∧ j < 47) ∨ (47 ≤ j ∧ j < 48) := by omega
    rcases hc with k | ⟨k1, k2⟩ | ⟨k1, k2⟩ | ⟨k1, k2⟩ | ⟨k1, k2⟩ | ⟨k1, k2⟩ | ⟨k1, k2⟩ | ⟨k1, k2⟩ | ⟨k1, k2⟩ | ⟨k1, k2⟩ | ⟨k1, k2⟩ | ⟨k1, k2⟩ | ⟨k1, k2⟩
    · exact part_one h0 (by simp [Value.oneCell']) (Nat.zero_le j) (by omega) hj2
    · exact part_one h1 (by simp [Value.oneCell']) k1 (by omega) hj2
    · exact part_one h2 (by simp [Value.oneCell']) k1 (by omega) hj2
    · exact part_one h3 (by simp [Value.oneCell']) k1 (by omega) hj2
    · exact part_one h4 (by simp [Value.oneCell']) k1 (by omega) hj2
    · exact part_one h5 (by simp [Value.oneCell']) k1 (by omega) hj2
    · exact part_one h6 (by simp [Value.oneCell']) k1 (by omega) hj2
    · exact part_one h7 (by simp [Value.oneCell']) k1 (by omega) hj2
    · exact part_one h8 (by simp [Value.oneCell']) k1 (by omega) hj2
    · exact part_one h9 (cellsOf_one _) k1 (by omega) hj2
    · exact part_one h10 (by simp [Value.oneCell']) k1 (by omega) hj2
    · exact part_one h11 (by simp [Value.oneCell']) k1 (by omega) hj2
    · exact part_one h12 (by simp [Value.oneCell']) k1 (by omega) hj2
theorem trod_act {fuel : Nat} {cs : List Value} {x : DataW H × List MemPlace} (h : DataW.trod enc Try.prog w base spare held fuel 85 cs = some x) : ∃ q : Ac, AcF w cs q := by
  obtain ⟨xs, n, _, _, hlen, hxl, hf⟩ := DataW.trod_struct Try.underlying85 h
  rw [c85'] at hlen
  have hl : xs.length = 5 := hxl
  have he : ∀ i, i < 5 → ∃ y, xs[i]? = some y := fun i hi => ⟨_, List.getElem?_eq_getElem (by omega)⟩
  obtain ⟨y0, e0⟩ := he 0 (by decide)
  obtain ⟨y1, e1⟩ := he 1 (by decide)
  obtain ⟨y2, e2⟩ := he 2 (by decide)
  obtain ⟨y3, e3⟩ := he 3 (by decide)
  obtain ⟨y4, e4⟩ := he 4 (by decide)
  obtain ⟨kind, h0⟩ := trod_int3 (fld hf 0 rfl (T := 3) (o := 0) rfl rfl c3' e0)
  obtain ⟨A, c, b, h1, hg⟩ := trod_bytes54 (fld hf 1 rfl (T := 54) (o := 1) rfl rfl c54' e1)
  obtain ⟨has, h2, _⟩ := DataW.trod_bool Try.underlying4 (fld hf 2 rfl (T := 4) (o := 2) rfl rfl c4' e2)
  obtain ⟨q, h3⟩ := trod_note (fld hf 3 rfl (T := 69) (o := 3) rfl rfl c69' e3)
  obtain ⟨mine, h4, _⟩ := DataW.trod_bool Try.underlying4 (fld hf 4 rfl (T := 4) (o := 51) rfl rfl c4' e4)
  refine ⟨⟨kind, b, has, q, mine⟩, A, c, (cs.drop 3).take 48, ?_, hg, h3⟩
  refine List.ext_getElem? fun j => ?_
  unfold acC
  match j with
  | 0 => exact one_at h0
  | 1 => exact one_at h1
  | 2 => exact one_at h2
  | j + 3 =>
    rw [List.getElem?_cons_succ, List.getElem?_cons_succ, List.getElem?_cons_succ, List.getElem?_append]
    have hn : ((cs.drop 3).take 48).length = 48 := by rw [List.length_take, List.length_drop]; omega
    rw [hn]
    by_cases hj : j < 48
    · rw [if_pos hj, List.getElem?_take, if_pos hj, List.getElem?_drop, Nat.add_comm 3 j]
    · rw [if_neg hj]
      by_cases e : j = 48
      · subst e; exact one_at h4
      · rw [List.getElem?_eq_none (by omega), List.getElem?_eq_none (by simp; omega)]
theorem open_acts {t : TypeId} {fuel : Nat} {a : Option Addr} {len cap : Nat} {x : DataW H × List MemPlace} (ht : Try.prog.underlying t = some (.slice 85))
    (h : DataW.trod enc Try.prog w base spare held fuel t [.slice a len cap] = some x) : ∃ xs : List Ac, IsActs w a len cap xs := by
  rcases open_slice ht h with ⟨h0, _⟩ | ⟨ad, len', cap', m, n, D, Pl, e, hb, hl, hm, hmm, rfl, hx⟩
  · simp only [List.cons.injEq, Value.slice.injEq, and_true] at h0
    obtain ⟨rfl, rfl, rfl⟩ := h0
    exact ⟨[], rfl, by omega, fun i h => absurd h (by omega)⟩
  · simp only [List.cons.injEq, Value.slice.injEq, and_true] at e
    obtain ⟨rfl, rfl, rfl⟩ := e
    have hlm : len ≤ m := by rw [hmm]; split <;> omega
    have each : ∀ i, i < len → ∃ q : Ac, ∃ b off, ad = ⟨b, off, none⟩ ∧ b < w.heap.size ∧ ∃ cs, AcF w cs q ∧ ∀ j u, cs[j]? = some u → w.cell? ⟨b, off + i * 52 + j, none⟩ = some u := by
      intro i hi
      obtain ⟨cs', h1, h2⟩ := hx i (by omega)
      rw [c85'] at h1
      obtain ⟨_, hlen, hcell⟩ := World.cells?_some h1
      obtain ⟨q, hq⟩ := trod_act h2
      obtain ⟨b, off, spot⟩ := ad
      have hc : ∀ j u, cs'[j]? = some u → w.cell? ((⟨b, off, spot⟩ : Addr).add (i * 52 + j)) = some u := fun j u hu => by
        have hj : j < 52 := by have := (List.getElem?_eq_some_iff.1 hu).1; omega
        have := hcell j hj
        rw [Deep.add_add] at this
        rw [this]; exact hu
      have hspot : spot = none := by
        obtain ⟨cs0, k1, k2⟩ := hx 0 (by omega)
        rw [c85'] at k1
        obtain ⟨_, klen, kcell⟩ := World.cells?_some k1
        have k0 := kcell 0 (by omega)
        rw [List.getElem?_eq_getElem (show 0 < cs0.length by omega)] at k0
        simpa [Addr.add] using World.cell?_spot k0
      subst hspot
      have hc2 : ∀ j u, cs'[j]? = some u → w.cell? ⟨b, off + i * 52 + j, none⟩ = some u := fun j u hu => by
        have := hc j u hu
        rw [Go.WideShapes.add_plain] at this
        rwa [Nat.add_assoc]
      have h0 : cs'[0]? = some cs'[0] := List.getElem?_eq_getElem (by omega)
      exact ⟨q, b, off, rfl, World.block_lt_of_cell? w ⟨b, off + i * 52 + 0, none⟩ (hc2 0 _ h0), cs', hq, hc2⟩
    haveI : Inhabited Ac := ⟨zAc⟩
    obtain ⟨X, hX⟩ := choose_lt each
    have hlen : ((List.range len).map X).length = len := by simp
    refine ⟨(List.range len).map X, hlen, by simp only [maxLen] at hm; omega, fun j hj => ?_⟩
    have hg : ((List.range len).map X).getD j zAc = X j := by
      rw [List.getD_eq_getElem?_getD, List.getElem?_map, List.getElem?_range hj]; rfl
    rw [hg]
    obtain ⟨b, off, e, h⟩ := hX j hj
    exact ⟨b, off, by rw [e], h⟩
/-- what a read is made of -/
structure Bg where
  set : Int
  id : List Nat
  me : Int
  nodes : Int
  copies : Int
  cn : Int
  cb : Int
  cc : Int
  retry : Int
  pat : Int
def Bg.cells (b : Bg) : List Value := .int .i64 b.set :: (cellsOf b.id ++ [.int .i64 b.me, .int .i64 b.nodes, .int .i64 b.copies, .int .i64 b.cn, .int .i64 b.cb, .int .i64 b.cc, .int .i64 b.retry, .int .i64 b.pat])
set_option maxRecDepth 100000 in
theorem open_begin {r : Reach} {b0 : Nat} {v : Value} {d : DataW H} {p : List MemPlace} (hv : Value.okWide Try.prog w r b0 81 v) (h : DataW.Trod enc Try.prog w base spare held 81 v d p) :
    ∃ b : Bg, v = .agg b.cells.toArray ∧ b.id.length = 32 ∧ ∀ x ∈ b.id, x < 256 := by
  obtain ⟨cs, rfl, hsz⟩ := okWide_struct Try.underlying81 hv
  obtain ⟨fuel, hf⟩ := h
  obtain ⟨xs, n, _, _, hlen, hxl, hf⟩ := DataW.trod_struct Try.underlying81 hf
  have hcs : (Value.agg cs).cells.toList = cs.toList := rfl
  rw [hcs] at hlen hf
  generalize hz : cs.toList = zs at *
  rw [c81'] at hlen
  have hl : xs.length = 8 := hxl
  have he : ∀ i, i < 8 → ∃ y, xs[i]? = some y := fun i hi => ⟨_, List.getElem?_eq_getElem (by omega)⟩
  obtain ⟨y0, e0⟩ := he 0 (by decide)
  obtain ⟨y1, e1⟩ := he 1 (by decide)
  obtain ⟨y2, e2⟩ := he 2 (by decide)
  obtain ⟨y3, e3⟩ := he 3 (by decide)
  obtain ⟨y4, e4⟩ := he 4 (by decide)
  obtain ⟨y5, e5⟩ := he 5 (by decide)
  obtain ⟨y6, e6⟩ := he 6 (by decide)
  obtain ⟨y7, e7⟩ := he 7 (by decide)
  obtain ⟨set, h0⟩ := trod_int3 (fld hf 0 rfl (T := 3) (o := 0) rfl rfl c3' e0)
  obtain ⟨id, h1, hi1, hi2⟩ := trod_id (fld hf 1 rfl (T := 23) (o := 1) rfl rfl c23' e1)
  obtain ⟨me, h2⟩ := trod_int3 (fld hf 2 rfl (T := 3) (o := 33) rfl rfl c3' e2)
  obtain ⟨nodes, h3⟩ := trod_int3 (fld hf 3 rfl (T := 3) (o := 34) rfl rfl c3' e3)
  obtain ⟨copies, h4⟩ := trod_int3 (fld hf 4 rfl (T := 3) (o := 35) rfl rfl c3' e4)
  obtain ⟨cn, cb, cc, h5⟩ := trod_call (fld hf 5 rfl (T := 56) (o := 36) rfl rfl c56' e5)
  obtain ⟨retry, h6⟩ := trod_int3 (fld hf 6 rfl (T := 3) (o := 39) rfl rfl c3' e6)
  obtain ⟨pat, h7⟩ := trod_int3 (fld hf 7 rfl (T := 3) (o := 40) rfl rfl c3' e7)
  refine ⟨⟨set, id, me, nodes, copies, cn, cb, cc, retry, pat⟩, ?_, hi1, hi2⟩
  congr 1
  apply Array.ext'
  rw [hz]
  show zs = Bg.cells _
  refine List.ext_getElem? fun j => ?_
  unfold Bg.cells
  cases j with
  | zero => exact one_at h0
  | succ j =>
    rw [List.getElem?_cons_succ, List.getElem?_append, cellsOf_length]
    simp only
    rw [hi1]
    by_cases hj : j < 32
    · rw [if_pos hj, Nat.add_comm]; exact part_at h1 hj
    · rw [if_neg hj]
      have hc : j = 32 ∨ j = 33 ∨ j = 34 ∨ j = 35 ∨ j = 36 ∨ j = 37 ∨ j = 38 ∨ j = 39 ∨ 40 ≤ j := by omega
      rcases hc with rfl | rfl | rfl | rfl | rfl | rfl | rfl | rfl | hj
      · exact one_at h2
      · exact one_at h3
      · exact one_at h4
      · exact part_at h5 (j := 0) (by decide)
      · exact part_at h5 (j := 1) (by decide)
      · exact part_at h5 (j := 2) (by decide)
      · exact one_at h6
      · exact one_at h7
      · rw [List.getElem?_eq_none (by omega), List.getElem?_eq_none (by simp; omega)]
end
end
section
open Go.RowKit

theorem NtF.range {w : World} {N : List Value} {g : Nat} {t : TypeId} {fr : Nat × Nat} (h : w.heap[g]? = some (.cells N.toArray t fr)) (j : Nat) : w.cell? ⟨g, j, none⟩ = N[j]? := by
  rw [Go.Joins.cell_of_block h]; exact List.getElem?_toArray
/-- a truth, and what it tells -/
def BoolAns (w : World) (P : Bool → Prop) (e : Ending) (w' : World) : Prop := ∃ r, e = .returned (.bool r) ∧ P r ∧ Below w.heap.size w w'
def LongN (q : Nt) (r : Bool) : Prop := r = false → q.d.length ≤ 4100
def LongA (xs : List Ac) (len : Nat) (r : Bool) : Prop := r = false → len ≤ 100 ∧ ∀ i, i < len → (xs.getD i zAc).b.length ≤ 300 ∧ (xs.getD i zAc).x.d.length ≤ 4100
set_option maxHeartbeats 1000000 in
theorem longNote_any (N : List Value) (q : Nt) (w : World) (h : NtF w N q) :
    Calls Try.prog 92 #[.agg N.toArray] w (BoolAns w (LongN q)) := by
  obtain ⟨A, c, iA, il, ic, wA, wl, wc, hv, h46, h47, h1⟩ := h
  have hb := heap_alloc_new w (.cells N.toArray 69)
  have c45 := (NtF.range hb 45).trans (by have := hv.n45; simpa using this)
  have c46 := (NtF.range hb 46).trans h46
  have c47 := (NtF.range hb 47).trans h47
  have HB : Hf (Below w.heap.size w (w.alloc (.cells N.toArray 69))) := ⟨(Below.refl _ _).alloc (Nat.le_refl _) _⟩
  clear hb hv h46 h47 h1
  go_enter Try.func92, Try.ntmps92
  go_upto_region 1 with fail
  generalize w.alloc (.cells N.toArray 69) = W at *
  by_cases k1 : q.d.length ≤ 4100
  · have k1' : ¬ (4100 : Int) < (q.d.length : Int) := by omega
    have HK := Hf.mk k1
    by_cases k2 : il ≤ 100
    · have k2' : ¬ (100 : Int) < (il : Int) := by omega
      by_cases k3 : wl ≤ 100
      · have k3' : ¬ (100 : Int) < (wl : Int) := by omega
        go_wp2
        go_ret
        exact ⟨_, rfl, fun _ => HK.out, HB.out⟩
      · have k3' : (100 : Int) < (wl : Int) := by omega
        go_wp2
        go_ret
        exact ⟨_, rfl, fun _ => HK.out, HB.out⟩
    · have k2' : (100 : Int) < (il : Int) := by omega
      go_wp2
      go_ret
      exact ⟨_, rfl, fun _ => HK.out, HB.out⟩
  · have k1' : (4100 : Int) < (q.d.length : Int) := by omega
    go_wp2
    go_ret
    exact ⟨_, rfl, fun h => (by cases h), HB.out⟩
/-- a call's cells, one by one -/
theorem acC_get {q : Ac} {bA : Option Addr} {bc : Nat} {N : List Value} (hN : N.length = 48) : (acC q bA bc N)[0]? = some (.int .i64 q.kind) ∧ (acC q bA bc N)[1]? = some (.slice bA q.b.length bc) ∧ (acC q bA bc N)[2]? = some (.bool q.has) ∧ (∀ j, j < 48 → (acC q bA bc N)[3 + j]? = N[j]?) ∧ (acC q bA bc N)[51]? = some (.bool q.mine) := by
  refine ⟨rfl, rfl, rfl, fun j hj => ?_, ?_⟩
  · rw [Nat.add_comm]
    unfold acC
    rw [List.getElem?_cons_succ, List.getElem?_cons_succ, List.getElem?_cons_succ, List.getElem?_append_left (by omega)]
  · unfold acC
    rw [List.getElem?_cons_succ, List.getElem?_cons_succ, List.getElem?_cons_succ, List.getElem?_append_right (by omega), hN]
    rfl
/-- a call of a row, opened -/
theorem IsActs.at {w : World} {a : Option Addr} {len cap : Nat} {xs : List Ac} (h : IsActs w a len cap xs) {i : Nat} (hi : i < len) :
    ∃ b o bA bc N, a = some ⟨b, o, none⟩ ∧ b < w.heap.size ∧ w.cell? ⟨b, o + i * 52, none⟩ = some (.int .i64 (xs.getD i zAc).kind) ∧ w.cell? ⟨b, o + i * 52 + 1, none⟩ = some (.slice bA (xs.getD i zAc).b.length bc) ∧ w.cell? ⟨b, o + i * 52 + 2, none⟩ = some (.bool (xs.getD i zAc).has) ∧ w.rangeAt b (o + i * 52 + 3) N ∧
      w.rangeAt b (o + i * 52) (acC (xs.getD i zAc) bA bc N) ∧ Given w bA bc (xs.getD i zAc).b ∧ NtF w N (xs.getD i zAc).x := by
  obtain ⟨b, off, e, hlt, cs, ⟨bA, bc, N, rfl, h1, h2⟩, hc⟩ := h.2.2 i hi
  obtain ⟨g0, g1, g2, g3, _⟩ := acC_get (q := xs.getD i zAc) (bA := bA) (bc := bc) h2.len
  refine ⟨b, off, bA, bc, N, e, hlt, hc 0 _ g0, hc 1 _ g1, hc 2 _ g2, fun j v hv => ?_, fun j v hv => hc j v hv, h1, h2⟩
  have hj : j < 48 := by have := (List.getElem?_eq_some_iff.1 hv).1; rw [h2.len] at this; exact this
  have := hc (3 + j) v (by rw [g3 j hj]; exact hv)
  rwa [show off + i * 52 + 3 + j = off + i * 52 + (3 + j) by omega]
set_option maxHeartbeats 1000000 in
theorem long_any (a : Option Addr) (len cap : Nat) (xs : List Ac) (w : World) (h : IsActs w a len cap xs) :
    Calls Try.prog 48 #[.slice a len cap] w (BoolAns w (LongA xs len)) := by
  have HA := Hf.mk h
  have hl := h.2.1
  clear h
  go_enter Try.func48, Try.ntmps48
  go_wp2
  go_loopw [3] (fun i wr => ∃ k : Nat, k ≤ len ∧ k ≤ 101 ∧ i = .int .i64 k ∧ Hf (Below w.heap.size w wr) ∧ Hf (∀ i, i < k → (xs.getD i zAc).b.length ≤ 300 ∧ (xs.getD i zAc).x.d.length ≤ 4100)) (fun i _ => 101 - (intOf i).toNat)
  case atStart => exact ⟨0, by omega, by omega, rfl, ⟨Below.refl _ _⟩, ⟨fun i hi => absurd hi (Nat.not_lt_zero i)⟩⟩
  case round =>
    obtain ⟨k, hk, hk2, rfl, HB, HO⟩ := hrel
    by_cases hgo : k < len
    · have hgo2 : (k : Int) < (len : Int) := by omega
      by_cases hgo3 : k < 101
      · have hgo4 : (k : Int) < 101 := by omega
        obtain ⟨b, o, bA, bc, N, rfl, hlt, c0, c1, c2, hr, _, hg, hn⟩ := (HA.out.below HB.out).at hgo
        have HR := Hf.mk hr
        have HLN := Hf.mk (fun u (hb : Below wr.heap.size wr u) => longNote_any N (xs.getD k zAc).x u (hn.below hb))
        have HZ : Hf ((Try.prog.info? 69).map (·.size) = some N.length) := ⟨by rw [hn.len]; exact size69⟩
        have HST := Hf.mk (fun (h1 : (xs.getD k zAc).b.length ≤ 300) (h2 : (xs.getD k zAc).x.d.length ≤ 4100) => (fun i (hi : i < k + 1) => if e : i = k then by subst e; exact ⟨h1, h2⟩ else HO.out i (by omega) : ∀ i, i < k + 1 → (xs.getD i zAc).b.length ≤ 300 ∧ (xs.getD i zAc).x.d.length ≤ 4100))
        generalize (xs.getD k zAc).b.length = bl at *
        clear hr hn hg c0 c2
        by_cases hbl : bl ≤ 300
        · have hbl' : ¬ (300 : Int) < (bl : Int) := by omega
          have HBL := Hf.mk hbl
          go_wp2_with (first
            | (refine wpList_load_midW (by rfl) 69 (.tmp 25) (by rfl) b (o + k * 52 + 3) (by first | rfl | (simp; done)) N _ HR.out Try.underlying69 rfl HZ.out ?_)
            | (go_at_call 92; (with_reducible refine (HLN.out _ (Below.refl _ _)).mono ?_); rintro e w1 ⟨r, rfl, hrf, hb1⟩; have HRF := Hf.mk hrf; have HB1 := Hf.mk hb1; clear hrf hb1))
          · go_ret
            exact ⟨_, rfl, fun h => (by cases h), below_step HB.out HB1.out⟩
          · go_roundw
            case rel => exact ⟨k + 1, by omega, by omega, by go_num, ⟨below_step HB.out HB1.out⟩, ⟨HST.out HBL.out (HRF.out (by assumption))⟩⟩
            case measure => simp [intOf]; omega
        · have hbl' : (300 : Int) < (bl : Int) := by omega
          go_wp2
          go_ret
          exact ⟨_, rfl, fun h => (by cases h), HB.out⟩
      · obtain rfl : k = 101 := by omega
        go_wp2
        go_ret
        exact ⟨_, rfl, fun h => by have := of_decide_eq_false h; omega, HB.out⟩
    · obtain rfl : k = len := by omega
      go_wp2
      go_ret
      exact ⟨_, rfl, fun h => ⟨by have := of_decide_eq_false h; omega, HO.out⟩, HB.out⟩
end
section
open Go.RowKit

/-- a block of a type, place by place -/
def Blk (t : TypeId) (n : Nat) (w : World) (p : Nat) (f : Nat → Value) : Prop := ∃ cs : Array Value, w.heap[p]? = some (.cells cs t (0, 0)) ∧ cs.size = n ∧ ∀ i, i < n → cs[i]? = some (f i)
section
variable {t : TypeId} {n : Nat} {w w' : World} {p : Nat} {f g : Nat → Value}
theorem Blk.of {N : List Value} (h : w.heap[p]? = some (.cells N.toArray t (0, 0))) (hn : N.length = n) : Blk t n w p (fun i => N.getD i undef) :=
  ⟨_, h, by simpa using hn, fun i hi => by
    rw [List.getElem?_toArray]
    show _ = some (N.getD i undef)
    rw [List.getD_eq_getElem?_getD, List.getElem?_eq_getElem (show i < N.length by omega)]; rfl⟩
theorem Blk.cell (h : Blk t n w p f) {i : Nat} (hi : i < n) : w.cell? ⟨p, i, none⟩ = some (f i) := by
  obtain ⟨cs, h1, _, h3⟩ := h
  rw [Go.Joins.cell_of_block h1, h3 i hi]
theorem Blk.lt (h : Blk t n w p f) : p < w.heap.size := by
  obtain ⟨cs, h1, _⟩ := h
  exact (Array.getElem?_eq_some_iff.1 h1).1
theorem Blk.free (h : Blk t n w p f) (i : Nat) : w.frozen? ⟨p, i, none⟩ = false := by
  obtain ⟨cs, h1, _⟩ := h
  exact Go.Joins.unfrozen_of_block h1 i
theorem Blk.keep (h : Blk t n w p f) (hk : w'.heap[p]? = w.heap[p]?) : Blk t n w' p f := by
  obtain ⟨cs, h1, h2⟩ := h
  exact ⟨cs, hk.trans h1, h2⟩
theorem Blk.congr (h : Blk t n w p f) (hf : ∀ i, i < n → f i = g i) : Blk t n w p g := by
  obtain ⟨cs, h1, h2, h3⟩ := h
  exact ⟨cs, h1, h2, fun i hi => (h3 i hi).trans (by rw [hf i hi])⟩
theorem Blk.put (h : Blk t n w p f) {j : Nat} (hj : j < n) (v : Value) : Blk t n (w.setCell ⟨p, j, none⟩ v) p (fun i => if i = j then v else f i) := by
  obtain ⟨cs, h1, h2, h3⟩ := h
  refine ⟨_, Go.Joins.block_setCell h1 v, by rw [Array.size_setIfInBounds]; exact h2, fun i hi => ?_⟩
  rw [Array.getElem?_setIfInBounds]
  by_cases e : j = i
  · subst e
    rw [if_pos rfl, if_pos (by rw [h2]; exact hj)]
    show some v = some (if j = j then v else f j)
    rw [if_pos rfl]
  · rw [if_neg e]
    show cs[i]? = some (if i = j then v else f i)
    rw [if_neg (fun e' => e e'.symm), h3 i hi]
theorem Blk.puts : ∀ (vs : List Value) (o : Nat) (w : World) (f : Nat → Value), Blk t n w p f → o + vs.length ≤ n → Blk t n (w.setCells p o vs) p (fun i => if o ≤ i ∧ i < o + vs.length then vs.getD (i - o) undef else f i)
  | [], o, w, f, h, _ => h.congr fun i _ => by rw [if_neg (by simp)]
  | v :: vs, o, w, f, h, hl => by
    have hl : o + (vs.length + 1) ≤ n := hl
    rw [World.setCells]
    refine (Blk.puts vs (o + 1) _ _ (h.put (j := o) (by omega) v) (by omega)).congr fun i hi => ?_
    by_cases h1 : i = o
    · subst h1
      rw [if_neg (by omega), if_pos rfl, if_pos ⟨Nat.le_refl _, by simp⟩, Nat.sub_self]; rfl
    · by_cases h2 : o + 1 ≤ i ∧ i < o + 1 + vs.length
      · rw [if_pos h2, if_pos ⟨by omega, by rw [List.length_cons]; omega⟩, show i - o = (i - (o + 1)) + 1 by omega]; rfl
      · rw [if_neg h2, if_neg h1, if_neg (by rw [List.length_cons]; omega)]
theorem Blk.there (h : Blk t n w p f) {o k : Nat} (hk : o + k ≤ n) : w.there p o k := fun i hi => ⟨by rw [h.cell (by omega)]; rfl, h.free _⟩
theorem setCells_other : ∀ (vs : List Value) (o : Nat) (w : World) (b q : Nat), q ≠ b → (w.setCells b o vs).heap[q]? = w.heap[q]?
  | [], _, _, _, _, _ => rfl
  | v :: vs, o, w, b, q, hq => by
    rw [World.setCells, setCells_other vs (o + 1) _ b q hq, Below.heap_setCell _ ⟨b, o, none⟩ _ q hq]
theorem below_setCells : ∀ (vs : List Value) (o : Nat) (w0 w : World) (B b : Nat), Below B w0 w → B ≤ b → Below B w0 (w.setCells b o vs)
  | [], _, _, _, _, _, h, _ => h
  | v :: vs, o, w0, w, B, b, h, hb => by
    rw [World.setCells]
    exact below_setCells vs (o + 1) w0 _ B b (h.setCell hb v) hb
end
/-- the note of a call -/
def noteQ (q : Ac) (b : Bg) : Nt := if q.mine then ⟨8, q.x.frm, b.me, b.cn, b.cb, b.cc, q.x.yes, b.id, q.x.d⟩ else q.x
theorem bg_get {b : Bg} (h : b.id.length = 32) : b.cells[33]? = some (.int .i64 b.me) ∧ b.cells[36]? = some (.int .i64 b.cn) ∧ b.cells[37]? = some (.int .i64 b.cb) ∧ b.cells[38]? = some (.int .i64 b.cc) ∧ (∀ j v, (cellsOf b.id)[j]? = some v → b.cells[1 + j]? = some v) := by
  have hc : ∀ j, 32 ≤ j → b.cells[j + 1]? = ([.int .i64 b.me, .int .i64 b.nodes, .int .i64 b.copies, .int .i64 b.cn, .int .i64 b.cb, .int .i64 b.cc, .int .i64 b.retry, .int .i64 b.pat] : List Value)[j - 32]? := fun j hj => by
    unfold Bg.cells
    rw [List.getElem?_cons_succ, List.getElem?_append_right (by rw [cellsOf_length, h]; exact hj), cellsOf_length, h]
  refine ⟨hc 32 (by decide), hc 35 (by decide), hc 36 (by decide), hc 37 (by decide), fun j v hv => ?_⟩
  have hj : j < 32 := by have := (List.getElem?_eq_some_iff.1 hv).1; rwa [cellsOf_length, h] at this
  unfold Bg.cells
  rw [Nat.add_comm, List.getElem?_cons_succ, List.getElem?_append_left (by rw [cellsOf_length, h]; exact hj)]
  exact hv
/-- the note while it is written -/
structure NS (w V : World) (bs z : List Value) (g5 : Nat) (f : Nat → Value) : Prop where
  s : ∀ j v, bs[j]? = some v → V.cell? ⟨w.heap.size + 1, j, none⟩ = some v
  k : Blk 69 48 V g5 f
  b : Below w.heap.size w V
  z : V.heap[w.heap.size + 1 + 1]? = some (.cells z.toArray 69 (0, 0))
section
variable {w V : World} {bs z : List Value} {g5 : Nat} {f : Nat → Value}
theorem NS.put (h : NS w V bs z g5 f) (hg : w.heap.size + 1 + 1 < g5) {j : Nat} (hj : j < 48) (v : Value) : NS w (V.setCell ⟨g5, j, none⟩ v) bs z g5 (fun i => if i = j then v else f i) := by
  have ho : ∀ k, k ≠ g5 → (V.setCell ⟨g5, j, none⟩ v).heap[k]? = V.heap[k]? := fun k hk => Below.heap_setCell _ ⟨g5, j, none⟩ _ k hk
  exact ⟨fun i u hu => (World.cell?_of_block (a := ⟨w.heap.size + 1, i, none⟩) (ho (w.heap.size + 1) (by omega))).trans (h.s i u hu), h.k.put hj v, h.b.setCell (by show w.heap.size ≤ g5; omega) v, (ho _ (by omega)).trans h.z⟩
theorem NS.puts (h : NS w V bs z g5 f) (hg : w.heap.size + 1 + 1 < g5) {o : Nat} (vs : List Value) (hj : o + vs.length ≤ 48) : NS w (V.setCells g5 o vs) bs z g5 (fun i => if o ≤ i ∧ i < o + vs.length then vs.getD (i - o) undef else f i) := by
  have ho : ∀ k, k ≠ g5 → (V.setCells g5 o vs).heap[k]? = V.heap[k]? := fun k hk => setCells_other vs o V g5 k hk
  exact ⟨fun i u hu => (World.cell?_of_block (a := ⟨w.heap.size + 1, i, none⟩) (ho (w.heap.size + 1) (by omega))).trans (h.s i u hu), Blk.puts vs o V f h.k hj, below_setCells vs o w V w.heap.size g5 h.b (by omega), (ho _ (by omega)).trans h.z⟩
end
/-- the cells of a call's own note -/
def noteF (N : List Value) (b : Bg) (i : Nat) : Value :=
  if 13 ≤ i ∧ i < 13 + (cellsOf b.id).length then (cellsOf b.id).getD (i - 13) undef else if 3 ≤ i ∧ i < 3 + [Value.int .i64 b.cn, .int .i64 b.cb, .int .i64 b.cc].length then [Value.int .i64 b.cn, .int .i64 b.cb, .int .i64 b.cc].getD (i - 3) undef else if i = 2 then .int .i64 b.me else if i = 0 then .int .i64 8 else N.getD i undef
theorem ntF_made {w : World} {N : List Value} {q : Ac} {b : Bg} (h : NtF w N q.x) (hm : q.mine = true) (hl : b.id.length = 32) (hb : ∀ x ∈ b.id, x < 256) {cs : Array Value} (hs : cs.size = 48) (hc : ∀ i, i < 48 → cs[i]? = some (noteF N b i)) : NtF w cs.toList (noteQ q b) := by
  have hq : noteQ q b = ⟨8, q.x.frm, b.me, b.cn, b.cb, b.cc, q.x.yes, b.id, q.x.d⟩ := by unfold noteQ; rw [if_pos hm]
  rw [hq]
  have hcl : (cellsOf b.id).length = 32 := by rw [cellsOf_length, hl]
  have hNl := h.len
  obtain ⟨A, c, iA, il, ic, wA, wl, wc, hv, h46, h47, h1⟩ := h
  have ho : ∀ i, i < 48 → ¬ (13 ≤ i ∧ i < 45) → ¬ (3 ≤ i ∧ i < 6) → i ≠ 2 → i ≠ 0 → cs[i]? = N[i]? := fun i hi k1 k2 k3 k4 => by
    rw [hc i hi]
    unfold noteF
    rw [if_neg (by rw [hcl]; exact k1), if_neg (show ¬ (3 ≤ i ∧ i < 3 + [Value.int .i64 b.cn, .int .i64 b.cb, .int .i64 b.cc].length) from k2), if_neg k3, if_neg k4, List.getD_eq_getElem?_getD, List.getElem?_eq_getElem (show i < N.length by omega)]
    rfl
  have hcall : ∀ i, i < 3 → cs[3 + i]? = [Value.int .i64 b.cn, .int .i64 b.cb, .int .i64 b.cc][i]? := fun i hi => by
    rw [hc (3 + i) (by omega)]
    unfold noteF
    rw [if_neg (by omega), if_pos (show 3 ≤ 3 + i ∧ 3 + i < 3 + [Value.int .i64 b.cn, .int .i64 b.cb, .int .i64 b.cc].length from ⟨by omega, by show 3 + i < 3 + 3; omega⟩), show 3 + i - 3 = i by omega, List.getD_eq_getElem?_getD, List.getElem?_eq_getElem (show i < 3 from hi)]
    rfl
  have hid : ∀ j, j < 32 → cs[13 + j]? = (cellsOf b.id)[j]? := fun j hj => by
    rw [hc (13 + j) (by omega)]
    unfold noteF
    rw [if_pos (by rw [hcl]; omega), show 13 + j - 13 = j by omega, List.getD_eq_getElem?_getD, List.getElem?_eq_getElem (show j < (cellsOf b.id).length by omega)]
    rfl
  have ta : ∀ j : Nat, cs.toList.toArray[j]? = cs[j]? := fun j => by rw [Array.toArray_toList]
  have tl : ∀ j : Nat, cs.toList[j]? = cs[j]? := fun j => Array.getElem?_toList
  have tn : ∀ j : Nat, N.toArray[j]? = N[j]? := fun j => List.getElem?_toArray
  refine ⟨A, c, iA, il, ic, wA, wl, wc, ⟨by rw [Array.toArray_toList]; exact hs, ?_, ?_, ?_, ?_, ?_, ?_, ?_, hl, hb, fun j hj => ?_, ?_, hv.dat⟩, ?_, ?_, fun v hv => ?_⟩
  · rw [ta, hc 0 (by decide)]
    unfold noteF
    rw [if_neg (by omega), if_neg (by omega), if_neg (by omega), if_pos rfl]
  · rw [ta, ho 1 (by decide) (by omega) (by omega) (by omega) (by omega), ← tn]; exact hv.n1
  · rw [ta, hc 2 (by decide)]
    unfold noteF
    rw [if_neg (by omega), if_neg (by omega), if_pos rfl]
  · rw [ta]; exact hcall 0 (by decide)
  · rw [ta]; exact hcall 1 (by decide)
  · rw [ta]; exact hcall 2 (by decide)
  · rw [ta, ho 12 (by decide) (by omega) (by omega) (by omega) (by omega), ← tn]; exact hv.n12
  · rw [ta, hid j hj]
    unfold cellsOf
    rw [List.getElem?_map, List.getD_eq_getElem?_getD, List.getElem?_eq_getElem (show j < b.id.length by omega)]
    rfl
  · rw [ta, ho 45 (by decide) (by omega) (by omega) (by omega) (by omega), ← tn]; exact hv.n45
  · rw [tl, ho 46 (by decide) (by omega) (by omega) (by omega) (by omega)]; exact h46
  · rw [tl, ho 47 (by decide) (by omega) (by omega) (by omega) (by omega)]; exact h47
  · obtain ⟨j, hj, rfl⟩ := List.mem_iff_getElem.1 hv
    have hj2 : cs.toList[j]? = some cs.toList[j] := List.getElem?_eq_getElem hj
    rw [tl] at hj2
    have hj3 : j < 48 := by rw [Array.length_toList] at hj; omega
    by_cases k1 : 13 ≤ j ∧ j < 45
    · have := hid (j - 13) (by omega)
      rw [show 13 + (j - 13) = j by omega, hj2] at this
      exact cellsOf_one _ _ (List.mem_of_getElem? this.symm)
    · by_cases k2 : 3 ≤ j ∧ j < 6
      · have := hcall (j - 3) (by omega)
        rw [show 3 + (j - 3) = j by omega, hj2] at this
        have hm := List.mem_of_getElem? this.symm
        simp only [List.mem_cons, List.not_mem_nil, or_false] at hm
        rcases hm with e | e | e <;> rw [e] <;> rfl
      · by_cases k3 : j = 2
        · rw [hc j hj3] at hj2
          unfold noteF at hj2
          rw [if_neg (by rw [hcl]; exact k1), if_neg (show ¬ (3 ≤ j ∧ j < 3 + [Value.int .i64 b.cn, .int .i64 b.cb, .int .i64 b.cc].length) from k2), if_pos k3] at hj2
          injection hj2 with e; rw [← e]; rfl
        · by_cases k4 : j = 0
          · rw [hc j hj3] at hj2
            unfold noteF at hj2
            rw [if_neg (by rw [hcl]; exact k1), if_neg (show ¬ (3 ≤ j ∧ j < 3 + [Value.int .i64 b.cn, .int .i64 b.cb, .int .i64 b.cc].length) from k2), if_neg k3, if_pos k4] at hj2
            injection hj2 with e; rw [← e]; rfl
          · rw [ho j hj3 k1 k2 k3 k4] at hj2
            exact h1 _ (List.mem_of_getElem? hj2)
set_option maxHeartbeats 4000000 in
set_option maxRecDepth 100000 in
theorem note_any (q : Ac) (bA : Option Addr) (bc : Nat) (N : List Value) (b : Bg) (w : World) (h : NtF w N q.x) (hl : b.id.length = 32) (hb : ∀ x ∈ b.id, x < 256) :
    Calls Try.prog 49 #[.agg (acC q bA bc N).toArray, .agg b.cells.toArray] w fun e w' => ∃ N', e = .returned (.agg N'.toArray) ∧ NtF w' N' (noteQ q b) ∧ Below w.heap.size w w' := by
  have hz := zeroV69
  have hzl := nt_len 0 0 0 0 0 0 0 false (List.length_replicate (n := 32) (a := 0)) (.slice none 0 0)
  generalize nt 0 0 0 0 0 0 0 false (List.replicate 32 0) (.slice none 0 0) = z at hz hzl
  have HZL := Hf.mk hzl
  obtain ⟨g0, g1, g2, g3, g4⟩ := acC_get (q := q) (bA := bA) (bc := bc) h.len
  have HNL := Hf.mk h.len
  have HN := Hf.mk h
  obtain ⟨k33, k36, k37, k38, kid⟩ := bg_get hl
  generalize acC q bA bc N = ac at *
  generalize b.cells = bs at *
  have ha1 : (((w.alloc (.cells ac.toArray 85)).alloc (.cells bs.toArray 81)).alloc (.cells z.toArray 69)).heap[w.heap.size]? = some (.cells ac.toArray 85 (0, 0)) := (Below.heap_alloc _ _ _ (by simp; omega)).trans ((Below.heap_alloc _ _ _ (by simp)).trans (heap_alloc_new _ _))
  have ha2 : (((w.alloc (.cells ac.toArray 85)).alloc (.cells bs.toArray 81)).alloc (.cells z.toArray 69)).heap[w.heap.size + 1]? = some (.cells bs.toArray 81 (0, 0)) := (Below.heap_alloc _ _ _ (by simp)).trans (by have := heap_alloc_new (w.alloc (.cells ac.toArray 85)) (.cells bs.toArray 81); rwa [World.size_alloc] at this)
  have ha3 : (((w.alloc (.cells ac.toArray 85)).alloc (.cells bs.toArray 81)).alloc (.cells z.toArray 69)).heap[w.heap.size + 2]? = some (.cells z.toArray 69 (0, 0)) := by have := heap_alloc_new ((w.alloc (.cells ac.toArray 85)).alloc (.cells bs.toArray 81)) (.cells z.toArray 69); rwa [World.size_alloc, World.size_alloc] at this
  have hbw : Below w.heap.size w (((w.alloc (.cells ac.toArray 85)).alloc (.cells bs.toArray 81)).alloc (.cells z.toArray 69)) := (((Below.refl _ _).alloc (Nat.le_refl _) _).alloc (by simp) _).alloc (by simp; omega) _
  have hsz : (((w.alloc (.cells ac.toArray 85)).alloc (.cells bs.toArray 81)).alloc (.cells z.toArray 69)).heap.size = w.heap.size + 3 := by simp
  have HRN : Hf ((((w.alloc (.cells ac.toArray 85)).alloc (.cells bs.toArray 81)).alloc (.cells z.toArray 69)).rangeAt w.heap.size 3 N) := ⟨fun j v hv => by
    have hj : j < 48 := by have := (List.getElem?_eq_some_iff.1 hv).1; rw [HNL.out] at this; exact this
    rw [Go.Joins.cell_of_block ha1, List.getElem?_toArray, g3 j hj]; exact hv⟩
  have HZN : Hf ((Try.prog.info? 69).map (·.size) = some N.length) := ⟨by rw [HNL.out]; exact size69⟩
  have H1 := Hf.mk ha1
  have H2 := Hf.mk ha2
  have H3 := Hf.mk ha3
  have HBW := Hf.mk hbw
  have HSZ := Hf.mk hsz
  clear ha1 ha2 ha3 hbw hsz
  go_enter Try.func49, Try.ntmps49
  go_upto_region 1 with fail
  generalize ((w.alloc (.cells ac.toArray 85)).alloc (.cells bs.toArray 81)).alloc (.cells z.toArray 69) = W at *
  have HN1 : Hf (∀ v ∈ N, v.oneCell' = true) := ⟨by obtain ⟨_, _, _, _, _, _, _, _, _, _, _, h⟩ := h; exact h⟩
  clear h
  go_upto_region 2 with (first
    | (refine wpList_load_midW (by rfl) 69 (.tmp 6) (by rfl) w.heap.size 3 (by rfl) N _ HRN.out Try.underlying69 rfl HZN.out ?_)
    | (refine wpList_store_row rfl 69 (.tmp 5) (.tmp 7) rfl W.heap.size N.toArray rfl rfl 69 z.toArray (heap_alloc_new _ _) (size69.trans (by rw [List.size_toArray, HNL.out])) (by rw [List.size_toArray, List.size_toArray, HZL.out, HNL.out]) (all_oneCell_toArray HN1.out) ?_))
  generalize hw1 : World.setRow _ _ _ = W1
  dsimp only [Act.put]
  obtain ⟨g5, hg5⟩ : ∃ g, W.heap.size = g := ⟨_, rfl⟩
  have h5 : W1.heap[g5]? = some (.cells N.toArray 69 (0, 0)) := by rw [← hw1, hg5]; exact setRow_heap _ _ z.toArray N.toArray 69 (0, 0) (by rw [← hg5]; exact heap_alloc_new _ _)
  have ho : ∀ k, k < g5 → W1.heap[k]? = W.heap[k]? := fun k hk => by
    rw [← hw1]
    exact (setRow_other _ _ k _ (by omega)).trans (Below.heap_alloc _ _ _ (by omega))
  have hb1 : Below w.heap.size w W1 := by
    rw [← hw1]
    exact Below.setRow' (HBW.out.alloc HBW.out.size _) HBW.out.size _
  rw [hg5]
  have hg3 : g5 = w.heap.size + 3 := by rw [← hg5]; exact HSZ.out
  have h1 := (ho w.heap.size (by omega)).trans H1.out
  have h2 := (ho (w.heap.size + 1) (by omega)).trans H2.out
  have h3 := (ho (w.heap.size + 2) (by omega)).trans H3.out
  clear ho hw1 hg5 H1 H2 H3 HBW HSZ HRN
  have c51 := (Go.Joins.cell_of_block h1 51).trans ((List.getElem?_toArray).trans g4)
  have HB1 := Hf.mk hb1
  have H2 := Hf.mk h2
  have H3 := Hf.mk h3
  have H5 := Hf.mk h5
  have HG3 := Hf.mk hg3
  clear h1 h2 h3 h5 hb1 hg3 g0 g1 g2 g3 g4
  cases hm : q.mine with
  | false =>
    rw [hm] at c51
    have HQ : Hf (NtF w N (noteQ q b)) := ⟨by unfold noteQ; rw [if_neg (by rw [hm]; decide)]; exact HN.out⟩
    go_wp2_with (first
      | (refine wpList_load_row rfl 69 (.tmp 5) rfl g5 rfl 69 N.toArray (0, 0) _ H5.out Try.underlying69 rfl (size69.trans (by rw [List.size_toArray, HNL.out])) ?_)
      | (refine wpList_store_row rfl 69 _ _ rfl (w.heap.size + 1 + 1) N.toArray rfl rfl 69 z.toArray H3.out (size69.trans (by rw [List.size_toArray, HNL.out])) (by rw [List.size_toArray, List.size_toArray, HZL.out, HNL.out]) (all_oneCell_toArray HN1.out) ?_))
    refine bodyPost_ret (results_cell_row rfl _ _ (w.heap.size + 1 + 1) 69 N.toArray (0, 0) _ rfl (setRow_heap _ _ z.toArray N.toArray 69 (0, 0) H3.out) Try.underlying69 rfl (size69.trans (by rw [List.size_toArray, HNL.out]))) rfl ?_
    exact ⟨N, rfl, HQ.out.below (Below.setRow' HB1.out (by omega) _), Below.setRow' HB1.out (by omega) _⟩
  | true =>
    rw [hm] at c51
    go_upto_region 3 with fail
    have HN0 : Hf (NS w W1.drew bs z g5 (fun i => N.getD i undef)) := ⟨⟨fun j v hv => (Go.Joins.cell_of_block H2.out j).trans ((List.getElem?_toArray).trans hv), Blk.of (w := W1.drew) H5.out HNL.out, HB1.out.drew, H3.out⟩⟩
    have HGL : Hf (w.heap.size + 1 + 1 < g5) := ⟨by rw [HG3.out]; omega⟩
    clear c51 H2 H3 H5 HB1
    refine wp_region_held_drew (S := fun u => ∀ j v, bs[j]? = some v → u.cell? ⟨w.heap.size + 1, j, none⟩ = some v) (by kernel_rfl) HN0.out.s (fun hHeld => ?_)
    generalize W1.drew = V0 at *
    change wpAnyH _ _ _ _ _ 14 (Array.replicate 14 false) _ _
    refine wpAnyH_take (i := 0) rfl (by kernel_rfl) (by kernel_rfl) (by kernel_rfl) (fun _ _ _ h => h) (Or.inl ⟨by rfl, (by intro u hSw; go_simp; first | done | (with_reducible rfl))⟩) hHeld ?_
    (try simp only [List.getElem_toArray, List.getElem_cons_succ, List.getElem_cons_zero, Act.put, List.setIfInBounds_toArray, List.set_cons_zero, List.set_cons_succ])
    refine wpAnyH_take (i := 1) rfl (by kernel_rfl) (by kernel_rfl) (by kernel_rfl) (fun _ _ _ h => h) (Or.inl ⟨by rfl, (by intro u hSw; have s33 := hSw 33 _ k33; go_simp; first | done | (with_reducible rfl))⟩) hHeld ?_
    (try simp only [List.getElem_toArray, List.getElem_cons_succ, List.getElem_cons_zero, Act.put, List.setIfInBounds_toArray, List.set_cons_zero, List.set_cons_succ])
    refine wpAnyH_take (i := 2) rfl (by kernel_rfl) (by kernel_rfl) (by kernel_rfl) (fun _ _ _ h => h) (Or.inl ⟨by rfl, (by intro u hSw; go_simp; first | done | (with_reducible rfl))⟩) hHeld ?_
    (try simp only [List.getElem_toArray, List.getElem_cons_succ, List.getElem_cons_zero, Act.put, List.setIfInBounds_toArray, List.set_cons_zero, List.set_cons_succ])
    refine wpAnyH_take (i := 3) rfl (by kernel_rfl) (by kernel_rfl) (by kernel_rfl) (fun _ _ _ h => h) (Or.inl ⟨by rfl, (by intro u hSw; have s36 := hSw 36 _ k36; have s37 := hSw 37 _ k37; have s38 := hSw 38 _ k38; go_simp; first | done | (with_reducible rfl))⟩) hHeld ?_
    (try simp only [List.getElem_toArray, List.getElem_cons_succ, List.getElem_cons_zero, Act.put, List.setIfInBounds_toArray, List.set_cons_zero, List.set_cons_succ])
    refine wpAnyH_take (i := 4) rfl (by kernel_rfl) (by kernel_rfl) (by kernel_rfl) (fun _ _ _ h => h) (Or.inl ⟨by rfl, (by intro u hSw; go_simp; first | done | (with_reducible rfl))⟩) hHeld ?_
    (try simp only [List.getElem_toArray, List.getElem_cons_succ, List.getElem_cons_zero, Act.put, List.setIfInBounds_toArray, List.set_cons_zero, List.set_cons_succ])
    refine wpAnyH_take (i := 5) rfl (by kernel_rfl) (by kernel_rfl) (by kernel_rfl) (fun _ _ _ h => h) (yieldsIf_load_mid (by rfl) 23 (.tmp 14) (by rfl) (w.heap.size + 1) 1 (by rfl) (cellsOf b.id) _ (fun u hu j v hv => hu (1 + j) v (kid j v hv)) Try.underlying23 rfl (by rw [cellsOf_length, hl]; exact size23)) hHeld ?_
    (try simp only [List.getElem_toArray, List.getElem_cons_succ, List.getElem_cons_zero, Act.put, List.setIfInBounds_toArray, List.set_cons_zero, List.set_cons_succ])
    refine wpAnyH_take (i := 6) rfl (by kernel_rfl) (by kernel_rfl) (by kernel_rfl) (fun _ _ _ h => h) (Or.inl ⟨by rfl, (by intro u hSw; go_simp; first | done | (with_reducible rfl))⟩) hHeld ?_
    (try simp only [List.getElem_toArray, List.getElem_cons_succ, List.getElem_cons_zero, Act.put, List.setIfInBounds_toArray, List.set_cons_zero, List.set_cons_succ])
    refine wpAnyH_ready (rs := [7]) (by kernel_rfl) (by simp) ?_
    refine AllReadyH.cons rfl (fun K hK => ?_) AllReadyH.nil
    have q0 := HN0.out.k.cell (i := 0) (by decide)
    have f0 := HN0.out.k.free 0
    go_simp
    clear q0 f0 hHeld
    have HN1 := Hf.mk (HN0.out.put HGL.out (j := 0) (by decide) (.int .i64 8))
    generalize V0.setCell ⟨g5, 0, none⟩ (.int .i64 8) = V1 at *
    refine hK.out _ _ HN1.out.s (fun hHeld => ?_)
    clear hK K
    (try simp only [List.getElem_toArray, List.getElem_cons_succ, List.getElem_cons_zero, Act.put, List.setIfInBounds_toArray, List.set_cons_zero, List.set_cons_succ])
    refine wpAnyH_take (i := 8) rfl (by kernel_rfl) (by kernel_rfl) (by kernel_rfl) (fun _ _ _ h => h) (Or.inl ⟨by rfl, (by intro u hSw; go_simp; first | done | (with_reducible rfl))⟩) hHeld ?_
    (try simp only [List.getElem_toArray, List.getElem_cons_succ, List.getElem_cons_zero, Act.put, List.setIfInBounds_toArray, List.set_cons_zero, List.set_cons_succ])
    refine wpAnyH_ready (rs := [9]) (by kernel_rfl) (by simp) ?_
    refine AllReadyH.cons rfl (fun K hK => ?_) AllReadyH.nil
    have q0 := HN1.out.k.cell (i := 2) (by decide)
    have f0 := HN1.out.k.free 2
    go_simp
    clear q0 f0 hHeld
    have HN2 := Hf.mk (HN1.out.put HGL.out (j := 2) (by decide) (.int .i64 b.me))
    generalize V1.setCell ⟨g5, 2, none⟩ (.int .i64 b.me) = V2 at *
    refine hK.out _ _ HN2.out.s (fun hHeld => ?_)
    clear hK K
    (try simp only [List.getElem_toArray, List.getElem_cons_succ, List.getElem_cons_zero, Act.put, List.setIfInBounds_toArray, List.set_cons_zero, List.set_cons_succ])
    refine wpAnyH_take (i := 10) rfl (by kernel_rfl) (by kernel_rfl) (by kernel_rfl) (fun _ _ _ h => h) (Or.inl ⟨by rfl, (by intro u hSw; go_simp; first | done | (with_reducible rfl))⟩) hHeld ?_
    (try simp only [List.getElem_toArray, List.getElem_cons_succ, List.getElem_cons_zero, Act.put, List.setIfInBounds_toArray, List.set_cons_zero, List.set_cons_succ])
    refine wpAnyH_ready (rs := [11]) (by kernel_rfl) (by simp) ?_
    refine AllReadyH.cons rfl (fun K hK => ?_) AllReadyH.nil
    refine wp_store_mid 56 (.tmp 18) (.tmp 13) rfl g5 3 #[.int .i64 b.cn, .int .i64 b.cb, .int .i64 b.cc] rfl rfl (HN2.out.k.there (show 3 + 3 ≤ 48 by decide)) (by kernel_rfl) (all_oneCell_toArray (cs := [.int .i64 b.cn, .int .i64 b.cb, .int .i64 b.cc]) (by simp [Value.oneCell'])) ?_
    clear hHeld
    have HN3 := Hf.mk (HN2.out.puts HGL.out (o := 3) [.int .i64 b.cn, .int .i64 b.cb, .int .i64 b.cc] (show 3 + 3 ≤ 48 by decide))
    change K _ (V2.setCells g5 3 [.int .i64 b.cn, .int .i64 b.cb, .int .i64 b.cc])
    generalize V2.setCells g5 3 [.int .i64 b.cn, .int .i64 b.cb, .int .i64 b.cc] = V3 at *
    refine hK.out _ _ HN3.out.s (fun hHeld => ?_)
    clear hK K
    (try simp only [List.getElem_toArray, List.getElem_cons_succ, List.getElem_cons_zero, Act.put, List.setIfInBounds_toArray, List.set_cons_zero, List.set_cons_succ])
    refine wpAnyH_take (i := 12) rfl (by kernel_rfl) (by kernel_rfl) (by kernel_rfl) (fun _ _ _ h => h) (Or.inl ⟨by rfl, (by intro u hSw; go_simp; first | done | (with_reducible rfl))⟩) hHeld ?_
    (try simp only [List.getElem_toArray, List.getElem_cons_succ, List.getElem_cons_zero, Act.put, List.setIfInBounds_toArray, List.set_cons_zero, List.set_cons_succ])
    refine wpAnyH_ready (rs := [13]) (by kernel_rfl) (by simp) ?_
    refine AllReadyH.cons rfl (fun K hK => ?_) AllReadyH.nil
    refine wp_store_mid 23 (.tmp 19) (.tmp 15) rfl g5 13 (cellsOf b.id).toArray rfl rfl (HN3.out.k.there (by rw [List.size_toArray, cellsOf_length, hl]; decide)) (by rw [List.size_toArray, cellsOf_length, hl]; exact size23) (all_oneCell_toArray (cellsOf_one _)) ?_
    clear hHeld
    have HN4 := Hf.mk (HN3.out.puts HGL.out (o := 13) (cellsOf b.id) (by rw [cellsOf_length, hl]; decide))
    change K _ (V3.setCells g5 13 (cellsOf b.id))
    generalize V3.setCells g5 13 (cellsOf b.id) = V4 at *
    refine hK.out _ _ HN4.out.s (fun hHeld => ?_)
    clear hK K hHeld
    (try simp only [List.getElem_toArray, List.getElem_cons_succ, List.getElem_cons_zero, Act.put, List.setIfInBounds_toArray, List.set_cons_zero, List.set_cons_succ])
    refine wpAnyH_done (by kernel_rfl) ?_ _
    obtain ⟨cs, hc1, hc2, hc3⟩ := HN4.out.k
    have HC : Hf (NtF w cs.toList (noteQ q b)) := ⟨ntF_made HN.out hm hl hb hc2 hc3⟩
    have HC1 := Hf.mk hc1
    have HC2 := Hf.mk hc2
    clear hc1 hc2 hc3
    go_wp2_with (first
      | (refine wpList_load_row rfl 69 (.tmp 5) rfl g5 rfl 69 cs (0, 0) _ HC1.out Try.underlying69 rfl (size69.trans (by rw [HC2.out])) ?_)
      | (refine wpList_store_row rfl 69 _ _ rfl (w.heap.size + 1 + 1) cs rfl rfl 69 z.toArray HN4.out.z (size69.trans (by rw [HC2.out])) (by rw [List.size_toArray, HZL.out, HC2.out]) (by obtain ⟨_, _, _, _, _, _, _, _, _, _, _, h⟩ := HC.out; exact Array.all_eq_true_iff_forall_mem.2 fun v hv => h v (by simpa using hv)) ?_))
    refine bodyPost_ret (results_cell_row rfl _ _ (w.heap.size + 1 + 1) 69 cs (0, 0) _ rfl (setRow_heap _ _ z.toArray cs 69 (0, 0) HN4.out.z) Try.underlying69 rfl (size69.trans (by rw [HC2.out]))) rfl ?_
    exact ⟨cs.toList, by rw [Array.toArray_toList], HC.out.below (Below.setRow' HN4.out.b (by omega) _), Below.setRow' HN4.out.b (by omega) _⟩
end
section
open Go.RowKit

theorem set_lt {l : List Nat} {i x : Nat} (h : ∀ c ∈ l, c < 256) (hx : x < 256) : ∀ c ∈ l.set i x, c < 256 := fun c hc => by
  rcases List.mem_or_eq_of_mem_set hc with h1 | h1
  · exact h c h1
  · rw [h1]; exact hx
theorem ok_kn {R : Rdr} (ok : R.Ok) (i x : Nat) (hx : x < 256) : ({ R with kn := R.kn.set i x } : Rdr).Ok :=
  { idl := ok.idl, idb := ok.idb, knl := by show (R.kn.set i x).length = 64; rw [List.length_set]; exact ok.knl, knb := set_lt ok.knb hx, ordl := ok.ordl, homl := ok.homl, hom := ok.hom, me1 := ok.me1, cop := ok.cop, st4 := ok.st4, pat1 := ok.pat1, tk := ok.tk, run := ok.run, fin := ok.fin, bad := ok.bad, fine := ok.fine, dat := ok.dat, new := ok.new }
theorem ok_onR {R : Rdr} (ok : R.Ok) : R.onR.Ok := by
  unfold Rdr.onR
  split
  · exact ok_kn ok _ 1 (by decide)
  · exact ok
theorem ok_onNR {R : Rdr} (ok : R.Ok) : ∀ k, (Rdr.onNR k R).Ok
  | 0 => ok
  | k + 1 => ok_onR (ok_onNR ok k)
theorem ok_fails {R : Rdr} (ok : R.Ok) {x : Int} (hx : x ≠ 0) : (R.fails x).Ok :=
  { idl := ok.idl, idb := ok.idb, knl := ok.knl, knb := ok.knb, ordl := ok.ordl, homl := ok.homl, hom := ok.hom, me1 := ok.me1, cop := ok.cop, st4 := (by decide : (3 : Nat) < 4), pat1 := ok.pat1, tk := ok.tk,
    run := fun h => absurd (show (3 : Nat) = 1 from h) (by decide), fin := fun h => absurd (show (3 : Nat) = 2 from h) (by decide), bad := fun _ => hx, fine := fun h => absurd (show (3 : Nat) < 2 from h) (by decide), dat := ok.dat, new := fun h => absurd (show (3 : Nat) = 0 from h) (by decide) }
theorem ok_getsN {R : Rdr} {d : List Nat} (ok : R.Ok) (hs : R.st < 2) (hd : Sha.sum d = R.id) (hl : d.length ≤ 5000) : (R.gets d).Ok :=
  { ok with st4 := (by decide : (2 : Nat) < 4), run := fun h => absurd (show (2 : Nat) = 1 from h) (by decide), fin := fun _ => ⟨hd, ok.fine hs⟩, bad := fun h => absurd (show (2 : Nat) = 3 from h) (by decide), fine := fun h => absurd (show (2 : Nat) < 2 from h) (by decide), dat := Nat.le_trans hl (by decide), new := fun h => absurd (show (2 : Nat) = 0 from h) (by decide) }
theorem ok_asks {R : Rdr} (ok : R.Ok) (hs : R.st = 0) : ({ R with st := 1 } : Rdr).Ok :=
  { idl := ok.idl, idb := ok.idb, knl := ok.knl, knb := ok.knb, ordl := ok.ordl, homl := ok.homl, hom := ok.hom, me1 := ok.me1, cop := ok.cop, st4 := (by decide : (1 : Nat) < 4), pat1 := ok.pat1, tk := ok.tk,
    run := fun _ => ok.new hs, fin := fun h => absurd (show (1 : Nat) = 2 from h) (by decide), bad := fun h => absurd (show (1 : Nat) = 3 from h) (by decide), fine := fun _ => ok.fine (by omega), dat := ok.dat, new := fun h => absurd (show (1 : Nat) = 0 from h) (by decide) }
theorem ok_startR {R : Rdr} (ok : R.Ok) {d : List Nat} {has : Bool} (hl : d.length ≤ 5000) : (R.startR d has).Ok := by
  unfold Rdr.startR
  split
  · exact ok
  · rename_i h0
    have h0 : R.st = 0 := by omega
    split
    · rename_i h; exact ok_getsN ok (by omega) h.2 hl
    · split
      · exact ok_fails (ok_onNR (ok_asks ok h0) _) (by decide)
      · exact ok_onNR (ok_asks ok h0) _
theorem ok_takeR {R : Rdr} (ok : R.Ok) {m : Bool} {frm : Int} {yes : Bool} {d : List Nat} (hm : m = true → R.st = 1) (hl : d.length ≤ 5000) : (R.takeR m frm yes d).Ok := by
  unfold Rdr.takeR
  split
  · exact ok
  · rename_i h0
    have hs : R.st = 1 := hm (by simpa using h0)
    split
    · exact ok
    · split
      · exact ok
      · split
        · rename_i h; exact ok_getsN ok (by omega) h.2 hl
        · have k : ((R.lackR (placeI R.ord frm).toNat).onR).Ok := ok_onR (ok_kn ok _ 2 (by decide))
          split
          · exact ok_fails k (by decide)
          · exact k
theorem ok_ticked {R : Rdr} (ok : R.Ok) (hs : R.st = 1) (h : ¬ R.all + 1 ≥ R.pat) (t : Int) (ht : 0 ≤ t ∧ t ≤ R.all + 1) : ({ R with ticks := t, all := R.all + 1 } : Rdr).Ok := by
  have hp := ok.pat1
  exact { idl := ok.idl, idb := ok.idb, knl := ok.knl, knb := ok.knb, ordl := ok.ordl, homl := ok.homl, hom := ok.hom, me1 := ok.me1, cop := ok.cop, st4 := ok.st4, pat1 := ok.pat1, tk := ⟨ht.1, ht.2, by show R.all + 1 ≤ 2147483648; omega⟩,
          run := fun _ => by show R.all + 1 < R.pat; omega, fin := ok.fin, bad := ok.bad, fine := ok.fine, dat := ok.dat, new := fun h => absurd (show R.st = 0 from h) (by omega) }
theorem ok_tickR {R : Rdr} (ok : R.Ok) : R.tickR.Ok := by
  have ht := ok.tk
  unfold Rdr.tickR
  split
  · exact ok
  · rename_i h0
    have hs : R.st = 1 := by omega
    split
    · have hr := ok.run hs
      have hp := ok.pat1
      exact { idl := ok.idl, idb := ok.idb, knl := ok.knl, knb := ok.knb, ordl := ok.ordl, homl := ok.homl, hom := ok.hom, me1 := ok.me1, cop := ok.cop, st4 := (by decide : (3 : Nat) < 4), pat1 := ok.pat1, tk := ⟨by show 0 ≤ R.ticks + 1; omega, by show R.ticks + 1 ≤ R.all + 1; omega, by show R.all + 1 ≤ 2147483648; omega⟩,
              run := fun h => absurd (show (3 : Nat) = 1 from h) (by decide), fin := fun h => absurd (show (3 : Nat) = 2 from h) (by decide), bad := fun _ => (by decide : (13 : Int) ≠ 0), fine := fun h => absurd (show (3 : Nat) < 2 from h) (by decide), dat := ok.dat, new := fun h => absurd (show (3 : Nat) = 0 from h) (by decide) }
    · rename_i h1
      split
      · exact ok_ticked ok hs h1 (R.ticks + 1) ⟨by omega, by omega⟩
      · exact ok_onR (ok_ticked ok hs h1 0 ⟨by omega, by omega⟩)
/-- one that is over stays so -/
theorem over_start {R : Rdr} (h : R.st ≠ 0) (d : List Nat) (has : Bool) : R.startO d has = [] ∧ R.startR d has = R := by
  unfold Rdr.startO Rdr.startR
  rw [if_pos h, if_pos h]
  exact ⟨rfl, rfl⟩
theorem over_tick {R : Rdr} (h : R.st ≠ 1) : R.tickO = [] ∧ R.tickR = R := by
  unfold Rdr.tickO Rdr.tickR
  rw [if_pos h, if_pos h]
  exact ⟨rfl, rfl⟩
theorem over_take {R : Rdr} (frm : Int) (yes : Bool) (d : List Nat) : R.takeO false frm yes d = [] ∧ R.takeR false frm yes d = R := by
  unfold Rdr.takeO Rdr.takeR
  rw [if_pos rfl, if_pos rfl]
  exact ⟨rfl, rfl⟩
theorem mine_st {R : Rdr} {kind frm who cn cb cc : Int} {id : List Nat} (h : R.mineB kind frm who cn cb cc id = true) : R.st = 1 := by
  unfold Rdr.mineB at h
  simp only [Bool.and_eq_true, beq_iff_eq] at h
  exact h.1.1.1.1.1.1
theorem onR_pat (R : Rdr) : R.onR.pat = R.pat ∧ R.onR.all = R.all ∧ R.onR.st = R.st := by unfold Rdr.onR; split <;> exact ⟨rfl, rfl, rfl⟩
/-- a tick more, or over -/
theorem tick_more {R : Rdr} {j : Int} (ok : R.Ok) (hs : R.st ≠ 0) (h : 2 ≤ R.st ∨ j ≤ R.all) : R.tickR.st ≠ 0 ∧ R.tickR.pat = R.pat ∧ (2 ≤ R.tickR.st ∨ (j + 1 ≤ R.tickR.all ∧ R.tickR.all < R.pat)) := by
  unfold Rdr.tickR
  split
  · rename_i h1
    have := ok.st4
    exact ⟨hs, rfl, .inl (by omega)⟩
  · rename_i h1
    have h1 : R.st = 1 := by omega
    have h : j ≤ R.all := by omega
    split
    · exact ⟨(by decide : (3 : Nat) ≠ 0), rfl, .inl (by decide : (2 : Nat) ≤ 3)⟩
    · split
      · exact ⟨hs, rfl, .inr ⟨by show j + 1 ≤ R.all + 1; omega, by show R.all + 1 < R.pat; omega⟩⟩
      · have k := onR_pat ({ R.ticked with ticks := 0 } : Rdr)
        refine ⟨by rw [k.2.2]; exact hs, k.1, .inr ⟨?_, ?_⟩⟩
        · rw [k.2.1]; show j + 1 ≤ R.all + 1; omega
        · rw [k.2.1]; show R.all + 1 < R.pat; omega
end
section
open Go.RowKit

/-- what a call leaves -/
def Left (w0 : World) (p : Nat) (a1 : Option Addr) (c1 : Nat) (a2 : Option Addr) (c2 : Nat) (R' : Rdr) (w' : World) : Prop := (∃ b3 d3, RAt w' p R' a1 c1 a2 c2 b3 d3) ∧ w0.grownBy w' (some p)
def SentN (w0 : World) (p : Nat) (a1 : Option Addr) (c1 : Nat) (a2 : Option Addr) (c2 : Nat) (R' : Rdr) (n : Nat) (e : Ending) (w' : World) : Prop := ∃ A c, e = .returned (.slice A n c) ∧ Left w0 p a1 c1 a2 c2 R' w'
def BegunN (w0 : World) (p : Nat) (a1 : Option Addr) (c1 : Nat) (a2 : Option Addr) (c2 : Nat) (R' : Rdr) (n : Nat) (e : Ending) (w' : World) : Prop := ∃ A c er, e = .returned (.tuple #[.slice A n c, .int .i64 er]) ∧ Left w0 p a1 c1 a2 c2 R' w'
section
variable {w w' : World} {p : Nat} {R : Rdr} {a1 a2 a3 : Option Addr} {c1 c2 c3 : Nat}
theorem start_rr (h : RAt w p R a1 c1 a2 c2 a3 c3) (ok : R.Ok) (A : Option Addr) (c : Nat) (l : List Nat) (has : Bool) (hg : Given w A c l) (hl : l.length ≤ 5000) :
    Calls Try.prog 39 #[.pointer (some ⟨p, 0, none⟩), .slice A l.length c, .bool has] w (BegunN w p a1 c1 a2 c2 (R.startR l has) (R.startO l has).length) := by
  by_cases hs : R.st = 0
  · refine (start_any h ok hs A c l has hg hl).mono fun e w' hh => ?_
    obtain ⟨v, rfl, hn, hr, hgr⟩ := hh
    obtain ⟨B, d, rfl, _⟩ := hn.form
    exact ⟨B, d, 0, rfl, hr, hgr⟩
  · obtain ⟨e1, e2⟩ := over_start hs l has
    rw [e1, e2]
    refine (start_not h ok.me1 hs ok.st4 A l.length c has).mono fun e w' hh => ?_
    obtain ⟨v, rfl, hn, hr, hgr⟩ := hh
    obtain ⟨B, d, rfl, _⟩ := hn.form
    exact ⟨B, d, 9, rfl, hr, hgr⟩
theorem tick_rr (h : RAt w p R a1 c1 a2 c2 a3 c3) (ok : R.Ok) : Calls Try.prog 46 #[.pointer (some ⟨p, 0, none⟩)] w (SentN w p a1 c1 a2 c2 R.tickR R.tickO.length) := by
  have hc : Calls Try.prog 46 #[.pointer (some ⟨p, 0, none⟩)] w (SendsAt w p R a1 c1 a2 c2 R.tickR R.tickO) := by
    by_cases hs : R.st = 1
    · exact tick_runs h ok hs
    · exact tick_idle h ok.me1 hs ok.st4
  refine hc.mono fun e w' hh => ?_
  obtain ⟨v, rfl, hn, hr, hgr⟩ := hh
  obtain ⟨B, d, rfl, _⟩ := hn.form
  exact ⟨B, d, rfl, hr, hgr⟩
theorem take_rr (h : RAt w p R a1 c1 a2 c2 a3 c3) (ok : R.Ok) {N : List Value} {q : Nt} (hv : NtF w N q) (hdl : q.d.length ≤ 5000) :
    Calls Try.prog 41 #[.pointer (some ⟨p, 0, none⟩), .agg N.toArray] w (SentN w p a1 c1 a2 c2 (R.takeR (R.mineB q.kind q.frm q.who q.cn q.cb q.cc q.id) q.frm q.yes q.d) (R.takeO (R.mineB q.kind q.frm q.who q.cn q.cb q.cc q.id) q.frm q.yes q.d).length) := by
  obtain ⟨A, c, iA, il, ic, wA, wl, wc, hv, _⟩ := hv
  refine (take_any h ok hv hdl).mono fun e w' hh => ?_
  obtain ⟨v, rfl, hn, hr, hgr⟩ := hh
  obtain ⟨B, d, rfl, _⟩ := hn.form
  exact ⟨B, d, rfl, hr, hgr⟩
set_option maxHeartbeats 1000000 in
/-- Done, with where the bytes lie -/
theorem rdone_rr (h : RAt w p R a1 c1 a2 c2 a3 c3) (hm : 1 ≤ R.me) (hd : R.data.length ≤ 1000000) (hs : R.st < 4) :
    Calls Try.prog 42 #[.pointer (some ⟨p, 0, none⟩)] w fun e w' => ∃ A c, e = .returned (.tuple #[.slice A R.doneB.length c, .bool (R.st == 2)]) ∧ Given w' A c R.doneB ∧ AtT w' A 5 ∧ Below w.heap.size w w' := by
  have HN := Hf.mk (none_any p R.me w h.cme hm)
  have q := h.cst
  have q2 := h.cdat
  have HC := Hf.mk (clone_any a3 c3 R.data w h.dat hd)
  clear h
  by_cases h2 : R.st = 2
  · have HD : Hf (R.doneB = R.data) := ⟨by unfold Rdr.doneB; rw [if_pos h2]⟩
    rw [h2] at q
    have HS : Hf ((R.st == 2) = true) := ⟨beq_iff_eq.2 h2⟩
    clear h2 hs
    go_enter Try.func42, Try.ntmps42
    go_wp2_with (first
      | (go_at_call 81; (with_reducible refine HN.out.mono ?_); rintro e w' ⟨rfl, hw⟩; have hw := hw.symm; subst hw)
      | (go_at_call 75; (with_reducible refine HC.out.mono ?_); rintro e w1 ⟨b3, d3, rfl, hg1, ht1, _, hb1⟩; have HG1 := Hf.mk hg1; have HT1 := Hf.mk ht1; have HB1 := Hf.mk hb1; clear hg1 ht1 hb1))
    go_ret2
    exact ⟨b3, d3, by rw [HD.out, HS.out]; rfl, by rw [HD.out]; exact HG1.out, HT1.out, HB1.out⟩
  · have HD : Hf (R.doneB = []) := ⟨by unfold Rdr.doneB; rw [if_neg h2]⟩
    have HS : Hf ((R.st == 2) = false) := ⟨beq_eq_false_iff_ne.2 h2⟩
    have hb : ((R.st : Int) == 2) = false := beq_eq_false_iff_ne.2 (by omega)
    have hb' : ((R.st : Int) != 2) = true := by rw [bne, hb]; rfl
    clear h2 hs
    go_enter Try.func42, Try.ntmps42
    go_wp2_with (first
      | (go_at_call 81; (with_reducible refine HN.out.mono ?_); rintro e w' ⟨rfl, hw⟩; have hw := hw.symm; subst hw))
    go_ret2
    exact ⟨none, 0, by rw [HD.out, HS.out]; rfl, by rw [HD.out]; exact given_nil _, AtT.nil _ _, Below.refl _ _⟩
end
/-! what is kept beside Ok -/
/-- a read of one kind, its bytes few -/
structure Rof (R R' : Rdr) : Prop where
  ok : R'.Ok
  dat : R'.data.length ≤ 5000
  id : R'.id = R.id
  pat : R'.pat = R.pat
theorem Rof.refl {R : Rdr} (ok : R.Ok) (hd : R.data.length ≤ 5000) : Rof R R := ⟨ok, hd, rfl, rfl⟩
theorem onNR_pat (R : Rdr) : ∀ k, (Rdr.onNR k R).pat = R.pat ∧ (Rdr.onNR k R).all = R.all ∧ (Rdr.onNR k R).st = R.st
  | 0 => ⟨rfl, rfl, rfl⟩
  | k + 1 => by
    have h := onNR_pat R k
    have h2 := onR_pat (Rdr.onNR k R)
    exact ⟨h2.1.trans h.1, h2.2.1.trans h.2.1, h2.2.2.trans h.2.2⟩
theorem rof_start {R : Rdr} (ok : R.Ok) (hd : R.data.length ≤ 5000) {l : List Nat} {has : Bool} (hl : l.length ≤ 5000) : Rof R (R.startR l has) := by
  refine ⟨ok_startR ok hl, ?_, ?_, ?_⟩ <;> unfold Rdr.startR
  · split
    · exact hd
    · split
      · exact hl
      · have := onNR_data ({ R with st := 1 } : Rdr) R.copies.toNat
        split
        · show (Rdr.onNR R.copies.toNat { R with st := 1 }).data.length ≤ 5000; rw [this]; exact hd
        · rw [this]; exact hd
  · split
    · rfl
    · split
      · rfl
      · have := (Kin.onNR ({ R with st := 1 } : Rdr) R.copies.toNat).id
        split
        · exact this
        · exact this
  · split
    · rfl
    · split
      · rfl
      · have := (onNR_pat ({ R with st := 1 } : Rdr) R.copies.toNat).1
        split
        · exact this
        · exact this
theorem rof_take {R : Rdr} (ok : R.Ok) (hd : R.data.length ≤ 5000) {m : Bool} {frm : Int} {yes : Bool} {d : List Nat} (hm : m = true → R.st = 1) (hl : d.length ≤ 5000) : Rof R (R.takeR m frm yes d) := by
  refine ⟨ok_takeR ok hm hl, ?_, ?_, ?_⟩ <;> unfold Rdr.takeR
  · repeat' split
    · exact hd
    · exact hd
    · exact hd
    · exact hl
    · show (((R.lackR _).onR).data).length ≤ 5000
      rw [onR_data]; exact hd
    · rw [onR_data]; exact hd
  · repeat' split
    · rfl
    · rfl
    · rfl
    · rfl
    · exact (Kin.onR _).id
    · exact (Kin.onR _).id
  · repeat' split
    · rfl
    · rfl
    · rfl
    · rfl
    · exact (onR_pat _).1
    · exact (onR_pat _).1
theorem rof_tick {R : Rdr} (ok : R.Ok) (hd : R.data.length ≤ 5000) : Rof R R.tickR := by
  refine ⟨ok_tickR ok, ?_, ?_, ?_⟩ <;> unfold Rdr.tickR
  · repeat' split
    · exact hd
    · exact hd
    · exact hd
    · rw [onR_data]; exact hd
  · repeat' split
    · rfl
    · rfl
    · rfl
    · exact (Kin.onR _).id
  · repeat' split
    · rfl
    · rfl
    · rfl
    · exact (onR_pat _).1
theorem startR_st {R : Rdr} (l : List Nat) (has : Bool) : (R.startR l has).st ≠ 0 ∧ (R.startR l has).all = R.all := by
  unfold Rdr.startR
  split
  · rename_i h; exact ⟨h, rfl⟩
  · split
    · exact ⟨(by decide : (2 : Nat) ≠ 0), rfl⟩
    · have h := onNR_pat ({ R with st := 1 } : Rdr) R.copies.toNat
      split
      · exact ⟨(by decide : (3 : Nat) ≠ 0), h.2.1⟩
      · exact ⟨by rw [h.2.2]; exact (by decide : (1 : Nat) ≠ 0), h.2.1⟩
/-- is it over? -/
def Rdr.over (R : Rdr) : Bool := decide (2 ≤ R.st)
/-- how far time is -/
def Far (L i : Nat) (R : Rdr) : Prop := i ≤ L ∨ (R.st ≠ 0 ∧ (2 ≤ R.st ∨ (i : Int) - L - 1 ≤ R.all))
theorem far_end {L i : Nat} {R : Rdr} (ok : R.Ok) (h : Far L i R) (hi : L < i) (hp : R.pat ≤ (i : Int) - L - 1) : R.over = true := by
  unfold Rdr.over
  rcases h with h | ⟨h0, h | h⟩
  · omega
  · exact decide_eq_true h
  · have h4 := ok.st4
    by_cases h1 : R.st = 1
    · have := ok.run h1; omega
    · exact decide_eq_true (by omega)
/-- what a step does to a read: it sends nothing where it was over -/
structure Stp (L i : Nat) (R R' : Rdr) (n : Nat) : Prop where
  rof : Rof R R'
  far : Far L (i + 1) R'
  over : R.over = true → R' = R ∧ n = 0
theorem stp_none {L i : Nat} {R : Rdr} (ok : R.Ok) (hd : R.data.length ≤ 5000) (hi : i < L) : Stp L i R R 0 := ⟨Rof.refl ok hd, .inl hi, fun _ => ⟨rfl, rfl⟩⟩
theorem over_st {R : Rdr} (h : R.over = true) : 2 ≤ R.st := of_decide_eq_true h
theorem stp_start {L i : Nat} {R : Rdr} (ok : R.Ok) (hd : R.data.length ≤ 5000) (hi : i ≤ L) (l : List Nat) (has : Bool) (hl : l.length ≤ 5000) : Stp L i R (R.startR l has) (R.startO l has).length := by
  refine ⟨rof_start ok hd hl, ?_, fun h => ?_⟩
  · by_cases e : i = L
    · subst e
      obtain ⟨h1, h2⟩ := startR_st (R := R) l has
      refine .inr ⟨h1, .inr ?_⟩
      rw [h2]
      have := ok.tk
      omega
    · exact .inl (by omega)
  · have := over_st h
    obtain ⟨h1, h2⟩ := over_start (R := R) (by omega) l has
    rw [h1, h2]; exact ⟨rfl, rfl⟩
theorem stp_take {L i : Nat} {R : Rdr} (ok : R.Ok) (hd : R.data.length ≤ 5000) (hi : i < L) (q : Nt) (hl : q.d.length ≤ 5000) : Stp L i R (R.takeR (R.mineB q.kind q.frm q.who q.cn q.cb q.cc q.id) q.frm q.yes q.d) (R.takeO (R.mineB q.kind q.frm q.who q.cn q.cb q.cc q.id) q.frm q.yes q.d).length := by
  refine ⟨rof_take ok hd (fun h => mine_st h) hl, .inl hi, fun h => ?_⟩
  have h2 := over_st h
  have hm : R.mineB q.kind q.frm q.who q.cn q.cb q.cc q.id = false := by
    cases hx : R.mineB q.kind q.frm q.who q.cn q.cb q.cc q.id with
    | false => rfl
    | true => have := mine_st hx; omega
  obtain ⟨h3, h4⟩ := over_take (R := R) q.frm q.yes q.d
  rw [hm, h3, h4]; exact ⟨rfl, rfl⟩
theorem stp_tick {L i : Nat} {R : Rdr} (ok : R.Ok) (hd : R.data.length ≤ 5000) (hf : Far L i R) (hi : i ≠ L) : Stp L i R R.tickR R.tickO.length := by
  refine ⟨rof_tick ok hd, ?_, fun h => ?_⟩
  · rcases hf with h | ⟨h0, h⟩
    · exact .inl (by omega)
    · by_cases hL : i < L
      · exact .inl hL
      · obtain ⟨k1, _, k3⟩ := tick_more ok h0 h
        refine .inr ⟨k1, ?_⟩
        rcases k3 with k3 | k3
        · exact .inl k3
        · exact .inr (by omega)
  · have := over_st h
    obtain ⟨h1, h2⟩ := over_tick (R := R) (by omega)
    rw [h1, h2]; exact ⟨rfl, rfl⟩
/-- what is told of a read's end -/
theorem over_err {R : Rdr} (ok : R.Ok) : ((R.st == 2) || (R.err != 0)) = R.over := by
  unfold Rdr.over
  have h4 := ok.st4
  by_cases h2 : R.st = 2
  · rw [beq_iff_eq.2 h2, decide_eq_true (by omega), Bool.true_or]
  · rw [beq_eq_false_iff_ne.2 h2, Bool.false_or]
    by_cases h3 : R.st = 3
    · rw [decide_eq_true (by omega), bne_iff_ne]; exact ok.bad h3
    · rw [decide_eq_false (by omega), ok.fine (by omega)]; rfl
theorem doneB_sum {R : Rdr} (ok : R.Ok) (h : R.st = 2) : Sha.sum R.doneB = R.id ∧ R.err = 0 := by
  unfold Rdr.doneB
  rw [if_pos h]
  exact ok.fin h
theorem doneB_len {R : Rdr} (hd : R.data.length ≤ 5000) : R.doneB.length ≤ 5000 := by
  unfold Rdr.doneB
  split
  · exact hd
  · simp
end
end Go.Proofs.Ytaaepadhapfkoaa
